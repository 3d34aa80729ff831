import Derived.WalkKit
import Derived.Below
import Derived.Laws.Rows
import Derived.Laws.CopyRow
import Derived.Laws.AppendOwn
import Derived.RangeFuncLeaves
import Derived.RangeFuncSeq
import Derived.RangeFuncCalls
import Derived.MapKept
import Derived.Orders
import Derived.Laws.IdiomStrings
import Derived.Laws.BytesArg
import Derived.Shelf.SlIter.Nil
import Derived.RangeFuncBound
import Derived.Maps.RangeRun
import Derived.DeepKeys3
import Derived.Laws.StructEq
import Derived.Shelf.SlSortCmp.NoneTotal
import Derived.ChangeKeysEq
import Derived.Laws.MakeOwn
import Derived.ChangeArms
import Derived.ChangeOld
import Derived.Laws.DeepStrings4
import Derived.OpenShut
import Derived.Test.YtljgdbgcleibjaaProg
import Derived.KernelRfl
import Derived.OrdersIn
import Derived.Lib.AppendZeros
import Derived.Lib.AppendZerosOnto
import Derived.Lib.Overlaps
import Derived.Deep.AppendSrc
import Derived.Shelf.SlGeneric
import Derived.Ground.SlsfProg
import Derived.Scope
import Derived.Test.YtljgdbgcleibjaaM4
namespace Go.Proofs.Ytljgdbgcleibjaa.A
open Go Go.RowKit
set_option linter.unusedVariables false
set_option linter.unusedSimpArgs false
set_option maxRecDepth 100000
theorem TF.pl75 : placesT Try.prog 75 = some [(0, 1), (1, 1)] := by kernel_rfl
theorem TF.zero75 : ZeroT Try.prog 75 [.v (.pointer none), .v (.int .i64 0)] := ⟨[(.pointer none), (.int .i64 0)], by kernel_rfl, (LeCells.refl _)⟩
theorem TF.un24 : Try.prog.underlying 24 = some (.pointer 75) := by kernel_rfl
theorem TF.f75_0 : fieldT Try.prog 75 0 = some (0, 36) := by kernel_rfl
theorem TF.f75_1 : fieldT Try.prog 75 1 = some (1, 3) := by kernel_rfl
theorem TF.en18 : entersT Try.prog 18 := enters_of Try.func18 (by kernel_rfl) (by kernel_rfl)
theorem TF.en42 : entersT Try.prog 42 := enters_of Try.func42 (by kernel_rfl) (by kernel_rfl)
theorem TF.en41 : entersT Try.prog 41 := enters_of Try.func41 (by kernel_rfl) (by kernel_rfl)
theorem TF.en24 : entersT Try.prog 24 := enters_of Try.func24 (by kernel_rfl) (by kernel_rfl)
theorem TF.en22 : entersT Try.prog 22 := enters_of Try.func22 (by kernel_rfl) (by kernel_rfl)
theorem find_nil (k : Sp) : AC Try.prog 43 [nilP, spA k] [] (fun r n => n = [] ∧ r = .tup [.v (.int .i64 0), boolA false]) := by
 refine ac_of_awpG (Res2K Try.prog (.cell 4 3) (.cell 5 4)) (nt := 55) Try.func43 rfl rfl rfl (resK2_run rfl) (fun w0 C0 hq => ?_)
 unfold nilP
 refine awp_seq ?_
 refine awp_region ?_
 refine r_box rfl rfl rfl (fun b3 => ?_)
 refine r_alloc TF.zero3 rfl (fun b4 => ?_)
 refine r_alloc TF.zero4 rfl (fun b5 => ?_)
 refine awl_nil ?_
 refine x_then ?_
 refine awp_seq ?_
 refine awp_seq ?_
 refine awp_region ?_
 refine r_move rfl rfl ?_
 refine r_pnil rfl (by first | exact .pt _ _ | exact .nil | exact .v _ | exact .cp _) TF.un36 rfl ?_
 refine awl_nil ?_
 refine x_then ?_
 refine awp_cond rfl (fun hc0 => ?_) (fun hc0 => ?_)
 ·
  skip
  refine awp_seq ?_
  refine awp_region ?_
  refine r_store 1 rfl rfl rfl TF.sz3 rfl rfl rfl ?_
  refine r_store 0 rfl rfl rfl TF.sz4 rfl rfl rfl ?_
  refine awl_nil ?_
  refine x_then ?_
  refine awp_ret ?_
  refine x_thenR ?_
  exact ⟨(.inl rfl), _, [], ⟨_, _, (by first | exact .one 0 rfl rfl TF.agg3 | exact .one 1 rfl rfl TF.agg3 | exact .one 2 rfl rfl TF.agg3 | exact .one 3 rfl rfl TF.agg3 | exact .one 4 rfl rfl TF.agg3 | exact .one 5 rfl rfl TF.agg3), (by first | exact .one 0 rfl rfl TF.agg4 | exact .one 1 rfl rfl TF.agg4 | exact .one 2 rfl rfl TF.agg4 | exact .one 3 rfl rfl TF.agg4 | exact .one 4 rfl rfl TF.agg4 | exact .one 5 rfl rfl TF.agg4), rfl⟩, ⟨rfl, rfl⟩, (List.nil_sublist _), (by simp)⟩
 ·
  exfalso; cases hc0
theorem New_ok : AC Try.prog 13 [] [] (fun r n => n = [] ∧ r = encT (some (none, 0))) := by
 refine ac_of_awp (rs := [0]) (nt := 3) Try.func13 rfl rfl rfl rfl (fun w0 C0 hq => ?_)
 refine awp_seq ?_
 refine awp_region ?_
 refine r_assign rfl rfl ?_
 refine awl_nil ?_
 refine x_then ?_
 refine awp_seq ?_
 refine awp_region ?_
 refine r_build (parts := []) rfl TF.pl75 TF.zero75 rfl rfl rfl ?_
 refine r_box rfl rfl rfl (fun b2 => ?_)
 refine awl_imp (imp_commit 0 2 rfl rfl rfl rfl) ?_
 refine r_assign rfl rfl ?_
 refine awl_nil ?_
 refine x_then ?_
 refine awp_ret ?_
 exact ⟨(.inl rfl), _, [], (.one (by first | exact .mk rfl rfl | exact .nil rfl)), ⟨rfl, rfl⟩, (List.nil_sublist _), (by simp)⟩
theorem Root_nil : AC Try.prog 18 [nilP] [] (fun r n => n = [] ∧ r = nilP) := by
 refine ac_of_awp (rs := [2]) (nt := 9) Try.func18 rfl rfl rfl rfl (fun w0 C0 hq => ?_)
 unfold nilP
 refine awp_seq ?_
 refine awp_region ?_
 refine r_assign rfl rfl ?_
 refine awl_nil ?_
 refine x_then ?_
 refine awp_seq ?_
 refine awp_seq ?_
 refine awp_region ?_
 refine r_move rfl rfl ?_
 refine r_pnil rfl (by first | exact .pt _ _ | exact .nil | exact .v _ | exact .cp _) TF.un24 rfl ?_
 refine awl_nil ?_
 refine x_then ?_
 refine awp_cond rfl (fun hc0 => ?_) (fun hc0 => ?_)
 ·
  skip
  refine awp_seq ?_
  refine awp_region ?_
  refine r_assign rfl rfl ?_
  refine awl_nil ?_
  refine x_then ?_
  refine awp_ret ?_
  refine x_thenR ?_
  exact ⟨(.inl rfl), _, [], (.one (by first | exact .mk rfl rfl | exact .nil rfl)), ⟨rfl, rfl⟩, (List.nil_sublist _), (by simp)⟩
 ·
  exfalso; cases hc0
theorem Root_some (r : Rt) (n : Int) : AC Try.prog 18 [.cp [encR r, .v (.int .i64 (n))]] [] (fun r' nb => nb = [] ∧ r' = encR r) := by
 refine ac_of_awp (rs := [2]) (nt := 9) Try.func18 rfl rfl rfl rfl (fun w0 C0 hq => ?_)
 refine awp_seq ?_
 refine awp_region ?_
 refine r_assign rfl rfl ?_
 refine awl_nil ?_
 refine x_then ?_
 refine awp_seq ?_
 refine awp_seq ?_
 refine awp_region ?_
 refine r_move rfl rfl ?_
 refine r_pnil rfl (by first | exact .pt _ _ | exact .nil | exact .v _ | exact .cp _) TF.un24 rfl ?_
 refine awl_nil ?_
 refine x_then ?_
 refine awp_cond rfl (fun hc0 => ?_) (fun hc0 => ?_)
 ·
  exfalso; cases hc0
 ·
  refine awp_skip ?_
  refine x_then ?_
  refine awp_seq ?_
  refine awp_region ?_
  refine r_move rfl rfl ?_
  refine r_nilCheck rfl (by first | exact .pt _ _ | exact .v _ | exact .cp _) rfl ?_
  refine r_fieldcp rfl TF.f75_0 TF.sz36 rfl ?_
  refine r_load1 rfl TF.agg36 rfl ?_
  refine r_assign rfl rfl ?_
  refine awl_nil ?_
  refine x_then ?_
  refine awp_ret ?_
  exact ⟨(.inl rfl), _, [], (.one (by first | exact .mk rfl rfl | exact .nil rfl)), ⟨rfl, rfl⟩, (List.nil_sublist _), (by simp)⟩
theorem Len_nil : AC Try.prog 24 [nilP] [] (fun r n => n = [] ∧ r = .v (.int .i64 0)) := by
 refine ac_of_awp (rs := [2]) (nt := 9) Try.func24 rfl rfl rfl rfl (fun w0 C0 hq => ?_)
 unfold nilP
 refine awp_seq ?_
 refine awp_region ?_
 refine r_assign rfl rfl ?_
 refine awl_nil ?_
 refine x_then ?_
 refine awp_seq ?_
 refine awp_seq ?_
 refine awp_region ?_
 refine r_move rfl rfl ?_
 refine r_pnil rfl (by first | exact .pt _ _ | exact .nil | exact .v _ | exact .cp _) TF.un24 rfl ?_
 refine awl_nil ?_
 refine x_then ?_
 refine awp_cond rfl (fun hc0 => ?_) (fun hc0 => ?_)
 ·
  skip
  refine awp_seq ?_
  refine awp_region ?_
  refine r_assign rfl rfl ?_
  refine awl_nil ?_
  refine x_then ?_
  refine awp_ret ?_
  refine x_thenR ?_
  exact ⟨(.inl rfl), _, [], (.one (by first | exact .mk rfl rfl | exact .nil rfl)), ⟨rfl, rfl⟩, (List.nil_sublist _), (by simp)⟩
 ·
  exfalso; cases hc0
theorem Len_some (r : Rt) (n : Int) : AC Try.prog 24 [.cp [encR r, .v (.int .i64 (n))]] [] (fun r' nb => nb = [] ∧ r' = .v (.int .i64 n)) := by
 refine ac_of_awp (rs := [2]) (nt := 9) Try.func24 rfl rfl rfl rfl (fun w0 C0 hq => ?_)
 refine awp_seq ?_
 refine awp_region ?_
 refine r_assign rfl rfl ?_
 refine awl_nil ?_
 refine x_then ?_
 refine awp_seq ?_
 refine awp_seq ?_
 refine awp_region ?_
 refine r_move rfl rfl ?_
 refine r_pnil rfl (by first | exact .pt _ _ | exact .nil | exact .v _ | exact .cp _) TF.un24 rfl ?_
 refine awl_nil ?_
 refine x_then ?_
 refine awp_cond rfl (fun hc0 => ?_) (fun hc0 => ?_)
 ·
  exfalso; cases hc0
 ·
  refine awp_skip ?_
  refine x_then ?_
  refine awp_seq ?_
  refine awp_region ?_
  refine r_move rfl rfl ?_
  refine r_nilCheck rfl (by first | exact .pt _ _ | exact .v _ | exact .cp _) rfl ?_
  refine r_fieldcp rfl TF.f75_1 TF.sz3 rfl ?_
  refine r_load1 rfl TF.agg3 rfl ?_
  refine r_assign rfl rfl ?_
  refine awl_nil ?_
  refine x_then ?_
  refine awp_ret ?_
  exact ⟨(.inl rfl), _, [], (.one (by first | exact .mk rfl rfl | exact .nil rfl)), ⟨rfl, rfl⟩, (List.nil_sublist _), (by simp)⟩
theorem Root_ok : ∀ (t : TreeV), AC Try.prog 18 [encT t] [] (fun r nb => nb = [] ∧ r = encR (rootT t))
  | none => Root_nil
  | some (r, n) => Root_some r n
theorem Len_ok : ∀ (t : TreeV), AC Try.prog 24 [encT t] [] (fun r nb => nb = [] ∧ r = .v (.int .i64 (lenT t)))
  | none => Len_nil
  | some (r, n) => Len_some r n
theorem leafAt_wf : ∀ (h : Nat) (n : Nd h) (k : Sp), wfC 1 h n.2 → 1 ≤ (leafAt h n k).length ∧ (leafAt h n k).length ≤ 4
  | 0, n, k, hw => ⟨hw.1, hw.2⟩
  | h + 1, n, k, hw => by
    have h0 : 0 < (kdsOf n).length := hw.1
    obtain ⟨kid, hk⟩ : ∃ kid, (kdsOf n)[wayI h k (kdsOf n)]? = some kid := get_lt (wayI_lt h0)
    rw [leafAt_ok hk]
    exact leafAt_wf h kid k ((hw.2.2 kid (List.mem_of_getElem? hk)).mono (by omega))
theorem way_find {q : Nat} (e : Nd (q + 1)) (k : Sp) (h0 : 0 < (kdsOf e).length) : (findN k (keysOf (q + 1) e.2) (kidsOf (q + 1) e.2).isEmpty).1 = wayI q k (kdsOf e) := by
  have : (kidsOf (q + 1) e.2).isEmpty = false := by
    show (List.map (enc q) (kdsOf e)).isEmpty = false
    cases hk : kdsOf e with
    | nil => rw [hk] at h0; simp at h0
    | cons x r => rfl
  rw [this, findN, if_neg (by decide)]
  rfl
theorem leaf_none (t : TreeV) (hrt : rootT t = none) (k : Sp) : AC Try.prog 42 [encT t, spA k] [] (fun r nb => nb = [] ∧ r = .tup [nilP, nilP]) := by
 refine ac_of_awp (rs := [4, 5]) (nt := 46) Try.func42 rfl rfl rfl rfl (fun w0 C0 hq => ?_)
 refine awp_seq ?_
 refine awp_region ?_
 refine r_box rfl rfl rfl (fun b3 => ?_)
 refine r_assign rfl rfl ?_
 refine r_assign rfl rfl ?_
 refine awl_nil ?_
 refine x_then ?_
 refine awp_seq ?_
 refine awp_region ?_
 refine r_move rfl rfl ?_
 refine r_call0 hq rfl rfl (.cons (.ev rfl rfl) .nil) (Root_ok t) rfl TF.en18 rfl (fun r hr => ?_)
 obtain rfl := hr
 rw [hrt]
 show AWL _ _ _ _ _ _ (AState.put _ 9 (.a (.v (.pointer none))))
 refine r_assign rfl rfl ?_
 refine awl_nil ?_
 refine x_then ?_
 refine awp_seq ?_
 refine awp_seq ?_
 refine awp_region ?_
 refine r_move rfl rfl ?_
 refine r_pnil rfl (by first | exact .pt _ _ | exact .nil | exact .v _ | exact .cp _) TF.un36 rfl ?_
 refine awl_nil ?_
 refine x_then ?_
 refine awp_cond rfl (fun hc0 => ?_) (fun hc0 => ?_)
 ·
  skip
  refine awp_seq ?_
  refine awp_region ?_
  refine r_assign rfl rfl ?_
  refine r_assign rfl rfl ?_
  refine awl_nil ?_
  refine x_then ?_
  refine awp_ret ?_
  refine x_thenR ?_
  exact ⟨(.inl rfl), _, [], (.two (by first | exact .mk rfl rfl | exact .nil rfl) (by first | exact .mk rfl rfl | exact .nil rfl)), ⟨rfl, rfl⟩, (List.nil_sublist _), (by simp)⟩
 ·
  exfalso; cases hc0
theorem leaf_some (t : TreeV) (h : Nat) (n : Nd h) (hrt : rootT t = some ⟨h, n⟩) (hw : wfC 1 h n.2) (k : Sp) : AC Try.prog 42 [encT t, spA k] [] (fun r nb => nb = [] ∧ ∃ b nx, r = .tup [enc 0 (b, leafAt h n k), nx]) := by
 refine ac_of_awp (rs := [4, 5]) (nt := 46) Try.func42 rfl rfl rfl rfl (fun w0 C0 hq => ?_)
 refine awp_seq ?_
 refine awp_region ?_
 refine r_box rfl rfl rfl (fun b3 => ?_)
 refine r_assign rfl rfl ?_
 refine r_assign rfl rfl ?_
 refine awl_nil ?_
 refine x_then ?_
 refine awp_seq ?_
 refine awp_region ?_
 refine r_move rfl rfl ?_
 refine r_call0 hq rfl rfl (.cons (.ev rfl rfl) .nil) (Root_ok t) rfl TF.en18 rfl (fun r hr => ?_)
 obtain rfl := hr
 rw [hrt]
 refine awl_imp (imp_le 9 rfl (SV.le.avEq (enc_eq h n))) ?_
 refine r_assign rfl rfl ?_
 refine awl_nil ?_
 refine x_then ?_
 refine awp_seq ?_
 refine awp_seq ?_
 refine awp_region ?_
 refine r_move rfl rfl ?_
 refine r_pnil rfl (by first | exact .pt _ _ | exact .nil | exact .v _ | exact .cp _) TF.un36 rfl ?_
 refine awl_nil ?_
 refine x_then ?_
 refine awp_cond rfl (fun hc0 => ?_) (fun hc0 => ?_)
 ·
  exfalso; cases hc0
 ·
  refine awp_skip ?_
  refine x_then ?_
  refine awp_seq ?_
  refine awp_block ?_
  refine awp_loop (fun nn0 S => ∃ q : Nat, ∃ e : Nd q, ∃ nx : AV, S = ⟨46, [(3, .a (.v (.pointer (some ⟨b3, 0, none⟩)))), (4, .a (ndA e.1 (keysOf q e.2) (valsOf q e.2) (kidsOf q e.2))), (5, .a nx)], [⟨b3, true, .box k.cs⟩]⟩ ∧ nn0 = 2 * q ∧ (wfC 1 q e.2) ∧ (leafAt h n k = leafAt q e k)) (2 * (h)) ⟨46, [(3, .a (.v (.pointer (some ⟨b3, 0, none⟩)))), (4, .a (ndA (n).1 (keysOf (h) (n).2) (valsOf (h) (n).2) (kidsOf (h) (n).2))), (5, .a (.v (.pointer none)))], [⟨b3, true, .box k.cs⟩]⟩ ⟨rfl, (Slots.cons rfl (by first | exact .refl _ | exact .nilOwn _ _ | exact .nilSl _ | exact .ownSl _ _ _  | exact SV.le.of_eq (by simp)) (Slots.cons rfl (by first | exact .refl _ | exact .nilOwn _ _ | exact .nilSl _ | exact .ownSl _ _ _  | exact SV.le.of_eq (by simp)) (Slots.cons rfl (by first | exact .refl _ | exact .nilOwn _ _ | exact .nilSl _ | exact .ownSl _ _ _  | exact SV.le.of_eq (by simp)) Slots.nil))), (by first | exact List.Sublist.refl _ | exact .cons_cons _ (.cons _ (.refl _)) | exact List.nil_sublist _ | exact .cons _ (.refl _) | exact .cons _ (.cons _ (.refl _)) | exact .cons _ (.cons _ (.cons _ (.refl _))) | exact .cons _ (.cons _ (.cons _ (.cons _ (.refl _)))) | exact .cons_cons _ (List.nil_sublist _))⟩ ⟨h, n, .v (.pointer none), rfl, rfl, hw, rfl⟩ ?_
  rintro nn0 _ ⟨q, e, nx, rfl, rfl, hwe, hle⟩
  refine awp_seq ?_
  refine awp_seq ?_
  refine awp_region ?_
  refine r_move rfl rfl ?_
  refine r_call0 hq rfl rfl (.cons (.ev rfl rfl) .nil) (leaf_ok e.1 (keysOf q e.2) (valsOf q e.2) (kidsOf q e.2)) rfl TF.en46 rfl (fun r hr => ?_)
  obtain rfl := hr
  refine r_not rfl rfl ?_
  refine awl_nil ?_
  refine x_then ?_
  refine awp_cond rfl (fun hc1 => ?_) (fun hc1 => ?_)
  ·
   have hki : (kidsOf q e.2).isEmpty = false := by have := hc1; revert this; cases (kidsOf q e.2).isEmpty <;> intro h <;> first | rfl | cases h
   obtain ⟨q2, rfl⟩ : ∃ q2, q = q2 + 1 := ⟨q - 1, by have := kids_inner q e hki; omega⟩
   have hl0 : 0 < (kdsOf e).length := hwe.1
   have hl4 : (kdsOf e).length ≤ 4 := hwe.2.1
   have hil := wayI_lt (k := k) hl0
   obtain ⟨kid, hkid⟩ : ∃ kid, (kdsOf e)[wayI q2 k (kdsOf e)]? = some kid := get_lt hil
   have hkw := hwe.kid (List.mem_of_getElem? hkid)
   have hfn := way_find e k hl0
   have hlk : (kidsOf (q2 + 1) e.2).length = (kdsOf e).length := show (List.map (enc q2) (kdsOf e)).length = _ from List.length_map _
   refine awp_skip ?_
   refine x_then ?_
   refine awp_block ?_
   refine awp_seq ?_
   refine awp_region ?_
   refine r_move rfl rfl ?_
   refine r_loadAb 0 rfl rfl TF.agg47 TF.sz47 rfl rfl ?_
   refine r_call0 hq rfl rfl (.cons (.ev rfl rfl) (.cons (.ev rfl rfl) .nil)) (find_ok e.1 (keysOf (q2 + 1) e.2) (valsOf (q2 + 1) e.2) (kidsOf (q2 + 1) e.2) (by rw [keysOf_len]; have := hwe.hi; omega) k) rfl TF.en43 rfl (fun r hr => ?_)
   obtain rfl := hr
   rw [hfn]
   refine r_move rfl rfl ?_
   refine r_extract rfl rfl rfl ?_
   refine r_extract rfl rfl rfl ?_
   refine r_assign rfl rfl ?_
   refine r_assign rfl rfl ?_
   refine awl_nil ?_
   refine x_then ?_
   refine awp_seq ?_
   refine awp_seq ?_
   refine awp_region ?_
   refine r_move rfl rfl ?_
   refine r_ari ((wayI q2 k (kdsOf e) + 1 : Nat) : Int) rfl rfl rfl (wrap_id (by omega)) rfl ?_
   refine r_move rfl rfl ?_
   refine r_nilCheck rfl (by first | exact .pt _ _ | exact .v _ | exact .cp _) rfl ?_
   refine r_fieldpt rfl TF.f82_2 TF.sz80 rfl ?_
   refine r_load1 rfl TF.agg80 rfl ?_
   refine r_lenS rfl rfl TF.sl80 rfl ?_
   refine r_cmp rfl rfl rfl rfl ?_
   refine awl_nil ?_
   refine x_then ?_
   refine awp_cond rfl (fun hc2 => ?_) (fun hc2 => ?_)
   ·
    have h2 : wayI q2 k (kdsOf e) + 1 < (kdsOf e).length := by have := of_decide_eq_true hc2; rw [List.length_map, hlk] at this; omega
    obtain ⟨y, hy⟩ : ∃ y, (kdsOf e)[wayI q2 k (kdsOf e) + 1]? = some y := get_lt h2
    refine awp_region ?_
    refine r_move rfl rfl ?_
    refine r_nilCheck rfl (by first | exact .pt _ _ | exact .v _ | exact .cp _) rfl ?_
    refine r_fieldpt rfl TF.f82_2 TF.sz80 rfl ?_
    refine r_load1 rfl TF.agg80 rfl ?_
    refine r_move rfl rfl ?_
    refine r_ari ((wayI q2 k (kdsOf e) + 1 : Nat) : Int) rfl rfl rfl (wrap_id (by omega)) rfl ?_
    refine r_index rfl rfl rfl TF.sl80 TF.sz36 (by omega) (get_map (get_map hy)) rfl ?_
    refine r_load1 rfl TF.agg36 rfl ?_
    refine r_assign rfl rfl ?_
    refine awl_nil ?_
    refine x_then ?_
    refine awp_region ?_
    refine r_move rfl rfl ?_
    refine r_nilCheck rfl (by first | exact .pt _ _ | exact .v _ | exact .cp _) rfl ?_
    refine r_fieldpt rfl TF.f82_2 TF.sz80 rfl ?_
    refine r_load1 rfl TF.agg80 rfl ?_
    refine r_move rfl rfl ?_
    refine r_index rfl rfl rfl TF.sl80 TF.sz36 (by omega) ((get_map (get_map hkid)).trans (congrArg (fun y => some [y]) (enc_eq q2 kid))) rfl ?_
    refine r_load1 rfl TF.agg36 rfl ?_
    refine r_assign rfl rfl ?_
    refine awl_nil ?_
    refine x_block ?_
    refine x_then ?_
    refine ⟨2 * (q2), ⟨46, [(3, .a (.v (.pointer (some ⟨b3, 0, none⟩)))), (4, .a (ndA (kid).1 (keysOf (q2) (kid).2) (valsOf (q2) (kid).2) (kidsOf (q2) (kid).2))), (5, .a (enc q2 y))], [⟨b3, true, .box k.cs⟩]⟩, ⟨rfl, (Slots.cons rfl (by first | exact .refl _ | exact .nilOwn _ _ | exact .nilSl _ | exact .ownSl _ _ _  | exact SV.le.of_eq (by simp)) (Slots.cons rfl (by first | exact .refl _ | exact .nilOwn _ _ | exact .nilSl _ | exact .ownSl _ _ _  | exact SV.le.of_eq (by simp)) (Slots.cons rfl (by first | exact .refl _ | exact .nilOwn _ _ | exact .nilSl _ | exact .ownSl _ _ _  | exact SV.le.of_eq (by simp)) Slots.nil))), (by first | exact List.Sublist.refl _ | exact .cons_cons _ (.cons _ (.refl _)) | exact List.nil_sublist _ | exact .cons _ (.refl _) | exact .cons _ (.cons _ (.refl _)) | exact .cons _ (.cons _ (.cons _ (.refl _))) | exact .cons _ (.cons _ (.cons _ (.cons _ (.refl _)))) | exact .cons_cons _ (List.nil_sublist _))⟩, (by omega), ⟨q2, kid, enc q2 y, rfl, rfl, (hkw.mono (by omega)), (hle.trans (leafAt_ok hkid))⟩⟩
   ·
    refine awp_skip ?_
    refine x_then ?_
    refine awp_region ?_
    refine r_move rfl rfl ?_
    refine r_nilCheck rfl (by first | exact .pt _ _ | exact .v _ | exact .cp _) rfl ?_
    refine r_fieldpt rfl TF.f82_2 TF.sz80 rfl ?_
    refine r_load1 rfl TF.agg80 rfl ?_
    refine r_move rfl rfl ?_
    refine r_index rfl rfl rfl TF.sl80 TF.sz36 (by omega) ((get_map (get_map hkid)).trans (congrArg (fun y => some [y]) (enc_eq q2 kid))) rfl ?_
    refine r_load1 rfl TF.agg36 rfl ?_
    refine r_assign rfl rfl ?_
    refine awl_nil ?_
    refine x_block ?_
    refine x_then ?_
    refine ⟨2 * (q2), ⟨46, [(3, .a (.v (.pointer (some ⟨b3, 0, none⟩)))), (4, .a (ndA (kid).1 (keysOf (q2) (kid).2) (valsOf (q2) (kid).2) (kidsOf (q2) (kid).2))), (5, .a (nx))], [⟨b3, true, .box k.cs⟩]⟩, ⟨rfl, (Slots.cons rfl (by first | exact .refl _ | exact .nilOwn _ _ | exact .nilSl _ | exact .ownSl _ _ _  | exact SV.le.of_eq (by simp)) (Slots.cons rfl (by first | exact .refl _ | exact .nilOwn _ _ | exact .nilSl _ | exact .ownSl _ _ _  | exact SV.le.of_eq (by simp)) (Slots.cons rfl (by first | exact .refl _ | exact .nilOwn _ _ | exact .nilSl _ | exact .ownSl _ _ _  | exact SV.le.of_eq (by simp)) Slots.nil))), (by first | exact List.Sublist.refl _ | exact .cons_cons _ (.cons _ (.refl _)) | exact List.nil_sublist _ | exact .cons _ (.refl _) | exact .cons _ (.cons _ (.refl _)) | exact .cons _ (.cons _ (.cons _ (.refl _))) | exact .cons _ (.cons _ (.cons _ (.cons _ (.refl _)))) | exact .cons_cons _ (List.nil_sublist _))⟩, (by omega), ⟨q2, kid, nx, rfl, rfl, (hkw.mono (by omega)), (hle.trans (leafAt_ok hkid))⟩⟩
  ·
   have hki : (kidsOf q e.2).isEmpty = true := by have := hc1; revert this; cases (kidsOf q e.2).isEmpty <;> intro h <;> first | rfl | cases h
   obtain rfl := kids_leaf q e (fun _ => hwe.lo) hki
   refine awp_exit ?_
   refine x_thenE ?_
   refine x_thenE ?_
   refine x_blockE ?_
   refine x_then ?_
   refine awp_seq ?_
   refine awp_region ?_
   refine r_move rfl rfl ?_
   refine r_move rfl rfl ?_
   refine r_assign rfl rfl ?_
   refine r_assign rfl rfl ?_
   refine awl_nil ?_
   refine x_then ?_
   refine awp_ret ?_
   exact ⟨(.inl rfl), _, [], (.two (by first | exact .mk rfl rfl | exact .nil rfl) (by first | exact .mk rfl rfl | exact .nil rfl)), ⟨rfl, e.1, nx, by rw [hle]; rfl⟩, (List.nil_sublist _), (by simp)⟩
theorem Get_none (t : TreeV) (hrt : rootT t = none) (k : Sp) : AC Try.prog 22 [encT t, spA k] [] (fun r nb => nb = [] ∧ r = .tup [.v (.int .u64 ((getR (rootT t) k).getD 0)), boolA (getR (rootT t) k).isSome]) := by
 refine ac_of_awp (rs := [4, 5]) (nt := 30) Try.func22 rfl rfl rfl rfl (fun w0 C0 hq => ?_)
 refine awp_seq ?_
 refine awp_region ?_
 refine r_box rfl rfl rfl (fun b3 => ?_)
 refine r_assign rfl rfl ?_
 refine r_assign rfl rfl ?_
 refine awl_nil ?_
 refine x_then ?_
 refine awp_seq ?_
 refine awp_region ?_
 refine r_move rfl rfl ?_
 refine r_loadAb 0 rfl rfl TF.agg47 TF.sz47 rfl rfl ?_
 refine r_call0 hq rfl rfl (.cons (.ev rfl rfl) (.cons (.ev rfl rfl) .nil)) (leaf_none t hrt k) rfl TF.en42 rfl (fun r hr => ?_)
 obtain rfl := hr
 refine r_move rfl rfl ?_
 refine r_extract rfl rfl rfl ?_
 refine r_extract rfl rfl rfl ?_
 refine r_assign rfl rfl ?_
 refine r_assign rfl rfl ?_
 refine awl_nil ?_
 refine x_then ?_
 refine awp_seq ?_
 refine awp_seq ?_
 refine awp_region ?_
 refine r_move rfl rfl ?_
 refine r_loadAb 0 rfl rfl TF.agg47 TF.sz47 rfl rfl ?_
 refine r_call0 hq rfl rfl (.cons (.ev rfl rfl) (.cons (.ev rfl rfl) .nil)) (find_nil k) rfl TF.en43 rfl (fun r hr => ?_)
 obtain rfl := hr
 refine r_move rfl rfl ?_
 refine r_extract rfl rfl rfl ?_
 refine r_extract rfl rfl rfl ?_
 refine r_assign rfl rfl ?_
 refine r_assign rfl rfl ?_
 refine awl_nil ?_
 refine x_then ?_
 refine awp_seq ?_
 refine awp_region ?_
 refine r_move rfl rfl ?_
 refine awl_nil ?_
 refine x_then ?_
 refine awp_cond rfl (fun hc0 => ?_) (fun hc0 => ?_)
 ·
  exfalso; cases hc0
 ·
  refine awp_skip ?_
  refine x_then ?_
  refine awp_seq ?_
  refine awp_region ?_
  refine r_assign rfl rfl ?_
  refine r_assign rfl rfl ?_
  refine awl_nil ?_
  refine x_then ?_
  refine awp_ret ?_
  exact ⟨(.inl rfl), _, [], (.two (by first | exact .mk rfl rfl | exact .nil rfl) (by first | exact .mk rfl rfl | exact .nil rfl)), ⟨rfl, by rw [hrt]; rfl⟩, (List.nil_sublist _), (by simp)⟩
theorem Get_some (t : TreeV) (h : Nat) (n : Nd h) (hrt : rootT t = some ⟨h, n⟩) (hw : wfC 1 h n.2) (k : Sp) : AC Try.prog 22 [encT t, spA k] [] (fun r nb => nb = [] ∧ r = .tup [.v (.int .u64 ((getR (rootT t) k).getD 0)), boolA (getR (rootT t) k).isSome]) := by
 refine ac_of_awp (rs := [4, 5]) (nt := 30) Try.func22 rfl rfl rfl rfl (fun w0 C0 hq => ?_)
 have hlw := leafAt_wf h n k hw
 refine awp_seq ?_
 refine awp_region ?_
 refine r_box rfl rfl rfl (fun b3 => ?_)
 refine r_assign rfl rfl ?_
 refine r_assign rfl rfl ?_
 refine awl_nil ?_
 refine x_then ?_
 refine awp_seq ?_
 refine awp_region ?_
 refine r_move rfl rfl ?_
 refine r_loadAb 0 rfl rfl TF.agg47 TF.sz47 rfl rfl ?_
 refine r_call0 hq rfl rfl (.cons (.ev rfl rfl) (.cons (.ev rfl rfl) .nil)) (leaf_some t h n hrt hw k) rfl TF.en42 rfl (fun r hr => ?_)
 obtain ⟨b, nx, rfl⟩ := hr
 refine r_move rfl rfl ?_
 refine r_extract rfl rfl rfl ?_
 refine r_extract rfl rfl rfl ?_
 refine r_assign rfl rfl ?_
 refine r_assign rfl rfl ?_
 refine awl_nil ?_
 refine x_then ?_
 refine awp_seq ?_
 refine awp_seq ?_
 refine awp_region ?_
 refine r_move rfl rfl ?_
 refine r_loadAb 0 rfl rfl TF.agg47 TF.sz47 rfl rfl ?_
 refine r_call0 hq rfl rfl (.cons (.ev rfl rfl) (.cons (.ev rfl rfl) .nil)) (find_ok b ((leafAt h n k).map fun p : Sp × Int => p.1) ((leafAt h n k).map fun p : Sp × Int => p.2) [] (by simp; omega) k) rfl TF.en43 rfl (fun r hr => ?_)
 obtain rfl := hr
 refine r_move rfl rfl ?_
 refine r_extract rfl rfl rfl ?_
 refine r_extract rfl rfl rfl ?_
 refine r_assign rfl rfl ?_
 refine r_assign rfl rfl ?_
 refine awl_nil ?_
 refine x_then ?_
 refine awp_seq ?_
 refine awp_region ?_
 refine r_move rfl rfl ?_
 refine awl_nil ?_
 refine x_then ?_
 refine awp_cond rfl (fun hc0 => ?_) (fun hc0 => ?_)
 ·
  have hh : (findL k ((leafAt h n k).map fun p : Sp × Int => p.1)).2 = true := hc0
  have hil := findL_had hh
  rw [List.length_map] at hil
  obtain ⟨x, hx⟩ : ∃ x, (leafAt h n k)[(findL k ((leafAt h n k).map fun p : Sp × Int => p.1)).1]? = some x := get_lt hil
  have hg : getR (rootT t) k = some x.2 := by rw [hrt]; show getL k (leafAt h n k) = _; unfold getL; rw [if_pos hh, hx]; rfl
  refine awp_seq ?_
  refine awp_region ?_
  refine r_move rfl rfl ?_
  refine r_nilCheck rfl (by first | exact .pt _ _ | exact .v _ | exact .cp _) rfl ?_
  refine r_fieldpt rfl TF.f82_1 TF.sz79 rfl ?_
  refine r_load1 rfl TF.agg79 rfl ?_
  refine r_move rfl rfl ?_
  refine r_index rfl rfl rfl TF.sl79 TF.sz45 (Int.natCast_nonneg _) (get_map (get_map hx)) rfl ?_
  refine r_load1 rfl TF.agg45 rfl ?_
  refine r_assign rfl rfl ?_
  refine r_assign rfl rfl ?_
  refine awl_nil ?_
  refine x_then ?_
  refine awp_ret ?_
  refine x_thenR ?_
  exact ⟨(.inl rfl), _, [], (.two (by first | exact .mk rfl rfl | exact .nil rfl) (by first | exact .mk rfl rfl | exact .nil rfl)), ⟨rfl, by rw [hg]; rfl⟩, (List.nil_sublist _), (by simp)⟩
 ·
  have hh : (findL k ((leafAt h n k).map fun p : Sp × Int => p.1)).2 = false := hc0
  have hg : getR (rootT t) k = none := by rw [hrt]; show getL k (leafAt h n k) = _; unfold getL; rw [if_neg (by rw [hh]; decide)]
  refine awp_skip ?_
  refine x_then ?_
  refine awp_seq ?_
  refine awp_region ?_
  refine r_assign rfl rfl ?_
  refine r_assign rfl rfl ?_
  refine awl_nil ?_
  refine x_then ?_
  refine awp_ret ?_
  exact ⟨(.inl rfl), _, [], (.two (by first | exact .mk rfl rfl | exact .nil rfl) (by first | exact .mk rfl rfl | exact .nil rfl)), ⟨rfl, by rw [hg]; rfl⟩, (List.nil_sublist _), (by simp)⟩
theorem Get_ok (t : TreeV) (hw : wfRt (rootT t)) (k : Sp) : AC Try.prog 22 [encT t, spA k] [] (fun r nb => nb = [] ∧ r = .tup [.v (.int .u64 ((getR (rootT t) k).getD 0)), boolA (getR (rootT t) k).isSome]) := by
  cases hr : rootT t with
  | none => rw [← hr]; exact Get_none t hr k
  | some s => obtain ⟨h, n⟩ := s; rw [hr] at hw; rw [← hr]; exact Get_some t h n hr hw.1 k
theorem TDel_none (t : TreeV) (hrt : rootT t = none) (k : Sp) : AC Try.prog 21 [encT t, spA k] [] (fun r nb => nb = [] ∧ ∃ t', DelT t k t' ∧ r = encT t') := by
 refine ac_of_awp (rs := [4]) (nt := 23) Try.func21 rfl rfl rfl rfl (fun w0 C0 hq => ?_)
 refine awp_seq ?_
 refine awp_region ?_
 refine r_box rfl rfl rfl (fun b3 => ?_)
 refine r_assign rfl rfl ?_
 refine awl_nil ?_
 refine x_then ?_
 refine awp_seq ?_
 refine awp_any (fun B S => ∃ sl : List (Nat × SV), S = ⟨23, sl, [⟨b3, true, .box k.cs⟩]⟩ ∧ find 0 sl = some (.a (encT t)) ∧ find 3 sl = some (.a (.v (.pointer (some ⟨b3, 0, none⟩)))) ∧ (B 0 = true → find 8 sl = some (.a (encT t))) ∧ (B 1 = true → find 9 sl = some (.a (encR none))) ∧ (B 2 = true → find 10 sl = some (.a (spA k))) ∧ (B 3 = true → find 11 sl = some (.a (.tup [nilP, boolA false]))) ∧ (B 4 = true → find 7 sl = some (.a (.tup [nilP, boolA false]))) ∧ (B 5 = true → find 12 sl = some (.a nilP)) ∧ (B 6 = true → find 13 sl = some (.a (boolA false))) ∧ (B 7 = true → find 5 sl = some (.a nilP)) ∧ (B 8 = true → find 6 sl = some (.a (boolA false)))) TF.mixed rfl ⟨_, rfl, rfl, rfl, (fun h => by cases h), (fun h => by cases h), (fun h => by cases h), (fun h => by cases h), (fun h => by cases h), (fun h => by cases h), (fun h => by cases h), (fun h => by cases h), (fun h => by cases h)⟩ ⟨⟨⟨⟨⟨⟨⟨⟨⟨trivial
  , ⟨_, rfl, fun B S hBi hdep hcl => by
    rintro ⟨sl, rfl, h0, h3, f0, f1, f2, f3, f4, f5, f6, f7, f8⟩
    refine r_move h0 rfl ?_
    exact awl_nil ⟨rfl, _, rfl, h0, h3, (fun h => rfl), f1, f2, f3, f4, f5, f6, f7, f8⟩⟩⟩
  , ⟨_, rfl, fun B S hBi hdep hcl => by
    rintro ⟨sl, rfl, h0, h3, f0, f1, f2, f3, f4, f5, f6, f7, f8⟩
    refine r_call0 hq rfl rfl (.cons (.ev (f0 (hdep 0 rfl)) rfl) .nil) (Root_ok t) rfl TF.en18 rfl (fun r hr => ?_)
    obtain rfl := hr
    rw [hrt]
    exact awl_nil ⟨rfl, _, rfl, h0, h3, f0, (fun h => rfl), f2, f3, f4, f5, f6, f7, f8⟩⟩⟩
  , ⟨_, rfl, fun B S hBi hdep hcl => by
    rintro ⟨sl, rfl, h0, h3, f0, f1, f2, f3, f4, f5, f6, f7, f8⟩
    refine r_loadAb 0 h3 rfl TF.agg47 TF.sz47 rfl rfl ?_
    exact awl_nil ⟨rfl, _, rfl, h0, h3, f0, f1, (fun h => rfl), f3, f4, f5, f6, f7, f8⟩⟩⟩
  , ⟨_, rfl, fun B S hBi hdep hcl => by
    rintro ⟨sl, rfl, h0, h3, f0, f1, f2, f3, f4, f5, f6, f7, f8⟩
    refine r_call0 hq rfl rfl (.cons (.ev (f1 (hdep 1 rfl)) rfl) (.cons (.ev (f2 (hdep 2 rfl)) rfl) .nil)) (Del_nil k) rfl TF.en41 rfl (fun r hr => ?_)
    obtain rfl := hr
    exact awl_nil ⟨rfl, _, rfl, h0, h3, f0, f1, f2, (fun h => rfl), f4, f5, f6, f7, f8⟩⟩⟩
  , ⟨_, rfl, fun B S hBi hdep hcl => by
    rintro ⟨sl, rfl, h0, h3, f0, f1, f2, f3, f4, f5, f6, f7, f8⟩
    refine r_move (f3 (hdep 3 rfl)) rfl ?_
    exact awl_nil ⟨rfl, _, rfl, h0, h3, f0, f1, f2, f3, (fun h => rfl), f5, f6, f7, f8⟩⟩⟩
  , ⟨_, rfl, fun B S hBi hdep hcl => by
    rintro ⟨sl, rfl, h0, h3, f0, f1, f2, f3, f4, f5, f6, f7, f8⟩
    refine r_extract (f4 (hdep 4 rfl)) rfl rfl ?_
    exact awl_nil ⟨rfl, _, rfl, h0, h3, f0, f1, f2, f3, f4, (fun h => rfl), f6, f7, f8⟩⟩⟩
  , ⟨_, rfl, fun B S hBi hdep hcl => by
    rintro ⟨sl, rfl, h0, h3, f0, f1, f2, f3, f4, f5, f6, f7, f8⟩
    refine r_extract (f4 (hdep 4 rfl)) rfl rfl ?_
    exact awl_nil ⟨rfl, _, rfl, h0, h3, f0, f1, f2, f3, f4, f5, (fun h => rfl), f7, f8⟩⟩⟩
  , ⟨_, rfl, fun B S hBi hdep hcl => by
    rintro ⟨sl, rfl, h0, h3, f0, f1, f2, f3, f4, f5, f6, f7, f8⟩
    refine r_assign (f5 (hdep 5 rfl)) rfl ?_
    exact awl_nil ⟨rfl, _, rfl, h0, h3, f0, f1, f2, f3, f4, f5, f6, (fun h => rfl), f8⟩⟩⟩
  , ⟨_, rfl, fun B S hBi hdep hcl => by
    rintro ⟨sl, rfl, h0, h3, f0, f1, f2, f3, f4, f5, f6, f7, f8⟩
    refine r_assign (f6 (hdep 6 rfl)) rfl ?_
    exact awl_nil ⟨rfl, _, rfl, h0, h3, f0, f1, f2, f3, f4, f5, f6, f7, (fun h => rfl)⟩⟩⟩
  (fun B S hall => by
   rintro ⟨sl, rfl, h0, h3, f0, f1, f2, f3, f4, f5, f6, f7, f8⟩
   skip
   refine x_then ?_
   refine awp_weaken (S' := ⟨23, [(0, .a (encT t)), (3, .a (.v (.pointer (some ⟨b3, 0, none⟩)))), (5, .a nilP), (6, .a (boolA false))], [⟨b3, true, .box k.cs⟩]⟩) ⟨rfl, (Slots.cons h0 (.refl _) (Slots.cons h3 (.refl _) (Slots.cons (f7 (hall 7 (by decide))) (.refl _) (Slots.cons (f8 (hall 8 (by decide))) (.refl _) Slots.nil)))), (List.Sublist.refl _)⟩ ?_
   refine awp_seq ?_
   refine awp_seq ?_
   refine awp_region ?_
   refine r_move rfl rfl ?_
   refine r_not rfl rfl ?_
   refine awl_nil ?_
   refine x_then ?_
   refine awp_cond rfl (fun hc0 => ?_) (fun hc0 => ?_)
   ·
    skip
    refine awp_seq ?_
    refine awp_region ?_
    refine r_move rfl rfl ?_
    refine r_assign rfl rfl ?_
    refine awl_nil ?_
    refine x_then ?_
    refine awp_ret ?_
    refine x_thenR ?_
    exact ⟨(.inl rfl), _, [], (.one (by first | exact .mk rfl rfl | exact .nil rfl)), ⟨rfl, t, by unfold DelT; rw [hrt], rfl⟩, (List.nil_sublist _), (by simp)⟩
   ·
    exfalso; cases hc0)
theorem TDel_some (t : TreeV) (h : Nat) (n : Nd h) (hrt : rootT t = some ⟨h, n⟩) (hw : wfC 1 h n.2) (h2 : 0 < h → 2 ≤ n.2.length) (hn : 0 ≤ lenT t ∧ lenT t ≤ 1000000) (k : Sp) : AC Try.prog 21 [encT t, spA k] [] (fun r nb => nb = [] ∧ ∃ t', DelT t k t' ∧ r = encT t') := by
 refine ac_of_awp (rs := [4]) (nt := 23) Try.func21 rfl rfl rfl rfl (fun w0 C0 hq => ?_)
 refine awp_seq ?_
 refine awp_region ?_
 refine r_box rfl rfl rfl (fun b3 => ?_)
 refine r_assign rfl rfl ?_
 refine awl_nil ?_
 refine x_then ?_
 refine awp_seq ?_
 refine awp_any (fun B S => ∃ cr : Option (Nd h), ∃ sl : List (Nat × SV), S = ⟨23, sl, [⟨b3, true, .box k.cs⟩]⟩ ∧ find 0 sl = some (.a (encT t)) ∧ find 3 sl = some (.a (.v (.pointer (some ⟨b3, 0, none⟩)))) ∧ (B 0 = true → find 8 sl = some (.a (encT t))) ∧ (B 1 = true → find 9 sl = some (.a (enc h n))) ∧ (B 2 = true → find 10 sl = some (.a (spA k))) ∧ (B 3 = true → find 11 sl = some (.a (.tup [delB h n cr, boolA cr.isSome]))) ∧ (B 4 = true → find 7 sl = some (.a (.tup [delB h n cr, boolA cr.isSome]))) ∧ (B 5 = true → find 12 sl = some (.a (delB h n cr))) ∧ (B 6 = true → find 13 sl = some (.a (boolA cr.isSome))) ∧ (B 7 = true → find 5 sl = some (.a (delB h n cr))) ∧ (B 8 = true → find 6 sl = some (.a (boolA cr.isSome))) ∧ (B 3 = true → DelR h n k cr)) TF.mixed rfl ⟨none, _, rfl, rfl, rfl, (fun h => by cases h), (fun h => by cases h), (fun h => by cases h), (fun h => by cases h), (fun h => by cases h), (fun h => by cases h), (fun h => by cases h), (fun h => by cases h), (fun h => by cases h), (fun h => by cases h)⟩ ⟨⟨⟨⟨⟨⟨⟨⟨⟨trivial
  , ⟨_, rfl, fun B S hBi hdep hcl => by
    rintro ⟨cr, sl, rfl, h0, h3, f0, f1, f2, f3, f4, f5, f6, f7, f8, p3⟩
    refine r_move h0 rfl ?_
    exact awl_nil ⟨rfl, cr, _, rfl, h0, h3, (fun h => rfl), f1, f2, f3, f4, f5, f6, f7, f8, p3⟩⟩⟩
  , ⟨_, rfl, fun B S hBi hdep hcl => by
    rintro ⟨cr, sl, rfl, h0, h3, f0, f1, f2, f3, f4, f5, f6, f7, f8, p3⟩
    refine r_call0 hq rfl rfl (.cons (.ev (f0 (hdep 0 rfl)) rfl) .nil) (Root_ok t) rfl TF.en18 rfl (fun r hr => ?_)
    obtain rfl := hr
    rw [hrt]
    exact awl_nil ⟨rfl, cr, _, rfl, h0, h3, f0, (fun h => rfl), f2, f3, f4, f5, f6, f7, f8, p3⟩⟩⟩
  , ⟨_, rfl, fun B S hBi hdep hcl => by
    rintro ⟨cr, sl, rfl, h0, h3, f0, f1, f2, f3, f4, f5, f6, f7, f8, p3⟩
    refine r_loadAb 0 h3 rfl TF.agg47 TF.sz47 rfl rfl ?_
    exact awl_nil ⟨rfl, cr, _, rfl, h0, h3, f0, f1, (fun h => rfl), f3, f4, f5, f6, f7, f8, p3⟩⟩⟩
  , ⟨_, rfl, fun B S hBi hdep hcl => by
    rintro ⟨cr, sl, rfl, h0, h3, f0, f1, f2, f3, f4, f5, f6, f7, f8, p3⟩
    refine r_call0 hq rfl rfl (.cons (.ev (f1 (hdep 1 rfl)) rfl) (.cons (.ev (f2 (hdep 2 rfl)) rfl) .nil)) (Del_ok h n hw h2 k) rfl TF.en41 rfl (fun r hr => ?_)
    obtain ⟨cq, hcq, rfl⟩ := hr
    exact awl_nil ⟨rfl, cq, _, rfl, h0, h3, f0, f1, f2, (fun h => rfl), (fun h => absurd (hcl 4 3 h rfl) (by rw [hBi]; decide)), (fun h => absurd (hcl 4 3 (hcl 5 4 h rfl) rfl) (by rw [hBi]; decide)), (fun h => absurd (hcl 4 3 (hcl 6 4 h rfl) rfl) (by rw [hBi]; decide)), (fun h => absurd (hcl 7 3 h rfl) (by rw [hBi]; decide)), (fun h => absurd (hcl 8 3 h rfl) (by rw [hBi]; decide)), (fun _ => hcq)⟩⟩⟩
  , ⟨_, rfl, fun B S hBi hdep hcl => by
    rintro ⟨cr, sl, rfl, h0, h3, f0, f1, f2, f3, f4, f5, f6, f7, f8, p3⟩
    refine r_move (f3 (hdep 3 rfl)) rfl ?_
    exact awl_nil ⟨rfl, cr, _, rfl, h0, h3, f0, f1, f2, f3, (fun h => rfl), f5, f6, f7, f8, p3⟩⟩⟩
  , ⟨_, rfl, fun B S hBi hdep hcl => by
    rintro ⟨cr, sl, rfl, h0, h3, f0, f1, f2, f3, f4, f5, f6, f7, f8, p3⟩
    refine r_extract (f4 (hdep 4 rfl)) rfl rfl ?_
    exact awl_nil ⟨rfl, cr, _, rfl, h0, h3, f0, f1, f2, f3, f4, (fun h => rfl), f6, f7, f8, p3⟩⟩⟩
  , ⟨_, rfl, fun B S hBi hdep hcl => by
    rintro ⟨cr, sl, rfl, h0, h3, f0, f1, f2, f3, f4, f5, f6, f7, f8, p3⟩
    refine r_extract (f4 (hdep 4 rfl)) rfl rfl ?_
    exact awl_nil ⟨rfl, cr, _, rfl, h0, h3, f0, f1, f2, f3, f4, f5, (fun h => rfl), f7, f8, p3⟩⟩⟩
  , ⟨_, rfl, fun B S hBi hdep hcl => by
    rintro ⟨cr, sl, rfl, h0, h3, f0, f1, f2, f3, f4, f5, f6, f7, f8, p3⟩
    refine r_assign (f5 (hdep 5 rfl)) rfl ?_
    exact awl_nil ⟨rfl, cr, _, rfl, h0, h3, f0, f1, f2, f3, f4, f5, f6, (fun h => rfl), f8, p3⟩⟩⟩
  , ⟨_, rfl, fun B S hBi hdep hcl => by
    rintro ⟨cr, sl, rfl, h0, h3, f0, f1, f2, f3, f4, f5, f6, f7, f8, p3⟩
    refine r_assign (f6 (hdep 6 rfl)) rfl ?_
    exact awl_nil ⟨rfl, cr, _, rfl, h0, h3, f0, f1, f2, f3, f4, f5, f6, f7, (fun h => rfl), p3⟩⟩⟩
  (fun B S hall => by
   rintro ⟨cr, sl, rfl, h0, h3, f0, f1, f2, f3, f4, f5, f6, f7, f8, p3⟩
   have hp3 := p3 (hall 3 (by decide))
   refine x_then ?_
   refine awp_weaken (S' := ⟨23, [(0, .a (encT t)), (3, .a (.v (.pointer (some ⟨b3, 0, none⟩)))), (5, .a (delB h n cr)), (6, .a (boolA cr.isSome))], [⟨b3, true, .box k.cs⟩]⟩) ⟨rfl, (Slots.cons h0 (.refl _) (Slots.cons h3 (.refl _) (Slots.cons (f7 (hall 7 (by decide))) (.refl _) (Slots.cons (f8 (hall 8 (by decide))) (.refl _) Slots.nil)))), (List.Sublist.refl _)⟩ ?_
   refine awp_seq ?_
   refine awp_seq ?_
   refine awp_region ?_
   refine r_move rfl rfl ?_
   refine r_not rfl rfl ?_
   refine awl_nil ?_
   refine x_then ?_
   refine awp_cond rfl (fun hc0 => ?_) (fun hc0 => ?_)
   ·
    obtain rfl : cr = none := by cases cr with | none => rfl | some c => cases hc0
    refine awp_seq ?_
    refine awp_region ?_
    refine r_move rfl rfl ?_
    refine r_assign rfl rfl ?_
    refine awl_nil ?_
    refine x_then ?_
    refine awp_ret ?_
    refine x_thenR ?_
    exact ⟨(.inl rfl), _, [], (.one (by first | exact .mk rfl rfl | exact .nil rfl)), ⟨rfl, t, by unfold DelT; rw [hrt]; exact ⟨none, hp3, rfl⟩, rfl⟩, (List.nil_sublist _), (by simp)⟩
   ·
    obtain ⟨c, rfl⟩ : ∃ c, cr = some c := by cases cr with | none => cases hc0 | some c => exact ⟨c, rfl⟩
    refine awp_skip ?_
    refine x_then ?_
    refine awp_seq ?_
    rcases hro : rootOf h c with _ | ⟨q, e⟩
    ·
     refine awp_imp (imp_le 5 rfl (SV.le.avEq (show delB h n (some c) = .v (.pointer none) from by show encR (rootOf h c) = _; rw [hro]; rfl))) ?_
     refine awp_region ?_
     refine r_move rfl rfl ?_
     refine r_move rfl rfl ?_
     refine r_call0 hq rfl rfl (.cons (.ev rfl rfl) .nil) (Len_ok t) rfl TF.en24 rfl (fun r hr => ?_)
     obtain rfl := hr
     refine r_ari (lenT t - 1) rfl rfl rfl (wrap_id (by omega)) rfl ?_
     refine r_build (parts := [(0, .tmp 17), (1, .tmp 20)]) rfl TF.pl75 TF.zero75 rfl rfl rfl ?_
     refine r_box rfl rfl rfl (fun b22 => ?_)
     refine awl_imp (imp_commit 0 22 rfl rfl rfl rfl) ?_
     refine r_assign rfl rfl ?_
     refine awl_nil ?_
     refine x_then ?_
     refine awp_ret ?_
     exact ⟨(.inl rfl), _, [], (.one (by first | exact .mk rfl rfl | exact .nil rfl)), ⟨rfl, some (rootOf h c, lenT t - 1), by unfold DelT; rw [hrt]; exact ⟨some c, hp3, rfl⟩, by rw [hro]; rfl⟩, (List.nil_sublist _), (by simp)⟩
    ·
     refine awp_imp (imp_le 5 rfl (SV.le.avEq (show delB h n (some c) = ndA e.1 (keysOf q e.2) (valsOf q e.2) (kidsOf q e.2) from by show encR (rootOf h c) = _; rw [hro]; exact enc_eq q e))) ?_
     refine awp_region ?_
     refine r_move rfl rfl ?_
     refine r_move rfl rfl ?_
     refine r_call0 hq rfl rfl (.cons (.ev rfl rfl) .nil) (Len_ok t) rfl TF.en24 rfl (fun r hr => ?_)
     obtain rfl := hr
     refine r_ari (lenT t - 1) rfl rfl rfl (wrap_id (by omega)) rfl ?_
     refine r_build (parts := [(0, .tmp 17), (1, .tmp 20)]) rfl TF.pl75 TF.zero75 rfl rfl rfl ?_
     refine r_box rfl rfl rfl (fun b22 => ?_)
     refine awl_imp (imp_commit 0 22 rfl rfl rfl rfl) ?_
     refine r_assign rfl rfl ?_
     refine awl_nil ?_
     refine x_then ?_
     refine awp_ret ?_
     exact ⟨(.inl rfl), _, [], (.one (by first | exact .mk rfl rfl | exact .nil rfl)), ⟨rfl, some (rootOf h c, lenT t - 1), by unfold DelT; rw [hrt]; exact ⟨some c, hp3, rfl⟩, by rw [hro]; show _ = AV.cp [enc q e, _]; rw [enc_eq]; rfl⟩, (List.nil_sublist _), (by simp)⟩)
theorem TDel_ok (t : TreeV) (hw : wfRt (rootT t)) (hn : 0 ≤ lenT t ∧ lenT t ≤ 1000000) (k : Sp) : AC Try.prog 21 [encT t, spA k] [] (fun r nb => nb = [] ∧ ∃ t', DelT t k t' ∧ r = encT t') := by
  cases hr : rootT t with
  | none => exact TDel_none t hr k
  | some s => obtain ⟨h, n⟩ := s; rw [hr] at hw; exact TDel_some t h n hr hw.1 hw.2 hn k
theorem TPut_none (t : TreeV) (hrt : rootT t = none) (hn : 0 ≤ lenT t ∧ lenT t ≤ 1000000) (k : Sp) (v : Int) : AC Try.prog 23 [encT t, spA k, .v (.int .u64 (v))] [] (fun r nb => nb = [] ∧ ∃ t', PutT t k v t' ∧ r = encT t') := by
 refine ac_of_awp (rs := [6]) (nt := 71) Try.func23 rfl rfl rfl rfl (fun w0 C0 hq => ?_)
 refine awp_seq ?_
 refine awp_region ?_
 refine r_box rfl rfl rfl (fun b4 => ?_)
 refine r_assign rfl rfl ?_
 refine awl_nil ?_
 refine x_then ?_
 refine awp_seq ?_
 refine awp_region ?_
 refine r_move rfl rfl ?_
 refine r_call0 hq rfl rfl (.cons (.ev rfl rfl) .nil) (Len_ok t) rfl TF.en24 rfl (fun r hr => ?_)
 obtain rfl := hr
 refine r_assign rfl rfl ?_
 refine awl_nil ?_
 refine x_then ?_
 refine awp_seq ?_
 refine awp_seq ?_
 refine awp_region ?_
 refine r_move rfl rfl ?_
 refine r_loadAb 0 rfl rfl TF.agg47 TF.sz47 rfl rfl ?_
 refine r_call0 hq rfl rfl (.cons (.ev rfl rfl) (.cons (.ev rfl rfl) .nil)) (Get_ok t (by rw [hrt]; trivial) k) rfl TF.en22 rfl (fun r hr => ?_)
 obtain rfl := hr
 refine r_move rfl rfl ?_
 refine r_extract rfl rfl rfl ?_
 refine r_extract rfl rfl rfl ?_
 refine r_assign rfl rfl ?_
 refine r_assign rfl rfl ?_
 refine awl_nil ?_
 refine x_then ?_
 refine awp_seq ?_
 refine awp_region ?_
 refine r_move rfl rfl ?_
 refine r_not rfl rfl ?_
 refine awl_nil ?_
 refine x_then ?_
 refine awp_cond rfl (fun hc0 => ?_) (fun hc0 => ?_)
 ·
  have hgn : getR (rootT t) k = none := by cases hg : getR (rootT t) k with | none => rfl | some x => rw [hg] at hc0; cases hc0
  refine awp_region ?_
  refine r_move rfl rfl ?_
  refine r_ari (lenT t + 1) rfl rfl rfl (wrap_id (by omega)) rfl ?_
  refine r_assign rfl rfl ?_
  refine awl_nil ?_
  refine x_then ?_
  refine awp_seq ?_
  refine awp_any (fun B S => ∃ xb : Nat, ∃ sl : List (Nat × SV), S = ⟨71, sl, [⟨b4, true, .box k.cs⟩]⟩ ∧ find 0 sl = some (.a (encT t)) ∧ find 2 sl = some (.a (.v (.int .u64 (v)))) ∧ find 4 sl = some (.a (.v (.pointer (some ⟨b4, 0, none⟩)))) ∧ find 7 sl = some (.a (.v (.int .i64 (lenT t + 1)))) ∧ (B 0 = true → find 28 sl = some (.a (encT t))) ∧ (B 1 = true → find 29 sl = some (.a (encR none))) ∧ (B 2 = true → find 30 sl = some (.a (spA k))) ∧ (B 3 = true → find 31 sl = some (.a (.v (.int .u64 (v))))) ∧ (B 4 = true → find 32 sl = some (.a (.sl 1 [[enc 0 (xb, [(k, v)])]]))) ∧ (B 5 = true → find 10 sl = some (.a (.sl 1 [[enc 0 (xb, [(k, v)])]])))) TF.mixed rfl ⟨0, _, rfl, rfl, rfl, rfl, rfl, (fun h => by cases h), (fun h => by cases h), (fun h => by cases h), (fun h => by cases h), (fun h => by cases h), (fun h => by cases h)⟩ ⟨⟨⟨⟨⟨⟨trivial
   , ⟨_, rfl, fun B S hBi hdep hcl => by
     rintro ⟨xb, sl, rfl, h0, h2, h4, h7, f0, f1, f2, f3, f4, f5⟩
     refine r_move h0 rfl ?_
     exact awl_nil ⟨rfl, xb, _, rfl, h0, h2, h4, h7, (fun h => rfl), f1, f2, f3, f4, f5⟩⟩⟩
   , ⟨_, rfl, fun B S hBi hdep hcl => by
     rintro ⟨xb, sl, rfl, h0, h2, h4, h7, f0, f1, f2, f3, f4, f5⟩
     refine r_call0 hq rfl rfl (.cons (.ev (f0 (hdep 0 rfl)) rfl) .nil) (Root_ok t) rfl TF.en18 rfl (fun r hr => ?_)
     obtain rfl := hr
     rw [hrt]
     exact awl_nil ⟨rfl, xb, _, rfl, h0, h2, h4, h7, f0, (fun h => rfl), f2, f3, f4, f5⟩⟩⟩
   , ⟨_, rfl, fun B S hBi hdep hcl => by
     rintro ⟨xb, sl, rfl, h0, h2, h4, h7, f0, f1, f2, f3, f4, f5⟩
     refine r_loadAb 0 h4 rfl TF.agg47 TF.sz47 rfl rfl ?_
     exact awl_nil ⟨rfl, xb, _, rfl, h0, h2, h4, h7, f0, f1, (fun h => rfl), f3, f4, f5⟩⟩⟩
   , ⟨_, rfl, fun B S hBi hdep hcl => by
     rintro ⟨xb, sl, rfl, h0, h2, h4, h7, f0, f1, f2, f3, f4, f5⟩
     refine r_move h2 rfl ?_
     exact awl_nil ⟨rfl, xb, _, rfl, h0, h2, h4, h7, f0, f1, f2, (fun h => rfl), f4, f5⟩⟩⟩
   , ⟨_, rfl, fun B S hBi hdep hcl => by
     rintro ⟨xb, sl, rfl, h0, h2, h4, h7, f0, f1, f2, f3, f4, f5⟩
     refine r_call0 hq rfl rfl (.cons (.ev (f1 (hdep 1 rfl)) rfl) (.cons (.ev (f2 (hdep 2 rfl)) rfl) (.cons (.ev (f3 (hdep 3 rfl)) rfl) .nil))) (put_nil k v) rfl TF.en44 rfl (fun r hr => ?_)
     obtain ⟨bq, rfl⟩ := hr
     exact awl_nil ⟨rfl, bq, _, rfl, h0, h2, h4, h7, f0, f1, f2, f3, (fun h => rfl), (fun h => absurd (hcl 5 4 h rfl) (by rw [hBi]; decide))⟩⟩⟩
   , ⟨_, rfl, fun B S hBi hdep hcl => by
     rintro ⟨xb, sl, rfl, h0, h2, h4, h7, f0, f1, f2, f3, f4, f5⟩
     refine r_assign (f4 (hdep 4 rfl)) rfl ?_
     exact awl_nil ⟨rfl, xb, _, rfl, h0, h2, h4, h7, f0, f1, f2, f3, f4, (fun h => rfl)⟩⟩⟩
   (fun B S hall => by
    rintro ⟨xb, sl, rfl, h0, h2, h4, h7, f0, f1, f2, f3, f4, f5⟩
    skip
    refine x_then ?_
    refine awp_weaken (S' := ⟨71, [(0, .a (encT t)), (2, .a (.v (.int .u64 (v)))), (4, .a (.v (.pointer (some ⟨b4, 0, none⟩)))), (7, .a (.v (.int .i64 (lenT t + 1)))), (10, .a (.sl 1 [[enc 0 (xb, [(k, v)])]]))], [⟨b4, true, .box k.cs⟩]⟩) ⟨rfl, (Slots.cons h0 (.refl _) (Slots.cons h2 (.refl _) (Slots.cons h4 (.refl _) (Slots.cons h7 (.refl _) (Slots.cons (f5 (hall 5 (by decide))) (.refl _) Slots.nil))))), (List.Sublist.refl _)⟩ ?_
    refine awp_seq ?_
    refine awp_seq ?_
    refine awp_region ?_
    refine r_move rfl rfl ?_
    refine r_lenS rfl rfl TF.sl80 rfl ?_
    refine r_cmp rfl rfl rfl rfl ?_
    refine awl_nil ?_
    refine x_then ?_
    refine awp_cond rfl (fun hc1 => ?_) (fun hc1 => ?_)
    ·
     skip
     refine awp_seq ?_
     refine awp_region ?_
     refine r_move rfl rfl ?_
     refine r_index rfl rfl rfl TF.sl80 TF.sz36 (by decide) rfl rfl ?_
     refine r_load1 rfl TF.agg36 rfl ?_
     refine r_move rfl rfl ?_
     refine r_build (parts := [(0, .tmp 38), (1, .tmp 39)]) rfl TF.pl75 TF.zero75 rfl rfl rfl ?_
     refine r_box rfl rfl rfl (fun b41 => ?_)
     refine awl_imp (imp_commit 0 41 rfl rfl rfl rfl) ?_
     refine r_assign rfl rfl ?_
     refine awl_nil ?_
     refine x_then ?_
     refine awp_ret ?_
     refine x_thenR ?_
     exact ⟨(.inl rfl), _, [], (.one (by first | exact .mk rfl rfl | exact .nil rfl)), ⟨rfl, some (some ⟨0, (xb, [(k, v)])⟩, lenT t + 1), ⟨some ⟨0, (xb, [(k, v)])⟩, by rw [hgn]; rfl, by rw [hrt]; exact ⟨xb, rfl⟩⟩, rfl⟩, (List.nil_sublist _), (by simp)⟩
    ·
     exfalso; cases hc1)
 ·
  have hgs : (getR (rootT t) k).isSome = true := by cases hg : getR (rootT t) k with | none => rw [hg] at hc0; cases hc0 | some x => rfl
  exfalso; rw [hrt] at hgs; cases hgs
theorem TPut_some (t : TreeV) (h : Nat) (n : Nd h) (hrt : rootT t = some ⟨h, n⟩) (hw : wfC 1 h n.2) (h2 : 0 < h → 2 ≤ n.2.length) (hn : 0 ≤ lenT t ∧ lenT t ≤ 1000000) (k : Sp) (v : Int) : AC Try.prog 23 [encT t, spA k, .v (.int .u64 (v))] [] (fun r nb => nb = [] ∧ ∃ t', PutT t k v t' ∧ r = encT t') := by
 refine ac_of_awp (rs := [6]) (nt := 71) Try.func23 rfl rfl rfl rfl (fun w0 C0 hq => ?_)
 refine awp_seq ?_
 refine awp_region ?_
 refine r_box rfl rfl rfl (fun b4 => ?_)
 refine r_assign rfl rfl ?_
 refine awl_nil ?_
 refine x_then ?_
 refine awp_seq ?_
 refine awp_region ?_
 refine r_move rfl rfl ?_
 refine r_call0 hq rfl rfl (.cons (.ev rfl rfl) .nil) (Len_ok t) rfl TF.en24 rfl (fun r hr => ?_)
 obtain rfl := hr
 refine r_assign rfl rfl ?_
 refine awl_nil ?_
 refine x_then ?_
 refine awp_seq ?_
 refine awp_seq ?_
 refine awp_region ?_
 refine r_move rfl rfl ?_
 refine r_loadAb 0 rfl rfl TF.agg47 TF.sz47 rfl rfl ?_
 refine r_call0 hq rfl rfl (.cons (.ev rfl rfl) (.cons (.ev rfl rfl) .nil)) (Get_ok t (by rw [hrt]; exact ⟨hw, h2⟩) k) rfl TF.en22 rfl (fun r hr => ?_)
 obtain rfl := hr
 refine r_move rfl rfl ?_
 refine r_extract rfl rfl rfl ?_
 refine r_extract rfl rfl rfl ?_
 refine r_assign rfl rfl ?_
 refine r_assign rfl rfl ?_
 refine awl_nil ?_
 refine x_then ?_
 refine awp_seq ?_
 refine awp_region ?_
 refine r_move rfl rfl ?_
 refine r_not rfl rfl ?_
 refine awl_nil ?_
 refine x_then ?_
 refine awp_cond rfl (fun hc0 => ?_) (fun hc0 => ?_)
 ·
  have hgn : getR (rootT t) k = none := by cases hg : getR (rootT t) k with | none => rfl | some x => rw [hg] at hc0; cases hc0
  refine awp_region ?_
  refine r_move rfl rfl ?_
  refine r_ari (lenT t + 1) rfl rfl rfl (wrap_id (by omega)) rfl ?_
  refine r_assign rfl rfl ?_
  refine awl_nil ?_
  refine x_then ?_
  refine awp_seq ?_
  refine awp_any (fun B S => ∃ l : List (Nd h), ∃ sl : List (Nat × SV), S = ⟨71, sl, [⟨b4, true, .box k.cs⟩]⟩ ∧ find 0 sl = some (.a (encT t)) ∧ find 2 sl = some (.a (.v (.int .u64 (v)))) ∧ find 4 sl = some (.a (.v (.pointer (some ⟨b4, 0, none⟩)))) ∧ find 7 sl = some (.a (.v (.int .i64 (lenT t + 1)))) ∧ (B 0 = true → find 28 sl = some (.a (encT t))) ∧ (B 1 = true → find 29 sl = some (.a (enc h n))) ∧ (B 2 = true → find 30 sl = some (.a (spA k))) ∧ (B 3 = true → find 31 sl = some (.a (.v (.int .u64 (v))))) ∧ (B 4 = true → find 32 sl = some (.a (.sl 1 (l.map fun x => [enc h x])))) ∧ (B 5 = true → find 10 sl = some (.a (.sl 1 (l.map fun x => [enc h x])))) ∧ (B 4 = true → PutR h n k v l)) TF.mixed rfl ⟨[], _, rfl, rfl, rfl, rfl, rfl, (fun h => by cases h), (fun h => by cases h), (fun h => by cases h), (fun h => by cases h), (fun h => by cases h), (fun h => by cases h), (fun h => by cases h)⟩ ⟨⟨⟨⟨⟨⟨trivial
   , ⟨_, rfl, fun B S hBi hdep hcl => by
     rintro ⟨l, sl, rfl, h0, h2, h4, h7, f0, f1, f2, f3, f4, f5, p4⟩
     refine r_move h0 rfl ?_
     exact awl_nil ⟨rfl, l, _, rfl, h0, h2, h4, h7, (fun h => rfl), f1, f2, f3, f4, f5, p4⟩⟩⟩
   , ⟨_, rfl, fun B S hBi hdep hcl => by
     rintro ⟨l, sl, rfl, h0, h2, h4, h7, f0, f1, f2, f3, f4, f5, p4⟩
     refine r_call0 hq rfl rfl (.cons (.ev (f0 (hdep 0 rfl)) rfl) .nil) (Root_ok t) rfl TF.en18 rfl (fun r hr => ?_)
     obtain rfl := hr
     rw [hrt]
     exact awl_nil ⟨rfl, l, _, rfl, h0, h2, h4, h7, f0, (fun h => rfl), f2, f3, f4, f5, p4⟩⟩⟩
   , ⟨_, rfl, fun B S hBi hdep hcl => by
     rintro ⟨l, sl, rfl, h0, h2, h4, h7, f0, f1, f2, f3, f4, f5, p4⟩
     refine r_loadAb 0 h4 rfl TF.agg47 TF.sz47 rfl rfl ?_
     exact awl_nil ⟨rfl, l, _, rfl, h0, h2, h4, h7, f0, f1, (fun h => rfl), f3, f4, f5, p4⟩⟩⟩
   , ⟨_, rfl, fun B S hBi hdep hcl => by
     rintro ⟨l, sl, rfl, h0, h2, h4, h7, f0, f1, f2, f3, f4, f5, p4⟩
     refine r_move h2 rfl ?_
     exact awl_nil ⟨rfl, l, _, rfl, h0, h2, h4, h7, f0, f1, f2, (fun h => rfl), f4, f5, p4⟩⟩⟩
   , ⟨_, rfl, fun B S hBi hdep hcl => by
     rintro ⟨l, sl, rfl, h0, h2, h4, h7, f0, f1, f2, f3, f4, f5, p4⟩
     refine r_call0 hq rfl rfl (.cons (.ev (f1 (hdep 1 rfl)) rfl) (.cons (.ev (f2 (hdep 2 rfl)) rfl) (.cons (.ev (f3 (hdep 3 rfl)) rfl) .nil))) (put_ok h n hw k v) rfl TF.en44 rfl (fun r hr => ?_)
     obtain ⟨lq, hlq, rfl⟩ := hr
     exact awl_nil ⟨rfl, lq, _, rfl, h0, h2, h4, h7, f0, f1, f2, f3, (fun h => rfl), (fun h => absurd (hcl 5 4 h rfl) (by rw [hBi]; decide)), (fun _ => hlq)⟩⟩⟩
   , ⟨_, rfl, fun B S hBi hdep hcl => by
     rintro ⟨l, sl, rfl, h0, h2, h4, h7, f0, f1, f2, f3, f4, f5, p4⟩
     refine r_assign (f4 (hdep 4 rfl)) rfl ?_
     exact awl_nil ⟨rfl, l, _, rfl, h0, h2, h4, h7, f0, f1, f2, f3, f4, (fun h => rfl), p4⟩⟩⟩
   (fun B S hall => by
    rintro ⟨l, sl, rfl, h0, h2, h4, h7, f0, f1, f2, f3, f4, f5, p4⟩
    have hp4 := p4 (hall 4 (by decide))
    have hpw := putR_wf h (Nat.le_refl 1) (by omega) hw hp4
    refine x_then ?_
    refine awp_weaken (S' := ⟨71, [(0, .a (encT t)), (2, .a (.v (.int .u64 (v)))), (4, .a (.v (.pointer (some ⟨b4, 0, none⟩)))), (7, .a (.v (.int .i64 (lenT t + 1)))), (10, .a (.sl 1 (l.map fun x => [enc h x])))], [⟨b4, true, .box k.cs⟩]⟩) ⟨rfl, (Slots.cons h0 (.refl _) (Slots.cons h2 (.refl _) (Slots.cons h4 (.refl _) (Slots.cons h7 (.refl _) (Slots.cons (f5 (hall 5 (by decide))) (.refl _) Slots.nil))))), (List.Sublist.refl _)⟩ ?_
    refine awp_seq ?_
    refine awp_seq ?_
    refine awp_region ?_
    refine r_move rfl rfl ?_
    refine r_lenS rfl rfl TF.sl80 rfl ?_
    refine r_cmp rfl rfl rfl rfl ?_
    refine awl_nil ?_
    refine x_then ?_
    refine awp_cond rfl (fun hc1 => ?_) (fun hc1 => ?_)
    ·
     have hl1 : l.length = 1 := by have := of_decide_eq_true hc1; simp at this; omega
     obtain ⟨x, rfl⟩ : ∃ x, l = [x] := List.length_eq_one_iff.1 hl1
     refine awp_seq ?_
     refine awp_region ?_
     refine r_move rfl rfl ?_
     refine r_index rfl rfl rfl TF.sl80 TF.sz36 (by decide) (congrArg (fun y => some [y]) (enc_eq h x)) rfl ?_
     refine r_load1 rfl TF.agg36 rfl ?_
     refine r_move rfl rfl ?_
     refine r_build (parts := [(0, .tmp 38), (1, .tmp 39)]) rfl TF.pl75 TF.zero75 rfl rfl rfl ?_
     refine r_box rfl rfl rfl (fun b41 => ?_)
     refine awl_imp (imp_commit 0 41 rfl rfl rfl rfl) ?_
     refine r_assign rfl rfl ?_
     refine awl_nil ?_
     refine x_then ?_
     refine awp_ret ?_
     refine x_thenR ?_
     exact ⟨(.inl rfl), _, [], (.one (by first | exact .mk rfl rfl | exact .nil rfl)), ⟨rfl, some (some ⟨h, x⟩, lenT t + 1), ⟨some ⟨h, x⟩, by show _ = some (_, lenT t + _); rw [hgn]; rfl, by rw [hrt]; exact ⟨[x], hp4, .inl ⟨x, rfl, rfl⟩⟩⟩, by show _ = AV.cp [enc h x, _]; rw [enc_eq]; rfl⟩, (List.nil_sublist _), (by simp)⟩
    ·
     have hl1 : l.length ≠ 1 := by have := of_decide_eq_false hc1; simp at this; omega
     refine awp_skip ?_
     refine x_then ?_
     refine awp_seq ?_
     refine awp_region ?_
     refine r_move rfl rfl ?_
     refine r_build (parts := [(2, .tmp 42)]) rfl TF.pl82 TF.zeroR82 rfl rfl rfl ?_
     refine r_box rfl rfl rfl (fun b44 => ?_)
     refine r_assign rfl rfl ?_
     refine awl_nil ?_
     refine x_then ?_
     refine awp_seq ?_
     refine awp_seq ?_
     refine awp_region ?_
     refine r_move rfl rfl ?_
     refine r_lenS rfl rfl TF.sl80 rfl ?_
     refine r_move rfl rfl ?_
     refine awl_nil ?_
     refine x_then ?_
     refine awp_block ?_
     refine awp_loop (fun nn0 S => ∃ j : Nat, ∃ hd : AV, ∃ os : List OE, S = ⟨71, [(7, .a (.v (.int .i64 (lenT t + 1)))), (11, .a (.v (.pointer (some ⟨b44, 0, none⟩)))), (45, .a (.sl 1 (l.map fun x => [enc h x]))), (46, .a (.v (.int .i64 (((l.map fun x => [enc h x]).length : Nat))))), (47, .a (.v (.int .i64 ((j : Int)))))], os ++ [⟨b44, true, .box [hd, .v (.slice none 0 0), .sl 1 (l.map fun x => [enc h x])]⟩]⟩ ∧ nn0 = l.length - j ∧ (j ≤ l.length) ∧ (KeyR (kksOf h l) j hd os)) (l.length - (0)) ⟨71, [(7, .a (.v (.int .i64 (lenT t + 1)))), (11, .a (.v (.pointer (some ⟨b44, 0, none⟩)))), (45, .a (.sl 1 (l.map fun x => [enc h x]))), (46, .a (.v (.int .i64 (((l.map fun x => [enc h x]).length : Nat))))), (47, .a (.v (.int .i64 (((0) : Int)))))], ([]) ++ [⟨b44, true, .box [(.v (.slice none 0 0)), .v (.slice none 0 0), .sl 1 (l.map fun x => [enc h x])]⟩]⟩ ⟨rfl, (Slots.cons rfl (by first | exact .refl _ | exact .nilOwn _ _ | exact .nilSl _ | exact .ownSl _ _ _  | exact SV.le.of_eq (by simp)) (Slots.cons rfl (by first | exact .refl _ | exact .nilOwn _ _ | exact .nilSl _ | exact .ownSl _ _ _  | exact SV.le.of_eq (by simp)) (Slots.cons rfl (by first | exact .refl _ | exact .nilOwn _ _ | exact .nilSl _ | exact .ownSl _ _ _  | exact SV.le.of_eq (by simp)) (Slots.cons rfl (by first | exact .refl _ | exact .nilOwn _ _ | exact .nilSl _ | exact .ownSl _ _ _  | exact SV.le.of_eq (by simp)) (Slots.cons rfl (by first | exact .refl _ | exact .nilOwn _ _ | exact .nilSl _ | exact .ownSl _ _ _  | exact SV.le.of_eq (by simp)) Slots.nil))))), (by first | exact List.Sublist.refl _ | exact .cons_cons _ (.cons _ (.refl _)) | exact List.nil_sublist _ | exact .cons _ (.refl _) | exact .cons _ (.cons _ (.refl _)) | exact .cons _ (.cons _ (.cons _ (.refl _))) | exact .cons _ (.cons _ (.cons _ (.cons _ (.refl _)))) | exact .cons_cons _ (List.nil_sublist _))⟩ ⟨0, .v (.slice none 0 0), [], rfl, rfl, Nat.zero_le _, (.inl ⟨rfl, rfl, rfl⟩)⟩ ?_
     rintro nn0 _ ⟨j, hd, os, rfl, rfl, hk, hK⟩
     refine awp_seq ?_
     refine awp_region ?_
     refine r_cmp rfl rfl rfl rfl ?_
     refine awl_nil ?_
     refine x_then ?_
     refine awp_seq ?_
     refine awp_cond rfl (fun hc2 => ?_) (fun hc2 => ?_)
     ·
      have hltx : j < l.length := by have := of_decide_eq_true hc2; simpa using this
      obtain ⟨x, hx⟩ := get_lt hltx
      have hwx := hpw.1 x (List.mem_of_getElem? hx)
      obtain ⟨y, hy⟩ := hwx.ne (by decide)
      refine awp_skip ?_
      refine x_then ?_
      refine awp_seq ?_
      refine awp_block ?_
      refine awp_seq ?_
      refine awp_region ?_
      refine r_index rfl rfl rfl TF.sl80 TF.sz36 (by omega) ((get_map hx).trans (congrArg (fun q => some [q]) (enc_eq h x))) rfl ?_
      refine r_load1 rfl TF.agg36 rfl ?_
      refine r_assign rfl rfl ?_
      refine awl_nil ?_
      refine x_then ?_
      refine awp_seq ?_
      refine awp_region ?_
      refine r_move rfl rfl ?_
      refine r_call0 hq rfl rfl (.cons (.ev rfl rfl) .nil) (least_ok x.1 (keysOf h x.2) (valsOf h x.2) (kidsOf h x.2) y hy (by rw [keysOf_len]; have := hwx.hi; omega)) rfl TF.en45 rfl (fun r hr => ?_)
      obtain rfl := hr
      refine r_move rfl rfl ?_
      refine r_extract rfl rfl rfl ?_
      refine r_extract rfl rfl rfl ?_
      refine r_alloc TF.zero47 rfl (fun b14 => ?_)
      refine r_store 0 rfl rfl rfl TF.sz47 rfl rfl rfl ?_
      refine r_assign rfl rfl ?_
      refine awl_nil ?_
      refine x_then ?_
      rcases hK with ⟨hk0, rfl, rfl⟩ | ⟨g, cap, n', L, hk0, rfl, hnL, rfl, hL⟩
      ·
       refine awp_any (fun B S => ∃ gb : Nat, ∃ gc : Nat, ∃ sl : List (Nat × SV), S = ⟨71, sl, cond (B 10) [⟨gb, true, .buf 4 [y.cs] gc 47⟩, ⟨b14, true, .box y.cs⟩, ⟨b44, true, .box [.v (.slice (some ⟨gb, 0, none⟩) [y.cs].length gc), .v (.slice none 0 0), .sl 1 (l.map fun x => [enc h x])]⟩] (cond (B 7) [⟨gb, true, .buf 4 [y.cs] gc 47⟩, ⟨b14, true, .box y.cs⟩, ⟨b44, true, .box [.v (.slice none 0 0), .v (.slice none 0 0), .sl 1 (l.map fun x => [enc h x])]⟩] [⟨b14, true, .box y.cs⟩, ⟨b44, true, .box [.v (.slice none 0 0), .v (.slice none 0 0), .sl 1 (l.map fun x => [enc h x])]⟩])⟩ ∧ find 7 sl = some (.a (.v (.int .i64 (lenT t + 1)))) ∧ find 11 sl = some (.a (.v (.pointer (some ⟨b44, 0, none⟩)))) ∧ find 14 sl = some (.a (.v (.pointer (some ⟨b14, 0, none⟩)))) ∧ find 45 sl = some (.a (.sl 1 (l.map fun x => [enc h x]))) ∧ find 46 sl = some (.a (.v (.int .i64 (((l.map fun x => [enc h x]).length : Nat))))) ∧ find 47 sl = some (.a (.v (.int .i64 ((j : Int))))) ∧ (B 0 = true → find 56 sl = some (.a (.v (.pointer (some ⟨b44, 0, none⟩))))) ∧ (B 1 = true → find 57 sl = some (.a (.v (.pointer (some ⟨b44, 0, none⟩))))) ∧ (B 2 = true → find 58 sl = some (.a (.v (.pointer (some ⟨b44, 0, none⟩))))) ∧ (B 3 = true → find 59 sl = some (.a (.v (.pointer (some ⟨b44, 0, none⟩))))) ∧ (B 4 = true → find 60 sl = some (.a (.v (.slice none 0 0)))) ∧ (B 5 = true → find 61 sl = some (.a (spA y))) ∧ (B 6 = true → find 62 sl = some (.a (.sl 4 [y.cs]))) ∧ (B 7 = true → find 63 sl = some (.a (.v (.slice (some ⟨gb, 0, none⟩) [y.cs].length gc)))) ∧ (B 8 = true → find 64 sl = some (.a (.v (.pointer (some ⟨b44, 0, none⟩))))) ∧ (B 9 = true → find 65 sl = some (.a (.v (.pointer (some ⟨b44, 0, none⟩)))))) TF.mixed rfl ⟨0, 0, _, rfl, rfl, rfl, rfl, rfl, rfl, rfl, (fun h => by cases h), (fun h => by cases h), (fun h => by cases h), (fun h => by cases h), (fun h => by cases h), (fun h => by cases h), (fun h => by cases h), (fun h => by cases h), (fun h => by cases h), (fun h => by cases h)⟩ ⟨⟨⟨⟨⟨⟨⟨⟨⟨⟨⟨trivial
        , ⟨_, rfl, fun B S hBi hdep hcl => by
          rintro ⟨gb, gc, sl, rfl, h7, h11, h14, h45, h46, h47, f0, f1, f2, f3, f4, f5, f6, f7, f8, f9⟩
          refine r_move h11 rfl ?_
          exact awl_nil ⟨rfl, gb, gc, _, rfl, h7, h11, h14, h45, h46, h47, (fun h => rfl), f1, f2, f3, f4, f5, f6, f7, f8, f9⟩⟩⟩
        , ⟨_, rfl, fun B S hBi hdep hcl => by
          rintro ⟨gb, gc, sl, rfl, h7, h11, h14, h45, h46, h47, f0, f1, f2, f3, f4, f5, f6, f7, f8, f9⟩
          refine r_move h11 rfl ?_
          exact awl_nil ⟨rfl, gb, gc, _, rfl, h7, h11, h14, h45, h46, h47, f0, (fun h => rfl), f2, f3, f4, f5, f6, f7, f8, f9⟩⟩⟩
        , ⟨_, rfl, fun B S hBi hdep hcl => by
          rintro ⟨gb, gc, sl, rfl, h7, h11, h14, h45, h46, h47, f0, f1, f2, f3, f4, f5, f6, f7, f8, f9⟩
          refine r_nilCheck (f1 (hdep 1 rfl)) (by first | exact .pt _ _ | exact .v _ | exact .cp _) rfl ?_
          exact awl_nil ⟨rfl, gb, gc, _, rfl, h7, h11, h14, h45, h46, h47, f0, f1, (fun h => rfl), f3, f4, f5, f6, f7, f8, f9⟩⟩⟩
        , ⟨_, rfl, fun B S hBi hdep hcl => by
          rintro ⟨gb, gc, sl, rfl, h7, h11, h14, h45, h46, h47, f0, f1, f2, f3, f4, f5, f6, f7, f8, f9⟩
          refine r_fieldb (f2 (hdep 2 rfl)) TF.f82_0 TF.sz78 rfl ?_
          exact awl_nil ⟨rfl, gb, gc, _, rfl, h7, h11, h14, h45, h46, h47, f0, f1, f2, (fun h => rfl), f4, f5, f6, f7, f8, f9⟩⟩⟩
        , ⟨_, rfl, fun B S hBi hdep hcl => by
          rintro ⟨gb, gc, sl, rfl, h7, h11, h14, h45, h46, h47, f0, f1, f2, f3, f4, f5, f6, f7, f8, f9⟩
          have e7 : B 7 = false := by cases h : B 7 with | false => rfl | true => exact absurd (hcl 7 4 h rfl) (by rw [hBi]; decide)
          have e10 : B 10 = false := by cases h : B 10 with | false => rfl | true => exact absurd (hcl 10 4 h rfl) (by rw [hBi]; decide)
          rw [e7, e10]
          refine r_load1b 1 (f3 (hdep 3 rfl)) rfl rfl TF.agg78 rfl ?_
          exact awl_nil ⟨rfl, gb, gc, ((60, .a (.v (.slice none 0 0))) :: sl), (by show _ = (⟨71, _, cond (B 10) [⟨gb, true, .buf 4 [y.cs] gc 47⟩, ⟨b14, true, .box y.cs⟩, ⟨b44, true, .box [.v (.slice (some ⟨gb, 0, none⟩) [y.cs].length gc), .v (.slice none 0 0), .sl 1 (l.map fun x => [enc h x])]⟩] (cond (B 7) [⟨gb, true, .buf 4 [y.cs] gc 47⟩, ⟨b14, true, .box y.cs⟩, ⟨b44, true, .box [.v (.slice none 0 0), .v (.slice none 0 0), .sl 1 (l.map fun x => [enc h x])]⟩] [⟨b14, true, .box y.cs⟩, ⟨b44, true, .box [.v (.slice none 0 0), .v (.slice none 0 0), .sl 1 (l.map fun x => [enc h x])]⟩])⟩ : AState); rw [e7, e10]; rfl), h7, h11, h14, h45, h46, h47, f0, f1, f2, f3, (fun h => rfl), f5, f6, f7, f8, f9⟩⟩⟩
        , ⟨_, rfl, fun B S hBi hdep hcl => by
          rintro ⟨gb, gc, sl, rfl, h7, h11, h14, h45, h46, h47, f0, f1, f2, f3, f4, f5, f6, f7, f8, f9⟩
          have e7 : B 7 = false := by cases h : B 7 with | false => rfl | true => exact absurd (hcl 6 5 (hcl 7 6 h rfl) rfl) (by rw [hBi]; decide)
          have e10 : B 10 = false := by cases h : B 10 with | false => rfl | true => exact absurd (hcl 10 5 h rfl) (by rw [hBi]; decide)
          rw [e7, e10]
          refine r_loadAb 0 h14 rfl TF.agg47 TF.sz47 rfl rfl ?_
          exact awl_nil ⟨rfl, gb, gc, ((61, .a (spA y)) :: sl), (by show _ = (⟨71, _, cond (B 10) [⟨gb, true, .buf 4 [y.cs] gc 47⟩, ⟨b14, true, .box y.cs⟩, ⟨b44, true, .box [.v (.slice (some ⟨gb, 0, none⟩) [y.cs].length gc), .v (.slice none 0 0), .sl 1 (l.map fun x => [enc h x])]⟩] (cond (B 7) [⟨gb, true, .buf 4 [y.cs] gc 47⟩, ⟨b14, true, .box y.cs⟩, ⟨b44, true, .box [.v (.slice none 0 0), .v (.slice none 0 0), .sl 1 (l.map fun x => [enc h x])]⟩] [⟨b14, true, .box y.cs⟩, ⟨b44, true, .box [.v (.slice none 0 0), .v (.slice none 0 0), .sl 1 (l.map fun x => [enc h x])]⟩])⟩ : AState); rw [e7, e10]; rfl), h7, h11, h14, h45, h46, h47, f0, f1, f2, f3, f4, (fun h => rfl), f6, f7, f8, f9⟩⟩⟩
        , ⟨_, rfl, fun B S hBi hdep hcl => by
          rintro ⟨gb, gc, sl, rfl, h7, h11, h14, h45, h46, h47, f0, f1, f2, f3, f4, f5, f6, f7, f8, f9⟩
          refine r_litC (parts := [(0, .tmp 61)]) rfl TF.sl78 TF.sz47 TF.zraw47 rfl rfl rfl (parts_cons (f5 (hdep 5 rfl)) parts_nil) rfl rfl rfl rfl ?_
          exact awl_nil ⟨rfl, gb, gc, _, rfl, h7, h11, h14, h45, h46, h47, f0, f1, f2, f3, f4, f5, (fun h => rfl), f7, f8, f9⟩⟩⟩
        , ⟨_, rfl, fun B S hBi hdep hcl => by
          rintro ⟨gb, gc, sl, rfl, h7, h11, h14, h45, h46, h47, f0, f1, f2, f3, f4, f5, f6, f7, f8, f9⟩
          have e10 : B 10 = false := by cases h : B 10 with | false => rfl | true => exact absurd (hcl 10 7 h rfl) (by rw [hBi]; decide)
          rw [hBi, e10]
          refine r_appendBN (f4 (hdep 4 rfl)) (f6 (hdep 6 rfl)) (by first | exact .sl _ | exact .own _ _) (by simp [chunks]) TF.sl78 TF.sz47 TF.by47 TF.zlen47 (by simp [chunks] <;> omega) (by simp [chunks] <;> omega) rfl (fun gb gc => ?_)
          exact awl_nil ⟨rfl, gb, gc, ((63, .a (.v (.slice (some ⟨gb, 0, none⟩) [y.cs].length gc))) :: sl), (by show _ = (⟨71, _, cond (B 10) [⟨gb, true, .buf 4 [y.cs] gc 47⟩, ⟨b14, true, .box y.cs⟩, ⟨b44, true, .box [.v (.slice (some ⟨gb, 0, none⟩) [y.cs].length gc), .v (.slice none 0 0), .sl 1 (l.map fun x => [enc h x])]⟩] (cond true [⟨gb, true, .buf 4 [y.cs] gc 47⟩, ⟨b14, true, .box y.cs⟩, ⟨b44, true, .box [.v (.slice none 0 0), .v (.slice none 0 0), .sl 1 (l.map fun x => [enc h x])]⟩] [⟨b14, true, .box y.cs⟩, ⟨b44, true, .box [.v (.slice none 0 0), .v (.slice none 0 0), .sl 1 (l.map fun x => [enc h x])]⟩])⟩ : AState); rw [e10]; rfl), h7, h11, h14, h45, h46, h47, f0, f1, f2, f3, f4, f5, f6, (fun h => rfl), f8, f9⟩⟩⟩
        , ⟨_, rfl, fun B S hBi hdep hcl => by
          rintro ⟨gb, gc, sl, rfl, h7, h11, h14, h45, h46, h47, f0, f1, f2, f3, f4, f5, f6, f7, f8, f9⟩
          refine r_nilCheck (f0 (hdep 0 rfl)) (by first | exact .pt _ _ | exact .v _ | exact .cp _) rfl ?_
          exact awl_nil ⟨rfl, gb, gc, _, rfl, h7, h11, h14, h45, h46, h47, f0, f1, f2, f3, f4, f5, f6, f7, (fun h => rfl), f9⟩⟩⟩
        , ⟨_, rfl, fun B S hBi hdep hcl => by
          rintro ⟨gb, gc, sl, rfl, h7, h11, h14, h45, h46, h47, f0, f1, f2, f3, f4, f5, f6, f7, f8, f9⟩
          refine r_fieldb (f8 (hdep 8 rfl)) TF.f82_0 TF.sz78 rfl ?_
          exact awl_nil ⟨rfl, gb, gc, _, rfl, h7, h11, h14, h45, h46, h47, f0, f1, f2, f3, f4, f5, f6, f7, f8, (fun h => rfl)⟩⟩⟩
        , ⟨_, rfl, fun B S hBi hdep hcl => by
          rintro ⟨gb, gc, sl, rfl, h7, h11, h14, h45, h46, h47, f0, f1, f2, f3, f4, f5, f6, f7, f8, f9⟩
          have e7 : B 7 = true := hdep 7 rfl
          rw [hBi, e7]
          refine r_store 2 (f9 (hdep 9 rfl)) rfl (f7 (hdep 7 rfl)) TF.sz78 rfl rfl rfl ?_
          exact awl_nil ⟨rfl, gb, gc, sl, (by show _ = (⟨71, _, cond true [⟨gb, true, .buf 4 [y.cs] gc 47⟩, ⟨b14, true, .box y.cs⟩, ⟨b44, true, .box [.v (.slice (some ⟨gb, 0, none⟩) [y.cs].length gc), .v (.slice none 0 0), .sl 1 (l.map fun x => [enc h x])]⟩] (cond (B 7) [⟨gb, true, .buf 4 [y.cs] gc 47⟩, ⟨b14, true, .box y.cs⟩, ⟨b44, true, .box [.v (.slice none 0 0), .v (.slice none 0 0), .sl 1 (l.map fun x => [enc h x])]⟩] [⟨b14, true, .box y.cs⟩, ⟨b44, true, .box [.v (.slice none 0 0), .v (.slice none 0 0), .sl 1 (l.map fun x => [enc h x])]⟩])⟩ : AState); rw [e7]; rfl), h7, h11, h14, h45, h46, h47, f0, f1, f2, f3, f4, f5, f6, f7, f8, f9⟩⟩⟩
        (fun B S hall => by
         rintro ⟨gb, gc, sl, rfl, h7, h11, h14, h45, h46, h47, f0, f1, f2, f3, f4, f5, f6, f7, f8, f9⟩
         rw [hall 10 (by decide)]
         refine x_block ?_
         refine x_then ?_
         refine awp_weaken (S' := ⟨71, [(7, .a (.v (.int .i64 (lenT t + 1)))), (11, .a (.v (.pointer (some ⟨b44, 0, none⟩)))), (14, .a (.v (.pointer (some ⟨b14, 0, none⟩)))), (45, .a (.sl 1 (l.map fun x => [enc h x]))), (46, .a (.v (.int .i64 (((l.map fun x => [enc h x]).length : Nat))))), (47, .a (.v (.int .i64 ((j : Int)))))], [⟨gb, true, .buf 4 [y.cs] gc 47⟩, ⟨b44, true, .box [.v (.slice (some ⟨gb, 0, none⟩) [y.cs].length gc), .v (.slice none 0 0), .sl 1 (l.map fun x => [enc h x])]⟩]⟩) ⟨rfl, (Slots.cons h7 (.refl _) (Slots.cons h11 (.refl _) (Slots.cons h14 (.refl _) (Slots.cons h45 (.refl _) (Slots.cons h46 (.refl _) (Slots.cons h47 (.refl _) Slots.nil)))))), (.cons_cons _ (.cons _ (List.Sublist.refl _)))⟩ ?_
         refine awp_region ?_
         refine r_ari _ rfl rfl rfl (wrap_id (by first | omega | (simp; omega))) rfl ?_
         refine r_move rfl rfl ?_
         refine awl_nil ?_
         refine x_then ?_
         refine ⟨l.length - (j + 1), ⟨71, [(7, .a (.v (.int .i64 (lenT t + 1)))), (11, .a (.v (.pointer (some ⟨b44, 0, none⟩)))), (45, .a (.sl 1 (l.map fun x => [enc h x]))), (46, .a (.v (.int .i64 (((l.map fun x => [enc h x]).length : Nat))))), (47, .a (.v (.int .i64 (((j + 1) : Int)))))], ([⟨gb, true, .buf 4 [y.cs] gc 47⟩]) ++ [⟨b44, true, .box [(.v (.slice (some ⟨gb, 0, none⟩) [y.cs].length gc)), .v (.slice none 0 0), .sl 1 (l.map fun x => [enc h x])]⟩]⟩, ⟨rfl, (Slots.cons rfl (by first | exact .refl _ | exact .nilOwn _ _ | exact .nilSl _ | exact .ownSl _ _ _  | exact SV.le.of_eq (by simp)) (Slots.cons rfl (by first | exact .refl _ | exact .nilOwn _ _ | exact .nilSl _ | exact .ownSl _ _ _  | exact SV.le.of_eq (by simp)) (Slots.cons rfl (by first | exact .refl _ | exact .nilOwn _ _ | exact .nilSl _ | exact .ownSl _ _ _  | exact SV.le.of_eq (by simp)) (Slots.cons rfl (by first | exact .refl _ | exact .nilOwn _ _ | exact .nilSl _ | exact .ownSl _ _ _  | exact SV.le.of_eq (by simp)) (Slots.cons rfl (by first | exact .refl _ | exact .nilOwn _ _ | exact .nilSl _ | exact .ownSl _ _ _  | exact SV.le.of_eq (by simp)) Slots.nil))))), (by first | exact List.Sublist.refl _ | exact .cons_cons _ (.cons _ (.refl _)) | exact List.nil_sublist _ | exact .cons _ (.refl _) | exact .cons _ (.cons _ (.refl _)) | exact .cons _ (.cons _ (.cons _ (.refl _))) | exact .cons _ (.cons _ (.cons _ (.cons _ (.refl _)))) | exact .cons_cons _ (List.nil_sublist _))⟩, (by omega), ⟨j + 1, .v (.slice (some ⟨gb, 0, none⟩) [y.cs].length gc), [⟨gb, true, .buf 4 [y.cs] gc 47⟩], rfl, rfl, (by omega), (.inr ⟨gb, gc, _, _, by omega, rfl, rfl, rfl, keyR_next (L := []) hx hy (by rw [hk0]; rfl)⟩)⟩⟩)
      ·
       have hLl : L.length ≤ j := by rw [hL, List.length_map, List.length_take]; omega
       refine awp_any (fun B S => ∃ gb : Nat, ∃ gc : Nat, ∃ sl : List (Nat × SV), S = ⟨71, sl, cond (B 10) [⟨gb, true, .buf 4 (L ++ [y.cs]) gc 47⟩, ⟨b14, true, .box y.cs⟩, ⟨b44, true, .box [.v (.slice (some ⟨gb, 0, none⟩) (L ++ [y.cs]).length gc), .v (.slice none 0 0), .sl 1 (l.map fun x => [enc h x])]⟩] (cond (B 7) [⟨gb, true, .buf 4 (L ++ [y.cs]) gc 47⟩, ⟨b14, true, .box y.cs⟩, ⟨b44, true, .box [.v (.slice (some ⟨g, 0, none⟩) n' cap), .v (.slice none 0 0), .sl 1 (l.map fun x => [enc h x])]⟩] [⟨b14, true, .box y.cs⟩, ⟨g, true, .buf 4 L cap 47⟩, ⟨b44, true, .box [.v (.slice (some ⟨g, 0, none⟩) n' cap), .v (.slice none 0 0), .sl 1 (l.map fun x => [enc h x])]⟩])⟩ ∧ find 7 sl = some (.a (.v (.int .i64 (lenT t + 1)))) ∧ find 11 sl = some (.a (.v (.pointer (some ⟨b44, 0, none⟩)))) ∧ find 14 sl = some (.a (.v (.pointer (some ⟨b14, 0, none⟩)))) ∧ find 45 sl = some (.a (.sl 1 (l.map fun x => [enc h x]))) ∧ find 46 sl = some (.a (.v (.int .i64 (((l.map fun x => [enc h x]).length : Nat))))) ∧ find 47 sl = some (.a (.v (.int .i64 ((j : Int))))) ∧ (B 0 = true → find 56 sl = some (.a (.v (.pointer (some ⟨b44, 0, none⟩))))) ∧ (B 1 = true → find 57 sl = some (.a (.v (.pointer (some ⟨b44, 0, none⟩))))) ∧ (B 2 = true → find 58 sl = some (.a (.v (.pointer (some ⟨b44, 0, none⟩))))) ∧ (B 3 = true → find 59 sl = some (.a (.v (.pointer (some ⟨b44, 0, none⟩))))) ∧ (B 4 = true → find 60 sl = some (.a (.v (.slice (some ⟨g, 0, none⟩) n' cap)))) ∧ (B 5 = true → find 61 sl = some (.a (spA y))) ∧ (B 6 = true → find 62 sl = some (.a (.sl 4 [y.cs]))) ∧ (B 7 = true → find 63 sl = some (.a (.v (.slice (some ⟨gb, 0, none⟩) (L ++ [y.cs]).length gc)))) ∧ (B 8 = true → find 64 sl = some (.a (.v (.pointer (some ⟨b44, 0, none⟩))))) ∧ (B 9 = true → find 65 sl = some (.a (.v (.pointer (some ⟨b44, 0, none⟩)))))) TF.mixed rfl ⟨0, 0, _, rfl, rfl, rfl, rfl, rfl, rfl, rfl, (fun h => by cases h), (fun h => by cases h), (fun h => by cases h), (fun h => by cases h), (fun h => by cases h), (fun h => by cases h), (fun h => by cases h), (fun h => by cases h), (fun h => by cases h), (fun h => by cases h)⟩ ⟨⟨⟨⟨⟨⟨⟨⟨⟨⟨⟨trivial
        , ⟨_, rfl, fun B S hBi hdep hcl => by
          rintro ⟨gb, gc, sl, rfl, h7, h11, h14, h45, h46, h47, f0, f1, f2, f3, f4, f5, f6, f7, f8, f9⟩
          refine r_move h11 rfl ?_
          exact awl_nil ⟨rfl, gb, gc, _, rfl, h7, h11, h14, h45, h46, h47, (fun h => rfl), f1, f2, f3, f4, f5, f6, f7, f8, f9⟩⟩⟩
        , ⟨_, rfl, fun B S hBi hdep hcl => by
          rintro ⟨gb, gc, sl, rfl, h7, h11, h14, h45, h46, h47, f0, f1, f2, f3, f4, f5, f6, f7, f8, f9⟩
          refine r_move h11 rfl ?_
          exact awl_nil ⟨rfl, gb, gc, _, rfl, h7, h11, h14, h45, h46, h47, f0, (fun h => rfl), f2, f3, f4, f5, f6, f7, f8, f9⟩⟩⟩
        , ⟨_, rfl, fun B S hBi hdep hcl => by
          rintro ⟨gb, gc, sl, rfl, h7, h11, h14, h45, h46, h47, f0, f1, f2, f3, f4, f5, f6, f7, f8, f9⟩
          refine r_nilCheck (f1 (hdep 1 rfl)) (by first | exact .pt _ _ | exact .v _ | exact .cp _) rfl ?_
          exact awl_nil ⟨rfl, gb, gc, _, rfl, h7, h11, h14, h45, h46, h47, f0, f1, (fun h => rfl), f3, f4, f5, f6, f7, f8, f9⟩⟩⟩
        , ⟨_, rfl, fun B S hBi hdep hcl => by
          rintro ⟨gb, gc, sl, rfl, h7, h11, h14, h45, h46, h47, f0, f1, f2, f3, f4, f5, f6, f7, f8, f9⟩
          refine r_fieldb (f2 (hdep 2 rfl)) TF.f82_0 TF.sz78 rfl ?_
          exact awl_nil ⟨rfl, gb, gc, _, rfl, h7, h11, h14, h45, h46, h47, f0, f1, f2, (fun h => rfl), f4, f5, f6, f7, f8, f9⟩⟩⟩
        , ⟨_, rfl, fun B S hBi hdep hcl => by
          rintro ⟨gb, gc, sl, rfl, h7, h11, h14, h45, h46, h47, f0, f1, f2, f3, f4, f5, f6, f7, f8, f9⟩
          have e7 : B 7 = false := by cases h : B 7 with | false => rfl | true => exact absurd (hcl 7 4 h rfl) (by rw [hBi]; decide)
          have e10 : B 10 = false := by cases h : B 10 with | false => rfl | true => exact absurd (hcl 10 4 h rfl) (by rw [hBi]; decide)
          rw [e7, e10]
          refine r_load1b 2 (f3 (hdep 3 rfl)) rfl rfl TF.agg78 rfl ?_
          exact awl_nil ⟨rfl, gb, gc, ((60, .a (.v (.slice (some ⟨g, 0, none⟩) n' cap))) :: sl), (by show _ = (⟨71, _, cond (B 10) [⟨gb, true, .buf 4 (L ++ [y.cs]) gc 47⟩, ⟨b14, true, .box y.cs⟩, ⟨b44, true, .box [.v (.slice (some ⟨gb, 0, none⟩) (L ++ [y.cs]).length gc), .v (.slice none 0 0), .sl 1 (l.map fun x => [enc h x])]⟩] (cond (B 7) [⟨gb, true, .buf 4 (L ++ [y.cs]) gc 47⟩, ⟨b14, true, .box y.cs⟩, ⟨b44, true, .box [.v (.slice (some ⟨g, 0, none⟩) n' cap), .v (.slice none 0 0), .sl 1 (l.map fun x => [enc h x])]⟩] [⟨b14, true, .box y.cs⟩, ⟨g, true, .buf 4 L cap 47⟩, ⟨b44, true, .box [.v (.slice (some ⟨g, 0, none⟩) n' cap), .v (.slice none 0 0), .sl 1 (l.map fun x => [enc h x])]⟩])⟩ : AState); rw [e7, e10]; rfl), h7, h11, h14, h45, h46, h47, f0, f1, f2, f3, (fun h => rfl), f5, f6, f7, f8, f9⟩⟩⟩
        , ⟨_, rfl, fun B S hBi hdep hcl => by
          rintro ⟨gb, gc, sl, rfl, h7, h11, h14, h45, h46, h47, f0, f1, f2, f3, f4, f5, f6, f7, f8, f9⟩
          have e7 : B 7 = false := by cases h : B 7 with | false => rfl | true => exact absurd (hcl 6 5 (hcl 7 6 h rfl) rfl) (by rw [hBi]; decide)
          have e10 : B 10 = false := by cases h : B 10 with | false => rfl | true => exact absurd (hcl 10 5 h rfl) (by rw [hBi]; decide)
          rw [e7, e10]
          refine r_loadAb 0 h14 rfl TF.agg47 TF.sz47 rfl rfl ?_
          exact awl_nil ⟨rfl, gb, gc, ((61, .a (spA y)) :: sl), (by show _ = (⟨71, _, cond (B 10) [⟨gb, true, .buf 4 (L ++ [y.cs]) gc 47⟩, ⟨b14, true, .box y.cs⟩, ⟨b44, true, .box [.v (.slice (some ⟨gb, 0, none⟩) (L ++ [y.cs]).length gc), .v (.slice none 0 0), .sl 1 (l.map fun x => [enc h x])]⟩] (cond (B 7) [⟨gb, true, .buf 4 (L ++ [y.cs]) gc 47⟩, ⟨b14, true, .box y.cs⟩, ⟨b44, true, .box [.v (.slice (some ⟨g, 0, none⟩) n' cap), .v (.slice none 0 0), .sl 1 (l.map fun x => [enc h x])]⟩] [⟨b14, true, .box y.cs⟩, ⟨g, true, .buf 4 L cap 47⟩, ⟨b44, true, .box [.v (.slice (some ⟨g, 0, none⟩) n' cap), .v (.slice none 0 0), .sl 1 (l.map fun x => [enc h x])]⟩])⟩ : AState); rw [e7, e10]; rfl), h7, h11, h14, h45, h46, h47, f0, f1, f2, f3, f4, (fun h => rfl), f6, f7, f8, f9⟩⟩⟩
        , ⟨_, rfl, fun B S hBi hdep hcl => by
          rintro ⟨gb, gc, sl, rfl, h7, h11, h14, h45, h46, h47, f0, f1, f2, f3, f4, f5, f6, f7, f8, f9⟩
          refine r_litC (parts := [(0, .tmp 61)]) rfl TF.sl78 TF.sz47 TF.zraw47 rfl rfl rfl (parts_cons (f5 (hdep 5 rfl)) parts_nil) rfl rfl rfl rfl ?_
          exact awl_nil ⟨rfl, gb, gc, _, rfl, h7, h11, h14, h45, h46, h47, f0, f1, f2, f3, f4, f5, (fun h => rfl), f7, f8, f9⟩⟩⟩
        , ⟨_, rfl, fun B S hBi hdep hcl => by
          rintro ⟨gb, gc, sl, rfl, h7, h11, h14, h45, h46, h47, f0, f1, f2, f3, f4, f5, f6, f7, f8, f9⟩
          have e10 : B 10 = false := by cases h : B 10 with | false => rfl | true => exact absurd (hcl 10 7 h rfl) (by rw [hBi]; decide)
          rw [hBi, e10]
          refine r_appendBG 1 (f4 (hdep 4 rfl)) hnL rfl (f6 (hdep 6 rfl)) (by first | exact .sl _ | exact .own _ _) (by simp [chunks]) TF.sl78 TF.sz47 TF.by47 TF.zlen47 (by simp [chunks] <;> omega) (by simp [chunks] <;> omega) rfl (fun gb gc => ?_)
          exact awl_nil ⟨rfl, gb, gc, ((63, .a (.v (.slice (some ⟨gb, 0, none⟩) (L ++ [y.cs]).length gc))) :: sl), (by show _ = (⟨71, _, cond (B 10) [⟨gb, true, .buf 4 (L ++ [y.cs]) gc 47⟩, ⟨b14, true, .box y.cs⟩, ⟨b44, true, .box [.v (.slice (some ⟨gb, 0, none⟩) (L ++ [y.cs]).length gc), .v (.slice none 0 0), .sl 1 (l.map fun x => [enc h x])]⟩] (cond true [⟨gb, true, .buf 4 (L ++ [y.cs]) gc 47⟩, ⟨b14, true, .box y.cs⟩, ⟨b44, true, .box [.v (.slice (some ⟨g, 0, none⟩) n' cap), .v (.slice none 0 0), .sl 1 (l.map fun x => [enc h x])]⟩] [⟨b14, true, .box y.cs⟩, ⟨g, true, .buf 4 L cap 47⟩, ⟨b44, true, .box [.v (.slice (some ⟨g, 0, none⟩) n' cap), .v (.slice none 0 0), .sl 1 (l.map fun x => [enc h x])]⟩])⟩ : AState); rw [e10]; rfl), h7, h11, h14, h45, h46, h47, f0, f1, f2, f3, f4, f5, f6, (fun h => rfl), f8, f9⟩⟩⟩
        , ⟨_, rfl, fun B S hBi hdep hcl => by
          rintro ⟨gb, gc, sl, rfl, h7, h11, h14, h45, h46, h47, f0, f1, f2, f3, f4, f5, f6, f7, f8, f9⟩
          refine r_nilCheck (f0 (hdep 0 rfl)) (by first | exact .pt _ _ | exact .v _ | exact .cp _) rfl ?_
          exact awl_nil ⟨rfl, gb, gc, _, rfl, h7, h11, h14, h45, h46, h47, f0, f1, f2, f3, f4, f5, f6, f7, (fun h => rfl), f9⟩⟩⟩
        , ⟨_, rfl, fun B S hBi hdep hcl => by
          rintro ⟨gb, gc, sl, rfl, h7, h11, h14, h45, h46, h47, f0, f1, f2, f3, f4, f5, f6, f7, f8, f9⟩
          refine r_fieldb (f8 (hdep 8 rfl)) TF.f82_0 TF.sz78 rfl ?_
          exact awl_nil ⟨rfl, gb, gc, _, rfl, h7, h11, h14, h45, h46, h47, f0, f1, f2, f3, f4, f5, f6, f7, f8, (fun h => rfl)⟩⟩⟩
        , ⟨_, rfl, fun B S hBi hdep hcl => by
          rintro ⟨gb, gc, sl, rfl, h7, h11, h14, h45, h46, h47, f0, f1, f2, f3, f4, f5, f6, f7, f8, f9⟩
          have e7 : B 7 = true := hdep 7 rfl
          rw [hBi, e7]
          refine r_store 2 (f9 (hdep 9 rfl)) rfl (f7 (hdep 7 rfl)) TF.sz78 rfl rfl rfl ?_
          exact awl_nil ⟨rfl, gb, gc, sl, (by show _ = (⟨71, _, cond true [⟨gb, true, .buf 4 (L ++ [y.cs]) gc 47⟩, ⟨b14, true, .box y.cs⟩, ⟨b44, true, .box [.v (.slice (some ⟨gb, 0, none⟩) (L ++ [y.cs]).length gc), .v (.slice none 0 0), .sl 1 (l.map fun x => [enc h x])]⟩] (cond (B 7) [⟨gb, true, .buf 4 (L ++ [y.cs]) gc 47⟩, ⟨b14, true, .box y.cs⟩, ⟨b44, true, .box [.v (.slice (some ⟨g, 0, none⟩) n' cap), .v (.slice none 0 0), .sl 1 (l.map fun x => [enc h x])]⟩] [⟨b14, true, .box y.cs⟩, ⟨g, true, .buf 4 L cap 47⟩, ⟨b44, true, .box [.v (.slice (some ⟨g, 0, none⟩) n' cap), .v (.slice none 0 0), .sl 1 (l.map fun x => [enc h x])]⟩])⟩ : AState); rw [e7]; rfl), h7, h11, h14, h45, h46, h47, f0, f1, f2, f3, f4, f5, f6, f7, f8, f9⟩⟩⟩
        (fun B S hall => by
         rintro ⟨gb, gc, sl, rfl, h7, h11, h14, h45, h46, h47, f0, f1, f2, f3, f4, f5, f6, f7, f8, f9⟩
         rw [hall 10 (by decide)]
         refine x_block ?_
         refine x_then ?_
         refine awp_weaken (S' := ⟨71, [(7, .a (.v (.int .i64 (lenT t + 1)))), (11, .a (.v (.pointer (some ⟨b44, 0, none⟩)))), (14, .a (.v (.pointer (some ⟨b14, 0, none⟩)))), (45, .a (.sl 1 (l.map fun x => [enc h x]))), (46, .a (.v (.int .i64 (((l.map fun x => [enc h x]).length : Nat))))), (47, .a (.v (.int .i64 ((j : Int)))))], [⟨gb, true, .buf 4 (L ++ [y.cs]) gc 47⟩, ⟨b44, true, .box [.v (.slice (some ⟨gb, 0, none⟩) (L ++ [y.cs]).length gc), .v (.slice none 0 0), .sl 1 (l.map fun x => [enc h x])]⟩]⟩) ⟨rfl, (Slots.cons h7 (.refl _) (Slots.cons h11 (.refl _) (Slots.cons h14 (.refl _) (Slots.cons h45 (.refl _) (Slots.cons h46 (.refl _) (Slots.cons h47 (.refl _) Slots.nil)))))), (.cons_cons _ (.cons _ (List.Sublist.refl _)))⟩ ?_
         refine awp_region ?_
         refine r_ari _ rfl rfl rfl (wrap_id (by first | omega | (simp; omega))) rfl ?_
         refine r_move rfl rfl ?_
         refine awl_nil ?_
         refine x_then ?_
         refine ⟨l.length - (j + 1), ⟨71, [(7, .a (.v (.int .i64 (lenT t + 1)))), (11, .a (.v (.pointer (some ⟨b44, 0, none⟩)))), (45, .a (.sl 1 (l.map fun x => [enc h x]))), (46, .a (.v (.int .i64 (((l.map fun x => [enc h x]).length : Nat))))), (47, .a (.v (.int .i64 (((j + 1) : Int)))))], ([⟨gb, true, .buf 4 (L ++ [y.cs]) gc 47⟩]) ++ [⟨b44, true, .box [(.v (.slice (some ⟨gb, 0, none⟩) (L ++ [y.cs]).length gc)), .v (.slice none 0 0), .sl 1 (l.map fun x => [enc h x])]⟩]⟩, ⟨rfl, (Slots.cons rfl (by first | exact .refl _ | exact .nilOwn _ _ | exact .nilSl _ | exact .ownSl _ _ _  | exact SV.le.of_eq (by simp)) (Slots.cons rfl (by first | exact .refl _ | exact .nilOwn _ _ | exact .nilSl _ | exact .ownSl _ _ _  | exact SV.le.of_eq (by simp)) (Slots.cons rfl (by first | exact .refl _ | exact .nilOwn _ _ | exact .nilSl _ | exact .ownSl _ _ _  | exact SV.le.of_eq (by simp)) (Slots.cons rfl (by first | exact .refl _ | exact .nilOwn _ _ | exact .nilSl _ | exact .ownSl _ _ _  | exact SV.le.of_eq (by simp)) (Slots.cons rfl (by first | exact .refl _ | exact .nilOwn _ _ | exact .nilSl _ | exact .ownSl _ _ _  | exact SV.le.of_eq (by simp)) Slots.nil))))), (by first | exact List.Sublist.refl _ | exact .cons_cons _ (.cons _ (.refl _)) | exact List.nil_sublist _ | exact .cons _ (.refl _) | exact .cons _ (.cons _ (.refl _)) | exact .cons _ (.cons _ (.cons _ (.refl _))) | exact .cons _ (.cons _ (.cons _ (.cons _ (.refl _)))) | exact .cons_cons _ (List.nil_sublist _))⟩, (by omega), ⟨j + 1, .v (.slice (some ⟨gb, 0, none⟩) (L ++ [y.cs]).length gc), [⟨gb, true, .buf 4 (L ++ [y.cs]) gc 47⟩], rfl, rfl, (by omega), (.inr ⟨gb, gc, _, _, by omega, rfl, rfl, rfl, keyR_next hx hy hL⟩)⟩⟩)
     ·
      have hge : l.length ≤ j := by have := of_decide_eq_false hc2; simp at this; omega
      obtain rfl : j = l.length := by omega
      refine awp_exit ?_
      refine x_thenE ?_
      refine x_thenE ?_
      refine x_blockE ?_
      refine x_then ?_
      refine awp_seq ?_
      refine awp_region ?_
      rcases hK with ⟨hk0, _, _⟩ | ⟨g, cap, n', L, hk0, rfl, hnL, rfl, hL⟩
      · exfalso; have := hpw.2.1; omega
      refine awl_imp (imp_commitBk 0 0 0 hnL rfl rfl rfl) ?_
      refine awl_imp (imp_boxLe 0 rfl (.cons (.refl _) (.cons (.nil 1) (.cons (.refl _) .nil)))) ?_
      refine awl_imp (imp_commitP 0 11 rfl rfl rfl rfl) ?_
      refine r_move rfl rfl ?_
      refine r_move rfl rfl ?_
      refine r_build (parts := [(0, .tmp 67), (1, .tmp 68)]) rfl TF.pl75 TF.zero75 rfl rfl rfl ?_
      refine r_box rfl rfl rfl (fun b70 => ?_)
      refine awl_imp (imp_commit 0 70 rfl rfl rfl rfl) ?_
      refine r_assign rfl rfl ?_
      refine awl_nil ?_
      refine x_then ?_
      refine awp_ret ?_
      exact ⟨(.inl rfl), _, [], (.one (by first | exact .mk rfl rfl | exact .nil rfl)), ⟨rfl, some (some ⟨h + 1, (b44, l)⟩, lenT t + 1), ⟨some ⟨h + 1, (b44, l)⟩, by show _ = some (_, lenT t + _); rw [hgn]; rfl, by rw [hrt]; exact ⟨l, hp4, .inr ⟨by have := hpw.2.1; omega, b44, rfl⟩⟩⟩, by show _ = AV.cp [enc (h + 1) (b44, l), _]; rw [← enc_over, hL, ← kksOf_len, List.take_length]; rfl⟩, (List.nil_sublist _), (by simp)⟩)
 ·
  have hgs : (getR (rootT t) k).isSome = true := by cases hg : getR (rootT t) k with | none => rw [hg] at hc0; cases hc0 | some x => rfl
  refine awp_skip ?_
  refine x_then ?_
  refine awp_seq ?_
  refine awp_any (fun B S => ∃ l : List (Nd h), ∃ sl : List (Nat × SV), S = ⟨71, sl, [⟨b4, true, .box k.cs⟩]⟩ ∧ find 0 sl = some (.a (encT t)) ∧ find 2 sl = some (.a (.v (.int .u64 (v)))) ∧ find 4 sl = some (.a (.v (.pointer (some ⟨b4, 0, none⟩)))) ∧ find 7 sl = some (.a (.v (.int .i64 (lenT t)))) ∧ (B 0 = true → find 28 sl = some (.a (encT t))) ∧ (B 1 = true → find 29 sl = some (.a (enc h n))) ∧ (B 2 = true → find 30 sl = some (.a (spA k))) ∧ (B 3 = true → find 31 sl = some (.a (.v (.int .u64 (v))))) ∧ (B 4 = true → find 32 sl = some (.a (.sl 1 (l.map fun x => [enc h x])))) ∧ (B 5 = true → find 10 sl = some (.a (.sl 1 (l.map fun x => [enc h x])))) ∧ (B 4 = true → PutR h n k v l)) TF.mixed rfl ⟨[], _, rfl, rfl, rfl, rfl, rfl, (fun h => by cases h), (fun h => by cases h), (fun h => by cases h), (fun h => by cases h), (fun h => by cases h), (fun h => by cases h), (fun h => by cases h)⟩ ⟨⟨⟨⟨⟨⟨trivial
   , ⟨_, rfl, fun B S hBi hdep hcl => by
     rintro ⟨l, sl, rfl, h0, h2, h4, h7, f0, f1, f2, f3, f4, f5, p4⟩
     refine r_move h0 rfl ?_
     exact awl_nil ⟨rfl, l, _, rfl, h0, h2, h4, h7, (fun h => rfl), f1, f2, f3, f4, f5, p4⟩⟩⟩
   , ⟨_, rfl, fun B S hBi hdep hcl => by
     rintro ⟨l, sl, rfl, h0, h2, h4, h7, f0, f1, f2, f3, f4, f5, p4⟩
     refine r_call0 hq rfl rfl (.cons (.ev (f0 (hdep 0 rfl)) rfl) .nil) (Root_ok t) rfl TF.en18 rfl (fun r hr => ?_)
     obtain rfl := hr
     rw [hrt]
     exact awl_nil ⟨rfl, l, _, rfl, h0, h2, h4, h7, f0, (fun h => rfl), f2, f3, f4, f5, p4⟩⟩⟩
   , ⟨_, rfl, fun B S hBi hdep hcl => by
     rintro ⟨l, sl, rfl, h0, h2, h4, h7, f0, f1, f2, f3, f4, f5, p4⟩
     refine r_loadAb 0 h4 rfl TF.agg47 TF.sz47 rfl rfl ?_
     exact awl_nil ⟨rfl, l, _, rfl, h0, h2, h4, h7, f0, f1, (fun h => rfl), f3, f4, f5, p4⟩⟩⟩
   , ⟨_, rfl, fun B S hBi hdep hcl => by
     rintro ⟨l, sl, rfl, h0, h2, h4, h7, f0, f1, f2, f3, f4, f5, p4⟩
     refine r_move h2 rfl ?_
     exact awl_nil ⟨rfl, l, _, rfl, h0, h2, h4, h7, f0, f1, f2, (fun h => rfl), f4, f5, p4⟩⟩⟩
   , ⟨_, rfl, fun B S hBi hdep hcl => by
     rintro ⟨l, sl, rfl, h0, h2, h4, h7, f0, f1, f2, f3, f4, f5, p4⟩
     refine r_call0 hq rfl rfl (.cons (.ev (f1 (hdep 1 rfl)) rfl) (.cons (.ev (f2 (hdep 2 rfl)) rfl) (.cons (.ev (f3 (hdep 3 rfl)) rfl) .nil))) (put_ok h n hw k v) rfl TF.en44 rfl (fun r hr => ?_)
     obtain ⟨lq, hlq, rfl⟩ := hr
     exact awl_nil ⟨rfl, lq, _, rfl, h0, h2, h4, h7, f0, f1, f2, f3, (fun h => rfl), (fun h => absurd (hcl 5 4 h rfl) (by rw [hBi]; decide)), (fun _ => hlq)⟩⟩⟩
   , ⟨_, rfl, fun B S hBi hdep hcl => by
     rintro ⟨l, sl, rfl, h0, h2, h4, h7, f0, f1, f2, f3, f4, f5, p4⟩
     refine r_assign (f4 (hdep 4 rfl)) rfl ?_
     exact awl_nil ⟨rfl, l, _, rfl, h0, h2, h4, h7, f0, f1, f2, f3, f4, (fun h => rfl), p4⟩⟩⟩
   (fun B S hall => by
    rintro ⟨l, sl, rfl, h0, h2, h4, h7, f0, f1, f2, f3, f4, f5, p4⟩
    have hp4 := p4 (hall 4 (by decide))
    have hpw := putR_wf h (Nat.le_refl 1) (by omega) hw hp4
    refine x_then ?_
    refine awp_weaken (S' := ⟨71, [(0, .a (encT t)), (2, .a (.v (.int .u64 (v)))), (4, .a (.v (.pointer (some ⟨b4, 0, none⟩)))), (7, .a (.v (.int .i64 (lenT t)))), (10, .a (.sl 1 (l.map fun x => [enc h x])))], [⟨b4, true, .box k.cs⟩]⟩) ⟨rfl, (Slots.cons h0 (.refl _) (Slots.cons h2 (.refl _) (Slots.cons h4 (.refl _) (Slots.cons h7 (.refl _) (Slots.cons (f5 (hall 5 (by decide))) (.refl _) Slots.nil))))), (List.Sublist.refl _)⟩ ?_
    refine awp_seq ?_
    refine awp_seq ?_
    refine awp_region ?_
    refine r_move rfl rfl ?_
    refine r_lenS rfl rfl TF.sl80 rfl ?_
    refine r_cmp rfl rfl rfl rfl ?_
    refine awl_nil ?_
    refine x_then ?_
    refine awp_cond rfl (fun hc1 => ?_) (fun hc1 => ?_)
    ·
     have hl1 : l.length = 1 := by have := of_decide_eq_true hc1; simp at this; omega
     obtain ⟨x, rfl⟩ : ∃ x, l = [x] := List.length_eq_one_iff.1 hl1
     refine awp_seq ?_
     refine awp_region ?_
     refine r_move rfl rfl ?_
     refine r_index rfl rfl rfl TF.sl80 TF.sz36 (by decide) (congrArg (fun y => some [y]) (enc_eq h x)) rfl ?_
     refine r_load1 rfl TF.agg36 rfl ?_
     refine r_move rfl rfl ?_
     refine r_build (parts := [(0, .tmp 38), (1, .tmp 39)]) rfl TF.pl75 TF.zero75 rfl rfl rfl ?_
     refine r_box rfl rfl rfl (fun b41 => ?_)
     refine awl_imp (imp_commit 0 41 rfl rfl rfl rfl) ?_
     refine r_assign rfl rfl ?_
     refine awl_nil ?_
     refine x_then ?_
     refine awp_ret ?_
     refine x_thenR ?_
     exact ⟨(.inl rfl), _, [], (.one (by first | exact .mk rfl rfl | exact .nil rfl)), ⟨rfl, some (some ⟨h, x⟩, lenT t), ⟨some ⟨h, x⟩, by show _ = some (_, lenT t + _); rw [hgs]; simp, by rw [hrt]; exact ⟨[x], hp4, .inl ⟨x, rfl, rfl⟩⟩⟩, by show _ = AV.cp [enc h x, _]; rw [enc_eq]; rfl⟩, (List.nil_sublist _), (by simp)⟩
    ·
     have hl1 : l.length ≠ 1 := by have := of_decide_eq_false hc1; simp at this; omega
     refine awp_skip ?_
     refine x_then ?_
     refine awp_seq ?_
     refine awp_region ?_
     refine r_move rfl rfl ?_
     refine r_build (parts := [(2, .tmp 42)]) rfl TF.pl82 TF.zeroR82 rfl rfl rfl ?_
     refine r_box rfl rfl rfl (fun b44 => ?_)
     refine r_assign rfl rfl ?_
     refine awl_nil ?_
     refine x_then ?_
     refine awp_seq ?_
     refine awp_seq ?_
     refine awp_region ?_
     refine r_move rfl rfl ?_
     refine r_lenS rfl rfl TF.sl80 rfl ?_
     refine r_move rfl rfl ?_
     refine awl_nil ?_
     refine x_then ?_
     refine awp_block ?_
     refine awp_loop (fun nn0 S => ∃ j : Nat, ∃ hd : AV, ∃ os : List OE, S = ⟨71, [(7, .a (.v (.int .i64 (lenT t)))), (11, .a (.v (.pointer (some ⟨b44, 0, none⟩)))), (45, .a (.sl 1 (l.map fun x => [enc h x]))), (46, .a (.v (.int .i64 (((l.map fun x => [enc h x]).length : Nat))))), (47, .a (.v (.int .i64 ((j : Int)))))], os ++ [⟨b44, true, .box [hd, .v (.slice none 0 0), .sl 1 (l.map fun x => [enc h x])]⟩]⟩ ∧ nn0 = l.length - j ∧ (j ≤ l.length) ∧ (KeyR (kksOf h l) j hd os)) (l.length - (0)) ⟨71, [(7, .a (.v (.int .i64 (lenT t)))), (11, .a (.v (.pointer (some ⟨b44, 0, none⟩)))), (45, .a (.sl 1 (l.map fun x => [enc h x]))), (46, .a (.v (.int .i64 (((l.map fun x => [enc h x]).length : Nat))))), (47, .a (.v (.int .i64 (((0) : Int)))))], ([]) ++ [⟨b44, true, .box [(.v (.slice none 0 0)), .v (.slice none 0 0), .sl 1 (l.map fun x => [enc h x])]⟩]⟩ ⟨rfl, (Slots.cons rfl (by first | exact .refl _ | exact .nilOwn _ _ | exact .nilSl _ | exact .ownSl _ _ _  | exact SV.le.of_eq (by simp)) (Slots.cons rfl (by first | exact .refl _ | exact .nilOwn _ _ | exact .nilSl _ | exact .ownSl _ _ _  | exact SV.le.of_eq (by simp)) (Slots.cons rfl (by first | exact .refl _ | exact .nilOwn _ _ | exact .nilSl _ | exact .ownSl _ _ _  | exact SV.le.of_eq (by simp)) (Slots.cons rfl (by first | exact .refl _ | exact .nilOwn _ _ | exact .nilSl _ | exact .ownSl _ _ _  | exact SV.le.of_eq (by simp)) (Slots.cons rfl (by first | exact .refl _ | exact .nilOwn _ _ | exact .nilSl _ | exact .ownSl _ _ _  | exact SV.le.of_eq (by simp)) Slots.nil))))), (by first | exact List.Sublist.refl _ | exact .cons_cons _ (.cons _ (.refl _)) | exact List.nil_sublist _ | exact .cons _ (.refl _) | exact .cons _ (.cons _ (.refl _)) | exact .cons _ (.cons _ (.cons _ (.refl _))) | exact .cons _ (.cons _ (.cons _ (.cons _ (.refl _)))) | exact .cons_cons _ (List.nil_sublist _))⟩ ⟨0, .v (.slice none 0 0), [], rfl, rfl, Nat.zero_le _, (.inl ⟨rfl, rfl, rfl⟩)⟩ ?_
     rintro nn0 _ ⟨j, hd, os, rfl, rfl, hk, hK⟩
     refine awp_seq ?_
     refine awp_region ?_
     refine r_cmp rfl rfl rfl rfl ?_
     refine awl_nil ?_
     refine x_then ?_
     refine awp_seq ?_
     refine awp_cond rfl (fun hc2 => ?_) (fun hc2 => ?_)
     ·
      have hltx : j < l.length := by have := of_decide_eq_true hc2; simpa using this
      obtain ⟨x, hx⟩ := get_lt hltx
      have hwx := hpw.1 x (List.mem_of_getElem? hx)
      obtain ⟨y, hy⟩ := hwx.ne (by decide)
      refine awp_skip ?_
      refine x_then ?_
      refine awp_seq ?_
      refine awp_block ?_
      refine awp_seq ?_
      refine awp_region ?_
      refine r_index rfl rfl rfl TF.sl80 TF.sz36 (by omega) ((get_map hx).trans (congrArg (fun q => some [q]) (enc_eq h x))) rfl ?_
      refine r_load1 rfl TF.agg36 rfl ?_
      refine r_assign rfl rfl ?_
      refine awl_nil ?_
      refine x_then ?_
      refine awp_seq ?_
      refine awp_region ?_
      refine r_move rfl rfl ?_
      refine r_call0 hq rfl rfl (.cons (.ev rfl rfl) .nil) (least_ok x.1 (keysOf h x.2) (valsOf h x.2) (kidsOf h x.2) y hy (by rw [keysOf_len]; have := hwx.hi; omega)) rfl TF.en45 rfl (fun r hr => ?_)
      obtain rfl := hr
      refine r_move rfl rfl ?_
      refine r_extract rfl rfl rfl ?_
      refine r_extract rfl rfl rfl ?_
      refine r_alloc TF.zero47 rfl (fun b14 => ?_)
      refine r_store 0 rfl rfl rfl TF.sz47 rfl rfl rfl ?_
      refine r_assign rfl rfl ?_
      refine awl_nil ?_
      refine x_then ?_
      rcases hK with ⟨hk0, rfl, rfl⟩ | ⟨g, cap, n', L, hk0, rfl, hnL, rfl, hL⟩
      ·
       refine awp_any (fun B S => ∃ gb : Nat, ∃ gc : Nat, ∃ sl : List (Nat × SV), S = ⟨71, sl, cond (B 10) [⟨gb, true, .buf 4 [y.cs] gc 47⟩, ⟨b14, true, .box y.cs⟩, ⟨b44, true, .box [.v (.slice (some ⟨gb, 0, none⟩) [y.cs].length gc), .v (.slice none 0 0), .sl 1 (l.map fun x => [enc h x])]⟩] (cond (B 7) [⟨gb, true, .buf 4 [y.cs] gc 47⟩, ⟨b14, true, .box y.cs⟩, ⟨b44, true, .box [.v (.slice none 0 0), .v (.slice none 0 0), .sl 1 (l.map fun x => [enc h x])]⟩] [⟨b14, true, .box y.cs⟩, ⟨b44, true, .box [.v (.slice none 0 0), .v (.slice none 0 0), .sl 1 (l.map fun x => [enc h x])]⟩])⟩ ∧ find 7 sl = some (.a (.v (.int .i64 (lenT t)))) ∧ find 11 sl = some (.a (.v (.pointer (some ⟨b44, 0, none⟩)))) ∧ find 14 sl = some (.a (.v (.pointer (some ⟨b14, 0, none⟩)))) ∧ find 45 sl = some (.a (.sl 1 (l.map fun x => [enc h x]))) ∧ find 46 sl = some (.a (.v (.int .i64 (((l.map fun x => [enc h x]).length : Nat))))) ∧ find 47 sl = some (.a (.v (.int .i64 ((j : Int))))) ∧ (B 0 = true → find 56 sl = some (.a (.v (.pointer (some ⟨b44, 0, none⟩))))) ∧ (B 1 = true → find 57 sl = some (.a (.v (.pointer (some ⟨b44, 0, none⟩))))) ∧ (B 2 = true → find 58 sl = some (.a (.v (.pointer (some ⟨b44, 0, none⟩))))) ∧ (B 3 = true → find 59 sl = some (.a (.v (.pointer (some ⟨b44, 0, none⟩))))) ∧ (B 4 = true → find 60 sl = some (.a (.v (.slice none 0 0)))) ∧ (B 5 = true → find 61 sl = some (.a (spA y))) ∧ (B 6 = true → find 62 sl = some (.a (.sl 4 [y.cs]))) ∧ (B 7 = true → find 63 sl = some (.a (.v (.slice (some ⟨gb, 0, none⟩) [y.cs].length gc)))) ∧ (B 8 = true → find 64 sl = some (.a (.v (.pointer (some ⟨b44, 0, none⟩))))) ∧ (B 9 = true → find 65 sl = some (.a (.v (.pointer (some ⟨b44, 0, none⟩)))))) TF.mixed rfl ⟨0, 0, _, rfl, rfl, rfl, rfl, rfl, rfl, rfl, (fun h => by cases h), (fun h => by cases h), (fun h => by cases h), (fun h => by cases h), (fun h => by cases h), (fun h => by cases h), (fun h => by cases h), (fun h => by cases h), (fun h => by cases h), (fun h => by cases h)⟩ ⟨⟨⟨⟨⟨⟨⟨⟨⟨⟨⟨trivial
        , ⟨_, rfl, fun B S hBi hdep hcl => by
          rintro ⟨gb, gc, sl, rfl, h7, h11, h14, h45, h46, h47, f0, f1, f2, f3, f4, f5, f6, f7, f8, f9⟩
          refine r_move h11 rfl ?_
          exact awl_nil ⟨rfl, gb, gc, _, rfl, h7, h11, h14, h45, h46, h47, (fun h => rfl), f1, f2, f3, f4, f5, f6, f7, f8, f9⟩⟩⟩
        , ⟨_, rfl, fun B S hBi hdep hcl => by
          rintro ⟨gb, gc, sl, rfl, h7, h11, h14, h45, h46, h47, f0, f1, f2, f3, f4, f5, f6, f7, f8, f9⟩
          refine r_move h11 rfl ?_
          exact awl_nil ⟨rfl, gb, gc, _, rfl, h7, h11, h14, h45, h46, h47, f0, (fun h => rfl), f2, f3, f4, f5, f6, f7, f8, f9⟩⟩⟩
        , ⟨_, rfl, fun B S hBi hdep hcl => by
          rintro ⟨gb, gc, sl, rfl, h7, h11, h14, h45, h46, h47, f0, f1, f2, f3, f4, f5, f6, f7, f8, f9⟩
          refine r_nilCheck (f1 (hdep 1 rfl)) (by first | exact .pt _ _ | exact .v _ | exact .cp _) rfl ?_
          exact awl_nil ⟨rfl, gb, gc, _, rfl, h7, h11, h14, h45, h46, h47, f0, f1, (fun h => rfl), f3, f4, f5, f6, f7, f8, f9⟩⟩⟩
        , ⟨_, rfl, fun B S hBi hdep hcl => by
          rintro ⟨gb, gc, sl, rfl, h7, h11, h14, h45, h46, h47, f0, f1, f2, f3, f4, f5, f6, f7, f8, f9⟩
          refine r_fieldb (f2 (hdep 2 rfl)) TF.f82_0 TF.sz78 rfl ?_
          exact awl_nil ⟨rfl, gb, gc, _, rfl, h7, h11, h14, h45, h46, h47, f0, f1, f2, (fun h => rfl), f4, f5, f6, f7, f8, f9⟩⟩⟩
        , ⟨_, rfl, fun B S hBi hdep hcl => by
          rintro ⟨gb, gc, sl, rfl, h7, h11, h14, h45, h46, h47, f0, f1, f2, f3, f4, f5, f6, f7, f8, f9⟩
          have e7 : B 7 = false := by cases h : B 7 with | false => rfl | true => exact absurd (hcl 7 4 h rfl) (by rw [hBi]; decide)
          have e10 : B 10 = false := by cases h : B 10 with | false => rfl | true => exact absurd (hcl 10 4 h rfl) (by rw [hBi]; decide)
          rw [e7, e10]
          refine r_load1b 1 (f3 (hdep 3 rfl)) rfl rfl TF.agg78 rfl ?_
          exact awl_nil ⟨rfl, gb, gc, ((60, .a (.v (.slice none 0 0))) :: sl), (by show _ = (⟨71, _, cond (B 10) [⟨gb, true, .buf 4 [y.cs] gc 47⟩, ⟨b14, true, .box y.cs⟩, ⟨b44, true, .box [.v (.slice (some ⟨gb, 0, none⟩) [y.cs].length gc), .v (.slice none 0 0), .sl 1 (l.map fun x => [enc h x])]⟩] (cond (B 7) [⟨gb, true, .buf 4 [y.cs] gc 47⟩, ⟨b14, true, .box y.cs⟩, ⟨b44, true, .box [.v (.slice none 0 0), .v (.slice none 0 0), .sl 1 (l.map fun x => [enc h x])]⟩] [⟨b14, true, .box y.cs⟩, ⟨b44, true, .box [.v (.slice none 0 0), .v (.slice none 0 0), .sl 1 (l.map fun x => [enc h x])]⟩])⟩ : AState); rw [e7, e10]; rfl), h7, h11, h14, h45, h46, h47, f0, f1, f2, f3, (fun h => rfl), f5, f6, f7, f8, f9⟩⟩⟩
        , ⟨_, rfl, fun B S hBi hdep hcl => by
          rintro ⟨gb, gc, sl, rfl, h7, h11, h14, h45, h46, h47, f0, f1, f2, f3, f4, f5, f6, f7, f8, f9⟩
          have e7 : B 7 = false := by cases h : B 7 with | false => rfl | true => exact absurd (hcl 6 5 (hcl 7 6 h rfl) rfl) (by rw [hBi]; decide)
          have e10 : B 10 = false := by cases h : B 10 with | false => rfl | true => exact absurd (hcl 10 5 h rfl) (by rw [hBi]; decide)
          rw [e7, e10]
          refine r_loadAb 0 h14 rfl TF.agg47 TF.sz47 rfl rfl ?_
          exact awl_nil ⟨rfl, gb, gc, ((61, .a (spA y)) :: sl), (by show _ = (⟨71, _, cond (B 10) [⟨gb, true, .buf 4 [y.cs] gc 47⟩, ⟨b14, true, .box y.cs⟩, ⟨b44, true, .box [.v (.slice (some ⟨gb, 0, none⟩) [y.cs].length gc), .v (.slice none 0 0), .sl 1 (l.map fun x => [enc h x])]⟩] (cond (B 7) [⟨gb, true, .buf 4 [y.cs] gc 47⟩, ⟨b14, true, .box y.cs⟩, ⟨b44, true, .box [.v (.slice none 0 0), .v (.slice none 0 0), .sl 1 (l.map fun x => [enc h x])]⟩] [⟨b14, true, .box y.cs⟩, ⟨b44, true, .box [.v (.slice none 0 0), .v (.slice none 0 0), .sl 1 (l.map fun x => [enc h x])]⟩])⟩ : AState); rw [e7, e10]; rfl), h7, h11, h14, h45, h46, h47, f0, f1, f2, f3, f4, (fun h => rfl), f6, f7, f8, f9⟩⟩⟩
        , ⟨_, rfl, fun B S hBi hdep hcl => by
          rintro ⟨gb, gc, sl, rfl, h7, h11, h14, h45, h46, h47, f0, f1, f2, f3, f4, f5, f6, f7, f8, f9⟩
          refine r_litC (parts := [(0, .tmp 61)]) rfl TF.sl78 TF.sz47 TF.zraw47 rfl rfl rfl (parts_cons (f5 (hdep 5 rfl)) parts_nil) rfl rfl rfl rfl ?_
          exact awl_nil ⟨rfl, gb, gc, _, rfl, h7, h11, h14, h45, h46, h47, f0, f1, f2, f3, f4, f5, (fun h => rfl), f7, f8, f9⟩⟩⟩
        , ⟨_, rfl, fun B S hBi hdep hcl => by
          rintro ⟨gb, gc, sl, rfl, h7, h11, h14, h45, h46, h47, f0, f1, f2, f3, f4, f5, f6, f7, f8, f9⟩
          have e10 : B 10 = false := by cases h : B 10 with | false => rfl | true => exact absurd (hcl 10 7 h rfl) (by rw [hBi]; decide)
          rw [hBi, e10]
          refine r_appendBN (f4 (hdep 4 rfl)) (f6 (hdep 6 rfl)) (by first | exact .sl _ | exact .own _ _) (by simp [chunks]) TF.sl78 TF.sz47 TF.by47 TF.zlen47 (by simp [chunks] <;> omega) (by simp [chunks] <;> omega) rfl (fun gb gc => ?_)
          exact awl_nil ⟨rfl, gb, gc, ((63, .a (.v (.slice (some ⟨gb, 0, none⟩) [y.cs].length gc))) :: sl), (by show _ = (⟨71, _, cond (B 10) [⟨gb, true, .buf 4 [y.cs] gc 47⟩, ⟨b14, true, .box y.cs⟩, ⟨b44, true, .box [.v (.slice (some ⟨gb, 0, none⟩) [y.cs].length gc), .v (.slice none 0 0), .sl 1 (l.map fun x => [enc h x])]⟩] (cond true [⟨gb, true, .buf 4 [y.cs] gc 47⟩, ⟨b14, true, .box y.cs⟩, ⟨b44, true, .box [.v (.slice none 0 0), .v (.slice none 0 0), .sl 1 (l.map fun x => [enc h x])]⟩] [⟨b14, true, .box y.cs⟩, ⟨b44, true, .box [.v (.slice none 0 0), .v (.slice none 0 0), .sl 1 (l.map fun x => [enc h x])]⟩])⟩ : AState); rw [e10]; rfl), h7, h11, h14, h45, h46, h47, f0, f1, f2, f3, f4, f5, f6, (fun h => rfl), f8, f9⟩⟩⟩
        , ⟨_, rfl, fun B S hBi hdep hcl => by
          rintro ⟨gb, gc, sl, rfl, h7, h11, h14, h45, h46, h47, f0, f1, f2, f3, f4, f5, f6, f7, f8, f9⟩
          refine r_nilCheck (f0 (hdep 0 rfl)) (by first | exact .pt _ _ | exact .v _ | exact .cp _) rfl ?_
          exact awl_nil ⟨rfl, gb, gc, _, rfl, h7, h11, h14, h45, h46, h47, f0, f1, f2, f3, f4, f5, f6, f7, (fun h => rfl), f9⟩⟩⟩
        , ⟨_, rfl, fun B S hBi hdep hcl => by
          rintro ⟨gb, gc, sl, rfl, h7, h11, h14, h45, h46, h47, f0, f1, f2, f3, f4, f5, f6, f7, f8, f9⟩
          refine r_fieldb (f8 (hdep 8 rfl)) TF.f82_0 TF.sz78 rfl ?_
          exact awl_nil ⟨rfl, gb, gc, _, rfl, h7, h11, h14, h45, h46, h47, f0, f1, f2, f3, f4, f5, f6, f7, f8, (fun h => rfl)⟩⟩⟩
        , ⟨_, rfl, fun B S hBi hdep hcl => by
          rintro ⟨gb, gc, sl, rfl, h7, h11, h14, h45, h46, h47, f0, f1, f2, f3, f4, f5, f6, f7, f8, f9⟩
          have e7 : B 7 = true := hdep 7 rfl
          rw [hBi, e7]
          refine r_store 2 (f9 (hdep 9 rfl)) rfl (f7 (hdep 7 rfl)) TF.sz78 rfl rfl rfl ?_
          exact awl_nil ⟨rfl, gb, gc, sl, (by show _ = (⟨71, _, cond true [⟨gb, true, .buf 4 [y.cs] gc 47⟩, ⟨b14, true, .box y.cs⟩, ⟨b44, true, .box [.v (.slice (some ⟨gb, 0, none⟩) [y.cs].length gc), .v (.slice none 0 0), .sl 1 (l.map fun x => [enc h x])]⟩] (cond (B 7) [⟨gb, true, .buf 4 [y.cs] gc 47⟩, ⟨b14, true, .box y.cs⟩, ⟨b44, true, .box [.v (.slice none 0 0), .v (.slice none 0 0), .sl 1 (l.map fun x => [enc h x])]⟩] [⟨b14, true, .box y.cs⟩, ⟨b44, true, .box [.v (.slice none 0 0), .v (.slice none 0 0), .sl 1 (l.map fun x => [enc h x])]⟩])⟩ : AState); rw [e7]; rfl), h7, h11, h14, h45, h46, h47, f0, f1, f2, f3, f4, f5, f6, f7, f8, f9⟩⟩⟩
        (fun B S hall => by
         rintro ⟨gb, gc, sl, rfl, h7, h11, h14, h45, h46, h47, f0, f1, f2, f3, f4, f5, f6, f7, f8, f9⟩
         rw [hall 10 (by decide)]
         refine x_block ?_
         refine x_then ?_
         refine awp_weaken (S' := ⟨71, [(7, .a (.v (.int .i64 (lenT t)))), (11, .a (.v (.pointer (some ⟨b44, 0, none⟩)))), (14, .a (.v (.pointer (some ⟨b14, 0, none⟩)))), (45, .a (.sl 1 (l.map fun x => [enc h x]))), (46, .a (.v (.int .i64 (((l.map fun x => [enc h x]).length : Nat))))), (47, .a (.v (.int .i64 ((j : Int)))))], [⟨gb, true, .buf 4 [y.cs] gc 47⟩, ⟨b44, true, .box [.v (.slice (some ⟨gb, 0, none⟩) [y.cs].length gc), .v (.slice none 0 0), .sl 1 (l.map fun x => [enc h x])]⟩]⟩) ⟨rfl, (Slots.cons h7 (.refl _) (Slots.cons h11 (.refl _) (Slots.cons h14 (.refl _) (Slots.cons h45 (.refl _) (Slots.cons h46 (.refl _) (Slots.cons h47 (.refl _) Slots.nil)))))), (.cons_cons _ (.cons _ (List.Sublist.refl _)))⟩ ?_
         refine awp_region ?_
         refine r_ari _ rfl rfl rfl (wrap_id (by first | omega | (simp; omega))) rfl ?_
         refine r_move rfl rfl ?_
         refine awl_nil ?_
         refine x_then ?_
         refine ⟨l.length - (j + 1), ⟨71, [(7, .a (.v (.int .i64 (lenT t)))), (11, .a (.v (.pointer (some ⟨b44, 0, none⟩)))), (45, .a (.sl 1 (l.map fun x => [enc h x]))), (46, .a (.v (.int .i64 (((l.map fun x => [enc h x]).length : Nat))))), (47, .a (.v (.int .i64 (((j + 1) : Int)))))], ([⟨gb, true, .buf 4 [y.cs] gc 47⟩]) ++ [⟨b44, true, .box [(.v (.slice (some ⟨gb, 0, none⟩) [y.cs].length gc)), .v (.slice none 0 0), .sl 1 (l.map fun x => [enc h x])]⟩]⟩, ⟨rfl, (Slots.cons rfl (by first | exact .refl _ | exact .nilOwn _ _ | exact .nilSl _ | exact .ownSl _ _ _  | exact SV.le.of_eq (by simp)) (Slots.cons rfl (by first | exact .refl _ | exact .nilOwn _ _ | exact .nilSl _ | exact .ownSl _ _ _  | exact SV.le.of_eq (by simp)) (Slots.cons rfl (by first | exact .refl _ | exact .nilOwn _ _ | exact .nilSl _ | exact .ownSl _ _ _  | exact SV.le.of_eq (by simp)) (Slots.cons rfl (by first | exact .refl _ | exact .nilOwn _ _ | exact .nilSl _ | exact .ownSl _ _ _  | exact SV.le.of_eq (by simp)) (Slots.cons rfl (by first | exact .refl _ | exact .nilOwn _ _ | exact .nilSl _ | exact .ownSl _ _ _  | exact SV.le.of_eq (by simp)) Slots.nil))))), (by first | exact List.Sublist.refl _ | exact .cons_cons _ (.cons _ (.refl _)) | exact List.nil_sublist _ | exact .cons _ (.refl _) | exact .cons _ (.cons _ (.refl _)) | exact .cons _ (.cons _ (.cons _ (.refl _))) | exact .cons _ (.cons _ (.cons _ (.cons _ (.refl _)))) | exact .cons_cons _ (List.nil_sublist _))⟩, (by omega), ⟨j + 1, .v (.slice (some ⟨gb, 0, none⟩) [y.cs].length gc), [⟨gb, true, .buf 4 [y.cs] gc 47⟩], rfl, rfl, (by omega), (.inr ⟨gb, gc, _, _, by omega, rfl, rfl, rfl, keyR_next (L := []) hx hy (by rw [hk0]; rfl)⟩)⟩⟩)
      ·
       have hLl : L.length ≤ j := by rw [hL, List.length_map, List.length_take]; omega
       refine awp_any (fun B S => ∃ gb : Nat, ∃ gc : Nat, ∃ sl : List (Nat × SV), S = ⟨71, sl, cond (B 10) [⟨gb, true, .buf 4 (L ++ [y.cs]) gc 47⟩, ⟨b14, true, .box y.cs⟩, ⟨b44, true, .box [.v (.slice (some ⟨gb, 0, none⟩) (L ++ [y.cs]).length gc), .v (.slice none 0 0), .sl 1 (l.map fun x => [enc h x])]⟩] (cond (B 7) [⟨gb, true, .buf 4 (L ++ [y.cs]) gc 47⟩, ⟨b14, true, .box y.cs⟩, ⟨b44, true, .box [.v (.slice (some ⟨g, 0, none⟩) n' cap), .v (.slice none 0 0), .sl 1 (l.map fun x => [enc h x])]⟩] [⟨b14, true, .box y.cs⟩, ⟨g, true, .buf 4 L cap 47⟩, ⟨b44, true, .box [.v (.slice (some ⟨g, 0, none⟩) n' cap), .v (.slice none 0 0), .sl 1 (l.map fun x => [enc h x])]⟩])⟩ ∧ find 7 sl = some (.a (.v (.int .i64 (lenT t)))) ∧ find 11 sl = some (.a (.v (.pointer (some ⟨b44, 0, none⟩)))) ∧ find 14 sl = some (.a (.v (.pointer (some ⟨b14, 0, none⟩)))) ∧ find 45 sl = some (.a (.sl 1 (l.map fun x => [enc h x]))) ∧ find 46 sl = some (.a (.v (.int .i64 (((l.map fun x => [enc h x]).length : Nat))))) ∧ find 47 sl = some (.a (.v (.int .i64 ((j : Int))))) ∧ (B 0 = true → find 56 sl = some (.a (.v (.pointer (some ⟨b44, 0, none⟩))))) ∧ (B 1 = true → find 57 sl = some (.a (.v (.pointer (some ⟨b44, 0, none⟩))))) ∧ (B 2 = true → find 58 sl = some (.a (.v (.pointer (some ⟨b44, 0, none⟩))))) ∧ (B 3 = true → find 59 sl = some (.a (.v (.pointer (some ⟨b44, 0, none⟩))))) ∧ (B 4 = true → find 60 sl = some (.a (.v (.slice (some ⟨g, 0, none⟩) n' cap)))) ∧ (B 5 = true → find 61 sl = some (.a (spA y))) ∧ (B 6 = true → find 62 sl = some (.a (.sl 4 [y.cs]))) ∧ (B 7 = true → find 63 sl = some (.a (.v (.slice (some ⟨gb, 0, none⟩) (L ++ [y.cs]).length gc)))) ∧ (B 8 = true → find 64 sl = some (.a (.v (.pointer (some ⟨b44, 0, none⟩))))) ∧ (B 9 = true → find 65 sl = some (.a (.v (.pointer (some ⟨b44, 0, none⟩)))))) TF.mixed rfl ⟨0, 0, _, rfl, rfl, rfl, rfl, rfl, rfl, rfl, (fun h => by cases h), (fun h => by cases h), (fun h => by cases h), (fun h => by cases h), (fun h => by cases h), (fun h => by cases h), (fun h => by cases h), (fun h => by cases h), (fun h => by cases h), (fun h => by cases h)⟩ ⟨⟨⟨⟨⟨⟨⟨⟨⟨⟨⟨trivial
        , ⟨_, rfl, fun B S hBi hdep hcl => by
          rintro ⟨gb, gc, sl, rfl, h7, h11, h14, h45, h46, h47, f0, f1, f2, f3, f4, f5, f6, f7, f8, f9⟩
          refine r_move h11 rfl ?_
          exact awl_nil ⟨rfl, gb, gc, _, rfl, h7, h11, h14, h45, h46, h47, (fun h => rfl), f1, f2, f3, f4, f5, f6, f7, f8, f9⟩⟩⟩
        , ⟨_, rfl, fun B S hBi hdep hcl => by
          rintro ⟨gb, gc, sl, rfl, h7, h11, h14, h45, h46, h47, f0, f1, f2, f3, f4, f5, f6, f7, f8, f9⟩
          refine r_move h11 rfl ?_
          exact awl_nil ⟨rfl, gb, gc, _, rfl, h7, h11, h14, h45, h46, h47, f0, (fun h => rfl), f2, f3, f4, f5, f6, f7, f8, f9⟩⟩⟩
        , ⟨_, rfl, fun B S hBi hdep hcl => by
          rintro ⟨gb, gc, sl, rfl, h7, h11, h14, h45, h46, h47, f0, f1, f2, f3, f4, f5, f6, f7, f8, f9⟩
          refine r_nilCheck (f1 (hdep 1 rfl)) (by first | exact .pt _ _ | exact .v _ | exact .cp _) rfl ?_
          exact awl_nil ⟨rfl, gb, gc, _, rfl, h7, h11, h14, h45, h46, h47, f0, f1, (fun h => rfl), f3, f4, f5, f6, f7, f8, f9⟩⟩⟩
        , ⟨_, rfl, fun B S hBi hdep hcl => by
          rintro ⟨gb, gc, sl, rfl, h7, h11, h14, h45, h46, h47, f0, f1, f2, f3, f4, f5, f6, f7, f8, f9⟩
          refine r_fieldb (f2 (hdep 2 rfl)) TF.f82_0 TF.sz78 rfl ?_
          exact awl_nil ⟨rfl, gb, gc, _, rfl, h7, h11, h14, h45, h46, h47, f0, f1, f2, (fun h => rfl), f4, f5, f6, f7, f8, f9⟩⟩⟩
        , ⟨_, rfl, fun B S hBi hdep hcl => by
          rintro ⟨gb, gc, sl, rfl, h7, h11, h14, h45, h46, h47, f0, f1, f2, f3, f4, f5, f6, f7, f8, f9⟩
          have e7 : B 7 = false := by cases h : B 7 with | false => rfl | true => exact absurd (hcl 7 4 h rfl) (by rw [hBi]; decide)
          have e10 : B 10 = false := by cases h : B 10 with | false => rfl | true => exact absurd (hcl 10 4 h rfl) (by rw [hBi]; decide)
          rw [e7, e10]
          refine r_load1b 2 (f3 (hdep 3 rfl)) rfl rfl TF.agg78 rfl ?_
          exact awl_nil ⟨rfl, gb, gc, ((60, .a (.v (.slice (some ⟨g, 0, none⟩) n' cap))) :: sl), (by show _ = (⟨71, _, cond (B 10) [⟨gb, true, .buf 4 (L ++ [y.cs]) gc 47⟩, ⟨b14, true, .box y.cs⟩, ⟨b44, true, .box [.v (.slice (some ⟨gb, 0, none⟩) (L ++ [y.cs]).length gc), .v (.slice none 0 0), .sl 1 (l.map fun x => [enc h x])]⟩] (cond (B 7) [⟨gb, true, .buf 4 (L ++ [y.cs]) gc 47⟩, ⟨b14, true, .box y.cs⟩, ⟨b44, true, .box [.v (.slice (some ⟨g, 0, none⟩) n' cap), .v (.slice none 0 0), .sl 1 (l.map fun x => [enc h x])]⟩] [⟨b14, true, .box y.cs⟩, ⟨g, true, .buf 4 L cap 47⟩, ⟨b44, true, .box [.v (.slice (some ⟨g, 0, none⟩) n' cap), .v (.slice none 0 0), .sl 1 (l.map fun x => [enc h x])]⟩])⟩ : AState); rw [e7, e10]; rfl), h7, h11, h14, h45, h46, h47, f0, f1, f2, f3, (fun h => rfl), f5, f6, f7, f8, f9⟩⟩⟩
        , ⟨_, rfl, fun B S hBi hdep hcl => by
          rintro ⟨gb, gc, sl, rfl, h7, h11, h14, h45, h46, h47, f0, f1, f2, f3, f4, f5, f6, f7, f8, f9⟩
          have e7 : B 7 = false := by cases h : B 7 with | false => rfl | true => exact absurd (hcl 6 5 (hcl 7 6 h rfl) rfl) (by rw [hBi]; decide)
          have e10 : B 10 = false := by cases h : B 10 with | false => rfl | true => exact absurd (hcl 10 5 h rfl) (by rw [hBi]; decide)
          rw [e7, e10]
          refine r_loadAb 0 h14 rfl TF.agg47 TF.sz47 rfl rfl ?_
          exact awl_nil ⟨rfl, gb, gc, ((61, .a (spA y)) :: sl), (by show _ = (⟨71, _, cond (B 10) [⟨gb, true, .buf 4 (L ++ [y.cs]) gc 47⟩, ⟨b14, true, .box y.cs⟩, ⟨b44, true, .box [.v (.slice (some ⟨gb, 0, none⟩) (L ++ [y.cs]).length gc), .v (.slice none 0 0), .sl 1 (l.map fun x => [enc h x])]⟩] (cond (B 7) [⟨gb, true, .buf 4 (L ++ [y.cs]) gc 47⟩, ⟨b14, true, .box y.cs⟩, ⟨b44, true, .box [.v (.slice (some ⟨g, 0, none⟩) n' cap), .v (.slice none 0 0), .sl 1 (l.map fun x => [enc h x])]⟩] [⟨b14, true, .box y.cs⟩, ⟨g, true, .buf 4 L cap 47⟩, ⟨b44, true, .box [.v (.slice (some ⟨g, 0, none⟩) n' cap), .v (.slice none 0 0), .sl 1 (l.map fun x => [enc h x])]⟩])⟩ : AState); rw [e7, e10]; rfl), h7, h11, h14, h45, h46, h47, f0, f1, f2, f3, f4, (fun h => rfl), f6, f7, f8, f9⟩⟩⟩
        , ⟨_, rfl, fun B S hBi hdep hcl => by
          rintro ⟨gb, gc, sl, rfl, h7, h11, h14, h45, h46, h47, f0, f1, f2, f3, f4, f5, f6, f7, f8, f9⟩
          refine r_litC (parts := [(0, .tmp 61)]) rfl TF.sl78 TF.sz47 TF.zraw47 rfl rfl rfl (parts_cons (f5 (hdep 5 rfl)) parts_nil) rfl rfl rfl rfl ?_
          exact awl_nil ⟨rfl, gb, gc, _, rfl, h7, h11, h14, h45, h46, h47, f0, f1, f2, f3, f4, f5, (fun h => rfl), f7, f8, f9⟩⟩⟩
        , ⟨_, rfl, fun B S hBi hdep hcl => by
          rintro ⟨gb, gc, sl, rfl, h7, h11, h14, h45, h46, h47, f0, f1, f2, f3, f4, f5, f6, f7, f8, f9⟩
          have e10 : B 10 = false := by cases h : B 10 with | false => rfl | true => exact absurd (hcl 10 7 h rfl) (by rw [hBi]; decide)
          rw [hBi, e10]
          refine r_appendBG 1 (f4 (hdep 4 rfl)) hnL rfl (f6 (hdep 6 rfl)) (by first | exact .sl _ | exact .own _ _) (by simp [chunks]) TF.sl78 TF.sz47 TF.by47 TF.zlen47 (by simp [chunks] <;> omega) (by simp [chunks] <;> omega) rfl (fun gb gc => ?_)
          exact awl_nil ⟨rfl, gb, gc, ((63, .a (.v (.slice (some ⟨gb, 0, none⟩) (L ++ [y.cs]).length gc))) :: sl), (by show _ = (⟨71, _, cond (B 10) [⟨gb, true, .buf 4 (L ++ [y.cs]) gc 47⟩, ⟨b14, true, .box y.cs⟩, ⟨b44, true, .box [.v (.slice (some ⟨gb, 0, none⟩) (L ++ [y.cs]).length gc), .v (.slice none 0 0), .sl 1 (l.map fun x => [enc h x])]⟩] (cond true [⟨gb, true, .buf 4 (L ++ [y.cs]) gc 47⟩, ⟨b14, true, .box y.cs⟩, ⟨b44, true, .box [.v (.slice (some ⟨g, 0, none⟩) n' cap), .v (.slice none 0 0), .sl 1 (l.map fun x => [enc h x])]⟩] [⟨b14, true, .box y.cs⟩, ⟨g, true, .buf 4 L cap 47⟩, ⟨b44, true, .box [.v (.slice (some ⟨g, 0, none⟩) n' cap), .v (.slice none 0 0), .sl 1 (l.map fun x => [enc h x])]⟩])⟩ : AState); rw [e10]; rfl), h7, h11, h14, h45, h46, h47, f0, f1, f2, f3, f4, f5, f6, (fun h => rfl), f8, f9⟩⟩⟩
        , ⟨_, rfl, fun B S hBi hdep hcl => by
          rintro ⟨gb, gc, sl, rfl, h7, h11, h14, h45, h46, h47, f0, f1, f2, f3, f4, f5, f6, f7, f8, f9⟩
          refine r_nilCheck (f0 (hdep 0 rfl)) (by first | exact .pt _ _ | exact .v _ | exact .cp _) rfl ?_
          exact awl_nil ⟨rfl, gb, gc, _, rfl, h7, h11, h14, h45, h46, h47, f0, f1, f2, f3, f4, f5, f6, f7, (fun h => rfl), f9⟩⟩⟩
        , ⟨_, rfl, fun B S hBi hdep hcl => by
          rintro ⟨gb, gc, sl, rfl, h7, h11, h14, h45, h46, h47, f0, f1, f2, f3, f4, f5, f6, f7, f8, f9⟩
          refine r_fieldb (f8 (hdep 8 rfl)) TF.f82_0 TF.sz78 rfl ?_
          exact awl_nil ⟨rfl, gb, gc, _, rfl, h7, h11, h14, h45, h46, h47, f0, f1, f2, f3, f4, f5, f6, f7, f8, (fun h => rfl)⟩⟩⟩
        , ⟨_, rfl, fun B S hBi hdep hcl => by
          rintro ⟨gb, gc, sl, rfl, h7, h11, h14, h45, h46, h47, f0, f1, f2, f3, f4, f5, f6, f7, f8, f9⟩
          have e7 : B 7 = true := hdep 7 rfl
          rw [hBi, e7]
          refine r_store 2 (f9 (hdep 9 rfl)) rfl (f7 (hdep 7 rfl)) TF.sz78 rfl rfl rfl ?_
          exact awl_nil ⟨rfl, gb, gc, sl, (by show _ = (⟨71, _, cond true [⟨gb, true, .buf 4 (L ++ [y.cs]) gc 47⟩, ⟨b14, true, .box y.cs⟩, ⟨b44, true, .box [.v (.slice (some ⟨gb, 0, none⟩) (L ++ [y.cs]).length gc), .v (.slice none 0 0), .sl 1 (l.map fun x => [enc h x])]⟩] (cond (B 7) [⟨gb, true, .buf 4 (L ++ [y.cs]) gc 47⟩, ⟨b14, true, .box y.cs⟩, ⟨b44, true, .box [.v (.slice (some ⟨g, 0, none⟩) n' cap), .v (.slice none 0 0), .sl 1 (l.map fun x => [enc h x])]⟩] [⟨b14, true, .box y.cs⟩, ⟨g, true, .buf 4 L cap 47⟩, ⟨b44, true, .box [.v (.slice (some ⟨g, 0, none⟩) n' cap), .v (.slice none 0 0), .sl 1 (l.map fun x => [enc h x])]⟩])⟩ : AState); rw [e7]; rfl), h7, h11, h14, h45, h46, h47, f0, f1, f2, f3, f4, f5, f6, f7, f8, f9⟩⟩⟩
        (fun B S hall => by
         rintro ⟨gb, gc, sl, rfl, h7, h11, h14, h45, h46, h47, f0, f1, f2, f3, f4, f5, f6, f7, f8, f9⟩
         rw [hall 10 (by decide)]
         refine x_block ?_
         refine x_then ?_
         refine awp_weaken (S' := ⟨71, [(7, .a (.v (.int .i64 (lenT t)))), (11, .a (.v (.pointer (some ⟨b44, 0, none⟩)))), (14, .a (.v (.pointer (some ⟨b14, 0, none⟩)))), (45, .a (.sl 1 (l.map fun x => [enc h x]))), (46, .a (.v (.int .i64 (((l.map fun x => [enc h x]).length : Nat))))), (47, .a (.v (.int .i64 ((j : Int)))))], [⟨gb, true, .buf 4 (L ++ [y.cs]) gc 47⟩, ⟨b44, true, .box [.v (.slice (some ⟨gb, 0, none⟩) (L ++ [y.cs]).length gc), .v (.slice none 0 0), .sl 1 (l.map fun x => [enc h x])]⟩]⟩) ⟨rfl, (Slots.cons h7 (.refl _) (Slots.cons h11 (.refl _) (Slots.cons h14 (.refl _) (Slots.cons h45 (.refl _) (Slots.cons h46 (.refl _) (Slots.cons h47 (.refl _) Slots.nil)))))), (.cons_cons _ (.cons _ (List.Sublist.refl _)))⟩ ?_
         refine awp_region ?_
         refine r_ari _ rfl rfl rfl (wrap_id (by first | omega | (simp; omega))) rfl ?_
         refine r_move rfl rfl ?_
         refine awl_nil ?_
         refine x_then ?_
         refine ⟨l.length - (j + 1), ⟨71, [(7, .a (.v (.int .i64 (lenT t)))), (11, .a (.v (.pointer (some ⟨b44, 0, none⟩)))), (45, .a (.sl 1 (l.map fun x => [enc h x]))), (46, .a (.v (.int .i64 (((l.map fun x => [enc h x]).length : Nat))))), (47, .a (.v (.int .i64 (((j + 1) : Int)))))], ([⟨gb, true, .buf 4 (L ++ [y.cs]) gc 47⟩]) ++ [⟨b44, true, .box [(.v (.slice (some ⟨gb, 0, none⟩) (L ++ [y.cs]).length gc)), .v (.slice none 0 0), .sl 1 (l.map fun x => [enc h x])]⟩]⟩, ⟨rfl, (Slots.cons rfl (by first | exact .refl _ | exact .nilOwn _ _ | exact .nilSl _ | exact .ownSl _ _ _  | exact SV.le.of_eq (by simp)) (Slots.cons rfl (by first | exact .refl _ | exact .nilOwn _ _ | exact .nilSl _ | exact .ownSl _ _ _  | exact SV.le.of_eq (by simp)) (Slots.cons rfl (by first | exact .refl _ | exact .nilOwn _ _ | exact .nilSl _ | exact .ownSl _ _ _  | exact SV.le.of_eq (by simp)) (Slots.cons rfl (by first | exact .refl _ | exact .nilOwn _ _ | exact .nilSl _ | exact .ownSl _ _ _  | exact SV.le.of_eq (by simp)) (Slots.cons rfl (by first | exact .refl _ | exact .nilOwn _ _ | exact .nilSl _ | exact .ownSl _ _ _  | exact SV.le.of_eq (by simp)) Slots.nil))))), (by first | exact List.Sublist.refl _ | exact .cons_cons _ (.cons _ (.refl _)) | exact List.nil_sublist _ | exact .cons _ (.refl _) | exact .cons _ (.cons _ (.refl _)) | exact .cons _ (.cons _ (.cons _ (.refl _))) | exact .cons _ (.cons _ (.cons _ (.cons _ (.refl _)))) | exact .cons_cons _ (List.nil_sublist _))⟩, (by omega), ⟨j + 1, .v (.slice (some ⟨gb, 0, none⟩) (L ++ [y.cs]).length gc), [⟨gb, true, .buf 4 (L ++ [y.cs]) gc 47⟩], rfl, rfl, (by omega), (.inr ⟨gb, gc, _, _, by omega, rfl, rfl, rfl, keyR_next hx hy hL⟩)⟩⟩)
     ·
      have hge : l.length ≤ j := by have := of_decide_eq_false hc2; simp at this; omega
      obtain rfl : j = l.length := by omega
      refine awp_exit ?_
      refine x_thenE ?_
      refine x_thenE ?_
      refine x_blockE ?_
      refine x_then ?_
      refine awp_seq ?_
      refine awp_region ?_
      rcases hK with ⟨hk0, _, _⟩ | ⟨g, cap, n', L, hk0, rfl, hnL, rfl, hL⟩
      · exfalso; have := hpw.2.1; omega
      refine awl_imp (imp_commitBk 0 0 0 hnL rfl rfl rfl) ?_
      refine awl_imp (imp_boxLe 0 rfl (.cons (.refl _) (.cons (.nil 1) (.cons (.refl _) .nil)))) ?_
      refine awl_imp (imp_commitP 0 11 rfl rfl rfl rfl) ?_
      refine r_move rfl rfl ?_
      refine r_move rfl rfl ?_
      refine r_build (parts := [(0, .tmp 67), (1, .tmp 68)]) rfl TF.pl75 TF.zero75 rfl rfl rfl ?_
      refine r_box rfl rfl rfl (fun b70 => ?_)
      refine awl_imp (imp_commit 0 70 rfl rfl rfl rfl) ?_
      refine r_assign rfl rfl ?_
      refine awl_nil ?_
      refine x_then ?_
      refine awp_ret ?_
      exact ⟨(.inl rfl), _, [], (.one (by first | exact .mk rfl rfl | exact .nil rfl)), ⟨rfl, some (some ⟨h + 1, (b44, l)⟩, lenT t), ⟨some ⟨h + 1, (b44, l)⟩, by show _ = some (_, lenT t + _); rw [hgs]; simp, by rw [hrt]; exact ⟨l, hp4, .inr ⟨by have := hpw.2.1; omega, b44, rfl⟩⟩⟩, by show _ = AV.cp [enc (h + 1) (b44, l), _]; rw [← enc_over, hL, ← kksOf_len, List.take_length]; rfl⟩, (List.nil_sublist _), (by simp)⟩)
theorem TPut_ok (t : TreeV) (hw : wfRt (rootT t)) (hn : 0 ≤ lenT t ∧ lenT t ≤ 1000000) (k : Sp) (v : Int) : AC Try.prog 23 [encT t, spA k, .v (.int .u64 v)] [] (fun r nb => nb = [] ∧ ∃ t', PutT t k v t' ∧ r = encT t') := by
  cases hr : rootT t with
  | none => exact TPut_none t hr hn k v
  | some s => obtain ⟨h, n⟩ := s; rw [hr] at hw; exact TPut_some t h n hr hw.1 hw.2 hn k v
end Go.Proofs.Ytljgdbgcleibjaa.A
namespace Go.Proofs.Ytljgdbgcleibjaa.A
open Go Go.RowKit
set_option linter.unusedVariables false
set_option linter.unusedSimpArgs false
def subs : (h : Nat) → Nd h → List (Sigma Nd)
  | 0, n => [⟨0, n⟩]
  | h + 1, n => ⟨h + 1, n⟩ :: (kdsOf n).flatMap (subs h)
def sid (s : Sigma Nd) : Nat := s.2.1
def subT (t : TreeV) : List (Sigma Nd) := match rootT t with
  | none => []
  | some ⟨h, n⟩ => subs h n
def idsT (t : TreeV) : List Nat := (subT t).map sid
def addS : (h : Nat) → Nd h → List Nat → List Nat
  | 0, n, ks => sset ks n.1
  | h + 1, n, ks => (kdsOf n).foldl (fun a x => addS h x a) (sset ks n.1)
theorem sset_mem {ks : List Nat} {k p : Nat} : p ∈ sset ks k ↔ p ∈ ks ∨ p = k := by
  unfold sset
  split
  · rename_i h; constructor
    · exact .inl
    · rintro (h' | rfl); exact h'; exact h
  · simp
theorem sset_nodup {ks : List Nat} {k : Nat} (h : ks.Nodup) : (sset ks k).Nodup := by
  unfold sset
  split
  · exact h
  · rename_i hk
    refine List.nodup_append.2 ⟨h, by simp, fun a ha b hb => ?_⟩
    obtain rfl := List.mem_singleton.1 hb
    exact fun e => hk (e ▸ ha)
theorem addS_mem : ∀ (h : Nat) (n : Nd h) (ks : List Nat) (p : Nat), p ∈ addS h n ks ↔ p ∈ ks ∨ p ∈ (subs h n).map sid
  | 0, n, ks, p => by
    show p ∈ sset ks n.1 ↔ _
    rw [sset_mem]; simp [subs, sid]
  | h + 1, n, ks, p => by
    have key : ∀ (l : List (Nd h)) (a : List Nat), p ∈ l.foldl (fun a x => addS h x a) a ↔ p ∈ a ∨ p ∈ (l.flatMap (subs h)).map sid := by
      intro l
      induction l with
      | nil => intro a; simp
      | cons x l ih =>
        intro a
        rw [List.foldl_cons, ih, addS_mem h x a p, List.flatMap_cons, List.map_append, List.mem_append, or_assoc]
    show p ∈ (kdsOf n).foldl (fun a x => addS h x a) (sset ks n.1) ↔ _
    rw [key, sset_mem]
    show _ ↔ p ∈ ks ∨ p ∈ (⟨h + 1, n⟩ :: (kdsOf n).flatMap (subs h) : List (Sigma Nd)).map sid
    rw [List.map_cons, List.mem_cons, or_assoc]
    rfl
theorem addS_nodup : ∀ (h : Nat) (n : Nd h) {ks : List Nat}, ks.Nodup → (addS h n ks).Nodup
  | 0, n, ks, hk => sset_nodup hk
  | h + 1, n, ks, hk => by
    have key : ∀ (l : List (Nd h)) (a : List Nat), a.Nodup → (l.foldl (fun a x => addS h x a) a).Nodup := by
      intro l
      induction l with
      | nil => intro a ha; exact ha
      | cons x l ih => intro a ha; exact ih _ (addS_nodup h x ha)
    exact key _ _ (sset_nodup hk)
theorem rel_sub {C : CS} : ∀ (h : Nat) (n : Nd h) {u : Value}, Rel C (enc h n) u → ∀ s ∈ subs h n, Rel C (enc s.1 s.2) (ptr s.2.1)
  | 0, n, u, hr, s, hs => by
    obtain rfl := List.mem_singleton.1 hs
    have := rel_pt_inv (show Rel C (.pt n.1 _) u from hr)
    rw [this.1] at hr
    exact hr
  | h + 1, n, u, hr, s, hs => by
    obtain ⟨hu, hc⟩ := rel_pt_inv (show Rel C (.pt n.1 [.sl 4 ((keysOf (h + 1) n.2).map Sp.cs), .sl 1 (([] : List Int).map u64c), .sl 1 (((kdsOf n).map (enc h)).map fun x => [x])]) u from hr)
    have hs' : s = ⟨h + 1, n⟩ ∨ s ∈ (kdsOf n).flatMap (subs h) := List.mem_cons.1 hs
    rcases hs' with rfl | hs'
    · rw [hu] at hr; exact hr
    · obtain ⟨x, hx, hsx⟩ := List.mem_flatMap.1 hs'
      obtain ⟨i, hi⟩ := List.getElem?_of_mem hx
      obtain ⟨v, _, hv⟩ := hc 2 _ rfl
      obtain ⟨A, cap, b, o, _, _, _, hR⟩ := rel_sl_inv hv
      obtain ⟨w, _, hw⟩ := hR.2 i [enc h x] 0 (enc h x) (get_map (get_map hi)) rfl
      exact rel_sub h x hw s hsx
theorem rel_subT {C : CS} {t : TreeV} {u : Value} (hr : Rel C (encT t) u) : ∀ s ∈ subT t, Rel C (enc s.1 s.2) (ptr s.2.1) := by
  intro s hs
  match t with
  | none => cases hs
  | some (none, n) => cases hs
  | some (some ⟨h, x⟩, n) =>
    obtain ⟨b, o, _, hc⟩ := rel_cp_inv (show Rel C (.cp [enc h x, .v (.int .i64 n)]) u from hr)
    obtain ⟨w, _, hw⟩ := hc 0 _ rfl
    exact rel_sub h x hw s hs
def subAt (t : TreeV) (p : Nat) : Option (Sigma Nd) := (subT t).find? (fun s => decide (sid s = p))
theorem subAt_some {t : TreeV} {p : Nat} (h : p ∈ idsT t) : ∃ s, subAt t p = some s ∧ s ∈ subT t ∧ s.2.1 = p := by
  obtain ⟨s0, h0, h1⟩ := List.mem_map.1 h
  cases hf : subAt t p with
  | none =>
    have := List.find?_eq_none.1 hf s0 h0
    simp [h1] at this
  | some s =>
    refine ⟨s, rfl, List.mem_of_find?_eq_some hf, ?_⟩
    have := List.find?_some hf
    exact of_decide_eq_true this
theorem wf_subs : ∀ (h : Nat) (n : Nd h) {lo : Nat}, lo ≤ 2 → wfC lo h n.2 → ∀ s ∈ subs h n, wfC lo s.1 s.2.2
  | 0, n, lo, _, hw, s, hs => by obtain rfl := List.mem_singleton.1 hs; exact hw
  | h + 1, n, lo, hl, hw, s, hs => by
    have hs' : s = ⟨h + 1, n⟩ ∨ s ∈ (kdsOf n).flatMap (subs h) := List.mem_cons.1 hs
    rcases hs' with rfl | hs'
    · exact hw
    · obtain ⟨x, hx, hsx⟩ := List.mem_flatMap.1 hs'
      exact (wf_subs h x (Nat.le_refl 2) (hw.2.2 x hx) s hsx).mono hl
theorem wf_subT {t : TreeV} (hw : wfRt (rootT t)) : ∀ s ∈ subT t, wfC 1 s.1 s.2.2 := by
  intro s hs
  unfold subT at hs
  cases hr : rootT t with
  | none => rw [hr] at hs; cases hs
  | some r => obtain ⟨h, n⟩ := r; rw [hr] at hs hw; exact wf_subs h n (by omega) hw.1 s hs
def Vis (ks bs seen ps : List Nat) : Prop := ∃ qs : List Nat, qs.Nodup ∧ (∀ q ∈ qs, q < ks.length) ∧ seen = qs.map (bs.getD · 0) ∧ ps = qs.map (ks.getD · 0)
theorem Vis.nil {ks bs : List Nat} : Vis ks bs [] [] := ⟨[], List.nodup_nil, by simp, rfl, rfl⟩
theorem Vis.next {ks bs seen ps : List Nat} {q b p : Nat} (h : Vis ks bs seen ps) (hp : ks[q]? = some p) (hb : bs[q]? = some b) (hn : b ∉ seen) : Vis ks bs (seen ++ [b]) (ps ++ [p]) := by
  obtain ⟨qs, h1, h2, rfl, rfl⟩ := h
  refine ⟨qs ++ [q], List.nodup_append.2 ⟨h1, by simp, fun a ha c hc => ?_⟩, fun x hx => ?_, by simp [List.getD, hb], by simp [List.getD, hp]⟩
  · obtain rfl := List.mem_singleton.1 hc
    rintro rfl
    exact hn (List.mem_map.2 ⟨a, ha, by simp [List.getD, hb]⟩)
  · rcases List.mem_append.1 hx with hx | hx
    · exact h2 x hx
    · obtain rfl := List.mem_singleton.1 hx; exact (List.getElem?_eq_some_iff.1 hp).1
theorem nodup_get {l : List Nat} (h : l.Nodup) {i j x : Nat} (hi : l[i]? = some x) (hj : l[j]? = some x) : i = j := by
  obtain ⟨h1, h2⟩ := List.getElem?_eq_some_iff.1 hi
  obtain ⟨h3, h4⟩ := List.getElem?_eq_some_iff.1 hj
  rcases Nat.lt_trichotomy i j with h5 | h5 | h5
  · exact absurd (h2.trans h4.symm) (List.pairwise_iff_getElem.1 h i j h1 h3 h5)
  · exact h5
  · exact absurd (h4.trans h2.symm) (List.pairwise_iff_getElem.1 h j i h3 h1 h5)
theorem Vis.mem {ks bs seen ps : List Nat} (h : Vis ks bs seen ps) {p : Nat} (hp : p ∈ ps) : p ∈ ks := by
  obtain ⟨qs, _, h2, _, rfl⟩ := h
  obtain ⟨q, hq, rfl⟩ := List.mem_map.1 hp
  have := h2 q hq
  simp [List.getD, List.getElem?_eq_getElem this]
theorem Vis.nodup {ks bs seen ps : List Nat} (h : Vis ks bs seen ps) (hk : ks.Nodup) : ps.Nodup := by
  obtain ⟨qs, h1, h2, _, rfl⟩ := h
  rw [List.Nodup, List.pairwise_map]
  refine h1.imp_of_mem ?_
  intro a b ha hb hab he
  have e1 := List.getElem?_eq_getElem (h2 a ha)
  have e2 := List.getElem?_eq_getElem (h2 b hb)
  simp [List.getD, e1, e2] at he
  exact hab (nodup_get hk e1 (by rw [he]; exact e2))
theorem Vis.all {ks bs seen ps : List Nat} (h : Vis ks bs seen ps) (hl : bs.length = ks.length) (hb : bs.Nodup) (hend : ∀ b ∈ bs, b ∈ seen) {p : Nat} (hp : p ∈ ks) : p ∈ ps := by
  obtain ⟨qs, h1, h2, rfl, rfl⟩ := h
  obtain ⟨i, hi⟩ := List.getElem?_of_mem hp
  have hil : i < bs.length := by rw [hl]; exact (List.getElem?_eq_some_iff.1 hi).1
  obtain ⟨q, hq, hqe⟩ := List.mem_map.1 (hend _ (List.getElem_mem hil))
  have hql : q < bs.length := by rw [hl]; exact h2 q hq
  have : q = i := nodup_get hb (x := bs[i]) (by simp [List.getD, List.getElem?_eq_getElem hql] at hqe; rw [List.getElem?_eq_getElem hql, hqe]) (List.getElem?_eq_getElem hil)
  subst this
  exact List.mem_map.2 ⟨q, hq, by simp [List.getD, hi]⟩
theorem nodup_sub : ∀ {ps l : List Nat}, ps.Nodup → (∀ i ∈ ps, i ∈ l) → ∃ r, (ps ++ r).Perm l
  | [], l, _, _ => ⟨l, List.Perm.refl _⟩
  | p :: ps, l, h1, h2 => by
    obtain ⟨hp, h1'⟩ := List.nodup_cons.1 h1
    have hl := List.perm_cons_erase (h2 p (by simp))
    obtain ⟨r, hr⟩ := nodup_sub h1' (l := l.erase p) (fun i hi => (List.mem_erase_of_ne (fun e => hp (by subst e; exact hi))).2 (h2 i (by simp [hi])))
    exact ⟨r, (hr.cons p).trans hl.symm⟩
theorem nodup_len {ps : List Nat} {n : Nat} (h1 : ps.Nodup) (h2 : ∀ i ∈ ps, i < n) : ps.length ≤ n := by
  obtain ⟨r, hr⟩ := nodup_sub h1 (l := List.range n) (fun i hi => List.mem_range.2 (h2 i hi))
  have := hr.length_eq; simp at this; omega
theorem Vis.len {ks bs seen ps : List Nat} (h : Vis ks bs seen ps) : ps.length ≤ ks.length := by
  obtain ⟨qs, h1, h2, _, rfl⟩ := h
  rw [List.length_map]; exact nodup_len h1 h2
theorem Vis.lt {ks bs seen ps : List Nat} {q b p : Nat} (h : Vis ks bs seen ps) (hp : ks[q]? = some p) (hb : bs[q]? = some b) (hn : b ∉ seen) : ps.length < ks.length := by
  have := (h.next hp hb hn).len; simp at this; omega
structure En where
  k : Sp
  v : Int
  c : Bool
  deriving DecidableEq, Inhabited
def En.cs (e : En) : List AV := e.k.cs ++ [.v (.int .u64 e.v), .v (.bool e.c)]
def enA (e : En) : AV := .agg e.cs
def ownAt (t : TreeV) (oks : List Nat) (came : Bool) (p : Nat) : List En := match subAt t p with
  | some ⟨0, n⟩ => if p ∈ oks then [] else (itsOf n).map (fun x => ⟨x.1, x.2, came⟩)
  | _ => []
def ownL (t : TreeV) (oks : List Nat) (came : Bool) (ps : List Nat) : List En := ps.flatMap (ownAt t oks came)
def RowE (r : AV) (os : List OE) (l : List En) : Prop :=
  (l = [] ∧ r = .v (.slice none 0 0) ∧ os = []) ∨ ∃ g cap n L, l ≠ [] ∧ r = .v (.slice (some ⟨g, 0, none⟩) n cap) ∧ n = L.length ∧ os = [⟨g, true, .buf 6 L cap 89⟩] ∧ L = l.map En.cs
def entOrd (a b : En) : Int := if a.k.lt b.k then -1 else if b.k.lt a.k then 1 else if a.c = b.c then 0 else if b.c then -1 else 1
theorem rowE_rw {r : AV} {os : List OE} {l : List En} (h : RowE r os l) : ∀ e ∈ os, e.rw = true := by
  rcases h with ⟨_, _, rfl⟩ | ⟨g, cap, n, L, _, _, _, rfl, _⟩
  · simp
  · intro e he; obtain rfl := List.mem_singleton.1 he; rfl
theorem ownL_snoc (t : TreeV) (oks : List Nat) (came : Bool) (ps : List Nat) (p : Nat) : ownL t oks came (ps ++ [p]) = ownL t oks came ps ++ ownAt t oks came p := by
  simp [ownL]
theorem ownAt_leaf {t : TreeV} {oks : List Nat} {came : Bool} {p : Nat} {n : Nd 0} (h : subAt t p = some ⟨0, n⟩) (hp : p ∉ oks) : ownAt t oks came p = (itsOf n).map (fun x => ⟨x.1, x.2, came⟩) := by
  unfold ownAt; rw [h]; simp only; rw [if_neg hp]
theorem ownAt_shared {t : TreeV} {oks : List Nat} {came : Bool} {p : Nat} (hp : p ∈ oks) : ownAt t oks came p = [] := by
  unfold ownAt
  split
  · rw [if_pos hp]
  · rfl
theorem ownAt_inner {t : TreeV} {oks : List Nat} {came : Bool} {p q : Nat} {n : Nd q} (h : subAt t p = some ⟨q, n⟩) (hq : 0 < q) : ownAt t oks came p = [] := by
  unfold ownAt; rw [h]
  cases q with
  | zero => omega
  | succ q => rfl
theorem take_ent {its : List (Sp × Int)} {came : Bool} {A : List En} {i : Nat} {x : Sp × Int} (hx : its[i]? = some x) : A ++ (its.take (i + 1)).map (fun x => (⟨x.1, x.2, came⟩ : En)) = A ++ (its.take i).map (fun x => (⟨x.1, x.2, came⟩ : En)) ++ [⟨x.1, x.2, came⟩] := by
  rw [List.take_add_one, hx]; simp
def idl (t : TreeV) : List Nat := match rootT t with
  | none => []
  | some ⟨h, n⟩ => addS h n []
theorem idl_mem (t : TreeV) (p : Nat) : p ∈ idl t ↔ p ∈ idsT t := by
  unfold idl idsT subT
  cases rootT t with
  | none => simp
  | some s => obtain ⟨h, n⟩ := s; simp only; rw [addS_mem]; simp
theorem idl_nodup (t : TreeV) : (idl t).Nodup := by
  unfold idl
  cases rootT t with
  | none => exact List.nodup_nil
  | some s => obtain ⟨h, n⟩ := s; exact addS_nodup h n List.nodup_nil
def missL (ps oks : List Nat) : Nat := (ps.filter (fun p => decide (p ∉ oks))).length
def lookN (a b : TreeV) : Nat := missL (idl a) (idl b) + missL (idl b) (idl a)
theorem nodup_perm {l m : List Nat} (h1 : l.Nodup) (h2 : m.Nodup) (h : ∀ p, p ∈ l ↔ p ∈ m) : l.Perm m := by
  obtain ⟨r, hr⟩ := nodup_sub h1 (l := m) (fun i hi => (h i).1 hi)
  obtain ⟨r', hr'⟩ := nodup_sub h2 (l := l) (fun i hi => (h i).2 hi)
  have e1 := hr.length_eq
  have e2 := hr'.length_eq
  simp only [List.length_append] at e1 e2
  have : r = [] := List.eq_nil_of_length_eq_zero (by omega)
  subst this; simpa using hr
theorem missL_eq {ps ks oks oks' : List Nat} (h1 : ps.Nodup) (h2 : ks.Nodup) (h : ∀ p, p ∈ ps ↔ p ∈ ks) (ho : ∀ p, p ∈ oks ↔ p ∈ oks') : missL ps oks = missL ks oks' := by
  unfold missL
  rw [((nodup_perm h1 h2 h).filter _).length_eq]
  congr 1
  apply List.filter_congr
  intro x _
  simp [ho]
theorem missL_snoc (ps : List Nat) (p : Nat) (oks : List Nat) : missL (ps ++ [p]) oks = missL ps oks + (if p ∈ oks then 0 else 1) := by
  unfold missL
  rw [List.filter_append, List.length_append]
  congr 1
  by_cases h : p ∈ oks <;> simp [h]
theorem missL_le (ps : List Nat) (oks : List Nat) : missL ps oks ≤ ps.length := List.length_filter_le _ _
theorem ownAt_len {t : TreeV} (hw : wfRt (rootT t)) (oks : List Nat) (came : Bool) (p : Nat) : (ownAt t oks came p).length ≤ 4 := by
  unfold ownAt
  split
  · rename_i n hn
    split
    · simp
    · rw [List.length_map]
      exact (wf_subT hw ⟨0, n⟩ (List.mem_of_find?_eq_some hn)).hi
  · simp
theorem ownL_len {t : TreeV} (hw : wfRt (rootT t)) (oks : List Nat) (came : Bool) : ∀ (ps : List Nat), (ownL t oks came ps).length ≤ 4 * ps.length
  | [] => by simp [ownL]
  | p :: ps => by
    have h1 := ownL_len hw oks came ps
    have h2 := ownAt_len hw oks came p
    unfold ownL at h1 ⊢
    rw [List.flatMap_cons, List.length_append, List.length_cons]
    omega
end Go.Proofs.Ytljgdbgcleibjaa.A
namespace Go.Proofs.Ytljgdbgcleibjaa.A
open Go Go.RowKit
set_option linter.unusedVariables false
set_option linter.unusedSimpArgs false
set_option maxRecDepth 100000
theorem TF.agg34 : aggT Try.prog 34 = some false := by kernel_rfl
theorem TF.agg107 : aggT Try.prog 107 = some false := by kernel_rfl
theorem TF.en50 : entersT Try.prog 50 := enters_of Try.func50 (by kernel_rfl) (by kernel_rfl)
theorem TF.zero34 : ZeroT Try.prog 34 [.v (.map none)] := ⟨[(.map none)], by kernel_rfl, (LeCells.refl _)⟩
theorem TF.sz34 : szT Try.prog 34 = some 1 := by kernel_rfl
theorem TF.zero107 : ZeroT Try.prog 107 [.v .nilFunc] := ⟨[.nilFunc], by kernel_rfl, (LeCells.refl _)⟩
theorem TF.sz107 : szT Try.prog 107 = some 1 := by kernel_rfl
theorem ptm34 : PtrMap Try.prog 34 36 4 82 2 := ⟨by kernel_rfl, by kernel_rfl, by kernel_rfl, ⟨.v (.bool false), by kernel_rfl, .one (.refl _)⟩⟩
theorem walk_leaf (b3 b4 m c : Nat) (f1 f2 : Bool) (its : List (Sp × Int)) (ks : List Nat) : AW Try.prog 50 [ndA c (its.map fun p : Sp × Int => p.1) (its.map fun p : Sp × Int => p.2) [], .v (.pointer (some ⟨b3, 0, none⟩)), .v (.pointer (some ⟨b4, 0, none⟩))] [⟨b3, f1, .box [.v (.map (some m))]⟩, ⟨b4, f2, .box [.fn 50 [.v (.pointer (some ⟨b3, 0, none⟩)), .v (.pointer (some ⟨b4, 0, none⟩))]]⟩] [⟨m, true, .nset (ks)⟩] (fun r n => r = .tup [] ∧ n = [⟨m, true, .nset (sset ks c)⟩]) := by
 refine aw_of_awp (rs := []) (nt := 21) (so := [⟨b3, false, .box [.v (.map (some m))]⟩, ⟨b4, false, .box [.fn 50 [.v (.pointer (some ⟨b3, 0, none⟩)), .v (.pointer (some ⟨b4, 0, none⟩))]]⟩, ⟨m, true, .nset (ks)⟩]) Try.func50 rfl rfl rfl rfl rfl (fun w0 C0 hq => ?_)
 unfold ndA
 refine awp_seq ?_
 refine awp_region ?_
 refine r_load1b 0 rfl rfl rfl TF.agg34 rfl ?_
 refine r_move rfl rfl ?_
 refine r_setIn 2 ptm34 rfl rfl rfl rfl ⟨_, _, _, rfl⟩ ?_
 refine awl_nil ?_
 refine x_then ?_
 refine awp_seq ?_
 refine awp_region ?_
 refine r_move rfl rfl ?_
 refine r_nilCheck rfl (by first | exact .pt _ _ | exact .v _ | exact .cp _) rfl ?_
 refine r_fieldpt rfl TF.f82_2 TF.sz80 rfl ?_
 refine r_load1 rfl TF.agg80 rfl ?_
 refine r_lenS rfl rfl TF.sl80 rfl ?_
 refine r_move rfl rfl ?_
 refine awl_nil ?_
 refine x_then ?_
 refine awp_block ?_
 refine awp_loop (fun nn0 S => ∃ z : Nat, S = ⟨21, [(1, .a (.v (.pointer (some ⟨b3, 0, none⟩)))), (2, .a (.v (.pointer (some ⟨b4, 0, none⟩)))), (11, .a (.sl 1 [])), (12, .a (.v (.int .i64 ((0 : Nat))))), (13, .a (.v (.int .i64 (0))))], [⟨m, true, .nset (sset ks c)⟩]⟩ ∧ nn0 = 2 * z) (2 * (0)) ⟨21, [(1, .a (.v (.pointer (some ⟨b3, 0, none⟩)))), (2, .a (.v (.pointer (some ⟨b4, 0, none⟩)))), (11, .a (.sl 1 [])), (12, .a (.v (.int .i64 ((0 : Nat))))), (13, .a (.v (.int .i64 (0))))], [⟨m, true, .nset (sset ks c)⟩]⟩ ⟨rfl, (Slots.cons rfl (by first | exact .refl _ | exact .nilOwn _ _ | exact .nilSl _ | exact .ownSl _ _ _  | exact SV.le.of_eq (by simp)) (Slots.cons rfl (by first | exact .refl _ | exact .nilOwn _ _ | exact .nilSl _ | exact .ownSl _ _ _  | exact SV.le.of_eq (by simp)) (Slots.cons rfl (by first | exact .refl _ | exact .nilOwn _ _ | exact .nilSl _ | exact .ownSl _ _ _  | exact SV.le.of_eq (by simp)) (Slots.cons rfl (by first | exact .refl _ | exact .nilOwn _ _ | exact .nilSl _ | exact .ownSl _ _ _  | exact SV.le.of_eq (by simp)) (Slots.cons rfl (by first | exact .refl _ | exact .nilOwn _ _ | exact .nilSl _ | exact .ownSl _ _ _  | exact SV.le.of_eq (by simp)) Slots.nil))))), (.cons _ (.cons _ (.refl _)))⟩ ⟨0, rfl, rfl⟩ ?_
 rintro nn0 _ ⟨z, rfl, rfl⟩
 refine awp_seq ?_
 refine awp_region ?_
 refine r_cmp rfl rfl rfl rfl ?_
 refine awl_nil ?_
 refine x_then ?_
 refine awp_seq ?_
 refine awp_cond rfl (fun hc0 => ?_) (fun hc0 => ?_)
 ·
  exfalso; cases hc0
 ·
  refine awp_exit ?_
  refine x_thenE ?_
  refine x_thenE ?_
  refine x_blockE ?_
  exact ⟨(.inr rfl), _, [⟨m, true, .nset (sset ks c)⟩], .none, ⟨rfl, rfl⟩, (List.Sublist.refl _), (by simp)⟩
theorem walk_inner (h b3 b4 m c : Nat) (f1 f2 : Bool) (l : List (Nd h)) (hl : l.length ≤ 1000) (ks : List Nat) (ih : ∀ (x : Nd h), wfC 1 h x.2 → ∀ (f1 f2 : Bool) (ks : List Nat), AW Try.prog 50 [enc h x, .v (.pointer (some ⟨b3, 0, none⟩)), .v (.pointer (some ⟨b4, 0, none⟩))] [⟨b3, f1, .box [.v (.map (some m))]⟩, ⟨b4, f2, .box [.fn 50 [.v (.pointer (some ⟨b3, 0, none⟩)), .v (.pointer (some ⟨b4, 0, none⟩))]]⟩] [⟨m, true, .nset (ks)⟩] (fun r n => r = .tup [] ∧ n = [⟨m, true, .nset (addS h x ks)⟩])) (hw : ∀ x ∈ l, wfC 1 h x.2) : AW Try.prog 50 [ndA c (kksOf h l) [] (l.map (enc h)), .v (.pointer (some ⟨b3, 0, none⟩)), .v (.pointer (some ⟨b4, 0, none⟩))] [⟨b3, f1, .box [.v (.map (some m))]⟩, ⟨b4, f2, .box [.fn 50 [.v (.pointer (some ⟨b3, 0, none⟩)), .v (.pointer (some ⟨b4, 0, none⟩))]]⟩] [⟨m, true, .nset (ks)⟩] (fun r n => r = .tup [] ∧ n = [⟨m, true, .nset (l.foldl (fun a x => addS h x a) (sset ks c))⟩]) := by
 refine aw_of_awp (rs := []) (nt := 21) (so := [⟨b3, false, .box [.v (.map (some m))]⟩, ⟨b4, false, .box [.fn 50 [.v (.pointer (some ⟨b3, 0, none⟩)), .v (.pointer (some ⟨b4, 0, none⟩))]]⟩, ⟨m, true, .nset (ks)⟩]) Try.func50 rfl rfl rfl rfl rfl (fun w0 C0 hq => ?_)
 unfold ndA
 refine awp_seq ?_
 refine awp_region ?_
 refine r_load1b 0 rfl rfl rfl TF.agg34 rfl ?_
 refine r_move rfl rfl ?_
 refine r_setIn 2 ptm34 rfl rfl rfl rfl ⟨_, _, _, rfl⟩ ?_
 refine awl_nil ?_
 refine x_then ?_
 refine awp_seq ?_
 refine awp_region ?_
 refine r_move rfl rfl ?_
 refine r_nilCheck rfl (by first | exact .pt _ _ | exact .v _ | exact .cp _) rfl ?_
 refine r_fieldpt rfl TF.f82_2 TF.sz80 rfl ?_
 refine r_load1 rfl TF.agg80 rfl ?_
 refine r_lenS rfl rfl TF.sl80 rfl ?_
 refine r_move rfl rfl ?_
 refine awl_nil ?_
 refine x_then ?_
 refine awp_block ?_
 refine awp_imp (imp_perm (objs := [⟨m, true, .nset (sset ks c)⟩, ⟨b3, false, .box [.v (.map (some m))]⟩, ⟨b4, false, .box [.fn 50 [.v (.pointer (some ⟨b3, 0, none⟩)), .v (.pointer (some ⟨b4, 0, none⟩))]]⟩]) ((List.Perm.swap _ _ _).trans ((List.Perm.swap _ _ _).cons _))) ?_
 refine awp_loop (fun nn0 S => ∃ j : Nat, S = ⟨21, [(1, .a (.v (.pointer (some ⟨b3, 0, none⟩)))), (2, .a (.v (.pointer (some ⟨b4, 0, none⟩)))), (11, .a (.sl 1 ((l.map (enc h)).map fun x => [x]))), (12, .a (.v (.int .i64 ((((l.map (enc h)).map fun x => [x]).length : Nat))))), (13, .a (.v (.int .i64 ((j : Int)))))], [⟨m, true, .nset ((l.take (j)).foldl (fun a x => addS h x a) (sset ks c))⟩, ⟨b3, false, .box [.v (.map (some m))]⟩, ⟨b4, false, .box [.fn 50 [.v (.pointer (some ⟨b3, 0, none⟩)), .v (.pointer (some ⟨b4, 0, none⟩))]]⟩]⟩ ∧ nn0 = l.length - j ∧ (j ≤ l.length)) (l.length - (0)) ⟨21, [(1, .a (.v (.pointer (some ⟨b3, 0, none⟩)))), (2, .a (.v (.pointer (some ⟨b4, 0, none⟩)))), (11, .a (.sl 1 ((l.map (enc h)).map fun x => [x]))), (12, .a (.v (.int .i64 ((((l.map (enc h)).map fun x => [x]).length : Nat))))), (13, .a (.v (.int .i64 (((0) : Int)))))], [⟨m, true, .nset ((l.take ((0))).foldl (fun a x => addS h x a) (sset ks c))⟩, ⟨b3, false, .box [.v (.map (some m))]⟩, ⟨b4, false, .box [.fn 50 [.v (.pointer (some ⟨b3, 0, none⟩)), .v (.pointer (some ⟨b4, 0, none⟩))]]⟩]⟩ ⟨rfl, (Slots.cons rfl (by first | exact .refl _ | exact .nilOwn _ _ | exact .nilSl _ | exact .ownSl _ _ _  | exact SV.le.of_eq (by simp)) (Slots.cons rfl (by first | exact .refl _ | exact .nilOwn _ _ | exact .nilSl _ | exact .ownSl _ _ _  | exact SV.le.of_eq (by simp)) (Slots.cons rfl (by first | exact .refl _ | exact .nilOwn _ _ | exact .nilSl _ | exact .ownSl _ _ _  | exact SV.le.of_eq (by simp)) (Slots.cons rfl (by first | exact .refl _ | exact .nilOwn _ _ | exact .nilSl _ | exact .ownSl _ _ _  | exact SV.le.of_eq (by simp)) (Slots.cons rfl (by first | exact .refl _ | exact .nilOwn _ _ | exact .nilSl _ | exact .ownSl _ _ _  | exact SV.le.of_eq (by simp)) Slots.nil))))), (by first | exact List.Sublist.refl _ | exact .cons_cons _ (.cons _ (.refl _)) | exact List.nil_sublist _ | exact .cons _ (.refl _) | exact .cons _ (.cons _ (.refl _)) | exact .cons _ (.cons _ (.cons _ (.refl _))) | exact .cons _ (.cons _ (.cons _ (.cons _ (.refl _)))) | exact .cons_cons _ (List.nil_sublist _))⟩ ⟨0, rfl, rfl, Nat.zero_le _⟩ ?_
 rintro nn0 _ ⟨j, rfl, rfl, hj⟩
 refine awp_seq ?_
 refine awp_region ?_
 refine r_cmp rfl rfl rfl rfl ?_
 refine awl_nil ?_
 refine x_then ?_
 refine awp_seq ?_
 refine awp_cond rfl (fun hc0 => ?_) (fun hc0 => ?_)
 ·
  have hltx : j < l.length := by have := of_decide_eq_true hc0; simpa using this
  obtain ⟨x, hx⟩ := get_lt hltx
  refine awp_skip ?_
  refine x_then ?_
  refine awp_seq ?_
  refine awp_block ?_
  refine awp_seq ?_
  refine awp_region ?_
  refine r_index rfl rfl rfl TF.sl80 TF.sz36 (by omega) (get_map (get_map hx)) rfl ?_
  refine r_load1 rfl TF.agg36 rfl ?_
  refine r_assign rfl rfl ?_
  refine awl_nil ?_
  refine x_then ?_
  refine awp_region ?_
  refine r_load1b 2 rfl rfl rfl TF.agg107 rfl ?_
  refine r_move rfl rfl ?_
  refine r_callW hq [true, false, false] rfl rfl (.cons (.ev rfl rfl) .nil) (ih x (hw x (List.mem_of_getElem? hx)) false false _) rfl TF.en50 rfl rfl (List.Sublist.refl _) rfl (fun r nobjs hr => ?_)
  obtain ⟨rfl, rfl⟩ := hr
  refine awl_nil ?_
  refine x_block ?_
  refine x_then ?_
  refine awp_region ?_
  refine r_ari _ rfl rfl rfl (wrap_id (by first | omega | (simp; omega))) rfl ?_
  refine r_move rfl rfl ?_
  refine awl_nil ?_
  refine x_then ?_
  refine ⟨l.length - (j + 1), ⟨21, [(1, .a (.v (.pointer (some ⟨b3, 0, none⟩)))), (2, .a (.v (.pointer (some ⟨b4, 0, none⟩)))), (11, .a (.sl 1 ((l.map (enc h)).map fun x => [x]))), (12, .a (.v (.int .i64 ((((l.map (enc h)).map fun x => [x]).length : Nat))))), (13, .a (.v (.int .i64 (((j + 1) : Int)))))], [⟨m, true, .nset ((l.take ((j + 1))).foldl (fun a x => addS h x a) (sset ks c))⟩, ⟨b3, false, .box [.v (.map (some m))]⟩, ⟨b4, false, .box [.fn 50 [.v (.pointer (some ⟨b3, 0, none⟩)), .v (.pointer (some ⟨b4, 0, none⟩))]]⟩]⟩, ⟨rfl, (Slots.cons rfl (by first | exact .refl _ | exact .nilOwn _ _ | exact .nilSl _ | exact .ownSl _ _ _  | exact SV.le.of_eq (by simp)) (Slots.cons rfl (by first | exact .refl _ | exact .nilOwn _ _ | exact .nilSl _ | exact .ownSl _ _ _  | exact SV.le.of_eq (by simp)) (Slots.cons rfl (by first | exact .refl _ | exact .nilOwn _ _ | exact .nilSl _ | exact .ownSl _ _ _  | exact SV.le.of_eq (by simp)) (Slots.cons rfl (by first | exact .refl _ | exact .nilOwn _ _ | exact .nilSl _ | exact .ownSl _ _ _  | exact SV.le.of_eq (by simp)) (Slots.cons rfl (by first | exact .refl _ | exact .nilOwn _ _ | exact .nilSl _ | exact .ownSl _ _ _  | exact SV.le.of_eq (by simp)) Slots.nil))))), (by rw [List.take_add_one, hx]; simp only [Option.toList_some, List.foldl_append, List.foldl_cons, List.foldl_nil]; exact List.Sublist.refl _)⟩, (by omega), ⟨j + 1, rfl, rfl, (by omega)⟩⟩
 ·
  have hge : l.length ≤ j := by have := of_decide_eq_false hc0; simp at this; omega
  obtain rfl : j = l.length := by omega
  rw [List.take_length]
  refine awp_exit ?_
  refine x_thenE ?_
  refine x_thenE ?_
  refine x_blockE ?_
  exact ⟨(.inr rfl), _, [⟨m, true, .nset (l.foldl (fun a x => addS h x a) (sset ks c))⟩], .none, ⟨rfl, rfl⟩, (.cons_cons _ (List.nil_sublist _)), (by simp)⟩
theorem walk_ok (b3 b4 m : Nat) : ∀ (h : Nat) (x : Nd h), wfC 1 h x.2 → ∀ (f1 f2 : Bool) (ks : List Nat), AW Try.prog 50 [enc h x, .v (.pointer (some ⟨b3, 0, none⟩)), .v (.pointer (some ⟨b4, 0, none⟩))] [⟨b3, f1, .box [.v (.map (some m))]⟩, ⟨b4, f2, .box [.fn 50 [.v (.pointer (some ⟨b3, 0, none⟩)), .v (.pointer (some ⟨b4, 0, none⟩))]]⟩] [⟨m, true, .nset (ks)⟩] (fun r n => r = .tup [] ∧ n = [⟨m, true, .nset (addS h x ks)⟩])
  | 0, x, _, f1, f2, ks => walk_leaf b3 b4 m x.1 f1 f2 (itsOf x) ks
  | h + 1, x, hw, f1, f2, ks => walk_inner h b3 b4 m x.1 f1 f2 (kdsOf x) (Nat.le_trans hw.2.1 (by omega)) ks (fun y hy f1 f2 ks => walk_ok b3 b4 m h y hy f1 f2 ks) (fun y hy => (hw.2.2 y hy).mono (by omega))
theorem nodes_none (t : TreeV) (hrt : rootT t = none) : AC Try.prog 36 [encT t] [] (fun r nb => ∃ m ks, r = .v (.map (some m)) ∧ nb = [⟨m, true, .nset (ks)⟩] ∧ ks.Nodup ∧ ∀ p, p ∈ ks ↔ p ∈ idsT t) := by
 refine ac_of_awp (rs := [2]) (nt := 16) Try.func36 rfl rfl rfl rfl (fun w0 C0 hq => ?_)
 refine awp_seq ?_
 refine awp_region ?_
 refine r_assign rfl rfl ?_
 refine awl_nil ?_
 refine x_then ?_
 refine awp_seq ?_
 refine awp_region ?_
 refine r_makeSet rfl (fun b6 => ?_)
 refine r_alloc TF.zero34 rfl (fun b3 => ?_)
 refine r_store 0 rfl rfl rfl TF.sz34 rfl rfl rfl ?_
 refine awl_nil ?_
 refine x_then ?_
 refine awp_seq ?_
 refine awp_region ?_
 refine r_alloc TF.zero107 rfl (fun b4 => ?_)
 refine awl_nil ?_
 refine x_then ?_
 refine awp_seq ?_
 refine awp_region ?_
 refine r_makeFunc rfl (.cons (.ev rfl rfl) (.cons (.ev rfl rfl) .nil)) rfl ?_
 refine r_store 0 rfl rfl rfl TF.sz107 rfl rfl rfl ?_
 refine awl_nil ?_
 refine x_then ?_
 refine awp_seq ?_
 refine awp_seq ?_
 refine awp_region ?_
 refine r_move rfl rfl ?_
 refine r_call0 hq rfl rfl (.cons (.ev rfl rfl) .nil) (Root_ok t) rfl TF.en18 rfl (fun r hr => ?_)
 obtain rfl := hr
 rw [hrt]
 show AWL _ _ _ _ _ _ (AState.put _ 9 (.a (.v (.pointer none))))
 refine r_assign rfl rfl ?_
 refine awl_nil ?_
 refine x_then ?_
 refine awp_seq ?_
 refine awp_region ?_
 refine r_move rfl rfl ?_
 refine r_pnnil rfl (by first | exact .pt _ _ | exact .nil | exact .v _ | exact .cp _) TF.un36 rfl ?_
 refine awl_nil ?_
 refine x_then ?_
 refine awp_cond rfl (fun hc0 => ?_) (fun hc0 => ?_)
 ·
  exfalso; cases hc0
 ·
  refine awp_skip ?_
  refine x_then ?_
  refine awp_seq ?_
  refine awp_region ?_
  refine r_load1b 1 rfl rfl rfl TF.agg34 rfl ?_
  refine r_assign rfl rfl ?_
  refine awl_nil ?_
  refine x_then ?_
  refine awp_ret ?_
  exact ⟨(.inl rfl), _, [⟨b6, true, .nset ([])⟩], (.one (by first | exact .mk rfl rfl | exact .nil rfl)), ⟨b6, [], rfl, rfl, List.nodup_nil, fun p => by unfold idsT subT; rw [hrt]; rfl⟩, (.cons _ (.cons _ (List.Sublist.refl _))), (by simp)⟩
theorem nodes_some (t : TreeV) (h : Nat) (n : Nd h) (hrt : rootT t = some ⟨h, n⟩) (hw : wfC 1 h n.2) : AC Try.prog 36 [encT t] [] (fun r nb => ∃ m ks, r = .v (.map (some m)) ∧ nb = [⟨m, true, .nset (ks)⟩] ∧ ks.Nodup ∧ ∀ p, p ∈ ks ↔ p ∈ idsT t) := by
 refine ac_of_awp (rs := [2]) (nt := 16) Try.func36 rfl rfl rfl rfl (fun w0 C0 hq => ?_)
 refine awp_seq ?_
 refine awp_region ?_
 refine r_assign rfl rfl ?_
 refine awl_nil ?_
 refine x_then ?_
 refine awp_seq ?_
 refine awp_region ?_
 refine r_makeSet rfl (fun b6 => ?_)
 refine r_alloc TF.zero34 rfl (fun b3 => ?_)
 refine r_store 0 rfl rfl rfl TF.sz34 rfl rfl rfl ?_
 refine awl_nil ?_
 refine x_then ?_
 refine awp_seq ?_
 refine awp_region ?_
 refine r_alloc TF.zero107 rfl (fun b4 => ?_)
 refine awl_nil ?_
 refine x_then ?_
 refine awp_seq ?_
 refine awp_region ?_
 refine r_makeFunc rfl (.cons (.ev rfl rfl) (.cons (.ev rfl rfl) .nil)) rfl ?_
 refine r_store 0 rfl rfl rfl TF.sz107 rfl rfl rfl ?_
 refine awl_nil ?_
 refine x_then ?_
 refine awp_seq ?_
 refine awp_seq ?_
 refine awp_region ?_
 refine r_move rfl rfl ?_
 refine r_call0 hq rfl rfl (.cons (.ev rfl rfl) .nil) (Root_ok t) rfl TF.en18 rfl (fun r hr => ?_)
 obtain rfl := hr
 rw [hrt]
 refine awl_imp (imp_le 9 rfl (SV.le.avEq (enc_eq h n))) ?_
 refine r_assign rfl rfl ?_
 refine awl_nil ?_
 refine x_then ?_
 refine awp_seq ?_
 refine awp_region ?_
 refine r_move rfl rfl ?_
 refine r_pnnil rfl (by first | exact .pt _ _ | exact .nil | exact .v _ | exact .cp _) TF.un36 rfl ?_
 refine awl_nil ?_
 refine x_then ?_
 refine awp_cond rfl (fun hc0 => ?_) (fun hc0 => ?_)
 ·
  skip
  refine awp_region ?_
  refine r_load1b 0 rfl rfl rfl TF.agg107 rfl ?_
  refine r_move rfl rfl ?_
  refine awl_imp (imp_le 13 rfl (SV.le.avEq (enc_eq h n).symm)) ?_
  refine r_callP hq (wo := [⟨b6, true, .nset ([])⟩]) (un := [⟨b3, true, .box [.v (.map (some b6))]⟩, ⟨b4, true, .box [.fn 50 [.v (.pointer (some ⟨b3, 0, none⟩)), .v (.pointer (some ⟨b4, 0, none⟩))]]⟩]) rfl rfl (.cons (.ev rfl rfl) .nil) (walk_ok b3 b4 b6 h n hw true true []) rfl TF.en50 ((List.Perm.swap _ _ _).trans (((List.Perm.swap _ _ _).cons _).trans (List.Perm.swap _ _ _))) (rfl) (List.Sublist.refl _) rfl (fun r nobjs hr => ?_)
  obtain ⟨rfl, rfl⟩ := hr
  refine awl_nil ?_
  refine x_then ?_
  refine awp_seq ?_
  refine awp_region ?_
  refine r_load1b 1 rfl rfl rfl TF.agg34 rfl ?_
  refine r_assign rfl rfl ?_
  refine awl_nil ?_
  refine x_then ?_
  refine awp_ret ?_
  exact ⟨(.inl rfl), _, [⟨b6, true, .nset (addS h n [])⟩], (.one (by first | exact .mk rfl rfl | exact .nil rfl)), ⟨b6, addS h n [], rfl, rfl, addS_nodup h n List.nodup_nil, fun p => by rw [addS_mem]; unfold idsT subT; rw [hrt]; simp⟩, (.cons_cons _ (List.nil_sublist _)), (by simp)⟩
 ·
  exfalso; cases hc0
theorem nodes_ok (t : TreeV) (hw : wfRt (rootT t)) : AC Try.prog 36 [encT t] [] (fun r nb => ∃ m ks, r = .v (.map (some m)) ∧ nb = [⟨m, true, .nset (ks)⟩] ∧ ks.Nodup ∧ ∀ p, p ∈ ks ↔ p ∈ idsT t) := by
  cases hr : rootT t with
  | none => exact nodes_none t hr
  | some s => obtain ⟨h, n⟩ := s; rw [hr] at hw; exact nodes_some t h n hr hw.1
end Go.Proofs.Ytljgdbgcleibjaa.A
namespace Go.Proofs.Ytljgdbgcleibjaa.A
open Go Go.RowKit
set_option linter.unusedVariables false
set_option linter.unusedSimpArgs false
set_option maxRecDepth 100000
theorem TF.en36 : entersT Try.prog 36 := enters_of Try.func36 (by kernel_rfl) (by kernel_rfl)
theorem TF.map34 : mapT Try.prog 34 = some (36, 4) := by kernel_rfl
theorem TF.pl89 : placesT Try.prog 89 = some [(0, 4), (4, 1), (5, 1)] := by kernel_rfl
theorem TF.zero89 : ZeroT Try.prog 89 [.v (.int .i64 0), .v (.int .i64 0), .v (.int .i64 0), .v (.int .u64 0), .v (.int .u64 0), .v (.bool false)] := ⟨[(.int .i64 0), (.int .i64 0), (.int .i64 0), (.int .u64 0), (.int .u64 0), (.bool false)], by kernel_rfl, (LeCells.refl _)⟩
theorem TF.sl85 : sliceT Try.prog 85 = some 89 := by kernel_rfl
theorem TF.sz89 : szT Try.prog 89 = some 6 := by kernel_rfl
theorem TF.zraw89 : zeroT Try.prog 89 = some [(.int .i64 0), (.int .i64 0), (.int .i64 0), (.int .u64 0), (.int .u64 0), (.bool false)] := by kernel_rfl
theorem TF.by89 : bytesT Try.prog 89 = some 48 := by kernel_rfl
theorem TF.zlen89 : (zeroT Try.prog 89).map (·.length) = some 6 := by kernel_rfl
theorem TF.f89_0 : fieldT Try.prog 89 0 = some (0, 47) := by kernel_rfl
theorem TF.en53 : entersT Try.prog 53 := enters_of Try.func53 (by kernel_rfl) (by kernel_rfl)
theorem TF.f89_2 : fieldT Try.prog 89 2 = some (5, 4) := by kernel_rfl
set_option maxHeartbeats 1000000 in
theorem own_ok (t : TreeV) (hw : wfRt (rootT t)) (hN : (idl t).length ≤ 100000) (mo : Nat) (f : Bool) (oks : List Nat) (came : Bool) : AC Try.prog 38 [encT t, .v (.map (some mo)), .v (.bool came)] [⟨mo, f, .nset oks⟩] (fun r nb => ∃ ps : List Nat, ps.Nodup ∧ (∀ p, p ∈ ps ↔ p ∈ idsT t) ∧ RowE r nb (ownL t oks came ps)) := by
 refine ac_of_awp (rs := [6]) (nt := 51) Try.func38 rfl rfl rfl rfl (fun w0 C0 hq => ?_)
 refine awp_seq ?_
 refine awp_region ?_
 refine r_assign rfl rfl ?_
 refine awl_nil ?_
 refine x_then ?_
 refine awp_seq ?_
 refine awp_region ?_
 refine r_assign rfl rfl ?_
 refine awl_nil ?_
 refine x_then ?_
 refine awp_seq ?_
 refine awp_seq ?_
 refine awp_region ?_
 refine r_move rfl rfl ?_
 refine r_callO hq rfl rfl (.cons (.ev rfl rfl) .nil) (nodes_ok t hw) rfl TF.en36 (by first | exact List.Sublist.refl _ | exact .cons_cons _ (.cons _ (.refl _)) | exact List.nil_sublist _ | exact .cons _ (.refl _) | exact .cons _ (.cons _ (.refl _)) | exact .cons _ (.cons _ (.cons _ (.refl _))) | exact .cons _ (.cons _ (.cons _ (.cons _ (.refl _)))) | exact .cons_cons _ (List.nil_sublist _)) rfl (fun r nobjs hr => ?_)
 obtain ⟨m, ks, rfl, rfl, hnd, hks⟩ := hr
 have hkl : ks.length ≤ 100000 := by rw [(nodup_perm hnd (idl_nodup t) (fun p => (hks p).trans (idl_mem t p).symm)).length_eq]; exact hN
 refine r_setRange 0 rfl rfl TF.map34 rfl (fun rb bs clock hbl hbn => ?_)
 refine awl_nil ?_
 refine x_then ?_
 refine awp_block ?_
 refine awp_loop (fun nn0 S => ∃ ps : List Nat, ∃ seen : List Nat, ∃ hd : AV, ∃ os : List OE, S = ⟨51, [(0, .a (encT t)), (1, .a (.v (.map (some mo)))), (2, .a (.v (.bool came))), (7, .a hd), (13, .a (.v (.pointer (some ⟨rb, 0, none⟩))))], [⟨rb, true, .iter m clock seen clock⟩, ⟨m, true, .nsetb ks bs clock⟩, ⟨mo, false, .nset oks⟩] ++ os⟩ ∧ nn0 = ks.length - ps.length ∧ (Vis ks bs seen ps) ∧ (RowE hd os (ownL t oks came ps))) (ks.length - ([]).length) ⟨51, [(0, .a (encT t)), (1, .a (.v (.map (some mo)))), (2, .a (.v (.bool came))), (7, .a (.v (.slice none 0 0))), (13, .a (.v (.pointer (some ⟨rb, 0, none⟩))))], [⟨rb, true, .iter m clock ([]) clock⟩, ⟨m, true, .nsetb ks bs clock⟩, ⟨mo, false, .nset oks⟩] ++ ([])⟩ ⟨rfl, (Slots.cons rfl (by first | exact .refl _ | exact .nilOwn _ _ | exact .nilSl _ | exact .ownSl _ _ _  | exact SV.le.of_eq (by simp)) (Slots.cons rfl (by first | exact .refl _ | exact .nilOwn _ _ | exact .nilSl _ | exact .ownSl _ _ _  | exact SV.le.of_eq (by simp)) (Slots.cons rfl (by first | exact .refl _ | exact .nilOwn _ _ | exact .nilSl _ | exact .ownSl _ _ _  | exact SV.le.of_eq (by simp)) (Slots.cons rfl (by first | exact .refl _ | exact .nilOwn _ _ | exact .nilSl _ | exact .ownSl _ _ _  | exact SV.le.of_eq (by simp)) (Slots.cons rfl (by first | exact .refl _ | exact .nilOwn _ _ | exact .nilSl _ | exact .ownSl _ _ _  | exact SV.le.of_eq (by simp)) Slots.nil))))), (by first | exact List.Sublist.refl _ | exact .cons_cons _ (.cons _ (.refl _)) | exact List.nil_sublist _ | exact .cons _ (.refl _) | exact .cons _ (.cons _ (.refl _)) | exact .cons _ (.cons _ (.cons _ (.refl _))) | exact .cons _ (.cons _ (.cons _ (.cons _ (.refl _)))) | exact .cons_cons _ (List.nil_sublist _))⟩ ⟨[], [], .v (.slice none 0 0), [], rfl, rfl, Vis.nil, (.inl ⟨rfl, rfl, rfl⟩)⟩ ?_
 rintro nn0 _ ⟨ps, seen, hd, os, rfl, rfl, hv, hR⟩
 refine awp_seq ?_
 refine awp_region ?_
 refine r_setNext 0 1 rfl rfl rfl rfl (fun hend => ?_) (fun q bq pq hpq hbq hnq => ?_)
 ·
  refine r_extract rfl rfl rfl ?_
  refine awl_nil ?_
  refine x_then ?_
  refine awp_seq ?_
  refine awp_condF rfl ?_
  refine awp_exit ?_
  refine x_thenE ?_
  refine x_thenE ?_
  refine x_blockE ?_
  refine x_then ?_
  refine awp_seq ?_
  refine awp_region ?_
  refine r_move rfl rfl ?_
  refine r_assign rfl rfl ?_
  refine awl_nil ?_
  refine x_then ?_
  refine awp_ret ?_
  exact ⟨(.inl rfl), _, os, (.one (by first | exact .mk rfl rfl | exact .nil rfl)), ⟨ps, hv.nodup hnd, fun p => ⟨fun h => (hks p).1 (hv.mem h), fun h => hv.all hbl hbn hend ((hks p).2 h)⟩, hR⟩, (List.sublist_append_right _ _), (rowE_rw hR)⟩
 ·
  have hlt := hv.lt hpq hbq hnq
  have hv' := hv.next hpq hbq hnq
  obtain ⟨⟨sh, sn⟩, hsf, hss, hsp⟩ := subAt_some (t := t) ((hks pq).1 (List.mem_of_getElem? hpq))
  simp only at hsp
  have hws : wfC 1 sh sn.2 := wf_subT hw _ hss
  refine r_extract rfl rfl rfl ?_
  refine awl_nil ?_
  refine x_then ?_
  refine awp_seq ?_
  refine awp_condT rfl ?_
  refine awp_skip ?_
  refine x_then ?_
  refine awp_block ?_
  refine awp_seq ?_
  refine awp_region ?_
  refine r_setEntry 0 1 rfl rfl rfl hpq hbq rfl ?_
  refine r_extract rfl rfl rfl ?_
  refine r_assign rfl rfl ?_
  refine awl_imp (imp_know 8 0 (z := enc sh sn) rfl rfl (fun C u v h1 h2 => by cases h2; rw [← hsp]; exact rel_subT h1 _ hss)) ?_
  refine awl_imp (imp_le 8 rfl (SV.le.avEq (enc_eq sh sn))) ?_
  refine awl_nil ?_
  refine x_then ?_
  refine awp_seq ?_
  refine awp_region ?_
  refine r_move rfl rfl ?_
  refine r_call0 hq rfl rfl (.cons (.ev rfl rfl) .nil) (leaf_ok sn.1 (keysOf sh sn.2) (valsOf sh sn.2) (kidsOf sh sn.2)) rfl TF.en46 rfl (fun r hr => ?_)
  obtain rfl := hr
  refine r_move rfl rfl ?_
  refine g_cases (t' := 20) rfl (fun hg20 => ?_) (fun hg20 => ?_)
  ·
   have hl1 : (kidsOf sh sn.2).isEmpty = true := hg20
   obtain rfl := kids_leaf sh sn (fun _ => hws.lo) hl1
   refine g_run rfl rfl hg20 ?_
   refine r_move rfl rfl ?_
   refine g_run rfl rfl hg20 ?_
   refine r_move rfl rfl ?_
   refine g_run rfl rfl hg20 ?_
   refine r_setHas 2 ptm34 rfl rfl rfl rfl ⟨_, _, _, rfl⟩ rfl ?_
   refine g_run rfl rfl hg20 ?_
   refine r_not rfl rfl ?_
   refine r_pickT rfl hg20 rfl rfl ?_
   refine awl_nil ?_
   refine x_then ?_
   refine awp_cond rfl (fun hc1 => ?_) (fun hc1 => ?_)
   ·
    have hpo : pq ∉ oks := by have := hc1; simp at this; rw [← hsp]; exact this
    have hoa := ownAt_leaf (came := came) hsf hpo
    have hil : (itsOf sn).length ≤ 4 := hws.hi
    refine awp_seq ?_
    refine awp_region ?_
    refine r_move rfl rfl ?_
    refine r_nilCheck rfl (by first | exact .pt _ _ | exact .v _ | exact .cp _) rfl ?_
    refine r_fieldpt rfl TF.f82_0 TF.sz78 rfl ?_
    refine r_load1 rfl TF.agg78 rfl ?_
    refine r_lenS rfl rfl TF.sl78 rfl ?_
    refine r_move rfl rfl ?_
    refine awl_nil ?_
    refine x_then ?_
    refine awp_block ?_
    refine awp_loop (fun nn0 S => ∃ i : Nat, ∃ hd2 : AV, ∃ os2 : List OE, S = ⟨51, [(0, .a (encT t)), (1, .a (.v (.map (some mo)))), (2, .a (.v (.bool came))), (7, .a hd2), (8, .a (ndA sn.1 (keysOf 0 sn.2) (valsOf 0 sn.2) (kidsOf 0 sn.2))), (13, .a (.v (.pointer (some ⟨rb, 0, none⟩)))), (29, .a (.sl 4 ((keysOf 0 sn.2).map Sp.cs))), (30, .a (.v (.int .i64 ((((keysOf 0 sn.2).map Sp.cs).length : Nat))))), (31, .a (.v (.int .i64 ((i : Int)))))], [⟨rb, true, .iter m clock (seen ++ [bq]) clock⟩, ⟨m, true, .nsetb ks bs clock⟩, ⟨mo, false, .nset oks⟩] ++ os2⟩ ∧ nn0 = (itsOf sn).length - i ∧ (i ≤ (itsOf sn).length) ∧ (RowE hd2 os2 (ownL t oks came ps ++ ((itsOf sn).take i).map (fun x : Sp × Int => (⟨x.1, x.2, came⟩ : En))))) ((itsOf sn).length - (0)) ⟨51, [(0, .a (encT t)), (1, .a (.v (.map (some mo)))), (2, .a (.v (.bool came))), (7, .a (hd)), (8, .a (ndA sn.1 (keysOf 0 sn.2) (valsOf 0 sn.2) (kidsOf 0 sn.2))), (13, .a (.v (.pointer (some ⟨rb, 0, none⟩)))), (29, .a (.sl 4 ((keysOf 0 sn.2).map Sp.cs))), (30, .a (.v (.int .i64 ((((keysOf 0 sn.2).map Sp.cs).length : Nat))))), (31, .a (.v (.int .i64 (((0) : Int)))))], [⟨rb, true, .iter m clock (seen ++ [bq]) clock⟩, ⟨m, true, .nsetb ks bs clock⟩, ⟨mo, false, .nset oks⟩] ++ (os)⟩ ⟨rfl, (Slots.cons rfl (by first | exact .refl _ | exact .nilOwn _ _ | exact .nilSl _ | exact .ownSl _ _ _  | exact SV.le.of_eq (by simp)) (Slots.cons rfl (by first | exact .refl _ | exact .nilOwn _ _ | exact .nilSl _ | exact .ownSl _ _ _  | exact SV.le.of_eq (by simp)) (Slots.cons rfl (by first | exact .refl _ | exact .nilOwn _ _ | exact .nilSl _ | exact .ownSl _ _ _  | exact SV.le.of_eq (by simp)) (Slots.cons rfl (by first | exact .refl _ | exact .nilOwn _ _ | exact .nilSl _ | exact .ownSl _ _ _  | exact SV.le.of_eq (by simp)) (Slots.cons rfl (by first | exact .refl _ | exact .nilOwn _ _ | exact .nilSl _ | exact .ownSl _ _ _  | exact SV.le.of_eq (by simp)) (Slots.cons rfl (by first | exact .refl _ | exact .nilOwn _ _ | exact .nilSl _ | exact .ownSl _ _ _  | exact SV.le.of_eq (by simp)) (Slots.cons rfl (by first | exact .refl _ | exact .nilOwn _ _ | exact .nilSl _ | exact .ownSl _ _ _  | exact SV.le.of_eq (by simp)) (Slots.cons rfl (by first | exact .refl _ | exact .nilOwn _ _ | exact .nilSl _ | exact .ownSl _ _ _  | exact SV.le.of_eq (by simp)) (Slots.cons rfl (by first | exact .refl _ | exact .nilOwn _ _ | exact .nilSl _ | exact .ownSl _ _ _  | exact SV.le.of_eq (by simp)) Slots.nil))))))))), (by first | exact List.Sublist.refl _ | exact .cons_cons _ (.cons _ (.refl _)) | exact List.nil_sublist _ | exact .cons _ (.refl _) | exact .cons _ (.cons _ (.refl _)) | exact .cons _ (.cons _ (.cons _ (.refl _))) | exact .cons _ (.cons _ (.cons _ (.cons _ (.refl _)))) | exact .cons_cons _ (List.nil_sublist _))⟩ ⟨0, hd, os, rfl, rfl, Nat.zero_le _, (by rw [List.take_zero, List.map_nil, List.append_nil]; exact hR)⟩ ?_
    rintro nn0 _ ⟨i, hd2, os2, rfl, rfl, hi, hR2⟩
    refine awp_seq ?_
    refine awp_region ?_
    refine r_cmp rfl rfl rfl rfl ?_
    refine awl_nil ?_
    refine x_then ?_
    refine awp_seq ?_
    refine awp_cond rfl (fun hc2 => ?_) (fun hc2 => ?_)
    ·
     have hlt1 : i < (itsOf sn).length := by have := of_decide_eq_true hc2; rw [List.length_map, keysOf_len] at this; show i < sn.2.length; omega
     obtain ⟨x, hx⟩ := get_lt hlt1
     refine awp_skip ?_
     refine x_then ?_
     refine awp_seq ?_
     refine awp_block ?_
     refine awp_seq ?_
     refine awp_region ?_
     refine r_move rfl rfl ?_
     refine r_index rfl rfl rfl TF.sl78 TF.sz47 (by omega) (get_map (get_map hx)) rfl ?_
     refine r_loadA rfl TF.agg47 TF.sz47 rfl rfl ?_
     refine r_alloc TF.zero47 rfl (fun b10 => ?_)
     refine r_assign rfl rfl ?_
     refine r_store 0 rfl rfl rfl TF.sz47 rfl rfl rfl ?_
     refine awl_nil ?_
     refine x_then ?_
     rcases hR2 with ⟨hA, rfl, rfl⟩ | ⟨g, cap, n, L, hA, rfl, hnL, rfl, hL⟩
     ·
      refine awp_drawS [36, 37, 38, 39, 40, 41, 42, 43, 44, 45, 46, 47] [_, _, _, _, _, _, _, _, _, _, _, _] [] [(11, 47)] TF.mixed rfl rfl rfl ⟨⟨⟨⟨⟨⟨⟨⟨⟨⟨⟨⟨trivial
       , ⟨_, rfl, fun sl hd hr ho => by
         refine r_move (hr 7 _ rfl rfl rfl) rfl ?_
         exact awl_nil ⟨rfl, post_put⟩⟩⟩
       , ⟨_, rfl, fun sl hd hr ho => by
         refine r_loadAb 0 (hr 10 _ rfl rfl rfl) rfl TF.agg47 TF.sz47 rfl rfl ?_
         exact awl_nil ⟨rfl, post_put⟩⟩⟩
       , ⟨_, rfl, fun sl hd hr ho => by
         refine r_move (hr 8 _ rfl rfl rfl) rfl ?_
         exact awl_nil ⟨rfl, post_put⟩⟩⟩
       , ⟨_, rfl, fun sl hd hr ho => by
         refine r_nilCheck (hd 2 _ rfl rfl rfl) (by first | exact .pt _ _ | exact .v _ | exact .cp _) rfl ?_
         exact awl_nil ⟨rfl, post_put⟩⟩⟩
       , ⟨_, rfl, fun sl hd hr ho => by
         refine r_fieldpt (hd 3 _ rfl rfl rfl) TF.f82_1 TF.sz79 rfl ?_
         exact awl_nil ⟨rfl, post_put⟩⟩⟩
       , ⟨_, rfl, fun sl hd hr ho => by
         refine r_load1 (hd 4 _ rfl rfl rfl) TF.agg79 rfl ?_
         exact awl_nil ⟨rfl, post_put⟩⟩⟩
       , ⟨_, rfl, fun sl hd hr ho => by
         refine r_move (hr 9 _ rfl rfl rfl) rfl ?_
         exact awl_nil ⟨rfl, post_put⟩⟩⟩
       , ⟨_, rfl, fun sl hd hr ho => by
         refine r_index (hd 5 _ rfl rfl rfl) rfl (hd 6 _ rfl rfl rfl) TF.sl79 TF.sz45 (by omega) (get_map (get_map hx)) rfl ?_
         exact awl_nil ⟨rfl, post_put⟩⟩⟩
       , ⟨_, rfl, fun sl hd hr ho => by
         refine r_load1 (hd 7 _ rfl rfl rfl) TF.agg45 rfl ?_
         exact awl_nil ⟨rfl, post_put⟩⟩⟩
       , ⟨_, rfl, fun sl hd hr ho => by
         refine r_move (hr 2 _ rfl rfl rfl) rfl ?_
         exact awl_nil ⟨rfl, post_put⟩⟩⟩
       , ⟨_, rfl, fun sl hd hr ho => by
         refine r_build (parts := [(0, .tmp 37), (1, .tmp 44), (2, .tmp 45)]) rfl TF.pl89 TF.zero89 (parts_cons (hd 1 _ rfl rfl rfl) (parts_cons (hd 8 _ rfl rfl rfl) (parts_cons (hd 9 _ rfl rfl rfl) parts_nil))) rfl rfl ?_
         exact awl_nil ⟨rfl, post_put⟩⟩⟩
       , ⟨_, rfl, fun sl hd hr ho => by
         refine r_lit 47 (parts := [(0, .tmp 46)]) rfl TF.sl85 TF.sz89 TF.zraw89 rfl rfl (parts_cons (hd 10 _ rfl rfl rfl) parts_nil) rfl rfl rfl rfl ?_
         exact awl_nil ⟨rfl, (post_dem (ho 47 (List.mem_of_elem_eq_true rfl)))⟩⟩⟩
       (by rfl) ?_
      refine r_appendBN rfl rfl (by first | exact .sl _ | exact .own _ _) (by simp [chunks]) TF.sl85 TF.sz89 TF.by89 TF.zlen89 (by simp [chunks] <;> omega) (by simp [chunks] <;> omega) rfl (fun gb gc => ?_)
      refine awl_imp (imp_perm (objs := [⟨b10, true, .box [.v (.int .i64 x.1.br), .v (.int .i64 x.1.vo), .v (.int .i64 x.1.bl), .v (.int .u64 x.1.nu)]⟩] ++ [⟨rb, true, .iter m clock (seen ++ [bq]) clock⟩, ⟨m, true, .nsetb ks bs clock⟩, ⟨mo, false, .nset oks⟩] ++ [⟨gb, true, .buf 6 [(⟨x.1, x.2, came⟩ : En).cs] gc 89⟩]) List.perm_append_comm) ?_
      refine r_assign rfl rfl ?_
      refine awl_nil ?_
      refine x_block ?_
      refine x_then ?_
      refine awp_region ?_
      refine r_ari _ rfl rfl rfl (wrap_id (by first | omega | (simp; omega))) rfl ?_
      refine r_move rfl rfl ?_
      refine awl_nil ?_
      refine x_then ?_
      refine ⟨(itsOf sn).length - (i + 1), ⟨51, [(0, .a (encT t)), (1, .a (.v (.map (some mo)))), (2, .a (.v (.bool came))), (7, .a (.v (.slice (some ⟨gb, 0, none⟩) [(⟨x.1, x.2, came⟩ : En).cs].length gc))), (8, .a (ndA sn.1 (keysOf 0 sn.2) (valsOf 0 sn.2) (kidsOf 0 sn.2))), (13, .a (.v (.pointer (some ⟨rb, 0, none⟩)))), (29, .a (.sl 4 ((keysOf 0 sn.2).map Sp.cs))), (30, .a (.v (.int .i64 ((((keysOf 0 sn.2).map Sp.cs).length : Nat))))), (31, .a (.v (.int .i64 (((i + 1) : Int)))))], [⟨rb, true, .iter m clock (seen ++ [bq]) clock⟩, ⟨m, true, .nsetb ks bs clock⟩, ⟨mo, false, .nset oks⟩] ++ ([⟨gb, true, .buf 6 [(⟨x.1, x.2, came⟩ : En).cs] gc 89⟩])⟩, ⟨rfl, (Slots.cons rfl (by first | exact .refl _ | exact .nilOwn _ _ | exact .nilSl _ | exact .ownSl _ _ _  | exact SV.le.of_eq (by simp)) (Slots.cons rfl (by first | exact .refl _ | exact .nilOwn _ _ | exact .nilSl _ | exact .ownSl _ _ _  | exact SV.le.of_eq (by simp)) (Slots.cons rfl (by first | exact .refl _ | exact .nilOwn _ _ | exact .nilSl _ | exact .ownSl _ _ _  | exact SV.le.of_eq (by simp)) (Slots.cons rfl (by first | exact .refl _ | exact .nilOwn _ _ | exact .nilSl _ | exact .ownSl _ _ _  | exact SV.le.of_eq (by simp)) (Slots.cons rfl (by first | exact .refl _ | exact .nilOwn _ _ | exact .nilSl _ | exact .ownSl _ _ _  | exact SV.le.of_eq (by simp)) (Slots.cons rfl (by first | exact .refl _ | exact .nilOwn _ _ | exact .nilSl _ | exact .ownSl _ _ _  | exact SV.le.of_eq (by simp)) (Slots.cons rfl (by first | exact .refl _ | exact .nilOwn _ _ | exact .nilSl _ | exact .ownSl _ _ _  | exact SV.le.of_eq (by simp)) (Slots.cons rfl (by first | exact .refl _ | exact .nilOwn _ _ | exact .nilSl _ | exact .ownSl _ _ _  | exact SV.le.of_eq (by simp)) (Slots.cons rfl (by first | exact .refl _ | exact .nilOwn _ _ | exact .nilSl _ | exact .ownSl _ _ _  | exact SV.le.of_eq (by simp)) Slots.nil))))))))), (by first | exact List.Sublist.refl _ | exact .cons_cons _ (.cons _ (.refl _)) | exact List.nil_sublist _ | exact .cons _ (.refl _) | exact .cons _ (.cons _ (.refl _)) | exact .cons _ (.cons _ (.cons _ (.refl _))) | exact .cons _ (.cons _ (.cons _ (.cons _ (.refl _)))) | exact .cons_cons _ (List.nil_sublist _))⟩, (by omega), ⟨i + 1, .v (.slice (some ⟨gb, 0, none⟩) [(⟨x.1, x.2, came⟩ : En).cs].length gc), [⟨gb, true, .buf 6 [(⟨x.1, x.2, came⟩ : En).cs] gc 89⟩], rfl, rfl, (by omega), (by rw [take_ent hx]; exact .inr ⟨gb, gc, _, _, by simp, rfl, rfl, rfl, by rw [hA]; rfl⟩)⟩⟩
     ·
      have hLl : L.length ≤ 1000000 := by have h3 := ownL_len hw oks came ps; have h4 := hv.len; rw [hL, List.length_map, List.length_append, List.length_map, List.length_take]; omega
      refine awp_drawS [36, 37, 38, 39, 40, 41, 42, 43, 44, 45, 46, 47] [_, _, _, _, _, _, _, _, _, _, _, _] [] [(11, 47)] TF.mixed rfl rfl rfl ⟨⟨⟨⟨⟨⟨⟨⟨⟨⟨⟨⟨trivial
       , ⟨_, rfl, fun sl hd hr ho => by
         refine r_move (hr 7 _ rfl rfl rfl) rfl ?_
         exact awl_nil ⟨rfl, post_put⟩⟩⟩
       , ⟨_, rfl, fun sl hd hr ho => by
         refine r_loadAb 0 (hr 10 _ rfl rfl rfl) rfl TF.agg47 TF.sz47 rfl rfl ?_
         exact awl_nil ⟨rfl, post_put⟩⟩⟩
       , ⟨_, rfl, fun sl hd hr ho => by
         refine r_move (hr 8 _ rfl rfl rfl) rfl ?_
         exact awl_nil ⟨rfl, post_put⟩⟩⟩
       , ⟨_, rfl, fun sl hd hr ho => by
         refine r_nilCheck (hd 2 _ rfl rfl rfl) (by first | exact .pt _ _ | exact .v _ | exact .cp _) rfl ?_
         exact awl_nil ⟨rfl, post_put⟩⟩⟩
       , ⟨_, rfl, fun sl hd hr ho => by
         refine r_fieldpt (hd 3 _ rfl rfl rfl) TF.f82_1 TF.sz79 rfl ?_
         exact awl_nil ⟨rfl, post_put⟩⟩⟩
       , ⟨_, rfl, fun sl hd hr ho => by
         refine r_load1 (hd 4 _ rfl rfl rfl) TF.agg79 rfl ?_
         exact awl_nil ⟨rfl, post_put⟩⟩⟩
       , ⟨_, rfl, fun sl hd hr ho => by
         refine r_move (hr 9 _ rfl rfl rfl) rfl ?_
         exact awl_nil ⟨rfl, post_put⟩⟩⟩
       , ⟨_, rfl, fun sl hd hr ho => by
         refine r_index (hd 5 _ rfl rfl rfl) rfl (hd 6 _ rfl rfl rfl) TF.sl79 TF.sz45 (by omega) (get_map (get_map hx)) rfl ?_
         exact awl_nil ⟨rfl, post_put⟩⟩⟩
       , ⟨_, rfl, fun sl hd hr ho => by
         refine r_load1 (hd 7 _ rfl rfl rfl) TF.agg45 rfl ?_
         exact awl_nil ⟨rfl, post_put⟩⟩⟩
       , ⟨_, rfl, fun sl hd hr ho => by
         refine r_move (hr 2 _ rfl rfl rfl) rfl ?_
         exact awl_nil ⟨rfl, post_put⟩⟩⟩
       , ⟨_, rfl, fun sl hd hr ho => by
         refine r_build (parts := [(0, .tmp 37), (1, .tmp 44), (2, .tmp 45)]) rfl TF.pl89 TF.zero89 (parts_cons (hd 1 _ rfl rfl rfl) (parts_cons (hd 8 _ rfl rfl rfl) (parts_cons (hd 9 _ rfl rfl rfl) parts_nil))) rfl rfl ?_
         exact awl_nil ⟨rfl, post_put⟩⟩⟩
       , ⟨_, rfl, fun sl hd hr ho => by
         refine r_lit 47 (parts := [(0, .tmp 46)]) rfl TF.sl85 TF.sz89 TF.zraw89 rfl rfl (parts_cons (hd 10 _ rfl rfl rfl) parts_nil) rfl rfl rfl rfl ?_
         exact awl_nil ⟨rfl, (post_dem (ho 47 (List.mem_of_elem_eq_true rfl)))⟩⟩⟩
       (by rfl) ?_
      refine r_appendBG 4 rfl hnL rfl rfl (by first | exact .sl _ | exact .own _ _) (by simp [chunks]) TF.sl85 TF.sz89 TF.by89 TF.zlen89 (by simp [chunks] <;> omega) (by simp [chunks] <;> omega) rfl (fun gb gc => ?_)
      refine awl_imp (imp_perm (objs := [⟨b10, true, .box [.v (.int .i64 x.1.br), .v (.int .i64 x.1.vo), .v (.int .i64 x.1.bl), .v (.int .u64 x.1.nu)]⟩] ++ [⟨rb, true, .iter m clock (seen ++ [bq]) clock⟩, ⟨m, true, .nsetb ks bs clock⟩, ⟨mo, false, .nset oks⟩] ++ [⟨gb, true, .buf 6 (L ++ [(⟨x.1, x.2, came⟩ : En).cs]) gc 89⟩]) List.perm_append_comm) ?_
      refine r_assign rfl rfl ?_
      refine awl_nil ?_
      refine x_block ?_
      refine x_then ?_
      refine awp_region ?_
      refine r_ari _ rfl rfl rfl (wrap_id (by first | omega | (simp; omega))) rfl ?_
      refine r_move rfl rfl ?_
      refine awl_nil ?_
      refine x_then ?_
      refine ⟨(itsOf sn).length - (i + 1), ⟨51, [(0, .a (encT t)), (1, .a (.v (.map (some mo)))), (2, .a (.v (.bool came))), (7, .a (.v (.slice (some ⟨gb, 0, none⟩) (L ++ [(⟨x.1, x.2, came⟩ : En).cs]).length gc))), (8, .a (ndA sn.1 (keysOf 0 sn.2) (valsOf 0 sn.2) (kidsOf 0 sn.2))), (13, .a (.v (.pointer (some ⟨rb, 0, none⟩)))), (29, .a (.sl 4 ((keysOf 0 sn.2).map Sp.cs))), (30, .a (.v (.int .i64 ((((keysOf 0 sn.2).map Sp.cs).length : Nat))))), (31, .a (.v (.int .i64 (((i + 1) : Int)))))], [⟨rb, true, .iter m clock (seen ++ [bq]) clock⟩, ⟨m, true, .nsetb ks bs clock⟩, ⟨mo, false, .nset oks⟩] ++ ([⟨gb, true, .buf 6 (L ++ [(⟨x.1, x.2, came⟩ : En).cs]) gc 89⟩])⟩, ⟨rfl, (Slots.cons rfl (by first | exact .refl _ | exact .nilOwn _ _ | exact .nilSl _ | exact .ownSl _ _ _  | exact SV.le.of_eq (by simp)) (Slots.cons rfl (by first | exact .refl _ | exact .nilOwn _ _ | exact .nilSl _ | exact .ownSl _ _ _  | exact SV.le.of_eq (by simp)) (Slots.cons rfl (by first | exact .refl _ | exact .nilOwn _ _ | exact .nilSl _ | exact .ownSl _ _ _  | exact SV.le.of_eq (by simp)) (Slots.cons rfl (by first | exact .refl _ | exact .nilOwn _ _ | exact .nilSl _ | exact .ownSl _ _ _  | exact SV.le.of_eq (by simp)) (Slots.cons rfl (by first | exact .refl _ | exact .nilOwn _ _ | exact .nilSl _ | exact .ownSl _ _ _  | exact SV.le.of_eq (by simp)) (Slots.cons rfl (by first | exact .refl _ | exact .nilOwn _ _ | exact .nilSl _ | exact .ownSl _ _ _  | exact SV.le.of_eq (by simp)) (Slots.cons rfl (by first | exact .refl _ | exact .nilOwn _ _ | exact .nilSl _ | exact .ownSl _ _ _  | exact SV.le.of_eq (by simp)) (Slots.cons rfl (by first | exact .refl _ | exact .nilOwn _ _ | exact .nilSl _ | exact .ownSl _ _ _  | exact SV.le.of_eq (by simp)) (Slots.cons rfl (by first | exact .refl _ | exact .nilOwn _ _ | exact .nilSl _ | exact .ownSl _ _ _  | exact SV.le.of_eq (by simp)) Slots.nil))))))))), (by first | exact List.Sublist.refl _ | exact .cons_cons _ (.cons _ (.refl _)) | exact List.nil_sublist _ | exact .cons _ (.refl _) | exact .cons _ (.cons _ (.refl _)) | exact .cons _ (.cons _ (.cons _ (.refl _))) | exact .cons _ (.cons _ (.cons _ (.cons _ (.refl _)))) | exact .cons_cons _ (List.nil_sublist _))⟩, (by omega), ⟨i + 1, .v (.slice (some ⟨gb, 0, none⟩) (L ++ [(⟨x.1, x.2, came⟩ : En).cs]).length gc), [⟨gb, true, .buf 6 (L ++ [(⟨x.1, x.2, came⟩ : En).cs]) gc 89⟩], rfl, rfl, (by omega), (by rw [take_ent hx]; exact .inr ⟨gb, gc, _, _, by simp, rfl, rfl, rfl, by rw [hL]; simp⟩)⟩⟩
    ·
     have hge1 : (itsOf sn).length ≤ i := by have := of_decide_eq_false hc2; rw [List.length_map, keysOf_len] at this; show sn.2.length ≤ i; omega
     obtain rfl : i = (itsOf sn).length := by omega
     rw [List.take_length] at hR2
     refine awp_exit ?_
     refine x_thenE ?_
     refine x_thenE ?_
     refine x_blockE ?_
     refine x_block ?_
     refine x_then ?_
     refine ⟨ks.length - (ps ++ [pq]).length, ⟨51, [(0, .a (encT t)), (1, .a (.v (.map (some mo)))), (2, .a (.v (.bool came))), (7, .a (hd2)), (13, .a (.v (.pointer (some ⟨rb, 0, none⟩))))], [⟨rb, true, .iter m clock (seen ++ [bq]) clock⟩, ⟨m, true, .nsetb ks bs clock⟩, ⟨mo, false, .nset oks⟩] ++ (os2)⟩, ⟨rfl, (Slots.cons rfl (by first | exact .refl _ | exact .nilOwn _ _ | exact .nilSl _ | exact .ownSl _ _ _  | exact SV.le.of_eq (by simp)) (Slots.cons rfl (by first | exact .refl _ | exact .nilOwn _ _ | exact .nilSl _ | exact .ownSl _ _ _  | exact SV.le.of_eq (by simp)) (Slots.cons rfl (by first | exact .refl _ | exact .nilOwn _ _ | exact .nilSl _ | exact .ownSl _ _ _  | exact SV.le.of_eq (by simp)) (Slots.cons rfl (by first | exact .refl _ | exact .nilOwn _ _ | exact .nilSl _ | exact .ownSl _ _ _  | exact SV.le.of_eq (by simp)) (Slots.cons rfl (by first | exact .refl _ | exact .nilOwn _ _ | exact .nilSl _ | exact .ownSl _ _ _  | exact SV.le.of_eq (by simp)) Slots.nil))))), (by first | exact List.Sublist.refl _ | exact .cons_cons _ (.cons _ (.refl _)) | exact List.nil_sublist _ | exact .cons _ (.refl _) | exact .cons _ (.cons _ (.refl _)) | exact .cons _ (.cons _ (.cons _ (.refl _))) | exact .cons _ (.cons _ (.cons _ (.cons _ (.refl _)))) | exact .cons_cons _ (List.nil_sublist _))⟩, (by simp; omega), ⟨ps ++ [pq], seen ++ [bq], hd2, os2, rfl, rfl, hv', (by rw [ownL_snoc, hoa]; exact hR2)⟩⟩
   ·
    have hoa : ownAt t oks came pq = [] := ownAt_shared (by have := hc1; simp at this; rw [← hsp]; exact this)
    refine awp_skip ?_
    refine x_block ?_
    refine x_then ?_
    refine ⟨ks.length - (ps ++ [pq]).length, ⟨51, [(0, .a (encT t)), (1, .a (.v (.map (some mo)))), (2, .a (.v (.bool came))), (7, .a (hd)), (13, .a (.v (.pointer (some ⟨rb, 0, none⟩))))], [⟨rb, true, .iter m clock (seen ++ [bq]) clock⟩, ⟨m, true, .nsetb ks bs clock⟩, ⟨mo, false, .nset oks⟩] ++ (os)⟩, ⟨rfl, (Slots.cons rfl (by first | exact .refl _ | exact .nilOwn _ _ | exact .nilSl _ | exact .ownSl _ _ _  | exact SV.le.of_eq (by simp)) (Slots.cons rfl (by first | exact .refl _ | exact .nilOwn _ _ | exact .nilSl _ | exact .ownSl _ _ _  | exact SV.le.of_eq (by simp)) (Slots.cons rfl (by first | exact .refl _ | exact .nilOwn _ _ | exact .nilSl _ | exact .ownSl _ _ _  | exact SV.le.of_eq (by simp)) (Slots.cons rfl (by first | exact .refl _ | exact .nilOwn _ _ | exact .nilSl _ | exact .ownSl _ _ _  | exact SV.le.of_eq (by simp)) (Slots.cons rfl (by first | exact .refl _ | exact .nilOwn _ _ | exact .nilSl _ | exact .ownSl _ _ _  | exact SV.le.of_eq (by simp)) Slots.nil))))), (by first | exact List.Sublist.refl _ | exact .cons_cons _ (.cons _ (.refl _)) | exact List.nil_sublist _ | exact .cons _ (.refl _) | exact .cons _ (.cons _ (.refl _)) | exact .cons _ (.cons _ (.cons _ (.refl _))) | exact .cons _ (.cons _ (.cons _ (.cons _ (.refl _)))) | exact .cons_cons _ (List.nil_sublist _))⟩, (by simp; omega), ⟨ps ++ [pq], seen ++ [bq], hd, os, rfl, rfl, hv', (by rw [ownL_snoc, hoa, List.append_nil]; exact hR)⟩⟩
  ·
   have hl1 : (kidsOf sh sn.2).isEmpty = false := hg20
   have hoa := ownAt_inner (oks := oks) (came := came) hsf (kids_inner sh sn hl1)
   refine g_skip rfl rfl hg20 rfl ?_
   refine g_skip rfl rfl hg20 rfl ?_
   refine g_skip rfl rfl hg20 rfl ?_
   refine g_skip rfl rfl hg20 rfl ?_
   refine r_pickF rfl hg20 rfl rfl ?_
   refine awl_nil ?_
   refine x_then ?_
   refine awp_condF rfl ?_
   refine awp_skip ?_
   refine x_block ?_
   refine x_then ?_
   refine ⟨ks.length - (ps ++ [pq]).length, ⟨51, [(0, .a (encT t)), (1, .a (.v (.map (some mo)))), (2, .a (.v (.bool came))), (7, .a (hd)), (13, .a (.v (.pointer (some ⟨rb, 0, none⟩))))], [⟨rb, true, .iter m clock (seen ++ [bq]) clock⟩, ⟨m, true, .nsetb ks bs clock⟩, ⟨mo, false, .nset oks⟩] ++ (os)⟩, ⟨rfl, (Slots.cons rfl (by first | exact .refl _ | exact .nilOwn _ _ | exact .nilSl _ | exact .ownSl _ _ _  | exact SV.le.of_eq (by simp)) (Slots.cons rfl (by first | exact .refl _ | exact .nilOwn _ _ | exact .nilSl _ | exact .ownSl _ _ _  | exact SV.le.of_eq (by simp)) (Slots.cons rfl (by first | exact .refl _ | exact .nilOwn _ _ | exact .nilSl _ | exact .ownSl _ _ _  | exact SV.le.of_eq (by simp)) (Slots.cons rfl (by first | exact .refl _ | exact .nilOwn _ _ | exact .nilSl _ | exact .ownSl _ _ _  | exact SV.le.of_eq (by simp)) (Slots.cons rfl (by first | exact .refl _ | exact .nilOwn _ _ | exact .nilSl _ | exact .ownSl _ _ _  | exact SV.le.of_eq (by simp)) Slots.nil))))), (by first | exact List.Sublist.refl _ | exact .cons_cons _ (.cons _ (.refl _)) | exact List.nil_sublist _ | exact .cons _ (.refl _) | exact .cons _ (.cons _ (.refl _)) | exact .cons _ (.cons _ (.cons _ (.refl _))) | exact .cons _ (.cons _ (.cons _ (.cons _ (.refl _)))) | exact .cons_cons _ (List.nil_sublist _))⟩, (by simp; omega), ⟨ps ++ [pq], seen ++ [bq], hd, os, rfl, rfl, hv', (by rw [ownL_snoc, hoa, List.append_nil]; exact hR)⟩⟩
theorem compare_ok_q (a b : En) : ACq Try.prog 40 [enA a, enA b] [] (fun r n => n = [] ∧ r = .v (.int .i64 (entOrd a b))) := by
 refine acq_of_awp (rs := [4]) (nt := 26) Try.func40 rfl rfl rfl rfl (fun w0 C0 hq => ?_)
 refine awp_seq ?_
 refine awp_region ?_
 refine r_box rfl rfl rfl (fun b2 => ?_)
 refine r_box rfl rfl rfl (fun b3 => ?_)
 refine r_assign rfl rfl ?_
 refine awl_nil ?_
 refine x_then ?_
 refine awp_seq ?_
 refine awp_block ?_
 refine awp_seq ?_
 refine awp_region ?_
 refine r_fieldb rfl TF.f89_0 TF.sz47 rfl ?_
 refine r_loadAb 1 rfl rfl TF.agg47 TF.sz47 rfl rfl ?_
 refine r_fieldb rfl TF.f89_0 TF.sz47 rfl ?_
 refine r_loadAb 0 rfl rfl TF.agg47 TF.sz47 rfl rfl ?_
 refine r_callq0 rfl rfl (.cons (.ev rfl rfl) (.cons (.ev rfl rfl) .nil)) (before_ok_q a.k b.k) rfl TF.en53 rfl (fun r hr => ?_)
 obtain rfl := hr
 refine r_assign rfl rfl ?_
 refine awl_nil ?_
 refine x_then ?_
 refine awp_cond rfl (fun hc0 => ?_) (fun hc0 => ?_)
 ·
  have h1 : a.k.lt b.k := of_decide_eq_true hc0
  refine awp_seq ?_
  refine awp_region ?_
  refine r_assign rfl rfl ?_
  refine awl_nil ?_
  refine x_then ?_
  refine awp_ret ?_
  refine x_blockR ?_
  refine x_thenR ?_
  exact ⟨(.inl rfl), _, [], (.one (by first | exact .mk rfl rfl | exact .nil rfl)), ⟨rfl, by unfold entOrd; first | (rw [if_pos h1]; rfl) | (rw [if_neg h1, if_pos h2]; rfl) | (rw [if_neg h1, if_neg h2, if_pos h3]; rfl) | (rw [if_neg h1, if_neg h2, if_neg h3, if_pos h4]; rfl) | (rw [if_neg h1, if_neg h2, if_neg h3, if_neg (by rw [h4]; decide)]; rfl)⟩, (List.nil_sublist _), (by simp)⟩
 ·
  have h1 : ¬ a.k.lt b.k := of_decide_eq_false hc0
  refine awp_seq ?_
  refine awp_region ?_
  refine r_fieldb rfl TF.f89_0 TF.sz47 rfl ?_
  refine r_loadAb 0 rfl rfl TF.agg47 TF.sz47 rfl rfl ?_
  refine r_fieldb rfl TF.f89_0 TF.sz47 rfl ?_
  refine r_loadAb 1 rfl rfl TF.agg47 TF.sz47 rfl rfl ?_
  refine r_callq0 rfl rfl (.cons (.ev rfl rfl) (.cons (.ev rfl rfl) .nil)) (before_ok_q b.k a.k) rfl TF.en53 rfl (fun r hr => ?_)
  obtain rfl := hr
  refine r_assign rfl rfl ?_
  refine awl_nil ?_
  refine x_then ?_
  refine awp_cond rfl (fun hc1 => ?_) (fun hc1 => ?_)
  ·
   have h2 : b.k.lt a.k := of_decide_eq_true hc1
   refine awp_seq ?_
   refine awp_region ?_
   refine r_assign rfl rfl ?_
   refine awl_nil ?_
   refine x_then ?_
   refine awp_ret ?_
   refine x_blockR ?_
   refine x_thenR ?_
   exact ⟨(.inl rfl), _, [], (.one (by first | exact .mk rfl rfl | exact .nil rfl)), ⟨rfl, by unfold entOrd; first | (rw [if_pos h1]; rfl) | (rw [if_neg h1, if_pos h2]; rfl) | (rw [if_neg h1, if_neg h2, if_pos h3]; rfl) | (rw [if_neg h1, if_neg h2, if_neg h3, if_pos h4]; rfl) | (rw [if_neg h1, if_neg h2, if_neg h3, if_neg (by rw [h4]; decide)]; rfl)⟩, (List.nil_sublist _), (by simp)⟩
  ·
   have h2 : ¬ b.k.lt a.k := of_decide_eq_false hc1
   refine awp_seq ?_
   refine awp_region ?_
   refine r_fieldb rfl TF.f89_2 TF.sz4 rfl ?_
   refine r_load1b 1 rfl rfl rfl TF.agg4 rfl ?_
   refine r_fieldb rfl TF.f89_2 TF.sz4 rfl ?_
   refine r_load1b 0 rfl rfl rfl TF.agg4 rfl ?_
   refine r_beq rfl rfl TF.un4 rfl ?_
   refine r_assign rfl rfl ?_
   refine awl_nil ?_
   refine x_then ?_
   refine awp_cond rfl (fun hc2 => ?_) (fun hc2 => ?_)
   ·
    have h3 : a.c = b.c := by simpa using hc2
    refine awp_seq ?_
    refine awp_region ?_
    refine r_assign rfl rfl ?_
    refine awl_nil ?_
    refine x_then ?_
    refine awp_ret ?_
    refine x_blockR ?_
    refine x_thenR ?_
    exact ⟨(.inl rfl), _, [], (.one (by first | exact .mk rfl rfl | exact .nil rfl)), ⟨rfl, by unfold entOrd; first | (rw [if_pos h1]; rfl) | (rw [if_neg h1, if_pos h2]; rfl) | (rw [if_neg h1, if_neg h2, if_pos h3]; rfl) | (rw [if_neg h1, if_neg h2, if_neg h3, if_pos h4]; rfl) | (rw [if_neg h1, if_neg h2, if_neg h3, if_neg (by rw [h4]; decide)]; rfl)⟩, (List.nil_sublist _), (by simp)⟩
   ·
    have h3 : ¬ a.c = b.c := by simpa using hc2
    refine awp_seq ?_
    refine awp_region ?_
    refine r_fieldb rfl TF.f89_2 TF.sz4 rfl ?_
    refine r_load1b 0 rfl rfl rfl TF.agg4 rfl ?_
    refine r_assign rfl rfl ?_
    refine awl_nil ?_
    refine x_then ?_
    refine awp_cond rfl (fun hc3 => ?_) (fun hc3 => ?_)
    ·
     have h4 : b.c = true := hc3
     refine awp_seq ?_
     refine awp_region ?_
     refine r_assign rfl rfl ?_
     refine awl_nil ?_
     refine x_then ?_
     refine awp_ret ?_
     refine x_blockR ?_
     refine x_thenR ?_
     exact ⟨(.inl rfl), _, [], (.one (by first | exact .mk rfl rfl | exact .nil rfl)), ⟨rfl, by unfold entOrd; first | (rw [if_pos h1]; rfl) | (rw [if_neg h1, if_pos h2]; rfl) | (rw [if_neg h1, if_neg h2, if_pos h3]; rfl) | (rw [if_neg h1, if_neg h2, if_neg h3, if_pos h4]; rfl) | (rw [if_neg h1, if_neg h2, if_neg h3, if_neg (by rw [h4]; decide)]; rfl)⟩, (List.nil_sublist _), (by simp)⟩
    ·
     have h4 : b.c = false := hc3
     refine awp_skip ?_
     refine x_block ?_
     refine x_then ?_
     refine awp_seq ?_
     refine awp_region ?_
     refine r_assign rfl rfl ?_
     refine awl_nil ?_
     refine x_then ?_
     refine awp_ret ?_
     exact ⟨(.inl rfl), _, [], (.one (by first | exact .mk rfl rfl | exact .nil rfl)), ⟨rfl, by unfold entOrd; first | (rw [if_pos h1]; rfl) | (rw [if_neg h1, if_pos h2]; rfl) | (rw [if_neg h1, if_neg h2, if_pos h3]; rfl) | (rw [if_neg h1, if_neg h2, if_neg h3, if_pos h4]; rfl) | (rw [if_neg h1, if_neg h2, if_neg h3, if_neg (by rw [h4]; decide)]; rfl)⟩, (List.nil_sublist _), (by simp)⟩
theorem Looked_ok (a b : TreeV) (hwa : wfRt (rootT a)) (hwb : wfRt (rootT b)) (ha : (idl a).length ≤ 100000) (hb : (idl b).length ≤ 100000) : AC Try.prog 19 [encT a, encT b] [] (fun r n => n = [] ∧ r = .v (.int .i64 (lookN a b : Nat))) := by
 refine ac_of_awp (rs := [4]) (nt := 39) Try.func19 rfl rfl rfl rfl (fun w0 C0 hq => ?_)
 refine awp_seq ?_
 refine awp_region ?_
 refine r_assign rfl rfl ?_
 refine awl_nil ?_
 refine x_then ?_
 refine awp_seq ?_
 refine awp_region ?_
 refine r_move rfl rfl ?_
 refine r_callO hq rfl rfl (.cons (.ev rfl rfl) .nil) (nodes_ok a hwa) rfl TF.en36 (by first | exact List.Sublist.refl _ | exact .cons_cons _ (.cons _ (.refl _)) | exact List.nil_sublist _ | exact .cons _ (.refl _) | exact .cons _ (.cons _ (.refl _)) | exact .cons _ (.cons _ (.cons _ (.refl _))) | exact .cons _ (.cons _ (.cons _ (.cons _ (.refl _)))) | exact .cons_cons _ (List.nil_sublist _)) rfl (fun r nobjs hr => ?_)
 obtain ⟨m1, ks1, rfl, rfl, hnd1, hks1⟩ := hr
 have hkl1 : ks1.length ≤ 100000 := by rw [(nodup_perm hnd1 (idl_nodup a) (fun p => (hks1 p).trans (idl_mem a p).symm)).length_eq]; exact ha
 refine r_move rfl rfl ?_
 refine r_callO hq rfl rfl (.cons (.ev rfl rfl) .nil) (nodes_ok b hwb) rfl TF.en36 (by first | exact List.Sublist.refl _ | exact .cons_cons _ (.cons _ (.refl _)) | exact List.nil_sublist _ | exact .cons _ (.refl _) | exact .cons _ (.cons _ (.refl _)) | exact .cons _ (.cons _ (.cons _ (.refl _))) | exact .cons _ (.cons _ (.cons _ (.cons _ (.refl _)))) | exact .cons_cons _ (List.nil_sublist _)) rfl (fun r nobjs hr => ?_)
 obtain ⟨m2, ks2, rfl, rfl, hnd2, hks2⟩ := hr
 have hkl2 : ks2.length ≤ 100000 := by rw [(nodup_perm hnd2 (idl_nodup b) (fun p => (hks2 p).trans (idl_mem b p).symm)).length_eq]; exact hb
 refine awl_imp (imp_perm (objs := [⟨m1, true, .nset ks1⟩, ⟨m2, true, .nset ks2⟩]) (List.Perm.swap _ _ _)) ?_
 refine r_assign rfl rfl ?_
 refine r_assign rfl rfl ?_
 refine awl_nil ?_
 refine x_then ?_
 refine awp_seq ?_
 refine awp_region ?_
 refine r_assign rfl rfl ?_
 refine awl_nil ?_
 refine x_then ?_
 refine awp_seq ?_
 refine awp_seq ?_
 refine awp_region ?_
 refine r_move rfl rfl ?_
 refine r_setRange 0 rfl rfl TF.map34 rfl (fun rb bs clock hbl hbn => ?_)
 refine awl_nil ?_
 refine x_then ?_
 refine awp_block ?_
 refine awp_loop (fun nn0 S => ∃ ps : List Nat, ∃ seen : List Nat, S = ⟨39, [(0, .a (encT a)), (1, .a (encT b)), (5, .a (.v (.map (some m1)))), (6, .a (.v (.map (some m2)))), (7, .a (.v (.int .i64 ((missL ps ks2 : Nat))))), (15, .a (.v (.pointer (some ⟨rb, 0, none⟩))))], [⟨rb, true, .iter m1 clock seen clock⟩, ⟨m1, true, .nsetb ks1 bs clock⟩, ⟨m2, true, .nset ks2⟩]⟩ ∧ nn0 = ks1.length - ps.length ∧ (Vis ks1 bs seen ps)) (ks1.length - ([]).length) ⟨39, [(0, .a (encT a)), (1, .a (encT b)), (5, .a (.v (.map (some m1)))), (6, .a (.v (.map (some m2)))), (7, .a (.v (.int .i64 ((missL ([]) ks2 : Nat))))), (15, .a (.v (.pointer (some ⟨rb, 0, none⟩))))], [⟨rb, true, .iter m1 clock ([]) clock⟩, ⟨m1, true, .nsetb ks1 bs clock⟩, ⟨m2, true, .nset ks2⟩]⟩ ⟨rfl, (Slots.cons rfl (by first | exact .refl _ | exact .nilOwn _ _ | exact .nilSl _ | exact .ownSl _ _ _  | exact SV.le.of_eq (by simp)) (Slots.cons rfl (by first | exact .refl _ | exact .nilOwn _ _ | exact .nilSl _ | exact .ownSl _ _ _  | exact SV.le.of_eq (by simp)) (Slots.cons rfl (by first | exact .refl _ | exact .nilOwn _ _ | exact .nilSl _ | exact .ownSl _ _ _  | exact SV.le.of_eq (by simp)) (Slots.cons rfl (by first | exact .refl _ | exact .nilOwn _ _ | exact .nilSl _ | exact .ownSl _ _ _  | exact SV.le.of_eq (by simp)) (Slots.cons rfl (by first | exact .refl _ | exact .nilOwn _ _ | exact .nilSl _ | exact .ownSl _ _ _  | exact SV.le.of_eq (by simp)) (Slots.cons rfl (by first | exact .refl _ | exact .nilOwn _ _ | exact .nilSl _ | exact .ownSl _ _ _  | exact SV.le.of_eq (by simp)) Slots.nil)))))), (by first | exact List.Sublist.refl _ | exact .cons_cons _ (.cons _ (.refl _)) | exact List.nil_sublist _ | exact .cons _ (.refl _) | exact .cons _ (.cons _ (.refl _)) | exact .cons _ (.cons _ (.cons _ (.refl _))) | exact .cons _ (.cons _ (.cons _ (.cons _ (.refl _)))) | exact .cons_cons _ (List.nil_sublist _))⟩ ⟨[], [], rfl, rfl, Vis.nil⟩ ?_
 rintro nn0 _ ⟨ps, seen, rfl, rfl, hv⟩
 refine awp_seq ?_
 refine awp_region ?_
 refine r_setNext 0 1 rfl rfl rfl rfl (fun hend => ?_) (fun q bq pq hpq hbq hnq => ?_)
 ·
  have hfin1 : missL ps ks2 = missL (idl a) (idl b) := missL_eq (hv.nodup hnd1) (idl_nodup a) (fun p => ⟨fun h => (idl_mem a p).2 ((hks1 p).1 (hv.mem h)), fun h => hv.all hbl hbn hend ((hks1 p).2 ((idl_mem a p).1 h))⟩) (fun p => (hks2 p).trans (idl_mem b p).symm)
  rw [hfin1]
  have hml1 := missL_le (idl a) (idl b)
  refine r_extract rfl rfl rfl ?_
  refine awl_nil ?_
  refine x_then ?_
  refine awp_seq ?_
  refine awp_condF rfl ?_
  refine awp_exit ?_
  refine x_thenE ?_
  refine x_thenE ?_
  refine x_blockE ?_
  refine x_then ?_
  refine awp_seq ?_
  refine awp_seq ?_
  refine awp_region ?_
  refine awl_imp (imp_setUnrange 1 rfl) ?_
  refine r_move rfl rfl ?_
  refine r_setRange 2 rfl rfl TF.map34 rfl (fun rb bs clock hbl hbn => ?_)
  refine awl_nil ?_
  refine x_then ?_
  refine awp_block ?_
  refine awp_loop (fun nn0 S => ∃ ps : List Nat, ∃ seen : List Nat, S = ⟨39, [(0, .a (encT a)), (1, .a (encT b)), (5, .a (.v (.map (some m1)))), (6, .a (.v (.map (some m2)))), (7, .a (.v (.int .i64 ((missL (idl a) (idl b) + missL ps ks1 : Nat))))), (27, .a (.v (.pointer (some ⟨rb, 0, none⟩))))], [⟨rb, true, .iter m2 clock seen clock⟩, ⟨m1, true, .nset ks1⟩, ⟨m2, true, .nsetb ks2 bs clock⟩]⟩ ∧ nn0 = ks2.length - ps.length ∧ (Vis ks2 bs seen ps)) (ks2.length - ([]).length) ⟨39, [(0, .a (encT a)), (1, .a (encT b)), (5, .a (.v (.map (some m1)))), (6, .a (.v (.map (some m2)))), (7, .a (.v (.int .i64 ((missL (idl a) (idl b) + missL ([]) ks1 : Nat))))), (27, .a (.v (.pointer (some ⟨rb, 0, none⟩))))], [⟨rb, true, .iter m2 clock ([]) clock⟩, ⟨m1, true, .nset ks1⟩, ⟨m2, true, .nsetb ks2 bs clock⟩]⟩ ⟨rfl, (Slots.cons rfl (by first | exact .refl _ | exact .nilOwn _ _ | exact .nilSl _ | exact .ownSl _ _ _  | exact SV.le.ownEq (by simp [missL]) | exact SV.le.of_eq (by simp [missL])) (Slots.cons rfl (by first | exact .refl _ | exact .nilOwn _ _ | exact .nilSl _ | exact .ownSl _ _ _  | exact SV.le.ownEq (by simp [missL]) | exact SV.le.of_eq (by simp [missL])) (Slots.cons rfl (by first | exact .refl _ | exact .nilOwn _ _ | exact .nilSl _ | exact .ownSl _ _ _  | exact SV.le.ownEq (by simp [missL]) | exact SV.le.of_eq (by simp [missL])) (Slots.cons rfl (by first | exact .refl _ | exact .nilOwn _ _ | exact .nilSl _ | exact .ownSl _ _ _  | exact SV.le.ownEq (by simp [missL]) | exact SV.le.of_eq (by simp [missL])) (Slots.cons rfl (by first | exact .refl _ | exact .nilOwn _ _ | exact .nilSl _ | exact .ownSl _ _ _  | exact SV.le.ownEq (by simp [missL]) | exact SV.le.of_eq (by simp [missL])) (Slots.cons rfl (by first | exact .refl _ | exact .nilOwn _ _ | exact .nilSl _ | exact .ownSl _ _ _  | exact SV.le.ownEq (by simp [missL]) | exact SV.le.of_eq (by simp [missL])) Slots.nil)))))), (by first | exact List.Sublist.refl _ | exact .cons_cons _ (.cons _ (.refl _)) | exact List.nil_sublist _ | exact .cons _ (.refl _) | exact .cons _ (.cons _ (.refl _)) | exact .cons _ (.cons _ (.cons _ (.refl _))) | exact .cons _ (.cons _ (.cons _ (.cons _ (.refl _)))) | exact .cons_cons _ (List.nil_sublist _))⟩ ⟨[], [], rfl, rfl, Vis.nil⟩ ?_
  rintro nn0 _ ⟨ps, seen, rfl, rfl, hv⟩
  refine awp_seq ?_
  refine awp_region ?_
  refine r_setNext 0 2 rfl rfl rfl rfl (fun hend => ?_) (fun q bq pq hpq hbq hnq => ?_)
  ·
   have hfin2 : missL ps ks1 = missL (idl b) (idl a) := missL_eq (hv.nodup hnd2) (idl_nodup b) (fun p => ⟨fun h => (idl_mem b p).2 ((hks2 p).1 (hv.mem h)), fun h => hv.all hbl hbn hend ((hks2 p).2 ((idl_mem b p).1 h))⟩) (fun p => (hks1 p).trans (idl_mem a p).symm)
   rw [hfin2]
   refine r_extract rfl rfl rfl ?_
   refine awl_nil ?_
   refine x_then ?_
   refine awp_seq ?_
   refine awp_condF rfl ?_
   refine awp_exit ?_
   refine x_thenE ?_
   refine x_thenE ?_
   refine x_blockE ?_
   refine x_then ?_
   refine awp_seq ?_
   refine awp_region ?_
   refine r_move rfl rfl ?_
   refine r_assign rfl rfl ?_
   refine awl_nil ?_
   refine x_then ?_
   refine awp_ret ?_
   exact ⟨(.inl rfl), _, [], (.one (by first | exact .mk rfl rfl | exact .nil rfl)), ⟨rfl, rfl⟩, (List.nil_sublist _), (by simp)⟩
  ·
   have hlt := hv.lt hpq hbq hnq
   have hv' := hv.next hpq hbq hnq
   have hml := missL_le ps ks1
   obtain ⟨⟨sh, sn⟩, hsf, hss, hsp⟩ := subAt_some (t := b) ((hks2 pq).1 (List.mem_of_getElem? hpq))
   simp only at hsp
   refine r_extract rfl rfl rfl ?_
   refine awl_nil ?_
   refine x_then ?_
   refine awp_seq ?_
   refine awp_condT rfl ?_
   refine awp_skip ?_
   refine x_then ?_
   refine awp_block ?_
   refine awp_seq ?_
   refine awp_region ?_
   refine r_setEntry 0 2 rfl rfl rfl hpq hbq rfl ?_
   refine r_extract rfl rfl rfl ?_
   refine r_assign rfl rfl ?_
   refine awl_imp (imp_know 9 1 (z := enc sh sn) rfl rfl (fun C u v h1 h2 => by cases h2; rw [← hsp]; exact rel_subT h1 _ hss)) ?_
   refine awl_imp (imp_le 9 rfl (SV.le.avEq (enc_eq sh sn))) ?_
   refine awl_nil ?_
   refine x_then ?_
   refine awp_seq ?_
   refine awp_region ?_
   refine r_move rfl rfl ?_
   refine r_move rfl rfl ?_
   refine r_setHas 1 ptm34 rfl rfl rfl rfl ⟨_, _, _, rfl⟩ rfl ?_
   refine r_not rfl rfl ?_
   refine awl_nil ?_
   refine x_then ?_
   refine awp_cond rfl (fun hc3 => ?_) (fun hc3 => ?_)
   ·
    have hin : (if pq ∈ ks1 then 0 else 1) = 1 := if_neg (by have := hc3; simp at this; rw [← hsp]; exact this)
    refine awp_region ?_
    refine r_move rfl rfl ?_
    refine r_ari _ rfl rfl rfl (wrap_id (by first | omega | (simp; omega))) rfl ?_
    refine r_assign rfl rfl ?_
    refine awl_nil ?_
    refine x_block ?_
    refine x_then ?_
    refine ⟨ks2.length - (ps ++ [pq]).length, ⟨39, [(0, .a (encT a)), (1, .a (encT b)), (5, .a (.v (.map (some m1)))), (6, .a (.v (.map (some m2)))), (7, .a (.v (.int .i64 ((missL (idl a) (idl b) + missL (ps ++ [pq]) ks1 : Nat))))), (27, .a (.v (.pointer (some ⟨rb, 0, none⟩))))], [⟨rb, true, .iter m2 clock (seen ++ [bq]) clock⟩, ⟨m1, true, .nset ks1⟩, ⟨m2, true, .nsetb ks2 bs clock⟩]⟩, ⟨rfl, (Slots.cons rfl (by first | exact .refl _ | exact .nilOwn _ _ | exact .nilSl _ | exact .ownSl _ _ _  | exact SV.le.ownEq (by rw [missL_snoc, hin]; simp; try omega) | exact SV.le.of_eq (by rw [missL_snoc, hin]; simp; try omega)) (Slots.cons rfl (by first | exact .refl _ | exact .nilOwn _ _ | exact .nilSl _ | exact .ownSl _ _ _  | exact SV.le.ownEq (by rw [missL_snoc, hin]; simp; try omega) | exact SV.le.of_eq (by rw [missL_snoc, hin]; simp; try omega)) (Slots.cons rfl (by first | exact .refl _ | exact .nilOwn _ _ | exact .nilSl _ | exact .ownSl _ _ _  | exact SV.le.ownEq (by rw [missL_snoc, hin]; simp; try omega) | exact SV.le.of_eq (by rw [missL_snoc, hin]; simp; try omega)) (Slots.cons rfl (by first | exact .refl _ | exact .nilOwn _ _ | exact .nilSl _ | exact .ownSl _ _ _  | exact SV.le.ownEq (by rw [missL_snoc, hin]; simp; try omega) | exact SV.le.of_eq (by rw [missL_snoc, hin]; simp; try omega)) (Slots.cons rfl (by first | exact .refl _ | exact .nilOwn _ _ | exact .nilSl _ | exact .ownSl _ _ _  | exact SV.le.ownEq (by rw [missL_snoc, hin]; simp; try omega) | exact SV.le.of_eq (by rw [missL_snoc, hin]; simp; try omega)) (Slots.cons rfl (by first | exact .refl _ | exact .nilOwn _ _ | exact .nilSl _ | exact .ownSl _ _ _  | exact SV.le.ownEq (by rw [missL_snoc, hin]; simp; try omega) | exact SV.le.of_eq (by rw [missL_snoc, hin]; simp; try omega)) Slots.nil)))))), (by first | exact List.Sublist.refl _ | exact .cons_cons _ (.cons _ (.refl _)) | exact List.nil_sublist _ | exact .cons _ (.refl _) | exact .cons _ (.cons _ (.refl _)) | exact .cons _ (.cons _ (.cons _ (.refl _))) | exact .cons _ (.cons _ (.cons _ (.cons _ (.refl _)))) | exact .cons_cons _ (List.nil_sublist _))⟩, (by simp; omega), ⟨ps ++ [pq], seen ++ [bq], rfl, rfl, hv'⟩⟩
   ·
    have hin : (if pq ∈ ks1 then 0 else 1) = 0 := if_pos (by have := hc3; simp at this; rw [← hsp]; exact this)
    refine awp_skip ?_
    refine x_block ?_
    refine x_then ?_
    refine ⟨ks2.length - (ps ++ [pq]).length, ⟨39, [(0, .a (encT a)), (1, .a (encT b)), (5, .a (.v (.map (some m1)))), (6, .a (.v (.map (some m2)))), (7, .a (.v (.int .i64 ((missL (idl a) (idl b) + missL (ps ++ [pq]) ks1 : Nat))))), (27, .a (.v (.pointer (some ⟨rb, 0, none⟩))))], [⟨rb, true, .iter m2 clock (seen ++ [bq]) clock⟩, ⟨m1, true, .nset ks1⟩, ⟨m2, true, .nsetb ks2 bs clock⟩]⟩, ⟨rfl, (Slots.cons rfl (by first | exact .refl _ | exact .nilOwn _ _ | exact .nilSl _ | exact .ownSl _ _ _  | exact SV.le.ownEq (by rw [missL_snoc, hin]; simp; try omega) | exact SV.le.of_eq (by rw [missL_snoc, hin]; simp; try omega)) (Slots.cons rfl (by first | exact .refl _ | exact .nilOwn _ _ | exact .nilSl _ | exact .ownSl _ _ _  | exact SV.le.ownEq (by rw [missL_snoc, hin]; simp; try omega) | exact SV.le.of_eq (by rw [missL_snoc, hin]; simp; try omega)) (Slots.cons rfl (by first | exact .refl _ | exact .nilOwn _ _ | exact .nilSl _ | exact .ownSl _ _ _  | exact SV.le.ownEq (by rw [missL_snoc, hin]; simp; try omega) | exact SV.le.of_eq (by rw [missL_snoc, hin]; simp; try omega)) (Slots.cons rfl (by first | exact .refl _ | exact .nilOwn _ _ | exact .nilSl _ | exact .ownSl _ _ _  | exact SV.le.ownEq (by rw [missL_snoc, hin]; simp; try omega) | exact SV.le.of_eq (by rw [missL_snoc, hin]; simp; try omega)) (Slots.cons rfl (by first | exact .refl _ | exact .nilOwn _ _ | exact .nilSl _ | exact .ownSl _ _ _  | exact SV.le.ownEq (by rw [missL_snoc, hin]; simp; try omega) | exact SV.le.of_eq (by rw [missL_snoc, hin]; simp; try omega)) (Slots.cons rfl (by first | exact .refl _ | exact .nilOwn _ _ | exact .nilSl _ | exact .ownSl _ _ _  | exact SV.le.ownEq (by rw [missL_snoc, hin]; simp; try omega) | exact SV.le.of_eq (by rw [missL_snoc, hin]; simp; try omega)) Slots.nil)))))), (by first | exact List.Sublist.refl _ | exact .cons_cons _ (.cons _ (.refl _)) | exact List.nil_sublist _ | exact .cons _ (.refl _) | exact .cons _ (.cons _ (.refl _)) | exact .cons _ (.cons _ (.cons _ (.refl _))) | exact .cons _ (.cons _ (.cons _ (.cons _ (.refl _)))) | exact .cons_cons _ (List.nil_sublist _))⟩, (by simp; omega), ⟨ps ++ [pq], seen ++ [bq], rfl, rfl, hv'⟩⟩
 ·
  have hlt := hv.lt hpq hbq hnq
  have hv' := hv.next hpq hbq hnq
  have hml := missL_le ps ks2
  obtain ⟨⟨sh, sn⟩, hsf, hss, hsp⟩ := subAt_some (t := a) ((hks1 pq).1 (List.mem_of_getElem? hpq))
  simp only at hsp
  refine r_extract rfl rfl rfl ?_
  refine awl_nil ?_
  refine x_then ?_
  refine awp_seq ?_
  refine awp_condT rfl ?_
  refine awp_skip ?_
  refine x_then ?_
  refine awp_block ?_
  refine awp_seq ?_
  refine awp_region ?_
  refine r_setEntry 0 1 rfl rfl rfl hpq hbq rfl ?_
  refine r_extract rfl rfl rfl ?_
  refine r_assign rfl rfl ?_
  refine awl_imp (imp_know 8 0 (z := enc sh sn) rfl rfl (fun C u v h1 h2 => by cases h2; rw [← hsp]; exact rel_subT h1 _ hss)) ?_
  refine awl_imp (imp_le 8 rfl (SV.le.avEq (enc_eq sh sn))) ?_
  refine awl_nil ?_
  refine x_then ?_
  refine awp_seq ?_
  refine awp_region ?_
  refine r_move rfl rfl ?_
  refine r_move rfl rfl ?_
  refine r_setHas 2 ptm34 rfl rfl rfl rfl ⟨_, _, _, rfl⟩ rfl ?_
  refine r_not rfl rfl ?_
  refine awl_nil ?_
  refine x_then ?_
  refine awp_cond rfl (fun hc1 => ?_) (fun hc1 => ?_)
  ·
   have hin : (if pq ∈ ks2 then 0 else 1) = 1 := if_neg (by have := hc1; simp at this; rw [← hsp]; exact this)
   refine awp_region ?_
   refine r_move rfl rfl ?_
   refine r_ari _ rfl rfl rfl (wrap_id (by first | omega | (simp; omega))) rfl ?_
   refine r_assign rfl rfl ?_
   refine awl_nil ?_
   refine x_block ?_
   refine x_then ?_
   refine ⟨ks1.length - (ps ++ [pq]).length, ⟨39, [(0, .a (encT a)), (1, .a (encT b)), (5, .a (.v (.map (some m1)))), (6, .a (.v (.map (some m2)))), (7, .a (.v (.int .i64 ((missL (ps ++ [pq]) ks2 : Nat))))), (15, .a (.v (.pointer (some ⟨rb, 0, none⟩))))], [⟨rb, true, .iter m1 clock (seen ++ [bq]) clock⟩, ⟨m1, true, .nsetb ks1 bs clock⟩, ⟨m2, true, .nset ks2⟩]⟩, ⟨rfl, (Slots.cons rfl (by first | exact .refl _ | exact .nilOwn _ _ | exact .nilSl _ | exact .ownSl _ _ _  | exact SV.le.ownEq (by rw [missL_snoc, hin]; simp) | exact SV.le.of_eq (by rw [missL_snoc, hin]; simp)) (Slots.cons rfl (by first | exact .refl _ | exact .nilOwn _ _ | exact .nilSl _ | exact .ownSl _ _ _  | exact SV.le.ownEq (by rw [missL_snoc, hin]; simp) | exact SV.le.of_eq (by rw [missL_snoc, hin]; simp)) (Slots.cons rfl (by first | exact .refl _ | exact .nilOwn _ _ | exact .nilSl _ | exact .ownSl _ _ _  | exact SV.le.ownEq (by rw [missL_snoc, hin]; simp) | exact SV.le.of_eq (by rw [missL_snoc, hin]; simp)) (Slots.cons rfl (by first | exact .refl _ | exact .nilOwn _ _ | exact .nilSl _ | exact .ownSl _ _ _  | exact SV.le.ownEq (by rw [missL_snoc, hin]; simp) | exact SV.le.of_eq (by rw [missL_snoc, hin]; simp)) (Slots.cons rfl (by first | exact .refl _ | exact .nilOwn _ _ | exact .nilSl _ | exact .ownSl _ _ _  | exact SV.le.ownEq (by rw [missL_snoc, hin]; simp) | exact SV.le.of_eq (by rw [missL_snoc, hin]; simp)) (Slots.cons rfl (by first | exact .refl _ | exact .nilOwn _ _ | exact .nilSl _ | exact .ownSl _ _ _  | exact SV.le.ownEq (by rw [missL_snoc, hin]; simp) | exact SV.le.of_eq (by rw [missL_snoc, hin]; simp)) Slots.nil)))))), (by first | exact List.Sublist.refl _ | exact .cons_cons _ (.cons _ (.refl _)) | exact List.nil_sublist _ | exact .cons _ (.refl _) | exact .cons _ (.cons _ (.refl _)) | exact .cons _ (.cons _ (.cons _ (.refl _))) | exact .cons _ (.cons _ (.cons _ (.cons _ (.refl _)))) | exact .cons_cons _ (List.nil_sublist _))⟩, (by simp; omega), ⟨ps ++ [pq], seen ++ [bq], rfl, rfl, hv'⟩⟩
  ·
   have hin : (if pq ∈ ks2 then 0 else 1) = 0 := if_pos (by have := hc1; simp at this; rw [← hsp]; exact this)
   refine awp_skip ?_
   refine x_block ?_
   refine x_then ?_
   refine ⟨ks1.length - (ps ++ [pq]).length, ⟨39, [(0, .a (encT a)), (1, .a (encT b)), (5, .a (.v (.map (some m1)))), (6, .a (.v (.map (some m2)))), (7, .a (.v (.int .i64 ((missL (ps ++ [pq]) ks2 : Nat))))), (15, .a (.v (.pointer (some ⟨rb, 0, none⟩))))], [⟨rb, true, .iter m1 clock (seen ++ [bq]) clock⟩, ⟨m1, true, .nsetb ks1 bs clock⟩, ⟨m2, true, .nset ks2⟩]⟩, ⟨rfl, (Slots.cons rfl (by first | exact .refl _ | exact .nilOwn _ _ | exact .nilSl _ | exact .ownSl _ _ _  | exact SV.le.ownEq (by rw [missL_snoc, hin]; simp) | exact SV.le.of_eq (by rw [missL_snoc, hin]; simp)) (Slots.cons rfl (by first | exact .refl _ | exact .nilOwn _ _ | exact .nilSl _ | exact .ownSl _ _ _  | exact SV.le.ownEq (by rw [missL_snoc, hin]; simp) | exact SV.le.of_eq (by rw [missL_snoc, hin]; simp)) (Slots.cons rfl (by first | exact .refl _ | exact .nilOwn _ _ | exact .nilSl _ | exact .ownSl _ _ _  | exact SV.le.ownEq (by rw [missL_snoc, hin]; simp) | exact SV.le.of_eq (by rw [missL_snoc, hin]; simp)) (Slots.cons rfl (by first | exact .refl _ | exact .nilOwn _ _ | exact .nilSl _ | exact .ownSl _ _ _  | exact SV.le.ownEq (by rw [missL_snoc, hin]; simp) | exact SV.le.of_eq (by rw [missL_snoc, hin]; simp)) (Slots.cons rfl (by first | exact .refl _ | exact .nilOwn _ _ | exact .nilSl _ | exact .ownSl _ _ _  | exact SV.le.ownEq (by rw [missL_snoc, hin]; simp) | exact SV.le.of_eq (by rw [missL_snoc, hin]; simp)) (Slots.cons rfl (by first | exact .refl _ | exact .nilOwn _ _ | exact .nilSl _ | exact .ownSl _ _ _  | exact SV.le.ownEq (by rw [missL_snoc, hin]; simp) | exact SV.le.of_eq (by rw [missL_snoc, hin]; simp)) Slots.nil)))))), (by first | exact List.Sublist.refl _ | exact .cons_cons _ (.cons _ (.refl _)) | exact List.nil_sublist _ | exact .cons _ (.refl _) | exact .cons _ (.cons _ (.refl _)) | exact .cons _ (.cons _ (.cons _ (.refl _))) | exact .cons _ (.cons _ (.cons _ (.cons _ (.refl _)))) | exact .cons_cons _ (List.nil_sublist _))⟩, (by simp; omega), ⟨ps ++ [pq], seen ++ [bq], rfl, rfl, hv'⟩⟩
end Go.Proofs.Ytljgdbgcleibjaa.A

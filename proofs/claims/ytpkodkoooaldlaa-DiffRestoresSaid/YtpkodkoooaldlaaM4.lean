import Derived.WalkKit
import Derived.Below
import Derived.Laws.Rows
import Derived.Laws.CopyRow
import Derived.Laws.AppendOwn
import Derived.RangeFuncLeaves
import Derived.RangeFuncSeq
import Derived.RangeFuncCalls
import Derived.MapKept
import Derived.Orders
import Derived.Laws.IdiomStrings
import Derived.Laws.BytesArg
import Derived.Shelf.SlIter.Nil
import Derived.RangeFuncBound
import Derived.Maps.RangeRun
import Derived.DeepKeys3
import Derived.Laws.StructEq
import Derived.Shelf.SlSortCmp.NoneTotal
import Derived.ChangeKeysEq
import Derived.Laws.MakeOwn
import Derived.ChangeArms
import Derived.ChangeOld
import Derived.Laws.DeepStrings4
import Derived.OpenShut
import Derived.Test.YtpkodkoooaldlaaProg
import Derived.KernelRfl
import Derived.OrdersIn
import Derived.Lib.AppendZeros
import Derived.Lib.AppendZerosOnto
import Derived.Lib.Overlaps
import Derived.Deep.AppendSrc
import Derived.Scope
import Derived.Shelf.SlGeneric
import Derived.Ground.SlsfProg
import Derived.Ground.SlmcProg
import Derived.Shelf.SlMaps.Clone
import Derived.Test.YtpkodkoooaldlaaM3
namespace Go.Proofs.Ytpkodkoooaldlaa.A
open Go Go.RowKit
set_option linter.unusedVariables false
set_option linter.unusedSimpArgs false
set_option maxRecDepth 100000
theorem kids_leaf' {h : Nat} (l : List (Nd h)) (h1 : 1 ≤ l.length) (e : (List.map (enc h) l).isEmpty = true) : False := by
  cases l with
  | nil => simp at h1
  | cons x l => simp at e
theorem kids_leaf : ∀ (h : Nat) (c : Nd h), (0 < h → 1 ≤ c.2.length) → (kidsOf h c.2).isEmpty = true → h = 0
  | 0, _, _, _ => rfl
  | h + 1, c, h1, e => (kids_leaf' (kdsOf c) (h1 (Nat.succ_pos h)) e).elim
theorem kids_inner : ∀ (h : Nat) (c : Nd h), (kidsOf h c.2).isEmpty = false → 0 < h
  | 0, _, e => by simp [kidsOf] at e
  | h + 1, _, _ => Nat.succ_pos h
end Go.Proofs.Ytpkodkoooaldlaa.A
namespace Go.Proofs.Ytpkodkoooaldlaa.A
open Go Go.RowKit
set_option linter.unusedVariables false
set_option linter.unusedSimpArgs false
set_option maxRecDepth 100000
theorem TF.pl111 : placesT Try.prog 111 = some [(0, 1), (1, 1)] := by kernel_rfl
theorem TF.zero111 : ZeroT Try.prog 111 [.v (.pointer none), .v (.int .i64 0)] := ⟨[(.pointer none), (.int .i64 0)], by kernel_rfl, (LeCells.refl _)⟩
theorem TF.un29 : Try.prog.underlying 29 = some (.pointer 111) := by kernel_rfl
theorem TF.f111_0 : fieldT Try.prog 111 0 = some (0, 100) := by kernel_rfl
theorem TF.f111_1 : fieldT Try.prog 111 1 = some (1, 3) := by kernel_rfl
theorem TF.en43 : entersT Try.prog 43 := enters_of Try.func43 (by kernel_rfl) (by kernel_rfl)
theorem TF.en37 : entersT Try.prog 37 := enters_of Try.func37 (by kernel_rfl) (by kernel_rfl)
theorem TF.en40 : entersT Try.prog 40 := enters_of Try.func40 (by kernel_rfl) (by kernel_rfl)
theorem TF.en41 : entersT Try.prog 41 := enters_of Try.func41 (by kernel_rfl) (by kernel_rfl)
theorem find_nil (k : Sp) : AC Try.prog 52 [nilP, spA k] [] (fun r n => n = [] ∧ r = .tup [.v (.int .i64 0), boolA false]) := by
 refine ac_of_awpG (Res2K Try.prog (.cell 4 3) (.cell 5 4)) (nt := 55) Try.func52 rfl rfl rfl (resK2_run rfl) (fun w0 C0 hq => ?_)
 unfold nilP
 refine awp_seq ?_
 refine awp_region ?_
 refine r_box rfl rfl rfl (fun b3 => ?_)
 refine r_alloc TF.zero3 rfl (fun b4 => ?_)
 refine r_alloc TF.zero4 rfl (fun b5 => ?_)
 refine awl_nil ?_
 refine x_then ?_
 refine awp_seq ?_
 refine awp_seq ?_
 refine awp_region ?_
 refine r_move rfl rfl ?_
 refine r_pnil rfl (by first | exact .pt _ _ | exact .nil | exact .v _ | exact .cp _) TF.un100 rfl ?_
 refine awl_nil ?_
 refine x_then ?_
 refine awp_cond rfl (fun hc0 => ?_) (fun hc0 => ?_)
 ·
  skip
  refine awp_seq ?_
  refine awp_region ?_
  first | (refine r_store 0 rfl rfl rfl TF.sz3 rfl rfl rfl ?_) | (refine r_store 1 rfl rfl rfl TF.sz3 rfl rfl rfl ?_) | (refine r_store 2 rfl rfl rfl TF.sz3 rfl rfl rfl ?_)
  first | (refine r_store 0 rfl rfl rfl TF.sz4 rfl rfl rfl ?_) | (refine r_store 1 rfl rfl rfl TF.sz4 rfl rfl rfl ?_) | (refine r_store 2 rfl rfl rfl TF.sz4 rfl rfl rfl ?_)
  refine awl_nil ?_
  refine x_then ?_
  refine awp_ret ?_
  refine x_thenR ?_
  exact ⟨(.inl rfl), _, [], ⟨_, _, (by first | exact .one 0 rfl rfl TF.agg3 | exact .one 1 rfl rfl TF.agg3 | exact .one 2 rfl rfl TF.agg3 | exact .one 3 rfl rfl TF.agg3 | exact .one 4 rfl rfl TF.agg3 | exact .one 5 rfl rfl TF.agg3), (by first | exact .one 0 rfl rfl TF.agg4 | exact .one 1 rfl rfl TF.agg4 | exact .one 2 rfl rfl TF.agg4 | exact .one 3 rfl rfl TF.agg4 | exact .one 4 rfl rfl TF.agg4 | exact .one 5 rfl rfl TF.agg4), rfl⟩, ⟨rfl, rfl⟩, (List.nil_sublist _), (by simp)⟩
 ·
  exfalso; cases hc0
theorem New_ok : AC Try.prog 34 [] [] (fun r n => n = [] ∧ r = encT (some (none, 0))) := by
 refine ac_of_awp (rs := [0]) (nt := 3) Try.func34 rfl rfl rfl rfl (fun w0 C0 hq => ?_)
 refine awp_seq ?_
 refine awp_region ?_
 refine r_assign rfl rfl ?_
 refine awl_nil ?_
 refine x_then ?_
 refine awp_seq ?_
 refine awp_region ?_
 refine r_build (parts := []) rfl TF.pl111 TF.zero111 rfl rfl rfl ?_
 refine r_box rfl rfl rfl (fun b2 => ?_)
 refine awl_imp (imp_commit 0 2 rfl rfl rfl rfl) ?_
 refine r_assign rfl rfl ?_
 refine awl_nil ?_
 refine x_then ?_
 refine awp_ret ?_
 exact ⟨(.inl rfl), _, [], (.one (by first | exact .mk rfl rfl | exact .nil rfl)), ⟨rfl, rfl⟩, (List.nil_sublist _), (by simp)⟩
theorem Root_nil : AC Try.prog 43 [nilP] [] (fun r n => n = [] ∧ r = nilP) := by
 refine ac_of_awp (rs := [2]) (nt := 9) Try.func43 rfl rfl rfl rfl (fun w0 C0 hq => ?_)
 unfold nilP
 refine awp_seq ?_
 refine awp_region ?_
 refine r_assign rfl rfl ?_
 refine awl_nil ?_
 refine x_then ?_
 refine awp_seq ?_
 refine awp_seq ?_
 refine awp_region ?_
 refine r_move rfl rfl ?_
 refine r_pnil rfl (by first | exact .pt _ _ | exact .nil | exact .v _ | exact .cp _) TF.un29 rfl ?_
 refine awl_nil ?_
 refine x_then ?_
 refine awp_cond rfl (fun hc0 => ?_) (fun hc0 => ?_)
 ·
  skip
  refine awp_seq ?_
  refine awp_region ?_
  refine r_assign rfl rfl ?_
  refine awl_nil ?_
  refine x_then ?_
  refine awp_ret ?_
  refine x_thenR ?_
  exact ⟨(.inl rfl), _, [], (.one (by first | exact .mk rfl rfl | exact .nil rfl)), ⟨rfl, rfl⟩, (List.nil_sublist _), (by simp)⟩
 ·
  exfalso; cases hc0
theorem Root_some (r : Rt) (n : Int) : AC Try.prog 43 [.cp [encR r, .v (.int .i64 (n))]] [] (fun r' nb => nb = [] ∧ r' = encR r) := by
 refine ac_of_awp (rs := [2]) (nt := 9) Try.func43 rfl rfl rfl rfl (fun w0 C0 hq => ?_)
 refine awp_seq ?_
 refine awp_region ?_
 refine r_assign rfl rfl ?_
 refine awl_nil ?_
 refine x_then ?_
 refine awp_seq ?_
 refine awp_seq ?_
 refine awp_region ?_
 refine r_move rfl rfl ?_
 refine r_pnil rfl (by first | exact .pt _ _ | exact .nil | exact .v _ | exact .cp _) TF.un29 rfl ?_
 refine awl_nil ?_
 refine x_then ?_
 refine awp_cond rfl (fun hc0 => ?_) (fun hc0 => ?_)
 ·
  exfalso; cases hc0
 ·
  refine awp_skip ?_
  refine x_then ?_
  refine awp_seq ?_
  refine awp_region ?_
  refine r_move rfl rfl ?_
  refine r_nilCheck rfl (by first | exact .pt _ _ | exact .v _ | exact .cp _) rfl ?_
  first | (refine r_fieldcp rfl TF.f111_0 TF.sz100 rfl ?_) | (refine r_fieldpt rfl TF.f111_0 TF.sz100 rfl ?_) | (refine r_fieldb rfl TF.f111_0 TF.sz100 rfl ?_)
  refine r_load1 rfl TF.agg100 rfl ?_
  refine r_assign rfl rfl ?_
  refine awl_nil ?_
  refine x_then ?_
  refine awp_ret ?_
  exact ⟨(.inl rfl), _, [], (.one (by first | exact .mk rfl rfl | exact .nil rfl)), ⟨rfl, rfl⟩, (List.nil_sublist _), (by simp)⟩
theorem Len_nil : AC Try.prog 40 [nilP] [] (fun r n => n = [] ∧ r = .v (.int .i64 0)) := by
 refine ac_of_awp (rs := [2]) (nt := 9) Try.func40 rfl rfl rfl rfl (fun w0 C0 hq => ?_)
 unfold nilP
 refine awp_seq ?_
 refine awp_region ?_
 refine r_assign rfl rfl ?_
 refine awl_nil ?_
 refine x_then ?_
 refine awp_seq ?_
 refine awp_seq ?_
 refine awp_region ?_
 refine r_move rfl rfl ?_
 refine r_pnil rfl (by first | exact .pt _ _ | exact .nil | exact .v _ | exact .cp _) TF.un29 rfl ?_
 refine awl_nil ?_
 refine x_then ?_
 refine awp_cond rfl (fun hc0 => ?_) (fun hc0 => ?_)
 ·
  skip
  refine awp_seq ?_
  refine awp_region ?_
  refine r_assign rfl rfl ?_
  refine awl_nil ?_
  refine x_then ?_
  refine awp_ret ?_
  refine x_thenR ?_
  exact ⟨(.inl rfl), _, [], (.one (by first | exact .mk rfl rfl | exact .nil rfl)), ⟨rfl, rfl⟩, (List.nil_sublist _), (by simp)⟩
 ·
  exfalso; cases hc0
theorem Len_some (r : Rt) (n : Int) : AC Try.prog 40 [.cp [encR r, .v (.int .i64 (n))]] [] (fun r' nb => nb = [] ∧ r' = .v (.int .i64 n)) := by
 refine ac_of_awp (rs := [2]) (nt := 9) Try.func40 rfl rfl rfl rfl (fun w0 C0 hq => ?_)
 refine awp_seq ?_
 refine awp_region ?_
 refine r_assign rfl rfl ?_
 refine awl_nil ?_
 refine x_then ?_
 refine awp_seq ?_
 refine awp_seq ?_
 refine awp_region ?_
 refine r_move rfl rfl ?_
 refine r_pnil rfl (by first | exact .pt _ _ | exact .nil | exact .v _ | exact .cp _) TF.un29 rfl ?_
 refine awl_nil ?_
 refine x_then ?_
 refine awp_cond rfl (fun hc0 => ?_) (fun hc0 => ?_)
 ·
  exfalso; cases hc0
 ·
  refine awp_skip ?_
  refine x_then ?_
  refine awp_seq ?_
  refine awp_region ?_
  refine r_move rfl rfl ?_
  refine r_nilCheck rfl (by first | exact .pt _ _ | exact .v _ | exact .cp _) rfl ?_
  first | (refine r_fieldcp rfl TF.f111_1 TF.sz3 rfl ?_) | (refine r_fieldpt rfl TF.f111_1 TF.sz3 rfl ?_) | (refine r_fieldb rfl TF.f111_1 TF.sz3 rfl ?_)
  refine r_load1 rfl TF.agg3 rfl ?_
  refine r_assign rfl rfl ?_
  refine awl_nil ?_
  refine x_then ?_
  refine awp_ret ?_
  exact ⟨(.inl rfl), _, [], (.one (by first | exact .mk rfl rfl | exact .nil rfl)), ⟨rfl, rfl⟩, (List.nil_sublist _), (by simp)⟩
theorem Root_ok : ∀ (t : TreeV), AC Try.prog 43 [encT t] [] (fun r nb => nb = [] ∧ r = encR (rootT t))
  | none => Root_nil
  | some (r, n) => Root_some r n
theorem Len_ok : ∀ (t : TreeV), AC Try.prog 40 [encT t] [] (fun r nb => nb = [] ∧ r = .v (.int .i64 (lenT t)))
  | none => Len_nil
  | some (r, n) => Len_some r n
theorem leafAt_wf : ∀ (h : Nat) (n : Nd h) (k : Sp), wfC 1 h n.2 → 1 ≤ (leafAt h n k).length ∧ (leafAt h n k).length ≤ 4
  | 0, n, k, hw => ⟨hw.1, hw.2⟩
  | h + 1, n, k, hw => by
    have h0 : 0 < (kdsOf n).length := hw.1
    obtain ⟨kid, hk⟩ : ∃ kid, (kdsOf n)[wayI h k (kdsOf n)]? = some kid := get_lt (wayI_lt h0)
    rw [leafAt_ok hk]
    exact leafAt_wf h kid k ((hw.2.2 kid (List.mem_of_getElem? hk)).mono (by omega))
theorem way_find {q : Nat} (e : Nd (q + 1)) (k : Sp) (h0 : 0 < (kdsOf e).length) : (findN k (keysOf (q + 1) e.2) (kidsOf (q + 1) e.2).isEmpty).1 = wayI q k (kdsOf e) := by
  have : (kidsOf (q + 1) e.2).isEmpty = false := by
    show (List.map (enc q) (kdsOf e)).isEmpty = false
    cases hk : kdsOf e with
    | nil => rw [hk] at h0; simp at h0
    | cons x r => rfl
  rw [this, findN, if_neg (by decide)]
  rfl
theorem leaf_none (t : TreeV) (hrt : rootT t = none) (k : Sp) : AC Try.prog 37 [encT t, spA k] [] (fun r nb => nb = [] ∧ r = .tup [nilP, nilP]) := by
 refine ac_of_awp (rs := [4, 5]) (nt := 46) Try.func37 rfl rfl rfl rfl (fun w0 C0 hq => ?_)
 refine awp_seq ?_
 refine awp_region ?_
 refine r_box rfl rfl rfl (fun b3 => ?_)
 refine r_assign rfl rfl ?_
 refine r_assign rfl rfl ?_
 refine awl_nil ?_
 refine x_then ?_
 refine awp_seq ?_
 refine awp_region ?_
 refine r_move rfl rfl ?_
 refine r_call0 hq rfl rfl (.cons (.ev rfl rfl) .nil) (Root_ok t) rfl TF.en43 rfl (fun r hr => ?_)
 obtain rfl := hr
 rw [hrt]
 show AWL _ _ _ _ _ _ (AState.put _ 9 (.a (.v (.pointer none))))
 refine r_assign rfl rfl ?_
 refine awl_nil ?_
 refine x_then ?_
 refine awp_seq ?_
 refine awp_seq ?_
 refine awp_region ?_
 refine r_move rfl rfl ?_
 refine r_pnil rfl (by first | exact .pt _ _ | exact .nil | exact .v _ | exact .cp _) TF.un100 rfl ?_
 refine awl_nil ?_
 refine x_then ?_
 refine awp_cond rfl (fun hc0 => ?_) (fun hc0 => ?_)
 ·
  skip
  refine awp_seq ?_
  refine awp_region ?_
  refine r_assign rfl rfl ?_
  refine r_assign rfl rfl ?_
  refine awl_nil ?_
  refine x_then ?_
  refine awp_ret ?_
  refine x_thenR ?_
  exact ⟨(.inl rfl), _, [], (.two (by first | exact .mk rfl rfl | exact .nil rfl) (by first | exact .mk rfl rfl | exact .nil rfl)), ⟨rfl, rfl⟩, (List.nil_sublist _), (by simp)⟩
 ·
  exfalso; cases hc0
theorem leaf_some (t : TreeV) (h : Nat) (n : Nd h) (hrt : rootT t = some ⟨h, n⟩) (hw : wfC 1 h n.2) (k : Sp) : AC Try.prog 37 [encT t, spA k] [] (fun r nb => nb = [] ∧ ∃ b nx, r = .tup [enc 0 (b, leafAt h n k), nx]) := by
 refine ac_of_awp (rs := [4, 5]) (nt := 46) Try.func37 rfl rfl rfl rfl (fun w0 C0 hq => ?_)
 refine awp_seq ?_
 refine awp_region ?_
 refine r_box rfl rfl rfl (fun b3 => ?_)
 refine r_assign rfl rfl ?_
 refine r_assign rfl rfl ?_
 refine awl_nil ?_
 refine x_then ?_
 refine awp_seq ?_
 refine awp_region ?_
 refine r_move rfl rfl ?_
 refine r_call0 hq rfl rfl (.cons (.ev rfl rfl) .nil) (Root_ok t) rfl TF.en43 rfl (fun r hr => ?_)
 obtain rfl := hr
 rw [hrt]
 refine awl_imp (imp_le 9 rfl (SV.le.avEq (enc_eq h n))) ?_
 refine r_assign rfl rfl ?_
 refine awl_nil ?_
 refine x_then ?_
 refine awp_seq ?_
 refine awp_seq ?_
 refine awp_region ?_
 refine r_move rfl rfl ?_
 refine r_pnil rfl (by first | exact .pt _ _ | exact .nil | exact .v _ | exact .cp _) TF.un100 rfl ?_
 refine awl_nil ?_
 refine x_then ?_
 refine awp_cond rfl (fun hc0 => ?_) (fun hc0 => ?_)
 ·
  exfalso; cases hc0
 ·
  refine awp_skip ?_
  refine x_then ?_
  refine awp_seq ?_
  refine awp_block ?_
  refine awp_loop (fun nn0 S => ∃ q : Nat, ∃ e : Nd q, ∃ nx : AV, S = ⟨46, [(3, .a (.v (.pointer (some ⟨b3, 0, none⟩)))), (4, .a (ndA e.1 (keysOf q e.2) (valsOf q e.2) (kidsOf q e.2))), (5, .a nx)], [⟨b3, true, .box k.cs⟩]⟩ ∧ nn0 = 2 * q ∧ (wfC 1 q e.2) ∧ (leafAt h n k = leafAt q e k)) (2 * (h)) ⟨46, [(3, .a (.v (.pointer (some ⟨b3, 0, none⟩)))), (4, .a (ndA (n).1 (keysOf (h) (n).2) (valsOf (h) (n).2) (kidsOf (h) (n).2))), (5, .a (.v (.pointer none)))], [⟨b3, true, .box k.cs⟩]⟩ ⟨rfl, (Slots.cons rfl (by first | exact .refl _ | exact .nilOwn _ _ | exact .nilSl _ | exact .ownSl _ _ _  | exact SV.le.of_eq (by simp)) (Slots.cons rfl (by first | exact .refl _ | exact .nilOwn _ _ | exact .nilSl _ | exact .ownSl _ _ _  | exact SV.le.of_eq (by simp)) (Slots.cons rfl (by first | exact .refl _ | exact .nilOwn _ _ | exact .nilSl _ | exact .ownSl _ _ _  | exact SV.le.of_eq (by simp)) Slots.nil))), (by first | exact List.Sublist.refl _ | exact .cons_cons _ (.cons _ (.refl _)) | exact List.nil_sublist _ | exact .cons _ (.refl _) | exact .cons _ (.cons _ (.refl _)) | exact .cons _ (.cons _ (.cons _ (.refl _))) | exact .cons _ (.cons _ (.cons _ (.cons _ (.refl _)))) | exact .cons_cons _ (List.nil_sublist _))⟩ ⟨h, n, .v (.pointer none), rfl, rfl, hw, rfl⟩ ?_
  rintro nn0 _ ⟨q, e, nx, rfl, rfl, hwe, hle⟩
  refine awp_seq ?_
  refine awp_seq ?_
  refine awp_region ?_
  refine r_move rfl rfl ?_
  refine r_call0 hq rfl rfl (.cons (.ev rfl rfl) .nil) (leaf_ok e.1 (keysOf q e.2) (valsOf q e.2) (kidsOf q e.2)) rfl TF.en51 rfl (fun r hr => ?_)
  obtain rfl := hr
  refine r_not rfl rfl ?_
  refine awl_nil ?_
  refine x_then ?_
  refine awp_cond rfl (fun hc1 => ?_) (fun hc1 => ?_)
  ·
   have hki : (kidsOf q e.2).isEmpty = false := by have := hc1; revert this; cases (kidsOf q e.2).isEmpty <;> intro h <;> first | rfl | cases h
   obtain ⟨q2, rfl⟩ : ∃ q2, q = q2 + 1 := ⟨q - 1, by have := kids_inner q e hki; omega⟩
   have hl0 : 0 < (kdsOf e).length := hwe.1
   have hl4 : (kdsOf e).length ≤ 4 := hwe.2.1
   have hil := wayI_lt (k := k) hl0
   obtain ⟨kid, hkid⟩ : ∃ kid, (kdsOf e)[wayI q2 k (kdsOf e)]? = some kid := get_lt hil
   have hkw := hwe.kid (List.mem_of_getElem? hkid)
   have hfn := way_find e k hl0
   have hlk : (kidsOf (q2 + 1) e.2).length = (kdsOf e).length := show (List.map (enc q2) (kdsOf e)).length = _ from List.length_map _
   refine awp_skip ?_
   refine x_then ?_
   refine awp_block ?_
   refine awp_seq ?_
   refine awp_region ?_
   refine r_move rfl rfl ?_
   first | (refine r_loadAb 0 rfl rfl TF.agg73 TF.sz73 rfl rfl ?_) | (refine r_loadA rfl TF.agg73 TF.sz73 rfl rfl ?_)
   refine r_call0 hq rfl rfl (.cons (.ev rfl rfl) (.cons (.ev rfl rfl) .nil)) (find_ok e.1 (keysOf (q2 + 1) e.2) (valsOf (q2 + 1) e.2) (kidsOf (q2 + 1) e.2) (by rw [keysOf_len]; have := hwe.hi; omega) k) rfl TF.en52 rfl (fun r hr => ?_)
   obtain rfl := hr
   rw [hfn]
   refine r_move rfl rfl ?_
   refine r_extract rfl rfl rfl ?_
   refine r_extract rfl rfl rfl ?_
   refine r_assign rfl rfl ?_
   refine r_assign rfl rfl ?_
   refine awl_nil ?_
   refine x_then ?_
   refine awp_seq ?_
   refine awp_seq ?_
   refine awp_region ?_
   refine r_move rfl rfl ?_
   refine r_ari ((wayI q2 k (kdsOf e) + 1 : Nat) : Int) rfl rfl rfl (wrap_id (by omega)) rfl ?_
   refine r_move rfl rfl ?_
   refine r_nilCheck rfl (by first | exact .pt _ _ | exact .v _ | exact .cp _) rfl ?_
   first | (refine r_fieldpt rfl TF.f115_2 TF.sz107 rfl ?_) | (refine r_fieldcp rfl TF.f115_2 TF.sz107 rfl ?_) | (refine r_fieldb rfl TF.f115_2 TF.sz107 rfl ?_)
   first | (refine r_load1b 0 rfl rfl rfl TF.agg107 rfl ?_) | (refine r_load1 rfl TF.agg107 rfl ?_)
   first | (refine r_lenS rfl rfl TF.sl107 rfl ?_) | (refine r_lenNil rfl TF.sl107 rfl ?_) | (refine r_lenV rfl TF.sl107 rfl ?_)
   refine r_cmp rfl rfl rfl rfl ?_
   refine awl_nil ?_
   refine x_then ?_
   refine awp_cond rfl (fun hc2 => ?_) (fun hc2 => ?_)
   ·
    have h2 : wayI q2 k (kdsOf e) + 1 < (kdsOf e).length := by have := of_decide_eq_true hc2; rw [List.length_map, hlk] at this; omega
    obtain ⟨y, hy⟩ : ∃ y, (kdsOf e)[wayI q2 k (kdsOf e) + 1]? = some y := get_lt h2
    refine awp_region ?_
    refine r_move rfl rfl ?_
    refine r_nilCheck rfl (by first | exact .pt _ _ | exact .v _ | exact .cp _) rfl ?_
    first | (refine r_fieldpt rfl TF.f115_2 TF.sz107 rfl ?_) | (refine r_fieldcp rfl TF.f115_2 TF.sz107 rfl ?_) | (refine r_fieldb rfl TF.f115_2 TF.sz107 rfl ?_)
    first | (refine r_load1b 0 rfl rfl rfl TF.agg107 rfl ?_) | (refine r_load1 rfl TF.agg107 rfl ?_)
    refine r_move rfl rfl ?_
    refine r_ari ((wayI q2 k (kdsOf e) + 1 : Nat) : Int) rfl rfl rfl (wrap_id (by omega)) rfl ?_
    refine r_index rfl rfl rfl TF.sl107 TF.sz100 (by omega) (get_map (get_map hy)) rfl ?_
    first | (refine r_load1b 0 rfl rfl rfl TF.agg100 rfl ?_) | (refine r_load1 rfl TF.agg100 rfl ?_)
    refine r_assign rfl rfl ?_
    refine awl_nil ?_
    refine x_then ?_
    refine awp_region ?_
    refine r_move rfl rfl ?_
    refine r_nilCheck rfl (by first | exact .pt _ _ | exact .v _ | exact .cp _) rfl ?_
    first | (refine r_fieldpt rfl TF.f115_2 TF.sz107 rfl ?_) | (refine r_fieldcp rfl TF.f115_2 TF.sz107 rfl ?_) | (refine r_fieldb rfl TF.f115_2 TF.sz107 rfl ?_)
    first | (refine r_load1b 0 rfl rfl rfl TF.agg107 rfl ?_) | (refine r_load1 rfl TF.agg107 rfl ?_)
    refine r_move rfl rfl ?_
    refine r_index rfl rfl rfl TF.sl107 TF.sz100 (by omega) ((get_map (get_map hkid)).trans (congrArg (fun y => some [y]) (enc_eq q2 kid))) rfl ?_
    first | (refine r_load1b 0 rfl rfl rfl TF.agg100 rfl ?_) | (refine r_load1 rfl TF.agg100 rfl ?_)
    refine r_assign rfl rfl ?_
    refine awl_nil ?_
    refine x_block ?_
    refine x_then ?_
    refine ⟨2 * (q2), ⟨46, [(3, .a (.v (.pointer (some ⟨b3, 0, none⟩)))), (4, .a (ndA (kid).1 (keysOf (q2) (kid).2) (valsOf (q2) (kid).2) (kidsOf (q2) (kid).2))), (5, .a (enc q2 y))], [⟨b3, true, .box k.cs⟩]⟩, ⟨rfl, (Slots.cons rfl (by first | exact .refl _ | exact .nilOwn _ _ | exact .nilSl _ | exact .ownSl _ _ _  | exact SV.le.of_eq (by simp)) (Slots.cons rfl (by first | exact .refl _ | exact .nilOwn _ _ | exact .nilSl _ | exact .ownSl _ _ _  | exact SV.le.of_eq (by simp)) (Slots.cons rfl (by first | exact .refl _ | exact .nilOwn _ _ | exact .nilSl _ | exact .ownSl _ _ _  | exact SV.le.of_eq (by simp)) Slots.nil))), (by first | exact List.Sublist.refl _ | exact .cons_cons _ (.cons _ (.refl _)) | exact List.nil_sublist _ | exact .cons _ (.refl _) | exact .cons _ (.cons _ (.refl _)) | exact .cons _ (.cons _ (.cons _ (.refl _))) | exact .cons _ (.cons _ (.cons _ (.cons _ (.refl _)))) | exact .cons_cons _ (List.nil_sublist _))⟩, (by omega), ⟨q2, kid, enc q2 y, rfl, rfl, (hkw.mono (by omega)), (hle.trans (leafAt_ok hkid))⟩⟩
   ·
    refine awp_skip ?_
    refine x_then ?_
    refine awp_region ?_
    refine r_move rfl rfl ?_
    refine r_nilCheck rfl (by first | exact .pt _ _ | exact .v _ | exact .cp _) rfl ?_
    first | (refine r_fieldpt rfl TF.f115_2 TF.sz107 rfl ?_) | (refine r_fieldcp rfl TF.f115_2 TF.sz107 rfl ?_) | (refine r_fieldb rfl TF.f115_2 TF.sz107 rfl ?_)
    first | (refine r_load1b 0 rfl rfl rfl TF.agg107 rfl ?_) | (refine r_load1 rfl TF.agg107 rfl ?_)
    refine r_move rfl rfl ?_
    refine r_index rfl rfl rfl TF.sl107 TF.sz100 (by omega) ((get_map (get_map hkid)).trans (congrArg (fun y => some [y]) (enc_eq q2 kid))) rfl ?_
    first | (refine r_load1b 0 rfl rfl rfl TF.agg100 rfl ?_) | (refine r_load1 rfl TF.agg100 rfl ?_)
    refine r_assign rfl rfl ?_
    refine awl_nil ?_
    refine x_block ?_
    refine x_then ?_
    refine ⟨2 * (q2), ⟨46, [(3, .a (.v (.pointer (some ⟨b3, 0, none⟩)))), (4, .a (ndA (kid).1 (keysOf (q2) (kid).2) (valsOf (q2) (kid).2) (kidsOf (q2) (kid).2))), (5, .a (nx))], [⟨b3, true, .box k.cs⟩]⟩, ⟨rfl, (Slots.cons rfl (by first | exact .refl _ | exact .nilOwn _ _ | exact .nilSl _ | exact .ownSl _ _ _  | exact SV.le.of_eq (by simp)) (Slots.cons rfl (by first | exact .refl _ | exact .nilOwn _ _ | exact .nilSl _ | exact .ownSl _ _ _  | exact SV.le.of_eq (by simp)) (Slots.cons rfl (by first | exact .refl _ | exact .nilOwn _ _ | exact .nilSl _ | exact .ownSl _ _ _  | exact SV.le.of_eq (by simp)) Slots.nil))), (by first | exact List.Sublist.refl _ | exact .cons_cons _ (.cons _ (.refl _)) | exact List.nil_sublist _ | exact .cons _ (.refl _) | exact .cons _ (.cons _ (.refl _)) | exact .cons _ (.cons _ (.cons _ (.refl _))) | exact .cons _ (.cons _ (.cons _ (.cons _ (.refl _)))) | exact .cons_cons _ (List.nil_sublist _))⟩, (by omega), ⟨q2, kid, nx, rfl, rfl, (hkw.mono (by omega)), (hle.trans (leafAt_ok hkid))⟩⟩
  ·
   have hki : (kidsOf q e.2).isEmpty = true := by have := hc1; revert this; cases (kidsOf q e.2).isEmpty <;> intro h <;> first | rfl | cases h
   obtain rfl := kids_leaf q e (fun _ => hwe.lo) hki
   refine awp_exit ?_
   refine x_thenE ?_
   refine x_thenE ?_
   refine x_blockE ?_
   refine x_then ?_
   refine awp_seq ?_
   refine awp_region ?_
   refine r_move rfl rfl ?_
   refine r_move rfl rfl ?_
   refine r_assign rfl rfl ?_
   refine r_assign rfl rfl ?_
   refine awl_nil ?_
   refine x_then ?_
   refine awp_ret ?_
   exact ⟨(.inl rfl), _, [], (.two (by first | exact .mk rfl rfl | exact .nil rfl) (by first | exact .mk rfl rfl | exact .nil rfl)), ⟨rfl, e.1, nx, by rw [hle]; rfl⟩, (List.nil_sublist _), (by simp)⟩
theorem Get_none (t : TreeV) (hrt : rootT t = none) (k : Sp) : AC Try.prog 41 [encT t, spA k] [] (fun r nb => nb = [] ∧ r = .tup [.v (.int .u64 ((getR (rootT t) k).getD 0)), boolA (getR (rootT t) k).isSome]) := by
 refine ac_of_awp (rs := [4, 5]) (nt := 30) Try.func41 rfl rfl rfl rfl (fun w0 C0 hq => ?_)
 refine awp_seq ?_
 refine awp_region ?_
 refine r_box rfl rfl rfl (fun b3 => ?_)
 refine r_assign rfl rfl ?_
 refine r_assign rfl rfl ?_
 refine awl_nil ?_
 refine x_then ?_
 refine awp_seq ?_
 refine awp_region ?_
 refine r_move rfl rfl ?_
 first | (refine r_loadAb 0 rfl rfl TF.agg73 TF.sz73 rfl rfl ?_) | (refine r_loadA rfl TF.agg73 TF.sz73 rfl rfl ?_)
 refine r_call0 hq rfl rfl (.cons (.ev rfl rfl) (.cons (.ev rfl rfl) .nil)) (leaf_none t hrt k) rfl TF.en37 rfl (fun r hr => ?_)
 obtain rfl := hr
 refine r_move rfl rfl ?_
 refine r_extract rfl rfl rfl ?_
 refine r_extract rfl rfl rfl ?_
 refine r_assign rfl rfl ?_
 refine r_assign rfl rfl ?_
 refine awl_nil ?_
 refine x_then ?_
 refine awp_seq ?_
 refine awp_seq ?_
 refine awp_region ?_
 refine r_move rfl rfl ?_
 first | (refine r_loadAb 0 rfl rfl TF.agg73 TF.sz73 rfl rfl ?_) | (refine r_loadA rfl TF.agg73 TF.sz73 rfl rfl ?_)
 refine r_call0 hq rfl rfl (.cons (.ev rfl rfl) (.cons (.ev rfl rfl) .nil)) (find_nil k) rfl TF.en52 rfl (fun r hr => ?_)
 obtain rfl := hr
 refine r_move rfl rfl ?_
 refine r_extract rfl rfl rfl ?_
 refine r_extract rfl rfl rfl ?_
 refine r_assign rfl rfl ?_
 refine r_assign rfl rfl ?_
 refine awl_nil ?_
 refine x_then ?_
 refine awp_seq ?_
 refine awp_region ?_
 refine r_move rfl rfl ?_
 refine awl_nil ?_
 refine x_then ?_
 refine awp_cond rfl (fun hc0 => ?_) (fun hc0 => ?_)
 ·
  exfalso; cases hc0
 ·
  refine awp_skip ?_
  refine x_then ?_
  refine awp_seq ?_
  refine awp_region ?_
  refine r_assign rfl rfl ?_
  refine r_assign rfl rfl ?_
  refine awl_nil ?_
  refine x_then ?_
  refine awp_ret ?_
  exact ⟨(.inl rfl), _, [], (.two (by first | exact .mk rfl rfl | exact .nil rfl) (by first | exact .mk rfl rfl | exact .nil rfl)), ⟨rfl, by rw [hrt]; rfl⟩, (List.nil_sublist _), (by simp)⟩
theorem Get_some (t : TreeV) (h : Nat) (n : Nd h) (hrt : rootT t = some ⟨h, n⟩) (hw : wfC 1 h n.2) (k : Sp) : AC Try.prog 41 [encT t, spA k] [] (fun r nb => nb = [] ∧ r = .tup [.v (.int .u64 ((getR (rootT t) k).getD 0)), boolA (getR (rootT t) k).isSome]) := by
 refine ac_of_awp (rs := [4, 5]) (nt := 30) Try.func41 rfl rfl rfl rfl (fun w0 C0 hq => ?_)
 have hlw := leafAt_wf h n k hw
 refine awp_seq ?_
 refine awp_region ?_
 refine r_box rfl rfl rfl (fun b3 => ?_)
 refine r_assign rfl rfl ?_
 refine r_assign rfl rfl ?_
 refine awl_nil ?_
 refine x_then ?_
 refine awp_seq ?_
 refine awp_region ?_
 refine r_move rfl rfl ?_
 first | (refine r_loadAb 0 rfl rfl TF.agg73 TF.sz73 rfl rfl ?_) | (refine r_loadA rfl TF.agg73 TF.sz73 rfl rfl ?_)
 refine r_call0 hq rfl rfl (.cons (.ev rfl rfl) (.cons (.ev rfl rfl) .nil)) (leaf_some t h n hrt hw k) rfl TF.en37 rfl (fun r hr => ?_)
 obtain ⟨b, nx, rfl⟩ := hr
 refine r_move rfl rfl ?_
 refine r_extract rfl rfl rfl ?_
 refine r_extract rfl rfl rfl ?_
 refine r_assign rfl rfl ?_
 refine r_assign rfl rfl ?_
 refine awl_nil ?_
 refine x_then ?_
 refine awp_seq ?_
 refine awp_seq ?_
 refine awp_region ?_
 refine r_move rfl rfl ?_
 first | (refine r_loadAb 0 rfl rfl TF.agg73 TF.sz73 rfl rfl ?_) | (refine r_loadA rfl TF.agg73 TF.sz73 rfl rfl ?_)
 refine r_call0 hq rfl rfl (.cons (.ev rfl rfl) (.cons (.ev rfl rfl) .nil)) (find_ok b ((leafAt h n k).map fun p : Sp × Int => p.1) ((leafAt h n k).map fun p : Sp × Int => p.2) [] (by simp; omega) k) rfl TF.en52 rfl (fun r hr => ?_)
 obtain rfl := hr
 refine r_move rfl rfl ?_
 refine r_extract rfl rfl rfl ?_
 refine r_extract rfl rfl rfl ?_
 refine r_assign rfl rfl ?_
 refine r_assign rfl rfl ?_
 refine awl_nil ?_
 refine x_then ?_
 refine awp_seq ?_
 refine awp_region ?_
 refine r_move rfl rfl ?_
 refine awl_nil ?_
 refine x_then ?_
 refine awp_cond rfl (fun hc0 => ?_) (fun hc0 => ?_)
 ·
  have hh : (findL k ((leafAt h n k).map fun p : Sp × Int => p.1)).2 = true := hc0
  have hil := findL_had hh
  rw [List.length_map] at hil
  obtain ⟨x, hx⟩ : ∃ x, (leafAt h n k)[(findL k ((leafAt h n k).map fun p : Sp × Int => p.1)).1]? = some x := get_lt hil
  have hg : getR (rootT t) k = some x.2 := by rw [hrt]; show getL k (leafAt h n k) = _; unfold getL; rw [if_pos hh, hx]; rfl
  refine awp_seq ?_
  refine awp_region ?_
  refine r_move rfl rfl ?_
  refine r_nilCheck rfl (by first | exact .pt _ _ | exact .v _ | exact .cp _) rfl ?_
  first | (refine r_fieldpt rfl TF.f115_1 TF.sz113 rfl ?_) | (refine r_fieldcp rfl TF.f115_1 TF.sz113 rfl ?_) | (refine r_fieldb rfl TF.f115_1 TF.sz113 rfl ?_)
  first | (refine r_load1b 0 rfl rfl rfl TF.agg113 rfl ?_) | (refine r_load1 rfl TF.agg113 rfl ?_)
  refine r_move rfl rfl ?_
  refine r_index rfl rfl rfl TF.sl113 TF.sz31 (Int.natCast_nonneg _) (get_map (get_map hx)) rfl ?_
  first | (refine r_load1b 0 rfl rfl rfl TF.agg31 rfl ?_) | (refine r_load1 rfl TF.agg31 rfl ?_)
  refine r_assign rfl rfl ?_
  refine r_assign rfl rfl ?_
  refine awl_nil ?_
  refine x_then ?_
  refine awp_ret ?_
  refine x_thenR ?_
  exact ⟨(.inl rfl), _, [], (.two (by first | exact .mk rfl rfl | exact .nil rfl) (by first | exact .mk rfl rfl | exact .nil rfl)), ⟨rfl, by rw [hg]; rfl⟩, (List.nil_sublist _), (by simp)⟩
 ·
  have hh : (findL k ((leafAt h n k).map fun p : Sp × Int => p.1)).2 = false := hc0
  have hg : getR (rootT t) k = none := by rw [hrt]; show getL k (leafAt h n k) = _; unfold getL; rw [if_neg (by rw [hh]; decide)]
  refine awp_skip ?_
  refine x_then ?_
  refine awp_seq ?_
  refine awp_region ?_
  refine r_assign rfl rfl ?_
  refine r_assign rfl rfl ?_
  refine awl_nil ?_
  refine x_then ?_
  refine awp_ret ?_
  exact ⟨(.inl rfl), _, [], (.two (by first | exact .mk rfl rfl | exact .nil rfl) (by first | exact .mk rfl rfl | exact .nil rfl)), ⟨rfl, by rw [hg]; rfl⟩, (List.nil_sublist _), (by simp)⟩
theorem Get_ok (t : TreeV) (hw : wfRt (rootT t)) (k : Sp) : AC Try.prog 41 [encT t, spA k] [] (fun r nb => nb = [] ∧ r = .tup [.v (.int .u64 ((getR (rootT t) k).getD 0)), boolA (getR (rootT t) k).isSome]) := by
  cases hr : rootT t with
  | none => rw [← hr]; exact Get_none t hr k
  | some s => obtain ⟨h, n⟩ := s; rw [hr] at hw; rw [← hr]; exact Get_some t h n hr hw.1 k
theorem TPut_none (t : TreeV) (hrt : rootT t = none) (hn : 0 ≤ lenT t ∧ lenT t ≤ 1000000) (k : Sp) (v : Int) : AC Try.prog 26 [encT t, spA k, .v (.int .u64 (v))] [] (fun r nb => nb = [] ∧ ∃ t', PutT t k v t' ∧ r = encT t') := by
 refine ac_of_awp (rs := [6]) (nt := 71) Try.func26 rfl rfl rfl rfl (fun w0 C0 hq => ?_)
 refine awp_seq ?_
 refine awp_region ?_
 refine r_box rfl rfl rfl (fun b4 => ?_)
 refine r_assign rfl rfl ?_
 refine awl_nil ?_
 refine x_then ?_
 refine awp_seq ?_
 refine awp_region ?_
 refine r_move rfl rfl ?_
 refine r_call0 hq rfl rfl (.cons (.ev rfl rfl) .nil) (Len_ok t) rfl TF.en40 rfl (fun r hr => ?_)
 obtain rfl := hr
 refine r_assign rfl rfl ?_
 refine awl_nil ?_
 refine x_then ?_
 refine awp_seq ?_
 refine awp_seq ?_
 refine awp_region ?_
 refine r_move rfl rfl ?_
 first | (refine r_loadAb 0 rfl rfl TF.agg73 TF.sz73 rfl rfl ?_) | (refine r_loadA rfl TF.agg73 TF.sz73 rfl rfl ?_)
 refine r_call0 hq rfl rfl (.cons (.ev rfl rfl) (.cons (.ev rfl rfl) .nil)) (Get_ok t (by rw [hrt]; trivial) k) rfl TF.en41 rfl (fun r hr => ?_)
 obtain rfl := hr
 refine r_move rfl rfl ?_
 refine r_extract rfl rfl rfl ?_
 refine r_extract rfl rfl rfl ?_
 refine r_assign rfl rfl ?_
 refine r_assign rfl rfl ?_
 refine awl_nil ?_
 refine x_then ?_
 refine awp_seq ?_
 refine awp_region ?_
 refine r_move rfl rfl ?_
 refine r_not rfl rfl ?_
 refine awl_nil ?_
 refine x_then ?_
 refine awp_cond rfl (fun hc0 => ?_) (fun hc0 => ?_)
 ·
  have hgn : getR (rootT t) k = none := by cases hg : getR (rootT t) k with | none => rfl | some x => rw [hg] at hc0; cases hc0
  refine awp_region ?_
  refine r_move rfl rfl ?_
  refine r_ari (lenT t + 1) rfl rfl rfl (wrap_id (by omega)) rfl ?_
  refine r_assign rfl rfl ?_
  refine awl_nil ?_
  refine x_then ?_
  refine awp_seq ?_
  refine awp_any (fun B S => ∃ xb : Nat, ∃ sl : List (Nat × SV), S = ⟨71, sl, [⟨b4, true, .box k.cs⟩]⟩ ∧ find 0 sl = some (.a (encT t)) ∧ find 2 sl = some (.a (.v (.int .u64 (v)))) ∧ find 4 sl = some (.a (.v (.pointer (some ⟨b4, 0, none⟩)))) ∧ find 7 sl = some (.a (.v (.int .i64 (lenT t + 1)))) ∧ (B 0 = true → find 28 sl = some (.a (encT t))) ∧ (B 1 = true → find 29 sl = some (.a (encR none))) ∧ (B 2 = true → find 30 sl = some (.a (spA k))) ∧ (B 3 = true → find 31 sl = some (.a (.v (.int .u64 (v))))) ∧ (B 4 = true → find 32 sl = some (.a (.sl 1 [[enc 0 (xb, [(k, v)])]]))) ∧ (B 5 = true → find 10 sl = some (.a (.sl 1 [[enc 0 (xb, [(k, v)])]])))) TF.mixed rfl ⟨0, _, rfl, rfl, rfl, rfl, rfl, (fun h => by cases h), (fun h => by cases h), (fun h => by cases h), (fun h => by cases h), (fun h => by cases h), (fun h => by cases h)⟩ ⟨⟨⟨⟨⟨⟨trivial
   , ⟨_, rfl, fun B S hBi hdep hcl => by
     rintro ⟨xb, sl, rfl, h0, h2, h4, h7, f0, f1, f2, f3, f4, f5⟩
     refine r_move h0 rfl ?_
     exact awl_nil ⟨rfl, xb, _, rfl, h0, h2, h4, h7, (fun h => rfl), f1, f2, f3, f4, f5⟩⟩⟩
   , ⟨_, rfl, fun B S hBi hdep hcl => by
     rintro ⟨xb, sl, rfl, h0, h2, h4, h7, f0, f1, f2, f3, f4, f5⟩
     refine r_call0 hq rfl rfl (.cons (.ev (f0 (hdep 0 rfl)) rfl) .nil) (Root_ok t) rfl TF.en43 rfl (fun r hr => ?_)
     obtain rfl := hr
     rw [hrt]
     exact awl_nil ⟨rfl, xb, _, rfl, h0, h2, h4, h7, f0, (fun h => rfl), f2, f3, f4, f5⟩⟩⟩
   , ⟨_, rfl, fun B S hBi hdep hcl => by
     rintro ⟨xb, sl, rfl, h0, h2, h4, h7, f0, f1, f2, f3, f4, f5⟩
     first | (refine r_loadAb 0 h4 rfl TF.agg73 TF.sz73 rfl rfl ?_) | (refine r_loadA h4 TF.agg73 TF.sz73 rfl rfl ?_)
     exact awl_nil ⟨rfl, xb, _, rfl, h0, h2, h4, h7, f0, f1, (fun h => rfl), f3, f4, f5⟩⟩⟩
   , ⟨_, rfl, fun B S hBi hdep hcl => by
     rintro ⟨xb, sl, rfl, h0, h2, h4, h7, f0, f1, f2, f3, f4, f5⟩
     refine r_move h2 rfl ?_
     exact awl_nil ⟨rfl, xb, _, rfl, h0, h2, h4, h7, f0, f1, f2, (fun h => rfl), f4, f5⟩⟩⟩
   , ⟨_, rfl, fun B S hBi hdep hcl => by
     rintro ⟨xb, sl, rfl, h0, h2, h4, h7, f0, f1, f2, f3, f4, f5⟩
     refine r_call0 hq rfl rfl (.cons (.ev (f1 (hdep 1 rfl)) rfl) (.cons (.ev (f2 (hdep 2 rfl)) rfl) (.cons (.ev (f3 (hdep 3 rfl)) rfl) .nil))) (put_nil k v) rfl TF.en42 rfl (fun r hr => ?_)
     obtain ⟨bq, rfl⟩ := hr
     exact awl_nil ⟨rfl, bq, _, rfl, h0, h2, h4, h7, f0, f1, f2, f3, (fun h => rfl), (fun h => absurd (hcl 5 4 h rfl) (by rw [hBi]; decide))⟩⟩⟩
   , ⟨_, rfl, fun B S hBi hdep hcl => by
     rintro ⟨xb, sl, rfl, h0, h2, h4, h7, f0, f1, f2, f3, f4, f5⟩
     refine r_assign (f4 (hdep 4 rfl)) rfl ?_
     exact awl_nil ⟨rfl, xb, _, rfl, h0, h2, h4, h7, f0, f1, f2, f3, f4, (fun h => rfl)⟩⟩⟩
   (fun B S hall => by
    rintro ⟨xb, sl, rfl, h0, h2, h4, h7, f0, f1, f2, f3, f4, f5⟩
    skip
    refine x_then ?_
    refine awp_weaken (S' := ⟨71, [(0, .a (encT t)), (2, .a (.v (.int .u64 (v)))), (4, .a (.v (.pointer (some ⟨b4, 0, none⟩)))), (7, .a (.v (.int .i64 (lenT t + 1)))), (10, .a (.sl 1 [[enc 0 (xb, [(k, v)])]]))], [⟨b4, true, .box k.cs⟩]⟩) ⟨rfl, (Slots.cons h0 (.refl _) (Slots.cons h2 (.refl _) (Slots.cons h4 (.refl _) (Slots.cons h7 (.refl _) (Slots.cons (f5 (hall 5 (by decide))) (.refl _) Slots.nil))))), (List.Sublist.refl _)⟩ ?_
    refine awp_seq ?_
    refine awp_seq ?_
    refine awp_region ?_
    refine r_move rfl rfl ?_
    first | (refine r_lenS rfl rfl TF.sl107 rfl ?_) | (refine r_lenNil rfl TF.sl107 rfl ?_) | (refine r_lenV rfl TF.sl107 rfl ?_)
    refine r_cmp rfl rfl rfl rfl ?_
    refine awl_nil ?_
    refine x_then ?_
    refine awp_cond rfl (fun hc1 => ?_) (fun hc1 => ?_)
    ·
     skip
     refine awp_seq ?_
     refine awp_region ?_
     refine r_move rfl rfl ?_
     refine r_index rfl rfl rfl TF.sl107 TF.sz100 (by decide) rfl rfl ?_
     first | (refine r_load1b 0 rfl rfl rfl TF.agg100 rfl ?_) | (refine r_load1 rfl TF.agg100 rfl ?_)
     refine r_move rfl rfl ?_
     refine r_build (parts := [(0, .tmp 38), (1, .tmp 39)]) rfl TF.pl111 TF.zero111 rfl rfl rfl ?_
     refine r_box rfl rfl rfl (fun b41 => ?_)
     refine awl_imp (imp_commit 0 41 rfl rfl rfl rfl) ?_
     refine r_assign rfl rfl ?_
     refine awl_nil ?_
     refine x_then ?_
     refine awp_ret ?_
     refine x_thenR ?_
     exact ⟨(.inl rfl), _, [], (.one (by first | exact .mk rfl rfl | exact .nil rfl)), ⟨rfl, some (some ⟨0, (xb, [(k, v)])⟩, lenT t + 1), ⟨some ⟨0, (xb, [(k, v)])⟩, by rw [hgn]; rfl, by rw [hrt]; exact ⟨xb, rfl⟩⟩, rfl⟩, (List.nil_sublist _), (by simp)⟩
    ·
     exfalso; cases hc1)
 ·
  have hgs : (getR (rootT t) k).isSome = true := by cases hg : getR (rootT t) k with | none => rw [hg] at hc0; cases hc0 | some x => rfl
  exfalso; rw [hrt] at hgs; cases hgs
theorem TPut_some (t : TreeV) (h : Nat) (n : Nd h) (hrt : rootT t = some ⟨h, n⟩) (hw : wfC 1 h n.2) (h2 : 0 < h → 2 ≤ n.2.length) (hn : 0 ≤ lenT t ∧ lenT t ≤ 1000000) (k : Sp) (v : Int) : AC Try.prog 26 [encT t, spA k, .v (.int .u64 (v))] [] (fun r nb => nb = [] ∧ ∃ t', PutT t k v t' ∧ r = encT t') := by
 refine ac_of_awp (rs := [6]) (nt := 71) Try.func26 rfl rfl rfl rfl (fun w0 C0 hq => ?_)
 refine awp_seq ?_
 refine awp_region ?_
 refine r_box rfl rfl rfl (fun b4 => ?_)
 refine r_assign rfl rfl ?_
 refine awl_nil ?_
 refine x_then ?_
 refine awp_seq ?_
 refine awp_region ?_
 refine r_move rfl rfl ?_
 refine r_call0 hq rfl rfl (.cons (.ev rfl rfl) .nil) (Len_ok t) rfl TF.en40 rfl (fun r hr => ?_)
 obtain rfl := hr
 refine r_assign rfl rfl ?_
 refine awl_nil ?_
 refine x_then ?_
 refine awp_seq ?_
 refine awp_seq ?_
 refine awp_region ?_
 refine r_move rfl rfl ?_
 first | (refine r_loadAb 0 rfl rfl TF.agg73 TF.sz73 rfl rfl ?_) | (refine r_loadA rfl TF.agg73 TF.sz73 rfl rfl ?_)
 refine r_call0 hq rfl rfl (.cons (.ev rfl rfl) (.cons (.ev rfl rfl) .nil)) (Get_ok t (by rw [hrt]; exact ⟨hw, h2⟩) k) rfl TF.en41 rfl (fun r hr => ?_)
 obtain rfl := hr
 refine r_move rfl rfl ?_
 refine r_extract rfl rfl rfl ?_
 refine r_extract rfl rfl rfl ?_
 refine r_assign rfl rfl ?_
 refine r_assign rfl rfl ?_
 refine awl_nil ?_
 refine x_then ?_
 refine awp_seq ?_
 refine awp_region ?_
 refine r_move rfl rfl ?_
 refine r_not rfl rfl ?_
 refine awl_nil ?_
 refine x_then ?_
 refine awp_cond rfl (fun hc0 => ?_) (fun hc0 => ?_)
 ·
  have hgn : getR (rootT t) k = none := by cases hg : getR (rootT t) k with | none => rfl | some x => rw [hg] at hc0; cases hc0
  refine awp_region ?_
  refine r_move rfl rfl ?_
  refine r_ari (lenT t + 1) rfl rfl rfl (wrap_id (by omega)) rfl ?_
  refine r_assign rfl rfl ?_
  refine awl_nil ?_
  refine x_then ?_
  refine awp_seq ?_
  refine awp_any (fun B S => ∃ l : List (Nd h), ∃ sl : List (Nat × SV), S = ⟨71, sl, [⟨b4, true, .box k.cs⟩]⟩ ∧ find 0 sl = some (.a (encT t)) ∧ find 2 sl = some (.a (.v (.int .u64 (v)))) ∧ find 4 sl = some (.a (.v (.pointer (some ⟨b4, 0, none⟩)))) ∧ find 7 sl = some (.a (.v (.int .i64 (lenT t + 1)))) ∧ (B 0 = true → find 28 sl = some (.a (encT t))) ∧ (B 1 = true → find 29 sl = some (.a (enc h n))) ∧ (B 2 = true → find 30 sl = some (.a (spA k))) ∧ (B 3 = true → find 31 sl = some (.a (.v (.int .u64 (v))))) ∧ (B 4 = true → find 32 sl = some (.a (.sl 1 (l.map fun x => [enc h x])))) ∧ (B 5 = true → find 10 sl = some (.a (.sl 1 (l.map fun x => [enc h x])))) ∧ (B 4 = true → PutR h n k v l)) TF.mixed rfl ⟨[], _, rfl, rfl, rfl, rfl, rfl, (fun h => by cases h), (fun h => by cases h), (fun h => by cases h), (fun h => by cases h), (fun h => by cases h), (fun h => by cases h), (fun h => by cases h)⟩ ⟨⟨⟨⟨⟨⟨trivial
   , ⟨_, rfl, fun B S hBi hdep hcl => by
     rintro ⟨l, sl, rfl, h0, h2, h4, h7, f0, f1, f2, f3, f4, f5, p4⟩
     refine r_move h0 rfl ?_
     exact awl_nil ⟨rfl, l, _, rfl, h0, h2, h4, h7, (fun h => rfl), f1, f2, f3, f4, f5, p4⟩⟩⟩
   , ⟨_, rfl, fun B S hBi hdep hcl => by
     rintro ⟨l, sl, rfl, h0, h2, h4, h7, f0, f1, f2, f3, f4, f5, p4⟩
     refine r_call0 hq rfl rfl (.cons (.ev (f0 (hdep 0 rfl)) rfl) .nil) (Root_ok t) rfl TF.en43 rfl (fun r hr => ?_)
     obtain rfl := hr
     rw [hrt]
     exact awl_nil ⟨rfl, l, _, rfl, h0, h2, h4, h7, f0, (fun h => rfl), f2, f3, f4, f5, p4⟩⟩⟩
   , ⟨_, rfl, fun B S hBi hdep hcl => by
     rintro ⟨l, sl, rfl, h0, h2, h4, h7, f0, f1, f2, f3, f4, f5, p4⟩
     first | (refine r_loadAb 0 h4 rfl TF.agg73 TF.sz73 rfl rfl ?_) | (refine r_loadA h4 TF.agg73 TF.sz73 rfl rfl ?_)
     exact awl_nil ⟨rfl, l, _, rfl, h0, h2, h4, h7, f0, f1, (fun h => rfl), f3, f4, f5, p4⟩⟩⟩
   , ⟨_, rfl, fun B S hBi hdep hcl => by
     rintro ⟨l, sl, rfl, h0, h2, h4, h7, f0, f1, f2, f3, f4, f5, p4⟩
     refine r_move h2 rfl ?_
     exact awl_nil ⟨rfl, l, _, rfl, h0, h2, h4, h7, f0, f1, f2, (fun h => rfl), f4, f5, p4⟩⟩⟩
   , ⟨_, rfl, fun B S hBi hdep hcl => by
     rintro ⟨l, sl, rfl, h0, h2, h4, h7, f0, f1, f2, f3, f4, f5, p4⟩
     refine r_call0 hq rfl rfl (.cons (.ev (f1 (hdep 1 rfl)) rfl) (.cons (.ev (f2 (hdep 2 rfl)) rfl) (.cons (.ev (f3 (hdep 3 rfl)) rfl) .nil))) (put_ok h n hw k v) rfl TF.en42 rfl (fun r hr => ?_)
     obtain ⟨lq, hlq, rfl⟩ := hr
     exact awl_nil ⟨rfl, lq, _, rfl, h0, h2, h4, h7, f0, f1, f2, f3, (fun h => rfl), (fun h => absurd (hcl 5 4 h rfl) (by rw [hBi]; decide)), (fun _ => hlq)⟩⟩⟩
   , ⟨_, rfl, fun B S hBi hdep hcl => by
     rintro ⟨l, sl, rfl, h0, h2, h4, h7, f0, f1, f2, f3, f4, f5, p4⟩
     refine r_assign (f4 (hdep 4 rfl)) rfl ?_
     exact awl_nil ⟨rfl, l, _, rfl, h0, h2, h4, h7, f0, f1, f2, f3, f4, (fun h => rfl), p4⟩⟩⟩
   (fun B S hall => by
    rintro ⟨l, sl, rfl, h0, h2, h4, h7, f0, f1, f2, f3, f4, f5, p4⟩
    have hp4 := p4 (hall 4 (by decide))
    have hpw := putR_wf h (Nat.le_refl 1) (by omega) hw hp4
    refine x_then ?_
    refine awp_weaken (S' := ⟨71, [(0, .a (encT t)), (2, .a (.v (.int .u64 (v)))), (4, .a (.v (.pointer (some ⟨b4, 0, none⟩)))), (7, .a (.v (.int .i64 (lenT t + 1)))), (10, .a (.sl 1 (l.map fun x => [enc h x])))], [⟨b4, true, .box k.cs⟩]⟩) ⟨rfl, (Slots.cons h0 (.refl _) (Slots.cons h2 (.refl _) (Slots.cons h4 (.refl _) (Slots.cons h7 (.refl _) (Slots.cons (f5 (hall 5 (by decide))) (.refl _) Slots.nil))))), (List.Sublist.refl _)⟩ ?_
    refine awp_seq ?_
    refine awp_seq ?_
    refine awp_region ?_
    refine r_move rfl rfl ?_
    first | (refine r_lenS rfl rfl TF.sl107 rfl ?_) | (refine r_lenNil rfl TF.sl107 rfl ?_) | (refine r_lenV rfl TF.sl107 rfl ?_)
    refine r_cmp rfl rfl rfl rfl ?_
    refine awl_nil ?_
    refine x_then ?_
    refine awp_cond rfl (fun hc1 => ?_) (fun hc1 => ?_)
    ·
     have hl1 : l.length = 1 := by have := of_decide_eq_true hc1; simp at this; omega
     obtain ⟨x, rfl⟩ : ∃ x, l = [x] := List.length_eq_one_iff.1 hl1
     refine awp_seq ?_
     refine awp_region ?_
     refine r_move rfl rfl ?_
     refine r_index rfl rfl rfl TF.sl107 TF.sz100 (by decide) (congrArg (fun y => some [y]) (enc_eq h x)) rfl ?_
     first | (refine r_load1b 0 rfl rfl rfl TF.agg100 rfl ?_) | (refine r_load1 rfl TF.agg100 rfl ?_)
     refine r_move rfl rfl ?_
     refine r_build (parts := [(0, .tmp 38), (1, .tmp 39)]) rfl TF.pl111 TF.zero111 rfl rfl rfl ?_
     refine r_box rfl rfl rfl (fun b41 => ?_)
     refine awl_imp (imp_commit 0 41 rfl rfl rfl rfl) ?_
     refine r_assign rfl rfl ?_
     refine awl_nil ?_
     refine x_then ?_
     refine awp_ret ?_
     refine x_thenR ?_
     exact ⟨(.inl rfl), _, [], (.one (by first | exact .mk rfl rfl | exact .nil rfl)), ⟨rfl, some (some ⟨h, x⟩, lenT t + 1), ⟨some ⟨h, x⟩, by show _ = some (_, lenT t + _); rw [hgn]; rfl, by rw [hrt]; exact ⟨[x], hp4, .inl ⟨x, rfl, rfl⟩⟩⟩, by show _ = AV.cp [enc h x, _]; rw [enc_eq]; rfl⟩, (List.nil_sublist _), (by simp)⟩
    ·
     have hl1 : l.length ≠ 1 := by have := of_decide_eq_false hc1; simp at this; omega
     refine awp_skip ?_
     refine x_then ?_
     refine awp_seq ?_
     refine awp_region ?_
     refine r_move rfl rfl ?_
     refine r_build (parts := [(2, .tmp 42)]) rfl TF.pl115 TF.zeroR115 rfl rfl rfl ?_
     refine r_box rfl rfl rfl (fun b44 => ?_)
     refine r_assign rfl rfl ?_
     refine awl_nil ?_
     refine x_then ?_
     refine awp_seq ?_
     refine awp_seq ?_
     refine awp_region ?_
     refine r_move rfl rfl ?_
     first | (refine r_lenS rfl rfl TF.sl107 rfl ?_) | (refine r_lenNil rfl TF.sl107 rfl ?_) | (refine r_lenV rfl TF.sl107 rfl ?_)
     refine r_move rfl rfl ?_
     refine awl_nil ?_
     refine x_then ?_
     refine awp_block ?_
     refine awp_loop (fun nn0 S => ∃ j : Nat, ∃ hd : AV, ∃ os : List OE, S = ⟨71, [(7, .a (.v (.int .i64 (lenT t + 1)))), (11, .a (.v (.pointer (some ⟨b44, 0, none⟩)))), (45, .a (.sl 1 (l.map fun x => [enc h x]))), (46, .a (.v (.int .i64 (((l.map fun x => [enc h x]).length : Nat))))), (47, .a (.v (.int .i64 ((j : Int)))))], os ++ [⟨b44, true, .box [hd, .v (.slice none 0 0), .sl 1 (l.map fun x => [enc h x])]⟩]⟩ ∧ nn0 = l.length - j ∧ (j ≤ l.length) ∧ (KeyR (kksOf h l) j hd os)) (l.length - (0)) ⟨71, [(7, .a (.v (.int .i64 (lenT t + 1)))), (11, .a (.v (.pointer (some ⟨b44, 0, none⟩)))), (45, .a (.sl 1 (l.map fun x => [enc h x]))), (46, .a (.v (.int .i64 (((l.map fun x => [enc h x]).length : Nat))))), (47, .a (.v (.int .i64 (((0) : Int)))))], ([]) ++ [⟨b44, true, .box [(.v (.slice none 0 0)), .v (.slice none 0 0), .sl 1 (l.map fun x => [enc h x])]⟩]⟩ ⟨rfl, (Slots.cons rfl (by first | exact .refl _ | exact .nilOwn _ _ | exact .nilSl _ | exact .ownSl _ _ _  | exact SV.le.of_eq (by simp)) (Slots.cons rfl (by first | exact .refl _ | exact .nilOwn _ _ | exact .nilSl _ | exact .ownSl _ _ _  | exact SV.le.of_eq (by simp)) (Slots.cons rfl (by first | exact .refl _ | exact .nilOwn _ _ | exact .nilSl _ | exact .ownSl _ _ _  | exact SV.le.of_eq (by simp)) (Slots.cons rfl (by first | exact .refl _ | exact .nilOwn _ _ | exact .nilSl _ | exact .ownSl _ _ _  | exact SV.le.of_eq (by simp)) (Slots.cons rfl (by first | exact .refl _ | exact .nilOwn _ _ | exact .nilSl _ | exact .ownSl _ _ _  | exact SV.le.of_eq (by simp)) Slots.nil))))), (by first | exact List.Sublist.refl _ | exact .cons_cons _ (.cons _ (.refl _)) | exact List.nil_sublist _ | exact .cons _ (.refl _) | exact .cons _ (.cons _ (.refl _)) | exact .cons _ (.cons _ (.cons _ (.refl _))) | exact .cons _ (.cons _ (.cons _ (.cons _ (.refl _)))) | exact .cons_cons _ (List.nil_sublist _))⟩ ⟨0, .v (.slice none 0 0), [], rfl, rfl, Nat.zero_le _, (.inl ⟨rfl, rfl, rfl⟩)⟩ ?_
     rintro nn0 _ ⟨j, hd, os, rfl, rfl, hk, hK⟩
     refine awp_seq ?_
     refine awp_region ?_
     refine r_cmp rfl rfl rfl rfl ?_
     refine awl_nil ?_
     refine x_then ?_
     refine awp_seq ?_
     refine awp_cond rfl (fun hc2 => ?_) (fun hc2 => ?_)
     ·
      have hltx : j < l.length := by have := of_decide_eq_true hc2; simpa using this
      obtain ⟨x, hx⟩ := get_lt hltx
      have hwx := hpw.1 x (List.mem_of_getElem? hx)
      obtain ⟨y, hy⟩ := hwx.ne (by decide)
      refine awp_skip ?_
      refine x_then ?_
      refine awp_seq ?_
      refine awp_block ?_
      refine awp_seq ?_
      refine awp_region ?_
      refine r_index rfl rfl rfl TF.sl107 TF.sz100 (by omega) ((get_map hx).trans (congrArg (fun q => some [q]) (enc_eq h x))) rfl ?_
      first | (refine r_load1b 0 rfl rfl rfl TF.agg100 rfl ?_) | (refine r_load1 rfl TF.agg100 rfl ?_) | (refine r_load1b 1 rfl rfl rfl TF.agg100 rfl ?_)
      refine r_assign rfl rfl ?_
      refine awl_nil ?_
      refine x_then ?_
      refine awp_seq ?_
      refine awp_region ?_
      refine r_move rfl rfl ?_
      refine r_call0 hq rfl rfl (.cons (.ev rfl rfl) .nil) (least_ok x.1 (keysOf h x.2) (valsOf h x.2) (kidsOf h x.2) y hy (by rw [keysOf_len]; have := hwx.hi; omega)) rfl TF.en44 rfl (fun r hr => ?_)
      obtain rfl := hr
      refine r_move rfl rfl ?_
      refine r_extract rfl rfl rfl ?_
      refine r_extract rfl rfl rfl ?_
      refine r_alloc TF.zero73 rfl (fun b14 => ?_)
      first | (refine r_store 0 rfl rfl rfl TF.sz73 rfl rfl rfl ?_) | (refine r_store 1 rfl rfl rfl TF.sz73 rfl rfl rfl ?_) | (refine r_store 2 rfl rfl rfl TF.sz73 rfl rfl rfl ?_)
      refine r_assign rfl rfl ?_
      refine awl_nil ?_
      refine x_then ?_
      rcases hK with ⟨hk0, rfl, rfl⟩ | ⟨g, cap, n', L, hk0, rfl, hnL, rfl, hL⟩
      ·
       refine awp_any (fun B S => ∃ gb : Nat, ∃ gc : Nat, ∃ sl : List (Nat × SV), S = ⟨71, sl, cond (B 10) [⟨gb, true, .buf 4 [y.cs] gc 73⟩, ⟨b14, true, .box y.cs⟩, ⟨b44, true, .box [.v (.slice (some ⟨gb, 0, none⟩) [y.cs].length gc), .v (.slice none 0 0), .sl 1 (l.map fun x => [enc h x])]⟩] (cond (B 7) [⟨gb, true, .buf 4 [y.cs] gc 73⟩, ⟨b14, true, .box y.cs⟩, ⟨b44, true, .box [.v (.slice none 0 0), .v (.slice none 0 0), .sl 1 (l.map fun x => [enc h x])]⟩] [⟨b14, true, .box y.cs⟩, ⟨b44, true, .box [.v (.slice none 0 0), .v (.slice none 0 0), .sl 1 (l.map fun x => [enc h x])]⟩])⟩ ∧ find 7 sl = some (.a (.v (.int .i64 (lenT t + 1)))) ∧ find 11 sl = some (.a (.v (.pointer (some ⟨b44, 0, none⟩)))) ∧ find 14 sl = some (.a (.v (.pointer (some ⟨b14, 0, none⟩)))) ∧ find 45 sl = some (.a (.sl 1 (l.map fun x => [enc h x]))) ∧ find 46 sl = some (.a (.v (.int .i64 (((l.map fun x => [enc h x]).length : Nat))))) ∧ find 47 sl = some (.a (.v (.int .i64 ((j : Int))))) ∧ (B 0 = true → find 56 sl = some (.a (.v (.pointer (some ⟨b44, 0, none⟩))))) ∧ (B 1 = true → find 57 sl = some (.a (.v (.pointer (some ⟨b44, 0, none⟩))))) ∧ (B 2 = true → find 58 sl = some (.a (.v (.pointer (some ⟨b44, 0, none⟩))))) ∧ (B 3 = true → find 59 sl = some (.a (.v (.pointer (some ⟨b44, 0, none⟩))))) ∧ (B 4 = true → find 60 sl = some (.a (.v (.slice none 0 0)))) ∧ (B 5 = true → find 61 sl = some (.a (spA y))) ∧ (B 6 = true → find 62 sl = some (.a (.sl 4 [y.cs]))) ∧ (B 7 = true → find 63 sl = some (.a (.v (.slice (some ⟨gb, 0, none⟩) [y.cs].length gc)))) ∧ (B 8 = true → find 64 sl = some (.a (.v (.pointer (some ⟨b44, 0, none⟩))))) ∧ (B 9 = true → find 65 sl = some (.a (.v (.pointer (some ⟨b44, 0, none⟩)))))) TF.mixed rfl ⟨0, 0, _, rfl, rfl, rfl, rfl, rfl, rfl, rfl, (fun h => by cases h), (fun h => by cases h), (fun h => by cases h), (fun h => by cases h), (fun h => by cases h), (fun h => by cases h), (fun h => by cases h), (fun h => by cases h), (fun h => by cases h), (fun h => by cases h)⟩ ⟨⟨⟨⟨⟨⟨⟨⟨⟨⟨⟨trivial
        , ⟨_, rfl, fun B S hBi hdep hcl => by
          rintro ⟨gb, gc, sl, rfl, h7, h11, h14, h45, h46, h47, f0, f1, f2, f3, f4, f5, f6, f7, f8, f9⟩
          refine r_move h11 rfl ?_
          exact awl_nil ⟨rfl, gb, gc, _, rfl, h7, h11, h14, h45, h46, h47, (fun h => rfl), f1, f2, f3, f4, f5, f6, f7, f8, f9⟩⟩⟩
        , ⟨_, rfl, fun B S hBi hdep hcl => by
          rintro ⟨gb, gc, sl, rfl, h7, h11, h14, h45, h46, h47, f0, f1, f2, f3, f4, f5, f6, f7, f8, f9⟩
          refine r_move h11 rfl ?_
          exact awl_nil ⟨rfl, gb, gc, _, rfl, h7, h11, h14, h45, h46, h47, f0, (fun h => rfl), f2, f3, f4, f5, f6, f7, f8, f9⟩⟩⟩
        , ⟨_, rfl, fun B S hBi hdep hcl => by
          rintro ⟨gb, gc, sl, rfl, h7, h11, h14, h45, h46, h47, f0, f1, f2, f3, f4, f5, f6, f7, f8, f9⟩
          refine r_nilCheck (f1 (hdep 1 rfl)) (by first | exact .pt _ _ | exact .v _ | exact .cp _) rfl ?_
          exact awl_nil ⟨rfl, gb, gc, _, rfl, h7, h11, h14, h45, h46, h47, f0, f1, (fun h => rfl), f3, f4, f5, f6, f7, f8, f9⟩⟩⟩
        , ⟨_, rfl, fun B S hBi hdep hcl => by
          rintro ⟨gb, gc, sl, rfl, h7, h11, h14, h45, h46, h47, f0, f1, f2, f3, f4, f5, f6, f7, f8, f9⟩
          first | (refine r_fieldpt (f2 (hdep 2 rfl)) TF.f115_0 TF.sz112 rfl ?_) | (refine r_fieldcp (f2 (hdep 2 rfl)) TF.f115_0 TF.sz112 rfl ?_) | (refine r_fieldb (f2 (hdep 2 rfl)) TF.f115_0 TF.sz112 rfl ?_)
          exact awl_nil ⟨rfl, gb, gc, _, rfl, h7, h11, h14, h45, h46, h47, f0, f1, f2, (fun h => rfl), f4, f5, f6, f7, f8, f9⟩⟩⟩
        , ⟨_, rfl, fun B S hBi hdep hcl => by
          rintro ⟨gb, gc, sl, rfl, h7, h11, h14, h45, h46, h47, f0, f1, f2, f3, f4, f5, f6, f7, f8, f9⟩
          have e7 : B 7 = false := by cases h : B 7 with | false => rfl | true => exact absurd (hcl 7 4 h rfl) (by rw [hBi]; decide)
          have e10 : B 10 = false := by cases h : B 10 with | false => rfl | true => exact absurd (hcl 10 4 h rfl) (by rw [hBi]; decide)
          rw [e7, e10]
          first | (refine r_load1b 0 (f3 (hdep 3 rfl)) rfl rfl TF.agg112 rfl ?_) | (refine r_load1 (f3 (hdep 3 rfl)) TF.agg112 rfl ?_) | (refine r_load1b 1 (f3 (hdep 3 rfl)) rfl rfl TF.agg112 rfl ?_) | (refine r_load1b 2 (f3 (hdep 3 rfl)) rfl rfl TF.agg112 rfl ?_)
          exact awl_nil ⟨rfl, gb, gc, ((60, .a (.v (.slice none 0 0))) :: sl), (by show _ = (⟨71, _, cond (B 10) [⟨gb, true, .buf 4 [y.cs] gc 73⟩, ⟨b14, true, .box y.cs⟩, ⟨b44, true, .box [.v (.slice (some ⟨gb, 0, none⟩) [y.cs].length gc), .v (.slice none 0 0), .sl 1 (l.map fun x => [enc h x])]⟩] (cond (B 7) [⟨gb, true, .buf 4 [y.cs] gc 73⟩, ⟨b14, true, .box y.cs⟩, ⟨b44, true, .box [.v (.slice none 0 0), .v (.slice none 0 0), .sl 1 (l.map fun x => [enc h x])]⟩] [⟨b14, true, .box y.cs⟩, ⟨b44, true, .box [.v (.slice none 0 0), .v (.slice none 0 0), .sl 1 (l.map fun x => [enc h x])]⟩])⟩ : AState); rw [e7, e10]; rfl), h7, h11, h14, h45, h46, h47, f0, f1, f2, f3, (fun h => rfl), f5, f6, f7, f8, f9⟩⟩⟩
        , ⟨_, rfl, fun B S hBi hdep hcl => by
          rintro ⟨gb, gc, sl, rfl, h7, h11, h14, h45, h46, h47, f0, f1, f2, f3, f4, f5, f6, f7, f8, f9⟩
          have e7 : B 7 = false := by cases h : B 7 with | false => rfl | true => exact absurd (hcl 6 5 (hcl 7 6 h rfl) rfl) (by rw [hBi]; decide)
          have e10 : B 10 = false := by cases h : B 10 with | false => rfl | true => exact absurd (hcl 10 5 h rfl) (by rw [hBi]; decide)
          rw [e7, e10]
          first | (refine r_loadAb 0 h14 rfl TF.agg73 TF.sz73 rfl rfl ?_) | (refine r_loadA h14 TF.agg73 TF.sz73 rfl rfl ?_) | (refine r_loadAb 1 h14 rfl TF.agg73 TF.sz73 rfl rfl ?_) | (refine r_loadAb 2 h14 rfl TF.agg73 TF.sz73 rfl rfl ?_)
          exact awl_nil ⟨rfl, gb, gc, ((61, .a (spA y)) :: sl), (by show _ = (⟨71, _, cond (B 10) [⟨gb, true, .buf 4 [y.cs] gc 73⟩, ⟨b14, true, .box y.cs⟩, ⟨b44, true, .box [.v (.slice (some ⟨gb, 0, none⟩) [y.cs].length gc), .v (.slice none 0 0), .sl 1 (l.map fun x => [enc h x])]⟩] (cond (B 7) [⟨gb, true, .buf 4 [y.cs] gc 73⟩, ⟨b14, true, .box y.cs⟩, ⟨b44, true, .box [.v (.slice none 0 0), .v (.slice none 0 0), .sl 1 (l.map fun x => [enc h x])]⟩] [⟨b14, true, .box y.cs⟩, ⟨b44, true, .box [.v (.slice none 0 0), .v (.slice none 0 0), .sl 1 (l.map fun x => [enc h x])]⟩])⟩ : AState); rw [e7, e10]; rfl), h7, h11, h14, h45, h46, h47, f0, f1, f2, f3, f4, (fun h => rfl), f6, f7, f8, f9⟩⟩⟩
        , ⟨_, rfl, fun B S hBi hdep hcl => by
          rintro ⟨gb, gc, sl, rfl, h7, h11, h14, h45, h46, h47, f0, f1, f2, f3, f4, f5, f6, f7, f8, f9⟩
          refine r_litC (parts := [(0, .tmp 61)]) rfl TF.sl112 TF.sz73 TF.zraw73 rfl rfl rfl (parts_cons (f5 (hdep 5 rfl)) parts_nil) rfl rfl rfl rfl ?_
          exact awl_nil ⟨rfl, gb, gc, _, rfl, h7, h11, h14, h45, h46, h47, f0, f1, f2, f3, f4, f5, (fun h => rfl), f7, f8, f9⟩⟩⟩
        , ⟨_, rfl, fun B S hBi hdep hcl => by
          rintro ⟨gb, gc, sl, rfl, h7, h11, h14, h45, h46, h47, f0, f1, f2, f3, f4, f5, f6, f7, f8, f9⟩
          have e10 : B 10 = false := by cases h : B 10 with | false => rfl | true => exact absurd (hcl 10 7 h rfl) (by rw [hBi]; decide)
          rw [hBi, e10]
          refine r_appendBN (f4 (hdep 4 rfl)) (f6 (hdep 6 rfl)) (by first | exact .sl _ | exact .own _ _) (by simp [chunks]) TF.sl112 TF.sz73 TF.by73 TF.zlen73 (by simp [chunks] <;> omega) (by simp [chunks] <;> omega) rfl (fun gb gc => ?_)
          exact awl_nil ⟨rfl, gb, gc, ((63, .a (.v (.slice (some ⟨gb, 0, none⟩) [y.cs].length gc))) :: sl), (by show _ = (⟨71, _, cond (B 10) [⟨gb, true, .buf 4 [y.cs] gc 73⟩, ⟨b14, true, .box y.cs⟩, ⟨b44, true, .box [.v (.slice (some ⟨gb, 0, none⟩) [y.cs].length gc), .v (.slice none 0 0), .sl 1 (l.map fun x => [enc h x])]⟩] (cond true [⟨gb, true, .buf 4 [y.cs] gc 73⟩, ⟨b14, true, .box y.cs⟩, ⟨b44, true, .box [.v (.slice none 0 0), .v (.slice none 0 0), .sl 1 (l.map fun x => [enc h x])]⟩] [⟨b14, true, .box y.cs⟩, ⟨b44, true, .box [.v (.slice none 0 0), .v (.slice none 0 0), .sl 1 (l.map fun x => [enc h x])]⟩])⟩ : AState); rw [e10]; rfl), h7, h11, h14, h45, h46, h47, f0, f1, f2, f3, f4, f5, f6, (fun h => rfl), f8, f9⟩⟩⟩
        , ⟨_, rfl, fun B S hBi hdep hcl => by
          rintro ⟨gb, gc, sl, rfl, h7, h11, h14, h45, h46, h47, f0, f1, f2, f3, f4, f5, f6, f7, f8, f9⟩
          refine r_nilCheck (f0 (hdep 0 rfl)) (by first | exact .pt _ _ | exact .v _ | exact .cp _) rfl ?_
          exact awl_nil ⟨rfl, gb, gc, _, rfl, h7, h11, h14, h45, h46, h47, f0, f1, f2, f3, f4, f5, f6, f7, (fun h => rfl), f9⟩⟩⟩
        , ⟨_, rfl, fun B S hBi hdep hcl => by
          rintro ⟨gb, gc, sl, rfl, h7, h11, h14, h45, h46, h47, f0, f1, f2, f3, f4, f5, f6, f7, f8, f9⟩
          first | (refine r_fieldpt (f8 (hdep 8 rfl)) TF.f115_0 TF.sz112 rfl ?_) | (refine r_fieldcp (f8 (hdep 8 rfl)) TF.f115_0 TF.sz112 rfl ?_) | (refine r_fieldb (f8 (hdep 8 rfl)) TF.f115_0 TF.sz112 rfl ?_)
          exact awl_nil ⟨rfl, gb, gc, _, rfl, h7, h11, h14, h45, h46, h47, f0, f1, f2, f3, f4, f5, f6, f7, f8, (fun h => rfl)⟩⟩⟩
        , ⟨_, rfl, fun B S hBi hdep hcl => by
          rintro ⟨gb, gc, sl, rfl, h7, h11, h14, h45, h46, h47, f0, f1, f2, f3, f4, f5, f6, f7, f8, f9⟩
          have e7 : B 7 = true := hdep 7 rfl
          rw [hBi, e7]
          first | (refine r_store 0 (f9 (hdep 9 rfl)) rfl (f7 (hdep 7 rfl)) TF.sz112 rfl rfl rfl ?_) | (refine r_store 1 (f9 (hdep 9 rfl)) rfl (f7 (hdep 7 rfl)) TF.sz112 rfl rfl rfl ?_) | (refine r_store 2 (f9 (hdep 9 rfl)) rfl (f7 (hdep 7 rfl)) TF.sz112 rfl rfl rfl ?_)
          exact awl_nil ⟨rfl, gb, gc, sl, (by show _ = (⟨71, _, cond true [⟨gb, true, .buf 4 [y.cs] gc 73⟩, ⟨b14, true, .box y.cs⟩, ⟨b44, true, .box [.v (.slice (some ⟨gb, 0, none⟩) [y.cs].length gc), .v (.slice none 0 0), .sl 1 (l.map fun x => [enc h x])]⟩] (cond (B 7) [⟨gb, true, .buf 4 [y.cs] gc 73⟩, ⟨b14, true, .box y.cs⟩, ⟨b44, true, .box [.v (.slice none 0 0), .v (.slice none 0 0), .sl 1 (l.map fun x => [enc h x])]⟩] [⟨b14, true, .box y.cs⟩, ⟨b44, true, .box [.v (.slice none 0 0), .v (.slice none 0 0), .sl 1 (l.map fun x => [enc h x])]⟩])⟩ : AState); rw [e7]; rfl), h7, h11, h14, h45, h46, h47, f0, f1, f2, f3, f4, f5, f6, f7, f8, f9⟩⟩⟩
        (fun B S hall => by
         rintro ⟨gb, gc, sl, rfl, h7, h11, h14, h45, h46, h47, f0, f1, f2, f3, f4, f5, f6, f7, f8, f9⟩
         rw [hall 10 (by decide)]
         refine x_block ?_
         refine x_then ?_
         refine awp_weaken (S' := ⟨71, [(7, .a (.v (.int .i64 (lenT t + 1)))), (11, .a (.v (.pointer (some ⟨b44, 0, none⟩)))), (14, .a (.v (.pointer (some ⟨b14, 0, none⟩)))), (45, .a (.sl 1 (l.map fun x => [enc h x]))), (46, .a (.v (.int .i64 (((l.map fun x => [enc h x]).length : Nat))))), (47, .a (.v (.int .i64 ((j : Int)))))], [⟨gb, true, .buf 4 [y.cs] gc 73⟩, ⟨b44, true, .box [.v (.slice (some ⟨gb, 0, none⟩) [y.cs].length gc), .v (.slice none 0 0), .sl 1 (l.map fun x => [enc h x])]⟩]⟩) ⟨rfl, (Slots.cons h7 (.refl _) (Slots.cons h11 (.refl _) (Slots.cons h14 (.refl _) (Slots.cons h45 (.refl _) (Slots.cons h46 (.refl _) (Slots.cons h47 (.refl _) Slots.nil)))))), (.cons_cons _ (.cons _ (List.Sublist.refl _)))⟩ ?_
         refine awp_region ?_
         refine r_ari _ rfl rfl rfl (wrap_id (by first | omega | (simp; omega))) rfl ?_
         refine r_move rfl rfl ?_
         refine awl_nil ?_
         refine x_then ?_
         refine ⟨l.length - (j + 1), ⟨71, [(7, .a (.v (.int .i64 (lenT t + 1)))), (11, .a (.v (.pointer (some ⟨b44, 0, none⟩)))), (45, .a (.sl 1 (l.map fun x => [enc h x]))), (46, .a (.v (.int .i64 (((l.map fun x => [enc h x]).length : Nat))))), (47, .a (.v (.int .i64 (((j + 1) : Int)))))], ([⟨gb, true, .buf 4 [y.cs] gc 73⟩]) ++ [⟨b44, true, .box [(.v (.slice (some ⟨gb, 0, none⟩) [y.cs].length gc)), .v (.slice none 0 0), .sl 1 (l.map fun x => [enc h x])]⟩]⟩, ⟨rfl, (Slots.cons rfl (by first | exact .refl _ | exact .nilOwn _ _ | exact .nilSl _ | exact .ownSl _ _ _  | exact SV.le.of_eq (by simp)) (Slots.cons rfl (by first | exact .refl _ | exact .nilOwn _ _ | exact .nilSl _ | exact .ownSl _ _ _  | exact SV.le.of_eq (by simp)) (Slots.cons rfl (by first | exact .refl _ | exact .nilOwn _ _ | exact .nilSl _ | exact .ownSl _ _ _  | exact SV.le.of_eq (by simp)) (Slots.cons rfl (by first | exact .refl _ | exact .nilOwn _ _ | exact .nilSl _ | exact .ownSl _ _ _  | exact SV.le.of_eq (by simp)) (Slots.cons rfl (by first | exact .refl _ | exact .nilOwn _ _ | exact .nilSl _ | exact .ownSl _ _ _  | exact SV.le.of_eq (by simp)) Slots.nil))))), (by first | exact List.Sublist.refl _ | exact .cons_cons _ (.cons _ (.refl _)) | exact List.nil_sublist _ | exact .cons _ (.refl _) | exact .cons _ (.cons _ (.refl _)) | exact .cons _ (.cons _ (.cons _ (.refl _))) | exact .cons _ (.cons _ (.cons _ (.cons _ (.refl _)))) | exact .cons_cons _ (List.nil_sublist _))⟩, (by omega), ⟨j + 1, .v (.slice (some ⟨gb, 0, none⟩) [y.cs].length gc), [⟨gb, true, .buf 4 [y.cs] gc 73⟩], rfl, rfl, (by omega), (.inr ⟨gb, gc, _, _, by omega, rfl, rfl, rfl, keyR_next (L := []) hx hy (by rw [hk0]; rfl)⟩)⟩⟩)
      ·
       have hLl : L.length ≤ j := by rw [hL, List.length_map, List.length_take]; omega
       refine awp_any (fun B S => ∃ gb : Nat, ∃ gc : Nat, ∃ sl : List (Nat × SV), S = ⟨71, sl, cond (B 10) [⟨gb, true, .buf 4 (L ++ [y.cs]) gc 73⟩, ⟨b14, true, .box y.cs⟩, ⟨b44, true, .box [.v (.slice (some ⟨gb, 0, none⟩) (L ++ [y.cs]).length gc), .v (.slice none 0 0), .sl 1 (l.map fun x => [enc h x])]⟩] (cond (B 7) [⟨gb, true, .buf 4 (L ++ [y.cs]) gc 73⟩, ⟨b14, true, .box y.cs⟩, ⟨b44, true, .box [.v (.slice (some ⟨g, 0, none⟩) n' cap), .v (.slice none 0 0), .sl 1 (l.map fun x => [enc h x])]⟩] [⟨b14, true, .box y.cs⟩, ⟨g, true, .buf 4 L cap 73⟩, ⟨b44, true, .box [.v (.slice (some ⟨g, 0, none⟩) n' cap), .v (.slice none 0 0), .sl 1 (l.map fun x => [enc h x])]⟩])⟩ ∧ find 7 sl = some (.a (.v (.int .i64 (lenT t + 1)))) ∧ find 11 sl = some (.a (.v (.pointer (some ⟨b44, 0, none⟩)))) ∧ find 14 sl = some (.a (.v (.pointer (some ⟨b14, 0, none⟩)))) ∧ find 45 sl = some (.a (.sl 1 (l.map fun x => [enc h x]))) ∧ find 46 sl = some (.a (.v (.int .i64 (((l.map fun x => [enc h x]).length : Nat))))) ∧ find 47 sl = some (.a (.v (.int .i64 ((j : Int))))) ∧ (B 0 = true → find 56 sl = some (.a (.v (.pointer (some ⟨b44, 0, none⟩))))) ∧ (B 1 = true → find 57 sl = some (.a (.v (.pointer (some ⟨b44, 0, none⟩))))) ∧ (B 2 = true → find 58 sl = some (.a (.v (.pointer (some ⟨b44, 0, none⟩))))) ∧ (B 3 = true → find 59 sl = some (.a (.v (.pointer (some ⟨b44, 0, none⟩))))) ∧ (B 4 = true → find 60 sl = some (.a (.v (.slice (some ⟨g, 0, none⟩) n' cap)))) ∧ (B 5 = true → find 61 sl = some (.a (spA y))) ∧ (B 6 = true → find 62 sl = some (.a (.sl 4 [y.cs]))) ∧ (B 7 = true → find 63 sl = some (.a (.v (.slice (some ⟨gb, 0, none⟩) (L ++ [y.cs]).length gc)))) ∧ (B 8 = true → find 64 sl = some (.a (.v (.pointer (some ⟨b44, 0, none⟩))))) ∧ (B 9 = true → find 65 sl = some (.a (.v (.pointer (some ⟨b44, 0, none⟩)))))) TF.mixed rfl ⟨0, 0, _, rfl, rfl, rfl, rfl, rfl, rfl, rfl, (fun h => by cases h), (fun h => by cases h), (fun h => by cases h), (fun h => by cases h), (fun h => by cases h), (fun h => by cases h), (fun h => by cases h), (fun h => by cases h), (fun h => by cases h), (fun h => by cases h)⟩ ⟨⟨⟨⟨⟨⟨⟨⟨⟨⟨⟨trivial
        , ⟨_, rfl, fun B S hBi hdep hcl => by
          rintro ⟨gb, gc, sl, rfl, h7, h11, h14, h45, h46, h47, f0, f1, f2, f3, f4, f5, f6, f7, f8, f9⟩
          refine r_move h11 rfl ?_
          exact awl_nil ⟨rfl, gb, gc, _, rfl, h7, h11, h14, h45, h46, h47, (fun h => rfl), f1, f2, f3, f4, f5, f6, f7, f8, f9⟩⟩⟩
        , ⟨_, rfl, fun B S hBi hdep hcl => by
          rintro ⟨gb, gc, sl, rfl, h7, h11, h14, h45, h46, h47, f0, f1, f2, f3, f4, f5, f6, f7, f8, f9⟩
          refine r_move h11 rfl ?_
          exact awl_nil ⟨rfl, gb, gc, _, rfl, h7, h11, h14, h45, h46, h47, f0, (fun h => rfl), f2, f3, f4, f5, f6, f7, f8, f9⟩⟩⟩
        , ⟨_, rfl, fun B S hBi hdep hcl => by
          rintro ⟨gb, gc, sl, rfl, h7, h11, h14, h45, h46, h47, f0, f1, f2, f3, f4, f5, f6, f7, f8, f9⟩
          refine r_nilCheck (f1 (hdep 1 rfl)) (by first | exact .pt _ _ | exact .v _ | exact .cp _) rfl ?_
          exact awl_nil ⟨rfl, gb, gc, _, rfl, h7, h11, h14, h45, h46, h47, f0, f1, (fun h => rfl), f3, f4, f5, f6, f7, f8, f9⟩⟩⟩
        , ⟨_, rfl, fun B S hBi hdep hcl => by
          rintro ⟨gb, gc, sl, rfl, h7, h11, h14, h45, h46, h47, f0, f1, f2, f3, f4, f5, f6, f7, f8, f9⟩
          first | (refine r_fieldpt (f2 (hdep 2 rfl)) TF.f115_0 TF.sz112 rfl ?_) | (refine r_fieldcp (f2 (hdep 2 rfl)) TF.f115_0 TF.sz112 rfl ?_) | (refine r_fieldb (f2 (hdep 2 rfl)) TF.f115_0 TF.sz112 rfl ?_)
          exact awl_nil ⟨rfl, gb, gc, _, rfl, h7, h11, h14, h45, h46, h47, f0, f1, f2, (fun h => rfl), f4, f5, f6, f7, f8, f9⟩⟩⟩
        , ⟨_, rfl, fun B S hBi hdep hcl => by
          rintro ⟨gb, gc, sl, rfl, h7, h11, h14, h45, h46, h47, f0, f1, f2, f3, f4, f5, f6, f7, f8, f9⟩
          have e7 : B 7 = false := by cases h : B 7 with | false => rfl | true => exact absurd (hcl 7 4 h rfl) (by rw [hBi]; decide)
          have e10 : B 10 = false := by cases h : B 10 with | false => rfl | true => exact absurd (hcl 10 4 h rfl) (by rw [hBi]; decide)
          rw [e7, e10]
          first | (refine r_load1b 0 (f3 (hdep 3 rfl)) rfl rfl TF.agg112 rfl ?_) | (refine r_load1 (f3 (hdep 3 rfl)) TF.agg112 rfl ?_) | (refine r_load1b 1 (f3 (hdep 3 rfl)) rfl rfl TF.agg112 rfl ?_) | (refine r_load1b 2 (f3 (hdep 3 rfl)) rfl rfl TF.agg112 rfl ?_)
          exact awl_nil ⟨rfl, gb, gc, ((60, .a (.v (.slice (some ⟨g, 0, none⟩) n' cap))) :: sl), (by show _ = (⟨71, _, cond (B 10) [⟨gb, true, .buf 4 (L ++ [y.cs]) gc 73⟩, ⟨b14, true, .box y.cs⟩, ⟨b44, true, .box [.v (.slice (some ⟨gb, 0, none⟩) (L ++ [y.cs]).length gc), .v (.slice none 0 0), .sl 1 (l.map fun x => [enc h x])]⟩] (cond (B 7) [⟨gb, true, .buf 4 (L ++ [y.cs]) gc 73⟩, ⟨b14, true, .box y.cs⟩, ⟨b44, true, .box [.v (.slice (some ⟨g, 0, none⟩) n' cap), .v (.slice none 0 0), .sl 1 (l.map fun x => [enc h x])]⟩] [⟨b14, true, .box y.cs⟩, ⟨g, true, .buf 4 L cap 73⟩, ⟨b44, true, .box [.v (.slice (some ⟨g, 0, none⟩) n' cap), .v (.slice none 0 0), .sl 1 (l.map fun x => [enc h x])]⟩])⟩ : AState); rw [e7, e10]; rfl), h7, h11, h14, h45, h46, h47, f0, f1, f2, f3, (fun h => rfl), f5, f6, f7, f8, f9⟩⟩⟩
        , ⟨_, rfl, fun B S hBi hdep hcl => by
          rintro ⟨gb, gc, sl, rfl, h7, h11, h14, h45, h46, h47, f0, f1, f2, f3, f4, f5, f6, f7, f8, f9⟩
          have e7 : B 7 = false := by cases h : B 7 with | false => rfl | true => exact absurd (hcl 6 5 (hcl 7 6 h rfl) rfl) (by rw [hBi]; decide)
          have e10 : B 10 = false := by cases h : B 10 with | false => rfl | true => exact absurd (hcl 10 5 h rfl) (by rw [hBi]; decide)
          rw [e7, e10]
          first | (refine r_loadAb 0 h14 rfl TF.agg73 TF.sz73 rfl rfl ?_) | (refine r_loadA h14 TF.agg73 TF.sz73 rfl rfl ?_) | (refine r_loadAb 1 h14 rfl TF.agg73 TF.sz73 rfl rfl ?_) | (refine r_loadAb 2 h14 rfl TF.agg73 TF.sz73 rfl rfl ?_)
          exact awl_nil ⟨rfl, gb, gc, ((61, .a (spA y)) :: sl), (by show _ = (⟨71, _, cond (B 10) [⟨gb, true, .buf 4 (L ++ [y.cs]) gc 73⟩, ⟨b14, true, .box y.cs⟩, ⟨b44, true, .box [.v (.slice (some ⟨gb, 0, none⟩) (L ++ [y.cs]).length gc), .v (.slice none 0 0), .sl 1 (l.map fun x => [enc h x])]⟩] (cond (B 7) [⟨gb, true, .buf 4 (L ++ [y.cs]) gc 73⟩, ⟨b14, true, .box y.cs⟩, ⟨b44, true, .box [.v (.slice (some ⟨g, 0, none⟩) n' cap), .v (.slice none 0 0), .sl 1 (l.map fun x => [enc h x])]⟩] [⟨b14, true, .box y.cs⟩, ⟨g, true, .buf 4 L cap 73⟩, ⟨b44, true, .box [.v (.slice (some ⟨g, 0, none⟩) n' cap), .v (.slice none 0 0), .sl 1 (l.map fun x => [enc h x])]⟩])⟩ : AState); rw [e7, e10]; rfl), h7, h11, h14, h45, h46, h47, f0, f1, f2, f3, f4, (fun h => rfl), f6, f7, f8, f9⟩⟩⟩
        , ⟨_, rfl, fun B S hBi hdep hcl => by
          rintro ⟨gb, gc, sl, rfl, h7, h11, h14, h45, h46, h47, f0, f1, f2, f3, f4, f5, f6, f7, f8, f9⟩
          refine r_litC (parts := [(0, .tmp 61)]) rfl TF.sl112 TF.sz73 TF.zraw73 rfl rfl rfl (parts_cons (f5 (hdep 5 rfl)) parts_nil) rfl rfl rfl rfl ?_
          exact awl_nil ⟨rfl, gb, gc, _, rfl, h7, h11, h14, h45, h46, h47, f0, f1, f2, f3, f4, f5, (fun h => rfl), f7, f8, f9⟩⟩⟩
        , ⟨_, rfl, fun B S hBi hdep hcl => by
          rintro ⟨gb, gc, sl, rfl, h7, h11, h14, h45, h46, h47, f0, f1, f2, f3, f4, f5, f6, f7, f8, f9⟩
          have e10 : B 10 = false := by cases h : B 10 with | false => rfl | true => exact absurd (hcl 10 7 h rfl) (by rw [hBi]; decide)
          rw [hBi, e10]
          refine r_appendBG 1 (f4 (hdep 4 rfl)) hnL rfl (f6 (hdep 6 rfl)) (by first | exact .sl _ | exact .own _ _) (by simp [chunks]) TF.sl112 TF.sz73 TF.by73 TF.zlen73 (by simp [chunks] <;> omega) (by simp [chunks] <;> omega) rfl (fun gb gc => ?_)
          exact awl_nil ⟨rfl, gb, gc, ((63, .a (.v (.slice (some ⟨gb, 0, none⟩) (L ++ [y.cs]).length gc))) :: sl), (by show _ = (⟨71, _, cond (B 10) [⟨gb, true, .buf 4 (L ++ [y.cs]) gc 73⟩, ⟨b14, true, .box y.cs⟩, ⟨b44, true, .box [.v (.slice (some ⟨gb, 0, none⟩) (L ++ [y.cs]).length gc), .v (.slice none 0 0), .sl 1 (l.map fun x => [enc h x])]⟩] (cond true [⟨gb, true, .buf 4 (L ++ [y.cs]) gc 73⟩, ⟨b14, true, .box y.cs⟩, ⟨b44, true, .box [.v (.slice (some ⟨g, 0, none⟩) n' cap), .v (.slice none 0 0), .sl 1 (l.map fun x => [enc h x])]⟩] [⟨b14, true, .box y.cs⟩, ⟨g, true, .buf 4 L cap 73⟩, ⟨b44, true, .box [.v (.slice (some ⟨g, 0, none⟩) n' cap), .v (.slice none 0 0), .sl 1 (l.map fun x => [enc h x])]⟩])⟩ : AState); rw [e10]; rfl), h7, h11, h14, h45, h46, h47, f0, f1, f2, f3, f4, f5, f6, (fun h => rfl), f8, f9⟩⟩⟩
        , ⟨_, rfl, fun B S hBi hdep hcl => by
          rintro ⟨gb, gc, sl, rfl, h7, h11, h14, h45, h46, h47, f0, f1, f2, f3, f4, f5, f6, f7, f8, f9⟩
          refine r_nilCheck (f0 (hdep 0 rfl)) (by first | exact .pt _ _ | exact .v _ | exact .cp _) rfl ?_
          exact awl_nil ⟨rfl, gb, gc, _, rfl, h7, h11, h14, h45, h46, h47, f0, f1, f2, f3, f4, f5, f6, f7, (fun h => rfl), f9⟩⟩⟩
        , ⟨_, rfl, fun B S hBi hdep hcl => by
          rintro ⟨gb, gc, sl, rfl, h7, h11, h14, h45, h46, h47, f0, f1, f2, f3, f4, f5, f6, f7, f8, f9⟩
          first | (refine r_fieldpt (f8 (hdep 8 rfl)) TF.f115_0 TF.sz112 rfl ?_) | (refine r_fieldcp (f8 (hdep 8 rfl)) TF.f115_0 TF.sz112 rfl ?_) | (refine r_fieldb (f8 (hdep 8 rfl)) TF.f115_0 TF.sz112 rfl ?_)
          exact awl_nil ⟨rfl, gb, gc, _, rfl, h7, h11, h14, h45, h46, h47, f0, f1, f2, f3, f4, f5, f6, f7, f8, (fun h => rfl)⟩⟩⟩
        , ⟨_, rfl, fun B S hBi hdep hcl => by
          rintro ⟨gb, gc, sl, rfl, h7, h11, h14, h45, h46, h47, f0, f1, f2, f3, f4, f5, f6, f7, f8, f9⟩
          have e7 : B 7 = true := hdep 7 rfl
          rw [hBi, e7]
          first | (refine r_store 0 (f9 (hdep 9 rfl)) rfl (f7 (hdep 7 rfl)) TF.sz112 rfl rfl rfl ?_) | (refine r_store 1 (f9 (hdep 9 rfl)) rfl (f7 (hdep 7 rfl)) TF.sz112 rfl rfl rfl ?_) | (refine r_store 2 (f9 (hdep 9 rfl)) rfl (f7 (hdep 7 rfl)) TF.sz112 rfl rfl rfl ?_)
          exact awl_nil ⟨rfl, gb, gc, sl, (by show _ = (⟨71, _, cond true [⟨gb, true, .buf 4 (L ++ [y.cs]) gc 73⟩, ⟨b14, true, .box y.cs⟩, ⟨b44, true, .box [.v (.slice (some ⟨gb, 0, none⟩) (L ++ [y.cs]).length gc), .v (.slice none 0 0), .sl 1 (l.map fun x => [enc h x])]⟩] (cond (B 7) [⟨gb, true, .buf 4 (L ++ [y.cs]) gc 73⟩, ⟨b14, true, .box y.cs⟩, ⟨b44, true, .box [.v (.slice (some ⟨g, 0, none⟩) n' cap), .v (.slice none 0 0), .sl 1 (l.map fun x => [enc h x])]⟩] [⟨b14, true, .box y.cs⟩, ⟨g, true, .buf 4 L cap 73⟩, ⟨b44, true, .box [.v (.slice (some ⟨g, 0, none⟩) n' cap), .v (.slice none 0 0), .sl 1 (l.map fun x => [enc h x])]⟩])⟩ : AState); rw [e7]; rfl), h7, h11, h14, h45, h46, h47, f0, f1, f2, f3, f4, f5, f6, f7, f8, f9⟩⟩⟩
        (fun B S hall => by
         rintro ⟨gb, gc, sl, rfl, h7, h11, h14, h45, h46, h47, f0, f1, f2, f3, f4, f5, f6, f7, f8, f9⟩
         rw [hall 10 (by decide)]
         refine x_block ?_
         refine x_then ?_
         refine awp_weaken (S' := ⟨71, [(7, .a (.v (.int .i64 (lenT t + 1)))), (11, .a (.v (.pointer (some ⟨b44, 0, none⟩)))), (14, .a (.v (.pointer (some ⟨b14, 0, none⟩)))), (45, .a (.sl 1 (l.map fun x => [enc h x]))), (46, .a (.v (.int .i64 (((l.map fun x => [enc h x]).length : Nat))))), (47, .a (.v (.int .i64 ((j : Int)))))], [⟨gb, true, .buf 4 (L ++ [y.cs]) gc 73⟩, ⟨b44, true, .box [.v (.slice (some ⟨gb, 0, none⟩) (L ++ [y.cs]).length gc), .v (.slice none 0 0), .sl 1 (l.map fun x => [enc h x])]⟩]⟩) ⟨rfl, (Slots.cons h7 (.refl _) (Slots.cons h11 (.refl _) (Slots.cons h14 (.refl _) (Slots.cons h45 (.refl _) (Slots.cons h46 (.refl _) (Slots.cons h47 (.refl _) Slots.nil)))))), (.cons_cons _ (.cons _ (List.Sublist.refl _)))⟩ ?_
         refine awp_region ?_
         refine r_ari _ rfl rfl rfl (wrap_id (by first | omega | (simp; omega))) rfl ?_
         refine r_move rfl rfl ?_
         refine awl_nil ?_
         refine x_then ?_
         refine ⟨l.length - (j + 1), ⟨71, [(7, .a (.v (.int .i64 (lenT t + 1)))), (11, .a (.v (.pointer (some ⟨b44, 0, none⟩)))), (45, .a (.sl 1 (l.map fun x => [enc h x]))), (46, .a (.v (.int .i64 (((l.map fun x => [enc h x]).length : Nat))))), (47, .a (.v (.int .i64 (((j + 1) : Int)))))], ([⟨gb, true, .buf 4 (L ++ [y.cs]) gc 73⟩]) ++ [⟨b44, true, .box [(.v (.slice (some ⟨gb, 0, none⟩) (L ++ [y.cs]).length gc)), .v (.slice none 0 0), .sl 1 (l.map fun x => [enc h x])]⟩]⟩, ⟨rfl, (Slots.cons rfl (by first | exact .refl _ | exact .nilOwn _ _ | exact .nilSl _ | exact .ownSl _ _ _  | exact SV.le.of_eq (by simp)) (Slots.cons rfl (by first | exact .refl _ | exact .nilOwn _ _ | exact .nilSl _ | exact .ownSl _ _ _  | exact SV.le.of_eq (by simp)) (Slots.cons rfl (by first | exact .refl _ | exact .nilOwn _ _ | exact .nilSl _ | exact .ownSl _ _ _  | exact SV.le.of_eq (by simp)) (Slots.cons rfl (by first | exact .refl _ | exact .nilOwn _ _ | exact .nilSl _ | exact .ownSl _ _ _  | exact SV.le.of_eq (by simp)) (Slots.cons rfl (by first | exact .refl _ | exact .nilOwn _ _ | exact .nilSl _ | exact .ownSl _ _ _  | exact SV.le.of_eq (by simp)) Slots.nil))))), (by first | exact List.Sublist.refl _ | exact .cons_cons _ (.cons _ (.refl _)) | exact List.nil_sublist _ | exact .cons _ (.refl _) | exact .cons _ (.cons _ (.refl _)) | exact .cons _ (.cons _ (.cons _ (.refl _))) | exact .cons _ (.cons _ (.cons _ (.cons _ (.refl _)))) | exact .cons_cons _ (List.nil_sublist _))⟩, (by omega), ⟨j + 1, .v (.slice (some ⟨gb, 0, none⟩) (L ++ [y.cs]).length gc), [⟨gb, true, .buf 4 (L ++ [y.cs]) gc 73⟩], rfl, rfl, (by omega), (.inr ⟨gb, gc, _, _, by omega, rfl, rfl, rfl, keyR_next hx hy hL⟩)⟩⟩)
     ·
      have hge : l.length ≤ j := by have := of_decide_eq_false hc2; simp at this; omega
      obtain rfl : j = l.length := by omega
      refine awp_exit ?_
      refine x_thenE ?_
      refine x_thenE ?_
      refine x_blockE ?_
      refine x_then ?_
      refine awp_seq ?_
      refine awp_region ?_
      rcases hK with ⟨hk0, _, _⟩ | ⟨g, cap, n', L, hk0, rfl, hnL, rfl, hL⟩
      · exfalso; have := hpw.2.1; omega
      refine awl_imp (imp_commitBk 0 0 0 hnL rfl rfl rfl) ?_
      refine awl_imp (imp_boxLe 0 rfl (.cons (.refl _) (.cons (.nil 1) (.cons (.refl _) .nil)))) ?_
      refine awl_imp (imp_commitP 0 11 rfl rfl rfl rfl) ?_
      refine r_move rfl rfl ?_
      refine r_move rfl rfl ?_
      refine r_build (parts := [(0, .tmp 67), (1, .tmp 68)]) rfl TF.pl111 TF.zero111 rfl rfl rfl ?_
      refine r_box rfl rfl rfl (fun b70 => ?_)
      refine awl_imp (imp_commit 0 70 rfl rfl rfl rfl) ?_
      refine r_assign rfl rfl ?_
      refine awl_nil ?_
      refine x_then ?_
      refine awp_ret ?_
      exact ⟨(.inl rfl), _, [], (.one (by first | exact .mk rfl rfl | exact .nil rfl)), ⟨rfl, some (some ⟨h + 1, (b44, l)⟩, lenT t + 1), ⟨some ⟨h + 1, (b44, l)⟩, by show _ = some (_, lenT t + _); rw [hgn]; rfl, by rw [hrt]; exact ⟨l, hp4, .inr ⟨by have := hpw.2.1; omega, b44, rfl⟩⟩⟩, by show _ = AV.cp [enc (h + 1) (b44, l), _]; rw [← enc_over, hL, ← kksOf_len, List.take_length]; rfl⟩, (List.nil_sublist _), (by simp)⟩)
 ·
  have hgs : (getR (rootT t) k).isSome = true := by cases hg : getR (rootT t) k with | none => rw [hg] at hc0; cases hc0 | some x => rfl
  refine awp_skip ?_
  refine x_then ?_
  refine awp_seq ?_
  refine awp_any (fun B S => ∃ l : List (Nd h), ∃ sl : List (Nat × SV), S = ⟨71, sl, [⟨b4, true, .box k.cs⟩]⟩ ∧ find 0 sl = some (.a (encT t)) ∧ find 2 sl = some (.a (.v (.int .u64 (v)))) ∧ find 4 sl = some (.a (.v (.pointer (some ⟨b4, 0, none⟩)))) ∧ find 7 sl = some (.a (.v (.int .i64 (lenT t)))) ∧ (B 0 = true → find 28 sl = some (.a (encT t))) ∧ (B 1 = true → find 29 sl = some (.a (enc h n))) ∧ (B 2 = true → find 30 sl = some (.a (spA k))) ∧ (B 3 = true → find 31 sl = some (.a (.v (.int .u64 (v))))) ∧ (B 4 = true → find 32 sl = some (.a (.sl 1 (l.map fun x => [enc h x])))) ∧ (B 5 = true → find 10 sl = some (.a (.sl 1 (l.map fun x => [enc h x])))) ∧ (B 4 = true → PutR h n k v l)) TF.mixed rfl ⟨[], _, rfl, rfl, rfl, rfl, rfl, (fun h => by cases h), (fun h => by cases h), (fun h => by cases h), (fun h => by cases h), (fun h => by cases h), (fun h => by cases h), (fun h => by cases h)⟩ ⟨⟨⟨⟨⟨⟨trivial
   , ⟨_, rfl, fun B S hBi hdep hcl => by
     rintro ⟨l, sl, rfl, h0, h2, h4, h7, f0, f1, f2, f3, f4, f5, p4⟩
     refine r_move h0 rfl ?_
     exact awl_nil ⟨rfl, l, _, rfl, h0, h2, h4, h7, (fun h => rfl), f1, f2, f3, f4, f5, p4⟩⟩⟩
   , ⟨_, rfl, fun B S hBi hdep hcl => by
     rintro ⟨l, sl, rfl, h0, h2, h4, h7, f0, f1, f2, f3, f4, f5, p4⟩
     refine r_call0 hq rfl rfl (.cons (.ev (f0 (hdep 0 rfl)) rfl) .nil) (Root_ok t) rfl TF.en43 rfl (fun r hr => ?_)
     obtain rfl := hr
     rw [hrt]
     exact awl_nil ⟨rfl, l, _, rfl, h0, h2, h4, h7, f0, (fun h => rfl), f2, f3, f4, f5, p4⟩⟩⟩
   , ⟨_, rfl, fun B S hBi hdep hcl => by
     rintro ⟨l, sl, rfl, h0, h2, h4, h7, f0, f1, f2, f3, f4, f5, p4⟩
     first | (refine r_loadAb 0 h4 rfl TF.agg73 TF.sz73 rfl rfl ?_) | (refine r_loadA h4 TF.agg73 TF.sz73 rfl rfl ?_)
     exact awl_nil ⟨rfl, l, _, rfl, h0, h2, h4, h7, f0, f1, (fun h => rfl), f3, f4, f5, p4⟩⟩⟩
   , ⟨_, rfl, fun B S hBi hdep hcl => by
     rintro ⟨l, sl, rfl, h0, h2, h4, h7, f0, f1, f2, f3, f4, f5, p4⟩
     refine r_move h2 rfl ?_
     exact awl_nil ⟨rfl, l, _, rfl, h0, h2, h4, h7, f0, f1, f2, (fun h => rfl), f4, f5, p4⟩⟩⟩
   , ⟨_, rfl, fun B S hBi hdep hcl => by
     rintro ⟨l, sl, rfl, h0, h2, h4, h7, f0, f1, f2, f3, f4, f5, p4⟩
     refine r_call0 hq rfl rfl (.cons (.ev (f1 (hdep 1 rfl)) rfl) (.cons (.ev (f2 (hdep 2 rfl)) rfl) (.cons (.ev (f3 (hdep 3 rfl)) rfl) .nil))) (put_ok h n hw k v) rfl TF.en42 rfl (fun r hr => ?_)
     obtain ⟨lq, hlq, rfl⟩ := hr
     exact awl_nil ⟨rfl, lq, _, rfl, h0, h2, h4, h7, f0, f1, f2, f3, (fun h => rfl), (fun h => absurd (hcl 5 4 h rfl) (by rw [hBi]; decide)), (fun _ => hlq)⟩⟩⟩
   , ⟨_, rfl, fun B S hBi hdep hcl => by
     rintro ⟨l, sl, rfl, h0, h2, h4, h7, f0, f1, f2, f3, f4, f5, p4⟩
     refine r_assign (f4 (hdep 4 rfl)) rfl ?_
     exact awl_nil ⟨rfl, l, _, rfl, h0, h2, h4, h7, f0, f1, f2, f3, f4, (fun h => rfl), p4⟩⟩⟩
   (fun B S hall => by
    rintro ⟨l, sl, rfl, h0, h2, h4, h7, f0, f1, f2, f3, f4, f5, p4⟩
    have hp4 := p4 (hall 4 (by decide))
    have hpw := putR_wf h (Nat.le_refl 1) (by omega) hw hp4
    refine x_then ?_
    refine awp_weaken (S' := ⟨71, [(0, .a (encT t)), (2, .a (.v (.int .u64 (v)))), (4, .a (.v (.pointer (some ⟨b4, 0, none⟩)))), (7, .a (.v (.int .i64 (lenT t)))), (10, .a (.sl 1 (l.map fun x => [enc h x])))], [⟨b4, true, .box k.cs⟩]⟩) ⟨rfl, (Slots.cons h0 (.refl _) (Slots.cons h2 (.refl _) (Slots.cons h4 (.refl _) (Slots.cons h7 (.refl _) (Slots.cons (f5 (hall 5 (by decide))) (.refl _) Slots.nil))))), (List.Sublist.refl _)⟩ ?_
    refine awp_seq ?_
    refine awp_seq ?_
    refine awp_region ?_
    refine r_move rfl rfl ?_
    first | (refine r_lenS rfl rfl TF.sl107 rfl ?_) | (refine r_lenNil rfl TF.sl107 rfl ?_) | (refine r_lenV rfl TF.sl107 rfl ?_)
    refine r_cmp rfl rfl rfl rfl ?_
    refine awl_nil ?_
    refine x_then ?_
    refine awp_cond rfl (fun hc1 => ?_) (fun hc1 => ?_)
    ·
     have hl1 : l.length = 1 := by have := of_decide_eq_true hc1; simp at this; omega
     obtain ⟨x, rfl⟩ : ∃ x, l = [x] := List.length_eq_one_iff.1 hl1
     refine awp_seq ?_
     refine awp_region ?_
     refine r_move rfl rfl ?_
     refine r_index rfl rfl rfl TF.sl107 TF.sz100 (by decide) (congrArg (fun y => some [y]) (enc_eq h x)) rfl ?_
     first | (refine r_load1b 0 rfl rfl rfl TF.agg100 rfl ?_) | (refine r_load1 rfl TF.agg100 rfl ?_)
     refine r_move rfl rfl ?_
     refine r_build (parts := [(0, .tmp 38), (1, .tmp 39)]) rfl TF.pl111 TF.zero111 rfl rfl rfl ?_
     refine r_box rfl rfl rfl (fun b41 => ?_)
     refine awl_imp (imp_commit 0 41 rfl rfl rfl rfl) ?_
     refine r_assign rfl rfl ?_
     refine awl_nil ?_
     refine x_then ?_
     refine awp_ret ?_
     refine x_thenR ?_
     exact ⟨(.inl rfl), _, [], (.one (by first | exact .mk rfl rfl | exact .nil rfl)), ⟨rfl, some (some ⟨h, x⟩, lenT t), ⟨some ⟨h, x⟩, by show _ = some (_, lenT t + _); rw [hgs]; simp, by rw [hrt]; exact ⟨[x], hp4, .inl ⟨x, rfl, rfl⟩⟩⟩, by show _ = AV.cp [enc h x, _]; rw [enc_eq]; rfl⟩, (List.nil_sublist _), (by simp)⟩
    ·
     have hl1 : l.length ≠ 1 := by have := of_decide_eq_false hc1; simp at this; omega
     refine awp_skip ?_
     refine x_then ?_
     refine awp_seq ?_
     refine awp_region ?_
     refine r_move rfl rfl ?_
     refine r_build (parts := [(2, .tmp 42)]) rfl TF.pl115 TF.zeroR115 rfl rfl rfl ?_
     refine r_box rfl rfl rfl (fun b44 => ?_)
     refine r_assign rfl rfl ?_
     refine awl_nil ?_
     refine x_then ?_
     refine awp_seq ?_
     refine awp_seq ?_
     refine awp_region ?_
     refine r_move rfl rfl ?_
     first | (refine r_lenS rfl rfl TF.sl107 rfl ?_) | (refine r_lenNil rfl TF.sl107 rfl ?_) | (refine r_lenV rfl TF.sl107 rfl ?_)
     refine r_move rfl rfl ?_
     refine awl_nil ?_
     refine x_then ?_
     refine awp_block ?_
     refine awp_loop (fun nn0 S => ∃ j : Nat, ∃ hd : AV, ∃ os : List OE, S = ⟨71, [(7, .a (.v (.int .i64 (lenT t)))), (11, .a (.v (.pointer (some ⟨b44, 0, none⟩)))), (45, .a (.sl 1 (l.map fun x => [enc h x]))), (46, .a (.v (.int .i64 (((l.map fun x => [enc h x]).length : Nat))))), (47, .a (.v (.int .i64 ((j : Int)))))], os ++ [⟨b44, true, .box [hd, .v (.slice none 0 0), .sl 1 (l.map fun x => [enc h x])]⟩]⟩ ∧ nn0 = l.length - j ∧ (j ≤ l.length) ∧ (KeyR (kksOf h l) j hd os)) (l.length - (0)) ⟨71, [(7, .a (.v (.int .i64 (lenT t)))), (11, .a (.v (.pointer (some ⟨b44, 0, none⟩)))), (45, .a (.sl 1 (l.map fun x => [enc h x]))), (46, .a (.v (.int .i64 (((l.map fun x => [enc h x]).length : Nat))))), (47, .a (.v (.int .i64 (((0) : Int)))))], ([]) ++ [⟨b44, true, .box [(.v (.slice none 0 0)), .v (.slice none 0 0), .sl 1 (l.map fun x => [enc h x])]⟩]⟩ ⟨rfl, (Slots.cons rfl (by first | exact .refl _ | exact .nilOwn _ _ | exact .nilSl _ | exact .ownSl _ _ _  | exact SV.le.of_eq (by simp)) (Slots.cons rfl (by first | exact .refl _ | exact .nilOwn _ _ | exact .nilSl _ | exact .ownSl _ _ _  | exact SV.le.of_eq (by simp)) (Slots.cons rfl (by first | exact .refl _ | exact .nilOwn _ _ | exact .nilSl _ | exact .ownSl _ _ _  | exact SV.le.of_eq (by simp)) (Slots.cons rfl (by first | exact .refl _ | exact .nilOwn _ _ | exact .nilSl _ | exact .ownSl _ _ _  | exact SV.le.of_eq (by simp)) (Slots.cons rfl (by first | exact .refl _ | exact .nilOwn _ _ | exact .nilSl _ | exact .ownSl _ _ _  | exact SV.le.of_eq (by simp)) Slots.nil))))), (by first | exact List.Sublist.refl _ | exact .cons_cons _ (.cons _ (.refl _)) | exact List.nil_sublist _ | exact .cons _ (.refl _) | exact .cons _ (.cons _ (.refl _)) | exact .cons _ (.cons _ (.cons _ (.refl _))) | exact .cons _ (.cons _ (.cons _ (.cons _ (.refl _)))) | exact .cons_cons _ (List.nil_sublist _))⟩ ⟨0, .v (.slice none 0 0), [], rfl, rfl, Nat.zero_le _, (.inl ⟨rfl, rfl, rfl⟩)⟩ ?_
     rintro nn0 _ ⟨j, hd, os, rfl, rfl, hk, hK⟩
     refine awp_seq ?_
     refine awp_region ?_
     refine r_cmp rfl rfl rfl rfl ?_
     refine awl_nil ?_
     refine x_then ?_
     refine awp_seq ?_
     refine awp_cond rfl (fun hc2 => ?_) (fun hc2 => ?_)
     ·
      have hltx : j < l.length := by have := of_decide_eq_true hc2; simpa using this
      obtain ⟨x, hx⟩ := get_lt hltx
      have hwx := hpw.1 x (List.mem_of_getElem? hx)
      obtain ⟨y, hy⟩ := hwx.ne (by decide)
      refine awp_skip ?_
      refine x_then ?_
      refine awp_seq ?_
      refine awp_block ?_
      refine awp_seq ?_
      refine awp_region ?_
      refine r_index rfl rfl rfl TF.sl107 TF.sz100 (by omega) ((get_map hx).trans (congrArg (fun q => some [q]) (enc_eq h x))) rfl ?_
      first | (refine r_load1b 0 rfl rfl rfl TF.agg100 rfl ?_) | (refine r_load1 rfl TF.agg100 rfl ?_) | (refine r_load1b 1 rfl rfl rfl TF.agg100 rfl ?_)
      refine r_assign rfl rfl ?_
      refine awl_nil ?_
      refine x_then ?_
      refine awp_seq ?_
      refine awp_region ?_
      refine r_move rfl rfl ?_
      refine r_call0 hq rfl rfl (.cons (.ev rfl rfl) .nil) (least_ok x.1 (keysOf h x.2) (valsOf h x.2) (kidsOf h x.2) y hy (by rw [keysOf_len]; have := hwx.hi; omega)) rfl TF.en44 rfl (fun r hr => ?_)
      obtain rfl := hr
      refine r_move rfl rfl ?_
      refine r_extract rfl rfl rfl ?_
      refine r_extract rfl rfl rfl ?_
      refine r_alloc TF.zero73 rfl (fun b14 => ?_)
      first | (refine r_store 0 rfl rfl rfl TF.sz73 rfl rfl rfl ?_) | (refine r_store 1 rfl rfl rfl TF.sz73 rfl rfl rfl ?_) | (refine r_store 2 rfl rfl rfl TF.sz73 rfl rfl rfl ?_)
      refine r_assign rfl rfl ?_
      refine awl_nil ?_
      refine x_then ?_
      rcases hK with ⟨hk0, rfl, rfl⟩ | ⟨g, cap, n', L, hk0, rfl, hnL, rfl, hL⟩
      ·
       refine awp_any (fun B S => ∃ gb : Nat, ∃ gc : Nat, ∃ sl : List (Nat × SV), S = ⟨71, sl, cond (B 10) [⟨gb, true, .buf 4 [y.cs] gc 73⟩, ⟨b14, true, .box y.cs⟩, ⟨b44, true, .box [.v (.slice (some ⟨gb, 0, none⟩) [y.cs].length gc), .v (.slice none 0 0), .sl 1 (l.map fun x => [enc h x])]⟩] (cond (B 7) [⟨gb, true, .buf 4 [y.cs] gc 73⟩, ⟨b14, true, .box y.cs⟩, ⟨b44, true, .box [.v (.slice none 0 0), .v (.slice none 0 0), .sl 1 (l.map fun x => [enc h x])]⟩] [⟨b14, true, .box y.cs⟩, ⟨b44, true, .box [.v (.slice none 0 0), .v (.slice none 0 0), .sl 1 (l.map fun x => [enc h x])]⟩])⟩ ∧ find 7 sl = some (.a (.v (.int .i64 (lenT t)))) ∧ find 11 sl = some (.a (.v (.pointer (some ⟨b44, 0, none⟩)))) ∧ find 14 sl = some (.a (.v (.pointer (some ⟨b14, 0, none⟩)))) ∧ find 45 sl = some (.a (.sl 1 (l.map fun x => [enc h x]))) ∧ find 46 sl = some (.a (.v (.int .i64 (((l.map fun x => [enc h x]).length : Nat))))) ∧ find 47 sl = some (.a (.v (.int .i64 ((j : Int))))) ∧ (B 0 = true → find 56 sl = some (.a (.v (.pointer (some ⟨b44, 0, none⟩))))) ∧ (B 1 = true → find 57 sl = some (.a (.v (.pointer (some ⟨b44, 0, none⟩))))) ∧ (B 2 = true → find 58 sl = some (.a (.v (.pointer (some ⟨b44, 0, none⟩))))) ∧ (B 3 = true → find 59 sl = some (.a (.v (.pointer (some ⟨b44, 0, none⟩))))) ∧ (B 4 = true → find 60 sl = some (.a (.v (.slice none 0 0)))) ∧ (B 5 = true → find 61 sl = some (.a (spA y))) ∧ (B 6 = true → find 62 sl = some (.a (.sl 4 [y.cs]))) ∧ (B 7 = true → find 63 sl = some (.a (.v (.slice (some ⟨gb, 0, none⟩) [y.cs].length gc)))) ∧ (B 8 = true → find 64 sl = some (.a (.v (.pointer (some ⟨b44, 0, none⟩))))) ∧ (B 9 = true → find 65 sl = some (.a (.v (.pointer (some ⟨b44, 0, none⟩)))))) TF.mixed rfl ⟨0, 0, _, rfl, rfl, rfl, rfl, rfl, rfl, rfl, (fun h => by cases h), (fun h => by cases h), (fun h => by cases h), (fun h => by cases h), (fun h => by cases h), (fun h => by cases h), (fun h => by cases h), (fun h => by cases h), (fun h => by cases h), (fun h => by cases h)⟩ ⟨⟨⟨⟨⟨⟨⟨⟨⟨⟨⟨trivial
        , ⟨_, rfl, fun B S hBi hdep hcl => by
          rintro ⟨gb, gc, sl, rfl, h7, h11, h14, h45, h46, h47, f0, f1, f2, f3, f4, f5, f6, f7, f8, f9⟩
          refine r_move h11 rfl ?_
          exact awl_nil ⟨rfl, gb, gc, _, rfl, h7, h11, h14, h45, h46, h47, (fun h => rfl), f1, f2, f3, f4, f5, f6, f7, f8, f9⟩⟩⟩
        , ⟨_, rfl, fun B S hBi hdep hcl => by
          rintro ⟨gb, gc, sl, rfl, h7, h11, h14, h45, h46, h47, f0, f1, f2, f3, f4, f5, f6, f7, f8, f9⟩
          refine r_move h11 rfl ?_
          exact awl_nil ⟨rfl, gb, gc, _, rfl, h7, h11, h14, h45, h46, h47, f0, (fun h => rfl), f2, f3, f4, f5, f6, f7, f8, f9⟩⟩⟩
        , ⟨_, rfl, fun B S hBi hdep hcl => by
          rintro ⟨gb, gc, sl, rfl, h7, h11, h14, h45, h46, h47, f0, f1, f2, f3, f4, f5, f6, f7, f8, f9⟩
          refine r_nilCheck (f1 (hdep 1 rfl)) (by first | exact .pt _ _ | exact .v _ | exact .cp _) rfl ?_
          exact awl_nil ⟨rfl, gb, gc, _, rfl, h7, h11, h14, h45, h46, h47, f0, f1, (fun h => rfl), f3, f4, f5, f6, f7, f8, f9⟩⟩⟩
        , ⟨_, rfl, fun B S hBi hdep hcl => by
          rintro ⟨gb, gc, sl, rfl, h7, h11, h14, h45, h46, h47, f0, f1, f2, f3, f4, f5, f6, f7, f8, f9⟩
          first | (refine r_fieldpt (f2 (hdep 2 rfl)) TF.f115_0 TF.sz112 rfl ?_) | (refine r_fieldcp (f2 (hdep 2 rfl)) TF.f115_0 TF.sz112 rfl ?_) | (refine r_fieldb (f2 (hdep 2 rfl)) TF.f115_0 TF.sz112 rfl ?_)
          exact awl_nil ⟨rfl, gb, gc, _, rfl, h7, h11, h14, h45, h46, h47, f0, f1, f2, (fun h => rfl), f4, f5, f6, f7, f8, f9⟩⟩⟩
        , ⟨_, rfl, fun B S hBi hdep hcl => by
          rintro ⟨gb, gc, sl, rfl, h7, h11, h14, h45, h46, h47, f0, f1, f2, f3, f4, f5, f6, f7, f8, f9⟩
          have e7 : B 7 = false := by cases h : B 7 with | false => rfl | true => exact absurd (hcl 7 4 h rfl) (by rw [hBi]; decide)
          have e10 : B 10 = false := by cases h : B 10 with | false => rfl | true => exact absurd (hcl 10 4 h rfl) (by rw [hBi]; decide)
          rw [e7, e10]
          first | (refine r_load1b 0 (f3 (hdep 3 rfl)) rfl rfl TF.agg112 rfl ?_) | (refine r_load1 (f3 (hdep 3 rfl)) TF.agg112 rfl ?_) | (refine r_load1b 1 (f3 (hdep 3 rfl)) rfl rfl TF.agg112 rfl ?_) | (refine r_load1b 2 (f3 (hdep 3 rfl)) rfl rfl TF.agg112 rfl ?_)
          exact awl_nil ⟨rfl, gb, gc, ((60, .a (.v (.slice none 0 0))) :: sl), (by show _ = (⟨71, _, cond (B 10) [⟨gb, true, .buf 4 [y.cs] gc 73⟩, ⟨b14, true, .box y.cs⟩, ⟨b44, true, .box [.v (.slice (some ⟨gb, 0, none⟩) [y.cs].length gc), .v (.slice none 0 0), .sl 1 (l.map fun x => [enc h x])]⟩] (cond (B 7) [⟨gb, true, .buf 4 [y.cs] gc 73⟩, ⟨b14, true, .box y.cs⟩, ⟨b44, true, .box [.v (.slice none 0 0), .v (.slice none 0 0), .sl 1 (l.map fun x => [enc h x])]⟩] [⟨b14, true, .box y.cs⟩, ⟨b44, true, .box [.v (.slice none 0 0), .v (.slice none 0 0), .sl 1 (l.map fun x => [enc h x])]⟩])⟩ : AState); rw [e7, e10]; rfl), h7, h11, h14, h45, h46, h47, f0, f1, f2, f3, (fun h => rfl), f5, f6, f7, f8, f9⟩⟩⟩
        , ⟨_, rfl, fun B S hBi hdep hcl => by
          rintro ⟨gb, gc, sl, rfl, h7, h11, h14, h45, h46, h47, f0, f1, f2, f3, f4, f5, f6, f7, f8, f9⟩
          have e7 : B 7 = false := by cases h : B 7 with | false => rfl | true => exact absurd (hcl 6 5 (hcl 7 6 h rfl) rfl) (by rw [hBi]; decide)
          have e10 : B 10 = false := by cases h : B 10 with | false => rfl | true => exact absurd (hcl 10 5 h rfl) (by rw [hBi]; decide)
          rw [e7, e10]
          first | (refine r_loadAb 0 h14 rfl TF.agg73 TF.sz73 rfl rfl ?_) | (refine r_loadA h14 TF.agg73 TF.sz73 rfl rfl ?_) | (refine r_loadAb 1 h14 rfl TF.agg73 TF.sz73 rfl rfl ?_) | (refine r_loadAb 2 h14 rfl TF.agg73 TF.sz73 rfl rfl ?_)
          exact awl_nil ⟨rfl, gb, gc, ((61, .a (spA y)) :: sl), (by show _ = (⟨71, _, cond (B 10) [⟨gb, true, .buf 4 [y.cs] gc 73⟩, ⟨b14, true, .box y.cs⟩, ⟨b44, true, .box [.v (.slice (some ⟨gb, 0, none⟩) [y.cs].length gc), .v (.slice none 0 0), .sl 1 (l.map fun x => [enc h x])]⟩] (cond (B 7) [⟨gb, true, .buf 4 [y.cs] gc 73⟩, ⟨b14, true, .box y.cs⟩, ⟨b44, true, .box [.v (.slice none 0 0), .v (.slice none 0 0), .sl 1 (l.map fun x => [enc h x])]⟩] [⟨b14, true, .box y.cs⟩, ⟨b44, true, .box [.v (.slice none 0 0), .v (.slice none 0 0), .sl 1 (l.map fun x => [enc h x])]⟩])⟩ : AState); rw [e7, e10]; rfl), h7, h11, h14, h45, h46, h47, f0, f1, f2, f3, f4, (fun h => rfl), f6, f7, f8, f9⟩⟩⟩
        , ⟨_, rfl, fun B S hBi hdep hcl => by
          rintro ⟨gb, gc, sl, rfl, h7, h11, h14, h45, h46, h47, f0, f1, f2, f3, f4, f5, f6, f7, f8, f9⟩
          refine r_litC (parts := [(0, .tmp 61)]) rfl TF.sl112 TF.sz73 TF.zraw73 rfl rfl rfl (parts_cons (f5 (hdep 5 rfl)) parts_nil) rfl rfl rfl rfl ?_
          exact awl_nil ⟨rfl, gb, gc, _, rfl, h7, h11, h14, h45, h46, h47, f0, f1, f2, f3, f4, f5, (fun h => rfl), f7, f8, f9⟩⟩⟩
        , ⟨_, rfl, fun B S hBi hdep hcl => by
          rintro ⟨gb, gc, sl, rfl, h7, h11, h14, h45, h46, h47, f0, f1, f2, f3, f4, f5, f6, f7, f8, f9⟩
          have e10 : B 10 = false := by cases h : B 10 with | false => rfl | true => exact absurd (hcl 10 7 h rfl) (by rw [hBi]; decide)
          rw [hBi, e10]
          refine r_appendBN (f4 (hdep 4 rfl)) (f6 (hdep 6 rfl)) (by first | exact .sl _ | exact .own _ _) (by simp [chunks]) TF.sl112 TF.sz73 TF.by73 TF.zlen73 (by simp [chunks] <;> omega) (by simp [chunks] <;> omega) rfl (fun gb gc => ?_)
          exact awl_nil ⟨rfl, gb, gc, ((63, .a (.v (.slice (some ⟨gb, 0, none⟩) [y.cs].length gc))) :: sl), (by show _ = (⟨71, _, cond (B 10) [⟨gb, true, .buf 4 [y.cs] gc 73⟩, ⟨b14, true, .box y.cs⟩, ⟨b44, true, .box [.v (.slice (some ⟨gb, 0, none⟩) [y.cs].length gc), .v (.slice none 0 0), .sl 1 (l.map fun x => [enc h x])]⟩] (cond true [⟨gb, true, .buf 4 [y.cs] gc 73⟩, ⟨b14, true, .box y.cs⟩, ⟨b44, true, .box [.v (.slice none 0 0), .v (.slice none 0 0), .sl 1 (l.map fun x => [enc h x])]⟩] [⟨b14, true, .box y.cs⟩, ⟨b44, true, .box [.v (.slice none 0 0), .v (.slice none 0 0), .sl 1 (l.map fun x => [enc h x])]⟩])⟩ : AState); rw [e10]; rfl), h7, h11, h14, h45, h46, h47, f0, f1, f2, f3, f4, f5, f6, (fun h => rfl), f8, f9⟩⟩⟩
        , ⟨_, rfl, fun B S hBi hdep hcl => by
          rintro ⟨gb, gc, sl, rfl, h7, h11, h14, h45, h46, h47, f0, f1, f2, f3, f4, f5, f6, f7, f8, f9⟩
          refine r_nilCheck (f0 (hdep 0 rfl)) (by first | exact .pt _ _ | exact .v _ | exact .cp _) rfl ?_
          exact awl_nil ⟨rfl, gb, gc, _, rfl, h7, h11, h14, h45, h46, h47, f0, f1, f2, f3, f4, f5, f6, f7, (fun h => rfl), f9⟩⟩⟩
        , ⟨_, rfl, fun B S hBi hdep hcl => by
          rintro ⟨gb, gc, sl, rfl, h7, h11, h14, h45, h46, h47, f0, f1, f2, f3, f4, f5, f6, f7, f8, f9⟩
          first | (refine r_fieldpt (f8 (hdep 8 rfl)) TF.f115_0 TF.sz112 rfl ?_) | (refine r_fieldcp (f8 (hdep 8 rfl)) TF.f115_0 TF.sz112 rfl ?_) | (refine r_fieldb (f8 (hdep 8 rfl)) TF.f115_0 TF.sz112 rfl ?_)
          exact awl_nil ⟨rfl, gb, gc, _, rfl, h7, h11, h14, h45, h46, h47, f0, f1, f2, f3, f4, f5, f6, f7, f8, (fun h => rfl)⟩⟩⟩
        , ⟨_, rfl, fun B S hBi hdep hcl => by
          rintro ⟨gb, gc, sl, rfl, h7, h11, h14, h45, h46, h47, f0, f1, f2, f3, f4, f5, f6, f7, f8, f9⟩
          have e7 : B 7 = true := hdep 7 rfl
          rw [hBi, e7]
          first | (refine r_store 0 (f9 (hdep 9 rfl)) rfl (f7 (hdep 7 rfl)) TF.sz112 rfl rfl rfl ?_) | (refine r_store 1 (f9 (hdep 9 rfl)) rfl (f7 (hdep 7 rfl)) TF.sz112 rfl rfl rfl ?_) | (refine r_store 2 (f9 (hdep 9 rfl)) rfl (f7 (hdep 7 rfl)) TF.sz112 rfl rfl rfl ?_)
          exact awl_nil ⟨rfl, gb, gc, sl, (by show _ = (⟨71, _, cond true [⟨gb, true, .buf 4 [y.cs] gc 73⟩, ⟨b14, true, .box y.cs⟩, ⟨b44, true, .box [.v (.slice (some ⟨gb, 0, none⟩) [y.cs].length gc), .v (.slice none 0 0), .sl 1 (l.map fun x => [enc h x])]⟩] (cond (B 7) [⟨gb, true, .buf 4 [y.cs] gc 73⟩, ⟨b14, true, .box y.cs⟩, ⟨b44, true, .box [.v (.slice none 0 0), .v (.slice none 0 0), .sl 1 (l.map fun x => [enc h x])]⟩] [⟨b14, true, .box y.cs⟩, ⟨b44, true, .box [.v (.slice none 0 0), .v (.slice none 0 0), .sl 1 (l.map fun x => [enc h x])]⟩])⟩ : AState); rw [e7]; rfl), h7, h11, h14, h45, h46, h47, f0, f1, f2, f3, f4, f5, f6, f7, f8, f9⟩⟩⟩
        (fun B S hall => by
         rintro ⟨gb, gc, sl, rfl, h7, h11, h14, h45, h46, h47, f0, f1, f2, f3, f4, f5, f6, f7, f8, f9⟩
         rw [hall 10 (by decide)]
         refine x_block ?_
         refine x_then ?_
         refine awp_weaken (S' := ⟨71, [(7, .a (.v (.int .i64 (lenT t)))), (11, .a (.v (.pointer (some ⟨b44, 0, none⟩)))), (14, .a (.v (.pointer (some ⟨b14, 0, none⟩)))), (45, .a (.sl 1 (l.map fun x => [enc h x]))), (46, .a (.v (.int .i64 (((l.map fun x => [enc h x]).length : Nat))))), (47, .a (.v (.int .i64 ((j : Int)))))], [⟨gb, true, .buf 4 [y.cs] gc 73⟩, ⟨b44, true, .box [.v (.slice (some ⟨gb, 0, none⟩) [y.cs].length gc), .v (.slice none 0 0), .sl 1 (l.map fun x => [enc h x])]⟩]⟩) ⟨rfl, (Slots.cons h7 (.refl _) (Slots.cons h11 (.refl _) (Slots.cons h14 (.refl _) (Slots.cons h45 (.refl _) (Slots.cons h46 (.refl _) (Slots.cons h47 (.refl _) Slots.nil)))))), (.cons_cons _ (.cons _ (List.Sublist.refl _)))⟩ ?_
         refine awp_region ?_
         refine r_ari _ rfl rfl rfl (wrap_id (by first | omega | (simp; omega))) rfl ?_
         refine r_move rfl rfl ?_
         refine awl_nil ?_
         refine x_then ?_
         refine ⟨l.length - (j + 1), ⟨71, [(7, .a (.v (.int .i64 (lenT t)))), (11, .a (.v (.pointer (some ⟨b44, 0, none⟩)))), (45, .a (.sl 1 (l.map fun x => [enc h x]))), (46, .a (.v (.int .i64 (((l.map fun x => [enc h x]).length : Nat))))), (47, .a (.v (.int .i64 (((j + 1) : Int)))))], ([⟨gb, true, .buf 4 [y.cs] gc 73⟩]) ++ [⟨b44, true, .box [(.v (.slice (some ⟨gb, 0, none⟩) [y.cs].length gc)), .v (.slice none 0 0), .sl 1 (l.map fun x => [enc h x])]⟩]⟩, ⟨rfl, (Slots.cons rfl (by first | exact .refl _ | exact .nilOwn _ _ | exact .nilSl _ | exact .ownSl _ _ _  | exact SV.le.of_eq (by simp)) (Slots.cons rfl (by first | exact .refl _ | exact .nilOwn _ _ | exact .nilSl _ | exact .ownSl _ _ _  | exact SV.le.of_eq (by simp)) (Slots.cons rfl (by first | exact .refl _ | exact .nilOwn _ _ | exact .nilSl _ | exact .ownSl _ _ _  | exact SV.le.of_eq (by simp)) (Slots.cons rfl (by first | exact .refl _ | exact .nilOwn _ _ | exact .nilSl _ | exact .ownSl _ _ _  | exact SV.le.of_eq (by simp)) (Slots.cons rfl (by first | exact .refl _ | exact .nilOwn _ _ | exact .nilSl _ | exact .ownSl _ _ _  | exact SV.le.of_eq (by simp)) Slots.nil))))), (by first | exact List.Sublist.refl _ | exact .cons_cons _ (.cons _ (.refl _)) | exact List.nil_sublist _ | exact .cons _ (.refl _) | exact .cons _ (.cons _ (.refl _)) | exact .cons _ (.cons _ (.cons _ (.refl _))) | exact .cons _ (.cons _ (.cons _ (.cons _ (.refl _)))) | exact .cons_cons _ (List.nil_sublist _))⟩, (by omega), ⟨j + 1, .v (.slice (some ⟨gb, 0, none⟩) [y.cs].length gc), [⟨gb, true, .buf 4 [y.cs] gc 73⟩], rfl, rfl, (by omega), (.inr ⟨gb, gc, _, _, by omega, rfl, rfl, rfl, keyR_next (L := []) hx hy (by rw [hk0]; rfl)⟩)⟩⟩)
      ·
       have hLl : L.length ≤ j := by rw [hL, List.length_map, List.length_take]; omega
       refine awp_any (fun B S => ∃ gb : Nat, ∃ gc : Nat, ∃ sl : List (Nat × SV), S = ⟨71, sl, cond (B 10) [⟨gb, true, .buf 4 (L ++ [y.cs]) gc 73⟩, ⟨b14, true, .box y.cs⟩, ⟨b44, true, .box [.v (.slice (some ⟨gb, 0, none⟩) (L ++ [y.cs]).length gc), .v (.slice none 0 0), .sl 1 (l.map fun x => [enc h x])]⟩] (cond (B 7) [⟨gb, true, .buf 4 (L ++ [y.cs]) gc 73⟩, ⟨b14, true, .box y.cs⟩, ⟨b44, true, .box [.v (.slice (some ⟨g, 0, none⟩) n' cap), .v (.slice none 0 0), .sl 1 (l.map fun x => [enc h x])]⟩] [⟨b14, true, .box y.cs⟩, ⟨g, true, .buf 4 L cap 73⟩, ⟨b44, true, .box [.v (.slice (some ⟨g, 0, none⟩) n' cap), .v (.slice none 0 0), .sl 1 (l.map fun x => [enc h x])]⟩])⟩ ∧ find 7 sl = some (.a (.v (.int .i64 (lenT t)))) ∧ find 11 sl = some (.a (.v (.pointer (some ⟨b44, 0, none⟩)))) ∧ find 14 sl = some (.a (.v (.pointer (some ⟨b14, 0, none⟩)))) ∧ find 45 sl = some (.a (.sl 1 (l.map fun x => [enc h x]))) ∧ find 46 sl = some (.a (.v (.int .i64 (((l.map fun x => [enc h x]).length : Nat))))) ∧ find 47 sl = some (.a (.v (.int .i64 ((j : Int))))) ∧ (B 0 = true → find 56 sl = some (.a (.v (.pointer (some ⟨b44, 0, none⟩))))) ∧ (B 1 = true → find 57 sl = some (.a (.v (.pointer (some ⟨b44, 0, none⟩))))) ∧ (B 2 = true → find 58 sl = some (.a (.v (.pointer (some ⟨b44, 0, none⟩))))) ∧ (B 3 = true → find 59 sl = some (.a (.v (.pointer (some ⟨b44, 0, none⟩))))) ∧ (B 4 = true → find 60 sl = some (.a (.v (.slice (some ⟨g, 0, none⟩) n' cap)))) ∧ (B 5 = true → find 61 sl = some (.a (spA y))) ∧ (B 6 = true → find 62 sl = some (.a (.sl 4 [y.cs]))) ∧ (B 7 = true → find 63 sl = some (.a (.v (.slice (some ⟨gb, 0, none⟩) (L ++ [y.cs]).length gc)))) ∧ (B 8 = true → find 64 sl = some (.a (.v (.pointer (some ⟨b44, 0, none⟩))))) ∧ (B 9 = true → find 65 sl = some (.a (.v (.pointer (some ⟨b44, 0, none⟩)))))) TF.mixed rfl ⟨0, 0, _, rfl, rfl, rfl, rfl, rfl, rfl, rfl, (fun h => by cases h), (fun h => by cases h), (fun h => by cases h), (fun h => by cases h), (fun h => by cases h), (fun h => by cases h), (fun h => by cases h), (fun h => by cases h), (fun h => by cases h), (fun h => by cases h)⟩ ⟨⟨⟨⟨⟨⟨⟨⟨⟨⟨⟨trivial
        , ⟨_, rfl, fun B S hBi hdep hcl => by
          rintro ⟨gb, gc, sl, rfl, h7, h11, h14, h45, h46, h47, f0, f1, f2, f3, f4, f5, f6, f7, f8, f9⟩
          refine r_move h11 rfl ?_
          exact awl_nil ⟨rfl, gb, gc, _, rfl, h7, h11, h14, h45, h46, h47, (fun h => rfl), f1, f2, f3, f4, f5, f6, f7, f8, f9⟩⟩⟩
        , ⟨_, rfl, fun B S hBi hdep hcl => by
          rintro ⟨gb, gc, sl, rfl, h7, h11, h14, h45, h46, h47, f0, f1, f2, f3, f4, f5, f6, f7, f8, f9⟩
          refine r_move h11 rfl ?_
          exact awl_nil ⟨rfl, gb, gc, _, rfl, h7, h11, h14, h45, h46, h47, f0, (fun h => rfl), f2, f3, f4, f5, f6, f7, f8, f9⟩⟩⟩
        , ⟨_, rfl, fun B S hBi hdep hcl => by
          rintro ⟨gb, gc, sl, rfl, h7, h11, h14, h45, h46, h47, f0, f1, f2, f3, f4, f5, f6, f7, f8, f9⟩
          refine r_nilCheck (f1 (hdep 1 rfl)) (by first | exact .pt _ _ | exact .v _ | exact .cp _) rfl ?_
          exact awl_nil ⟨rfl, gb, gc, _, rfl, h7, h11, h14, h45, h46, h47, f0, f1, (fun h => rfl), f3, f4, f5, f6, f7, f8, f9⟩⟩⟩
        , ⟨_, rfl, fun B S hBi hdep hcl => by
          rintro ⟨gb, gc, sl, rfl, h7, h11, h14, h45, h46, h47, f0, f1, f2, f3, f4, f5, f6, f7, f8, f9⟩
          first | (refine r_fieldpt (f2 (hdep 2 rfl)) TF.f115_0 TF.sz112 rfl ?_) | (refine r_fieldcp (f2 (hdep 2 rfl)) TF.f115_0 TF.sz112 rfl ?_) | (refine r_fieldb (f2 (hdep 2 rfl)) TF.f115_0 TF.sz112 rfl ?_)
          exact awl_nil ⟨rfl, gb, gc, _, rfl, h7, h11, h14, h45, h46, h47, f0, f1, f2, (fun h => rfl), f4, f5, f6, f7, f8, f9⟩⟩⟩
        , ⟨_, rfl, fun B S hBi hdep hcl => by
          rintro ⟨gb, gc, sl, rfl, h7, h11, h14, h45, h46, h47, f0, f1, f2, f3, f4, f5, f6, f7, f8, f9⟩
          have e7 : B 7 = false := by cases h : B 7 with | false => rfl | true => exact absurd (hcl 7 4 h rfl) (by rw [hBi]; decide)
          have e10 : B 10 = false := by cases h : B 10 with | false => rfl | true => exact absurd (hcl 10 4 h rfl) (by rw [hBi]; decide)
          rw [e7, e10]
          first | (refine r_load1b 0 (f3 (hdep 3 rfl)) rfl rfl TF.agg112 rfl ?_) | (refine r_load1 (f3 (hdep 3 rfl)) TF.agg112 rfl ?_) | (refine r_load1b 1 (f3 (hdep 3 rfl)) rfl rfl TF.agg112 rfl ?_) | (refine r_load1b 2 (f3 (hdep 3 rfl)) rfl rfl TF.agg112 rfl ?_)
          exact awl_nil ⟨rfl, gb, gc, ((60, .a (.v (.slice (some ⟨g, 0, none⟩) n' cap))) :: sl), (by show _ = (⟨71, _, cond (B 10) [⟨gb, true, .buf 4 (L ++ [y.cs]) gc 73⟩, ⟨b14, true, .box y.cs⟩, ⟨b44, true, .box [.v (.slice (some ⟨gb, 0, none⟩) (L ++ [y.cs]).length gc), .v (.slice none 0 0), .sl 1 (l.map fun x => [enc h x])]⟩] (cond (B 7) [⟨gb, true, .buf 4 (L ++ [y.cs]) gc 73⟩, ⟨b14, true, .box y.cs⟩, ⟨b44, true, .box [.v (.slice (some ⟨g, 0, none⟩) n' cap), .v (.slice none 0 0), .sl 1 (l.map fun x => [enc h x])]⟩] [⟨b14, true, .box y.cs⟩, ⟨g, true, .buf 4 L cap 73⟩, ⟨b44, true, .box [.v (.slice (some ⟨g, 0, none⟩) n' cap), .v (.slice none 0 0), .sl 1 (l.map fun x => [enc h x])]⟩])⟩ : AState); rw [e7, e10]; rfl), h7, h11, h14, h45, h46, h47, f0, f1, f2, f3, (fun h => rfl), f5, f6, f7, f8, f9⟩⟩⟩
        , ⟨_, rfl, fun B S hBi hdep hcl => by
          rintro ⟨gb, gc, sl, rfl, h7, h11, h14, h45, h46, h47, f0, f1, f2, f3, f4, f5, f6, f7, f8, f9⟩
          have e7 : B 7 = false := by cases h : B 7 with | false => rfl | true => exact absurd (hcl 6 5 (hcl 7 6 h rfl) rfl) (by rw [hBi]; decide)
          have e10 : B 10 = false := by cases h : B 10 with | false => rfl | true => exact absurd (hcl 10 5 h rfl) (by rw [hBi]; decide)
          rw [e7, e10]
          first | (refine r_loadAb 0 h14 rfl TF.agg73 TF.sz73 rfl rfl ?_) | (refine r_loadA h14 TF.agg73 TF.sz73 rfl rfl ?_) | (refine r_loadAb 1 h14 rfl TF.agg73 TF.sz73 rfl rfl ?_) | (refine r_loadAb 2 h14 rfl TF.agg73 TF.sz73 rfl rfl ?_)
          exact awl_nil ⟨rfl, gb, gc, ((61, .a (spA y)) :: sl), (by show _ = (⟨71, _, cond (B 10) [⟨gb, true, .buf 4 (L ++ [y.cs]) gc 73⟩, ⟨b14, true, .box y.cs⟩, ⟨b44, true, .box [.v (.slice (some ⟨gb, 0, none⟩) (L ++ [y.cs]).length gc), .v (.slice none 0 0), .sl 1 (l.map fun x => [enc h x])]⟩] (cond (B 7) [⟨gb, true, .buf 4 (L ++ [y.cs]) gc 73⟩, ⟨b14, true, .box y.cs⟩, ⟨b44, true, .box [.v (.slice (some ⟨g, 0, none⟩) n' cap), .v (.slice none 0 0), .sl 1 (l.map fun x => [enc h x])]⟩] [⟨b14, true, .box y.cs⟩, ⟨g, true, .buf 4 L cap 73⟩, ⟨b44, true, .box [.v (.slice (some ⟨g, 0, none⟩) n' cap), .v (.slice none 0 0), .sl 1 (l.map fun x => [enc h x])]⟩])⟩ : AState); rw [e7, e10]; rfl), h7, h11, h14, h45, h46, h47, f0, f1, f2, f3, f4, (fun h => rfl), f6, f7, f8, f9⟩⟩⟩
        , ⟨_, rfl, fun B S hBi hdep hcl => by
          rintro ⟨gb, gc, sl, rfl, h7, h11, h14, h45, h46, h47, f0, f1, f2, f3, f4, f5, f6, f7, f8, f9⟩
          refine r_litC (parts := [(0, .tmp 61)]) rfl TF.sl112 TF.sz73 TF.zraw73 rfl rfl rfl (parts_cons (f5 (hdep 5 rfl)) parts_nil) rfl rfl rfl rfl ?_
          exact awl_nil ⟨rfl, gb, gc, _, rfl, h7, h11, h14, h45, h46, h47, f0, f1, f2, f3, f4, f5, (fun h => rfl), f7, f8, f9⟩⟩⟩
        , ⟨_, rfl, fun B S hBi hdep hcl => by
          rintro ⟨gb, gc, sl, rfl, h7, h11, h14, h45, h46, h47, f0, f1, f2, f3, f4, f5, f6, f7, f8, f9⟩
          have e10 : B 10 = false := by cases h : B 10 with | false => rfl | true => exact absurd (hcl 10 7 h rfl) (by rw [hBi]; decide)
          rw [hBi, e10]
          refine r_appendBG 1 (f4 (hdep 4 rfl)) hnL rfl (f6 (hdep 6 rfl)) (by first | exact .sl _ | exact .own _ _) (by simp [chunks]) TF.sl112 TF.sz73 TF.by73 TF.zlen73 (by simp [chunks] <;> omega) (by simp [chunks] <;> omega) rfl (fun gb gc => ?_)
          exact awl_nil ⟨rfl, gb, gc, ((63, .a (.v (.slice (some ⟨gb, 0, none⟩) (L ++ [y.cs]).length gc))) :: sl), (by show _ = (⟨71, _, cond (B 10) [⟨gb, true, .buf 4 (L ++ [y.cs]) gc 73⟩, ⟨b14, true, .box y.cs⟩, ⟨b44, true, .box [.v (.slice (some ⟨gb, 0, none⟩) (L ++ [y.cs]).length gc), .v (.slice none 0 0), .sl 1 (l.map fun x => [enc h x])]⟩] (cond true [⟨gb, true, .buf 4 (L ++ [y.cs]) gc 73⟩, ⟨b14, true, .box y.cs⟩, ⟨b44, true, .box [.v (.slice (some ⟨g, 0, none⟩) n' cap), .v (.slice none 0 0), .sl 1 (l.map fun x => [enc h x])]⟩] [⟨b14, true, .box y.cs⟩, ⟨g, true, .buf 4 L cap 73⟩, ⟨b44, true, .box [.v (.slice (some ⟨g, 0, none⟩) n' cap), .v (.slice none 0 0), .sl 1 (l.map fun x => [enc h x])]⟩])⟩ : AState); rw [e10]; rfl), h7, h11, h14, h45, h46, h47, f0, f1, f2, f3, f4, f5, f6, (fun h => rfl), f8, f9⟩⟩⟩
        , ⟨_, rfl, fun B S hBi hdep hcl => by
          rintro ⟨gb, gc, sl, rfl, h7, h11, h14, h45, h46, h47, f0, f1, f2, f3, f4, f5, f6, f7, f8, f9⟩
          refine r_nilCheck (f0 (hdep 0 rfl)) (by first | exact .pt _ _ | exact .v _ | exact .cp _) rfl ?_
          exact awl_nil ⟨rfl, gb, gc, _, rfl, h7, h11, h14, h45, h46, h47, f0, f1, f2, f3, f4, f5, f6, f7, (fun h => rfl), f9⟩⟩⟩
        , ⟨_, rfl, fun B S hBi hdep hcl => by
          rintro ⟨gb, gc, sl, rfl, h7, h11, h14, h45, h46, h47, f0, f1, f2, f3, f4, f5, f6, f7, f8, f9⟩
          first | (refine r_fieldpt (f8 (hdep 8 rfl)) TF.f115_0 TF.sz112 rfl ?_) | (refine r_fieldcp (f8 (hdep 8 rfl)) TF.f115_0 TF.sz112 rfl ?_) | (refine r_fieldb (f8 (hdep 8 rfl)) TF.f115_0 TF.sz112 rfl ?_)
          exact awl_nil ⟨rfl, gb, gc, _, rfl, h7, h11, h14, h45, h46, h47, f0, f1, f2, f3, f4, f5, f6, f7, f8, (fun h => rfl)⟩⟩⟩
        , ⟨_, rfl, fun B S hBi hdep hcl => by
          rintro ⟨gb, gc, sl, rfl, h7, h11, h14, h45, h46, h47, f0, f1, f2, f3, f4, f5, f6, f7, f8, f9⟩
          have e7 : B 7 = true := hdep 7 rfl
          rw [hBi, e7]
          first | (refine r_store 0 (f9 (hdep 9 rfl)) rfl (f7 (hdep 7 rfl)) TF.sz112 rfl rfl rfl ?_) | (refine r_store 1 (f9 (hdep 9 rfl)) rfl (f7 (hdep 7 rfl)) TF.sz112 rfl rfl rfl ?_) | (refine r_store 2 (f9 (hdep 9 rfl)) rfl (f7 (hdep 7 rfl)) TF.sz112 rfl rfl rfl ?_)
          exact awl_nil ⟨rfl, gb, gc, sl, (by show _ = (⟨71, _, cond true [⟨gb, true, .buf 4 (L ++ [y.cs]) gc 73⟩, ⟨b14, true, .box y.cs⟩, ⟨b44, true, .box [.v (.slice (some ⟨gb, 0, none⟩) (L ++ [y.cs]).length gc), .v (.slice none 0 0), .sl 1 (l.map fun x => [enc h x])]⟩] (cond (B 7) [⟨gb, true, .buf 4 (L ++ [y.cs]) gc 73⟩, ⟨b14, true, .box y.cs⟩, ⟨b44, true, .box [.v (.slice (some ⟨g, 0, none⟩) n' cap), .v (.slice none 0 0), .sl 1 (l.map fun x => [enc h x])]⟩] [⟨b14, true, .box y.cs⟩, ⟨g, true, .buf 4 L cap 73⟩, ⟨b44, true, .box [.v (.slice (some ⟨g, 0, none⟩) n' cap), .v (.slice none 0 0), .sl 1 (l.map fun x => [enc h x])]⟩])⟩ : AState); rw [e7]; rfl), h7, h11, h14, h45, h46, h47, f0, f1, f2, f3, f4, f5, f6, f7, f8, f9⟩⟩⟩
        (fun B S hall => by
         rintro ⟨gb, gc, sl, rfl, h7, h11, h14, h45, h46, h47, f0, f1, f2, f3, f4, f5, f6, f7, f8, f9⟩
         rw [hall 10 (by decide)]
         refine x_block ?_
         refine x_then ?_
         refine awp_weaken (S' := ⟨71, [(7, .a (.v (.int .i64 (lenT t)))), (11, .a (.v (.pointer (some ⟨b44, 0, none⟩)))), (14, .a (.v (.pointer (some ⟨b14, 0, none⟩)))), (45, .a (.sl 1 (l.map fun x => [enc h x]))), (46, .a (.v (.int .i64 (((l.map fun x => [enc h x]).length : Nat))))), (47, .a (.v (.int .i64 ((j : Int)))))], [⟨gb, true, .buf 4 (L ++ [y.cs]) gc 73⟩, ⟨b44, true, .box [.v (.slice (some ⟨gb, 0, none⟩) (L ++ [y.cs]).length gc), .v (.slice none 0 0), .sl 1 (l.map fun x => [enc h x])]⟩]⟩) ⟨rfl, (Slots.cons h7 (.refl _) (Slots.cons h11 (.refl _) (Slots.cons h14 (.refl _) (Slots.cons h45 (.refl _) (Slots.cons h46 (.refl _) (Slots.cons h47 (.refl _) Slots.nil)))))), (.cons_cons _ (.cons _ (List.Sublist.refl _)))⟩ ?_
         refine awp_region ?_
         refine r_ari _ rfl rfl rfl (wrap_id (by first | omega | (simp; omega))) rfl ?_
         refine r_move rfl rfl ?_
         refine awl_nil ?_
         refine x_then ?_
         refine ⟨l.length - (j + 1), ⟨71, [(7, .a (.v (.int .i64 (lenT t)))), (11, .a (.v (.pointer (some ⟨b44, 0, none⟩)))), (45, .a (.sl 1 (l.map fun x => [enc h x]))), (46, .a (.v (.int .i64 (((l.map fun x => [enc h x]).length : Nat))))), (47, .a (.v (.int .i64 (((j + 1) : Int)))))], ([⟨gb, true, .buf 4 (L ++ [y.cs]) gc 73⟩]) ++ [⟨b44, true, .box [(.v (.slice (some ⟨gb, 0, none⟩) (L ++ [y.cs]).length gc)), .v (.slice none 0 0), .sl 1 (l.map fun x => [enc h x])]⟩]⟩, ⟨rfl, (Slots.cons rfl (by first | exact .refl _ | exact .nilOwn _ _ | exact .nilSl _ | exact .ownSl _ _ _  | exact SV.le.of_eq (by simp)) (Slots.cons rfl (by first | exact .refl _ | exact .nilOwn _ _ | exact .nilSl _ | exact .ownSl _ _ _  | exact SV.le.of_eq (by simp)) (Slots.cons rfl (by first | exact .refl _ | exact .nilOwn _ _ | exact .nilSl _ | exact .ownSl _ _ _  | exact SV.le.of_eq (by simp)) (Slots.cons rfl (by first | exact .refl _ | exact .nilOwn _ _ | exact .nilSl _ | exact .ownSl _ _ _  | exact SV.le.of_eq (by simp)) (Slots.cons rfl (by first | exact .refl _ | exact .nilOwn _ _ | exact .nilSl _ | exact .ownSl _ _ _  | exact SV.le.of_eq (by simp)) Slots.nil))))), (by first | exact List.Sublist.refl _ | exact .cons_cons _ (.cons _ (.refl _)) | exact List.nil_sublist _ | exact .cons _ (.refl _) | exact .cons _ (.cons _ (.refl _)) | exact .cons _ (.cons _ (.cons _ (.refl _))) | exact .cons _ (.cons _ (.cons _ (.cons _ (.refl _)))) | exact .cons_cons _ (List.nil_sublist _))⟩, (by omega), ⟨j + 1, .v (.slice (some ⟨gb, 0, none⟩) (L ++ [y.cs]).length gc), [⟨gb, true, .buf 4 (L ++ [y.cs]) gc 73⟩], rfl, rfl, (by omega), (.inr ⟨gb, gc, _, _, by omega, rfl, rfl, rfl, keyR_next hx hy hL⟩)⟩⟩)
     ·
      have hge : l.length ≤ j := by have := of_decide_eq_false hc2; simp at this; omega
      obtain rfl : j = l.length := by omega
      refine awp_exit ?_
      refine x_thenE ?_
      refine x_thenE ?_
      refine x_blockE ?_
      refine x_then ?_
      refine awp_seq ?_
      refine awp_region ?_
      rcases hK with ⟨hk0, _, _⟩ | ⟨g, cap, n', L, hk0, rfl, hnL, rfl, hL⟩
      · exfalso; have := hpw.2.1; omega
      refine awl_imp (imp_commitBk 0 0 0 hnL rfl rfl rfl) ?_
      refine awl_imp (imp_boxLe 0 rfl (.cons (.refl _) (.cons (.nil 1) (.cons (.refl _) .nil)))) ?_
      refine awl_imp (imp_commitP 0 11 rfl rfl rfl rfl) ?_
      refine r_move rfl rfl ?_
      refine r_move rfl rfl ?_
      refine r_build (parts := [(0, .tmp 67), (1, .tmp 68)]) rfl TF.pl111 TF.zero111 rfl rfl rfl ?_
      refine r_box rfl rfl rfl (fun b70 => ?_)
      refine awl_imp (imp_commit 0 70 rfl rfl rfl rfl) ?_
      refine r_assign rfl rfl ?_
      refine awl_nil ?_
      refine x_then ?_
      refine awp_ret ?_
      exact ⟨(.inl rfl), _, [], (.one (by first | exact .mk rfl rfl | exact .nil rfl)), ⟨rfl, some (some ⟨h + 1, (b44, l)⟩, lenT t), ⟨some ⟨h + 1, (b44, l)⟩, by show _ = some (_, lenT t + _); rw [hgs]; simp, by rw [hrt]; exact ⟨l, hp4, .inr ⟨by have := hpw.2.1; omega, b44, rfl⟩⟩⟩, by show _ = AV.cp [enc (h + 1) (b44, l), _]; rw [← enc_over, hL, ← kksOf_len, List.take_length]; rfl⟩, (List.nil_sublist _), (by simp)⟩)
theorem TPut_ok (t : TreeV) (hw : wfRt (rootT t)) (hn : 0 ≤ lenT t ∧ lenT t ≤ 1000000) (k : Sp) (v : Int) : AC Try.prog 26 [encT t, spA k, .v (.int .u64 v)] [] (fun r nb => nb = [] ∧ ∃ t', PutT t k v t' ∧ r = encT t') := by
  cases hr : rootT t with
  | none => exact TPut_none t hr hn k v
  | some s => obtain ⟨h, n⟩ := s; rw [hr] at hw; exact TPut_some t h n hr hw.1 hw.2 hn k v
end Go.Proofs.Ytpkodkoooaldlaa.A
namespace Go.Proofs.Ytpkodkoooaldlaa.A
open Go Go.RowKit
set_option linter.unusedVariables false
set_option linter.unusedSimpArgs false
def subs : (h : Nat) → Nd h → List (Sigma Nd)
  | 0, n => [⟨0, n⟩]
  | h + 1, n => ⟨h + 1, n⟩ :: (kdsOf n).flatMap (subs h)
def sid (s : Sigma Nd) : Nat := s.2.1
def subT (t : TreeV) : List (Sigma Nd) := match rootT t with
  | none => []
  | some ⟨h, n⟩ => subs h n
def VisT (ks bs seen ps : List Nat) : Prop := ∃ qs : List Nat, qs.Nodup ∧ (∀ q ∈ qs, q < ks.length) ∧ seen = qs.map (bs.getD · 0) ∧ ps = qs.map (ks.getD · 0)
theorem VisT.nil {ks bs : List Nat} : VisT ks bs [] [] := ⟨[], List.nodup_nil, by simp, rfl, rfl⟩
theorem VisT.next {ks bs seen ps : List Nat} {q b p : Nat} (h : VisT ks bs seen ps) (hp : ks[q]? = some p) (hb : bs[q]? = some b) (hn : b ∉ seen) : VisT ks bs (seen ++ [b]) (ps ++ [p]) := by
  obtain ⟨qs, h1, h2, rfl, rfl⟩ := h
  refine ⟨qs ++ [q], List.nodup_append.2 ⟨h1, by simp, fun a ha c hc => ?_⟩, fun x hx => ?_, by simp [List.getD, hb], by simp [List.getD, hp]⟩
  · obtain rfl := List.mem_singleton.1 hc
    rintro rfl
    exact hn (List.mem_map.2 ⟨a, ha, by simp [List.getD, hb]⟩)
  · rcases List.mem_append.1 hx with hx | hx
    · exact h2 x hx
    · obtain rfl := List.mem_singleton.1 hx; exact (List.getElem?_eq_some_iff.1 hp).1
theorem nodup_get {l : List Nat} (h : l.Nodup) {i j x : Nat} (hi : l[i]? = some x) (hj : l[j]? = some x) : i = j := by
  obtain ⟨h1, h2⟩ := List.getElem?_eq_some_iff.1 hi
  obtain ⟨h3, h4⟩ := List.getElem?_eq_some_iff.1 hj
  rcases Nat.lt_trichotomy i j with h5 | h5 | h5
  · exact absurd (h2.trans h4.symm) (List.pairwise_iff_getElem.1 h i j h1 h3 h5)
  · exact h5
  · exact absurd (h4.trans h2.symm) (List.pairwise_iff_getElem.1 h j i h3 h1 h5)
theorem VisT.mem {ks bs seen ps : List Nat} (h : VisT ks bs seen ps) {p : Nat} (hp : p ∈ ps) : p ∈ ks := by
  obtain ⟨qs, _, h2, _, rfl⟩ := h
  obtain ⟨q, hq, rfl⟩ := List.mem_map.1 hp
  have := h2 q hq
  simp [List.getD, List.getElem?_eq_getElem this]
theorem VisT.all {ks bs seen ps : List Nat} (h : VisT ks bs seen ps) (hl : bs.length = ks.length) (hb : bs.Nodup) (hend : ∀ b ∈ bs, b ∈ seen) {p : Nat} (hp : p ∈ ks) : p ∈ ps := by
  obtain ⟨qs, h1, h2, rfl, rfl⟩ := h
  obtain ⟨i, hi⟩ := List.getElem?_of_mem hp
  have hil : i < bs.length := by rw [hl]; exact (List.getElem?_eq_some_iff.1 hi).1
  obtain ⟨q, hq, hqe⟩ := List.mem_map.1 (hend _ (List.getElem_mem hil))
  have hql : q < bs.length := by rw [hl]; exact h2 q hq
  have : q = i := nodup_get hb (x := bs[i]) (by simp [List.getD, List.getElem?_eq_getElem hql] at hqe; rw [List.getElem?_eq_getElem hql, hqe]) (List.getElem?_eq_getElem hil)
  subst this
  exact List.mem_map.2 ⟨q, hq, by simp [List.getD, hi]⟩
theorem nodup_subT : ∀ {ps l : List Nat}, ps.Nodup → (∀ i ∈ ps, i ∈ l) → ∃ r, (ps ++ r).Perm l
  | [], l, _, _ => ⟨l, List.Perm.refl _⟩
  | p :: ps, l, h1, h2 => by
    obtain ⟨hp, h1'⟩ := List.nodup_cons.1 h1
    have hl := List.perm_cons_erase (h2 p (by simp))
    obtain ⟨r, hr⟩ := nodup_subT h1' (l := l.erase p) (fun i hi => (List.mem_erase_of_ne (fun e => hp (by subst e; exact hi))).2 (h2 i (by simp [hi])))
    exact ⟨r, (hr.cons p).trans hl.symm⟩
theorem nodup_lenT {ps : List Nat} {n : Nat} (h1 : ps.Nodup) (h2 : ∀ i ∈ ps, i < n) : ps.length ≤ n := by
  obtain ⟨r, hr⟩ := nodup_subT h1 (l := List.range n) (fun i hi => List.mem_range.2 (h2 i hi))
  have := hr.length_eq; simp at this; omega
theorem VisT.len {ks bs seen ps : List Nat} (h : VisT ks bs seen ps) : ps.length ≤ ks.length := by
  obtain ⟨qs, h1, h2, _, rfl⟩ := h
  rw [List.length_map]; exact nodup_lenT h1 h2
theorem VisT.lt {ks bs seen ps : List Nat} {q b p : Nat} (h : VisT ks bs seen ps) (hp : ks[q]? = some p) (hb : bs[q]? = some b) (hn : b ∉ seen) : ps.length < ks.length := by
  have := (h.next hp hb hn).len; simp at this; omega
structure En where
  k : Sp
  v : Int
  c : Bool
  deriving DecidableEq, Inhabited
def En.cs (e : En) : List AV := e.k.cs ++ [.v (.int .u64 e.v), .v (.bool e.c)]
end Go.Proofs.Ytpkodkoooaldlaa.A
namespace Go.Proofs.Ytpkodkoooaldlaa.A
open Go Go.RowKit
set_option linter.unusedVariables false
set_option linter.unusedSimpArgs false
set_option linter.unusedSectionVars false
variable {P : Program} {w0 : Base} {C0 C : CS} {T : TS} {S S' : AState} {a : Act} {w : World} {ops : Array Oper} {rest : List Oper} {o : Oper} {Q : Exit → AState → Prop}
variable {t : Nat} {ty ty' : TypeId} {pos : String} {aft : Array Edge}
inductive VK where
  | int (q : IntKind)
  | bool
  deriving DecidableEq
def VK.is : VK → Value → Prop
  | .int q, v => ∃ n, v = .int q n
  | .bool, v => ∃ b, v = .bool b
def Kn : List VK → List Value → Prop
  | [], [] => True
  | k :: ks, v :: vs => k.is v ∧ Kn ks vs
  | _, _ => False
theorem Kn.len : ∀ {ks : List VK} {vs : List Value}, Kn ks vs → vs.length = ks.length
  | [], [], _ => rfl
  | _ :: _, _ :: _, h => congrArg (· + 1) h.2.len
theorem Kn.split : ∀ {ks kr : List VK} {vs : List Value}, Kn (ks ++ kr) vs → ∃ v1 v2, vs = v1 ++ v2 ∧ Kn ks v1 ∧ Kn kr v2
  | [], kr, vs, h => ⟨[], vs, rfl, trivial, h⟩
  | k :: ks, kr, [], h => by cases h
  | k :: ks, kr, v :: vs, h => by
    obtain ⟨v1, v2, rfl, h1, h2⟩ := Kn.split (ks := ks) h.2
    exact ⟨v :: v1, v2, rfl, ⟨h.1, h1⟩, h2⟩
theorem Kn.mem : ∀ {ks : List VK} {vs : List Value}, Kn ks vs → ∀ v ∈ vs, ∃ k : VK, k.is v
  | [], [], _, v, h => by cases h
  | k :: _, x :: _, hk, v, h => by
    rcases List.mem_cons.1 h with rfl | h
    · exact ⟨k, hk.1⟩
    · exact hk.2.mem v h
def isAggB (P : Program) (t : TypeId) : Bool := match aggT P t with | some true => true | _ => false
theorem isAggB_eq {t : TypeId} (h : isAggB P t = true) : aggT P t = some true := by
  unfold isAggB at h; split at h
  · assumption
  · cases h
def eqFs (P : Program) (g : TypeId → Option (List VK)) : Nat → List Field → Option (List VK)
  | _, [] => some []
  | o, f :: fs => if decide (f.name ≠ "_") && Nat.beq f.offset o then
      match g f.type with
      | some q => if decide (szT P f.type = some q.length) then (eqFs P g (o + q.length) fs).map (q ++ ·) else none
      | none => none
    else none
def eqF (P : Program) : Nat → TypeId → Option (List VK)
  | 0, _ => none
  | d + 1, t => match P.underlying t with
    | some (.int q) => if notAgg P t then some [.int q] else none
    | some .bool => if notAgg P t then some [.bool] else none
    | some (.struct fs) => if !P.stoodInHeld t && isAggB P t then eqFs P (eqF P d) 0 fs.toList else none
    | _ => none
def mkV (P : Program) (t : TypeId) (us : List Value) : Value := if aggT P t = some true then .agg us.toArray else us.headD undef
theorem run_partF {t : TypeId} {q : List VK} (hs : szT P t = some q.length) {xs : Array Value} {o : Nat} {u1 u2 : List Value} (hx : xs.toList.drop o = u1 ++ u2) (hk : Kn q u1) (ha : aggT P t = some true ∨ (aggT P t = some false ∧ ∃ k, q = [k])) (w : World) : (part t xs o).run P w = .ok (mkV P t u1) w := by
  have hl := hk.len
  have hol : o + u1.length ≤ xs.size ∨ u1 = [] := by
    by_cases h : u1 = []
    · exact .inr h
    · left
      have h1 : 0 < u1.length := List.length_pos_iff.2 h
      have := congrArg List.length hx
      simp at this; omega
  rcases ha with ha | ⟨ha, k, rfl⟩
  · have he : xs.extract o (o + q.length) = u1.toArray := by
      apply Array.ext'
      have : (xs.toList.drop o).take q.length = u1 := by rw [hx, ← hl, List.take_left]
      rw [Array.toList_extract, ← this]
      simp [List.extract_eq_take_drop]
    simp [part, run_isAgg ha, run_sz hs, mkV, ha, he]
  · match u1, hk with
    | [v], _ =>
      have h0 : xs[o]? = some v := by
        have := congrArg (fun l => l[0]?) hx
        simpa using this
      rw [run_part1 ha h0]
      simp [mkV, ha]
theorem eqF_agg : ∀ {d : Nat} {t : TypeId} {q : List VK}, eqF P d t = some q → aggT P t = some true ∨ (aggT P t = some false ∧ ∃ k, q = [k])
  | 0, _, _, h => by cases h
  | d + 1, t, q, h => by
    unfold eqF at h
    split at h
    · split at h
      · cases h; exact .inr ⟨notAgg_eq (by assumption), _, rfl⟩
      · cases h
    · split at h
      · cases h; exact .inr ⟨notAgg_eq (by assumption), _, rfl⟩
      · cases h
    · split at h
      · rename_i hc
        simp only [Bool.and_eq_true] at hc
        exact .inl (isAggB_eq hc.2)
      · cases h
    · cases h
theorem eqFs_cons {g : TypeId → Option (List VK)} {o : Nat} {f : Field} {fs : List Field} {qs : List VK} (h : eqFs P g o (f :: fs) = some qs) : f.name ≠ "_" ∧ f.offset = o ∧ ∃ q qr, g f.type = some q ∧ szT P f.type = some q.length ∧ eqFs P g (o + q.length) fs = some qr ∧ qs = q ++ qr := by
  unfold eqFs at h
  split at h
  · rename_i hc
    simp only [Bool.and_eq_true, decide_eq_true_eq] at hc
    split at h
    · rename_i q hq
      split at h
      · rename_i hs
        cases hr : eqFs P g (o + q.length) fs with
        | none => rw [hr] at h; cases h
        | some qr =>
          rw [hr] at h
          cases h
          exact ⟨hc.1, Nat.eq_of_beq_eq_true hc.2, q, qr, hq, by simpa using hs, hr, rfl⟩
      · cases h
    · cases h
  · cases h
theorem run_eqFs {d : Nat} (ih : ∀ t q, eqF P d t = some q → ∀ e, d ≤ e → ∀ us vs, Kn q us → Kn q vs → ∀ (b : Bool), (b = true ↔ us = vs) → ∀ w, (Op.equalIn e t (mkV P t us) (mkV P t vs)).run P w = .ok b w) :
    ∀ (fs : List Field) (o : Nat) (qs : List VK), eqFs P (eqF P d) o fs = some qs → ∀ e, d ≤ e → ∀ (xs ys : Array Value) (us vs : List Value), xs.toList.drop o = us → ys.toList.drop o = vs → Kn qs us → Kn qs vs → ∀ (b : Bool), (b = true ↔ us = vs) → ∀ w, (Op.eqFields e xs ys fs).run P w = .ok b w
  | [], o, qs, h, e, he, xs, ys, us, vs, _, _, hu, hv, b, hb, w => by
    cases h
    have h1 : us = [] := List.eq_nil_of_length_eq_zero hu.len
    have h2 : vs = [] := List.eq_nil_of_length_eq_zero hv.len
    subst h1 h2
    obtain rfl := hb.2 rfl
    simp [Op.eqFields]
  | f :: fs, o, qs, h, e, he, xs, ys, us, vs, hx, hy, hu, hv, b, hb, w => by
    obtain ⟨f1, f2, q, qr, hq, hs, hr, rfl⟩ := eqFs_cons h
    obtain ⟨u1, u2, rfl, hu1, hu2⟩ := hu.split
    obtain ⟨v1, v2, rfl, hv1, hv2⟩ := hv.split
    have ha := eqF_agg hq
    have px := run_partF hs hx hu1 ha w
    have py := run_partF hs hy hv1 ha w
    have hx2 : xs.toList.drop (o + q.length) = u2 := by rw [← List.drop_drop, hx, ← hu1.len, List.drop_left]
    have hy2 : ys.toList.drop (o + q.length) = v2 := by rw [← List.drop_drop, hy, ← hv1.len, List.drop_left]
    have hl : u1.length = v1.length := hu1.len.trans hv1.len.symm
    by_cases h1 : u1 = v1
    · have ihr := run_eqFs ih fs _ qr hr e he xs ys u2 v2 hx2 hy2 hu2 hv2 b (by rw [hb, h1]; simp) w
      simp only [Op.eqFields, f1, f2, if_true, ne_eq, not_false_eq_true, Sem.run_bind, px, py, Result.andThen, ih _ _ hq e he u1 v1 hu1 hv1 true (by simp [h1]) w, Sem.run_ite, ihr]
      rfl
    · have hn : ¬ (u1 ++ u2 = v1 ++ v2) := fun h2 => h1 (List.append_inj_left h2 hl)
      obtain rfl : b = false := by cases b with | false => rfl | true => exact absurd (hb.1 rfl) hn
      simp [Op.eqFields, f1, f2, Sem.run_bind, px, py, Result.andThen, ih _ _ hq e he u1 v1 hu1 hv1 false (by simp [h1]) w]
theorem run_eqF : ∀ (d : Nat) (t : TypeId) (q : List VK), eqF P d t = some q → ∀ e, d ≤ e → ∀ us vs, Kn q us → Kn q vs → ∀ (b : Bool), (b = true ↔ us = vs) → ∀ w, (Op.equalIn e t (mkV P t us) (mkV P t vs)).run P w = .ok b w
  | 0, _, _, h, _, _, _, _, _, _, _, _, _ => by cases h
  | d + 1, t, q, h, 0, he, _, _, _, _, _, _, _ => by omega
  | d + 1, t, q, h, e + 1, he, us, vs, hu, hv, b, hb, w => by
    have ha := eqF_agg h
    unfold eqF at h
    split at h
    · rename_i q' hd
      split at h
      · rename_i hna
        cases h
        match us, hu, vs, hv with
        | [u], hu, [v], hv =>
          obtain ⟨n, rfl⟩ := hu.1
          obtain ⟨m, rfl⟩ := hv.1
          have hna' := notAgg_eq hna
          simp only [mkV, hna', List.headD_cons]
          rw [if_neg (by simp), if_neg (by simp), run_equalIn_int w e t q' q' n m hd]
          have hbb : b = (n == m) := by
            rw [Bool.eq_iff_iff, hb]; simp
          subst hbb
          simp
      · cases h
    · rename_i hd
      split at h
      · rename_i hna
        cases h
        match us, hu, vs, hv with
        | [u], hu, [v], hv =>
          obtain ⟨n, rfl⟩ := hu.1
          obtain ⟨m, rfl⟩ := hv.1
          have hna' := notAgg_eq hna
          simp only [mkV, hna', List.headD_cons]
          rw [if_neg (by simp), if_neg (by simp), run_equalIn_b w e t n m hd]
          have hbb : b = (n == m) := by
            rw [Bool.eq_iff_iff, hb]; simp
          subst hbb
          rfl
      · cases h
    · rename_i fs hd
      split at h
      · rename_i hc
        simp only [Bool.and_eq_true, Bool.not_eq_true'] at hc
        have hag := isAggB_eq hc.2
        simp only [mkV, hag, if_true]
        have hd' : P.underlying t = some (.struct (P.fieldsOf t)) := by simp [Program.fieldsOf, hd]
        have hfs : P.fieldsOf t = fs := by simp [Program.fieldsOf, hd]
        rw [run_equalIn_struct w e t _ _ hd' hc.1, hfs]
        exact run_eqFs (fun t q h => run_eqF d t q h) fs.toList 0 q h e (by omega) _ _ us vs (by simp) (by simp) hu hv b hb w
      · cases h
    · cases h
structure FlatT (P : Program) (t : TypeId) (q : List VK) : Prop where
  str : P.underlying t = some (.struct (P.fieldsOf t))
  agg : aggT P t = some true
  eq : eqF P 5 t = some q
  guard : P.eqGuardType P.depth t = false
theorem run_flat {t : TypeId} {q : List VK} (h : FlatT P t q) {us vs : List Value} (hu : Kn q us) (hv : Kn q vs) (b : Bool) (hb : b = true ↔ us = vs) (w : World) : (Op.equalIn 10000 t (.agg us.toArray) (.agg vs.toArray)).run P w = .ok b w := by
  have := run_eqF 5 t q h.eq 10000 (by omega) us vs hu hv b hb w
  simpa only [mkV, h.agg, if_true] using this
theorem r_feq {x y : Operand} {sx sy : SV} {xt yt : TypeId} {q : List VK} {us vs : List Value} (hx : S.ev x = some sx) (hy : S.ev y = some sy) (h : FlatT P xt q) (hxv : IsVal sx.av (.agg us.toArray)) (hyv : IsVal sy.av (.agg vs.toArray)) (hu : Kn q us) (hv : Kn q vs) (b : Bool) (hb : b = true ↔ us = vs) (ht : Nat.blt t S.nt = true)
    (hr : AWL P w0 C0 ops rest Q (S.put t (.a (.v (.bool b))))) : AWL P w0 C0 ops (⟨some t, .binOp .eql xt x y yt, ty, pos, aft, none⟩ :: rest) Q S := by
  exact awl_pure ht (fun C T a w hs => ⟨.bool b, by
    have hg := run_eqGuard_agg (P := P) w .eql xt x y us.toArray vs.toArray h.guard
    simp only [execOp, (hxv C _).1 (hs.ev hx).av, (hyv C _).1 (hs.ev hy).av, Sem.run_bind, hg, Result.andThen, run_eql_struct, run_flat h hu hv b hb, Sem.run_pure], srel_v _⟩) hr
theorem r_fne {x y : Operand} {sx sy : SV} {xt yt : TypeId} {q : List VK} {us vs : List Value} (hx : S.ev x = some sx) (hy : S.ev y = some sy) (h : FlatT P xt q) (hxv : IsVal sx.av (.agg us.toArray)) (hyv : IsVal sy.av (.agg vs.toArray)) (hu : Kn q us) (hv : Kn q vs) (b : Bool) (hb : b = true ↔ us = vs) (ht : Nat.blt t S.nt = true)
    (hr : AWL P w0 C0 ops rest Q (S.put t (.a (.v (.bool (!b)))))) : AWL P w0 C0 ops (⟨some t, .binOp .neq xt x y yt, ty, pos, aft, none⟩ :: rest) Q S := by
  exact awl_pure ht (fun C T a w hs => ⟨.bool (!b), by
    have hg := run_eqGuard_agg (P := P) w .neq xt x y us.toArray vs.toArray h.guard
    simp only [execOp, (hxv C _).1 (hs.ev hx).av, (hyv C _).1 (hs.ev hy).av, Sem.run_bind, hg, Result.andThen, run_neq_struct, run_flat h hu hv b hb, Sem.run_pure], srel_v _⟩) hr
end Go.Proofs.Ytpkodkoooaldlaa.A
namespace Go.Proofs.Ytpkodkoooaldlaa.A
open Go Go.RowKit Go.Sort Go.Shelf
set_option linter.unusedVariables false
set_option linter.unusedSimpArgs false
theorem cmpI_neg (x y : Int) : cmpIT x y < 0 ↔ x < y := by unfold cmpIT; split <;> (try split) <;> omega
theorem cmpI_zero (x y : Int) : cmpIT x y = 0 ↔ x = y := by unfold cmpIT; split <;> (try split) <;> omega
theorem cmpI_pos (x y : Int) : 0 < cmpIT x y ↔ y < x := by unfold cmpIT; split <;> (try split) <;> omega
theorem orI_neg (x : Int) (r : List Int) : orI (x :: r) < 0 ↔ x < 0 ∨ (x = 0 ∧ orI r < 0) := by rw [orI]; split <;> omega
theorem orI_pos (x : Int) (r : List Int) : 0 < orI (x :: r) ↔ 0 < x ∨ (x = 0 ∧ 0 < orI r) := by rw [orI]; split <;> omega
theorem orI_zero (x : Int) (r : List Int) : orI (x :: r) = 0 ↔ x = 0 ∧ orI r = 0 := by rw [orI]; split <;> omega
theorem Sp.lt_iff (a b : Sp) : a.lt b ↔ a.br < b.br ∨ (a.br = b.br ∧ (a.vo < b.vo ∨ (a.vo = b.vo ∧ (a.bl < b.bl ∨ (a.bl = b.bl ∧ a.nu < b.nu))))) := by
  unfold Sp.lt Sp.ord
  rw [orI_neg, orI_neg, orI_neg, orI_neg, cmpI_neg, cmpI_neg, cmpI_neg, cmpI_neg, cmpI_zero, cmpI_zero, cmpI_zero]
  simp [orI]
theorem Sp.ord_zero (a b : Sp) : a.ord b = 0 ↔ a = b := by
  have : a = b ↔ a.br = b.br ∧ a.vo = b.vo ∧ a.bl = b.bl ∧ a.nu = b.nu := by
    constructor
    · rintro rfl; simp
    · rintro ⟨h1, h2, h3, h4⟩; cases a; cases b; simp_all
  rw [this]
  unfold Sp.ord
  rw [orI_zero, orI_zero, orI_zero, orI_zero, cmpI_zero, cmpI_zero, cmpI_zero, cmpI_zero]
  simp [orI]
theorem Sp.ord_neg (a b : Sp) : a.ord b < 0 ↔ a.lt b := Iff.rfl
theorem Sp.ord_pos (a b : Sp) : 0 < a.ord b ↔ b.lt a := by
  rw [Sp.lt_iff]
  unfold Sp.ord
  rw [orI_pos, orI_pos, orI_pos, orI_pos, cmpI_pos, cmpI_pos, cmpI_pos, cmpI_pos, cmpI_zero, cmpI_zero, cmpI_zero]
  simp [orI]
  omega
theorem Sp.ext' {a b : Sp} (h1 : a.br = b.br) (h2 : a.vo = b.vo) (h3 : a.bl = b.bl) (h4 : a.nu = b.nu) : a = b := by cases a; cases b; simp_all
theorem Sp.irrefl (a : Sp) : ¬ a.lt a := by rw [Sp.lt_iff]; omega
theorem Sp.trans {a b c : Sp} (h1 : a.lt b) (h2 : b.lt c) : a.lt c := by rw [Sp.lt_iff] at *; omega
theorem Sp.asym {a b : Sp} (h1 : a.lt b) : ¬ b.lt a := by rw [Sp.lt_iff] at *; omega
theorem Sp.tri {a b : Sp} (h1 : ¬ a.lt b) (h2 : ¬ b.lt a) : a = b := by
  rw [Sp.lt_iff] at *
  exact Sp.ext' (by omega) (by omega) (by omega) (by omega)
theorem Sp.ne {a b : Sp} (h : a.lt b) : a ≠ b := fun e => by subst e; exact Sp.irrefl a h
def Sp.vs (s : Sp) : List Value := [.int .i64 s.br, .int .i64 s.vo, .int .i64 s.bl, .int .u64 s.nu]
def En.vs (e : En) : List Value := e.k.vs ++ [.int .u64 e.v, .bool e.c]
theorem encT_one : ∀ (t : TreeV), [encT t].all AV.one = true
  | none => rfl
  | some (_, _) => rfl
theorem encT_cells : ∀ (t : TreeV), (encT t).cells = [encT t]
  | none => rfl
  | some (_, _) => rfl
end Go.Proofs.Ytpkodkoooaldlaa.A
namespace Go.Proofs.Ytpkodkoooaldlaa.A
open Go Go.RowKit
set_option linter.unusedVariables false
set_option linter.unusedSimpArgs false
abbrev It := Sp × Int
def refPutGo (k : Sp) (v : Int) : Bool → List It → List It
  | d, [] => if d then [] else [(k, v)]
  | d, x :: r => if x.1 = k then (k, v) :: refPutGo k v true r else if d = false ∧ k.lt x.1 then (k, v) :: x :: refPutGo k v true r else x :: refPutGo k v d r
def refPut (l : List It) (k : Sp) (v : Int) : List It := refPutGo k v false l
def refDel (l : List It) (k : Sp) : List It := l.filter (fun x => decide (x.1 ≠ k))
theorem drop_get {α : Type} {l : List α} {i : Nat} {x : α} (h : l[i]? = some x) : l.drop i = x :: l.drop (i + 1) := by
  obtain ⟨h1, h2⟩ := List.getElem?_eq_some_iff.1 h
  rw [List.drop_eq_getElem_cons h1, h2]
theorem refPut_len (l : List It) (k : Sp) (v : Int) : (refPut l k v).length ≤ l.length + 1 := by
  have : ∀ (l : List It) (d : Bool), (refPutGo k v d l).length ≤ l.length + (if d then 0 else 1) := by
    intro l
    induction l with
    | nil => intro d; unfold refPutGo; split <;> simp [*]
    | cons x r ih =>
      intro d
      unfold refPutGo
      have h1 := ih true
      have h2 := ih d
      split
      · cases d <;> simp at * <;> omega
      · split
        · rename_i h; cases d <;> simp at * <;> omega
        · cases d <;> simp at * <;> omega
  exact this l false
end Go.Proofs.Ytpkodkoooaldlaa.A
namespace Go.Proofs.Ytpkodkoooaldlaa.A
open Go Go.RowKit
set_option linter.unusedVariables false
set_option linter.unusedSimpArgs false
def Srt (l : List It) : Prop := l.Pairwise (fun x y => x.1.lt y.1)
instance (a b : Sp) : Decidable (a.lt b) := inferInstance
def canP (l : List It) (k : Sp) (v : Int) : List It := l.filter (fun x => decide (x.1.lt k)) ++ (k, v) :: l.filter (fun x => decide (k.lt x.1))
def look (l : List It) (k : Sp) : Option Int := (l.find? (fun x => decide (x.1 = k))).map (fun x => x.2)
def flat : (h : Nat) → List (Ct h) → List It
  | 0, l => l
  | h + 1, l => List.flatMap (fun n : Nd h => flat h n.2) l
def flatK {h : Nat} (l : List (Nd h)) : List It := l.flatMap (fun n => flat h n.2)
theorem flatK_app {h : Nat} (l m : List (Nd h)) : flatK (l ++ m) = flatK l ++ flatK m := by simp [flatK]
theorem flatK_split {h : Nat} {l : List (Nd h)} {i : Nat} {x : Nd h} (hx : l[i]? = some x) : flatK l = flatK (l.take i) ++ flat h x.2 ++ flatK (l.drop (i + 1)) := by
  conv => lhs; rw [← List.take_append_drop i l, drop_get hx]
  rw [flatK_app]
  simp [flatK]
theorem allk {l : List It} {p : It → Bool} (h : ∀ x ∈ l, p x = true) : l.filter p = l := List.filter_eq_self.2 h
theorem nonek {l : List It} {p : It → Bool} (h : ∀ x ∈ l, p x = false) : l.filter p = [] := List.filter_eq_nil_iff.2 (fun x hx => by rw [h x hx]; decide)
theorem canP_mid {A M B : List It} {k : Sp} {v : Int} (hA : ∀ x ∈ A, x.1.lt k) (hB : ∀ x ∈ B, k.lt x.1) : canP (A ++ M ++ B) k v = A ++ canP M k v ++ B := by
  unfold canP
  simp only [List.filter_append]
  rw [allk (l := A) (fun x hx => decide_eq_true (hA x hx)), nonek (l := B) (fun x hx => decide_eq_false (Sp.asym (hB x hx))), nonek (l := A) (fun x hx => decide_eq_false (Sp.asym (hA x hx))), allk (l := B) (fun x hx => decide_eq_true (hB x hx))]
  simp
theorem refDel_mid {A M B : List It} {k : Sp} (hA : ∀ x ∈ A, x.1.lt k) (hB : ∀ x ∈ B, k.lt x.1) : refDel (A ++ M ++ B) k = A ++ refDel M k ++ B := by
  unfold refDel
  simp only [List.filter_append]
  rw [allk (l := A) (fun x hx => decide_eq_true (Sp.ne (hA x hx))), allk (l := B) (fun x hx => decide_eq_true (Sp.ne (hB x hx)).symm)]
theorem look_none {l : List It} {k : Sp} (h : ∀ x ∈ l, x.1 ≠ k) : look l k = none := by
  unfold look
  rw [List.find?_eq_none.2 (fun x hx => by simpa using h x hx)]; rfl
theorem look_app {l m : List It} {k : Sp} (h : ∀ x ∈ l, x.1 ≠ k) : look (l ++ m) k = look m k := by
  unfold look
  rw [List.find?_append, List.find?_eq_none.2 (fun x hx => by simpa using h x hx)]; rfl
theorem look_app' {l m : List It} {k : Sp} (h : ∀ x ∈ m, x.1 ≠ k) : look (l ++ m) k = look l k := by
  unfold look
  have hm : m.find? (fun x => decide (x.1 = k)) = none := List.find?_eq_none.2 (fun x hx => by simpa using h x hx)
  rw [List.find?_append, hm]; simp
theorem look_mid {A M B : List It} {k : Sp} (hA : ∀ x ∈ A, x.1.lt k) (hB : ∀ x ∈ B, k.lt x.1) : look (A ++ M ++ B) k = look M k := by
  rw [look_app' (fun x hx => (Sp.ne (hB x hx)).symm), look_app (fun x hx => Sp.ne (hA x hx))]
theorem look_some {l : List It} {k : Sp} {v : Int} (h : look l k = some v) : (k, v) ∈ l := by
  unfold look at h
  cases hf : l.find? (fun x => decide (x.1 = k)) with
  | none => rw [hf] at h; cases h
  | some x =>
    rw [hf] at h
    have h1 := List.find?_some hf
    have h2 := List.mem_of_find?_eq_some hf
    simp at h1 h
    subst h1 h
    exact h2
theorem srt_key {l : List It} (hs : Srt l) {x y : It} (hx : x ∈ l) (hy : y ∈ l) (h : x.1 = y.1) : x = y := by
  induction l with
  | nil => cases hx
  | cons z r ih =>
    obtain ⟨h1, h2⟩ := List.pairwise_cons.1 hs
    rcases List.mem_cons.1 hx with hx' | hx'
    · rcases List.mem_cons.1 hy with hy' | hy'
      · rw [hx', hy']
      · exact absurd (by rw [← hx', h]) (Sp.ne (h1 y hy'))
    · rcases List.mem_cons.1 hy with hy' | hy'
      · exact absurd (by rw [← hy', h]) (Sp.ne (h1 x hx'))
      · exact ih h2 hx' hy'
theorem look_mem {l : List It} (hs : Srt l) {k : Sp} {v : Int} (h : (k, v) ∈ l) : look l k = some v := by
  unfold look
  cases hf : l.find? (fun x => decide (x.1 = k)) with
  | none => have := List.find?_eq_none.1 hf _ h; simp at this
  | some x =>
    have h1 := List.find?_some hf
    have h2 := List.mem_of_find?_eq_some hf
    simp at h1
    have := srt_key hs h2 h h1
    rw [this]; rfl
theorem srt_put {l : List It} (hs : Srt l) (k : Sp) (v : Int) : refPut l k v = canP l k v ∧ putL k v l = canP l k v := by
  have done : ∀ r : List It, (∀ x ∈ r, k.lt x.1) → refPutGo k v true r = r := by
    intro r
    induction r with
    | nil => intro _; rfl
    | cons x r ih =>
      intro h
      unfold refPutGo
      rw [if_neg (fun e => Sp.irrefl k (by have := h x List.mem_cons_self; rw [e] at this; exact this)), if_neg (by simp), ih (fun y hy => h y (List.mem_cons_of_mem _ hy))]
  induction l with
  | nil => exact ⟨rfl, rfl⟩
  | cons x r ih =>
    obtain ⟨h1, h2⟩ := List.pairwise_cons.1 hs
    obtain ⟨ih1, ih2⟩ := ih h2
    by_cases e : x.1 = k
    · have hr : ∀ y ∈ r, k.lt y.1 := fun y hy => by rw [← e]; exact h1 y hy
      have hc : canP (x :: r) k v = (k, v) :: r := by
        unfold canP
        rw [List.filter_cons, if_neg (by rw [e]; simpa using Sp.irrefl k), List.filter_cons, if_neg (by rw [e]; simpa using Sp.irrefl k), nonek (fun y hy => decide_eq_false (Sp.asym (hr y hy))), allk (fun y hy => decide_eq_true (hr y hy))]
        rfl
      have ho : x.1.ord k = 0 := (Sp.ord_zero _ _).2 e
      constructor
      · rw [hc]; unfold refPut refPutGo; rw [if_pos e, done r hr]
      · rw [hc]
        have hf : findL k ((x :: r).map fun p => p.1) = (0, true) := by simp [findL, ho]
        unfold putL
        rw [hf]
        simp [e]
    · by_cases hk : k.lt x.1
      · have hr : ∀ y ∈ x :: r, k.lt y.1 := fun y hy => by
          rcases List.mem_cons.1 hy with rfl | hy
          · exact hk
          · exact Sp.trans hk (h1 y hy)
        have hc : canP (x :: r) k v = (k, v) :: x :: r := by
          unfold canP
          rw [nonek (fun y hy => decide_eq_false (Sp.asym (hr y hy))), allk (fun y hy => decide_eq_true (hr y hy))]
          rfl
        have ho : 0 < x.1.ord k := (Sp.ord_pos _ _).2 hk
        constructor
        · rw [hc]; unfold refPut refPutGo; rw [if_neg e, if_pos ⟨rfl, hk⟩, done r (fun y hy => hr y (List.mem_cons_of_mem _ hy))]
        · rw [hc]; unfold putL
          have h0 : 0 ≤ x.1.ord k := by omega
          have h3 : ¬ x.1.ord k = 0 := by omega
          simp [findL, h0, h3]
      · have hx : x.1.lt k := by
          by_cases h : x.1.lt k
          · exact h
          · exact absurd (Sp.tri h hk) e
        have hc : canP (x :: r) k v = x :: canP r k v := by
          unfold canP
          rw [List.filter_cons, if_pos (decide_eq_true hx), List.filter_cons, if_neg (by simpa using hk)]
          rfl
        have ho : ¬ 0 ≤ x.1.ord k := by have := (Sp.ord_neg _ _).2 hx; omega
        constructor
        · rw [hc, ← ih1]; unfold refPut; conv => lhs; unfold refPutGo
          rw [if_neg e, if_neg (fun h => hk h.2)]
        · rw [hc, ← ih2]; unfold putL
          simp only [List.map_cons, findL, ho, if_false]
          split
          · simp
          · simp
theorem findL_srt {l : List It} (hs : Srt l) (k : Sp) : ((findL k (l.map fun p => p.1)).2 = true → l.eraseIdx (findL k (l.map fun p => p.1)).1 = refDel l k ∧ ∃ v, l[(findL k (l.map fun p => p.1)).1]? = some (k, v)) ∧ ((findL k (l.map fun p => p.1)).2 = false → ∀ x ∈ l, x.1 ≠ k) := by
  induction l with
  | nil => exact ⟨fun h => (by simp [findL] at h), fun _ x hx => (by cases hx)⟩
  | cons x r ih =>
    obtain ⟨h1, h2⟩ := List.pairwise_cons.1 hs
    obtain ⟨ih1, ih2⟩ := ih h2
    by_cases h0 : 0 ≤ x.1.ord k
    · have hf : findL k ((x :: r).map fun p => p.1) = (0, decide (x.1.ord k = 0)) := by simp [findL, h0]
      rw [hf]
      refine ⟨fun h => ?_, fun h => ?_⟩
      · have e : x.1 = k := (Sp.ord_zero _ _).1 (of_decide_eq_true h)
        refine ⟨?_, x.2, by rw [← e]; rfl⟩
        unfold refDel
        rw [List.filter_cons, if_neg (by simpa using e)]
        exact (allk (fun y hy => decide_eq_true (by rw [← e]; exact (Sp.ne (h1 y hy)).symm))).symm
      · have e : ¬ x.1.ord k = 0 := of_decide_eq_false h
        have hk : k.lt x.1 := (Sp.ord_pos _ _).1 (by omega)
        intro y hy
        rcases List.mem_cons.1 hy with rfl | hy
        · exact (Sp.ne hk).symm
        · exact (Sp.ne (Sp.trans hk (h1 y hy))).symm
    · have hf : findL k ((x :: r).map fun p => p.1) = ((findL k (r.map fun p => p.1)).1 + 1, (findL k (r.map fun p => p.1)).2) := by simp [findL, h0]
      rw [hf]
      have hx : x.1.lt k := (Sp.ord_neg _ _).1 (by omega)
      refine ⟨fun h => ?_, fun h y hy => ?_⟩
      · obtain ⟨e1, v, e2⟩ := ih1 h
        refine ⟨?_, v, by simpa using e2⟩
        show (x :: r).eraseIdx ((findL k (r.map fun p => p.1)).1 + 1) = _
        rw [List.eraseIdx_cons_succ, e1]
        unfold refDel
        rw [List.filter_cons, if_pos (decide_eq_true (Sp.ne hx))]
      · rcases List.mem_cons.1 hy with rfl | hy
        · exact Sp.ne hx
        · exact ih2 h y hy
theorem getL_look {l : List It} (hs : Srt l) (k : Sp) : getL k l = look l k := by
  obtain ⟨h1, h2⟩ := findL_srt hs k
  unfold getL
  split
  · rename_i h
    obtain ⟨_, v, hv⟩ := h1 h
    rw [hv, look_mem hs (List.mem_of_getElem? hv)]; rfl
  · rename_i h
    rw [look_none (h2 (by simpa using h))]
theorem findR_spec {k : Sp} {l : List Sp} : ∀ {n : Nat}, n ≤ l.length → (∀ j x, (findR k l n).1 < j → j < n → l[j]? = some x → k.lt x) ∧ (0 < (findR k l n).1 → ∃ x, l[(findR k l n).1]? = some x ∧ ¬ k.lt x)
  | 0, _ => ⟨fun j x _ h => by omega, fun h => absurd h (Nat.lt_irrefl 0)⟩
  | n + 1, hn => by
    obtain ⟨x, hx⟩ := get_lt (l := l) (i := n) (by omega)
    by_cases h0 : x.ord k ≤ 0
    · rw [findR_hit hx h0]
      refine ⟨fun j y h1 h2 => by simp at h1; omega, fun _ => ⟨x, hx, fun h => ?_⟩⟩
      have := (Sp.ord_pos x k).2 h; omega
    · rw [findR_step hx h0]
      obtain ⟨i1, i2⟩ := findR_spec (k := k) (l := l) (n := n) (by omega)
      refine ⟨fun j y h1 h2 hy => ?_, i2⟩
      by_cases hj : j = n
      · subst hj; rw [hx] at hy; cases hy; exact (Sp.ord_pos _ _).1 (by omega)
      · exact i1 j y h1 (by omega) hy
theorem head_flat : ∀ (h : Nat) (l : List (Ct h)) {lo : Nat}, 1 ≤ lo → wfC lo h l → ∃ x r, flat h l = x :: r ∧ (keysOf h l).headD Sp.z = x.1
  | 0, l, lo, hl, hw => by
    have h1 : 1 ≤ l.length := Nat.le_trans hl hw.1
    cases l with
    | nil => simp at h1
    | cons x r => exact ⟨x, r, rfl, rfl⟩
  | h + 1, l, lo, hl, hw => by
    have h1 : 1 ≤ List.length (α := Nd h) l := Nat.le_trans hl hw.1
    match l, h1, hw with
    | (x :: r : List (Nd h)), _, hw =>
      obtain ⟨y, s, h2, h3⟩ := head_flat h x.2 (Nat.le_succ 1) (hw.2.2 x List.mem_cons_self)
      refine ⟨y, s ++ flatK r, ?_, ?_⟩
      · show flat h x.2 ++ _ = _
        rw [h2]; rfl
      · show (keysOf h x.2).headD Sp.z = _
        exact h3
theorem flatK_mem {h : Nat} {l : List (Nd h)} {x : It} (hx : x ∈ flatK l) : ∃ (i : Nat) (n : Nd h), l[i]? = some n ∧ x ∈ flat h n.2 := by
  obtain ⟨n, hn, hxn⟩ := List.mem_flatMap.1 (show x ∈ l.flatMap (fun n : Nd h => flat h n.2) from hx)
  obtain ⟨i, hi⟩ := List.getElem?_of_mem hn
  exact ⟨i, n, hi, hxn⟩
theorem kks_get {h : Nat} {l : List (Nd h)} {i : Nat} {n : Nd h} (hn : l[i]? = some n) : (kksOf h l)[i]? = some ((keysOf h n.2).headD Sp.z) := by
  show (List.map (fun n : Nd h => (keysOf h n.2).headD Sp.z) l)[i]? = _
  rw [get_map hn]
theorem way_spec {h : Nat} {l : List (Nd h)} (hw : ∀ n ∈ l, wfC 1 h n.2) (hs : Srt (flatK l)) {k : Sp} {kid : Nd h} (hk : l[wayI h k l]? = some kid) :
    flatK l = flatK (l.take (wayI h k l)) ++ flat h kid.2 ++ flatK (l.drop (wayI h k l + 1)) ∧ (∀ x ∈ flatK (l.take (wayI h k l)), x.1.lt k) ∧ (∀ x ∈ flatK (l.drop (wayI h k l + 1)), k.lt x.1) := by
  have hsp := flatK_split hk
  obtain ⟨s1, s2⟩ := findR_spec (k := k) (l := kksOf h l) (n := (kksOf h l).length) (Nat.le_refl _)
  have hlen := kksOf_len h l
  rw [hsp] at hs
  refine ⟨hsp, fun x hx => ?_, fun x hx => ?_⟩
  · by_cases h0 : 0 < wayI h k l
    · obtain ⟨y, hy, hyk⟩ := s2 h0
      have hy' : (kksOf h l)[wayI h k l]? = some y := hy
      rw [kks_get hk] at hy'
      obtain ⟨z, r, h3, h4⟩ := head_flat h kid.2 (Nat.le_refl 1) (hw kid (List.mem_of_getElem? hk))
      rw [h4] at hy'
      cases hy'
      have hxz : x.1.lt z.1 := by
        have := (List.pairwise_append.1 (List.pairwise_append.1 hs).1).2.2 x hx z (by rw [h3]; exact List.mem_cons_self)
        exact this
      by_cases hzk : z.1.lt k
      · exact Sp.trans hxz hzk
      · rw [Sp.tri hzk hyk] at hxz; exact hxz
    · have h0' : wayI h k l = 0 := by omega
      rw [h0'] at hx
      simp [flatK] at hx
  · obtain ⟨j, n, hj, hxn⟩ := flatK_mem hx
    rw [List.getElem?_drop] at hj
    have hjl := (List.getElem?_eq_some_iff.1 hj).1
    obtain ⟨z, r, h3, h4⟩ := head_flat h n.2 (Nat.le_refl 1) (hw n (List.mem_of_getElem? hj))
    have hlt := s1 (wayI h k l + 1 + j) z.1 (by show wayI h k l < _; omega) (by rw [hlen]; exact hjl) (by rw [kks_get hj, h4])
    have hz : z = x ∨ z.1.lt x.1 := by
      rw [h3] at hxn
      rcases List.mem_cons.1 hxn with rfl | hxr
      · exact .inl rfl
      · right
        have hsub : Srt (flat h n.2) := by
          have h5 : n ∈ l.drop (wayI h k l + 1) := List.mem_of_getElem? (by rw [List.getElem?_drop]; exact hj)
          have h6 : Srt (flatK (l.drop (wayI h k l + 1))) := (List.pairwise_append.1 hs).2.1
          obtain ⟨A, B, hAB⟩ := List.append_of_mem h5
          rw [hAB] at h6
          have : flatK (A ++ n :: B) = flatK A ++ (flat h n.2 ++ flatK B) := by simp [flatK]
          rw [this] at h6
          exact (List.pairwise_append.1 (List.pairwise_append.1 h6).2.1).1
        rw [h3] at hsub
        exact (List.pairwise_cons.1 hsub).1 x hxr
    rcases hz with rfl | hz
    · exact hlt
    · exact Sp.trans hlt hz
end Go.Proofs.Ytpkodkoooaldlaa.A
namespace Go.Proofs.Ytpkodkoooaldlaa.A
open Go Go.RowKit
set_option linter.unusedVariables false
set_option linter.unusedSimpArgs false
theorem flatK_of {h : Nat} {l : List (Nd (h + 1))} {L : List (Nd h)} (he : l.map kdsOf = halvesG L) : flatK l = flatK L := by
  have : flatK l = flatK (l.map kdsOf).flatten := by
    clear he
    induction l with
    | nil => rfl
    | cons x l ih =>
      show flat (h + 1) x.2 ++ flatK l = flatK ((kdsOf x) ++ (l.map kdsOf).flatten)
      rw [flatK_app, ← ih]; rfl
  rw [this, he, halvesG_flat]
theorem flatK_zero (l : List (Nd 0)) : flatK l = (l.map itsOf).flatten := by
  induction l with
  | nil => rfl
  | cons x l ih => show itsOf x ++ flatK l = _; rw [ih]; rfl
theorem wf_kids1 {lo h : Nat} {n : Nd (h + 1)} (hw : wfC lo (h + 1) n.2) : ∀ x ∈ kdsOf n, wfC 1 h x.2 := fun x hx => (hw.2.2 x hx).mono (by omega)
theorem srt_mid {A M B : List It} (h : Srt (A ++ M ++ B)) : Srt M := (List.pairwise_append.1 (List.pairwise_append.1 h).1).2.1
theorem putR_flat : ∀ (h : Nat) {lo : Nat} {n : Nd h} {k : Sp} {v : Int} {l : List (Nd h)}, wfC lo h n.2 → Srt (flat h n.2) → PutR h n k v l → flatK l = canP (flat h n.2) k v
  | 0, lo, n, k, v, l, _, hs, hr => by
    have hr' : l.map itsOf = halvesG (putL k v (itsOf n)) := hr
    rw [flatK_zero, hr', halvesG_flat]
    exact (srt_put (l := itsOf n) hs k v).2
  | h + 1, lo, n, k, v, l, hw, hs, ⟨kid, l', hk, hr', hr⟩ => by
    have hs' : Srt (flatK (kdsOf n)) := hs
    obtain ⟨w1, w2, w3⟩ := way_spec (wf_kids1 hw) hs' hk
    rw [flatK_of hr, flatK_app, flatK_app]
    show _ = canP (flatK (kdsOf n)) k v
    rw [w1] at hs'
    have ih := putR_flat h (hw.2.2 kid (List.mem_of_getElem? hk)) (srt_mid hs') hr'
    rw [ih]
    conv => rhs; rw [w1]
    rw [canP_mid w2 w3]
theorem flat_app : ∀ (h : Nat) (a b : List (Ct h)), flat h (a ++ b) = flat h a ++ flat h b
  | 0, _, _ => rfl
  | h + 1, a, b => flatK_app (h := h) a b
theorem flatK_map : ∀ {h : Nat} (l : List (Nd h)), flatK l = flat h (l.map (fun m => m.2)).flatten
  | h, [] => by cases h <;> rfl
  | h, x :: l => by
    show flat h x.2 ++ flatK l = flat h (x.2 ++ (l.map (fun m => m.2)).flatten)
    rw [flat_app, flatK_map l]
theorem joinR_flat {h : Nat} {a b : Nd h} {l : List (Nd h)} (hj : JoinR a b l) : flatK l = flat h a.2 ++ flat h b.2 := by
  have hj' : l.map (fun m => m.2) = halvesG (a.2 ++ b.2) := hj
  rw [flatK_map, hj', halvesG_flat, flat_app]
theorem flatK_two {h : Nat} {l : List (Nd h)} {j : Nat} {a b : Nd h} (ha : l[j]? = some a) (hb : l[j + 1]? = some b) : flatK l = flatK (l.take j) ++ (flat h a.2 ++ flat h b.2) ++ flatK (l.drop (j + 2)) := by
  rw [flatK_split ha]
  have : flatK (l.drop (j + 1)) = flat h b.2 ++ flatK (l.drop (j + 2)) := by rw [drop_get hb]; rfl
  rw [this]; simp
theorem fixR_flat {h : Nat} {l l' : List (Nd h)} {i : Nat} {c : Nd h} (hf : FixR l i c l') : flatK l' = flatK (l.set i c) := by
  unfold FixR at hf
  split at hf
  · obtain ⟨j, a, b, m, hj, ha, hb, hm, rfl⟩ := hf
    rw [flatK_app, flatK_app, joinR_flat hm, flatK_two ha hb]
  · rw [hf]
theorem refDel_none {l : List It} {k : Sp} (h : ∀ x ∈ l, x.1 ≠ k) : refDel l k = l := allk (fun x hx => decide_eq_true (h x hx))
theorem delR_flat : ∀ (h : Nat) {lo : Nat} {n : Nd h} {k : Sp} {r : Option (Nd h)}, wfC lo h n.2 → Srt (flat h n.2) → DelR h n k r → match r with
    | none => ∀ x ∈ flat h n.2, x.1 ≠ k
    | some c => flat h c.2 = refDel (flat h n.2) k ∧ ∃ v, (k, v) ∈ flat h n.2
  | 0, lo, n, k, r, _, hs, hd => by
    obtain ⟨f1, f2⟩ := findL_srt (l := itsOf n) hs k
    unfold DelR at hd
    split at hd
    · rename_i hh
      obtain ⟨b, rfl⟩ := hd
      obtain ⟨e1, v, e2⟩ := f1 hh
      exact ⟨e1, v, List.mem_of_getElem? e2⟩
    · rename_i hh
      subst hd
      exact f2 (by simpa using hh)
  | h + 1, lo, n, k, r, hw, hs, ⟨kid, r', hk, hd, hr⟩ => by
    have hs' : Srt (flatK (kdsOf n)) := hs
    obtain ⟨w1, w2, w3⟩ := way_spec (wf_kids1 hw) hs' hk
    have hs2 := hs'
    rw [w1] at hs2
    have ih := delR_flat h (hw.2.2 kid (List.mem_of_getElem? hk)) (srt_mid hs2) hd
    cases r' with
    | none =>
      simp only at hr; subst hr
      show ∀ x ∈ flatK (kdsOf n), x.1 ≠ k
      rw [w1]
      intro x hx
      rcases List.mem_append.1 hx with hx | hx
      · rcases List.mem_append.1 hx with hx | hx
        · exact Sp.ne (w2 x hx)
        · exact ih x hx
      · exact (Sp.ne (w3 x hx)).symm
    | some c =>
      obtain ⟨b, l', hf, rfl⟩ := hr
      obtain ⟨i1, v, i2⟩ := ih
      have hlt := (List.getElem?_eq_some_iff.1 hk).1
      refine ⟨?_, v, ?_⟩
      · show flatK l' = refDel (flatK (kdsOf n)) k
        have hset : ((kdsOf n).set (wayI h k (kdsOf n)) c)[wayI h k (kdsOf n)]? = some c := by rw [List.getElem?_set]; simp [hlt]
        rw [fixR_flat hf, flatK_split hset, List.take_set_of_le (Nat.le_refl _), List.drop_set_of_lt (Nat.lt_succ_self _), i1]
        conv => rhs; rw [w1]
        rw [refDel_mid w2 w3]
      · show (k, v) ∈ flatK (kdsOf n)
        rw [w1]
        exact List.mem_append.2 (.inl (List.mem_append.2 (.inr i2)))
theorem leafAt_look : ∀ (h : Nat) {lo : Nat} {n : Nd h} {k : Sp}, wfC lo h n.2 → 1 ≤ lo → Srt (flat h n.2) → getL k (leafAt h n k) = look (flat h n.2) k
  | 0, lo, n, k, _, _, hs => getL_look (l := itsOf n) hs k
  | h + 1, lo, n, k, hw, hlo, hs => by
    have hs' : Srt (flatK (kdsOf n)) := hs
    have h0 : 0 < (kdsOf n).length := Nat.lt_of_lt_of_le hlo hw.1
    obtain ⟨kid, hk⟩ : ∃ kid, (kdsOf n)[wayI h k (kdsOf n)]? = some kid := get_lt (wayI_lt h0)
    obtain ⟨w1, w2, w3⟩ := way_spec (wf_kids1 hw) hs' hk
    have hs2 := hs'
    rw [w1] at hs2
    rw [leafAt_ok hk, leafAt_look h (hw.2.2 kid (List.mem_of_getElem? hk)) (by omega) (srt_mid hs2)]
    show _ = look (flatK (kdsOf n)) k
    rw [w1, look_mid w2 w3]
def flatR : Rt → List It
  | none => []
  | some ⟨h, n⟩ => flat h n.2
structure GoodT (t : TreeV) (x : List It) : Prop where
  wf : wfRt (rootT t)
  fl : flatR (rootT t) = x
  st : Srt x
  ln : lenT t = (x.length : Int)
theorem srt_canP {l : List It} (hs : Srt l) (k : Sp) (v : Int) : Srt (canP l k v) := by
  unfold canP
  refine List.pairwise_append.2 ⟨hs.filter _, List.pairwise_cons.2 ⟨fun x hx => of_decide_eq_true (List.mem_filter.1 hx).2, hs.filter _⟩, fun x hx y hy => ?_⟩
  have h1 : x.1.lt k := of_decide_eq_true (List.mem_filter.1 hx).2
  rcases List.mem_cons.1 hy with rfl | hy
  · exact h1
  · exact Sp.trans h1 (of_decide_eq_true (List.mem_filter.1 hy).2)
theorem canP_len {l : List It} (hs : Srt l) (k : Sp) (v : Int) : (canP l k v).length = l.length + (if (look l k).isSome then 0 else 1) := by
  rw [← (srt_put hs k v).2]
  have hg := getL_look hs k
  unfold getL at hg
  unfold putL
  simp only
  split
  · rename_i hh
    rw [if_pos hh] at hg
    obtain ⟨_, w, hw⟩ := (findL_srt hs k).1 hh
    rw [hw] at hg
    rw [← hg]; simp
  · rename_i hh
    rw [if_neg hh] at hg
    have := findL_le (k := k) (l := l.map fun p => p.1)
    rw [List.length_map] at this
    rw [← hg]
    simp; omega
theorem refDel_len {l : List It} (hs : Srt l) {k : Sp} {v : Int} (h : (k, v) ∈ l) : (refDel l k).length + 1 = l.length := by
  cases hh : (findL k (l.map fun p => p.1)).2 with
  | false => exact absurd rfl ((findL_srt hs k).2 hh _ h)
  | true =>
    rw [← ((findL_srt hs k).1 hh).1]
    have h1 := findL_had hh
    rw [List.length_map] at h1
    rw [List.length_eraseIdx_of_lt h1]; omega
theorem rootOf_flat : ∀ (h : Nat) (c : Nd h), flatR (rootOf h c) = flat h c.2
  | 0, c => by
    unfold rootOf
    split
    · rename_i he
      have : itsOf c = [] := by simpa using he
      exact this.symm
    · rfl
  | h + 1, c => by
    unfold rootOf
    split
    · rename_i x hx
      rw [rootOf_flat h x]
      show _ = flatK (kdsOf c)
      rw [hx]; simp [flatK]
    · rfl
theorem good_get {t : TreeV} {x : List It} (h : GoodT t x) (k : Sp) : getR (rootT t) k = look x k := by
  have h1 := h.wf; have h2 := h.fl; have h3 := h.st
  cases hr : rootT t with
  | none => rw [hr] at h2; rw [← h2]; rfl
  | some s =>
    obtain ⟨q, n⟩ := s
    rw [hr] at h1 h2
    rw [← h2] at h3 ⊢
    exact leafAt_look q h1.1 (Nat.le_refl 1) h3
theorem good_put {t t' : TreeV} {x : List It} {k : Sp} {v : Int} (h : GoodT t x) (hp : PutT t k v t') : GoodT t' (refPut x k v) := by
  have hg := good_get h k
  have hwf := putT_wf h.wf hp
  have hx := (srt_put h.st k v).1
  have hlen : (refPut x k v).length = x.length + (if (look x k).isSome then 0 else 1) := by rw [hx]; exact canP_len h.st k v
  obtain ⟨r', rfl, hc⟩ := hp
  have hfl : flatR r' = refPut x k v := by
    have h2 := h.fl; have h1 := h.wf; have h3 := h.st
    rw [hx]
    cases hr : rootT t with
    | none =>
      rw [hr] at hc h2
      obtain ⟨b, rfl⟩ := hc
      rw [← h2]; rfl
    | some s =>
      obtain ⟨q, n⟩ := s
      rw [hr] at hc h2 h1
      rw [← h2] at h3 ⊢
      obtain ⟨l, hl, hcc⟩ := hc
      have hf := putR_flat q h1.1 h3 hl
      rcases hcc with ⟨y, rfl, rfl⟩ | ⟨_, b, rfl⟩
      · show flat q y.2 = _
        rw [show flat q y.2 = flatK [y] by simp [flatK]]
        exact hf
      · exact hf
  refine ⟨hwf, hfl, by rw [hx]; exact srt_canP h.st k v, ?_⟩
  show lenT t + (if (getR (rootT t) k).isSome then 0 else 1) = _
  rw [hlen, hg, h.ln]
  split <;> simp
theorem good_del {t t' : TreeV} {x : List It} {k : Sp} (h : GoodT t x) (hd : DelT t k t') : GoodT t' (refDel x k) := by
  have h1 := h.wf; have h2 := h.fl; have h3 := h.st; have h4 := h.ln
  have hwf := delT_wf h1 hd
  unfold DelT at hd
  cases hr : rootT t with
  | none =>
    rw [hr] at hd h2
    simp only at hd
    subst hd
    have : x = [] := h2.symm
    subst this
    exact ⟨hwf, by rw [hr]; rfl, h3, h4⟩
  | some s =>
    obtain ⟨q, n⟩ := s
    rw [hr] at hd h1 h2
    rw [← h2] at h3
    obtain ⟨cr, hc, hm⟩ := hd
    have hf := delR_flat q h1.1 h3 hc
    cases cr with
    | none =>
      simp only at hm hf
      subst hm
      rw [refDel_none (by rw [← h2]; exact hf)]
      exact h
    | some c =>
      simp only at hm hf
      subst hm
      obtain ⟨f1, v, f2⟩ := hf
      refine ⟨hwf, ?_, (h.st).filter _, ?_⟩
      · show flatR (rootOf q c) = _
        rw [rootOf_flat, f1, ← h2]; rfl
      · show lenT t - 1 = _
        have := refDel_len (l := flat q n.2) h3 f2
        rw [← h2] at h4 ⊢
        show lenT t - 1 = ((refDel (flat q n.2) k).length : Int)
        rw [h4]
        show ((flat q n.2).length : Int) - 1 = ((refDel (flat q n.2) k).length : Int)
        omega
theorem good_new : GoodT (some (none, 0)) [] := ⟨trivial, rfl, List.Pairwise.nil, rfl⟩
end Go.Proofs.Ytpkodkoooaldlaa.A
namespace Go.Proofs.Ytpkodkoooaldlaa.A
open Go Go.RowKit Go.Sort Go.Shelf
set_option linter.unusedVariables false
set_option linter.unusedSimpArgs false
def Coh (a b : TreeV) : Prop := ∀ s ∈ subT a ++ subT b, ∀ s' ∈ subT a ++ subT b, sid s = sid s' → s = s'
theorem Coh.symm {a b : TreeV} (h : Coh a b) : Coh b a := fun s hs s' hs' => h s (by rw [List.mem_append] at *; exact hs.symm) s' (by rw [List.mem_append] at *; exact hs'.symm)
def Own1 (t : TreeV) : Prop := ∀ s ∈ subT t, ∀ s' ∈ subT t, sid s = sid s' → s = s'
theorem Coh.own {a b : TreeV} (h : Coh a b) : Own1 a := fun s hs s' hs' => h s (List.mem_append.2 (.inl hs)) s' (List.mem_append.2 (.inl hs'))
end Go.Proofs.Ytpkodkoooaldlaa.A
namespace Go.Proofs.Ytpkodkoooaldlaa.A
open Go Go.RowKit
set_option linter.unusedVariables false
set_option linter.unusedSimpArgs false
structure Ac where
  del : Bool
  k : Sp
  v : Int
  deriving Inhabited
def Ac.cs (a : Ac) : List AV := [.v (.bool a.del)] ++ a.k.cs ++ [.v (.int .u64 a.v)]
theorem good_len {t : TreeV} {x : List It} (h : GoodT t x) (hx : x.length ≤ 1000) : 0 ≤ lenT t ∧ lenT t ≤ 1000000 := by rw [h.ln]; omega
end Go.Proofs.Ytpkodkoooaldlaa.A
namespace Go.Proofs.Ytpkodkoooaldlaa.A
open Go Go.RowKit
set_option linter.unusedVariables false
set_option linter.unusedSimpArgs false
theorem put_mem {l : List It} (hs : Srt l) {k : Sp} {v : Int} {x : It} : x ∈ refPut l k v ↔ x = (k, v) ∨ (x ∈ l ∧ x.1 ≠ k) := by
  rw [(srt_put hs k v).1]
  unfold canP
  simp only [List.mem_append, List.mem_cons, List.mem_filter, decide_eq_true_eq]
  constructor
  · rintro (⟨h1, h2⟩ | h | ⟨h1, h2⟩)
    · exact .inr ⟨h1, Sp.ne h2⟩
    · exact .inl h
    · exact .inr ⟨h1, fun e => Sp.ne h2 e.symm⟩
  · rintro (h | ⟨h1, h2⟩)
    · exact .inr (.inl h)
    · by_cases h3 : x.1.lt k
      · exact .inl ⟨h1, h3⟩
      · by_cases h4 : k.lt x.1
        · exact .inr (.inr ⟨h1, h4⟩)
        · exact absurd (Sp.tri h3 h4) h2
theorem srt_put' {l : List It} (hs : Srt l) (k : Sp) (v : Int) : Srt (refPut l k v) := by rw [(srt_put hs k v).1]; exact srt_canP hs k v
section
variable {P : Program} {w0 : Base} {C0 C : CS} {T : TS} {S S' : AState} {a : Act} {w : World} {ops : Array Oper} {rest : List Oper} {o : Oper} {Q : Exit → AState → Prop}
variable {t : Nat} {ty ty' : TypeId} {pos : String} {aft : Array Edge}
theorem r_storeT (i : Nat) {x y : Operand} {b : Nat} {c : AV} {tv : TreeV} (hx : S.ev x = some (.a (.v (.pointer (some ⟨b, 0, none⟩))))) (hi : S.objs[i]? = some ⟨b, true, .box [c]⟩) (hy : S.ev y = some (.a (encT tv))) (hn : szT P ty' = some 1)
    (hr : AWL P w0 C0 ops rest Q ⟨S.nt, S.slots, S.objs.set i ⟨b, true, .box [encT tv]⟩⟩) :
    AWL P w0 C0 ops (⟨none, .store ty' x y, ty, pos, aft, none⟩ :: rest) Q S := by
  have e : (SV.a (encT tv)).av.cells = [encT tv] := encT_cells tv
  refine r_store i hx hi hy hn (by rw [e]; rfl) rfl (by rw [e]; exact encT_one tv) ?_
  rw [e]; exact hr
end
end Go.Proofs.Ytpkodkoooaldlaa.A
namespace Go.Proofs.Ytpkodkoooaldlaa.A
open Go Go.RowKit
set_option linter.unusedVariables false
set_option linter.unusedSimpArgs false
set_option linter.unusedSectionVars false
variable {P : Program} {w0 : Base} {C0 C : CS} {T : TS} {S S' : AState} {a : Act} {w : World} {ops : Array Oper} {rest : List Oper} {o : Oper} {Q : Exit → AState → Prop}
variable {t : Nat} {ty ty' : TypeId} {pos : String} {aft : Array Edge} {rn : Option Nat}
theorem gi_run {d : Option Nat} {op : Op} {j t' : Nat} {want b : Bool} (hj : (ops[j]?).bind (·.dst) = some t') (hs : S.get t' = some (.a (.v (.bool b)))) (hb : b = want)
    (h : AWLI rn P w0 C0 ops (⟨d, op, ty, pos, aft, none⟩ :: rest) Q S) : AWLI rn P w0 C0 ops (⟨d, op, ty, pos, aft, some (j, want)⟩ :: rest) Q S := by
  rintro a w ⟨C, T, hs'⟩
  have hy := yielded_of hs' hj hs
  have := h a w ⟨C, T, hs'⟩
  unfold wpListIn at this ⊢
  have e1 : Region.wanted (⟨d, op, ty, pos, aft, none⟩ : Oper) (yielded ops a.tmps) = true := rfl
  have e2 : Region.wanted (⟨d, op, ty, pos, aft, some (j, want)⟩ : Oper) (yielded ops a.tmps) = true := by simp [Region.wanted, hy, hb]
  rw [if_pos e1] at this
  rw [if_pos e2]
  exact this
theorem gi_skip {t : Nat} {op : Op} {j t' : Nat} {want b : Bool} (hj : (ops[j]?).bind (·.dst) = some t') (hs : S.get t' = some (.a (.v (.bool b)))) (hb : b = !want) (ht : Nat.blt t S.nt = true)
    (h : AWLI rn P w0 C0 ops rest Q (S.put t (.a (.v undef)))) : AWLI rn P w0 C0 ops (⟨some t, op, ty, pos, aft, some (j, want)⟩ :: rest) Q S := by
  rintro a w ⟨C, T, hs'⟩
  have hy := yielded_of hs' hj hs
  unfold wpListIn
  have e2 : Region.wanted (⟨some t, op, ty, pos, aft, some (j, want)⟩ : Oper) (yielded ops a.tmps) = false := by simp [Region.wanted, hy, hb]
  rw [if_neg (by rw [e2]; decide)]
  exact ⟨fun _ _ => trivial, h _ _ ⟨C, T, hs'.put ht (srel_v _)⟩⟩
theorem gi_cases {l : List Oper} {t' : Nat} {b : Bool} (h : S.get t' = some (.a (.v (.bool b)))) (hT : b = true → AWLI rn P w0 C0 ops l Q S) (hF : b = false → AWLI rn P w0 C0 ops l Q S) : AWLI rn P w0 C0 ops l Q S := by
  cases b
  · exact hF rfl
  · exact hT rfl
theorem r_yieldSI {x : Operand} {xs : List Operand} {xa : Array Operand} {tys : Array TypeId} {l : Nat} {args : List AV} {wo un : List OE} {R : Bool → List OE → Prop} (hq : w0.q = false) (mk : List OE → List OE) (hx : S.ev x = some (.a (.v (.func (.yield l) #[] #[])))) (hxa : xa = xs.toArray) (hargs : Args S xs args)
    (Cs : CS) (hcs : CsOk Cs w0 C0) (hy : YCs Cs P l args wo R) (hp : (Tr wo ++ un).Perm S.objs) (hmk : ∀ nobjs, (Tr nobjs ++ un).Perm (mk nobjs)) (ht : Nat.blt t S.nt = true)
    (hr : ∀ bb nobjs, R bb nobjs → AWLI rn P w0 C0 ops rest Q (AState.put ⟨S.nt, S.slots, mk nobjs⟩ t (.a (.v (.bool bb))))) :
    AWLI rn P w0 C0 ops (⟨some t, .call ⟨.value x, xa, tys⟩, ty, pos, aft, none⟩ :: rest) Q S := by
  rintro a w ⟨C, T, hs⟩
  subst hxa
  have hf := hs.evv hx
  have hap : (Tr wo ++ un).Pairwise (fun e e' => e.b ≠ e'.b) := (hp.pairwise_iff (fun h => fun e => h e.symm)).2 hs.apart
  have hobjs : Objs C (Tr wo) w := ⟨fun e he => by have := hs.objs e (hp.mem_iff.1 (List.mem_append.2 (.inl he))); exact ⟨this.1, this.2.1⟩, (List.pairwise_append.1 hap).1⟩
  obtain ⟨fn, tmps, assign, body, hrun, hround⟩ := hy.tr C w (xs.map a.eval).toArray (fun b o v hc => by obtain ⟨h1, h2, h3⟩ := hcs b o v hc; rw [hs.old b o h2 h3]; exact h1) ⟨hs.com, hs.one⟩ (by simpa using hargs.rels hs) hobjs
  have hexec : (execOp a.eval ⟨some t, .call ⟨.value x, xs.toArray, tys⟩, ty, pos, aft, none⟩).run P w = .ok (.round l fn tmps assign body) w := by
    simp [execOp, resolve, invoke, hf, Deferred.ofValue, Sem.run_bind, hrun]
  unfold wpListIn
  rw [if_pos (by simp [Region.wanted])]
  refine ⟨fun _ _ => trivial, ?_⟩
  rw [Oper.semAt_eq _ _ _ (fun c h => by cases h), hexec]
  refine ⟨fun h => by simp [Fr, Fence.wide] at h, (RoundIn.mono (F := Fr rn) hround ?_)⟩
  rintro e w' ⟨bb, rfl, C', nobjs, hR, hb, hC, hcom, hn, hnb⟩
  have hs' := hs.calledW hp (fun e he => by obtain ⟨e0, _, rfl⟩ := List.mem_map.1 he; rfl) hb (fun h => by rw [hq] at h; cases h) hC hcom hn hnb
  have hperm := hmk nobjs
  have hs2 : SimC w0 C0 C' T ⟨S.nt, S.slots, mk nobjs⟩ a w' := ⟨hs'.below, hs'.com, hs'.one, hs'.old, fun e he => hs'.objs e (hperm.mem_iff.2 he), (hperm.pairwise_iff (fun h => fun e => h e.symm)).1 hs'.apart,
    fun t k hk => ⟨(hs'.toks t k hk).1, fun e he => (hs'.toks t k hk).2 e (hperm.mem_iff.2 he)⟩, hs'.tokne, hs'.size, hs'.slots, hs'.defers, hs'.dr⟩
  exact hr bb nobjs hR _ _ ⟨C', T, hs2.put ht (srel_v _)⟩
theorem AWC.tr {Cs : CS} {f : FuncId} {args : List AV} {rd wo : List OE} {R : AV → List OE → Prop} (h : AWC Cs P f args rd wo R) : AWC Cs P f args rd (Tr wo) R := by
  have e : WB (Tr wo) = WB wo := funext fun b => propext wb_tr
  intro C w vals h0 h1 h2 h3
  rw [e]
  refine h C w vals h0 h1 h2 ⟨fun e he => ?_, ?_⟩
  · rcases List.mem_append.1 he with he | he
    · exact h3.1 e (List.mem_append.2 (.inl he))
    · have := h3.1 { e with rw := true } (List.mem_append.2 (.inr (List.mem_map.2 ⟨e, he, rfl⟩)))
      exact this
  · have : (rd ++ Tr wo).map (·.b) = (rd ++ wo).map (·.b) := by simp [Tr, Function.comp_def]
    exact List.pairwise_map.1 (this ▸ List.pairwise_map.2 h3.2)
section
variable {K α : Type} [DecidableEq K] {ek : K → Value} {ev : α → AV} {kt et : TypeId}
end
theorem tr_rw {l : List OE} : ∀ e ∈ Tr l, e.rw = true := fun e he => by obtain ⟨e0, _, rfl⟩ := List.mem_map.1 he; rfl
def Res3K (P : Program) (rv rv' rv'' : ResultVar) (S : AState) (r : AV) : Prop := ∃ c c' c'', ResK P S rv c ∧ ResK P S rv' c' ∧ ResK P S rv'' c'' ∧ r = .tup [c, c', c'']
theorem resK3_run {fn : Func} {rv rv' rv'' : ResultVar} (hr : fn.results = #[rv, rv', rv'']) : ∀ (w0 : Base) (C0 C : CS) (T : TS) (S : AState) (a : Act) (w : World) (r : AV), SimC w0 C0 C T S a w → Res3K P rv rv' rv'' S r → ∃ v, (results fn a.tmps).run P w = .ok v w ∧ Rel C r v := by
  rintro w0 C0 C T S a w r hs ⟨c, c', c'', h, h', h'', rfl⟩
  obtain ⟨v, h1, h2⟩ := h.run hs
  obtain ⟨v', h1', h2'⟩ := h'.run hs
  obtain ⟨v'', h1'', h2''⟩ := h''.run hs
  refine ⟨.tuple #[v, v', v''], ?_, rel_tup.2 (Rels.cons h2 (Rels.cons h2' (Rels.cons h2'' Rels.nil)))⟩
  have e : results fn a.tmps = (do let vs ← fn.results.mapM (resOne a.tmps); pure (if h : vs.size = 1 then vs[0] else .tuple vs)) := by
    unfold results
    congr 1
  rw [e, hr]
  simp [Sem.run_bind, h1, h1', h1'']
end Go.Proofs.Ytpkodkoooaldlaa.A
namespace Go.Proofs.Ytpkodkoooaldlaa.A
open Go Go.RowKit
set_option linter.unusedVariables false
set_option linter.unusedSimpArgs false
def sA (z : It) : List AV := [spA z.1]
def loS : Sp := ⟨-9223372036854775808, -9223372036854775808, -9223372036854775808, 0⟩
def hiS : Sp := ⟨9223372036854775807, 9223372036854775807, 9223372036854775807, 18446744073709551615⟩
structure Inr (k : Sp) : Prop where
  br : -9223372036854775808 ≤ k.br ∧ k.br ≤ 9223372036854775807
  vo : -9223372036854775808 ≤ k.vo ∧ k.vo ≤ 9223372036854775807
  bl : -9223372036854775808 ≤ k.bl ∧ k.bl ≤ 9223372036854775807
  nu : 0 ≤ k.nu ∧ k.nu ≤ 18446744073709551615
theorem Inr.lt {k : Sp} (h : Inr k) : ¬ hiS.lt k ∧ ¬ k.lt loS := by
  obtain ⟨h1, h2, h3, h4⟩ := h
  rw [Sp.lt_iff, Sp.lt_iff]
  simp only [hiS, loS]
  omega
def Ixd (x : List It) : Prop := ∀ z ∈ x, z.2 = z.1.nu ∧ Inr z.1
theorem Ixd.nil : Ixd [] := fun z h => by cases h
theorem Ixd.put {x : List It} (hs : Srt x) (h : Ixd x) {k : Sp} (hk : Inr k) : Ixd (refPut x k k.nu) := fun z hz => by
  rcases (put_mem hs).1 hz with rfl | ⟨h1, _⟩
  · exact ⟨rfl, hk⟩
  · exact h z h1
theorem Ixd.del {x : List It} (h : Ixd x) (k : Sp) : Ixd (refDel x k) := fun z hz => h z (List.mem_filter.1 hz).1
theorem Ixd.range {x : List It} (h : Ixd x) : ∀ z ∈ x, ¬ hiS.lt z.1 ∧ ¬ z.1.lt loS := fun z hz => (h z hz).2.lt
theorem look_isSome {l : List It} {k : Sp} : (look l k).isSome = decide (∃ z ∈ l, z.1 = k) := by
  rw [Bool.eq_iff_iff, decide_eq_true_eq]
  constructor
  · intro h
    obtain ⟨v, hv⟩ := Option.isSome_iff_exists.1 h
    exact ⟨_, look_some hv, rfl⟩
  · rintro ⟨z, hz, rfl⟩
    cases hl : look l z.1 with
    | some v => rfl
    | none =>
      exfalso
      unfold look at hl
      cases hf : l.find? (fun x => decide (x.1 = z.1)) with
      | some y => rw [hf] at hl; cases hl
      | none => exact absurd (List.find?_eq_none.1 hf z hz) (by simp)
theorem Ixd.mem {x y : List It} (hx : Ixd x) (hy : Ixd y) {z : It} (hz : z ∈ x) : z ∈ y ↔ (look y z.1).isSome = true := by
  rw [look_isSome, decide_eq_true_eq]
  constructor
  · exact fun h => ⟨z, h, rfl⟩
  · rintro ⟨w, hw, e⟩
    have h1 := (hx z hz).1
    have h2 := (hy w hw).1
    have : w = z := Prod.ext e (by rw [h1, h2, e])
    rw [← this]; exact hw
structure Idx (t : TreeV) (x : List It) : Prop where
  good : GoodT t x
  ix : Ixd x
  so : ∃ q, t = some q
theorem Idx.new : Idx (some (none, 0)) [] := ⟨good_new, Ixd.nil, _, rfl⟩
theorem Idx.put {t t' : TreeV} {x : List It} {k : Sp} (h : Idx t x) (hk : Inr k) (hp : PutT t k k.nu t') : Idx t' (refPut x k k.nu) :=
  ⟨good_put h.good hp, h.ix.put h.good.st hk, by obtain ⟨r', h1, _⟩ := hp; exact ⟨_, h1⟩⟩
theorem Idx.del {t t' : TreeV} {x : List It} {k : Sp} (h : Idx t x) (hd : DelT t k t') : Idx t' (refDel x k) :=
  ⟨good_del h.good hd, h.ix.del k, by
    unfold DelT at hd
    split at hd
    · rw [hd]; exact h.so
    · obtain ⟨cr, _, hc⟩ := hd
      cases cr with
      | none => rw [show t' = t from hc]; exact h.so
      | some c => exact ⟨_, hc⟩⟩
def plK : List VK := [.int .i64, .int .i64, .int .i64]
def plV (s : Sp) : List Value := [.int .i64 s.br, .int .i64 s.vo, .int .i64 s.bl]
theorem isVal_plT (s : Sp) : IsVal (.agg (s.cs.take 3)) (.agg (plV s).toArray) := isVal_agg (areVals_v (plV s))
theorem plV_kn (s : Sp) : Kn plK (plV s) := ⟨⟨_, rfl⟩, ⟨_, rfl⟩, ⟨_, rfl⟩, trivial⟩
theorem plV_eq (a b : Sp) : decide (a.br = b.br ∧ a.vo = b.vo ∧ a.bl = b.bl) = true ↔ plV a = plV b := by rw [decide_eq_true_eq]; simp [plV]
end Go.Proofs.Ytpkodkoooaldlaa.A
namespace Go.Proofs
open Go.Shelf
def Try.sortK61_ren : Go.Shelf.Ren := ⟨fun | 6 => 61 | 15 => 75 | 14 => 74 | 28 => 90 | 29 => 91 | 20 => 82 | 21 => 83 | 22 => 84 | 23 => 85 | 24 => 86 | 25 => 87 | 26 => 88 | 27 => 89 | 46 => 95 | 47 => 96 | 48 => 97 | 49 => 98 | 50 => 99 | 57 => 100 | n => n, fun | 22 => 91 | 24 => 90 | 25 => 124 | 3 => 3 | 39 => 156 | 0 => 0 | 53 => 168 | 55 => 31 | 4 => 4 | 46 => 162 | 45 => 161 | 50 => 127 | 5 => 5 | 9 => 9 | 66 => 173 | 70 => 177 | 76 => 179 | 77 => 180 | n => n, fun | n => n⟩
theorem Try.sortK61 : Go.Proofs.SlLaysF0.n6 Try.prog Try.sortK61_ren := {
  mixed := by kernel_rfl
  f6 := ⟨Try.f61.name, by decide, Try.func61.trans (congrArg some (by kernel_rfl))⟩
  f14 := ⟨Try.f74.name, by decide, Try.func74.trans (congrArg some (by kernel_rfl))⟩
  f15 := Try.func75.trans (congrArg some (by kernel_rfl))
  f20 := ⟨Try.f82.name, by decide, Try.func82.trans (congrArg some (by kernel_rfl))⟩
  f21 := ⟨Try.f83.name, by decide, Try.func83.trans (congrArg some (by kernel_rfl))⟩
  f22 := ⟨Try.f84.name, by decide, Try.func84.trans (congrArg some (by kernel_rfl))⟩
  f23 := ⟨Try.f85.name, by decide, Try.func85.trans (congrArg some (by kernel_rfl))⟩
  f24 := ⟨Try.f86.name, by decide, Try.func86.trans (congrArg some (by kernel_rfl))⟩
  f25 := ⟨Try.f87.name, by decide, Try.func87.trans (congrArg some (by kernel_rfl))⟩
  f26 := ⟨Try.f88.name, by decide, Try.func88.trans (congrArg some (by kernel_rfl))⟩
  f27 := ⟨Try.f89.name, by decide, Try.func89.trans (congrArg some (by kernel_rfl))⟩
  f28 := Try.func90.trans (congrArg some (by kernel_rfl))
  f29 := Try.func91.trans (congrArg some (by kernel_rfl))
  f46 := ⟨Try.f95.name, by decide, Try.func95.trans (congrArg some (by kernel_rfl))⟩
  f47 := Try.func96.trans (congrArg some (by kernel_rfl))
  f48 := Try.func97.trans (congrArg some (by kernel_rfl))
  f49 := ⟨Try.f98.name, by decide, Try.func98.trans (congrArg some (by kernel_rfl))⟩
  f50 := ⟨Try.f99.name, by decide, Try.func99.trans (congrArg some (by kernel_rfl))⟩
  f57 := ⟨Try.f100.name, by decide, Try.func100.trans (congrArg some (by kernel_rfl))⟩
  t0 := Try.underlying0
  a0 := Try.isAgg0
  z0 := Try.sizeOf0
  v0 := Try.zeroValue0
  t3 := Try.underlying3
  a3 := Try.isAgg3
  z3 := Try.sizeOf3
  v3 := Try.zeroValue3
  t4 := Try.underlying4
  a4 := Try.isAgg4
  z4 := Try.sizeOf4
  v4 := Try.zeroValue4
  t5 := Try.underlying5
  a5 := Try.isAgg5
  z5 := Try.sizeOf5
  v5 := Try.zeroValue5
  t9 := Try.underlying9
  a9 := Try.isAgg9
  z9 := Try.sizeOf9
  v9 := Try.zeroValue9
  t22 := Try.underlying91
  a22 := Try.isAgg91
  z22 := Try.sizeOf91
  v22 := Try.zeroValue91
  t25 := Try.underlying124
  a25 := Try.isAgg124
  z25 := Try.sizeOf124
  v25 := Try.zeroValue124
  t39 := Try.underlying156
  a39 := Try.isAgg156
  z39 := Try.sizeOf156
  v39 := Try.zeroValue156
  t45 := Try.underlying161
  a45 := Try.isAgg161
  z45 := Try.sizeOf161
  v45 := Try.zeroValue161
  t46 := Try.underlying162
  a46 := Try.isAgg162
  z46 := Try.sizeOf162
  v46 := Try.zeroValue162
  t50 := Try.underlying127
  a50 := Try.isAgg127
  z50 := Try.sizeOf127
  v50 := Try.zeroValue127
  t53 := Try.underlying168
  a53 := Try.isAgg168
  z53 := Try.sizeOf168
  v53 := Try.zeroValue168
  t55 := Try.underlying31
  a55 := Try.isAgg31
  z55 := Try.sizeOf31
  v55 := Try.zeroValue31
  t66 := Try.underlying173
  a66 := Try.isAgg173
  z66 := Try.sizeOf173
  v66 := Try.zeroValue173
  t70 := Try.underlying177
  a70 := Try.isAgg177
  z70 := Try.sizeOf177
  v70 := Try.zeroValue177
  t76 := Try.underlying179
  a76 := Try.isAgg179
  z76 := Try.sizeOf179
  v76 := Try.zeroValue179
  t77 := Try.underlying180
  a77 := Try.isAgg180
  z77 := Try.sizeOf180
  v77 := Try.zeroValue180 }
end Go.Proofs
namespace Go.Proofs.Ytpkodkoooaldlaa.A
open Go Go.RowKit Go.Maps Go.Sort Go.Shelf
theorem sortFunc61 : SortFuncK Try.prog 61 2 := fun α _ enc hk h1 cf hO g cb blk off cap d w eg hcmp hH hblk hsz hT =>
  AnyQ.slices_SortFunc_total Try.sortK61 2 (run_isAgg (by kernel_rfl)) (fun w => run_sz (by kernel_rfl) w) enc hk h1 cf hO g cb blk off cap d w eg hcmp hH hblk hsz hT
theorem sortFunc0_61 : SortFunc0 Try.prog 61 := fun p cap fv w => AnyF.slices_SortFunc_none { Try.sortK61 with } p cap fv w
end Go.Proofs.Ytpkodkoooaldlaa.A
namespace Go.Proofs.Ytpkodkoooaldlaa.A
open Go Go.RowKit
set_option linter.unusedVariables false
set_option linter.unusedSimpArgs false
abbrev PL := Int × Int
def PL.cs (p : PL) : List AV := [.v (.int .i64 p.1), .v (.int .i64 p.2)]
def plA (p : PL) : AV := .agg (PL.cs p)
def PL.vs (p : PL) : List Value := [.int .i64 p.1, .int .i64 p.2]
def ekP (p : PL) : Value := ekL .i64 [p.1, p.2]
def plsA (l : List PL) : AV := .sl 2 (l.map PL.cs)
def numA (n : Int) : AV := .v (.int .u64 n)
def bA (b : Bool) : AV := .v (.bool b)
theorem isVal_pl (p : PL) : IsVal (plA p) (ekP p) := isVal_agg (areVals_v (PL.vs p))
theorem areVals_pl (p : PL) : AreVals (PL.cs p) (PL.vs p) := areVals_v (PL.vs p)
structure Ent where
  vol : Int
  blk : Int
  num : Int
  deriving DecidableEq
def Ent.cs (e : Ent) : List AV := [.v (.int .i64 e.vol), .v (.int .i64 e.blk), .v (.int .u64 e.num)]
def Ent.ns (e : Ent) : List Int := [e.vol, e.blk, e.num]
def Ent.pl (e : Ent) : PL := (e.vol, e.blk)
def entsA (l : List Ent) : AV := .sl 3 (l.map Ent.cs)
structure Cla where
  vol : Int
  blk : Int
  base : Int
  ours : Int
  theirs : Int
  deriving DecidableEq
def Cla.cs (e : Cla) : List AV := [.v (.int .i64 e.vol), .v (.int .i64 e.blk), .v (.int .u64 e.base), .v (.int .u64 e.ours), .v (.int .u64 e.theirs)]
def Cla.ns (e : Cla) : List Int := [e.vol, e.blk, e.base, e.ours, e.theirs]
def shows (l : List Ent) (p : PL) : Int := ((l.find? (fun e => decide (e.pl = p))).map (·.num)).getD 0
def Vis {K α : Type} (m : List (K × α)) (bs : List Nat) (es : List (K × α)) (seen : List Nat) : Prop :=
  ∃ ps : List Nat, ps.Nodup ∧ ps.map (fun i => m[i]?) = es.map some ∧ ps.map (fun i => bs[i]?) = seen.map some
theorem vis_start {K α : Type} {m : List (K × α)} {bs : List Nat} : Vis m bs [] [] := ⟨[], List.nodup_nil, rfl, rfl⟩
theorem vis_step {K α : Type} {m : List (K × α)} {bs : List Nat} {es : List (K × α)} {seen : List Nat} (h : Vis m bs es seen) {q b : Nat} {e : K × α} (he : m[q]? = some e) (hb : bs[q]? = some b) (hn : b ∉ seen) : Vis m bs (es ++ [e]) (seen ++ [b]) := by
  obtain ⟨ps, h1, h2, h3⟩ := h
  refine ⟨ps ++ [q], ?_, by simp [h2, he], by simp [h3, hb]⟩
  rw [List.nodup_append]
  refine ⟨h1, by simp, ?_⟩
  intro x hx y hy e
  simp at hy; subst hy e
  have : bs[x]? ∈ seen.map some := by rw [← h3]; exact List.mem_map.2 ⟨x, hx, rfl⟩
  rw [hb] at this
  simp at this; exact hn this
theorem vis_mem {K α : Type} {m : List (K × α)} {bs : List Nat} {es : List (K × α)} {seen : List Nat} {ps : List Nat} (h2 : ps.map (fun i => m[i]?) = es.map some) : ∀ i ∈ ps, i < m.length := fun i hi => by
  have : m[i]? ∈ es.map some := by rw [← h2]; exact List.mem_map.2 ⟨i, hi, rfl⟩
  obtain ⟨e, _, he⟩ := List.mem_map.1 this
  exact (List.getElem?_eq_some_iff.1 he.symm).1
theorem nodup_sub : ∀ {ps l : List Nat}, ps.Nodup → (∀ i ∈ ps, i ∈ l) → ∃ r, (ps ++ r).Perm l
  | [], l, _, _ => ⟨l, List.Perm.refl _⟩
  | p :: ps, l, h1, h2 => by
    obtain ⟨hp, h1'⟩ := List.nodup_cons.1 h1
    have hl := List.perm_cons_erase (h2 p (by simp))
    obtain ⟨r, hr⟩ := nodup_sub h1' (l := l.erase p) (fun i hi => (List.mem_erase_of_ne (fun e => hp (by subst e; exact hi))).2 (h2 i (by simp [hi])))
    exact ⟨r, (hr.cons p).trans hl.symm⟩
theorem nodup_len {ps : List Nat} {n : Nat} (h1 : ps.Nodup) (h2 : ∀ i ∈ ps, i < n) : ps.length ≤ n := by
  obtain ⟨r, hr⟩ := nodup_sub h1 (l := List.range n) (fun i hi => List.mem_range.2 (h2 i hi))
  have := hr.length_eq; simp at this; omega
theorem vis_len {K α : Type} {m : List (K × α)} {bs : List Nat} {es : List (K × α)} {seen : List Nat} (h : Vis m bs es seen) : es.length ≤ m.length := by
  obtain ⟨ps, h1, h2, h3⟩ := h
  have := nodup_len h1 (vis_mem (bs := bs) (seen := seen) h2)
  have e := congrArg List.length h2; simp at e; omega
theorem vis_lt {K α : Type} {m : List (K × α)} {bs : List Nat} {es : List (K × α)} {seen : List Nat} (h : Vis m bs es seen) {q b : Nat} {e : K × α} (he : m[q]? = some e) (hb : bs[q]? = some b) (hn : b ∉ seen) : es.length < m.length := by
  have := vis_len (vis_step h he hb hn); simp at this; omega
theorem vis_end {K α : Type} {m : List (K × α)} {bs : List Nat} {es : List (K × α)} {seen : List Nat} (h : Vis m bs es seen) (hl : bs.length = m.length) (hnd : bs.Nodup) (hall : ∀ b ∈ bs, b ∈ seen) : es.Perm m := by
  obtain ⟨ps, h1, h2, h3⟩ := h
  have hlt := vis_mem (bs := bs) (seen := seen) h2
  have hp : ps.Perm (List.range m.length) := by
    suffices hsub : ∀ i ∈ List.range m.length, i ∈ ps by
      obtain ⟨r, hr⟩ := nodup_sub h1 (l := List.range m.length) (fun i hi => List.mem_range.2 (hlt i hi))
      obtain ⟨r', hr'⟩ := nodup_sub List.nodup_range hsub
      have e1 := hr.length_eq
      have e2 := hr'.length_eq
      simp only [List.length_append] at e1 e2
      have : r = [] := List.eq_nil_of_length_eq_zero (by omega)
      subst this; simpa using hr
    intro i hi
    have hi' : i < bs.length := by rw [hl]; simpa using hi
    have : bs[i]? ∈ seen.map some := by rw [List.getElem?_eq_getElem hi']; exact List.mem_map.2 ⟨_, hall _ (List.getElem_mem hi'), rfl⟩
    rw [← h3] at this
    obtain ⟨j, hj, he⟩ := List.mem_map.1 this
    have hjl : j < bs.length := by rw [hl]; exact hlt j hj
    rw [List.getElem?_eq_getElem hjl, List.getElem?_eq_getElem hi', Option.some.injEq] at he
    have : j = i := (List.getElem_inj hnd).1 he
    subst this; exact hj
  have h4 : (es.map some).Perm ((List.range m.length).map (fun i => m[i]?)) := by rw [← h2]; exact hp.map _
  have h5 : (List.range m.length).map (fun i => m[i]?) = m.map some := by
    apply List.ext_getElem?
    intro i
    by_cases hi : i < m.length
    · simp [hi]
    · simp [List.getElem?_eq_none (Nat.le_of_not_lt hi), hi]
  rw [h5] at h4
  have := h4.filterMap id
  simpa using this
theorem encM_at {K α : Type} {ek : K → Value} {ev : α → AV} {m : List (K × α)} {q : Nat} {p : Value × AV} (h : (encM ek ev m)[q]? = some p) : ∃ e, m[q]? = some e ∧ p = (ek e.1, ev e.2) := by
  unfold encM at h
  rw [List.getElem?_map] at h
  cases he : m[q]? with
  | none => simp [he] at h
  | some e => simp [he] at h; exact ⟨e, rfl, h.symm⟩
def GrowB (b sz e : Nat) (l : List (List AV)) (wo : List OE) : Prop :=
  (l = [] ∧ wo = [⟨b, true, .box [.v (.slice none 0 0)]⟩]) ∨ (l ≠ [] ∧ ∃ g cap, wo = [⟨g, true, .buf sz l cap e⟩, ⟨b, true, .box [.v (.slice (some ⟨g, 0, none⟩) l.length cap)]⟩])
def GrowR (sz e : Nat) (l : List (List AV)) (r : AV) (n : List OE) : Prop :=
  (l = [] ∧ r = .v (.slice none 0 0) ∧ n = []) ∨ (l ≠ [] ∧ ∃ g cap, r = .v (.slice (some ⟨g, 0, none⟩) l.length cap) ∧ n = [⟨g, true, .buf sz l cap e⟩])
def ltP (a b : PL) : Bool := decide (a.1 < b.1) || (decide (a.1 = b.1) && decide (a.2 < b.2))
theorem ltP_iff {a b : PL} : ltP a b = true ↔ a.1 < b.1 ∨ (a.1 = b.1 ∧ a.2 < b.2) := by simp [ltP]
theorem ltP_irrefl (a : PL) : ltP a a = false := by simp [ltP]
theorem ltP_trans {a b c : PL} (h1 : ltP a b = true) (h2 : ltP b c = true) : ltP a c = true := by rw [ltP_iff] at *; omega
theorem ltP_asymm {a b : PL} (h : ltP a b = true) : ltP b a = false := by
  cases hb : ltP b a with
  | false => rfl
  | true => have := ltP_trans h hb; rw [ltP_irrefl] at this; cases this
theorem ltP_tri {a b : PL} (h1 : ltP a b = false) (h2 : ltP b a = false) : a = b := by
  have h1' : ¬ (ltP a b = true) := by simp [h1]
  have h2' : ¬ (ltP b a = true) := by simp [h2]
  rw [ltP_iff] at h1' h2'
  apply Prod.ext <;> omega
def SortedP (l : List PL) : Prop := l.Pairwise (fun a b => ltP a b = true)
def insP : List PL → PL → List PL
  | [], n => [n]
  | x :: r, n => if ltP x n then x :: insP r n else if x = n then x :: r else n :: x :: r
theorem insP_mem {n x : PL} : ∀ {l : List PL}, x ∈ insP l n ↔ x = n ∨ x ∈ l
  | [] => by simp [insP]
  | y :: r => by
    unfold insP
    split
    · rw [List.mem_cons, insP_mem (l := r), List.mem_cons]
      constructor
      · rintro (h | h | h) <;> simp [h]
      · rintro (h | h | h) <;> simp [h]
    · split
      · rename_i e; subst e
        constructor
        · exact fun h => Or.inr h
        · rintro (h | h)
          · subst h; simp
          · exact h
      · simp
theorem insP_sorted {n : PL} : ∀ {l : List PL}, SortedP l → SortedP (insP l n)
  | [], _ => by simp [insP, SortedP]
  | y :: r, h => by
    have h1 := List.pairwise_cons.1 h
    unfold insP
    split
    · rename_i hl
      refine List.pairwise_cons.2 ⟨fun z hz => ?_, insP_sorted h1.2⟩
      rcases insP_mem.1 hz with rfl | hz
      · exact hl
      · exact h1.1 z hz
    · rename_i hl
      split
      · exact h
      · rename_i hne
        have hny : ltP n y = true := by
          cases hb : ltP n y with
          | true => rfl
          | false => exact absurd (ltP_tri (by simpa using hl) hb) hne
        refine List.pairwise_cons.2 ⟨fun z hz => ?_, h⟩
        rcases List.mem_cons.1 hz with rfl | hz
        · exact hny
        · exact ltP_trans hny (h1.1 z hz)
theorem sortedP_ext : ∀ {l l' : List PL}, SortedP l → SortedP l' → (∀ x, x ∈ l ↔ x ∈ l') → l = l'
  | [], [], _, _, _ => rfl
  | [], y :: r, _, _, h => by have := (h y).2 (by simp); simp at this
  | y :: r, [], _, _, h => by have := (h y).1 (by simp); simp at this
  | x :: r, y :: s, h1, h2, h => by
    have p1 := List.pairwise_cons.1 h1
    have p2 := List.pairwise_cons.1 h2
    have hxy : x = y := by
      rcases List.mem_cons.1 ((h x).1 (by simp)) with e | hx
      · exact e
      · rcases List.mem_cons.1 ((h y).2 (by simp)) with e | hy
        · exact e.symm
        · have a1 := p2.1 x hx
          have a2 := p1.1 y hy
          rw [ltP_asymm a1] at a2; cases a2
    subst hxy
    have hnr : x ∉ r := fun hx => by have := p1.1 x hx; rw [ltP_irrefl] at this; cases this
    have hns : x ∉ s := fun hx => by have := p2.1 x hx; rw [ltP_irrefl] at this; cases this
    rw [sortedP_ext p1.2 p2.2 (fun z => ?_)]
    constructor
    · intro hz
      rcases List.mem_cons.1 ((h z).1 (by simp [hz])) with e | hz'
      · subst e; exact absurd hz hnr
      · exact hz'
    · intro hz
      rcases List.mem_cons.1 ((h z).2 (by simp [hz])) with e | hz'
      · subst e; exact absurd hz hns
      · exact hz'
def insAll (acc : List PL) (l : List Ent) : List PL := l.foldl (fun acc e => insP acc e.pl) acc
def placesF (ls : List (List Ent)) : List PL := ls.foldl insAll []
theorem insAll_sorted (l : List Ent) : ∀ {acc : List PL}, SortedP acc → SortedP (insAll acc l) := by
  induction l with
  | nil => exact fun h => h
  | cons e l ih => exact fun h => ih (insP_sorted h)
theorem insAll_mem {p : PL} (l : List Ent) : ∀ {acc : List PL}, p ∈ insAll acc l ↔ p ∈ acc ∨ ∃ e ∈ l, e.pl = p := by
  induction l with
  | nil => intro acc; simp [insAll]
  | cons e l ih =>
    intro acc
    have := ih (acc := insP acc e.pl)
    simp only [insAll, List.foldl_cons] at this ⊢
    rw [this, insP_mem]
    constructor
    · rintro ((h | h) | ⟨x, hx, h⟩)
      · exact .inr ⟨e, by simp, h.symm⟩
      · exact .inl h
      · exact .inr ⟨x, by simp [hx], h⟩
    · rintro (h | ⟨x, hx, h⟩)
      · exact .inl (.inr h)
      · rcases List.mem_cons.1 hx with rfl | hx
        · exact .inl (.inl h.symm)
        · exact .inr ⟨x, hx, h⟩
theorem places_sorted (ls : List (List Ent)) : SortedP (placesF ls) := by
  have : ∀ (ls : List (List Ent)) {acc : List PL}, SortedP acc → SortedP (ls.foldl insAll acc) := by
    intro ls
    induction ls with
    | nil => exact fun h => h
    | cons l ls ih => exact fun h => ih (insAll_sorted l h)
  exact this ls (by simp [SortedP])
theorem places_mem {p : PL} (ls : List (List Ent)) : p ∈ placesF ls ↔ ∃ l ∈ ls, ∃ e ∈ l, e.pl = p := by
  have : ∀ (ls : List (List Ent)) {acc : List PL}, p ∈ ls.foldl insAll acc ↔ p ∈ acc ∨ ∃ l ∈ ls, ∃ e ∈ l, e.pl = p := by
    intro ls
    induction ls with
    | nil => simp
    | cons l ls ih =>
      intro acc
      rw [List.foldl_cons, ih, insAll_mem]
      simp only [List.mem_cons, exists_eq_or_imp, or_assoc]
  simpa [placesF] using this ls (acc := [])
def cmpI (x y : Int) : Int := if x < y then -1 else if y < x then 1 else 0
def cmpP (a b : PL) : Int := if cmpI a.1 b.1 ≠ 0 then cmpI a.1 b.1 else cmpI a.2 b.2
theorem cmpP_lt (a b : PL) : ltOf cmpP a b = ltP a b := by
  unfold ltOf cmpP cmpI
  rw [Bool.eq_iff_iff, ltP_iff]
  simp only [decide_eq_true_eq]
  by_cases h1 : a.1 < b.1
  · simp [h1]
  · by_cases h2 : b.1 < a.1
    · simp [h1, h2]; omega
    · have e : a.1 = b.1 := by omega
      by_cases h3 : a.2 < b.2
      · simp [e, h3]
      · by_cases h4 : b.2 < a.2
        · simp [e, h3, h4]
        · simp [e, h3, h4]
theorem cmpP_swo : Go.Sort.SWO (ltOf cmpP) where
  irrefl x := by rw [cmpP_lt]; exact ltP_irrefl x
  trans x y z h1 h2 := by rw [cmpP_lt] at *; exact ltP_trans h1 h2
  ntrans x y z h1 h2 := by
    rw [cmpP_lt] at *
    have h1' : ¬ (ltP x y = true) := by simp [h1]
    have h2' : ¬ (ltP y z = true) := by simp [h2]
    rw [ltP_iff] at h1' h2'
    cases h : ltP x z with
    | false => rfl
    | true => rw [ltP_iff] at h; omega
theorem cmpP_part (x y : PL) (h1 : ltOf cmpP x y = false) (h2 : ltOf cmpP y x = false) : x = y := by
  rw [cmpP_lt] at h1 h2; exact ltP_tri h1 h2
theorem sort_keys {kl : List PL} {pl : List PL} (hnd : kl.Nodup) (hs : SortedP pl) (hm : ∀ p, p ∈ kl ↔ p ∈ pl) : kl.mergeSort (fun x y => !(ltOf cmpP) y x) = pl := by
  refine sortedP_ext ?_ hs (fun x => by rw [List.mem_mergeSort, hm])
  have h1 := List.pairwise_mergeSort (le := fun x y => !(ltOf cmpP) y x) (fun a b c h1 h2 => by
    simp only [cmpP_lt, Bool.not_eq_true'] at *
    cases h : ltP c a with
    | false => rfl
    | true =>
      have h1' : ¬ (ltP b a = true) := by simp [h1]
      have h2' : ¬ (ltP c b = true) := by simp [h2]
      rw [ltP_iff] at h1' h2' h; omega) (fun a b => by
    simp only [cmpP_lt, Bool.or_eq_true, Bool.not_eq_true']
    cases h : ltP a b with
    | true => exact .inl (ltP_asymm h)
    | false => exact .inr rfl) kl
  have h2 : (kl.mergeSort (fun x y => !(ltOf cmpP) y x)).Nodup := (List.mergeSort_perm _ _).nodup_iff.2 hnd
  refine (List.Pairwise.and h1 h2).imp (fun {a b} h => ?_)
  simp only [cmpP_lt, Bool.not_eq_true'] at h
  cases h' : ltP a b with
  | true => rfl
  | false => exact absurd (ltP_tri h' h.1) h.2
end Go.Proofs.Ytpkodkoooaldlaa.A
namespace Go.Proofs.Ytpkodkoooaldlaa.A
open Go Go.RowKit
set_option linter.unusedVariables false
set_option linter.unusedSimpArgs false
structure AllOf (m : List (PL × Int)) (ls : List (List Ent)) : Prop where
  nd : (m.map (·.1)).Nodup
  mem : ∀ p : PL, p ∈ m.map (·.1) ↔ ∃ l ∈ ls, ∃ e ∈ l, e.pl = p
  len : m.length ≤ ls.length * 1000
theorem fold_keys (es : List (PL × Int)) : ∀ (m : List (PL × Int)), ((m.map (·.1)).Nodup → ((List.foldl (fun (m : List (PL × Int)) (e : PL × Int) => mset m e.1 e.2) m es).map (·.1)).Nodup) ∧
    (∀ p : PL, p ∈ (List.foldl (fun (m : List (PL × Int)) (e : PL × Int) => mset m e.1 e.2) m es).map (·.1) ↔ p ∈ m.map (·.1) ∨ p ∈ es.map (·.1)) ∧ (List.foldl (fun (m : List (PL × Int)) (e : PL × Int) => mset m e.1 e.2) m es).length ≤ m.length + es.length := by
  induction es with
  | nil => intro m; simp
  | cons e es ih =>
    intro m
    obtain ⟨h1, h2, h3⟩ := ih (mset m e.1 e.2)
    refine ⟨fun h => h1 (mset_nodup h), fun p => ?_, ?_⟩
    · rw [List.foldl_cons, h2, mset_keys, List.map_cons, List.mem_cons]
      constructor
      · rintro ((h | h) | h) <;> simp [h]
      · rintro (h | h | h) <;> simp [h]
    · rw [List.foldl_cons]
      refine Nat.le_trans h3 ?_
      have := mset_len (m := m) (k := e.1) (v := e.2); simp; omega
theorem allOf_places {m : List (PL × Int)} {ls : List (List Ent)} (h : AllOf m ls) {kl : List PL} (hk : kl.Perm (m.map (·.1))) : kl.mergeSort (fun x y => !(ltOf cmpP) y x) = placesF ls :=
  sort_keys (hk.nodup_iff.2 h.nd) (places_sorted ls) (fun p => by rw [hk.mem_iff, h.mem, places_mem])
theorem fm_step {α β : Type} {f : α → Option β} {l : List α} {k : Nat} {x : α} (h : l[k]? = some x) : (l.take (k + 1)).filterMap f = (l.take k).filterMap f ++ (f x).toList := by
  rw [takeS h, List.filterMap_append]
  cases hf : f x <;> simp [hf]
theorem insAll_len (l : List Ent) : ∀ {acc : List PL}, (insAll acc l).length ≤ acc.length + l.length := by
  have hi : ∀ (acc : List PL) (p : PL), (insP acc p).length ≤ acc.length + 1 := by
    intro acc p
    induction acc with
    | nil => simp [insP]
    | cons x r ih => unfold insP; split; · simp; exact ih
                     · split <;> simp
  induction l with
  | nil => intro acc; simp [insAll]
  | cons e l ih =>
    intro acc
    have := ih (acc := insP acc e.pl)
    have h2 := hi acc e.pl
    simp only [insAll, List.foldl_cons] at this ⊢
    simp; omega
theorem places_len (ls : List (List Ent)) : (placesF ls).length ≤ (ls.map (·.length)).sum := by
  have : ∀ (ls : List (List Ent)) {acc : List PL}, (ls.foldl insAll acc).length ≤ acc.length + (ls.map (·.length)).sum := by
    intro ls
    induction ls with
    | nil => intro acc; simp
    | cons l ls ih =>
      intro acc
      rw [List.foldl_cons]
      have := ih (acc := insAll acc l)
      have h2 := insAll_len l (acc := acc)
      simp; omega
  simpa [placesF] using this ls (acc := [])
end Go.Proofs.Ytpkodkoooaldlaa.A
namespace Go.Proofs.Ytpkodkoooaldlaa.A
open Go Go.RowKit
set_option linter.unusedVariables false
set_option linter.unusedSimpArgs false
structure Chg where
  vol : Int
  blk : Int
  a : Int
  b : Int
  deriving DecidableEq
def Chg.cs (e : Chg) : List AV := [.v (.int .i64 e.vol), .v (.int .i64 e.blk), .v (.int .u64 e.a), .v (.int .u64 e.b)]
def Chg.ns (e : Chg) : List Int := [e.vol, e.blk, e.a, e.b]
def Chg.pl (e : Chg) : PL := (e.vol, e.blk)
def Chg.turn (e : Chg) : Chg := ⟨e.vol, e.blk, e.b, e.a⟩
def chgsA (l : List Chg) : AV := .sl 4 (l.map Chg.cs)
structure Tells (m : List (PL × Int)) (l : List Ent) : Prop where
  nd : (m.map (·.1)).Nodup
  get : ∀ p : PL, mget m p = (l.find? (fun e => decide (e.pl = p))).map (·.num)
  len : m.length ≤ l.length
theorem tells_nil : Tells [] [] := ⟨by simp, by simp [mget], by simp⟩
theorem tells_shows {m : List (PL × Int)} {l : List Ent} (h : Tells m l) (p : PL) : (mget m p).getD 0 = shows l p := by rw [h.get]; rfl
theorem tells_mem {m : List (PL × Int)} {l : List Ent} (h : Tells m l) (p : PL) : p ∈ m.map (·.1) ↔ ∃ e ∈ l, e.pl = p := by
  rw [← mget_some, h.get]
  simp [List.find?_isSome]
theorem tells_has {m : List (PL × Int)} {l : List Ent} {k : Nat} {x : Ent} (h : Tells m (l.take k)) (hx : l[k]? = some x) (hg : (mget m x.pl).isSome = true) : Tells m (l.take (k + 1)) := by
  refine ⟨h.nd, fun p => ?_, Nat.le_trans h.len (by simp; omega)⟩
  rw [takeS hx, List.find?_append, h.get]
  rw [h.get] at hg
  cases hf : (l.take k).find? (fun e => decide (e.pl = p)) with
  | some y => simp
  | none =>
    by_cases hp : x.pl = p
    · rw [hp, hf] at hg; simp at hg
    · simp [hp]
theorem tells_new {m : List (PL × Int)} {l : List Ent} {k : Nat} {x : Ent} (h : Tells m (l.take k)) (hx : l[k]? = some x) (hg : (mget m x.pl).isSome = false) : Tells (mset m x.pl x.num) (l.take (k + 1)) := by
  have hk := (List.getElem?_eq_some_iff.1 hx).1
  refine ⟨mset_nodup h.nd, fun p => ?_, ?_⟩
  · rw [takeS hx, List.find?_append, mget_mset, h.get]
    rw [h.get] at hg
    by_cases hp : x.pl = p
    · rw [hp] at hg
      cases hf : (l.take k).find? (fun e => decide (e.pl = p)) with
      | some y => rw [hf] at hg; simp at hg
      | none => simp [hp]
    · cases hf : (l.take k).find? (fun e => decide (e.pl = p)) <;> simp [hp]
  · have h1 := h.len
    have := mset_len (m := m) (k := x.pl) (v := x.num)
    simp at h1 ⊢; omega
theorem tells_set {m : List (PL × Int)} {l : List Ent} (h : Tells m l) (e : Ent) : Tells (mset m e.pl e.num) (e :: l) := by
  refine ⟨mset_nodup h.nd, fun p => ?_, ?_⟩
  · rw [mget_mset, h.get, List.find?_cons]
    by_cases hp : e.pl = p <;> simp [hp]
  · have h1 := h.len
    have := mset_len (m := m) (k := e.pl) (v := e.num)
    simp; omega
theorem tells_all {m : List (PL × Int)} {l : List Ent} (h : Tells m l) (hl : l.length ≤ 1000) : AllOf m [l] :=
  ⟨h.nd, fun p => by rw [tells_mem h]; simp, by have := h.len; simp; omega⟩
theorem tells_step {m my : List (PL × Int)} {ls : List (List Ent)} {l : List Ent} {es : List (PL × Int)} (h : AllOf m ls) (hp : es.Perm my) (ht : Tells my l) (hl : l.length ≤ 1000) :
    AllOf (List.foldl (fun (m : List (PL × Int)) (e : PL × Int) => mset m e.1 e.2) m es) (ls ++ [l]) := by
  obtain ⟨h1, h2, h3⟩ := fold_keys es m
  refine ⟨h1 h.nd, fun p => ?_, ?_⟩
  · rw [h2, h.mem, (hp.map (·.1)).mem_iff, tells_mem ht]
    simp only [List.mem_append, List.mem_singleton]
    constructor
    · rintro (⟨l', h1, h2⟩ | h)
      · exact ⟨l', .inl h1, h2⟩
      · exact ⟨l, .inr rfl, h⟩
    · rintro ⟨l', h1 | rfl, h2⟩
      · exact .inl ⟨l', h1, h2⟩
      · exact .inr h2
  · have e1 := hp.length_eq
    have e2 := ht.len
    have := h.len
    simp only [List.length_append, List.length_singleton, Nat.add_mul]; omega
def chgAt (x y : List Ent) (p : PL) : Option Chg := if shows x p = shows y p then none else some ⟨p.1, p.2, shows x p, shows y p⟩
def entriesF (x y : List Ent) : List Chg := (placesF [x, y]).filterMap (chgAt x y)
def applyS (s : Option (List Ent)) (x : Chg) : Option (List Ent) := s.bind fun l => if shows l x.pl = x.a then some (⟨x.vol, x.blk, x.b⟩ :: l) else none
def applyF (l : List Ent) (d : List Chg) : Option (List Ent) := d.foldl applyS (some l)
def cleanAt (l : List Ent) (p : PL) : Option Ent := if shows l p = 0 then none else some ⟨p.1, p.2, shows l p⟩
def cleanF (l : List Ent) : List Ent := (placesF [l]).filterMap (cleanAt l)
def turnF (d : List Chg) : List Chg := d.reverse.map Chg.turn
theorem apply_none (d : List Chg) : d.foldl applyS none = none := by
  induction d with
  | nil => rfl
  | cons x d ih => exact ih
theorem apply_step {l l' : List Ent} {d : List Chg} {k : Nat} {x : Chg} (hx : d[k]? = some x) (h : applyF l (d.take k) = some l') (he : shows l' x.pl = x.a) : applyF l (d.take (k + 1)) = some (⟨x.vol, x.blk, x.b⟩ :: l') := by
  unfold applyF at *
  rw [takeS hx, List.foldl_append, h]
  simp [applyS, he]
theorem apply_fail {l l' : List Ent} {d : List Chg} {k : Nat} {x : Chg} (hx : d[k]? = some x) (h : applyF l (d.take k) = some l') (he : ¬ shows l' x.pl = x.a) : applyF l d = none := by
  have e : d = d.take (k + 1) ++ d.drop (k + 1) := (List.take_append_drop _ _).symm
  unfold applyF at *
  rw [e, List.foldl_append, takeS hx, List.foldl_append, h]
  have h1 : List.foldl applyS (some l') [x] = none := by simp [applyS, he]
  rw [h1]; exact apply_none _
theorem apply_end {l l' : List Ent} {d : List Chg} {k : Nat} (hk : d.length ≤ k) (h : applyF l (d.take k) = some l') : applyF l d = some l' := by
  rwa [List.take_of_length_le hk] at h
theorem apply_len {l l' : List Ent} {d : List Chg} (h : applyF l d = some l') : l'.length = l.length + d.length := by
  have : ∀ (d : List Chg) (l : List Ent), d.foldl applyS (some l) = some l' → l'.length = l.length + d.length := by
    intro d
    induction d with
    | nil => intro l h; simp at h; subst h; simp
    | cons x d ih =>
      intro l h
      rw [List.foldl_cons] at h
      by_cases he : shows l x.pl = x.a
      · rw [show applyS (some l) x = some (⟨x.vol, x.blk, x.b⟩ :: l) from by simp [applyS, he]] at h
        have := ih _ h
        simp at this ⊢; omega
      · rw [show applyS (some l) x = none from by simp [applyS, he], apply_none] at h; cases h
  exact this d l h
theorem shows_zero {l : List Ent} {p : PL} (h : ¬ ∃ e ∈ l, e.pl = p) : shows l p = 0 := by
  unfold shows
  have : l.find? (fun e => decide (e.pl = p)) = none := List.find?_eq_none.2 fun e he => by
    simp only [decide_eq_true_eq]; exact fun hp => h ⟨e, he, hp⟩
  rw [this]; rfl
theorem entries_nil {a b : List Ent} (h : ∀ p, shows a p = shows b p) : entriesF a b = [] := by
  unfold entriesF
  rw [List.filterMap_eq_nil_iff]
  intro p _
  simp [chgAt, h p]
end Go.Proofs.Ytpkodkoooaldlaa.A
namespace Go.Proofs.Ytpkodkoooaldlaa.A
open Go Go.RowKit
set_option linter.unusedVariables false
set_option linter.unusedSimpArgs false
def floorL : List It → Sp → Option It
  | [], _ => none
  | z :: r, k => if k.lt z.1 then none else some ((floorL r k).getD z)
def flA : Option It → AV
  | some z => .tup [spA z.1, .v (.int .u64 z.2), boolA true]
  | none => .tup [spA Sp.z, .v (.int .u64 0), boolA false]
theorem floor_none {l : List It} {k : Sp} (h : ∀ z ∈ l, k.lt z.1) : floorL l k = none := by
  cases l with
  | nil => rfl
  | cons z r => exact if_pos (h z List.mem_cons_self)
theorem floor_mem : ∀ {l : List It} {k : Sp} {z : It}, floorL l k = some z → z ∈ l ∧ ¬ k.lt z.1
  | [], k, z, h => by cases h
  | y :: r, k, z, h => by
    unfold floorL at h
    by_cases hy : k.lt y.1
    · rw [if_pos hy] at h; cases h
    · rw [if_neg hy] at h
      cases hr : floorL r k with
      | none => rw [hr] at h; cases h; exact ⟨List.mem_cons_self, hy⟩
      | some w => rw [hr] at h; cases h; obtain ⟨h1, h2⟩ := floor_mem hr; exact ⟨List.mem_cons_of_mem _ h1, h2⟩
theorem floor_top : ∀ {l : List It} {k : Sp} {z : It}, Srt l → floorL l k = some z → ∀ w ∈ l, ¬ k.lt w.1 → w = z ∨ w.1.lt z.1
  | [], k, z, hs, h => by cases h
  | y :: r, k, z, hs, h => by
    obtain ⟨s1, s2⟩ := List.pairwise_cons.1 hs
    unfold floorL at h
    by_cases hy : k.lt y.1
    · rw [if_pos hy] at h; cases h
    · rw [if_neg hy] at h
      intro w hw hk
      cases hr : floorL r k with
      | none =>
        rw [hr] at h; cases h
        rcases List.mem_cons.1 hw with rfl | hw
        · exact .inl rfl
        · exfalso
          cases r with
          | nil => cases hw
          | cons q r =>
            unfold floorL at hr
            by_cases hq : k.lt q.1
            · rcases List.mem_cons.1 hw with rfl | hw
              · exact hk hq
              · exact hk (Sp.trans hq ((List.pairwise_cons.1 s2).1 w hw))
            · rw [if_neg hq] at hr; cases hr
      | some v =>
        rw [hr] at h; cases h
        rcases List.mem_cons.1 hw with rfl | hw
        · exact .inr (s1 _ (floor_mem hr).1)
        · exact floor_top s2 hr w hw hk
theorem floor_some {l : List It} {k : Sp} (hs : Srt l) {w : It} (hw : w ∈ l) (hk : ¬ k.lt w.1) : ∃ z, floorL l k = some z := by
  cases l with
  | nil => cases hw
  | cons y r =>
    refine ⟨_, if_neg (fun hy => hk ?_)⟩
    rcases List.mem_cons.1 hw with rfl | hw
    · exact hy
    · exact Sp.trans hy ((List.pairwise_cons.1 hs).1 w hw)
theorem floor_find : ∀ {l : List It} {k : Sp}, Srt l → floorL l k = if (findL k (l.map fun p => p.1)).2 = true then l[(findL k (l.map fun p => p.1)).1]? else if (findL k (l.map fun p => p.1)).1 = 0 then none else l[(findL k (l.map fun p => p.1)).1 - 1]?
  | [], k, _ => by simp [floorL, findL]
  | z :: r, k, hs => by
    obtain ⟨s1, s2⟩ := List.pairwise_cons.1 hs
    have ih := floor_find (k := k) s2
    rw [List.map_cons, findL]
    by_cases h0 : 0 ≤ z.1.ord k
    · rw [if_pos h0]
      by_cases h1 : z.1.ord k = 0
      · have e := (Sp.ord_zero _ _).1 h1
        have h2 : ¬ k.lt z.1 := by rw [← e]; exact Sp.irrefl _
        simp only [h1, decide_true, if_true, List.getElem?_cons_zero]
        rw [floorL, if_neg h2, floor_none (fun w hw => by rw [← e]; exact s1 w hw)]; rfl
      · have h2 : k.lt z.1 := (Sp.ord_pos _ _).1 (by omega)
        simp only [h1, decide_false, Bool.false_eq_true, if_false, if_true]
        rw [floorL, if_pos h2]
    · rw [if_neg h0]
      have h2 : ¬ k.lt z.1 := fun h => h0 (by have := (Sp.ord_pos _ _).2 h; omega)
      rw [floorL, if_neg h2, ih]
      simp only [Nat.add_eq_zero_iff, Nat.one_ne_zero, and_false, if_false, Nat.add_sub_cancel, List.getElem?_cons_succ]
      by_cases hb : (findL k (r.map fun p => p.1)).2 = true
      · rw [if_pos hb, if_pos hb]
        have hl := findL_had hb
        rw [List.length_map] at hl
        rw [List.getElem?_eq_getElem hl]; rfl
      · rw [if_neg hb, if_neg hb]
        have hle : (findL k (r.map fun p => p.1)).1 ≤ _ := findL_le
        rw [List.length_map] at hle
        cases hi : (findL k (r.map fun p => p.1)).1 with
        | zero => rfl
        | succ i =>
          rw [hi] at hle
          have hlt : i < r.length := by omega
          simp only [Nat.add_eq_zero_iff, Nat.one_ne_zero, and_false, if_false, Nat.add_sub_cancel, List.getElem?_cons_succ]
          rw [List.getElem?_eq_getElem hlt]; rfl
theorem floor_mid {A M B : List It} {k : Sp} (hA : ∀ x ∈ A, x.1.lt k) (hB : ∀ x ∈ B, k.lt x.1) (hM : A = [] ∨ ∃ z, floorL M k = some z) : floorL (A ++ M ++ B) k = floorL M k := by
  have key : ∀ (M : List It), floorL (M ++ B) k = floorL M k := by
    intro M
    induction M with
    | nil => exact floor_none hB
    | cons z r ih => show floorL (z :: (r ++ B)) k = _; rw [floorL, floorL, ih]
  rcases hM with rfl | ⟨z, hz⟩
  · rw [List.nil_append]; exact key M
  · rw [List.append_assoc]
    clear hB
    induction A with
    | nil => exact key M
    | cons y A ih =>
      rw [List.cons_append, floorL, if_neg (Sp.asym (hA y List.mem_cons_self)), ih (fun x hx => hA x (List.mem_cons_of_mem _ hx)), hz]; rfl
theorem leafAt_floor : ∀ (h : Nat) {lo : Nat} {n : Nd h} {k : Sp}, wfC lo h n.2 → 1 ≤ lo → Srt (flat h n.2) → floorL (leafAt h n k) k = floorL (flat h n.2) k ∧ Srt (leafAt h n k)
  | 0, lo, n, k, _, _, hs => ⟨rfl, hs⟩
  | h + 1, lo, n, k, hw, hlo, hs => by
    have hs' : Srt (flatK (kdsOf n)) := hs
    have h0 : 0 < (kdsOf n).length := Nat.lt_of_lt_of_le hlo hw.1
    obtain ⟨kid, hk⟩ : ∃ kid, (kdsOf n)[wayI h k (kdsOf n)]? = some kid := get_lt (wayI_lt h0)
    have hwk := hw.2.2 kid (List.mem_of_getElem? hk)
    obtain ⟨w1, w2, w3⟩ := way_spec (wf_kids1 hw) hs' hk
    have hs2 := hs'
    rw [w1] at hs2
    obtain ⟨i1, i2⟩ := leafAt_floor h hwk (by omega) (srt_mid hs2) (k := k)
    rw [leafAt_ok hk]
    refine ⟨?_, i2⟩
    rw [i1]
    show _ = floorL (flatK (kdsOf n)) k
    rw [w1, floor_mid w2 w3]
    by_cases hz : wayI h k (kdsOf n) = 0
    · left; rw [hz]; rfl
    · right
      obtain ⟨y, hy, hyk⟩ := (findR_spec (k := k) (l := kksOf h (kdsOf n)) (n := (kksOf h (kdsOf n)).length) (Nat.le_refl _)).2 (by show 0 < wayI h k (kdsOf n); omega)
      have hy' : (kksOf h (kdsOf n))[wayI h k (kdsOf n)]? = some y := hy
      rw [kks_get hk] at hy'
      obtain ⟨z, r, h3, h4⟩ := head_flat h kid.2 (Nat.le_refl 1) (hwk.mono (by omega))
      rw [h4] at hy'
      cases hy'
      exact floor_some (srt_mid hs2) (w := z) (by rw [h3]; exact List.mem_cons_self) hyk
def floorT (t : TreeV) (k : Sp) : Option It := match rootT t with | none => none | some ⟨h, n⟩ => floorL (leafAt h n k) k
theorem good_floor {t : TreeV} {x : List It} (hg : GoodT t x) (k : Sp) : floorT t k = floorL x k := by
  have hw := hg.wf; have hf := hg.fl; have hs := hg.st
  unfold floorT
  cases hr : rootT t with
  | none => rw [hr] at hf; cases hf; rfl
  | some s =>
    obtain ⟨h, n⟩ := s
    rw [hr] at hf hw
    cases hf
    exact (leafAt_floor h hw.1 (Nat.le_refl 1) hs).1
def atM (p : Sp) (m : Int) : Sp := ⟨p.br, p.vo, p.bl, m⟩
def samePl (a b : Sp) : Prop := a.br = b.br ∧ a.vo = b.vo ∧ a.bl = b.bl
instance (a b : Sp) : Decidable (samePl a b) := inferInstanceAs (Decidable (_ ∧ _ ∧ _))
def topN (x : List It) (p : Sp) (m : Int) : Option Int := (floorL x (atM p m)).bind fun z => if samePl z.1 p then some z.1.nu else none
theorem top_iff {x : List It} (hs : Srt x) {p : Sp} {m v : Int} : topN x p m = some v ↔ (∃ z ∈ x, z.1 = atM p v) ∧ v ≤ m ∧ ∀ w, (∃ z ∈ x, z.1 = atM p w) → w ≤ m → w ≤ v := by
  unfold topN
  constructor
  · intro h
    cases hf : floorL x (atM p m) with
    | none => rw [hf] at h; cases h
    | some z =>
      rw [hf] at h
      simp only [Option.bind_some] at h
      by_cases hp : samePl z.1 p
      · rw [if_pos hp] at h
        cases h
        obtain ⟨h1, h2⟩ := floor_mem hf
        have e : z.1 = atM p z.1.nu := Sp.ext' hp.1 hp.2.1 hp.2.2 rfl
        have hle : z.1.nu ≤ m := by
          have h9 := h2; rw [Sp.lt_iff] at h9; simp only [atM] at h9; unfold samePl at hp; omega
        refine ⟨⟨z, h1, e⟩, hle, ?_⟩
        rintro w ⟨y, hy, hyw⟩ hwm
        have := floor_top hs hf y hy (by rw [hyw, Sp.lt_iff]; simp only [atM]; omega)
        rcases this with rfl | h3
        · rw [hyw] at e ⊢; simp [atM]
        · rw [hyw, e, Sp.lt_iff] at h3; simp only [atM] at h3; omega
      · rw [if_neg hp] at h; cases h
  · rintro ⟨⟨y, hy, hyv⟩, hvm, hmax⟩
    obtain ⟨z, hz⟩ := floor_some (k := atM p m) hs hy (by rw [hyv, Sp.lt_iff]; simp only [atM]; omega)
    rw [hz]
    simp only [Option.bind_some]
    obtain ⟨h1, h2⟩ := floor_mem hz
    have h3 := floor_top hs hz y hy (by rw [hyv, Sp.lt_iff]; simp only [atM]; omega)
    have hp : samePl z.1 p := by
      rcases h3 with h | h
      · rw [← h, hyv]; exact ⟨rfl, rfl, rfl⟩
      · rw [hyv, Sp.lt_iff] at h; rw [Sp.lt_iff] at h2; simp only [atM] at h h2; unfold samePl; omega
    rw [if_pos hp]
    have e : z.1 = atM p z.1.nu := Sp.ext' hp.1 hp.2.1 hp.2.2 rfl
    have hle : z.1.nu ≤ m := by have h9 := h2; rw [Sp.lt_iff] at h9; simp only [atM] at h9; unfold samePl at hp; omega
    have h4 := hmax z.1.nu ⟨z, h1, e⟩ hle
    have h5 : v ≤ z.1.nu := by
      rcases h3 with h | h
      · rw [← h, hyv]; exact Int.le_refl _
      · rw [hyv, e, Sp.lt_iff] at h; simp only [atM] at h; omega
    rw [show z.1.nu = v by omega]
theorem top_none {x : List It} (hs : Srt x) {p : Sp} {m : Int} : topN x p m = none ↔ ∀ w, (∃ z ∈ x, z.1 = atM p w) → ¬ w ≤ m := by
  constructor
  · rintro h w ⟨y, hy, hyw⟩ hwm
    obtain ⟨z, hz⟩ := floor_some (k := atM p m) hs hy (by rw [hyw, Sp.lt_iff]; simp only [atM]; omega)
    obtain ⟨h1, h2⟩ := floor_mem hz
    have h3 := floor_top hs hz y hy (by rw [hyw, Sp.lt_iff]; simp only [atM]; omega)
    have hp : samePl z.1 p := by
      rcases h3 with h | h
      · rw [← h, hyw]; exact ⟨rfl, rfl, rfl⟩
      · rw [hyw, Sp.lt_iff] at h; rw [Sp.lt_iff] at h2; simp only [atM] at h h2; unfold samePl; omega
    unfold topN at h
    rw [hz] at h
    simp [hp] at h
  · intro h
    cases ht : topN x p m with
    | none => rfl
    | some v => obtain ⟨h1, h2, _⟩ := (top_iff hs).1 ht; exact absurd h2 (h v h1)
theorem top_ext {x y : List It} (hx : Srt x) (hy : Srt y) {p : Sp} {m m' : Int} (h : ∀ w, ((∃ z ∈ x, z.1 = atM p w) ∧ w ≤ m) ↔ ((∃ z ∈ y, z.1 = atM p w) ∧ w ≤ m')) : topN x p m = topN y p m' := by
  cases hv : topN x p m with
  | none => exact ((top_none hy).2 (fun w h1 h2 => (top_none hx).1 hv w ((h w).2 ⟨h1, h2⟩).1 ((h w).2 ⟨h1, h2⟩).2)).symm
  | some v =>
    obtain ⟨h1, h2, h3⟩ := (top_iff hx).1 hv
    refine ((top_iff hy).2 ⟨((h v).1 ⟨h1, h2⟩).1, ((h v).1 ⟨h1, h2⟩).2, fun w k1 k2 => ?_⟩).symm
    obtain ⟨g1, g2⟩ := (h w).2 ⟨k1, k2⟩
    exact h3 w g1 g2
structure Tw where
  alive : Bool
  parent : Int
  base : Int
  num : Int
  deriving Inhabited
def Tw.cs (w : Tw) : List AV := [.v (.bool w.alive), .v (.int .i64 w.parent), .v (.int .u64 w.base), .v (.int .u64 w.num)]
def Tw.z : Tw := ⟨false, 0, 0, 0⟩
structure Fo (F : List Tw) : Prop where
  len : F.length = 16
  /-- whose branch is alive, hangs on one that stands ahead of it and is alive -/
  up : ∀ (i : Nat) (w : Tw), F[i]? = some w → w.alive = true → ∃ j : Nat, w.parent = (j : Int) ∧ j < i ∧ (j = 0 ∨ ∃ v, F[j]? = some v ∧ v.alive = true)
  root : ∃ w, F[0]? = some w ∧ w.num = 0 ∧ w.alive = false
def newF : List Tw := List.replicate 16 Tw.z
theorem fo_new : Fo newF where
  len := rfl
  up := fun i w h ha => by
    unfold newF at h
    rw [List.getElem?_replicate] at h
    split at h
    · cases h; cases ha
    · cases h
  root := ⟨Tw.z, rfl, rfl, rfl⟩
def aliveF (F : List Tw) (i : Nat) : Bool := i == 0 || (F[i]?.getD Tw.z).alive
theorem fo_fork {F : List Tw} (h : Fo F) {i j : Nat} (hi : 1 ≤ i) (hj : j < i) (hp : aliveF F j = true) {base num : Int} {old : Tw} (ho : F[i]? = some old) (hoa : old.alive = false) : Fo (F.set i ⟨true, (j : Int), base, num⟩) := by
  have hl := (List.getElem?_eq_some_iff.1 ho).1
  refine ⟨by rw [List.length_set]; exact h.len, fun q w hq ha => ?_, ?_⟩
  · by_cases e : i = q
    · subst e
      rw [List.getElem?_set_self hl] at hq
      cases hq
      refine ⟨j, rfl, hj, ?_⟩
      unfold aliveF at hp
      by_cases h0 : j = 0
      · exact .inl h0
      · right
        obtain ⟨v, hv⟩ : ∃ v, F[j]? = some v := get_lt (by omega)
        rw [hv] at hp
        refine ⟨v, by rw [List.getElem?_set_ne (by omega)]; exact hv, ?_⟩
        simpa [h0] using hp
    · rw [List.getElem?_set_ne e] at hq
      obtain ⟨p, h1, h2, h3⟩ := h.up q w hq ha
      refine ⟨p, h1, h2, h3.imp id (fun ⟨v, k1, k2⟩ => ?_)⟩
      by_cases e2 : i = p
      · subst e2; rw [ho] at k1; cases k1; rw [hoa] at k2; cases k2
      · exact ⟨v, by rw [List.getElem?_set_ne e2]; exact k1, k2⟩
  · obtain ⟨w, h1, h2⟩ := h.root
    exact ⟨w, by rw [List.getElem?_set_ne (by omega)]; exact h1, h2⟩
structure St where
  br : Int
  fr : Int
  up : Int
  deriving DecidableEq
def St.cs (s : St) : List AV := [.v (.int .i64 s.br), .v (.int .u64 s.fr), .v (.int .u64 s.up)]
def lineGo (F : List Tw) : Nat → Nat → List St
  | 0, _ => []
  | n + 1, i => if i = 0 then [] else let x := F[i]?.getD Tw.z; ⟨x.parent, (F[x.parent.toNat]?.getD Tw.z).num, x.base⟩ :: lineGo F n x.parent.toNat
def lineF (F : List Tw) (i : Nat) (m : Int) : List St := ⟨i, (F[i]?.getD Tw.z).num, m⟩ :: lineGo F 16 i
theorem lineGo_len (F : List Tw) : ∀ n i, (lineGo F n i).length ≤ n
  | 0, i => Nat.le_refl 0
  | n + 1, i => by
    have := lineGo_len F n (F[i]?.getD Tw.z).parent.toNat
    unfold lineGo
    by_cases h : i = 0
    · rw [if_pos h]; exact Nat.zero_le _
    · rw [if_neg h]; simp only [List.length_cons]; omega
theorem lineGo_fuel {F : List Tw} (h : Fo F) : ∀ (i n n' : Nat), i ≤ n → i ≤ n' → (i = 0 ∨ ∃ v, F[i]? = some v ∧ v.alive = true) → lineGo F n i = lineGo F n' i := by
  intro i
  induction i using Nat.strongRecOn with
  | _ i ih =>
    intro n n' h1 h2 hal
    by_cases h0 : i = 0
    · subst h0; cases n <;> cases n' <;> simp [lineGo]
    · obtain ⟨n, rfl⟩ : ∃ k, n = k + 1 := ⟨n - 1, by omega⟩
      obtain ⟨n', rfl⟩ : ∃ k, n' = k + 1 := ⟨n' - 1, by omega⟩
      obtain ⟨v, hv, ha⟩ := hal.resolve_left h0
      obtain ⟨j, k1, k2, k3⟩ := h.up i v hv ha
      unfold lineGo
      rw [if_neg h0, if_neg h0, hv]
      simp only [Option.getD_some]
      rw [k1, Int.toNat_natCast, ih j k2 n n' (by omega) (by omega) k3]
def numV (x : List It) : List St → Int → Int → Option Int
  | [], _, _ => none
  | s :: r, vol, blk => match topN x ⟨s.br, vol, blk, 0⟩ s.up with
    | some v => if s.fr < v then some v else numV x r vol blk
    | none => numV x r vol blk
theorem numV_hit {x : List It} {L : List St} {i : Nat} {s : St} {vol blk v : Int} (h : L[i]? = some s) (hp : numV x L vol blk = numV x (L.drop i) vol blk) (ht : topN x ⟨s.br, vol, blk, 0⟩ s.up = some v) (hf : s.fr < v) : numV x L vol blk = some v := by
  rw [hp, drop_get h, numV, ht]; exact if_pos hf
theorem numV_miss {x : List It} {L : List St} {i : Nat} {s : St} {vol blk : Int} (h : L[i]? = some s) (hp : numV x L vol blk = numV x (L.drop i) vol blk) (ht : ∀ v, topN x ⟨s.br, vol, blk, 0⟩ s.up = some v → ¬ s.fr < v) : numV x L vol blk = numV x (L.drop (i + 1)) vol blk := by
  rw [hp, drop_get h, numV]
  cases hv : topN x ⟨s.br, vol, blk, 0⟩ s.up with
  | none => rfl
  | some v => exact if_neg (ht v hv)
theorem numV_end {x : List It} {L : List St} {i : Nat} {vol blk : Int} (h : L.length ≤ i) (hp : numV x L vol blk = numV x (L.drop i) vol blk) : numV x L vol blk = none := by
  rw [hp, List.drop_of_length_le h]; rfl
def entV (x : List It) (L : List St) (vol blk : Nat) : Option Ent := (numV x L vol blk).map fun v => ⟨vol, blk, v⟩
def rowV (x : List It) (L : List St) (vol n : Nat) : List Ent := (List.range n).filterMap (entV x L vol)
def allV (x : List It) (L : List St) (m n : Nat) : List Ent := (List.range m).flatMap fun vol => rowV x L vol n
theorem rowV_succ (x : List It) (L : List St) (vol n : Nat) : rowV x L vol (n + 1) = rowV x L vol n ++ (entV x L vol n).toList := by
  unfold rowV; rw [List.range_succ, List.filterMap_append, List.filterMap_cons]; cases entV x L vol n <;> rfl
theorem allV_succ (x : List It) (L : List St) (m n : Nat) : allV x L (m + 1) n = allV x L m n ++ rowV x L m n := by
  unfold allV; rw [List.range_succ, List.flatMap_append]; simp
def twsA (F : List Tw) : List AV := (F.map Tw.cs).flatten
theorem tw_flat {F : List Tw} {i : Nat} {w : Tw} (h : F[i]? = some w) : ((twsA F).drop (0 + 0 + ((i : Nat) : Int).toNat * 4)).take 4 = w.cs ∧ Nat.ble (0 + 0 + ((i : Nat) : Int).toNat * 4 + 4) (twsA F).length = true := by
  have h1 := flat_drop (f := Tw.cs) (n := 4) (fun _ => rfl) (ext := []) h
  rw [List.append_nil, Nat.zero_add] at h1
  rw [Int.toNat_natCast, Nat.zero_add]
  exact ⟨h1.1, Nat.ble_eq_true_of_le h1.2⟩
theorem tw_at {F : List Tw} {i : Nat} {w : Tw} (h : F[i]? = some w) {k : Nat} {c : AV} (hk : w.cs[k]? = some c) : (twsA F)[0 + 0 + ((i : Nat) : Int).toNat * 4 + k]? = some c := by
  have h1 := (tw_flat h).1
  have h2 : k < 4 := by have := (List.getElem?_eq_some_iff.1 hk).1; exact this
  rw [← h1, List.getElem?_take, if_pos h2, List.getElem?_drop] at hk
  exact hk
theorem tw_set {F : List Tw} {i : Nat} {w v : Tw} (h : F[i]? = some w) : (twsA F).take (0 + 0 + ((i : Nat) : Int).toNat * 4) ++ v.cs ++ (twsA F).drop (0 + 0 + ((i : Nat) : Int).toNat * 4 + 4) = twsA (F.set i v) := by
  rw [Int.toNat_natCast]
  have := flat_set (f := Tw.cs) (n := 4) (fun _ => rfl) (x := v) (ext := []) (List.getElem?_eq_some_iff.1 h).1
  simp only [List.append_nil] at this
  simpa [twsA] using this
def numF (F : List Tw) (i : Nat) : Int := if aliveF F i then (F[i]?.getD Tw.z).num else 0
def forkF (F : List Tw) (i j : Nat) (base num : Int) : Int × List Tw :=
  if (F[i]?.getD Tw.z).alive then (5, F) else if aliveF F j = false then (4, F) else if base < (F[j]?.getD Tw.z).num ∨ num ≤ base then (15, F) else (0, F.set i ⟨true, (j : Int), base, num⟩)
theorem fo_forkF {F : List Tw} (h : Fo F) {i j : Nat} (hi : 1 ≤ i) (hi2 : i < 16) (hj : j ≤ i) (base num : Int) : Fo (forkF F i j base num).2 := by
  unfold forkF
  obtain ⟨w, hw⟩ : ∃ w, F[i]? = some w := get_lt (by rw [h.len]; exact hi2)
  split
  · exact h
  · rename_i ha
    rw [hw] at ha
    have ha' : w.alive = false := by simpa using ha
    split
    · exact h
    · rename_i hj2
      split
      · exact h
      · have hj3 : aliveF F j = true := by simpa using hj2
        refine fo_fork h hi ?_ hj3 hw ha'
        rcases Nat.lt_or_eq_of_le hj with h1 | rfl
        · exact h1
        · exfalso
          unfold aliveF at hj3
          rw [hw] at hj3
          simp only [Option.getD_some, ha', Bool.or_false, beq_iff_eq] at hj3
          omega
def okL (F : List Tw) (i : Nat) (m : Int) : Bool := aliveF F i && !decide (m < (F[i]?.getD Tw.z).num)
def viewA (t : TreeV) (L : List St) (m : Int) : AV := .agg [encT t, .sl 3 (L.map St.cs), .v (.int .u64 m)]
theorem view_one (t : TreeV) (L : List St) (m : Int) : [encT t, AV.sl 3 (L.map St.cs), .v (.int .u64 m)].all AV.one = true := by
  have := encT_one t
  simp only [List.all_cons, List.all_nil, Bool.and_true] at this ⊢
  rw [this]; rfl
def eA (e : Ent) : List AV := [.agg e.cs]
def evA (l : List Ent) (pre : List (List AV)) (x : List AV) : Prop := ∃ e, l[pre.length]? = some e ∧ pre = (l.take pre.length).map eA ∧ x = eA e
theorem evA_at {l l' r : List Ent} {e : Ent} (h : l = l' ++ e :: r) : evA l (l'.map eA) (eA e) := by
  subst h
  exact ⟨e, by simp, by simp, rfl⟩
theorem all_split (x : List It) (L : List St) {m n vol blk : Nat} {e : Ent} (h1 : vol < m) (h2 : blk < n) (he : entV x L vol blk = some e) : ∃ r, allV x L m n = (allV x L vol n ++ rowV x L vol blk) ++ e :: r := by
  have k1 : ∀ d, ∃ r, rowV x L vol (blk + 1 + d) = rowV x L vol blk ++ e :: r := by
    intro d
    induction d with
    | zero => exact ⟨[], by rw [Nat.add_zero, rowV_succ, he]; rfl⟩
    | succ d ih => obtain ⟨r, hr⟩ := ih; exact ⟨r ++ (entV x L vol (blk + 1 + d)).toList, by rw [show blk + 1 + (d + 1) = blk + 1 + d + 1 by omega, rowV_succ, hr]; simp⟩
  obtain ⟨r, hr⟩ := k1 (n - (blk + 1))
  rw [show blk + 1 + (n - (blk + 1)) = n by omega] at hr
  have k2 : ∀ d, ∃ r, allV x L (vol + 1 + d) n = (allV x L vol n ++ rowV x L vol blk) ++ e :: r := by
    intro d
    induction d with
    | zero => exact ⟨r, by rw [Nat.add_zero, allV_succ, hr]; simp⟩
    | succ d ih => obtain ⟨r, h⟩ := ih; exact ⟨r ++ rowV x L (vol + 1 + d) n, by rw [show vol + 1 + (d + 1) = vol + 1 + d + 1 by omega, allV_succ, h]; simp⟩
  obtain ⟨r2, hr2⟩ := k2 (m - (vol + 1))
  rw [show vol + 1 + (m - (vol + 1)) = m by omega] at hr2
  exact ⟨r2, hr2⟩
theorem rowV_len (x : List It) (L : List St) (vol n : Nat) : (rowV x L vol n).length ≤ n := by
  unfold rowV; exact Nat.le_trans (List.length_filterMap_le _ _) (by simp)
theorem allV_len (x : List It) (L : List St) : ∀ (m n : Nat), (allV x L m n).length ≤ m * n
  | 0, n => by simp [allV]
  | m + 1, n => by rw [allV_succ, List.length_append, Nat.add_mul, Nat.one_mul]; have := allV_len x L m n; have := rowV_len x L m n; omega
end Go.Proofs.Ytpkodkoooaldlaa.A

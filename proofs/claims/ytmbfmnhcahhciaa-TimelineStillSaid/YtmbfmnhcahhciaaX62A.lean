/- Layer 62: walks of slices.IndexFunc, DeleteFunc and Delete at strings. -/
import Derived.Test.YtmbfmnhcahhciaaProg
import Derived.KernelRfl
import Derived.Test.YtmbfmnhcahhciaaX62S
namespace Go.Proofs.Ytmbfmnhcahhciaa.A
open Go Go.RowKit
set_option linter.unusedVariables false
set_option linter.unusedSimpArgs false
set_option maxRecDepth 100000

theorem TF.zavS : ZeroAV Try.prog 42 (bts []) := ⟨.v (.slice none 0 0), by kernel_rfl, .one (.nil 1)⟩
theorem TF.sl74 : sliceT Try.prog 74 = some 9 := by kernel_rfl
theorem TF.sz9 : szT Try.prog 9 = some 1 := by kernel_rfl
theorem TF.agg9 : aggT Try.prog 9 = some false := by kernel_rfl
theorem TF.en34 : entersT Try.prog 34 := enters_of Try.func34 (by kernel_rfl) (by kernel_rfl)
theorem TF.zraw9 : zeroT Try.prog 9 = some [(.string ⟨#[]⟩)] := by kernel_rfl
theorem TF.mixed : Try.prog.follows .mixedOrders = true := by kernel_rfl

theorem take_setS {α : Type} {l : List α} {i : Nat} {x : α} (h : i < l.length) : (l.set i x).take (i + 1) = l.take i ++ [x] := by
  rw [takeS (l := l.set i x) (k := i) (x := x) (by simp [h])]
  congr 1
  apply List.ext_getElem?
  intro j
  rw [List.getElem?_take, List.getElem?_take]
  by_cases hj : j < i
  · rw [if_pos hj, if_pos hj, List.getElem?_set_ne (by omega)]
  · rw [if_neg hj, if_neg hj]
theorem ro_ro (os : List OE) : ro (ro os) = ro os := by simp [ro]
theorem filt_take {p : ByteArray → Bool} {l : List ByteArray} {k : Nat} {x : ByteArray} (h : l[k]? = some x) : (l.take (k + 1)).filter p = (l.take k).filter p ++ (if p x = true then [x] else []) := by
  rw [takeS h, List.filter_append]
  by_cases hp : p x = true <;> simp [hp]
theorem filt_first {p : ByteArray → Bool} {l : List ByteArray} {k : Nat} (h : l.findIdx? p = some k) : k < l.length ∧ (l.take (k + 1)).filter (fun s => !p s) = l.take k := by
  obtain ⟨x, hx, hp⟩ := fidx_get h
  refine ⟨(List.getElem?_eq_some_iff.1 hx).1, ?_⟩
  rw [filt_take hx]
  simp only [hp, Bool.not_true, Bool.false_eq_true, if_false, List.append_nil]
  rw [List.filter_eq_self]
  intro a ha
  obtain ⟨j, hj⟩ := List.getElem?_of_mem ha
  rw [List.getElem?_take] at hj
  split at hj
  · rename_i hjk
    have := (List.findIdx?_eq_some_iff_getElem.1 h).2.2 j hjk
    obtain ⟨hjl, rfl⟩ := List.getElem?_eq_some_iff.1 hj
    simpa using this
  · cases hj
theorem filt_all {p : ByteArray → Bool} {l : List ByteArray} (h : l.findIdx? p = none) : l.filter (fun s => !p s) = l := by
  rw [List.filter_eq_self]
  intro a ha
  rw [List.findIdx?_eq_none_iff] at h
  simp [h a ha]

theorem idxV_ok {f : FuncId} {caps : List AV} (p : ByteArray → Bool) (hen : entersT Try.prog f) {os : List OE} (hf : ∀ s, AC Try.prog f (.v (.string s) :: caps) (ro os) (fun r n => n = [] ∧ r = boolA (p s))) (l : List ByteArray) (hl : l.length ≤ 1000000) {g cap : Nat} {ext : List AV} {fl : Bool} : AC Try.prog 34 [.v (.slice (some ⟨g, 0, none⟩) l.length cap), .fn f caps] (⟨g, fl, .box (strsC l ++ ext)⟩ :: os) (fun r n => n = [] ∧ r = .v (.int .i64 (optI (l.findIdx? p)))) := by
  refine ac_of_awp (rs := [4]) (nt := 19) Try.func34 rfl rfl rfl rfl (fun w0 C0 hq => ?_)
  refine awp_seq ?_
  refine awp_region ?_
  refine r_assign rfl rfl ?_
  refine awl_nil ?_
  refine x_then ?_
  refine awp_seq ?_
  refine awp_seq ?_
  refine awp_region ?_
  refine r_move rfl rfl ?_
  first | (refine r_lenS rfl rfl TF.sl74 rfl ?_) | (refine r_lenNil rfl TF.sl74 rfl ?_) | (refine r_lenV rfl TF.sl74 rfl ?_)
  refine r_move rfl rfl ?_
  refine awl_nil ?_
  refine x_then ?_
  refine awp_block ?_
  refine awp_loop (fun nn0 S => ∃ k : Nat, S = ⟨19, [(0, .a (.v (.slice (some ⟨g, 0, none⟩) l.length cap))), (1, .a (.fn f caps)), (7, .a (.v (.int .i64 (l.length)))), (8, .a (.v (.int .i64 ((k : Int)))))], ⟨g, false, .box (strsC l ++ ext)⟩ :: ro os⟩ ∧ nn0 = l.length - k ∧ (k ≤ l.length) ∧ ((l.take k).findIdx? p = none)) (l.length - (0)) ⟨19, [(0, .a (.v (.slice (some ⟨g, 0, none⟩) l.length cap))), (1, .a (.fn f caps)), (7, .a (.v (.int .i64 (l.length)))), (8, .a (.v (.int .i64 (((0) : Int)))))], ⟨g, false, .box (strsC l ++ ext)⟩ :: ro os⟩ ⟨rfl, (Slots.cons rfl (by first | exact .refl _ | exact .nilOwn _ _ | exact .nilSl _ | exact .ownSl _ _ _  | exact SV.le.of_eq (by simp)) (Slots.cons rfl (by first | exact .refl _ | exact .nilOwn _ _ | exact .nilSl _ | exact .ownSl _ _ _  | exact SV.le.of_eq (by simp)) (Slots.cons rfl (by first | exact .refl _ | exact .nilOwn _ _ | exact .nilSl _ | exact .ownSl _ _ _  | exact SV.le.of_eq (by simp)) (Slots.cons rfl (by first | exact .refl _ | exact .nilOwn _ _ | exact .nilSl _ | exact .ownSl _ _ _  | exact SV.le.of_eq (by simp)) Slots.nil)))), (by first | exact List.Sublist.refl _ | exact .cons_cons _ (.cons _ (.refl _)) | exact List.nil_sublist _ | exact .cons _ (.refl _) | exact .cons _ (.cons _ (.refl _)) | exact .cons _ (.cons _ (.cons _ (.refl _))) | exact .cons _ (.cons _ (.cons _ (.cons _ (.refl _)))) | exact .cons_cons _ (List.nil_sublist _))⟩ ⟨0, rfl, rfl, Nat.zero_le _, rfl⟩ ?_
  rintro nn0 _ ⟨k, rfl, rfl, hk, hno⟩
  refine awp_seq ?_
  refine awp_region ?_
  refine r_cmp rfl rfl rfl rfl ?_
  refine awl_nil ?_
  refine x_then ?_
  refine awp_seq ?_
  refine awp_cond rfl (fun hc0 => ?_) (fun hc0 => ?_)
  ·
    have hltx : k < l.length := by have := of_decide_eq_true hc0; simpa using this
    obtain ⟨x, hx⟩ := get_lt hltx
    refine awp_skip ?_
    refine x_then ?_
    refine awp_seq ?_
    refine awp_block ?_
    refine awp_seq ?_
    refine awp_region ?_
    refine r_move rfl rfl ?_
    refine r_assign rfl rfl ?_
    refine awl_nil ?_
    refine x_then ?_
    refine awp_seq ?_
    refine awp_region ?_
    refine r_move rfl rfl ?_
    refine r_move rfl rfl ?_
    refine r_move rfl rfl ?_
    refine r_indexV rfl rfl TF.sl74 TF.sz9 (by omega) (by omega) rfl ?_
    refine r_load1b 0 rfl rfl (str_at hx) TF.agg9 rfl ?_
    refine r_callO hq rfl rfl (.cons (.ev rfl rfl) .nil) (hf x) rfl hen (.cons _ (.refl _)) rfl (fun r nobjs hr => ?_)
    obtain ⟨rfl, rfl⟩ := hr
    refine awl_nil ?_
    refine x_then ?_
    refine awp_cond rfl (fun hc1 => ?_) (fun hc1 => ?_)
    ·
      refine awp_seq ?_
      refine awp_region ?_
      refine r_move rfl rfl ?_
      refine r_assign rfl rfl ?_
      refine awl_nil ?_
      refine x_then ?_
      refine awp_ret ?_
      refine x_blockR ?_
      refine x_thenR ?_
      refine x_thenR ?_
      refine x_blockR ?_
      refine x_thenR ?_
      exact ⟨(.inl rfl), _, [], (.one (by first | exact .mk rfl rfl | exact .nil rfl)), ⟨rfl, by rw [fidx_hit hx hc1 hno]; rfl⟩, (List.nil_sublist _), (by simp)⟩
    ·
      refine awp_skip ?_
      refine x_block ?_
      refine x_then ?_
      refine awp_region ?_
      refine r_ari _ rfl rfl rfl (wrap_id (by first | omega | (simp; omega))) rfl ?_
      refine r_move rfl rfl ?_
      refine awl_nil ?_
      refine x_then ?_
      refine ⟨l.length - (k + 1), ⟨19, [(0, .a (.v (.slice (some ⟨g, 0, none⟩) l.length cap))), (1, .a (.fn f caps)), (7, .a (.v (.int .i64 (l.length)))), (8, .a (.v (.int .i64 (((k + 1) : Int)))))], ⟨g, false, .box (strsC l ++ ext)⟩ :: ro os⟩, ⟨rfl, (Slots.cons rfl (by first | exact .refl _ | exact .nilOwn _ _ | exact .nilSl _ | exact .ownSl _ _ _  | exact SV.le.of_eq (by simp)) (Slots.cons rfl (by first | exact .refl _ | exact .nilOwn _ _ | exact .nilSl _ | exact .ownSl _ _ _  | exact SV.le.of_eq (by simp)) (Slots.cons rfl (by first | exact .refl _ | exact .nilOwn _ _ | exact .nilSl _ | exact .ownSl _ _ _  | exact SV.le.of_eq (by simp)) (Slots.cons rfl (by first | exact .refl _ | exact .nilOwn _ _ | exact .nilSl _ | exact .ownSl _ _ _  | exact SV.le.of_eq (by simp)) Slots.nil)))), (by first | exact List.Sublist.refl _ | exact .cons_cons _ (.cons _ (.refl _)) | exact List.nil_sublist _ | exact .cons _ (.refl _) | exact .cons _ (.cons _ (.refl _)) | exact .cons _ (.cons _ (.cons _ (.refl _))) | exact .cons _ (.cons _ (.cons _ (.cons _ (.refl _)))) | exact .cons_cons _ (List.nil_sublist _))⟩, (by omega), ⟨k + 1, rfl, rfl, (by omega), (fidx_step hx hc1 hno)⟩⟩
  ·
    have hge : l.length ≤ k := by have := of_decide_eq_false hc0; simp at this; omega
    refine awp_exit ?_
    refine x_thenE ?_
    refine x_thenE ?_
    refine x_blockE ?_
    refine x_then ?_
    refine awp_seq ?_
    refine awp_region ?_
    refine r_assign rfl rfl ?_
    refine awl_nil ?_
    refine x_then ?_
    refine awp_ret ?_
    exact ⟨(.inl rfl), _, [], (.one (by first | exact .mk rfl rfl | exact .nil rfl)), ⟨rfl, by rw [fidx_end hge hno]; rfl⟩, (List.nil_sublist _), (by simp)⟩

theorem idxN_ok {f : FuncId} {caps : List AV} : AC Try.prog 34 [.v (.slice none 0 0), .fn f caps] [] (fun r n => n = [] ∧ r = .v (.int .i64 (-1))) := by
  refine ac_of_awp (rs := [4]) (nt := 19) Try.func34 rfl rfl rfl rfl (fun w0 C0 hq => ?_)
  refine awp_seq ?_
  refine awp_region ?_
  refine r_assign rfl rfl ?_
  refine awl_nil ?_
  refine x_then ?_
  refine awp_seq ?_
  refine awp_seq ?_
  refine awp_region ?_
  refine r_move rfl rfl ?_
  first | (refine r_lenS rfl rfl TF.sl74 rfl ?_) | (refine r_lenNil rfl TF.sl74 rfl ?_) | (refine r_lenV rfl TF.sl74 rfl ?_)
  refine r_move rfl rfl ?_
  refine awl_nil ?_
  refine x_then ?_
  refine awp_block ?_
  refine awp_loop (fun nn0 S => S = ⟨19, [(7, .a (.v (.int .i64 (0)))), (8, .a (.v (.int .i64 (0))))], []⟩ ∧ nn0 = 0) (0) ⟨19, [(7, .a (.v (.int .i64 (0)))), (8, .a (.v (.int .i64 (0))))], []⟩ ⟨rfl, (Slots.cons rfl (by first | exact .refl _ | exact .nilOwn _ _ | exact .nilSl _ | exact .ownSl _ _ _  | exact SV.le.of_eq (by simp)) (Slots.cons rfl (by first | exact .refl _ | exact .nilOwn _ _ | exact .nilSl _ | exact .ownSl _ _ _  | exact SV.le.of_eq (by simp)) Slots.nil)), (by first | exact List.Sublist.refl _ | exact .cons_cons _ (.cons _ (.refl _)) | exact List.nil_sublist _ | exact .cons _ (.refl _) | exact .cons _ (.cons _ (.refl _)) | exact .cons _ (.cons _ (.cons _ (.refl _))) | exact .cons _ (.cons _ (.cons _ (.cons _ (.refl _)))) | exact .cons_cons _ (List.nil_sublist _))⟩ ⟨rfl, rfl⟩ ?_
  rintro nn0 _ ⟨rfl, rfl⟩
  refine awp_seq ?_
  refine awp_region ?_
  refine r_cmp rfl rfl rfl rfl ?_
  refine awl_nil ?_
  refine x_then ?_
  refine awp_seq ?_
  refine awp_cond rfl (fun hc0 => ?_) (fun hc0 => ?_)
  ·
    exfalso; exact absurd hc0 (by decide)
  ·
    refine awp_exit ?_
    refine x_thenE ?_
    refine x_thenE ?_
    refine x_blockE ?_
    refine x_then ?_
    refine awp_seq ?_
    refine awp_region ?_
    refine r_assign rfl rfl ?_
    refine awl_nil ?_
    refine x_then ?_
    refine awp_ret ?_
    exact ⟨(.inl rfl), _, [], (.one (by first | exact .mk rfl rfl | exact .nil rfl)), ⟨rfl, rfl⟩, (List.nil_sublist _), (by simp)⟩

set_option maxHeartbeats 1000000 in
theorem delV_ok {f : FuncId} {caps : List AV} (p : ByteArray → Bool) (hen : entersT Try.prog f) {os : List OE} (hf : ∀ s, AC Try.prog f (.v (.string s) :: caps) (ro os) (fun r n => n = [] ∧ r = boolA (p s))) (l : List ByteArray) (hl : l.length ≤ 1000000) {g cap : Nat} {ext : List AV} (hcap : cap = l.length + ext.length) {fl : Bool} : AW Try.prog 54 [.v (.slice (some ⟨g, 0, none⟩) l.length cap), .fn f caps] os [⟨g, fl, .box (strsC l ++ ext)⟩] (fun r n => ∃ ext', cap = (l.filter (fun s => !p s)).length + ext'.length ∧ r = .v (.slice (some ⟨g, 0, none⟩) (l.filter (fun s => !p s)).length cap) ∧ n = [⟨g, true, .box (strsC (l.filter (fun s => !p s)) ++ ext')⟩]) := by
  refine aw_of_awp (rs := [4]) (nt := 42) (so := (ro os ++ [⟨g, true, .box (strsC l ++ ext)⟩])) Try.func54 rfl rfl rfl rfl rfl (fun w0 C0 hq => ?_)
  refine awp_imp (imp_perm List.perm_append_comm) ?_
  refine awp_seq ?_
  refine awp_region ?_
  refine r_assign rfl rfl ?_
  refine awl_nil ?_
  refine x_then ?_
  refine awp_seq ?_
  refine awp_region ?_
  refine r_move rfl rfl ?_
  refine r_move rfl rfl ?_
  refine r_callO hq rfl rfl (.cons (.ev rfl rfl) (.cons (.ev rfl rfl) .nil)) (idxV_ok (os := ro os) p hen (fun s => by rw [ro_ro]; exact hf s) l hl) rfl TF.en34 (List.Sublist.refl _) rfl (fun r nobjs hr => ?_)
  obtain ⟨rfl, rfl⟩ := hr
  refine r_assign rfl rfl ?_
  refine awl_nil ?_
  refine x_then ?_
  refine awp_seq ?_
  refine awp_seq ?_
  refine awp_region ?_
  refine r_move rfl rfl ?_
  refine r_cmp rfl rfl rfl rfl ?_
  refine awl_nil ?_
  refine x_then ?_
  refine awp_cond rfl (fun hc0 => ?_) (fun hc0 => ?_)
  ·
    have hnone : l.findIdx? p = none := optI_none (by have := eq_of_beq hc0; omega)
    refine awp_seq ?_
    refine awp_region ?_
    refine r_move rfl rfl ?_
    refine r_assign rfl rfl ?_
    refine awl_nil ?_
    refine x_then ?_
    refine awp_ret ?_
    refine x_thenR ?_
    exact ⟨(.inl rfl), _, [⟨g, true, .box (strsC l ++ ext)⟩], (.one (by first | exact .mk rfl rfl | exact .nil rfl)), ⟨ext, by rw [filt_all hnone]; exact hcap, by rw [filt_all hnone]; rfl, by rw [filt_all hnone]⟩, (.cons_cons _ (List.nil_sublist _)), (by simp)⟩
  ·
    obtain ⟨k0, hk0⟩ : ∃ k, l.findIdx? p = some k := by
      cases h : l.findIdx? p with
      | none => rw [h] at hc0; exact absurd hc0 (by decide)
      | some k => exact ⟨k, rfl⟩
    rw [hk0]
    obtain ⟨hk1, hk2⟩ := filt_first hk0
    have hoi : optI (some k0) = (k0 : Int) := rfl
    rw [hoi]
    refine awp_skip ?_
    refine x_then ?_
    refine awp_seq ?_
    refine awp_seq ?_
    refine awp_region ?_
    refine r_move rfl rfl ?_
    refine r_ari _ rfl rfl rfl (wrap_id (by first | omega | (simp; omega))) rfl ?_
    refine r_assign rfl rfl ?_
    refine awl_nil ?_
    refine x_then ?_
    refine awp_block ?_
    refine awp_loop (fun nn0 S => ∃ j : Nat, ∃ i : Nat, ∃ cur : List ByteArray, S = ⟨42, [(0, .a (.v (.slice (some ⟨g, 0, none⟩) l.length cap))), (1, .a (.fn f caps)), (5, .a (.v (.int .i64 ((i : Int))))), (6, .a (.v (.int .i64 ((j : Int)))))], ⟨g, true, .box (strsC cur ++ ext)⟩ :: ro os⟩ ∧ nn0 = l.length - j ∧ (j ≤ l.length) ∧ (i < j) ∧ (cur.length = l.length) ∧ (cur.take i = (l.take j).filter (fun s => !p s)) ∧ (cur.drop j = l.drop j)) (l.length - (k0 + 1)) ⟨42, [(0, .a (.v (.slice (some ⟨g, 0, none⟩) l.length cap))), (1, .a (.fn f caps)), (5, .a (.v (.int .i64 (((k0) : Int))))), (6, .a (.v (.int .i64 (((k0 + 1) : Int)))))], ⟨g, true, .box (strsC (l) ++ ext)⟩ :: ro os⟩ ⟨rfl, (Slots.cons rfl (by first | exact .refl _ | exact .nilOwn _ _ | exact .nilSl _ | exact .ownSl _ _ _  | exact SV.le.ownEq (by simp) | exact SV.le.of_eq (by simp)) (Slots.cons rfl (by first | exact .refl _ | exact .nilOwn _ _ | exact .nilSl _ | exact .ownSl _ _ _  | exact SV.le.ownEq (by simp) | exact SV.le.of_eq (by simp)) (Slots.cons rfl (by first | exact .refl _ | exact .nilOwn _ _ | exact .nilSl _ | exact .ownSl _ _ _  | exact SV.le.ownEq (by simp) | exact SV.le.of_eq (by simp)) (Slots.cons rfl (by first | exact .refl _ | exact .nilOwn _ _ | exact .nilSl _ | exact .ownSl _ _ _  | exact SV.le.ownEq (by simp) | exact SV.le.of_eq (by simp)) Slots.nil)))), (by first | exact List.Sublist.refl _ | exact .cons_cons _ (.cons _ (.refl _)) | exact List.nil_sublist _ | exact .cons _ (.refl _) | exact .cons _ (.cons _ (.refl _)) | exact .cons _ (.cons _ (.cons _ (.refl _))) | exact .cons _ (.cons _ (.cons _ (.cons _ (.refl _)))) | exact .cons_cons _ (List.nil_sublist _))⟩ ⟨k0 + 1, k0, l, rfl, rfl, (by omega), (by omega), rfl, hk2.symm, rfl⟩ ?_
    rintro nn0 _ ⟨j, i, cur, rfl, rfl, hj, hij, hcl, hct, hcd⟩
    refine awp_seq ?_
    refine awp_seq ?_
    refine awp_region ?_
    refine r_move rfl rfl ?_
    refine r_move rfl rfl ?_
    first | (refine r_lenS rfl rfl TF.sl74 rfl ?_) | (refine r_lenNil rfl TF.sl74 rfl ?_) | (refine r_lenV rfl TF.sl74 rfl ?_)
    refine r_cmp rfl rfl rfl rfl ?_
    refine awl_nil ?_
    refine x_then ?_
    refine awp_cond rfl (fun hc1 => ?_) (fun hc1 => ?_)
    ·
      have hltj : j < l.length := by have := of_decide_eq_true hc1; omega
      obtain ⟨x, hx⟩ := get_lt hltj
      have hcx : cur[j]? = some x := by have h1 := congrArg (·[0]?) hcd; simpa [hx] using h1
      have hilt : i < cur.length := by omega
      refine awp_skip ?_
      refine x_then ?_
      refine awp_seq ?_
      refine awp_block ?_
      refine awp_seq ?_
      refine awp_region ?_
      refine r_move rfl rfl ?_
      refine r_move rfl rfl ?_
      refine r_indexV rfl rfl TF.sl74 TF.sz9 (by omega) (by omega) rfl ?_
      refine r_load1b 0 rfl rfl (str_at hcx) TF.agg9 rfl ?_
      refine r_assign rfl rfl ?_
      refine awl_nil ?_
      refine x_then ?_
      refine awp_seq ?_
      refine awp_region ?_
      refine r_move rfl rfl ?_
      refine r_move rfl rfl ?_
      refine r_callO hq rfl rfl (.cons (.ev rfl rfl) .nil) (hf x) rfl hen (.cons _ (.refl _)) rfl (fun r nobjs hr => ?_)
      obtain ⟨rfl, rfl⟩ := hr
      refine r_not rfl rfl ?_
      refine awl_nil ?_
      refine x_then ?_
      refine awp_cond rfl (fun hc2 => ?_) (fun hc2 => ?_)
      ·
        have hpx : p x = false := by simpa using hc2
        refine awp_seq ?_
        refine awp_region ?_
        refine r_move rfl rfl ?_
        refine r_move rfl rfl ?_
        refine r_move rfl rfl ?_
        refine r_indexV rfl rfl TF.sl74 TF.sz9 (by omega) (by omega) rfl ?_
        refine r_store 0 rfl rfl rfl TF.sz9 rfl (Nat.ble_eq_true_of_le (by simp [strsC_len]; omega)) rfl ?_
        refine awl_nil ?_
        refine x_then ?_
        refine awp_region ?_
        refine r_move rfl rfl ?_
        refine r_ari _ rfl rfl rfl (wrap_id (by first | omega | (simp; omega))) rfl ?_
        refine r_assign rfl rfl ?_
        refine awl_nil ?_
        refine x_block ?_
        refine x_then ?_
        refine awp_region ?_
        refine r_move rfl rfl ?_
        refine r_ari _ rfl rfl rfl (wrap_id (by first | omega | (simp; omega))) rfl ?_
        refine r_assign rfl rfl ?_
        refine awl_nil ?_
        refine x_then ?_
        refine ⟨l.length - (j + 1), ⟨42, [(0, .a (.v (.slice (some ⟨g, 0, none⟩) l.length cap))), (1, .a (.fn f caps)), (5, .a (.v (.int .i64 (((i + 1) : Int))))), (6, .a (.v (.int .i64 (((j + 1) : Int)))))], ⟨g, true, .box (strsC (cur.set i x) ++ ext)⟩ :: ro os⟩, ⟨rfl, (Slots.cons rfl (by first | exact .refl _ | exact .nilOwn _ _ | exact .nilSl _ | exact .ownSl _ _ _  | exact SV.le.of_eq (by simp)) (Slots.cons rfl (by first | exact .refl _ | exact .nilOwn _ _ | exact .nilSl _ | exact .ownSl _ _ _  | exact SV.le.of_eq (by simp)) (Slots.cons rfl (by first | exact .refl _ | exact .nilOwn _ _ | exact .nilSl _ | exact .ownSl _ _ _  | exact SV.le.of_eq (by simp)) (Slots.cons rfl (by first | exact .refl _ | exact .nilOwn _ _ | exact .nilSl _ | exact .ownSl _ _ _  | exact SV.le.of_eq (by simp)) Slots.nil)))), (by rw [← str_set (ext := ext) (x := x) hilt]; exact List.Sublist.refl _)⟩, (by omega), ⟨j + 1, i + 1, cur.set i x, rfl, rfl, (by omega), (by omega), (by simpa using hcl), (by rw [filt_take hx, ← hct, take_setS hilt]; simp [hpx]), (by rw [List.drop_set]; simp [show i < j + 1 by omega]; rw [← List.drop_drop, ← List.drop_drop, hcd])⟩⟩
      ·
        have hpx : p x = true := by simpa using hc2
        refine awp_skip ?_
        refine x_block ?_
        refine x_then ?_
        refine awp_region ?_
        refine r_move rfl rfl ?_
        refine r_ari _ rfl rfl rfl (wrap_id (by first | omega | (simp; omega))) rfl ?_
        refine r_assign rfl rfl ?_
        refine awl_nil ?_
        refine x_then ?_
        refine ⟨l.length - (j + 1), ⟨42, [(0, .a (.v (.slice (some ⟨g, 0, none⟩) l.length cap))), (1, .a (.fn f caps)), (5, .a (.v (.int .i64 (((i) : Int))))), (6, .a (.v (.int .i64 (((j + 1) : Int)))))], ⟨g, true, .box (strsC (cur) ++ ext)⟩ :: ro os⟩, ⟨rfl, (Slots.cons rfl (by first | exact .refl _ | exact .nilOwn _ _ | exact .nilSl _ | exact .ownSl _ _ _  | exact SV.le.of_eq (by simp)) (Slots.cons rfl (by first | exact .refl _ | exact .nilOwn _ _ | exact .nilSl _ | exact .ownSl _ _ _  | exact SV.le.of_eq (by simp)) (Slots.cons rfl (by first | exact .refl _ | exact .nilOwn _ _ | exact .nilSl _ | exact .ownSl _ _ _  | exact SV.le.of_eq (by simp)) (Slots.cons rfl (by first | exact .refl _ | exact .nilOwn _ _ | exact .nilSl _ | exact .ownSl _ _ _  | exact SV.le.of_eq (by simp)) Slots.nil)))), (by first | exact List.Sublist.refl _ | exact .cons_cons _ (.cons _ (.refl _)) | exact List.nil_sublist _ | exact .cons _ (.refl _) | exact .cons _ (.cons _ (.refl _)) | exact .cons _ (.cons _ (.cons _ (.refl _))) | exact .cons _ (.cons _ (.cons _ (.cons _ (.refl _)))) | exact .cons_cons _ (List.nil_sublist _))⟩, (by omega), ⟨j + 1, i, cur, rfl, rfl, (by omega), (by omega), hcl, (by rw [filt_take hx, hct]; simp [hpx]), (by rw [← List.drop_drop, ← List.drop_drop, hcd])⟩⟩
    ·
      have hge : l.length ≤ j := by have := of_decide_eq_false hc1; omega
      rw [List.take_of_length_le hge] at hct
      have hil : i = (l.filter (fun s => !p s)).length := by rw [← hct, List.length_take]; omega
      refine awp_exit ?_
      refine x_thenE ?_
      refine x_thenE ?_
      refine x_blockE ?_
      refine x_then ?_
      refine awp_seq ?_
      refine awp_region ?_
      refine r_move rfl rfl ?_
      refine r_move rfl rfl ?_
      refine r_sliceVL rfl rfl TF.sl74 TF.sz9 (by omega) (by omega) (by omega) rfl (fun A38 hA38 => ?_)
      refine r_clear 0 rfl (fun h => hA38 (by omega)) rfl TF.sl74 TF.zraw9 rfl (by simp [Value.oneCell']) (by simp [strsC_len]; omega) (fun xc hxc => ?_)
      refine awl_nil ?_
      refine x_then ?_
      refine awp_seq ?_
      refine awp_region ?_
      refine r_move rfl rfl ?_
      refine r_move rfl rfl ?_
      refine r_sliceVH rfl rfl TF.sl74 TF.sz9 (by omega) (by omega) rfl ?_
      refine r_assign rfl rfl ?_
      refine awl_nil ?_
      refine x_then ?_
      refine awp_ret ?_
      have hdone : (strsC cur ++ ext).take (0 + i * 1) = strsC (l.filter (fun s => !p s)) := by rw [Nat.zero_add, Nat.mul_one, List.take_append_of_le_length (by rw [strsC_len]; omega), ← hct]; simp [strsC, List.map_take]
      exact ⟨(.inl rfl), _, [⟨g, true, .box (strsC (l.filter (fun s => !p s)) ++ (xc ++ (strsC cur ++ ext).drop (0 + i * 1 + (l.length - i))))⟩], (.one (by first | exact .mk rfl rfl | exact .nil rfl)), ⟨xc ++ (strsC cur ++ ext).drop (0 + i * 1 + (l.length - i)), by simp [hxc, strsC_len]; omega, by rw [← hil]; rfl, rfl⟩, (by rw [← hdone, ← List.append_assoc]; exact .cons_cons _ (List.nil_sublist _)), (by simp)⟩

theorem delN_ok {f : FuncId} {caps : List AV} : AC Try.prog 54 [.v (.slice none 0 0), .fn f caps] [] (fun r n => n = [] ∧ r = .v (.slice none 0 0)) := by
  refine ac_of_awp (rs := [4]) (nt := 42) Try.func54 rfl rfl rfl rfl (fun w0 C0 hq => ?_)
  refine awp_seq ?_
  refine awp_region ?_
  refine r_assign rfl rfl ?_
  refine awl_nil ?_
  refine x_then ?_
  refine awp_seq ?_
  refine awp_region ?_
  refine r_move rfl rfl ?_
  refine r_move rfl rfl ?_
  refine r_call0 hq rfl rfl (.cons (.ev rfl rfl) (.cons (.ev rfl rfl) .nil)) (idxN_ok) rfl TF.en34 rfl (fun r hr => ?_)
  obtain rfl := hr
  refine r_assign rfl rfl ?_
  refine awl_nil ?_
  refine x_then ?_
  refine awp_seq ?_
  refine awp_seq ?_
  refine awp_region ?_
  refine r_move rfl rfl ?_
  refine r_cmp rfl rfl rfl rfl ?_
  refine awl_nil ?_
  refine x_then ?_
  refine awp_cond rfl (fun hc0 => ?_) (fun hc0 => ?_)
  ·
    refine awp_seq ?_
    refine awp_region ?_
    refine r_move rfl rfl ?_
    refine r_assign rfl rfl ?_
    refine awl_nil ?_
    refine x_then ?_
    refine awp_ret ?_
    refine x_thenR ?_
    exact ⟨(.inl rfl), _, [], (.one (by first | exact .mk rfl rfl | exact .nil rfl)), ⟨rfl, rfl⟩, (List.nil_sublist _), (by simp)⟩
  ·
    exfalso; exact absurd hc0 (by decide)

theorem strs_one (l : List ByteArray) : (strsC l).all AV.one = true := by
  rw [List.all_eq_true]
  intro x hx
  obtain ⟨s, _, rfl⟩ := List.mem_map.1 hx
  rfl
theorem str_drop {l : List ByteArray} {ext : List AV} {k : Nat} (h : k ≤ l.length) : ((strsC l ++ ext).drop k).take (l.length - k) = strsC (l.drop k) := by
  rw [List.drop_append_of_le_length (by rw [strsC_len]; exact h), List.take_append_of_le_length (by simp [strsC_len]), List.take_of_length_le (by simp [strsC_len])]
  simp [strsC, List.map_drop]
theorem del_box {l : List ByteArray} {ext : List AV} {i : Nat} (h : i < l.length) : (strsC l ++ ext).take i ++ ((strsC l ++ ext).drop (0 + (i + 1) * 1)).take (l.length - (i + 1)) ++ (strsC l ++ ext).drop (i + (l.length - (i + 1))) = strsC (l.eraseIdx i) ++ (strsC l ++ ext).drop (i + (l.length - (i + 1))) := by
  rw [Nat.zero_add, Nat.mul_one, str_drop (by omega), List.take_append_of_le_length (by rw [strsC_len]; omega), List.eraseIdx_eq_take_drop_succ]
  simp [strsC, List.map_take, List.map_drop]
theorem erase_len {l : List ByteArray} {i : Nat} (h : i < l.length) : (l.eraseIdx i).length = i + (l.length - (i + 1)) := by rw [List.length_eraseIdx, if_pos h]; omega

set_option maxHeartbeats 1000000 in
theorem delete_ok (l : List ByteArray) (i : Nat) (hi : i < l.length) (hl : l.length ≤ 1000000) {g cap : Nat} {ext : List AV} (hcap : cap = l.length + ext.length) {fl : Bool} : AW Try.prog 37 [.v (.slice (some ⟨g, 0, none⟩) l.length cap), .v (.int .i64 (i : Int)), .v (.int .i64 ((i : Int) + 1))] [] [⟨g, fl, .box (strsC l ++ ext)⟩] (fun r n => ∃ ext', cap = (l.eraseIdx i).length + ext'.length ∧ r = .v (.slice (some ⟨g, 0, none⟩) (l.eraseIdx i).length cap) ∧ n = [⟨g, true, .box (strsC (l.eraseIdx i) ++ ext')⟩]) := by
  refine aw_of_awp (rs := [6]) (nt := 33) (so := [⟨g, true, .box (strsC l ++ ext)⟩]) Try.func37 rfl rfl rfl rfl rfl (fun w0 C0 hq => ?_)
  refine awp_seq ?_
  refine awp_region ?_
  refine r_assign rfl rfl ?_
  refine awl_nil ?_
  refine x_then ?_
  refine awp_seq ?_
  refine awp_region ?_
  refine r_move rfl rfl ?_
  refine r_move rfl rfl ?_
  refine r_move rfl rfl ?_
  refine r_move rfl rfl ?_
  first | (refine r_lenS rfl rfl TF.sl74 rfl ?_) | (refine r_lenNil rfl TF.sl74 rfl ?_) | (refine r_lenV rfl TF.sl74 rfl ?_)
  refine r_sliceV3 rfl rfl rfl rfl TF.sl74 TF.sz9 (by omega) (by omega) (by omega) (by omega) rfl (fun v13 => ?_)
  refine awl_nil ?_
  refine x_then ?_
  refine awp_seq ?_
  refine awp_seq ?_
  refine awp_region ?_
  refine r_move rfl rfl ?_
  refine r_move rfl rfl ?_
  refine r_cmp rfl rfl rfl rfl ?_
  refine awl_nil ?_
  refine x_then ?_
  refine awp_cond rfl (fun hc0 => ?_) (fun hc0 => ?_)
  ·
    exfalso; have := eq_of_beq hc0; omega
  ·
    refine awp_skip ?_
    refine x_then ?_
    refine awp_seq ?_
    refine awp_region ?_
    refine r_move rfl rfl ?_
    first | (refine r_lenS rfl rfl TF.sl74 rfl ?_) | (refine r_lenNil rfl TF.sl74 rfl ?_) | (refine r_lenV rfl TF.sl74 rfl ?_)
    refine r_assign rfl rfl ?_
    refine awl_nil ?_
    refine x_then ?_
    refine awp_seq ?_
    refine awp_drawS [20, 21, 22, 23, 24, 25] [_, _, _, _, _, _] [] [] TF.mixed rfl rfl rfl ⟨⟨⟨⟨⟨⟨trivial
      , ⟨_, rfl, fun sl hd hr ho => by
          refine r_move (hr 0 _ rfl rfl rfl) rfl ?_
          exact awl_nil ⟨rfl, post_put⟩⟩⟩
      , ⟨_, rfl, fun sl hd hr ho => by
          refine r_move (hr 1 _ rfl rfl rfl) rfl ?_
          exact awl_nil ⟨rfl, post_put⟩⟩⟩
      , ⟨_, rfl, fun sl hd hr ho => by
          refine r_sliceVH (hd 0 _ rfl rfl rfl) (hd 1 _ rfl rfl rfl) TF.sl74 TF.sz9 (by omega) (by omega) rfl ?_
          exact awl_nil ⟨rfl, post_put⟩⟩⟩
      , ⟨_, rfl, fun sl hd hr ho => by
          refine r_move (hr 0 _ rfl rfl rfl) rfl ?_
          exact awl_nil ⟨rfl, post_put⟩⟩⟩
      , ⟨_, rfl, fun sl hd hr ho => by
          refine r_move (hr 2 _ rfl rfl rfl) rfl ?_
          exact awl_nil ⟨rfl, post_put⟩⟩⟩
      , ⟨_, rfl, fun sl hd hr ho => by
          refine r_sliceVLd (hd 3 _ rfl rfl rfl) (hd 4 _ rfl rfl rfl) TF.sl74 TF.sz9 (by omega) (by omega) (by omega) rfl ?_
          exact awl_nil ⟨rfl, post_put⟩⟩⟩
      (by rfl) ?_
    refine r_appendV 0 rfl rfl (fun h => if_neg (by omega)) rfl TF.sl74 TF.sz9 (by rw [show (0 + ((i : Int) + 1).toNat * 1) = i + 1 from by omega, show l.length - ((i : Int) + 1).toNat = l.length - (i + 1) from by omega, str_drop (by omega)]; exact strs_one _) (by omega) (by simp [strsC_len]; omega) (by simp [strsC_len]; omega) rfl ?_
    refine r_assign rfl rfl ?_
    refine awl_nil ?_
    refine x_then ?_
    refine awp_seq ?_
    refine awp_region ?_
    refine awl_imp (imp_boxEq 0 (strsC (l.eraseIdx i) ++ (strsC l ++ ext).drop (i + (l.length - (i + 1)))) rfl (del_box hi)) ?_
    refine r_move rfl rfl ?_
    refine r_move rfl rfl ?_
    first | (refine r_lenS rfl rfl TF.sl74 rfl ?_) | (refine r_lenNil rfl TF.sl74 rfl ?_) | (refine r_lenV rfl TF.sl74 rfl ?_)
    refine r_move rfl rfl ?_
    refine r_sliceVLH rfl rfl rfl TF.sl74 TF.sz9 (by omega) (by omega) (by omega) rfl (fun A31 hA31 => ?_)
    refine r_clear 0 rfl (fun h => hA31 (by omega)) rfl TF.sl74 TF.zraw9 rfl (by simp [Value.oneCell']) (by simp [strsC_len, erase_len hi]; omega) (fun xc hxc => ?_)
    refine awl_nil ?_
    refine x_then ?_
    refine awp_seq ?_
    refine awp_region ?_
    refine r_move rfl rfl ?_
    refine r_assign rfl rfl ?_
    refine awl_nil ?_
    refine x_then ?_
    refine awp_ret ?_
    have he := erase_len hi
    have htk : (strsC (l.eraseIdx i) ++ (strsC l ++ ext).drop (i + (l.length - (i + 1)))).take (0 + (i + (l.length - (i + 1))) * 1) = strsC (l.eraseIdx i) := by rw [Nat.zero_add, Nat.mul_one, ← he, ← strsC_len (l.eraseIdx i), List.take_left]
    exact ⟨(.inl rfl), _, [⟨g, true, .box (strsC (l.eraseIdx i) ++ (xc ++ (strsC (l.eraseIdx i) ++ (strsC l ++ ext).drop (i + (l.length - (i + 1)))).drop (0 + (i + (l.length - (i + 1))) * 1 + (l.length - (i + (l.length - (i + 1)))))))⟩], (.one (by first | exact .mk rfl rfl | exact .nil rfl)), ⟨_, by simp [strsC_len, hxc, he]; omega, by rw [he]; rfl, rfl⟩, (by rw [show strsC (l.eraseIdx i) ++ (xc ++ (strsC (l.eraseIdx i) ++ (strsC l ++ ext).drop (i + (l.length - (i + 1)))).drop (0 + (i + (l.length - (i + 1))) * 1 + (l.length - (i + (l.length - (i + 1)))))) = (strsC (l.eraseIdx i) ++ (strsC l ++ ext).drop (i + (l.length - (i + 1)))).take (0 + (i + (l.length - (i + 1))) * 1) ++ xc ++ (strsC (l.eraseIdx i) ++ (strsC l ++ ext).drop (i + (l.length - (i + 1)))).drop (0 + (i + (l.length - (i + 1))) * 1 + (l.length - (i + (l.length - (i + 1))))) from by rw [htk, List.append_assoc]]; exact List.Sublist.refl _), (by simp)⟩

end Go.Proofs.Ytmbfmnhcahhciaa.A

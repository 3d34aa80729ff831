/- Layer 63: walks of timeline.File, Quiet, fs.Find; of the statements' small functions. -/
import Derived.Test.YtmbfmnhcahhciaaProg
import Derived.KernelRfl
import Derived.Test.YtmbfmnhcahhciaaX63B
import Derived.Test.YtmbfmnhcahhciaaX63Q
import Derived.Test.YtmbfmnhcahhciaaO
namespace Go.Proofs.Ytmbfmnhcahhciaa.A
open Go Go.RowKit
set_option linter.unusedVariables false
set_option linter.unusedSimpArgs false
set_option maxRecDepth 100000

theorem TF.en53 : entersT Try.prog 53 := enters_of Try.func53 (by kernel_rfl) (by kernel_rfl)
theorem TF.en52 : entersT Try.prog 52 := enters_of Try.func52 (by kernel_rfl) (by kernel_rfl)
theorem TF.en42 : entersT Try.prog 42 := enters_of Try.func42 (by kernel_rfl) (by kernel_rfl)
theorem TF.f46_1 : fieldT Try.prog 46 1 = some (1, 44) := by kernel_rfl
theorem TF.f46_0 : fieldT Try.prog 46 0 = some (0, 30) := by kernel_rfl
theorem TF.en29 : entersT Try.prog 29 := enters_of Try.func29 (by kernel_rfl) (by kernel_rfl)
theorem TF.agg46 : aggT Try.prog 46 = some true := by kernel_rfl
theorem TF.en44 : entersT Try.prog 44 := enters_of Try.func44 (by kernel_rfl) (by kernel_rfl)
theorem TF.en58 : entersT Try.prog 58 := enters_of Try.func58 (by kernel_rfl) (by kernel_rfl)
theorem TF.en43 : entersT Try.prog 43 := enters_of Try.func43 (by kernel_rfl) (by kernel_rfl)
theorem TF.arr35 : arrT Try.prog 35 = some 34 := by kernel_rfl
theorem TF.zero35 : ZeroT Try.prog 35 [.v (.int .i8 0), .v (.int .i8 0), .v (.int .i8 0), .v (.int .i8 0)] := ⟨[(.int .i8 0), (.int .i8 0), (.int .i8 0), (.int .i8 0)], by kernel_rfl, (LeCells.refl _)⟩
theorem TF.pl38 : placesT Try.prog 38 = some [(0, 1), (1, 4), (5, 4)] := by kernel_rfl
theorem TF.zero38 : ZeroT Try.prog 38 [.v (.bool false), .v (.int .i8 0), .v (.int .i8 0), .v (.int .i8 0), .v (.int .i8 0), .v (.int .u8 0), .v (.int .u8 0), .v (.int .u8 0), .v (.int .u8 0)] := ⟨[(.bool false), (.int .i8 0), (.int .i8 0), (.int .i8 0), (.int .i8 0), (.int .u8 0), (.int .u8 0), (.int .u8 0), (.int .u8 0)], by kernel_rfl, (LeCells.refl _)⟩
theorem TF.zraw30 : zeroT Try.prog 30 = some [(.int .u64 0)] := by kernel_rfl
theorem TF.zraw38 : zeroT Try.prog 38 = some [(.bool false), (.int .i8 0), (.int .i8 0), (.int .i8 0), (.int .i8 0), (.int .u8 0), (.int .u8 0), (.int .u8 0), (.int .u8 0)] := by kernel_rfl
theorem TF.en13 : entersT Try.prog 13 := enters_of Try.func13 (by kernel_rfl) (by kernel_rfl)
theorem TF.en14 : entersT Try.prog 14 := enters_of Try.func14 (by kernel_rfl) (by kernel_rfl)
theorem TF.en22 : entersT Try.prog 22 := enters_of Try.func22 (by kernel_rfl) (by kernel_rfl)

theorem look_find {l : List File} {n : ByteArray} {k : Nat} (h : l.findIdx? (fun f => decide (f.name = n)) = some k) : ∃ x, l[k]? = some x ∧ x.name = n ∧ l.find? (fun f => decide (f.name = n)) = some x := by
  obtain ⟨hi, h2, h3⟩ := List.findIdx?_eq_some_iff_getElem.1 h
  refine ⟨l[k], List.getElem?_eq_getElem hi, by simpa using h2, ?_⟩
  rw [List.find?_eq_some_iff_getElem]
  exact ⟨h2, k, hi, rfl, fun j hj => by simpa using h3 j hj⟩
theorem look_none {l : List File} {n : ByteArray} (h : l.findIdx? (fun f => decide (f.name = n)) = none) : l.find? (fun f => decide (f.name = n)) = none := by
  rw [List.findIdx?_eq_none_iff] at h
  rw [List.find?_eq_none]; intro f hf; simpa using h f hf
def findR (l : List File) (n : ByteArray) : AV := match l.find? (fun f => decide (f.name = n)) with
  | some f => .tup [.agg (File.cs ⟨n, f.data⟩), boolA true]
  | none => .tup [.agg (File.cs ⟨E0, []⟩), boolA false]

theorem find1_ok (f : File) (n : ByteArray) : AC Try.prog 53 [.agg (File.cs f), .cp [strA n]] [] (fun r m => m = [] ∧ r = boolA (decide (f.name = n))) := by
  refine ac_of_awp (rs := [3]) (nt := 8) Try.func53 rfl rfl rfl rfl (fun w0 C0 hq => ?_)
  refine awp_seq ?_
  refine awp_region ?_
  refine r_box rfl rfl rfl (fun b2 => ?_)
  refine r_assign rfl rfl ?_
  refine awl_nil ?_
  refine x_then ?_
  refine awp_seq ?_
  refine awp_region ?_
  first | (refine r_fieldb rfl TF.f67_0 TF.sz9 rfl ?_) | (refine r_fieldcp rfl TF.f67_0 TF.sz9 rfl ?_)
  refine r_load1b 0 rfl rfl rfl TF.agg9 rfl ?_
  first | (refine r_load1 rfl TF.agg9 rfl ?_) | (refine r_load1b 0 rfl rfl rfl TF.agg9 rfl ?_)
  refine r_str2 rfl rfl rfl rfl ?_
  refine r_assign rfl rfl ?_
  refine awl_nil ?_
  refine x_then ?_
  refine awp_ret ?_
  exact ⟨(.inl rfl), _, [], (.one (by first | exact .mk rfl rfl | exact .nil rfl)), ⟨rfl, rfl⟩, (List.nil_sublist _), (by simp)⟩

theorem idxfunc_ok (l : List File) (n : ByteArray) (hl : l.length ≤ 1000000) : AC Try.prog 52 [files l, .fn 53 [.cp [strA n]]] [] (fun r m => m = [] ∧ r = .v (.int .i64 (optI (l.findIdx? (fun f => decide (f.name = n)))))) := by
  refine ac_of_awp (rs := [4]) (nt := 19) Try.func52 rfl rfl rfl rfl (fun w0 C0 hq => ?_)
  refine awp_seq ?_
  refine awp_region ?_
  refine r_assign rfl rfl ?_
  refine awl_nil ?_
  refine x_then ?_
  refine awp_seq ?_
  refine awp_seq ?_
  refine awp_region ?_
  refine r_move rfl rfl ?_
  first | (refine r_lenS rfl rfl TF.sl31 rfl ?_) | (refine r_lenNil rfl TF.sl31 rfl ?_) | (refine r_lenV rfl TF.sl31 rfl ?_)
  refine r_move rfl rfl ?_
  refine awl_nil ?_
  refine x_then ?_
  refine awp_block ?_
  refine awp_loop (fun nn0 S => ∃ k : Nat, S = ⟨19, [(0, .a (files l)), (1, .a (.fn 53 [.cp [strA n]])), (7, .a (.v (.int .i64 ((l.map File.cs).length)))), (8, .a (.v (.int .i64 ((k : Int)))))], []⟩ ∧ nn0 = l.length - k ∧ (k ≤ l.length) ∧ ((l.take k).findIdx? (fun x => decide (x.name = n)) = none)) (l.length - (0)) ⟨19, [(0, .a (files l)), (1, .a (.fn 53 [.cp [strA n]])), (7, .a (.v (.int .i64 ((l.map File.cs).length)))), (8, .a (.v (.int .i64 (((0) : Int)))))], []⟩ ⟨rfl, (Slots.cons rfl (by first | exact .refl _ | exact .nilOwn _ _ | exact .nilSl _ | exact .ownSl _ _ _  | exact SV.le.of_eq (by simp)) (Slots.cons rfl (by first | exact .refl _ | exact .nilOwn _ _ | exact .nilSl _ | exact .ownSl _ _ _  | exact SV.le.of_eq (by simp)) (Slots.cons rfl (by first | exact .refl _ | exact .nilOwn _ _ | exact .nilSl _ | exact .ownSl _ _ _  | exact SV.le.of_eq (by simp)) (Slots.cons rfl (by first | exact .refl _ | exact .nilOwn _ _ | exact .nilSl _ | exact .ownSl _ _ _  | exact SV.le.of_eq (by simp)) Slots.nil)))), (by first | exact List.Sublist.refl _ | exact .cons_cons _ (.cons _ (.refl _)) | exact List.nil_sublist _ | exact .cons _ (.refl _) | exact .cons _ (.cons _ (.refl _)) | exact .cons _ (.cons _ (.cons _ (.refl _))) | exact .cons _ (.cons _ (.cons _ (.cons _ (.refl _)))) | exact .cons_cons _ (List.nil_sublist _))⟩ ⟨0, rfl, rfl, Nat.zero_le _, rfl⟩ ?_
  rintro nn0 _ ⟨k, rfl, rfl, hk, hno⟩
  refine awp_seq ?_
  refine awp_region ?_
  refine r_cmp rfl rfl rfl rfl ?_
  refine awl_nil ?_
  refine x_then ?_
  refine awp_seq ?_
  refine awp_cond rfl (fun hc0 => ?_) (fun hc0 => ?_)
  ·
    have hltx : k < l.length := by have := of_decide_eq_true hc0; simpa using this
    obtain ⟨x, hx⟩ := get_lt hltx
    refine awp_skip ?_
    refine x_then ?_
    refine awp_seq ?_
    refine awp_block ?_
    refine awp_seq ?_
    refine awp_region ?_
    refine r_move rfl rfl ?_
    refine r_assign rfl rfl ?_
    refine awl_nil ?_
    refine x_then ?_
    refine awp_seq ?_
    refine awp_region ?_
    refine r_move rfl rfl ?_
    refine r_move rfl rfl ?_
    refine r_move rfl rfl ?_
    refine r_index rfl rfl rfl TF.sl31 TF.sz67 (by omega) (get_map hx) rfl ?_
    refine r_loadA rfl TF.agg67 TF.sz67 rfl rfl ?_
    refine r_call0 hq rfl rfl (.cons (.ev rfl rfl) .nil) (find1_ok x n) rfl TF.en53 rfl (fun r hr => ?_)
    obtain rfl := hr
    refine awl_nil ?_
    refine x_then ?_
    refine awp_cond rfl (fun hc1 => ?_) (fun hc1 => ?_)
    ·
      refine awp_seq ?_
      refine awp_region ?_
      refine r_move rfl rfl ?_
      refine r_assign rfl rfl ?_
      refine awl_nil ?_
      refine x_then ?_
      refine awp_ret ?_
      refine x_blockR ?_
      refine x_thenR ?_
      refine x_thenR ?_
      refine x_blockR ?_
      refine x_thenR ?_
      exact ⟨(.inl rfl), _, [], (.one (by first | exact .mk rfl rfl | exact .nil rfl)), ⟨rfl, by rw [fidx_hit hx hc1 hno]; rfl⟩, (List.nil_sublist _), (by simp)⟩
    ·
      refine awp_skip ?_
      refine x_block ?_
      refine x_then ?_
      refine awp_region ?_
      refine r_ari _ rfl rfl rfl (wrap_id (by first | omega | (simp; omega))) rfl ?_
      refine r_move rfl rfl ?_
      refine awl_nil ?_
      refine x_then ?_
      refine ⟨l.length - (k + 1), ⟨19, [(0, .a (files l)), (1, .a (.fn 53 [.cp [strA n]])), (7, .a (.v (.int .i64 ((l.map File.cs).length)))), (8, .a (.v (.int .i64 (((k + 1) : Int)))))], []⟩, ⟨rfl, (Slots.cons rfl (by first | exact .refl _ | exact .nilOwn _ _ | exact .nilSl _ | exact .ownSl _ _ _  | exact SV.le.of_eq (by simp)) (Slots.cons rfl (by first | exact .refl _ | exact .nilOwn _ _ | exact .nilSl _ | exact .ownSl _ _ _  | exact SV.le.of_eq (by simp)) (Slots.cons rfl (by first | exact .refl _ | exact .nilOwn _ _ | exact .nilSl _ | exact .ownSl _ _ _  | exact SV.le.of_eq (by simp)) (Slots.cons rfl (by first | exact .refl _ | exact .nilOwn _ _ | exact .nilSl _ | exact .ownSl _ _ _  | exact SV.le.of_eq (by simp)) Slots.nil)))), (by first | exact List.Sublist.refl _ | exact .cons_cons _ (.cons _ (.refl _)) | exact List.nil_sublist _ | exact .cons _ (.refl _) | exact .cons _ (.cons _ (.refl _)) | exact .cons _ (.cons _ (.cons _ (.refl _))) | exact .cons _ (.cons _ (.cons _ (.cons _ (.refl _)))) | exact .cons_cons _ (List.nil_sublist _))⟩, (by omega), ⟨k + 1, rfl, rfl, (by omega), (fidx_step hx hc1 hno)⟩⟩
  ·
    have hge : l.length ≤ k := by have := of_decide_eq_false hc0; simp at this; omega
    refine awp_exit ?_
    refine x_thenE ?_
    refine x_thenE ?_
    refine x_blockE ?_
    refine x_then ?_
    refine awp_seq ?_
    refine awp_region ?_
    refine r_assign rfl rfl ?_
    refine awl_nil ?_
    refine x_then ?_
    refine awp_ret ?_
    exact ⟨(.inl rfl), _, [], (.one (by first | exact .mk rfl rfl | exact .nil rfl)), ⟨rfl, by rw [fidx_end hge hno]; rfl⟩, (List.nil_sublist _), (by simp)⟩

theorem ffind_ok (l : List File) (n : ByteArray) (hl : l.length ≤ 1000000) (hda : ∀ f ∈ l, f.data.length ≤ 1000000) : AC Try.prog 29 [files l, strA n] [] (fun r m => m = [] ∧ r = findR l n) := by
  refine ac_of_awpG (nt := 21) (ResBT Try.prog 4 67 5) Try.func29 rfl rfl rfl (resBT_run rfl) (fun w0 C0 hq => ?_)
  refine awp_seq ?_
  refine awp_region ?_
  refine r_box rfl rfl rfl (fun b3 => ?_)
  refine r_alloc TF.zero67 rfl (fun b4 => ?_)
  refine r_assign rfl rfl ?_
  refine awl_nil ?_
  refine x_then ?_
  refine awp_seq ?_
  refine awp_region ?_
  refine r_move rfl rfl ?_
  refine awl_imp (imp_commit 1 3 rfl rfl rfl rfl) ?_
  refine r_makeFunc rfl (.cons (.ev rfl rfl) .nil) rfl ?_
  refine r_call0 hq rfl rfl (.cons (.ev rfl rfl) (.cons (.ev rfl rfl) .nil)) (idxfunc_ok l n hl) rfl TF.en52 rfl (fun r hr => ?_)
  obtain rfl := hr
  refine r_assign rfl rfl ?_
  refine awl_nil ?_
  refine x_then ?_
  refine awp_seq ?_
  refine awp_seq ?_
  refine awp_region ?_
  refine r_move rfl rfl ?_
  refine r_cmp rfl rfl rfl rfl ?_
  refine awl_nil ?_
  refine x_then ?_
  refine awp_cond rfl (fun hc0 => ?_) (fun hc0 => ?_)
  ·
    have hn := look_none (optI_none (of_decide_eq_true hc0))
    refine awp_seq ?_
    refine awp_region ?_
    refine r_build (parts := []) rfl TF.pl67 TF.zero67 rfl rfl rfl ?_
    first | (refine r_store 0 rfl rfl rfl TF.sz67 rfl rfl rfl ?_) | (refine r_store 1 rfl rfl rfl TF.sz67 rfl rfl rfl ?_)
    refine r_assign rfl rfl ?_
    refine awl_nil ?_
    refine x_then ?_
    refine awp_ret ?_
    refine x_thenR ?_
    exact ⟨(.inl rfl), _, [], ⟨_, _, (by first | exact .mk' 0 rfl rfl TF.agg67 TF.sz67 rfl | exact .mk' 1 rfl rfl TF.agg67 TF.sz67 rfl | exact .mk' 2 rfl rfl TF.agg67 TF.sz67 rfl | exact .mk' 3 rfl rfl TF.agg67 TF.sz67 rfl | exact .mk' 4 rfl rfl TF.agg67 TF.sz67 rfl | exact .mk' 5 rfl rfl TF.agg67 TF.sz67 rfl), (by first | exact .mk rfl rfl | exact .nil rfl), rfl⟩, ⟨rfl, by rw [findR, hn]; rfl⟩, (List.nil_sublist _), (by simp)⟩
  ·
    obtain ⟨k, hk⟩ := optI_some (Int.not_lt.1 (of_decide_eq_false hc0))
    obtain ⟨x, hx, hxn, hf⟩ := look_find hk
    have hxd := hda x (List.mem_of_getElem? hx)
    refine awp_skip ?_
    refine x_then ?_
    refine awp_seq ?_
    refine awp_drawS [13, 14, 15, 16, 17, 18, 19] [_, _, _, _, _, _, _] [] [] TF.mixed rfl rfl rfl ⟨⟨⟨⟨⟨⟨⟨trivial
      , ⟨_, rfl, fun sl hd hr ho => by
          first | (refine r_load1 (hr 3 _ rfl rfl rfl) TF.agg9 rfl ?_) | (refine r_load1b 0 (hr 3 _ rfl rfl rfl) rfl rfl TF.agg9 rfl ?_) | (refine r_load1b 1 (hr 3 _ rfl rfl rfl) rfl rfl TF.agg9 rfl ?_)
          exact awl_nil ⟨rfl, post_put⟩⟩⟩
      , ⟨_, rfl, fun sl hd hr ho => by
          refine r_move (hr 0 _ rfl rfl rfl) rfl ?_
          exact awl_nil ⟨rfl, post_put⟩⟩⟩
      , ⟨_, rfl, fun sl hd hr ho => by
          refine r_move (hr 6 _ rfl rfl rfl) rfl ?_
          exact awl_nil ⟨rfl, post_put⟩⟩⟩
      , ⟨_, rfl, fun sl hd hr ho => by
          refine r_index (hd 1 _ rfl rfl rfl) rfl (hd 2 _ rfl rfl rfl) TF.sl31 TF.sz67 (by rw [hk]; simp [optI]) (by rw [hk]; exact get_map hx) rfl ?_
          exact awl_nil ⟨rfl, post_put⟩⟩⟩
      , ⟨_, rfl, fun sl hd hr ho => by
          first | (refine r_fieldcp (hd 3 _ rfl rfl rfl) TF.f67_1 TF.sz42 rfl ?_) | (refine r_fieldb (hd 3 _ rfl rfl rfl) TF.f67_1 TF.sz42 rfl ?_)
          exact awl_nil ⟨rfl, post_put⟩⟩⟩
      , ⟨_, rfl, fun sl hd hr ho => by
          first | (refine r_load1 (hd 4 _ rfl rfl rfl) TF.agg42 rfl ?_) | (refine r_load1b 0 (hd 4 _ rfl rfl rfl) rfl rfl TF.agg42 rfl ?_) | (refine r_load1b 1 (hd 4 _ rfl rfl rfl) rfl rfl TF.agg42 rfl ?_)
          exact awl_nil ⟨rfl, post_put⟩⟩⟩
      , ⟨_, rfl, fun sl hd hr ho => by
          refine r_call0 hq rfl rfl (.cons (.ev (hd 5 _ rfl rfl rfl) rfl) .nil) (sclone_ok x.data hxd) rfl TF.en42 rfl (fun r hr => ?_)
          obtain rfl := hr
          exact awl_nil ⟨rfl, post_put⟩⟩⟩
      (by rfl) ?_
    refine r_build (parts := [(0, .tmp 13), (1, .tmp 19)]) rfl TF.pl67 TF.zero67 rfl rfl rfl ?_
    first | (refine r_store 0 rfl rfl rfl TF.sz67 rfl rfl rfl ?_) | (refine r_store 1 rfl rfl rfl TF.sz67 rfl rfl rfl ?_)
    refine r_assign rfl rfl ?_
    refine awl_nil ?_
    refine x_then ?_
    refine awp_ret ?_
    exact ⟨(.inl rfl), _, [], ⟨_, _, (by first | exact .mk' 0 rfl rfl TF.agg67 TF.sz67 rfl | exact .mk' 1 rfl rfl TF.agg67 TF.sz67 rfl | exact .mk' 2 rfl rfl TF.agg67 TF.sz67 rfl | exact .mk' 3 rfl rfl TF.agg67 TF.sz67 rfl | exact .mk' 4 rfl rfl TF.agg67 TF.sz67 rfl | exact .mk' 5 rfl rfl TF.agg67 TF.sz67 rfl), (by first | exact .mk rfl rfl | exact .nil rfl), rfl⟩, ⟨rfl, by rw [findR, hf]; rfl⟩, (List.nil_sublist _), (by simp)⟩

set_option maxHeartbeats 1000000 in
theorem same_ok (l : List Ev) (hl : l.length ≤ 1000000) : AC Try.prog 19 [evsA l, evsA l] [] (fun r n => n = [] ∧ r = .v (.int .i64 1)) := by
  refine ac_of_awp (rs := [4]) (nt := 70) Try.func19 rfl rfl rfl rfl (fun w0 C0 hq => ?_)
  refine awp_seq ?_
  refine awp_region ?_
  refine r_assign rfl rfl ?_
  refine awl_nil ?_
  refine x_then ?_
  refine awp_seq ?_
  refine awp_seq ?_
  refine awp_region ?_
  refine r_move rfl rfl ?_
  first | (refine r_lenS rfl rfl TF.sl28 rfl ?_) | (refine r_lenNil rfl TF.sl28 rfl ?_) | (refine r_lenV rfl TF.sl28 rfl ?_)
  refine r_move rfl rfl ?_
  first | (refine r_lenS rfl rfl TF.sl28 rfl ?_) | (refine r_lenNil rfl TF.sl28 rfl ?_) | (refine r_lenV rfl TF.sl28 rfl ?_)
  refine r_cmp rfl rfl rfl rfl ?_
  refine awl_nil ?_
  refine x_then ?_
  refine awp_cond rfl (fun hc0 => ?_) (fun hc0 => ?_)
  ·
    exfalso; simp at hc0
  ·
    refine awp_skip ?_
    refine x_then ?_
    refine awp_seq ?_
    refine awp_seq ?_
    refine awp_region ?_
    refine r_assign rfl rfl ?_
    refine awl_nil ?_
    refine x_then ?_
    refine awp_block ?_
    refine awp_loop (fun nn0 S => ∃ k : Nat, S = ⟨70, [(0, .a (evsA l)), (1, .a (evsA l)), (5, .a (.v (.int .i64 ((k : Int)))))], []⟩ ∧ nn0 = l.length - k ∧ (k ≤ l.length)) (l.length - (0)) ⟨70, [(0, .a (evsA l)), (1, .a (evsA l)), (5, .a (.v (.int .i64 (((0) : Int)))))], []⟩ ⟨rfl, (Slots.cons rfl (by first | exact .refl _ | exact .nilOwn _ _ | exact .nilSl _ | exact .ownSl _ _ _  | exact SV.le.of_eq (by simp)) (Slots.cons rfl (by first | exact .refl _ | exact .nilOwn _ _ | exact .nilSl _ | exact .ownSl _ _ _  | exact SV.le.of_eq (by simp)) (Slots.cons rfl (by first | exact .refl _ | exact .nilOwn _ _ | exact .nilSl _ | exact .ownSl _ _ _  | exact SV.le.of_eq (by simp)) Slots.nil))), (by first | exact List.Sublist.refl _ | exact .cons_cons _ (.cons _ (.refl _)) | exact List.nil_sublist _ | exact .cons _ (.refl _) | exact .cons _ (.cons _ (.refl _)) | exact .cons _ (.cons _ (.cons _ (.refl _))) | exact .cons _ (.cons _ (.cons _ (.cons _ (.refl _)))) | exact .cons_cons _ (List.nil_sublist _))⟩ ⟨0, rfl, rfl, Nat.zero_le _⟩ ?_
    rintro nn0 _ ⟨k, rfl, rfl, hk⟩
    refine awp_seq ?_
    refine awp_seq ?_
    refine awp_region ?_
    refine r_move rfl rfl ?_
    refine r_move rfl rfl ?_
    first | (refine r_lenS rfl rfl TF.sl28 rfl ?_) | (refine r_lenNil rfl TF.sl28 rfl ?_) | (refine r_lenV rfl TF.sl28 rfl ?_)
    refine r_cmp rfl rfl rfl rfl ?_
    refine awl_nil ?_
    refine x_then ?_
    refine awp_cond rfl (fun hc1 => ?_) (fun hc1 => ?_)
    ·
      have hltx : k < l.length := by have := of_decide_eq_true hc1; simpa using this
      obtain ⟨x, hx⟩ := get_lt hltx
      refine awp_skip ?_
      refine x_then ?_
      refine awp_seq ?_
      refine awp_block ?_
      refine awp_seq ?_
      refine awp_any (fun B S => ∃ b6 : Nat, ∃ b7 : Nat, ∃ sl : List (Nat × SV), S = ⟨70, sl, (cond (B 11) [⟨b7, true, .box (cond (B 13) (FC.cs x.ch) [.v (.int .i64 0), .v (.string ⟨#[]⟩), .v (.string ⟨#[]⟩), .sl 1 []])⟩] [] ++ cond (B 10) [⟨b6, true, .box (cond (B 12) (FC.cs x.ch) [.v (.int .i64 0), .v (.string ⟨#[]⟩), .v (.string ⟨#[]⟩), .sl 1 []])⟩] [])⟩ ∧ find 0 sl = some (.a (evsA l)) ∧ find 1 sl = some (.a (evsA l)) ∧ find 5 sl = some (.a (.v (.int .i64 ((k : Int))))) ∧ (B 0 = true → find 19 sl = some (.a (evsA l))) ∧ (B 1 = true → find 20 sl = some (.a (.v (.int .i64 ((k : Int)))))) ∧ (B 2 = true → find 21 sl = some (.a (.cp (Ev.cs x)))) ∧ (B 3 = true → find 22 sl = some (.a (.cp ((Ev.cs x).drop 1)))) ∧ (B 4 = true → find 23 sl = some (.a (.agg (((Ev.cs x).drop 1).take 4)))) ∧ (B 5 = true → find 24 sl = some (.a (evsA l))) ∧ (B 6 = true → find 25 sl = some (.a (.v (.int .i64 ((k : Int)))))) ∧ (B 7 = true → find 26 sl = some (.a (.cp (Ev.cs x)))) ∧ (B 8 = true → find 27 sl = some (.a (.cp ((Ev.cs x).drop 1)))) ∧ (B 9 = true → find 28 sl = some (.a (.agg (((Ev.cs x).drop 1).take 4)))) ∧ (B 10 = true → find 6 sl = some (.a (.v (.pointer (some ⟨b6, 0, none⟩))))) ∧ (B 11 = true → find 7 sl = some (.a (.v (.pointer (some ⟨b7, 0, none⟩)))))) TF.mixed rfl ⟨0, 0, _, rfl, rfl, rfl, rfl, (fun h => by cases h), (fun h => by cases h), (fun h => by cases h), (fun h => by cases h), (fun h => by cases h), (fun h => by cases h), (fun h => by cases h), (fun h => by cases h), (fun h => by cases h), (fun h => by cases h), (fun h => by cases h), (fun h => by cases h)⟩ ⟨⟨⟨⟨⟨⟨⟨⟨⟨⟨⟨⟨⟨⟨trivial
        , ⟨_, rfl, fun B S hBi hdep hcl => by
            rintro ⟨b6, b7, sl, rfl, h0, h1, h5, f0, f1, f2, f3, f4, f5, f6, f7, f8, f9, f10, f11⟩
            refine r_move h0 rfl ?_
            exact awl_nil ⟨rfl, b6, b7, _, rfl, h0, h1, h5, (fun h => rfl), f1, f2, f3, f4, f5, f6, f7, f8, f9, f10, f11⟩⟩⟩
        , ⟨_, rfl, fun B S hBi hdep hcl => by
            rintro ⟨b6, b7, sl, rfl, h0, h1, h5, f0, f1, f2, f3, f4, f5, f6, f7, f8, f9, f10, f11⟩
            refine r_move h5 rfl ?_
            exact awl_nil ⟨rfl, b6, b7, _, rfl, h0, h1, h5, f0, (fun h => rfl), f2, f3, f4, f5, f6, f7, f8, f9, f10, f11⟩⟩⟩
        , ⟨_, rfl, fun B S hBi hdep hcl => by
            rintro ⟨b6, b7, sl, rfl, h0, h1, h5, f0, f1, f2, f3, f4, f5, f6, f7, f8, f9, f10, f11⟩
            refine r_index (f0 (hdep 0 rfl)) rfl (f1 (hdep 1 rfl)) TF.sl28 TF.sz46 (by omega) (get_map hx) rfl ?_
            exact awl_nil ⟨rfl, b6, b7, _, rfl, h0, h1, h5, f0, f1, (fun h => rfl), f3, f4, f5, f6, f7, f8, f9, f10, f11⟩⟩⟩
        , ⟨_, rfl, fun B S hBi hdep hcl => by
            rintro ⟨b6, b7, sl, rfl, h0, h1, h5, f0, f1, f2, f3, f4, f5, f6, f7, f8, f9, f10, f11⟩
            first | (refine r_fieldb (f2 (hdep 2 rfl)) TF.f46_1 TF.sz44 rfl ?_) | (refine r_fieldcp (f2 (hdep 2 rfl)) TF.f46_1 TF.sz44 rfl ?_)
            exact awl_nil ⟨rfl, b6, b7, _, rfl, h0, h1, h5, f0, f1, f2, (fun h => rfl), f4, f5, f6, f7, f8, f9, f10, f11⟩⟩⟩
        , ⟨_, rfl, fun B S hBi hdep hcl => by
            rintro ⟨b6, b7, sl, rfl, h0, h1, h5, f0, f1, f2, f3, f4, f5, f6, f7, f8, f9, f10, f11⟩
            refine r_loadA (f3 (hdep 3 rfl)) TF.agg44 TF.sz44 rfl rfl ?_
            exact awl_nil ⟨rfl, b6, b7, _, rfl, h0, h1, h5, f0, f1, f2, f3, (fun h => rfl), f5, f6, f7, f8, f9, f10, f11⟩⟩⟩
        , ⟨_, rfl, fun B S hBi hdep hcl => by
            rintro ⟨b6, b7, sl, rfl, h0, h1, h5, f0, f1, f2, f3, f4, f5, f6, f7, f8, f9, f10, f11⟩
            refine r_move h1 rfl ?_
            exact awl_nil ⟨rfl, b6, b7, _, rfl, h0, h1, h5, f0, f1, f2, f3, f4, (fun h => rfl), f6, f7, f8, f9, f10, f11⟩⟩⟩
        , ⟨_, rfl, fun B S hBi hdep hcl => by
            rintro ⟨b6, b7, sl, rfl, h0, h1, h5, f0, f1, f2, f3, f4, f5, f6, f7, f8, f9, f10, f11⟩
            refine r_move h5 rfl ?_
            exact awl_nil ⟨rfl, b6, b7, _, rfl, h0, h1, h5, f0, f1, f2, f3, f4, f5, (fun h => rfl), f7, f8, f9, f10, f11⟩⟩⟩
        , ⟨_, rfl, fun B S hBi hdep hcl => by
            rintro ⟨b6, b7, sl, rfl, h0, h1, h5, f0, f1, f2, f3, f4, f5, f6, f7, f8, f9, f10, f11⟩
            refine r_index (f5 (hdep 5 rfl)) rfl (f6 (hdep 6 rfl)) TF.sl28 TF.sz46 (by omega) (get_map hx) rfl ?_
            exact awl_nil ⟨rfl, b6, b7, _, rfl, h0, h1, h5, f0, f1, f2, f3, f4, f5, f6, (fun h => rfl), f8, f9, f10, f11⟩⟩⟩
        , ⟨_, rfl, fun B S hBi hdep hcl => by
            rintro ⟨b6, b7, sl, rfl, h0, h1, h5, f0, f1, f2, f3, f4, f5, f6, f7, f8, f9, f10, f11⟩
            first | (refine r_fieldb (f7 (hdep 7 rfl)) TF.f46_1 TF.sz44 rfl ?_) | (refine r_fieldcp (f7 (hdep 7 rfl)) TF.f46_1 TF.sz44 rfl ?_)
            exact awl_nil ⟨rfl, b6, b7, _, rfl, h0, h1, h5, f0, f1, f2, f3, f4, f5, f6, f7, (fun h => rfl), f9, f10, f11⟩⟩⟩
        , ⟨_, rfl, fun B S hBi hdep hcl => by
            rintro ⟨b6, b7, sl, rfl, h0, h1, h5, f0, f1, f2, f3, f4, f5, f6, f7, f8, f9, f10, f11⟩
            refine r_loadA (f8 (hdep 8 rfl)) TF.agg44 TF.sz44 rfl rfl ?_
            exact awl_nil ⟨rfl, b6, b7, _, rfl, h0, h1, h5, f0, f1, f2, f3, f4, f5, f6, f7, f8, (fun h => rfl), f10, f11⟩⟩⟩
        , ⟨_, rfl, fun B S hBi hdep hcl => by
            rintro ⟨b6, b7, sl, rfl, h0, h1, h5, f0, f1, f2, f3, f4, f5, f6, f7, f8, f9, f10, f11⟩
            have n12 : B 12 = false := by cases h : B 12 with | false => rfl | true => exact absurd (hcl 12 10 h rfl) (by rw [hBi]; decide)
            refine r_alloc TF.zero44 rfl (fun b => ?_)
            refine awl_imp (imp_perm (objs := cond (B 11) [⟨b7, true, .box (cond (B 13) (FC.cs x.ch) [.v (.int .i64 0), .v (.string ⟨#[]⟩), .v (.string ⟨#[]⟩), .sl 1 []])⟩] [] ++ [⟨b, true, .box [.v (.int .i64 0), .v (.string ⟨#[]⟩), .v (.string ⟨#[]⟩), .sl 1 []]⟩]) (by rw [hBi]; cases B 11 <;> (first | exact List.Perm.refl _ | exact List.Perm.swap _ _ _))) ?_
            exact awl_nil ⟨rfl, b, b7, ((6, .a (.v (.pointer (some ⟨b, 0, none⟩)))) :: sl), (by show _ = (⟨70, _, cond (B 11) _ _ ++ [⟨b, true, .box (cond (B 12) _ _)⟩]⟩ : AState); rw [n12]; rfl), h0, h1, h5, f0, f1, f2, f3, f4, f5, f6, f7, f8, f9, (fun h => rfl), f11⟩⟩⟩
        , ⟨_, rfl, fun B S hBi hdep hcl => by
            rintro ⟨b6, b7, sl, rfl, h0, h1, h5, f0, f1, f2, f3, f4, f5, f6, f7, f8, f9, f10, f11⟩
            have n13 : B 13 = false := by cases h : B 13 with | false => rfl | true => exact absurd (hcl 13 11 h rfl) (by rw [hBi]; decide)
            refine r_alloc TF.zero44 rfl (fun b => ?_)
            refine awl_imp (imp_perm (objs := ⟨b, true, .box [.v (.int .i64 0), .v (.string ⟨#[]⟩), .v (.string ⟨#[]⟩), .sl 1 []]⟩ :: cond (B 10) [⟨b6, true, .box (cond (B 12) (FC.cs x.ch) [.v (.int .i64 0), .v (.string ⟨#[]⟩), .v (.string ⟨#[]⟩), .sl 1 []])⟩] []) (by rw [hBi]; exact List.Perm.refl _)) ?_
            exact awl_nil ⟨rfl, b6, b, ((7, .a (.v (.pointer (some ⟨b, 0, none⟩)))) :: sl), (by show _ = (⟨70, _, [⟨b, true, .box (cond (B 13) _ _)⟩] ++ _⟩ : AState); rw [n13]; rfl), h0, h1, h5, f0, f1, f2, f3, f4, f5, f6, f7, f8, f9, f10, (fun h => rfl)⟩⟩⟩
        , ⟨_, rfl, fun B S hBi hdep hcl => by
            rintro ⟨b6, b7, sl, rfl, h0, h1, h5, f0, f1, f2, f3, f4, f5, f6, f7, f8, f9, f10, f11⟩
            have e10 : B 10 = true := hdep 10 rfl
            rw [e10, hBi]
            cases h11 : B 11 with
            | false =>
              refine r_store 0 (f10 (hdep 10 rfl)) rfl (f4 (hdep 4 rfl)) TF.sz44 rfl rfl rfl ?_
              exact awl_nil ⟨rfl, b6, b7, _, (by show _ = (⟨70, _, cond (B 11) [⟨b7, true, .box (cond (B 13) _ _)⟩] [] ++ cond (B 10) [⟨b6, true, .box (cond true _ _)⟩] []⟩ : AState); rw [e10, h11]; rfl), h0, h1, h5, f0, f1, f2, f3, f4, f5, f6, f7, f8, f9, f10, f11⟩
            | true =>
              refine r_store 1 (f10 (hdep 10 rfl)) rfl (f4 (hdep 4 rfl)) TF.sz44 rfl rfl rfl ?_
              exact awl_nil ⟨rfl, b6, b7, _, (by show _ = (⟨70, _, cond (B 11) [⟨b7, true, .box (cond (B 13) _ _)⟩] [] ++ cond (B 10) [⟨b6, true, .box (cond true _ _)⟩] []⟩ : AState); rw [e10, h11]; rfl), h0, h1, h5, f0, f1, f2, f3, f4, f5, f6, f7, f8, f9, f10, f11⟩⟩⟩
        , ⟨_, rfl, fun B S hBi hdep hcl => by
            rintro ⟨b6, b7, sl, rfl, h0, h1, h5, f0, f1, f2, f3, f4, f5, f6, f7, f8, f9, f10, f11⟩
            have e10 : B 10 = true := hdep 10 rfl
            have e11 : B 11 = true := hdep 11 rfl
            have e12 : B 12 = true := hdep 12 rfl
            rw [e10, e11, e12, hBi]
            refine r_store 0 (f11 (hdep 11 rfl)) rfl (f9 (hdep 9 rfl)) TF.sz44 rfl rfl rfl ?_
            exact awl_nil ⟨rfl, b6, b7, _, (by show _ = (⟨70, _, cond (B 11) [⟨b7, true, .box (cond true _ _)⟩] [] ++ cond (B 10) [⟨b6, true, .box (cond (B 12) _ _)⟩] []⟩ : AState); rw [e10, e11, e12]; rfl), h0, h1, h5, f0, f1, f2, f3, f4, f5, f6, f7, f8, f9, f10, f11⟩⟩⟩
        (fun B S hall => by
          rintro ⟨b6, b7, sl, rfl, h0, h1, h5, f0, f1, f2, f3, f4, f5, f6, f7, f8, f9, f10, f11⟩
          rw [hall 10 (by decide), hall 11 (by decide), hall 12 (by decide), hall 13 (by decide)]
          refine x_then ?_
          refine awp_weaken (S' := ⟨70, [(0, .a (evsA l)), (1, .a (evsA l)), (5, .a (.v (.int .i64 ((k : Int))))), (6, .a (.v (.pointer (some ⟨b6, 0, none⟩)))), (7, .a (.v (.pointer (some ⟨b7, 0, none⟩))))], [⟨b7, true, .box (FC.cs x.ch)⟩, ⟨b6, true, .box (FC.cs x.ch)⟩]⟩) ⟨rfl, (Slots.cons h0 (.refl _) (Slots.cons h1 (.refl _) (Slots.cons h5 (.refl _) (Slots.cons (f10 (hall 10 (by decide))) (.refl _) (Slots.cons (f11 (hall 11 (by decide))) (.refl _) Slots.nil))))), (List.Sublist.refl _)⟩ ?_
          refine awp_seq ?_
          refine awp_drawS [29, 30, 31, 32, 33, 34, 35, 36, 37, 38, 39, 40, 41, 42, 43, 44, 45, 46, 47, 48, 49, 50, 51, 52, 53, 54, 55, 56, 57, 58, 59, 60, 61, 62, 63, 64, 65, 66, 67] [_, _, _, _, _, _, _, _, _, _, _, _, _, _, _, _, _, _, _, _, _, _, _, _, _, _, _, _, _, _, _, _, _, _, _, _, _, _, _] [] [] TF.mixed rfl rfl rfl ⟨⟨⟨⟨⟨⟨⟨⟨⟨⟨⟨⟨⟨⟨⟨⟨⟨⟨⟨⟨⟨⟨⟨⟨⟨⟨⟨⟨⟨⟨⟨⟨⟨⟨⟨⟨⟨⟨⟨trivial
            , ⟨_, rfl, fun sl hd hr ho => by
                refine r_move (hr 0 _ rfl rfl rfl) rfl ?_
                exact awl_nil ⟨rfl, post_put⟩⟩⟩
            , ⟨_, rfl, fun sl hd hr ho => by
                refine r_move (hr 5 _ rfl rfl rfl) rfl ?_
                exact awl_nil ⟨rfl, post_put⟩⟩⟩
            , ⟨_, rfl, fun sl hd hr ho => by
                refine r_index (hd 0 _ rfl rfl rfl) rfl (hd 1 _ rfl rfl rfl) TF.sl28 TF.sz46 (by omega) (get_map hx) rfl ?_
                exact awl_nil ⟨rfl, post_put⟩⟩⟩
            , ⟨_, rfl, fun sl hd hr ho => by
                first | (refine r_fieldb (hd 2 _ rfl rfl rfl) TF.f46_0 TF.sz30 rfl ?_) | (refine r_fieldcp (hd 2 _ rfl rfl rfl) TF.f46_0 TF.sz30 rfl ?_)
                exact awl_nil ⟨rfl, post_put⟩⟩⟩
            , ⟨_, rfl, fun sl hd hr ho => by
                first | (refine r_load1 (hd 3 _ rfl rfl rfl) TF.agg30 rfl ?_) | (refine r_load1b 0 (hd 3 _ rfl rfl rfl) rfl rfl TF.agg30 rfl ?_) | (refine r_load1b 1 (hd 3 _ rfl rfl rfl) rfl rfl TF.agg30 rfl ?_)
                exact awl_nil ⟨rfl, post_put⟩⟩⟩
            , ⟨_, rfl, fun sl hd hr ho => by
                refine r_move (hr 1 _ rfl rfl rfl) rfl ?_
                exact awl_nil ⟨rfl, post_put⟩⟩⟩
            , ⟨_, rfl, fun sl hd hr ho => by
                refine r_move (hr 5 _ rfl rfl rfl) rfl ?_
                exact awl_nil ⟨rfl, post_put⟩⟩⟩
            , ⟨_, rfl, fun sl hd hr ho => by
                refine r_index (hd 5 _ rfl rfl rfl) rfl (hd 6 _ rfl rfl rfl) TF.sl28 TF.sz46 (by omega) (get_map hx) rfl ?_
                exact awl_nil ⟨rfl, post_put⟩⟩⟩
            , ⟨_, rfl, fun sl hd hr ho => by
                first | (refine r_fieldb (hd 7 _ rfl rfl rfl) TF.f46_0 TF.sz30 rfl ?_) | (refine r_fieldcp (hd 7 _ rfl rfl rfl) TF.f46_0 TF.sz30 rfl ?_)
                exact awl_nil ⟨rfl, post_put⟩⟩⟩
            , ⟨_, rfl, fun sl hd hr ho => by
                first | (refine r_load1 (hd 8 _ rfl rfl rfl) TF.agg30 rfl ?_) | (refine r_load1b 0 (hd 8 _ rfl rfl rfl) rfl rfl TF.agg30 rfl ?_) | (refine r_load1b 1 (hd 8 _ rfl rfl rfl) rfl rfl TF.agg30 rfl ?_)
                exact awl_nil ⟨rfl, post_put⟩⟩⟩
            , ⟨_, rfl, fun sl hd hr ho => by
                refine r_cmp (hd 4 _ rfl rfl rfl) (hd 9 _ rfl rfl rfl) rfl rfl ?_
                exact awl_nil ⟨rfl, post_put⟩⟩⟩
            , ⟨_, rfl, fun sl hd hr ho => by
                refine r_move (hd 10 _ rfl rfl rfl) rfl ?_
                exact awl_nil ⟨rfl, post_put⟩⟩⟩
            , ⟨_, rfl, fun sl hd hr ho => by
                refine g_run rfl (hd 11 _ rfl rfl rfl) (by simp) ?_
                first | (refine r_fieldb (hr 6 _ rfl rfl rfl) TF.f44_0 TF.sz3 rfl ?_) | (refine r_fieldcp (hr 6 _ rfl rfl rfl) TF.f44_0 TF.sz3 rfl ?_)
                exact awl_nil ⟨rfl, post_put⟩⟩⟩
            , ⟨_, rfl, fun sl hd hr ho => by
                refine g_run rfl (hd 11 _ rfl rfl rfl) (by simp) ?_
                refine r_load1b 1 (hd 12 _ rfl rfl rfl) rfl rfl TF.agg3 rfl ?_
                exact awl_nil ⟨rfl, post_put⟩⟩⟩
            , ⟨_, rfl, fun sl hd hr ho => by
                refine g_run rfl (hd 11 _ rfl rfl rfl) (by simp) ?_
                first | (refine r_fieldb (hr 7 _ rfl rfl rfl) TF.f44_0 TF.sz3 rfl ?_) | (refine r_fieldcp (hr 7 _ rfl rfl rfl) TF.f44_0 TF.sz3 rfl ?_)
                exact awl_nil ⟨rfl, post_put⟩⟩⟩
            , ⟨_, rfl, fun sl hd hr ho => by
                refine g_run rfl (hd 11 _ rfl rfl rfl) (by simp) ?_
                refine r_load1b 0 (hd 14 _ rfl rfl rfl) rfl rfl TF.agg3 rfl ?_
                exact awl_nil ⟨rfl, post_put⟩⟩⟩
            , ⟨_, rfl, fun sl hd hr ho => by
                refine g_run rfl (hd 11 _ rfl rfl rfl) (by simp) ?_
                refine r_cmp (hd 13 _ rfl rfl rfl) (hd 15 _ rfl rfl rfl) rfl rfl ?_
                exact awl_nil ⟨rfl, post_put⟩⟩⟩
            , ⟨_, rfl, fun sl hd hr ho => by
                refine r_pickF (hd 11 _ rfl rfl rfl) (by simp) (hd 16 _ rfl rfl rfl) rfl ?_
                exact awl_nil ⟨rfl, post_put⟩⟩⟩
            , ⟨_, rfl, fun sl hd hr ho => by
                refine r_move (hd 17 _ rfl rfl rfl) rfl ?_
                exact awl_nil ⟨rfl, post_put⟩⟩⟩
            , ⟨_, rfl, fun sl hd hr ho => by
                refine g_run rfl (hd 18 _ rfl rfl rfl) (by simp) ?_
                first | (refine r_fieldb (hr 6 _ rfl rfl rfl) TF.f44_1 TF.sz9 rfl ?_) | (refine r_fieldcp (hr 6 _ rfl rfl rfl) TF.f44_1 TF.sz9 rfl ?_)
                exact awl_nil ⟨rfl, post_put⟩⟩⟩
            , ⟨_, rfl, fun sl hd hr ho => by
                refine g_run rfl (hd 18 _ rfl rfl rfl) (by simp) ?_
                refine r_load1b 1 (hd 19 _ rfl rfl rfl) rfl rfl TF.agg9 rfl ?_
                exact awl_nil ⟨rfl, post_put⟩⟩⟩
            , ⟨_, rfl, fun sl hd hr ho => by
                refine g_run rfl (hd 18 _ rfl rfl rfl) (by simp) ?_
                first | (refine r_fieldb (hr 7 _ rfl rfl rfl) TF.f44_1 TF.sz9 rfl ?_) | (refine r_fieldcp (hr 7 _ rfl rfl rfl) TF.f44_1 TF.sz9 rfl ?_)
                exact awl_nil ⟨rfl, post_put⟩⟩⟩
            , ⟨_, rfl, fun sl hd hr ho => by
                refine g_run rfl (hd 18 _ rfl rfl rfl) (by simp) ?_
                refine r_load1b 0 (hd 21 _ rfl rfl rfl) rfl rfl TF.agg9 rfl ?_
                exact awl_nil ⟨rfl, post_put⟩⟩⟩
            , ⟨_, rfl, fun sl hd hr ho => by
                refine g_run rfl (hd 18 _ rfl rfl rfl) (by simp) ?_
                refine r_str2 (hd 20 _ rfl rfl rfl) (hd 22 _ rfl rfl rfl) rfl rfl ?_
                exact awl_nil ⟨rfl, post_put⟩⟩⟩
            , ⟨_, rfl, fun sl hd hr ho => by
                refine r_pickF (hd 18 _ rfl rfl rfl) (by simp) (hd 23 _ rfl rfl rfl) rfl ?_
                exact awl_nil ⟨rfl, post_put⟩⟩⟩
            , ⟨_, rfl, fun sl hd hr ho => by
                refine r_move (hd 24 _ rfl rfl rfl) rfl ?_
                exact awl_nil ⟨rfl, post_put⟩⟩⟩
            , ⟨_, rfl, fun sl hd hr ho => by
                refine g_run rfl (hd 25 _ rfl rfl rfl) (by simp) ?_
                first | (refine r_fieldb (hr 6 _ rfl rfl rfl) TF.f44_2 TF.sz9 rfl ?_) | (refine r_fieldcp (hr 6 _ rfl rfl rfl) TF.f44_2 TF.sz9 rfl ?_)
                exact awl_nil ⟨rfl, post_put⟩⟩⟩
            , ⟨_, rfl, fun sl hd hr ho => by
                refine g_run rfl (hd 25 _ rfl rfl rfl) (by simp) ?_
                refine r_load1b 1 (hd 26 _ rfl rfl rfl) rfl rfl TF.agg9 rfl ?_
                exact awl_nil ⟨rfl, post_put⟩⟩⟩
            , ⟨_, rfl, fun sl hd hr ho => by
                refine g_run rfl (hd 25 _ rfl rfl rfl) (by simp) ?_
                first | (refine r_fieldcp (hr 7 _ rfl rfl rfl) TF.f44_2 TF.sz9 rfl ?_) | (refine r_fieldb (hr 7 _ rfl rfl rfl) TF.f44_2 TF.sz9 rfl ?_)
                exact awl_nil ⟨rfl, post_put⟩⟩⟩
            , ⟨_, rfl, fun sl hd hr ho => by
                refine g_run rfl (hd 25 _ rfl rfl rfl) (by simp) ?_
                first | (refine r_load1b 0 (hd 28 _ rfl rfl rfl) rfl rfl TF.agg9 rfl ?_) | (refine r_load1 (hd 28 _ rfl rfl rfl) TF.agg9 rfl ?_) | (refine r_load1b 1 (hd 28 _ rfl rfl rfl) rfl rfl TF.agg9 rfl ?_)
                exact awl_nil ⟨rfl, post_put⟩⟩⟩
            , ⟨_, rfl, fun sl hd hr ho => by
                refine g_run rfl (hd 25 _ rfl rfl rfl) (by simp) ?_
                refine r_str2 (hd 27 _ rfl rfl rfl) (hd 29 _ rfl rfl rfl) rfl rfl ?_
                exact awl_nil ⟨rfl, post_put⟩⟩⟩
            , ⟨_, rfl, fun sl hd hr ho => by
                refine r_pickF (hd 25 _ rfl rfl rfl) (by simp) (hd 30 _ rfl rfl rfl) rfl ?_
                exact awl_nil ⟨rfl, post_put⟩⟩⟩
            , ⟨_, rfl, fun sl hd hr ho => by
                refine r_move (hd 31 _ rfl rfl rfl) rfl ?_
                exact awl_nil ⟨rfl, post_put⟩⟩⟩
            , ⟨_, rfl, fun sl hd hr ho => by
                refine g_run rfl (hd 32 _ rfl rfl rfl) (by simp) ?_
                first | (refine r_fieldb (hr 6 _ rfl rfl rfl) TF.f44_3 TF.sz42 rfl ?_) | (refine r_fieldcp (hr 6 _ rfl rfl rfl) TF.f44_3 TF.sz42 rfl ?_)
                exact awl_nil ⟨rfl, post_put⟩⟩⟩
            , ⟨_, rfl, fun sl hd hr ho => by
                refine g_run rfl (hd 32 _ rfl rfl rfl) (by simp) ?_
                refine r_load1b 1 (hd 33 _ rfl rfl rfl) rfl rfl TF.agg42 rfl ?_
                exact awl_nil ⟨rfl, post_put⟩⟩⟩
            , ⟨_, rfl, fun sl hd hr ho => by
                refine g_run rfl (hd 32 _ rfl rfl rfl) (by simp) ?_
                refine r_convBS x.ch.data (hd 34 _ rfl rfl rfl) rfl TF.sl42 TF.un5 TF.un9 rfl ?_
                exact awl_nil ⟨rfl, post_put⟩⟩⟩
            , ⟨_, rfl, fun sl hd hr ho => by
                refine g_run rfl (hd 32 _ rfl rfl rfl) (by simp) ?_
                first | (refine r_fieldb (hr 7 _ rfl rfl rfl) TF.f44_3 TF.sz42 rfl ?_) | (refine r_fieldcp (hr 7 _ rfl rfl rfl) TF.f44_3 TF.sz42 rfl ?_)
                exact awl_nil ⟨rfl, post_put⟩⟩⟩
            , ⟨_, rfl, fun sl hd hr ho => by
                refine g_run rfl (hd 32 _ rfl rfl rfl) (by simp) ?_
                refine r_load1b 0 (hd 36 _ rfl rfl rfl) rfl rfl TF.agg42 rfl ?_
                exact awl_nil ⟨rfl, post_put⟩⟩⟩
            , ⟨_, rfl, fun sl hd hr ho => by
                refine g_run rfl (hd 32 _ rfl rfl rfl) (by simp) ?_
                refine r_convBS x.ch.data (hd 37 _ rfl rfl rfl) rfl TF.sl42 TF.un5 TF.un9 rfl ?_
                exact awl_nil ⟨rfl, post_put⟩⟩⟩
            (by rfl) ?_
          refine g_run rfl rfl (by simp) ?_
          refine r_str2 rfl rfl rfl rfl ?_
          refine r_pickF rfl (by simp) rfl rfl ?_
          refine awl_nil ?_
          refine x_then ?_
          refine awp_cond rfl (fun hc2 => ?_) (fun hc2 => ?_)
          ·
            exfalso; simp at hc2
          ·
            refine awp_skip ?_
            refine x_block ?_
            refine x_then ?_
            refine awp_region ?_
            refine r_move rfl rfl ?_
            refine r_ari _ rfl rfl rfl (wrap_id (by first | omega | (simp; omega))) rfl ?_
            refine r_assign rfl rfl ?_
            refine awl_nil ?_
            refine x_then ?_
            refine ⟨l.length - (k + 1), ⟨70, [(0, .a (evsA l)), (1, .a (evsA l)), (5, .a (.v (.int .i64 (((k + 1) : Int)))))], []⟩, ⟨rfl, (Slots.cons rfl (by first | exact .refl _ | exact .nilOwn _ _ | exact .nilSl _ | exact .ownSl _ _ _  | exact SV.le.of_eq (by simp)) (Slots.cons rfl (by first | exact .refl _ | exact .nilOwn _ _ | exact .nilSl _ | exact .ownSl _ _ _  | exact SV.le.of_eq (by simp)) (Slots.cons rfl (by first | exact .refl _ | exact .nilOwn _ _ | exact .nilSl _ | exact .ownSl _ _ _  | exact SV.le.of_eq (by simp)) Slots.nil))), (by first | exact List.Sublist.refl _ | exact .cons_cons _ (.cons _ (.refl _)) | exact List.nil_sublist _ | exact .cons _ (.refl _) | exact .cons _ (.cons _ (.refl _)) | exact .cons _ (.cons _ (.cons _ (.refl _))) | exact .cons _ (.cons _ (.cons _ (.cons _ (.refl _)))) | exact .cons_cons _ (List.nil_sublist _))⟩, (by omega), ⟨k + 1, rfl, rfl, (by omega)⟩⟩)
    ·
      refine awp_exit ?_
      refine x_thenE ?_
      refine x_thenE ?_
      refine x_blockE ?_
      refine x_then ?_
      refine awp_seq ?_
      refine awp_region ?_
      refine r_assign rfl rfl ?_
      refine awl_nil ?_
      refine x_then ?_
      refine awp_ret ?_
      exact ⟨(.inl rfl), _, [], (.one (by first | exact .mk rfl rfl | exact .nil rfl)), ⟨rfl, rfl⟩, (List.nil_sublist _), (by simp)⟩

theorem alike_ok (l : List File) (hl : l.length ≤ 20) (hnd : (l.map (·.name)).Nodup) (hda : ∀ f ∈ l, f.data.length ≤ 1000000) : AC Try.prog 27 [files l, files l] [] (fun r n => n = [] ∧ r = .v (.int .i64 1)) := by
  refine ac_of_awp (rs := [4]) (nt := 76) Try.func27 rfl rfl rfl rfl (fun w0 C0 hq => ?_)
  refine awp_seq ?_
  refine awp_region ?_
  refine r_assign rfl rfl ?_
  refine awl_nil ?_
  refine x_then ?_
  refine awp_seq ?_
  refine awp_seq ?_
  refine awp_region ?_
  refine r_move rfl rfl ?_
  first | (refine r_lenS rfl rfl TF.sl31 rfl ?_) | (refine r_lenNil rfl TF.sl31 rfl ?_) | (refine r_lenV rfl TF.sl31 rfl ?_)
  refine r_move rfl rfl ?_
  first | (refine r_lenS rfl rfl TF.sl31 rfl ?_) | (refine r_lenNil rfl TF.sl31 rfl ?_) | (refine r_lenV rfl TF.sl31 rfl ?_)
  refine r_cmp rfl rfl rfl rfl ?_
  refine r_move rfl rfl ?_
  refine g_cases (t' := 15) rfl (fun hg15 => ?_) (fun hg15 => ?_)
  ·
    simp at hg15
  ·
    refine g_run rfl rfl hg15 ?_
    refine r_move rfl rfl ?_
    refine g_run rfl rfl hg15 ?_
    first | (refine r_lenS rfl rfl TF.sl31 rfl ?_) | (refine r_lenNil rfl TF.sl31 rfl ?_) | (refine r_lenV rfl TF.sl31 rfl ?_)
    refine g_run rfl rfl hg15 ?_
    refine r_cmp rfl rfl rfl rfl ?_
    refine r_pickF rfl hg15 rfl rfl ?_
    refine awl_nil ?_
    refine x_then ?_
    refine awp_cond rfl (fun hc0 => ?_) (fun hc0 => ?_)
    ·
      exfalso; have := of_decide_eq_true hc0; simp at this; omega
    ·
      refine awp_skip ?_
      refine x_then ?_
      refine awp_seq ?_
      refine awp_seq ?_
      refine awp_region ?_
      refine r_assign rfl rfl ?_
      refine awl_nil ?_
      refine x_then ?_
      refine awp_block ?_
      refine awp_loop (fun nn0 S => ∃ k : Nat, S = ⟨76, [(0, .a (files l)), (1, .a (files l)), (5, .a (.v (.int .i64 ((k : Int)))))], []⟩ ∧ nn0 = l.length - k ∧ (k ≤ l.length)) (l.length - (0)) ⟨76, [(0, .a (files l)), (1, .a (files l)), (5, .a (.v (.int .i64 (((0) : Int)))))], []⟩ ⟨rfl, (Slots.cons rfl (by first | exact .refl _ | exact .nilOwn _ _ | exact .nilSl _ | exact .ownSl _ _ _  | exact SV.le.of_eq (by simp)) (Slots.cons rfl (by first | exact .refl _ | exact .nilOwn _ _ | exact .nilSl _ | exact .ownSl _ _ _  | exact SV.le.of_eq (by simp)) (Slots.cons rfl (by first | exact .refl _ | exact .nilOwn _ _ | exact .nilSl _ | exact .ownSl _ _ _  | exact SV.le.of_eq (by simp)) Slots.nil))), (by first | exact List.Sublist.refl _ | exact .cons_cons _ (.cons _ (.refl _)) | exact List.nil_sublist _ | exact .cons _ (.refl _) | exact .cons _ (.cons _ (.refl _)) | exact .cons _ (.cons _ (.cons _ (.refl _))) | exact .cons _ (.cons _ (.cons _ (.cons _ (.refl _)))) | exact .cons_cons _ (List.nil_sublist _))⟩ ⟨0, rfl, rfl, Nat.zero_le _⟩ ?_
      rintro nn0 _ ⟨k, rfl, rfl, hk⟩
      refine awp_seq ?_
      refine awp_seq ?_
      refine awp_region ?_
      refine r_move rfl rfl ?_
      refine r_move rfl rfl ?_
      first | (refine r_lenS rfl rfl TF.sl31 rfl ?_) | (refine r_lenNil rfl TF.sl31 rfl ?_) | (refine r_lenV rfl TF.sl31 rfl ?_)
      refine r_cmp rfl rfl rfl rfl ?_
      refine awl_nil ?_
      refine x_then ?_
      refine awp_cond rfl (fun hc1 => ?_) (fun hc1 => ?_)
      ·
        have hltx : k < l.length := by have := of_decide_eq_true hc1; simpa using this
        obtain ⟨x, hx⟩ := get_lt hltx
        have hfr : findR l x.name = .tup [.agg (File.cs x), boolA true] := by
          have hlk := (parts hx hnd).1 x.name
          rw [if_pos rfl] at hlk
          unfold lookF at hlk
          unfold findR
          cases hf : l.find? (fun f => decide (f.name = x.name)) with
          | none => rw [hf] at hlk; cases hlk
          | some y =>
            rw [hf] at hlk
            simp at hlk
            simp only [hlk]
        refine awp_skip ?_
        refine x_then ?_
        refine awp_seq ?_
        refine awp_block ?_
        refine awp_seq ?_
        refine awp_region ?_
        refine r_move rfl rfl ?_
        refine r_move rfl rfl ?_
        refine r_move rfl rfl ?_
        refine r_index rfl rfl rfl TF.sl31 TF.sz67 (by omega) (get_map hx) rfl ?_
        first | (refine r_fieldb rfl TF.f67_0 TF.sz9 rfl ?_) | (refine r_fieldcp rfl TF.f67_0 TF.sz9 rfl ?_)
        refine r_load1 rfl TF.agg9 rfl ?_
        refine r_call0 hq rfl rfl (.cons (.ev rfl rfl) (.cons (.ev rfl rfl) .nil)) (ffind_ok l x.name (by omega) hda) rfl TF.en29 rfl (fun r hr => ?_)
        obtain rfl := hr
        rw [hfr]
        refine r_move rfl rfl ?_
        refine r_extract rfl rfl rfl ?_
        refine r_extract rfl rfl rfl ?_
        refine r_alloc TF.zero67 rfl (fun b6 => ?_)
        refine r_store 0 rfl rfl rfl TF.sz67 rfl rfl rfl ?_
        refine r_assign rfl rfl ?_
        refine awl_nil ?_
        refine x_then ?_
        refine awp_seq ?_
        refine awp_region ?_
        refine r_move rfl rfl ?_
        refine r_move rfl rfl ?_
        refine r_move rfl rfl ?_
        refine r_index rfl rfl rfl TF.sl31 TF.sz67 (by omega) (get_map hx) rfl ?_
        first | (refine r_fieldb rfl TF.f67_0 TF.sz9 rfl ?_) | (refine r_fieldcp rfl TF.f67_0 TF.sz9 rfl ?_)
        first | (refine r_load1 rfl TF.agg9 rfl ?_) | (refine r_load1b 0 rfl rfl rfl TF.agg9 rfl ?_)
        refine r_call0 hq rfl rfl (.cons (.ev rfl rfl) (.cons (.ev rfl rfl) .nil)) (ffind_ok l x.name (by omega) hda) rfl TF.en29 rfl (fun r hr => ?_)
        obtain rfl := hr
        rw [hfr]
        refine r_move rfl rfl ?_
        refine r_extract rfl rfl rfl ?_
        refine r_extract rfl rfl rfl ?_
        refine r_alloc TF.zero67 rfl (fun b8 => ?_)
        first | (refine r_store 0 rfl rfl rfl TF.sz67 rfl rfl rfl ?_) | (refine r_store 1 rfl rfl rfl TF.sz67 rfl rfl rfl ?_)
        refine r_assign rfl rfl ?_
        refine awl_nil ?_
        refine x_then ?_
        refine awp_seq ?_
        refine awp_drawS [46, 47, 48, 49, 50, 51, 52, 53, 54, 55, 56, 57, 58, 59, 60, 61, 62, 63, 64, 65, 66, 67, 68, 69, 70, 71, 72, 73] [_, _, _, _, _, _, _, _, _, _, _, _, _, _, _, _, _, _, _, _, _, _, _, _, _, _, _, _] [] [] TF.mixed rfl rfl rfl ⟨⟨⟨⟨⟨⟨⟨⟨⟨⟨⟨⟨⟨⟨⟨⟨⟨⟨⟨⟨⟨⟨⟨⟨⟨⟨⟨⟨trivial
          , ⟨_, rfl, fun sl hd hr ho => by
              refine r_move (hr 7 _ rfl rfl rfl) rfl ?_
              exact awl_nil ⟨rfl, post_put⟩⟩⟩
          , ⟨_, rfl, fun sl hd hr ho => by
              refine r_not (hd 0 _ rfl rfl rfl) rfl ?_
              exact awl_nil ⟨rfl, post_put⟩⟩⟩
          , ⟨_, rfl, fun sl hd hr ho => by
              refine r_move (hd 1 _ rfl rfl rfl) rfl ?_
              exact awl_nil ⟨rfl, post_put⟩⟩⟩
          , ⟨_, rfl, fun sl hd hr ho => by
              refine g_run rfl (hd 2 _ rfl rfl rfl) rfl ?_
              refine r_move (hr 9 _ rfl rfl rfl) rfl ?_
              exact awl_nil ⟨rfl, post_put⟩⟩⟩
          , ⟨_, rfl, fun sl hd hr ho => by
              refine g_run rfl (hd 2 _ rfl rfl rfl) rfl ?_
              refine r_not (hd 3 _ rfl rfl rfl) rfl ?_
              exact awl_nil ⟨rfl, post_put⟩⟩⟩
          , ⟨_, rfl, fun sl hd hr ho => by
              refine r_pickF (hd 2 _ rfl rfl rfl) rfl (hd 4 _ rfl rfl rfl) rfl ?_
              exact awl_nil ⟨rfl, post_put⟩⟩⟩
          , ⟨_, rfl, fun sl hd hr ho => by
              refine r_move (hd 5 _ rfl rfl rfl) rfl ?_
              exact awl_nil ⟨rfl, post_put⟩⟩⟩
          , ⟨_, rfl, fun sl hd hr ho => by
              refine g_run rfl (hd 6 _ rfl rfl rfl) rfl ?_
              first | (refine r_fieldb (hr 6 _ rfl rfl rfl) TF.f67_1 TF.sz42 rfl ?_) | (refine r_fieldcp (hr 6 _ rfl rfl rfl) TF.f67_1 TF.sz42 rfl ?_)
              exact awl_nil ⟨rfl, post_put⟩⟩⟩
          , ⟨_, rfl, fun sl hd hr ho => by
              refine g_run rfl (hd 6 _ rfl rfl rfl) rfl ?_
              first | (refine r_load1b 0 (hd 7 _ rfl rfl rfl) rfl rfl TF.agg42 rfl ?_) | (refine r_load1 (hd 7 _ rfl rfl rfl) TF.agg42 rfl ?_) | (refine r_load1b 1 (hd 7 _ rfl rfl rfl) rfl rfl TF.agg42 rfl ?_)
              exact awl_nil ⟨rfl, post_put⟩⟩⟩
          , ⟨_, rfl, fun sl hd hr ho => by
              refine g_run rfl (hd 6 _ rfl rfl rfl) rfl ?_
              refine r_convBS x.data (hd 8 _ rfl rfl rfl) rfl TF.sl42 TF.un5 TF.un9 rfl ?_
              exact awl_nil ⟨rfl, post_put⟩⟩⟩
          , ⟨_, rfl, fun sl hd hr ho => by
              refine g_run rfl (hd 6 _ rfl rfl rfl) rfl ?_
              refine r_move (hr 0 _ rfl rfl rfl) rfl ?_
              exact awl_nil ⟨rfl, post_put⟩⟩⟩
          , ⟨_, rfl, fun sl hd hr ho => by
              refine g_run rfl (hd 6 _ rfl rfl rfl) rfl ?_
              refine r_move (hr 5 _ rfl rfl rfl) rfl ?_
              exact awl_nil ⟨rfl, post_put⟩⟩⟩
          , ⟨_, rfl, fun sl hd hr ho => by
              refine g_run rfl (hd 6 _ rfl rfl rfl) rfl ?_
              refine r_index (hd 10 _ rfl rfl rfl) rfl (hd 11 _ rfl rfl rfl) TF.sl31 TF.sz67 (by omega) (get_map hx) rfl ?_
              exact awl_nil ⟨rfl, post_put⟩⟩⟩
          , ⟨_, rfl, fun sl hd hr ho => by
              refine g_run rfl (hd 6 _ rfl rfl rfl) rfl ?_
              first | (refine r_fieldb (hd 12 _ rfl rfl rfl) TF.f67_1 TF.sz42 rfl ?_) | (refine r_fieldcp (hd 12 _ rfl rfl rfl) TF.f67_1 TF.sz42 rfl ?_)
              exact awl_nil ⟨rfl, post_put⟩⟩⟩
          , ⟨_, rfl, fun sl hd hr ho => by
              refine g_run rfl (hd 6 _ rfl rfl rfl) rfl ?_
              first | (refine r_load1 (hd 13 _ rfl rfl rfl) TF.agg42 rfl ?_) | (refine r_load1b 0 (hd 13 _ rfl rfl rfl) rfl rfl TF.agg42 rfl ?_) | (refine r_load1b 1 (hd 13 _ rfl rfl rfl) rfl rfl TF.agg42 rfl ?_)
              exact awl_nil ⟨rfl, post_put⟩⟩⟩
          , ⟨_, rfl, fun sl hd hr ho => by
              refine g_run rfl (hd 6 _ rfl rfl rfl) rfl ?_
              refine r_convBS x.data (hd 14 _ rfl rfl rfl) rfl TF.sl42 TF.un5 TF.un9 rfl ?_
              exact awl_nil ⟨rfl, post_put⟩⟩⟩
          , ⟨_, rfl, fun sl hd hr ho => by
              refine g_run rfl (hd 6 _ rfl rfl rfl) rfl ?_
              refine r_str2 (hd 9 _ rfl rfl rfl) (hd 15 _ rfl rfl rfl) rfl rfl ?_
              exact awl_nil ⟨rfl, post_put⟩⟩⟩
          , ⟨_, rfl, fun sl hd hr ho => by
              refine r_pickF (hd 6 _ rfl rfl rfl) rfl (hd 16 _ rfl rfl rfl) rfl ?_
              exact awl_nil ⟨rfl, post_put⟩⟩⟩
          , ⟨_, rfl, fun sl hd hr ho => by
              refine r_move (hd 17 _ rfl rfl rfl) rfl ?_
              exact awl_nil ⟨rfl, post_put⟩⟩⟩
          , ⟨_, rfl, fun sl hd hr ho => by
              refine g_run rfl (hd 18 _ rfl rfl rfl) (by simp) ?_
              first | (refine r_fieldb (hr 8 _ rfl rfl rfl) TF.f67_1 TF.sz42 rfl ?_) | (refine r_fieldcp (hr 8 _ rfl rfl rfl) TF.f67_1 TF.sz42 rfl ?_)
              exact awl_nil ⟨rfl, post_put⟩⟩⟩
          , ⟨_, rfl, fun sl hd hr ho => by
              refine g_run rfl (hd 18 _ rfl rfl rfl) (by simp) ?_
              first | (refine r_load1b 0 (hd 19 _ rfl rfl rfl) rfl rfl TF.agg42 rfl ?_) | (refine r_load1 (hd 19 _ rfl rfl rfl) TF.agg42 rfl ?_) | (refine r_load1b 1 (hd 19 _ rfl rfl rfl) rfl rfl TF.agg42 rfl ?_)
              exact awl_nil ⟨rfl, post_put⟩⟩⟩
          , ⟨_, rfl, fun sl hd hr ho => by
              refine g_run rfl (hd 18 _ rfl rfl rfl) (by simp) ?_
              refine r_convBS x.data (hd 20 _ rfl rfl rfl) rfl TF.sl42 TF.un5 TF.un9 rfl ?_
              exact awl_nil ⟨rfl, post_put⟩⟩⟩
          , ⟨_, rfl, fun sl hd hr ho => by
              refine g_run rfl (hd 18 _ rfl rfl rfl) (by simp) ?_
              refine r_move (hr 0 _ rfl rfl rfl) rfl ?_
              exact awl_nil ⟨rfl, post_put⟩⟩⟩
          , ⟨_, rfl, fun sl hd hr ho => by
              refine g_run rfl (hd 18 _ rfl rfl rfl) (by simp) ?_
              refine r_move (hr 5 _ rfl rfl rfl) rfl ?_
              exact awl_nil ⟨rfl, post_put⟩⟩⟩
          , ⟨_, rfl, fun sl hd hr ho => by
              refine g_run rfl (hd 18 _ rfl rfl rfl) (by simp) ?_
              refine r_index (hd 22 _ rfl rfl rfl) rfl (hd 23 _ rfl rfl rfl) TF.sl31 TF.sz67 (by omega) (get_map hx) rfl ?_
              exact awl_nil ⟨rfl, post_put⟩⟩⟩
          , ⟨_, rfl, fun sl hd hr ho => by
              refine g_run rfl (hd 18 _ rfl rfl rfl) (by simp) ?_
              first | (refine r_fieldb (hd 24 _ rfl rfl rfl) TF.f67_1 TF.sz42 rfl ?_) | (refine r_fieldcp (hd 24 _ rfl rfl rfl) TF.f67_1 TF.sz42 rfl ?_)
              exact awl_nil ⟨rfl, post_put⟩⟩⟩
          , ⟨_, rfl, fun sl hd hr ho => by
              refine g_run rfl (hd 18 _ rfl rfl rfl) (by simp) ?_
              first | (refine r_load1 (hd 25 _ rfl rfl rfl) TF.agg42 rfl ?_) | (refine r_load1b 0 (hd 25 _ rfl rfl rfl) rfl rfl TF.agg42 rfl ?_) | (refine r_load1b 1 (hd 25 _ rfl rfl rfl) rfl rfl TF.agg42 rfl ?_)
              exact awl_nil ⟨rfl, post_put⟩⟩⟩
          , ⟨_, rfl, fun sl hd hr ho => by
              refine g_run rfl (hd 18 _ rfl rfl rfl) (by simp) ?_
              refine r_convBS x.data (hd 26 _ rfl rfl rfl) rfl TF.sl42 TF.un5 TF.un9 rfl ?_
              exact awl_nil ⟨rfl, post_put⟩⟩⟩
          (by rfl) ?_
        refine g_run rfl rfl (by simp) ?_
        refine r_str2 rfl rfl rfl rfl ?_
        refine r_pickF rfl (by simp) rfl rfl ?_
        refine awl_nil ?_
        refine x_then ?_
        refine awp_cond rfl (fun hc2 => ?_) (fun hc2 => ?_)
        ·
          exfalso; simp at hc2
        ·
          refine awp_skip ?_
          refine x_block ?_
          refine x_then ?_
          refine awp_region ?_
          refine r_move rfl rfl ?_
          refine r_ari _ rfl rfl rfl (wrap_id (by first | omega | (simp; omega))) rfl ?_
          refine r_assign rfl rfl ?_
          refine awl_nil ?_
          refine x_then ?_
          refine ⟨l.length - (k + 1), ⟨76, [(0, .a (files l)), (1, .a (files l)), (5, .a (.v (.int .i64 (((k + 1) : Int)))))], []⟩, ⟨rfl, (Slots.cons rfl (by first | exact .refl _ | exact .nilOwn _ _ | exact .nilSl _ | exact .ownSl _ _ _  | exact SV.le.of_eq (by simp)) (Slots.cons rfl (by first | exact .refl _ | exact .nilOwn _ _ | exact .nilSl _ | exact .ownSl _ _ _  | exact SV.le.of_eq (by simp)) (Slots.cons rfl (by first | exact .refl _ | exact .nilOwn _ _ | exact .nilSl _ | exact .ownSl _ _ _  | exact SV.le.of_eq (by simp)) Slots.nil))), (by first | exact List.Sublist.refl _ | exact .cons_cons _ (.cons _ (.refl _)) | exact List.nil_sublist _ | exact .cons _ (.refl _) | exact .cons _ (.cons _ (.refl _)) | exact .cons _ (.cons _ (.cons _ (.refl _))) | exact .cons _ (.cons _ (.cons _ (.cons _ (.refl _)))) | exact .cons_cons _ (List.nil_sublist _))⟩, (by omega), ⟨k + 1, rfl, rfl, (by omega)⟩⟩
      ·
        refine awp_exit ?_
        refine x_thenE ?_
        refine x_thenE ?_
        refine x_blockE ?_
        refine x_then ?_
        refine awp_seq ?_
        refine awp_region ?_
        refine r_assign rfl rfl ?_
        refine awl_nil ?_
        refine x_then ?_
        refine awp_ret ?_
        exact ⟨(.inl rfl), _, [], (.one (by first | exact .mk rfl rfl | exact .nil rfl)), ⟨rfl, rfl⟩, (List.nil_sublist _), (by simp)⟩

theorem tfile_ok (l : List Ev) (name : ByteArray) (hl : l.length ≤ 1000) (hda : ∀ e ∈ l, e.ch.data.length ≤ 1000000) : AC Try.prog 20 [evsA l, strA name] [] (fun r n => n = [] ∧ r = evsA (fileF l name)) := by
  refine ac_of_awp (rs := [4]) (nt := 42) Try.func20 rfl rfl rfl rfl (fun w0 C0 hq => ?_)
  refine awp_seq ?_
  refine awp_region ?_
  refine r_assign rfl rfl ?_
  refine awl_nil ?_
  refine x_then ?_
  refine awp_seq ?_
  refine awp_region ?_
  refine r_assign rfl rfl ?_
  refine awl_nil ?_
  refine x_then ?_
  refine awp_seq ?_
  refine awp_seq ?_
  refine awp_region ?_
  refine r_move rfl rfl ?_
  first | (refine r_lenS rfl rfl TF.sl28 rfl ?_) | (refine r_lenNil rfl TF.sl28 rfl ?_) | (refine r_lenV rfl TF.sl28 rfl ?_)
  refine r_move rfl rfl ?_
  refine awl_nil ?_
  refine x_then ?_
  refine awp_block ?_
  refine awp_loop (fun nn0 S => ∃ k : Nat, S = ⟨42, [(1, .a (strA name)), (5, .own 5 5 (((l.take k).filter (hitE name)).map Ev.cs)), (8, .a (evsA l)), (9, .a (.v (.int .i64 ((l.map Ev.cs).length)))), (10, .a (.v (.int .i64 ((k : Int)))))], []⟩ ∧ nn0 = l.length - k ∧ (k ≤ l.length)) (l.length - (0)) ⟨42, [(1, .a (strA name)), (5, .own 5 5 (((l.take (0)).filter (hitE name)).map Ev.cs)), (8, .a (evsA l)), (9, .a (.v (.int .i64 ((l.map Ev.cs).length)))), (10, .a (.v (.int .i64 (((0) : Int)))))], []⟩ ⟨rfl, (Slots.cons rfl (by first | exact .refl _ | exact .nilOwn _ _ | exact .nilSl _ | exact .ownSl _ _ _  | exact SV.le.of_eq (by simp)) (Slots.cons rfl (by first | exact .refl _ | exact .nilOwn _ _ | exact .nilSl _ | exact .ownSl _ _ _  | exact SV.le.of_eq (by simp)) (Slots.cons rfl (by first | exact .refl _ | exact .nilOwn _ _ | exact .nilSl _ | exact .ownSl _ _ _  | exact SV.le.of_eq (by simp)) (Slots.cons rfl (by first | exact .refl _ | exact .nilOwn _ _ | exact .nilSl _ | exact .ownSl _ _ _  | exact SV.le.of_eq (by simp)) (Slots.cons rfl (by first | exact .refl _ | exact .nilOwn _ _ | exact .nilSl _ | exact .ownSl _ _ _  | exact SV.le.of_eq (by simp)) Slots.nil))))), (by first | exact List.Sublist.refl _ | exact .cons_cons _ (.cons _ (.refl _)) | exact List.nil_sublist _ | exact .cons _ (.refl _) | exact .cons _ (.cons _ (.refl _)) | exact .cons _ (.cons _ (.cons _ (.refl _))) | exact .cons _ (.cons _ (.cons _ (.cons _ (.refl _)))) | exact .cons_cons _ (List.nil_sublist _))⟩ ⟨0, rfl, rfl, Nat.zero_le _⟩ ?_
  rintro nn0 _ ⟨k, rfl, rfl, hk⟩
  refine awp_seq ?_
  refine awp_region ?_
  refine r_cmp rfl rfl rfl rfl ?_
  refine awl_nil ?_
  refine x_then ?_
  refine awp_seq ?_
  refine awp_cond rfl (fun hc0 => ?_) (fun hc0 => ?_)
  ·
    have hltx : k < l.length := by have := of_decide_eq_true hc0; simpa using this
    obtain ⟨x, hx⟩ := get_lt hltx
    have hfl : ((l.take k).filter (hitE name)).length ≤ k := Nat.le_trans (List.length_filter_le _ _) (by simp; omega)
    refine awp_skip ?_
    refine x_then ?_
    refine awp_seq ?_
    refine awp_block ?_
    refine awp_seq ?_
    refine awp_region ?_
    refine r_index rfl rfl rfl TF.sl28 TF.sz46 (by omega) (get_map hx) rfl ?_
    refine r_loadA rfl TF.agg46 TF.sz46 rfl rfl ?_
    refine r_alloc TF.zero46 rfl (fun b7 => ?_)
    refine r_store 0 rfl rfl rfl TF.sz46 rfl rfl rfl ?_
    refine awl_nil ?_
    refine x_then ?_
    refine awp_seq ?_
    refine awp_region ?_
    first | (refine r_fieldb rfl TF.f46_1 TF.sz44 rfl ?_) | (refine r_fieldcp rfl TF.f46_1 TF.sz44 rfl ?_)
    first | (refine r_fieldb rfl TF.f44_1 TF.sz9 rfl ?_) | (refine r_fieldcp rfl TF.f44_1 TF.sz9 rfl ?_)
    first | (refine r_load1b 0 rfl rfl rfl TF.agg9 rfl ?_) | (refine r_load1 rfl TF.agg9 rfl ?_)
    refine r_move rfl rfl ?_
    refine r_str2 rfl rfl rfl rfl ?_
    refine r_move rfl rfl ?_
    refine g_cases (t' := 19) rfl (fun hg19 => ?_) (fun hg19 => ?_)
    ·
      refine g_skip rfl rfl hg19 rfl ?_
      refine g_skip rfl rfl hg19 rfl ?_
      refine g_skip rfl rfl hg19 rfl ?_
      refine g_skipU rfl rfl rfl ?_
      refine g_skipU rfl rfl rfl ?_
      refine g_skipU rfl rfl rfl ?_
      refine g_skipU rfl rfl rfl ?_
      refine g_skipU rfl rfl rfl ?_
      refine g_skip rfl rfl hg19 rfl ?_
      refine r_pickT rfl hg19 rfl rfl ?_
      refine awl_nil ?_
      refine x_then ?_
      refine awp_condT rfl ?_
      have hp : hitE name x = true := by first | (unfold hitE; rw [hg19]; rfl) | (unfold hitE E0; rw [hg19, (by simpa using hg22 : decide (name = (⟨#[]⟩ : ByteArray)) = false), hc1]; rfl)
      refine awp_seq ?_
      refine awp_region ?_
      first | (refine r_fieldb rfl TF.f46_1 TF.sz44 rfl ?_) | (refine r_fieldcp rfl TF.f46_1 TF.sz44 rfl ?_)
      first | (refine r_fieldb rfl TF.f44_3 TF.sz42 rfl ?_) | (refine r_fieldcp rfl TF.f44_3 TF.sz42 rfl ?_)
      first | (refine r_load1b 0 rfl rfl rfl TF.agg42 rfl ?_) | (refine r_load1 rfl TF.agg42 rfl ?_)
      refine r_call0 hq rfl rfl (.cons (.ev rfl rfl) .nil) (sclone_ok x.ch.data (hda x (List.mem_of_getElem? hx))) rfl TF.en42 rfl (fun r hr => ?_)
      obtain rfl := hr
      first | (refine r_fieldb rfl TF.f46_1 TF.sz44 rfl ?_) | (refine r_fieldcp rfl TF.f46_1 TF.sz44 rfl ?_)
      first | (refine r_fieldb rfl TF.f44_3 TF.sz42 rfl ?_) | (refine r_fieldcp rfl TF.f44_3 TF.sz42 rfl ?_)
      refine r_store 0 rfl rfl rfl TF.sz42 rfl rfl rfl ?_
      refine awl_nil ?_
      refine x_then ?_
      refine awp_region ?_
      refine r_move rfl rfl ?_
      first | (refine r_loadAb 0 rfl rfl TF.agg46 TF.sz46 rfl rfl ?_) | (refine r_loadA rfl TF.agg46 TF.sz46 rfl rfl ?_)
      refine r_lit 38 (parts := [(0, .tmp 37)]) rfl TF.sl28 TF.sz46 TF.zraw46 rfl rfl rfl rfl rfl rfl rfl ?_
      refine r_append 5 rfl (by first | exact .own _ | exact .nil) rfl (by first | exact .sl _ | exact .own _ _ | exact .nil) TF.sl28 TF.sz46 (by decide) TF.by46 TF.zlen46 (by simp [chunks] <;> omega) (by simp [chunks] <;> omega) rfl ?_
      refine r_assign rfl rfl ?_
      refine awl_nil ?_
      refine x_block ?_
      refine x_then ?_
      refine awp_region ?_
      refine r_ari _ rfl rfl rfl (wrap_id (by first | omega | (simp; omega))) rfl ?_
      refine r_move rfl rfl ?_
      refine awl_nil ?_
      refine x_then ?_
      refine ⟨l.length - (k + 1), ⟨42, [(1, .a (strA name)), (5, .own 5 5 (((l.take (k + 1)).filter (hitE name)).map Ev.cs)), (8, .a (evsA l)), (9, .a (.v (.int .i64 ((l.map Ev.cs).length)))), (10, .a (.v (.int .i64 (((k + 1) : Int)))))], []⟩, ⟨rfl, (Slots.cons rfl (by first | exact .refl _ | exact .nilOwn _ _ | exact .nilSl _ | exact .ownSl _ _ _  | exact SV.le.ownEq (by first | rfl | (rw [filtS_take hx, hp, if_pos rfl, List.map_append]; rfl) | (rw [filtS_take hx, hp, if_neg (by decide), List.append_nil])) | exact SV.le.of_eq (by first | rfl | (rw [filtS_take hx, hp, if_pos rfl, List.map_append]; rfl) | (rw [filtS_take hx, hp, if_neg (by decide), List.append_nil]))) (Slots.cons rfl (by first | exact .refl _ | exact .nilOwn _ _ | exact .nilSl _ | exact .ownSl _ _ _  | exact SV.le.ownEq (by first | rfl | (rw [filtS_take hx, hp, if_pos rfl, List.map_append]; rfl) | (rw [filtS_take hx, hp, if_neg (by decide), List.append_nil])) | exact SV.le.of_eq (by first | rfl | (rw [filtS_take hx, hp, if_pos rfl, List.map_append]; rfl) | (rw [filtS_take hx, hp, if_neg (by decide), List.append_nil]))) (Slots.cons rfl (by first | exact .refl _ | exact .nilOwn _ _ | exact .nilSl _ | exact .ownSl _ _ _  | exact SV.le.ownEq (by first | rfl | (rw [filtS_take hx, hp, if_pos rfl, List.map_append]; rfl) | (rw [filtS_take hx, hp, if_neg (by decide), List.append_nil])) | exact SV.le.of_eq (by first | rfl | (rw [filtS_take hx, hp, if_pos rfl, List.map_append]; rfl) | (rw [filtS_take hx, hp, if_neg (by decide), List.append_nil]))) (Slots.cons rfl (by first | exact .refl _ | exact .nilOwn _ _ | exact .nilSl _ | exact .ownSl _ _ _  | exact SV.le.ownEq (by first | rfl | (rw [filtS_take hx, hp, if_pos rfl, List.map_append]; rfl) | (rw [filtS_take hx, hp, if_neg (by decide), List.append_nil])) | exact SV.le.of_eq (by first | rfl | (rw [filtS_take hx, hp, if_pos rfl, List.map_append]; rfl) | (rw [filtS_take hx, hp, if_neg (by decide), List.append_nil]))) (Slots.cons rfl (by first | exact .refl _ | exact .nilOwn _ _ | exact .nilSl _ | exact .ownSl _ _ _  | exact SV.le.ownEq (by first | rfl | (rw [filtS_take hx, hp, if_pos rfl, List.map_append]; rfl) | (rw [filtS_take hx, hp, if_neg (by decide), List.append_nil])) | exact SV.le.of_eq (by first | rfl | (rw [filtS_take hx, hp, if_pos rfl, List.map_append]; rfl) | (rw [filtS_take hx, hp, if_neg (by decide), List.append_nil]))) Slots.nil))))), (by first | exact List.Sublist.refl _ | exact .cons_cons _ (.cons _ (.refl _)) | exact List.nil_sublist _ | exact .cons _ (.refl _) | exact .cons _ (.cons _ (.refl _)) | exact .cons _ (.cons _ (.cons _ (.refl _))) | exact .cons _ (.cons _ (.cons _ (.cons _ (.refl _)))) | exact .cons_cons _ (List.nil_sublist _))⟩, (by omega), ⟨k + 1, rfl, rfl, (by omega)⟩⟩
    ·
      refine g_run rfl rfl hg19 ?_
      refine r_move rfl rfl ?_
      refine g_run rfl rfl hg19 ?_
      refine r_str2 rfl rfl rfl rfl ?_
      refine g_run rfl rfl hg19 ?_
      refine r_move rfl rfl ?_
      refine g_cases (t' := 22) rfl (fun hg22 => ?_) (fun hg22 => ?_)
      ·
        refine g_run rfl rfl hg22 ?_
        first | (refine r_fieldb rfl TF.f46_1 TF.sz44 rfl ?_) | (refine r_fieldcp rfl TF.f46_1 TF.sz44 rfl ?_)
        refine g_run rfl rfl hg22 ?_
        first | (refine r_fieldb rfl TF.f44_2 TF.sz9 rfl ?_) | (refine r_fieldcp rfl TF.f44_2 TF.sz9 rfl ?_)
        refine g_run rfl rfl hg22 ?_
        first | (refine r_load1b 0 rfl rfl rfl TF.agg9 rfl ?_) | (refine r_load1 rfl TF.agg9 rfl ?_)
        refine g_run rfl rfl hg22 ?_
        refine r_move rfl rfl ?_
        refine g_run rfl rfl hg22 ?_
        refine r_str2 rfl rfl rfl rfl ?_
        refine g_run rfl rfl hg19 ?_
        refine r_pickT rfl hg22 rfl rfl ?_
        refine r_pickF rfl hg19 rfl rfl ?_
        refine awl_nil ?_
        refine x_then ?_
        refine awp_cond rfl (fun hc1 => ?_) (fun hc1 => ?_)
        ·
          have hp : hitE name x = true := by first | (unfold hitE; rw [hg19]; rfl) | (unfold hitE E0; rw [hg19, (by simpa using hg22 : decide (name = (⟨#[]⟩ : ByteArray)) = false), hc1]; rfl)
          refine awp_seq ?_
          refine awp_region ?_
          first | (refine r_fieldb rfl TF.f46_1 TF.sz44 rfl ?_) | (refine r_fieldcp rfl TF.f46_1 TF.sz44 rfl ?_)
          first | (refine r_fieldb rfl TF.f44_3 TF.sz42 rfl ?_) | (refine r_fieldcp rfl TF.f44_3 TF.sz42 rfl ?_)
          first | (refine r_load1b 0 rfl rfl rfl TF.agg42 rfl ?_) | (refine r_load1 rfl TF.agg42 rfl ?_)
          refine r_call0 hq rfl rfl (.cons (.ev rfl rfl) .nil) (sclone_ok x.ch.data (hda x (List.mem_of_getElem? hx))) rfl TF.en42 rfl (fun r hr => ?_)
          obtain rfl := hr
          first | (refine r_fieldb rfl TF.f46_1 TF.sz44 rfl ?_) | (refine r_fieldcp rfl TF.f46_1 TF.sz44 rfl ?_)
          first | (refine r_fieldb rfl TF.f44_3 TF.sz42 rfl ?_) | (refine r_fieldcp rfl TF.f44_3 TF.sz42 rfl ?_)
          refine r_store 0 rfl rfl rfl TF.sz42 rfl rfl rfl ?_
          refine awl_nil ?_
          refine x_then ?_
          refine awp_region ?_
          refine r_move rfl rfl ?_
          first | (refine r_loadAb 0 rfl rfl TF.agg46 TF.sz46 rfl rfl ?_) | (refine r_loadA rfl TF.agg46 TF.sz46 rfl rfl ?_)
          refine r_lit 38 (parts := [(0, .tmp 37)]) rfl TF.sl28 TF.sz46 TF.zraw46 rfl rfl rfl rfl rfl rfl rfl ?_
          refine r_append 5 rfl (by first | exact .own _ | exact .nil) rfl (by first | exact .sl _ | exact .own _ _ | exact .nil) TF.sl28 TF.sz46 (by decide) TF.by46 TF.zlen46 (by simp [chunks] <;> omega) (by simp [chunks] <;> omega) rfl ?_
          refine r_assign rfl rfl ?_
          refine awl_nil ?_
          refine x_block ?_
          refine x_then ?_
          refine awp_region ?_
          refine r_ari _ rfl rfl rfl (wrap_id (by first | omega | (simp; omega))) rfl ?_
          refine r_move rfl rfl ?_
          refine awl_nil ?_
          refine x_then ?_
          refine ⟨l.length - (k + 1), ⟨42, [(1, .a (strA name)), (5, .own 5 5 (((l.take (k + 1)).filter (hitE name)).map Ev.cs)), (8, .a (evsA l)), (9, .a (.v (.int .i64 ((l.map Ev.cs).length)))), (10, .a (.v (.int .i64 (((k + 1) : Int)))))], []⟩, ⟨rfl, (Slots.cons rfl (by first | exact .refl _ | exact .nilOwn _ _ | exact .nilSl _ | exact .ownSl _ _ _  | exact SV.le.ownEq (by first | rfl | (rw [filtS_take hx, hp, if_pos rfl, List.map_append]; rfl) | (rw [filtS_take hx, hp, if_neg (by decide), List.append_nil])) | exact SV.le.of_eq (by first | rfl | (rw [filtS_take hx, hp, if_pos rfl, List.map_append]; rfl) | (rw [filtS_take hx, hp, if_neg (by decide), List.append_nil]))) (Slots.cons rfl (by first | exact .refl _ | exact .nilOwn _ _ | exact .nilSl _ | exact .ownSl _ _ _  | exact SV.le.ownEq (by first | rfl | (rw [filtS_take hx, hp, if_pos rfl, List.map_append]; rfl) | (rw [filtS_take hx, hp, if_neg (by decide), List.append_nil])) | exact SV.le.of_eq (by first | rfl | (rw [filtS_take hx, hp, if_pos rfl, List.map_append]; rfl) | (rw [filtS_take hx, hp, if_neg (by decide), List.append_nil]))) (Slots.cons rfl (by first | exact .refl _ | exact .nilOwn _ _ | exact .nilSl _ | exact .ownSl _ _ _  | exact SV.le.ownEq (by first | rfl | (rw [filtS_take hx, hp, if_pos rfl, List.map_append]; rfl) | (rw [filtS_take hx, hp, if_neg (by decide), List.append_nil])) | exact SV.le.of_eq (by first | rfl | (rw [filtS_take hx, hp, if_pos rfl, List.map_append]; rfl) | (rw [filtS_take hx, hp, if_neg (by decide), List.append_nil]))) (Slots.cons rfl (by first | exact .refl _ | exact .nilOwn _ _ | exact .nilSl _ | exact .ownSl _ _ _  | exact SV.le.ownEq (by first | rfl | (rw [filtS_take hx, hp, if_pos rfl, List.map_append]; rfl) | (rw [filtS_take hx, hp, if_neg (by decide), List.append_nil])) | exact SV.le.of_eq (by first | rfl | (rw [filtS_take hx, hp, if_pos rfl, List.map_append]; rfl) | (rw [filtS_take hx, hp, if_neg (by decide), List.append_nil]))) (Slots.cons rfl (by first | exact .refl _ | exact .nilOwn _ _ | exact .nilSl _ | exact .ownSl _ _ _  | exact SV.le.ownEq (by first | rfl | (rw [filtS_take hx, hp, if_pos rfl, List.map_append]; rfl) | (rw [filtS_take hx, hp, if_neg (by decide), List.append_nil])) | exact SV.le.of_eq (by first | rfl | (rw [filtS_take hx, hp, if_pos rfl, List.map_append]; rfl) | (rw [filtS_take hx, hp, if_neg (by decide), List.append_nil]))) Slots.nil))))), (by first | exact List.Sublist.refl _ | exact .cons_cons _ (.cons _ (.refl _)) | exact List.nil_sublist _ | exact .cons _ (.refl _) | exact .cons _ (.cons _ (.refl _)) | exact .cons _ (.cons _ (.cons _ (.refl _))) | exact .cons _ (.cons _ (.cons _ (.cons _ (.refl _)))) | exact .cons_cons _ (List.nil_sublist _))⟩, (by omega), ⟨k + 1, rfl, rfl, (by omega)⟩⟩
        ·
          have hp : hitE name x = false := by first | (unfold hitE E0; rw [hg19, (by simpa using hg22 : decide (name = (⟨#[]⟩ : ByteArray)) = true)]; rfl) | (unfold hitE; rw [hg19, hc1, Bool.and_false]; rfl)
          refine awp_skip ?_
          refine x_block ?_
          refine x_then ?_
          refine awp_region ?_
          refine r_ari _ rfl rfl rfl (wrap_id (by first | omega | (simp; omega))) rfl ?_
          refine r_move rfl rfl ?_
          refine awl_nil ?_
          refine x_then ?_
          refine ⟨l.length - (k + 1), ⟨42, [(1, .a (strA name)), (5, .own 5 5 (((l.take (k + 1)).filter (hitE name)).map Ev.cs)), (8, .a (evsA l)), (9, .a (.v (.int .i64 ((l.map Ev.cs).length)))), (10, .a (.v (.int .i64 (((k + 1) : Int)))))], []⟩, ⟨rfl, (Slots.cons rfl (by first | exact .refl _ | exact .nilOwn _ _ | exact .nilSl _ | exact .ownSl _ _ _  | exact SV.le.ownEq (by first | rfl | (rw [filtS_take hx, hp, if_pos rfl, List.map_append]; rfl) | (rw [filtS_take hx, hp, if_neg (by decide), List.append_nil])) | exact SV.le.of_eq (by first | rfl | (rw [filtS_take hx, hp, if_pos rfl, List.map_append]; rfl) | (rw [filtS_take hx, hp, if_neg (by decide), List.append_nil]))) (Slots.cons rfl (by first | exact .refl _ | exact .nilOwn _ _ | exact .nilSl _ | exact .ownSl _ _ _  | exact SV.le.ownEq (by first | rfl | (rw [filtS_take hx, hp, if_pos rfl, List.map_append]; rfl) | (rw [filtS_take hx, hp, if_neg (by decide), List.append_nil])) | exact SV.le.of_eq (by first | rfl | (rw [filtS_take hx, hp, if_pos rfl, List.map_append]; rfl) | (rw [filtS_take hx, hp, if_neg (by decide), List.append_nil]))) (Slots.cons rfl (by first | exact .refl _ | exact .nilOwn _ _ | exact .nilSl _ | exact .ownSl _ _ _  | exact SV.le.ownEq (by first | rfl | (rw [filtS_take hx, hp, if_pos rfl, List.map_append]; rfl) | (rw [filtS_take hx, hp, if_neg (by decide), List.append_nil])) | exact SV.le.of_eq (by first | rfl | (rw [filtS_take hx, hp, if_pos rfl, List.map_append]; rfl) | (rw [filtS_take hx, hp, if_neg (by decide), List.append_nil]))) (Slots.cons rfl (by first | exact .refl _ | exact .nilOwn _ _ | exact .nilSl _ | exact .ownSl _ _ _  | exact SV.le.ownEq (by first | rfl | (rw [filtS_take hx, hp, if_pos rfl, List.map_append]; rfl) | (rw [filtS_take hx, hp, if_neg (by decide), List.append_nil])) | exact SV.le.of_eq (by first | rfl | (rw [filtS_take hx, hp, if_pos rfl, List.map_append]; rfl) | (rw [filtS_take hx, hp, if_neg (by decide), List.append_nil]))) (Slots.cons rfl (by first | exact .refl _ | exact .nilOwn _ _ | exact .nilSl _ | exact .ownSl _ _ _  | exact SV.le.ownEq (by first | rfl | (rw [filtS_take hx, hp, if_pos rfl, List.map_append]; rfl) | (rw [filtS_take hx, hp, if_neg (by decide), List.append_nil])) | exact SV.le.of_eq (by first | rfl | (rw [filtS_take hx, hp, if_pos rfl, List.map_append]; rfl) | (rw [filtS_take hx, hp, if_neg (by decide), List.append_nil]))) Slots.nil))))), (by first | exact List.Sublist.refl _ | exact .cons_cons _ (.cons _ (.refl _)) | exact List.nil_sublist _ | exact .cons _ (.refl _) | exact .cons _ (.cons _ (.refl _)) | exact .cons _ (.cons _ (.cons _ (.refl _))) | exact .cons _ (.cons _ (.cons _ (.cons _ (.refl _)))) | exact .cons_cons _ (List.nil_sublist _))⟩, (by omega), ⟨k + 1, rfl, rfl, (by omega)⟩⟩
      ·
        refine g_skip rfl rfl hg22 rfl ?_
        refine g_skip rfl rfl hg22 rfl ?_
        refine g_skip rfl rfl hg22 rfl ?_
        refine g_skip rfl rfl hg22 rfl ?_
        refine g_skip rfl rfl hg22 rfl ?_
        refine g_run rfl rfl hg19 ?_
        refine r_pickF rfl hg22 rfl rfl ?_
        refine r_pickF rfl hg19 rfl rfl ?_
        refine awl_nil ?_
        refine x_then ?_
        refine awp_condF rfl ?_
        have hp : hitE name x = false := by first | (unfold hitE E0; rw [hg19, (by simpa using hg22 : decide (name = (⟨#[]⟩ : ByteArray)) = true)]; rfl) | (unfold hitE; rw [hg19, hc1, Bool.and_false]; rfl)
        refine awp_skip ?_
        refine x_block ?_
        refine x_then ?_
        refine awp_region ?_
        refine r_ari _ rfl rfl rfl (wrap_id (by first | omega | (simp; omega))) rfl ?_
        refine r_move rfl rfl ?_
        refine awl_nil ?_
        refine x_then ?_
        refine ⟨l.length - (k + 1), ⟨42, [(1, .a (strA name)), (5, .own 5 5 (((l.take (k + 1)).filter (hitE name)).map Ev.cs)), (8, .a (evsA l)), (9, .a (.v (.int .i64 ((l.map Ev.cs).length)))), (10, .a (.v (.int .i64 (((k + 1) : Int)))))], []⟩, ⟨rfl, (Slots.cons rfl (by first | exact .refl _ | exact .nilOwn _ _ | exact .nilSl _ | exact .ownSl _ _ _  | exact SV.le.ownEq (by first | rfl | (rw [filtS_take hx, hp, if_pos rfl, List.map_append]; rfl) | (rw [filtS_take hx, hp, if_neg (by decide), List.append_nil])) | exact SV.le.of_eq (by first | rfl | (rw [filtS_take hx, hp, if_pos rfl, List.map_append]; rfl) | (rw [filtS_take hx, hp, if_neg (by decide), List.append_nil]))) (Slots.cons rfl (by first | exact .refl _ | exact .nilOwn _ _ | exact .nilSl _ | exact .ownSl _ _ _  | exact SV.le.ownEq (by first | rfl | (rw [filtS_take hx, hp, if_pos rfl, List.map_append]; rfl) | (rw [filtS_take hx, hp, if_neg (by decide), List.append_nil])) | exact SV.le.of_eq (by first | rfl | (rw [filtS_take hx, hp, if_pos rfl, List.map_append]; rfl) | (rw [filtS_take hx, hp, if_neg (by decide), List.append_nil]))) (Slots.cons rfl (by first | exact .refl _ | exact .nilOwn _ _ | exact .nilSl _ | exact .ownSl _ _ _  | exact SV.le.ownEq (by first | rfl | (rw [filtS_take hx, hp, if_pos rfl, List.map_append]; rfl) | (rw [filtS_take hx, hp, if_neg (by decide), List.append_nil])) | exact SV.le.of_eq (by first | rfl | (rw [filtS_take hx, hp, if_pos rfl, List.map_append]; rfl) | (rw [filtS_take hx, hp, if_neg (by decide), List.append_nil]))) (Slots.cons rfl (by first | exact .refl _ | exact .nilOwn _ _ | exact .nilSl _ | exact .ownSl _ _ _  | exact SV.le.ownEq (by first | rfl | (rw [filtS_take hx, hp, if_pos rfl, List.map_append]; rfl) | (rw [filtS_take hx, hp, if_neg (by decide), List.append_nil])) | exact SV.le.of_eq (by first | rfl | (rw [filtS_take hx, hp, if_pos rfl, List.map_append]; rfl) | (rw [filtS_take hx, hp, if_neg (by decide), List.append_nil]))) (Slots.cons rfl (by first | exact .refl _ | exact .nilOwn _ _ | exact .nilSl _ | exact .ownSl _ _ _  | exact SV.le.ownEq (by first | rfl | (rw [filtS_take hx, hp, if_pos rfl, List.map_append]; rfl) | (rw [filtS_take hx, hp, if_neg (by decide), List.append_nil])) | exact SV.le.of_eq (by first | rfl | (rw [filtS_take hx, hp, if_pos rfl, List.map_append]; rfl) | (rw [filtS_take hx, hp, if_neg (by decide), List.append_nil]))) Slots.nil))))), (by first | exact List.Sublist.refl _ | exact .cons_cons _ (.cons _ (.refl _)) | exact List.nil_sublist _ | exact .cons _ (.refl _) | exact .cons _ (.cons _ (.refl _)) | exact .cons _ (.cons _ (.cons _ (.refl _))) | exact .cons _ (.cons _ (.cons _ (.cons _ (.refl _)))) | exact .cons_cons _ (List.nil_sublist _))⟩, (by omega), ⟨k + 1, rfl, rfl, (by omega)⟩⟩
  ·
    have hge : l.length ≤ k := by have := of_decide_eq_false hc0; simp at this; omega
    have hkl : l.take k = l := List.take_of_length_le hge
    refine awp_exit ?_
    refine x_thenE ?_
    refine x_thenE ?_
    refine x_blockE ?_
    refine x_then ?_
    refine awp_seq ?_
    refine awp_region ?_
    refine r_move rfl rfl ?_
    refine r_assign rfl rfl ?_
    refine awl_nil ?_
    refine x_then ?_
    refine awp_ret ?_
    exact ⟨(.inl rfl), _, [], (.one (by first | exact .mk rfl rfl | exact .nil rfl)), ⟨rfl, by rw [hkl]; rfl⟩, (List.nil_sublist _), (by simp)⟩

theorem quiet1_ok (e : Ev) (a b : Int) : AC Try.prog 44 [.agg (Ev.cs e), .cp [.v (.int .u64 a)], .cp [.v (.int .u64 b)]] [] (fun r n => n = [] ∧ r = boolA (decide (a < e.moment) && decide (e.moment ≤ b))) := by
  refine ac_of_awp (rs := [4]) (nt := 15) Try.func44 rfl rfl rfl rfl (fun w0 C0 hq => ?_)
  refine awp_seq ?_
  refine awp_region ?_
  refine r_box rfl rfl rfl (fun b3 => ?_)
  refine r_assign rfl rfl ?_
  refine awl_nil ?_
  refine x_then ?_
  refine awp_seq ?_
  refine awp_region ?_
  first | (refine r_fieldb rfl TF.f46_0 TF.sz30 rfl ?_) | (refine r_fieldcp rfl TF.f46_0 TF.sz30 rfl ?_)
  refine r_load1b 0 rfl rfl rfl TF.agg30 rfl ?_
  first | (refine r_load1 rfl TF.agg30 rfl ?_) | (refine r_load1b 0 rfl rfl rfl TF.agg30 rfl ?_)
  refine r_cmp rfl rfl rfl rfl ?_
  refine r_move rfl rfl ?_
  refine g_cases (t' := 9) rfl (fun hg9 => ?_) (fun hg9 => ?_)
  ·
    refine g_run rfl rfl hg9 ?_
    first | (refine r_fieldb rfl TF.f46_0 TF.sz30 rfl ?_) | (refine r_fieldcp rfl TF.f46_0 TF.sz30 rfl ?_)
    refine g_run rfl rfl hg9 ?_
    refine r_load1b 0 rfl rfl rfl TF.agg30 rfl ?_
    refine g_run rfl rfl hg9 ?_
    first | (refine r_load1 rfl TF.agg30 rfl ?_) | (refine r_load1b 0 rfl rfl rfl TF.agg30 rfl ?_)
    refine g_run rfl rfl hg9 ?_
    refine r_cmp rfl rfl rfl rfl ?_
    refine r_pickT rfl hg9 rfl rfl ?_
    refine r_assign rfl rfl ?_
    refine awl_nil ?_
    refine x_then ?_
    refine awp_ret ?_
    exact ⟨(.inl rfl), _, [], (.one (by first | exact .mk rfl rfl | exact .nil rfl)), ⟨rfl, by first | (rw [hg9]; rfl) | (rw [hg9, Bool.true_and]; rfl)⟩, (List.nil_sublist _), (by simp)⟩
  ·
    refine g_skip rfl rfl hg9 rfl ?_
    refine g_skip rfl rfl hg9 rfl ?_
    refine g_skip rfl rfl hg9 rfl ?_
    refine g_skip rfl rfl hg9 rfl ?_
    refine r_pickF rfl hg9 rfl rfl ?_
    refine r_assign rfl rfl ?_
    refine awl_nil ?_
    refine x_then ?_
    refine awp_ret ?_
    exact ⟨(.inl rfl), _, [], (.one (by first | exact .mk rfl rfl | exact .nil rfl)), ⟨rfl, by first | (rw [hg9]; rfl) | (rw [hg9, Bool.true_and]; rfl)⟩, (List.nil_sublist _), (by simp)⟩

theorem qidx_ok (l : List Ev) (a b : Int) (hl : l.length ≤ 1000000) : AC Try.prog 58 [evsA l, .fn 44 [.cp [.v (.int .u64 a)], .cp [.v (.int .u64 b)]]] [] (fun r m => m = [] ∧ r = .v (.int .i64 (optI (l.findIdx? (fun e : Ev => decide (a < e.moment) && decide (e.moment ≤ b)))))) := by
  refine ac_of_awp (rs := [4]) (nt := 19) Try.func58 rfl rfl rfl rfl (fun w0 C0 hq => ?_)
  refine awp_seq ?_
  refine awp_region ?_
  refine r_assign rfl rfl ?_
  refine awl_nil ?_
  refine x_then ?_
  refine awp_seq ?_
  refine awp_seq ?_
  refine awp_region ?_
  refine r_move rfl rfl ?_
  first | (refine r_lenS rfl rfl TF.sl28 rfl ?_) | (refine r_lenNil rfl TF.sl28 rfl ?_) | (refine r_lenV rfl TF.sl28 rfl ?_)
  refine r_move rfl rfl ?_
  refine awl_nil ?_
  refine x_then ?_
  refine awp_block ?_
  refine awp_loop (fun nn0 S => ∃ k : Nat, S = ⟨19, [(0, .a (evsA l)), (1, .a (.fn 44 [.cp [.v (.int .u64 a)], .cp [.v (.int .u64 b)]])), (7, .a (.v (.int .i64 ((l.map Ev.cs).length)))), (8, .a (.v (.int .i64 ((k : Int)))))], []⟩ ∧ nn0 = l.length - k ∧ (k ≤ l.length) ∧ ((l.take k).findIdx? (fun e : Ev => decide (a < e.moment) && decide (e.moment ≤ b)) = none)) (l.length - (0)) ⟨19, [(0, .a (evsA l)), (1, .a (.fn 44 [.cp [.v (.int .u64 a)], .cp [.v (.int .u64 b)]])), (7, .a (.v (.int .i64 ((l.map Ev.cs).length)))), (8, .a (.v (.int .i64 (((0) : Int)))))], []⟩ ⟨rfl, (Slots.cons rfl (by first | exact .refl _ | exact .nilOwn _ _ | exact .nilSl _ | exact .ownSl _ _ _  | exact SV.le.of_eq (by simp)) (Slots.cons rfl (by first | exact .refl _ | exact .nilOwn _ _ | exact .nilSl _ | exact .ownSl _ _ _  | exact SV.le.of_eq (by simp)) (Slots.cons rfl (by first | exact .refl _ | exact .nilOwn _ _ | exact .nilSl _ | exact .ownSl _ _ _  | exact SV.le.of_eq (by simp)) (Slots.cons rfl (by first | exact .refl _ | exact .nilOwn _ _ | exact .nilSl _ | exact .ownSl _ _ _  | exact SV.le.of_eq (by simp)) Slots.nil)))), (by first | exact List.Sublist.refl _ | exact .cons_cons _ (.cons _ (.refl _)) | exact List.nil_sublist _ | exact .cons _ (.refl _) | exact .cons _ (.cons _ (.refl _)) | exact .cons _ (.cons _ (.cons _ (.refl _))) | exact .cons _ (.cons _ (.cons _ (.cons _ (.refl _)))) | exact .cons_cons _ (List.nil_sublist _))⟩ ⟨0, rfl, rfl, Nat.zero_le _, rfl⟩ ?_
  rintro nn0 _ ⟨k, rfl, rfl, hk, hno⟩
  refine awp_seq ?_
  refine awp_region ?_
  refine r_cmp rfl rfl rfl rfl ?_
  refine awl_nil ?_
  refine x_then ?_
  refine awp_seq ?_
  refine awp_cond rfl (fun hc0 => ?_) (fun hc0 => ?_)
  ·
    have hltx : k < l.length := by have := of_decide_eq_true hc0; simpa using this
    obtain ⟨x, hx⟩ := get_lt hltx
    refine awp_skip ?_
    refine x_then ?_
    refine awp_seq ?_
    refine awp_block ?_
    refine awp_seq ?_
    refine awp_region ?_
    refine r_move rfl rfl ?_
    refine r_assign rfl rfl ?_
    refine awl_nil ?_
    refine x_then ?_
    refine awp_seq ?_
    refine awp_region ?_
    refine r_move rfl rfl ?_
    refine r_move rfl rfl ?_
    refine r_move rfl rfl ?_
    refine r_index rfl rfl rfl TF.sl28 TF.sz46 (by omega) (get_map hx) rfl ?_
    refine r_loadA rfl TF.agg46 TF.sz46 rfl rfl ?_
    refine r_call0 hq rfl rfl (.cons (.ev rfl rfl) .nil) (quiet1_ok x a b) rfl TF.en44 rfl (fun r hr => ?_)
    obtain rfl := hr
    refine awl_nil ?_
    refine x_then ?_
    refine awp_cond rfl (fun hc1 => ?_) (fun hc1 => ?_)
    ·
      refine awp_seq ?_
      refine awp_region ?_
      refine r_move rfl rfl ?_
      refine r_assign rfl rfl ?_
      refine awl_nil ?_
      refine x_then ?_
      refine awp_ret ?_
      refine x_blockR ?_
      refine x_thenR ?_
      refine x_thenR ?_
      refine x_blockR ?_
      refine x_thenR ?_
      exact ⟨(.inl rfl), _, [], (.one (by first | exact .mk rfl rfl | exact .nil rfl)), ⟨rfl, by rw [fidx_hit hx hc1 hno]; rfl⟩, (List.nil_sublist _), (by simp)⟩
    ·
      refine awp_skip ?_
      refine x_block ?_
      refine x_then ?_
      refine awp_region ?_
      refine r_ari _ rfl rfl rfl (wrap_id (by first | omega | (simp; omega))) rfl ?_
      refine r_move rfl rfl ?_
      refine awl_nil ?_
      refine x_then ?_
      refine ⟨l.length - (k + 1), ⟨19, [(0, .a (evsA l)), (1, .a (.fn 44 [.cp [.v (.int .u64 a)], .cp [.v (.int .u64 b)]])), (7, .a (.v (.int .i64 ((l.map Ev.cs).length)))), (8, .a (.v (.int .i64 (((k + 1) : Int)))))], []⟩, ⟨rfl, (Slots.cons rfl (by first | exact .refl _ | exact .nilOwn _ _ | exact .nilSl _ | exact .ownSl _ _ _  | exact SV.le.of_eq (by simp)) (Slots.cons rfl (by first | exact .refl _ | exact .nilOwn _ _ | exact .nilSl _ | exact .ownSl _ _ _  | exact SV.le.of_eq (by simp)) (Slots.cons rfl (by first | exact .refl _ | exact .nilOwn _ _ | exact .nilSl _ | exact .ownSl _ _ _  | exact SV.le.of_eq (by simp)) (Slots.cons rfl (by first | exact .refl _ | exact .nilOwn _ _ | exact .nilSl _ | exact .ownSl _ _ _  | exact SV.le.of_eq (by simp)) Slots.nil)))), (by first | exact List.Sublist.refl _ | exact .cons_cons _ (.cons _ (.refl _)) | exact List.nil_sublist _ | exact .cons _ (.refl _) | exact .cons _ (.cons _ (.refl _)) | exact .cons _ (.cons _ (.cons _ (.refl _))) | exact .cons _ (.cons _ (.cons _ (.cons _ (.refl _)))) | exact .cons_cons _ (List.nil_sublist _))⟩, (by omega), ⟨k + 1, rfl, rfl, (by omega), (fidx_step hx hc1 hno)⟩⟩
  ·
    have hge : l.length ≤ k := by have := of_decide_eq_false hc0; simp at this; omega
    refine awp_exit ?_
    refine x_thenE ?_
    refine x_thenE ?_
    refine x_blockE ?_
    refine x_then ?_
    refine awp_seq ?_
    refine awp_region ?_
    refine r_assign rfl rfl ?_
    refine awl_nil ?_
    refine x_then ?_
    refine awp_ret ?_
    exact ⟨(.inl rfl), _, [], (.one (by first | exact .mk rfl rfl | exact .nil rfl)), ⟨rfl, by rw [fidx_end hge hno]; rfl⟩, (List.nil_sublist _), (by simp)⟩

theorem qcon_ok (l : List Ev) (a b : Int) (hl : l.length ≤ 1000000) : AC Try.prog 43 [evsA l, .fn 44 [.cp [.v (.int .u64 a)], .cp [.v (.int .u64 b)]]] [] (fun r m => m = [] ∧ r = boolA (l.any (fun e : Ev => decide (a < e.moment) && decide (e.moment ≤ b)))) := by
  refine ac_of_awp (rs := [4]) (nt := 9) Try.func43 rfl rfl rfl rfl (fun w0 C0 hq => ?_)
  refine awp_seq ?_
  refine awp_region ?_
  refine r_assign rfl rfl ?_
  refine awl_nil ?_
  refine x_then ?_
  refine awp_seq ?_
  refine awp_region ?_
  refine r_move rfl rfl ?_
  refine r_move rfl rfl ?_
  refine r_call0 hq rfl rfl (.cons (.ev rfl rfl) (.cons (.ev rfl rfl) .nil)) (qidx_ok l a b hl) rfl TF.en58 rfl (fun r hr => ?_)
  obtain rfl := hr
  refine r_cmp rfl rfl rfl rfl ?_
  refine r_assign rfl rfl ?_
  refine awl_nil ?_
  refine x_then ?_
  refine awp_ret ?_
  exact ⟨(.inl rfl), _, [], (.one (by first | exact .mk rfl rfl | exact .nil rfl)), ⟨rfl, by cases hi : l.findIdx? (fun e : Ev => decide (a < e.moment) && decide (e.moment ≤ b)) with | none => (rw [List.findIdx?_eq_none_iff] at hi; rw [show l.any (fun e : Ev => decide (a < e.moment) && decide (e.moment ≤ b)) = false from List.any_eq_false.2 (fun e he => by rw [hi e he]; decide)]; rfl) | some i => (obtain ⟨x, hx, hp⟩ := fidx_get hi; rw [show l.any (fun e : Ev => decide (a < e.moment) && decide (e.moment ≤ b)) = true from List.any_eq_true.2 ⟨x, List.mem_of_getElem? hx, hp⟩]; simp [optI, SV.av, boolA])⟩, (List.nil_sublist _), (by simp)⟩

theorem quiet_ok (l : List Ev) (a b : Int) (hl : l.length ≤ 1000000) : AC Try.prog 22 [evsA l, .v (.int .u64 a), .v (.int .u64 b)] [] (fun r m => m = [] ∧ r = boolA (quietF l a b)) := by
  refine ac_of_awp (rs := [6]) (nt := 11) Try.func22 rfl rfl rfl rfl (fun w0 C0 hq => ?_)
  refine awp_seq ?_
  refine awp_region ?_
  refine r_box rfl rfl rfl (fun b4 => ?_)
  refine r_box rfl rfl rfl (fun b5 => ?_)
  refine r_assign rfl rfl ?_
  refine awl_nil ?_
  refine x_then ?_
  refine awp_seq ?_
  refine awp_region ?_
  refine awl_imp (imp_commit 0 5 rfl rfl rfl rfl) ?_
  refine awl_imp (imp_commit 0 4 rfl rfl rfl rfl) ?_
  refine r_move rfl rfl ?_
  refine r_makeFunc rfl (.cons (.ev rfl rfl) (.cons (.ev rfl rfl) .nil)) rfl ?_
  refine r_call0 hq rfl rfl (.cons (.ev rfl rfl) (.cons (.ev rfl rfl) .nil)) (qcon_ok l a b hl) rfl TF.en43 rfl (fun r hr => ?_)
  obtain rfl := hr
  refine r_not rfl rfl ?_
  refine r_assign rfl rfl ?_
  refine awl_nil ?_
  refine x_then ?_
  refine awp_ret ?_
  exact ⟨(.inl rfl), _, [], (.one (by first | exact .mk rfl rfl | exact .nil rfl)), ⟨rfl, rfl⟩, (List.nil_sublist _), (by simp)⟩

theorem aw_ev : tlF [1, 2, 3] (atF [1, 2, 3] [(⟨true, 1, -1, -1, -1, 0, 0, 0, 0⟩ : Disk), (⟨true, 1, -1, -1, -1, 0, 0, 0, 0⟩ : Disk), (⟨true, 1, 2, -1, -1, 0, 0, 0, 0⟩ : Disk)]) = [(⟨1, ⟨1, ⟨#[97]⟩, E0, [0]⟩⟩ : Ev), ⟨3, ⟨1, ⟨#[98]⟩, E0, [0, 0]⟩⟩] := by kernel_rfl
theorem aw_okd : ∀ d ∈ [(⟨true, 1, -1, -1, -1, 0, 0, 0, 0⟩ : Disk), (⟨true, 1, -1, -1, -1, 0, 0, 0, 0⟩ : Disk), (⟨true, 1, 2, -1, -1, 0, 0, 0, 0⟩ : Disk)], OkD d := by
  intro d hd i
  simp at hd
  rcases hd with rfl | rfl <;> match i with
    | 0 => decide
    | 1 => decide
    | 2 => decide
    | n + 3 => exact ⟨by show (-128 : Int) ≤ -1; decide, by show (-1 : Int) ≤ 127; decide⟩

set_option maxHeartbeats 1000000 in
theorem awake_ok : AC Try.prog 11 [] [] (fun r n => n = [] ∧ r = boolA true) := by
  refine ac_of_awp (rs := [0]) (nt := 58) Try.func11 rfl rfl rfl rfl (fun w0 C0 hq => ?_)
  refine awp_seq ?_
  refine awp_region ?_
  refine r_assign rfl rfl ?_
  refine awl_nil ?_
  refine x_then ?_
  refine awp_seq ?_
  refine awp_region ?_
  refine r_buildArr (parts := [(0, .const ((Go.Value.int Go.IntKind.i8 1))), (1, .const ((Go.Value.int Go.IntKind.i8 (-1)))), (2, .const ((Go.Value.int Go.IntKind.i8 (-1)))), (3, .const ((Go.Value.int Go.IntKind.i8 (-1))))]) rfl TF.arr35 TF.sz34 TF.zero35 rfl rfl rfl ?_
  refine r_build (parts := [(0, .const ((Go.Value.bool true))), (1, .tmp 4)]) rfl TF.pl38 TF.zero38 rfl rfl rfl ?_
  refine r_alloc TF.zero38 rfl (fun b1 => ?_)
  refine r_store 0 rfl rfl rfl TF.sz38 rfl rfl rfl ?_
  refine awl_nil ?_
  refine x_then ?_
  refine awp_seq ?_
  refine awp_region ?_
  refine r_buildArr (parts := [(0, .const ((Go.Value.int Go.IntKind.i8 1))), (1, .const ((Go.Value.int Go.IntKind.i8 2))), (2, .const ((Go.Value.int Go.IntKind.i8 (-1)))), (3, .const ((Go.Value.int Go.IntKind.i8 (-1))))]) rfl TF.arr35 TF.sz34 TF.zero35 rfl rfl rfl ?_
  refine r_build (parts := [(0, .const ((Go.Value.bool true))), (1, .tmp 6)]) rfl TF.pl38 TF.zero38 rfl rfl rfl ?_
  refine r_alloc TF.zero38 rfl (fun b2 => ?_)
  first | (refine r_store 0 rfl rfl rfl TF.sz38 rfl rfl rfl ?_) | (refine r_store 1 rfl rfl rfl TF.sz38 rfl rfl rfl ?_)
  refine awl_nil ?_
  refine x_then ?_
  refine awp_seq ?_
  refine awp_region ?_
  refine r_lit 8 (parts := [(0, .const ((Go.Value.int Go.IntKind.u64 1))), (1, .const ((Go.Value.int Go.IntKind.u64 2))), (2, .const ((Go.Value.int Go.IntKind.u64 3)))]) rfl TF.sl22 TF.sz30 TF.zraw30 rfl rfl rfl rfl rfl rfl rfl ?_
  refine r_lit 9 (parts := [(0, .const ((Go.Value.int Go.IntKind.u64 1))), (1, .const ((Go.Value.int Go.IntKind.u64 2))), (2, .const ((Go.Value.int Go.IntKind.u64 3)))]) rfl TF.sl22 TF.sz30 TF.zraw30 rfl rfl rfl rfl rfl rfl rfl ?_
  refine r_loadAb 1 rfl rfl TF.agg38 TF.sz38 rfl rfl ?_
  refine r_loadAb 1 rfl rfl TF.agg38 TF.sz38 rfl rfl ?_
  refine r_loadAb 0 rfl rfl TF.agg38 TF.sz38 rfl rfl ?_
  refine r_lit 13 (parts := [(0, .tmp 10), (1, .tmp 11), (2, .tmp 12)]) rfl TF.sl23 TF.sz38 TF.zraw38 rfl rfl rfl rfl rfl rfl rfl ?_
  refine r_call0 hq rfl rfl (.cons (.ev rfl rfl) (.cons (.ev rfl rfl) .nil)) (at_ok [1, 2, 3] [(⟨true, 1, -1, -1, -1, 0, 0, 0, 0⟩ : Disk), (⟨true, 1, -1, -1, -1, 0, 0, 0, 0⟩ : Disk), (⟨true, 1, 2, -1, -1, 0, 0, 0, 0⟩ : Disk)]) rfl TF.en13 rfl (fun r hr => ?_)
  obtain rfl := hr
  refine r_call0 hq rfl rfl (.cons (.ev rfl rfl) (.cons (.ev rfl rfl) .nil)) (tlD_ok [1, 2, 3] (by simp) [1, 2, 3] [(⟨true, 1, -1, -1, -1, 0, 0, 0, 0⟩ : Disk), (⟨true, 1, -1, -1, -1, 0, 0, 0, 0⟩ : Disk), (⟨true, 1, 2, -1, -1, 0, 0, 0, 0⟩ : Disk)] (by simp) aw_okd) rfl TF.en14 rfl (fun r hr => ?_)
  obtain rfl := hr
  rw [aw_ev]
  refine r_assign rfl rfl ?_
  refine awl_nil ?_
  refine x_then ?_
  refine awp_seq ?_
  refine awp_region ?_
  refine r_move rfl rfl ?_
  first | (refine r_lenS rfl rfl TF.sl28 rfl ?_) | (refine r_lenNil rfl TF.sl28 rfl ?_) | (refine r_lenV rfl TF.sl28 rfl ?_)
  refine r_cmp rfl rfl rfl rfl ?_
  refine r_move rfl rfl ?_
  refine g_run rfl rfl rfl ?_
  refine r_move rfl rfl ?_
  refine g_run rfl rfl rfl ?_
  refine r_index rfl rfl rfl TF.sl28 TF.sz46 (by decide) rfl rfl ?_
  refine g_run rfl rfl rfl ?_
  first | (refine r_fieldb rfl TF.f46_0 TF.sz30 rfl ?_) | (refine r_fieldcp rfl TF.f46_0 TF.sz30 rfl ?_)
  refine g_run rfl rfl rfl ?_
  first | (refine r_load1 rfl TF.agg30 rfl ?_) | (refine r_load1b 0 rfl rfl rfl TF.agg30 rfl ?_) | (refine r_load1b 1 rfl rfl rfl TF.agg30 rfl ?_)
  refine g_run rfl rfl rfl ?_
  refine r_cmp rfl rfl rfl rfl ?_
  refine r_pickT rfl rfl rfl rfl ?_
  refine r_move rfl rfl ?_
  refine g_run rfl rfl rfl ?_
  refine r_move rfl rfl ?_
  refine g_run rfl rfl rfl ?_
  refine r_index rfl rfl rfl TF.sl28 TF.sz46 (by decide) rfl rfl ?_
  refine g_run rfl rfl rfl ?_
  first | (refine r_fieldb rfl TF.f46_1 TF.sz44 rfl ?_) | (refine r_fieldcp rfl TF.f46_1 TF.sz44 rfl ?_)
  refine g_run rfl rfl rfl ?_
  first | (refine r_fieldb rfl TF.f44_0 TF.sz3 rfl ?_) | (refine r_fieldcp rfl TF.f44_0 TF.sz3 rfl ?_)
  refine g_run rfl rfl rfl ?_
  first | (refine r_load1 rfl TF.agg3 rfl ?_) | (refine r_load1b 0 rfl rfl rfl TF.agg3 rfl ?_) | (refine r_load1b 1 rfl rfl rfl TF.agg3 rfl ?_)
  refine g_run rfl rfl rfl ?_
  refine r_cmp rfl rfl rfl rfl ?_
  refine r_pickT rfl rfl rfl rfl ?_
  refine r_move rfl rfl ?_
  refine g_run rfl rfl rfl ?_
  refine r_move rfl rfl ?_
  refine g_run rfl rfl rfl ?_
  refine r_index rfl rfl rfl TF.sl28 TF.sz46 (by decide) rfl rfl ?_
  refine g_run rfl rfl rfl ?_
  first | (refine r_fieldb rfl TF.f46_0 TF.sz30 rfl ?_) | (refine r_fieldcp rfl TF.f46_0 TF.sz30 rfl ?_)
  refine g_run rfl rfl rfl ?_
  first | (refine r_load1 rfl TF.agg30 rfl ?_) | (refine r_load1b 0 rfl rfl rfl TF.agg30 rfl ?_) | (refine r_load1b 1 rfl rfl rfl TF.agg30 rfl ?_)
  refine g_run rfl rfl rfl ?_
  refine r_cmp rfl rfl rfl rfl ?_
  refine r_pickT rfl rfl rfl rfl ?_
  refine r_move rfl rfl ?_
  refine g_run rfl rfl rfl ?_
  refine r_move rfl rfl ?_
  refine g_run rfl rfl rfl ?_
  refine r_index rfl rfl rfl TF.sl28 TF.sz46 (by decide) rfl rfl ?_
  refine g_run rfl rfl rfl ?_
  first | (refine r_fieldb rfl TF.f46_1 TF.sz44 rfl ?_) | (refine r_fieldcp rfl TF.f46_1 TF.sz44 rfl ?_)
  refine g_run rfl rfl rfl ?_
  first | (refine r_fieldb rfl TF.f44_1 TF.sz9 rfl ?_) | (refine r_fieldcp rfl TF.f44_1 TF.sz9 rfl ?_)
  refine g_run rfl rfl rfl ?_
  first | (refine r_load1 rfl TF.agg9 rfl ?_) | (refine r_load1b 0 rfl rfl rfl TF.agg9 rfl ?_) | (refine r_load1b 1 rfl rfl rfl TF.agg9 rfl ?_)
  refine g_run rfl rfl rfl ?_
  refine r_str2 rfl rfl rfl rfl ?_
  refine r_pickT rfl rfl rfl rfl ?_
  refine r_move rfl rfl ?_
  refine g_run rfl rfl rfl ?_
  refine r_move rfl rfl ?_
  refine g_run rfl rfl rfl ?_
  refine r_call0 hq rfl rfl (.cons (.ev rfl rfl) (.cons (.ev rfl rfl) (.cons (.ev rfl rfl) .nil))) (quiet_ok [(⟨1, ⟨1, ⟨#[97]⟩, E0, [0]⟩⟩ : Ev), ⟨3, ⟨1, ⟨#[98]⟩, E0, [0, 0]⟩⟩] 1 2 (by simp)) rfl TF.en22 rfl (fun r hr => ?_)
  obtain rfl := hr
  refine r_pickT rfl rfl rfl rfl ?_
  refine r_move rfl rfl ?_
  refine g_run rfl rfl rfl ?_
  refine r_move rfl rfl ?_
  refine g_run rfl rfl rfl ?_
  refine r_call0 hq rfl rfl (.cons (.ev rfl rfl) (.cons (.ev rfl rfl) (.cons (.ev rfl rfl) .nil))) (quiet_ok [(⟨1, ⟨1, ⟨#[97]⟩, E0, [0]⟩⟩ : Ev), ⟨3, ⟨1, ⟨#[98]⟩, E0, [0, 0]⟩⟩] 2 3 (by simp)) rfl TF.en22 rfl (fun r hr => ?_)
  obtain rfl := hr
  refine g_run rfl rfl rfl ?_
  refine r_not rfl rfl ?_
  refine r_pickT rfl rfl rfl rfl ?_
  refine r_assign rfl rfl ?_
  refine awl_nil ?_
  refine x_then ?_
  refine awp_ret ?_
  exact ⟨(.inl rfl), _, [], (.one (by first | exact .mk rfl rfl | exact .nil rfl)), ⟨rfl, rfl⟩, (List.nil_sublist _), (by simp)⟩

end Go.Proofs.Ytmbfmnhcahhciaa.A

/- Layer 66: fs.Find, walked. -/
import Derived.Test.YtpoacfbobalpkaaProg
import Derived.KernelRfl
import Derived.Test.YtpoacfbobalpkaaX66L
import Derived.Test.YtpoacfbobalpkaaO
namespace Go.Proofs.Ytpoacfbobalpkaa.A
open Go Go.RowKit
set_option linter.unusedVariables false
set_option linter.unusedSimpArgs false
set_option maxRecDepth 100000

theorem T.en43 : entersT Try.prog 43 := enters_of Try.func43 (by kernel_rfl) (by kernel_rfl)
theorem T.en42 : entersT Try.prog 42 := enters_of Try.func42 (by kernel_rfl) (by kernel_rfl)
theorem T.en44 : entersT Try.prog 44 := enters_of Try.func44 (by kernel_rfl) (by kernel_rfl)

def findR (l : List File) (n : ByteArray) : AV := match l.find? (fun f => decide (f.name = n)) with
  | some f => .tup [File.av ⟨n, f.data⟩, boolA true]
  | none => .tup [File.av File.zero, boolA false]

theorem find1_ok (f : File) (n : ByteArray) : AC Try.prog 43 [File.av f, .cp [strA n]] [] (fun r m => m = [] ∧ r = boolA (decide (f.name = n))) := by
  refine ac_of_awp (rs := [3]) (nt := 8) Try.func43 rfl rfl rfl rfl (fun w0 C0 => ?_)
  refine awp_seq ?_
  refine awp_region ?_
  refine r_box rfl rfl rfl (fun b2 => ?_)
  refine r_assign rfl rfl ?_
  refine awl_nil ?_
  refine x_then ?_
  refine awp_seq ?_
  refine awp_region ?_
  first | (refine r_fieldcp rfl T.f50_0 T.sz9 rfl ?_) | (refine r_fieldb rfl T.f50_0 T.sz9 rfl ?_)
  first | (refine r_load1 rfl T.agg9 rfl ?_) | (refine r_load1b 0 rfl rfl rfl T.agg9 rfl ?_)
  first | (refine r_load1 rfl T.agg9 rfl ?_) | (refine r_load1b 0 rfl rfl rfl T.agg9 rfl ?_)
  refine r_str2 rfl rfl rfl rfl ?_
  refine r_assign rfl rfl ?_
  refine awl_nil ?_
  refine x_then ?_
  refine awp_ret ?_
  exact ⟨(.inl rfl), _, [], (.one (by first | exact .mk rfl rfl | exact .nil rfl)), ⟨rfl, rfl⟩, (List.nil_sublist _), (by simp)⟩

theorem idxfunc_ok (l : List File) (n : ByteArray) (hl : l.length ≤ 1000000) : AC Try.prog 42 [files l, .fn 43 [.cp [strA n]]] [] (fun r m => m = [] ∧ r = .v (.int .i64 (optI (findF l n)))) := by
  refine ac_of_awp (rs := [4]) (nt := 19) Try.func42 rfl rfl rfl rfl (fun w0 C0 => ?_)
  refine awp_seq ?_
  refine awp_region ?_
  refine r_assign rfl rfl ?_
  refine awl_nil ?_
  refine x_then ?_
  refine awp_seq ?_
  refine awp_seq ?_
  refine awp_region ?_
  refine r_move rfl rfl ?_
  first | (refine r_lenS rfl rfl T.sl41 rfl ?_) | (refine r_lenNil rfl T.sl41 rfl ?_)
  refine r_move rfl rfl ?_
  refine awl_nil ?_
  refine x_then ?_
  refine awp_block ?_
  refine awp_loop (fun nn0 S => ∃ k : Nat, S = ⟨19, [(0, .a (files l)), (1, .a (.fn 43 [.cp [strA n]])), (7, .a (.v (.int .i64 ((l.map File.cs).length)))), (8, .a (.v (.int .i64 ((k : Int)))))], []⟩ ∧ nn0 = l.length - k ∧ (k ≤ l.length) ∧ ((l.take k).findIdx? (fun x => decide (x.name = n)) = none)) (l.length - (0)) ⟨19, [(0, .a (files l)), (1, .a (.fn 43 [.cp [strA n]])), (7, .a (.v (.int .i64 ((l.map File.cs).length)))), (8, .a (.v (.int .i64 (((0) : Int)))))], []⟩ ⟨rfl, (Slots.cons rfl (by first | exact .refl _ | exact .nilOwn _ _ | exact .nilSl _ | exact .ownSl _ _ _ | exact SV.le.of_eq (by simp)) (Slots.cons rfl (by first | exact .refl _ | exact .nilOwn _ _ | exact .nilSl _ | exact .ownSl _ _ _ | exact SV.le.of_eq (by simp)) (Slots.cons rfl (by first | exact .refl _ | exact .nilOwn _ _ | exact .nilSl _ | exact .ownSl _ _ _ | exact SV.le.of_eq (by simp)) (Slots.cons rfl (by first | exact .refl _ | exact .nilOwn _ _ | exact .nilSl _ | exact .ownSl _ _ _ | exact SV.le.of_eq (by simp)) Slots.nil)))), (by first | exact List.Sublist.refl _ | exact List.nil_sublist _ | exact .cons _ (.refl _) | exact .cons _ (.cons _ (.refl _)) | exact .cons _ (.cons _ (.cons _ (.refl _))) | exact .cons _ (.cons _ (.cons _ (.cons _ (.refl _)))) | exact .cons_cons _ (List.nil_sublist _))⟩ ⟨0, rfl, rfl, Nat.zero_le _, rfl⟩ ?_
  rintro nn0 _ ⟨k, rfl, rfl, hk, hno⟩
  refine awp_seq ?_
  refine awp_region ?_
  refine r_cmp rfl rfl rfl rfl ?_
  refine awl_nil ?_
  refine x_then ?_
  refine awp_seq ?_
  refine awp_cond rfl (fun hc0 => ?_) (fun hc0 => ?_)
  ·
    have hlt : k < l.length := by have := of_decide_eq_true hc0; simpa using this
    obtain ⟨x, hx⟩ := get_lt hlt
    refine awp_skip ?_
    refine x_then ?_
    refine awp_seq ?_
    refine awp_block ?_
    refine awp_seq ?_
    refine awp_region ?_
    refine r_move rfl rfl ?_
    refine r_assign rfl rfl ?_
    refine awl_nil ?_
    refine x_then ?_
    refine awp_seq ?_
    refine awp_region ?_
    refine r_move rfl rfl ?_
    refine r_move rfl rfl ?_
    refine r_move rfl rfl ?_
    refine r_index rfl rfl rfl T.sl41 T.sz50 (by omega) (get_map hx) rfl ?_
    refine r_loadA rfl T.agg50 T.sz50 rfl rfl ?_
    refine r_call0 rfl rfl (.cons (.ev rfl rfl) .nil) (find1_ok x n) rfl T.en43 rfl (fun r hr => ?_)
    obtain rfl := hr
    refine awl_nil ?_
    refine x_then ?_
    refine awp_cond rfl (fun hc1 => ?_) (fun hc1 => ?_)
    ·
      refine awp_seq ?_
      refine awp_region ?_
      refine r_move rfl rfl ?_
      refine r_assign rfl rfl ?_
      refine awl_nil ?_
      refine x_then ?_
      refine awp_ret ?_
      refine x_blockR ?_
      refine x_thenR ?_
      refine x_thenR ?_
      refine x_blockR ?_
      refine x_thenR ?_
      exact ⟨(.inl rfl), _, [], (.one (by first | exact .mk rfl rfl | exact .nil rfl)), ⟨rfl, by rw [findF, fidx_hit hx hc1 hno]; rfl⟩, (List.nil_sublist _), (by simp)⟩
    ·
      refine awp_skip ?_
      refine x_block ?_
      refine x_then ?_
      refine awp_region ?_
      refine r_ari _ rfl rfl rfl (wrap_id (by omega)) rfl ?_
      refine r_move rfl rfl ?_
      refine awl_nil ?_
      refine x_then ?_
      refine ⟨l.length - (k + 1), ⟨19, [(0, .a (files l)), (1, .a (.fn 43 [.cp [strA n]])), (7, .a (.v (.int .i64 ((l.map File.cs).length)))), (8, .a (.v (.int .i64 (((k + 1) : Int)))))], []⟩, ⟨rfl, (Slots.cons rfl (by first | exact .refl _ | exact .nilOwn _ _ | exact .nilSl _ | exact .ownSl _ _ _ | exact SV.le.of_eq (by simp)) (Slots.cons rfl (by first | exact .refl _ | exact .nilOwn _ _ | exact .nilSl _ | exact .ownSl _ _ _ | exact SV.le.of_eq (by simp)) (Slots.cons rfl (by first | exact .refl _ | exact .nilOwn _ _ | exact .nilSl _ | exact .ownSl _ _ _ | exact SV.le.of_eq (by simp)) (Slots.cons rfl (by first | exact .refl _ | exact .nilOwn _ _ | exact .nilSl _ | exact .ownSl _ _ _ | exact SV.le.of_eq (by simp)) Slots.nil)))), (by first | exact List.Sublist.refl _ | exact List.nil_sublist _ | exact .cons _ (.refl _) | exact .cons _ (.cons _ (.refl _)) | exact .cons _ (.cons _ (.cons _ (.refl _))) | exact .cons _ (.cons _ (.cons _ (.cons _ (.refl _)))) | exact .cons_cons _ (List.nil_sublist _))⟩, (by omega), ⟨k + 1, rfl, rfl, (by have := (List.getElem?_eq_some_iff.1 hx).1; omega), (fidx_step hx hc1 hno)⟩⟩
  ·
    have hge : l.length ≤ k := by have := of_decide_eq_false hc0; simp at this; omega
    refine awp_exit ?_
    refine x_thenE ?_
    refine x_thenE ?_
    refine x_blockE ?_
    refine x_then ?_
    refine awp_seq ?_
    refine awp_region ?_
    refine r_assign rfl rfl ?_
    refine awl_nil ?_
    refine x_then ?_
    refine awp_ret ?_
    exact ⟨(.inl rfl), _, [], (.one (by first | exact .mk rfl rfl | exact .nil rfl)), ⟨rfl, by rw [findF, fidx_end hge hno]; rfl⟩, (List.nil_sublist _), (by simp)⟩

theorem ffind_ok (l : List File) (n : ByteArray) (hl : l.length ≤ 1000000) (hd : ∀ f ∈ l, f.data.length ≤ 1000000) : AC Try.prog 24 [files l, strA n] [] (fun r m => m = [] ∧ r = findR l n) := by
  refine ac_of_awpG (nt := 21) (ResBT Try.prog 4 50 5) Try.func24 rfl rfl rfl (resBT_run rfl) (fun w0 C0 => ?_)
  refine awp_seq ?_
  refine awp_region ?_
  refine r_box rfl rfl rfl (fun b3 => ?_)
  refine r_alloc T.zero50 rfl (fun b4 => ?_)
  refine r_assign rfl rfl ?_
  refine awl_nil ?_
  refine x_then ?_
  refine awp_seq ?_
  refine awp_region ?_
  refine r_move rfl rfl ?_
  refine awl_imp (imp_commit 1 3 rfl rfl rfl rfl) ?_
  refine r_makeFunc rfl (.cons (.ev rfl rfl) .nil) rfl ?_
  refine r_call0 rfl rfl (.cons (.ev rfl rfl) (.cons (.ev rfl rfl) .nil)) (idxfunc_ok l n hl) rfl T.en42 rfl (fun r hr => ?_)
  obtain rfl := hr
  refine r_assign rfl rfl ?_
  refine awl_nil ?_
  refine x_then ?_
  refine awp_seq ?_
  refine awp_seq ?_
  refine awp_region ?_
  refine r_move rfl rfl ?_
  refine r_cmp rfl rfl rfl rfl ?_
  refine awl_nil ?_
  refine x_then ?_
  refine awp_cond rfl (fun hc0 => ?_) (fun hc0 => ?_)
  ·
    have hn := find_idx_none (optI_none (of_decide_eq_true hc0))
    refine awp_seq ?_
    refine awp_region ?_
    refine r_build (parts := []) rfl T.pl50 T.zero50 rfl rfl rfl ?_
    first | (refine r_store 0 rfl rfl rfl T.sz50 rfl rfl rfl ?_) | (refine r_store 1 rfl rfl rfl T.sz50 rfl rfl rfl ?_)
    refine r_assign rfl rfl ?_
    refine awl_nil ?_
    refine x_then ?_
    refine awp_ret ?_
    refine x_thenR ?_
    exact ⟨(.inl rfl), _, [], ⟨_, _, (by first | exact .mk' 0 rfl rfl T.agg50 T.sz50 rfl | exact .mk' 1 rfl rfl T.agg50 T.sz50 rfl | exact .mk' 2 rfl rfl T.agg50 T.sz50 rfl | exact .mk' 3 rfl rfl T.agg50 T.sz50 rfl | exact .mk' 4 rfl rfl T.agg50 T.sz50 rfl | exact .mk' 5 rfl rfl T.agg50 T.sz50 rfl), (by first | exact .mk rfl rfl | exact .nil rfl), rfl⟩, ⟨rfl, by rw [findR, hn]; rfl⟩, (List.nil_sublist _), (by simp)⟩
  ·
    obtain ⟨k, hk⟩ := optI_some (Int.not_lt.1 (of_decide_eq_false hc0))
    obtain ⟨x, hx, hxn⟩ := fidx_get hk
    have hxd := hd x (List.mem_of_getElem? hx)
    have hf : l.find? (fun f => decide (f.name = n)) = some x := by rw [find_idx hk, hx]
    refine awp_skip ?_
    refine x_then ?_
    refine awp_seq ?_
    refine awp_drawS [13, 14, 15, 16, 17, 18, 19] [_, _, _, _, _, _, _] [] [] T.mixed rfl rfl rfl ⟨⟨⟨⟨⟨⟨⟨trivial
      , ⟨_, rfl, fun sl hd hr ho => by
          first | (refine r_load1 (hr 3 _ rfl rfl rfl) T.agg9 rfl ?_) | (refine r_load1b 0 (hr 3 _ rfl rfl rfl) rfl rfl T.agg9 rfl ?_) | (refine r_load1b 1 (hr 3 _ rfl rfl rfl) rfl rfl T.agg9 rfl ?_)
          exact awl_nil ⟨rfl, post_put⟩⟩⟩
      , ⟨_, rfl, fun sl hd hr ho => by
          refine r_move (hr 0 _ rfl rfl rfl) rfl ?_
          exact awl_nil ⟨rfl, post_put⟩⟩⟩
      , ⟨_, rfl, fun sl hd hr ho => by
          refine r_move (hr 6 _ rfl rfl rfl) rfl ?_
          exact awl_nil ⟨rfl, post_put⟩⟩⟩
      , ⟨_, rfl, fun sl hd hr ho => by
          refine r_index (hd 1 _ rfl rfl rfl) rfl (hd 2 _ rfl rfl rfl) T.sl41 T.sz50 (by rw [hk]; simp [optI]) (by rw [hk]; exact get_map hx) rfl ?_
          exact awl_nil ⟨rfl, post_put⟩⟩⟩
      , ⟨_, rfl, fun sl hd hr ho => by
          first | (refine r_fieldcp (hd 3 _ rfl rfl rfl) T.f50_1 T.sz31 rfl ?_) | (refine r_fieldb (hd 3 _ rfl rfl rfl) T.f50_1 T.sz31 rfl ?_)
          exact awl_nil ⟨rfl, post_put⟩⟩⟩
      , ⟨_, rfl, fun sl hd hr ho => by
          first | (refine r_load1 (hd 4 _ rfl rfl rfl) T.agg31 rfl ?_) | (refine r_load1b 0 (hd 4 _ rfl rfl rfl) rfl rfl T.agg31 rfl ?_) | (refine r_load1b 1 (hd 4 _ rfl rfl rfl) rfl rfl T.agg31 rfl ?_)
          exact awl_nil ⟨rfl, post_put⟩⟩⟩
      , ⟨_, rfl, fun sl hd hr ho => by
          refine r_call0 rfl rfl (.cons (.ev (hd 5 _ rfl rfl rfl) rfl) .nil) (sclone_ok x.data hxd) rfl T.en44 rfl (fun r hr => ?_)
          obtain rfl := hr
          exact awl_nil ⟨rfl, post_put⟩⟩⟩
      (by rfl) ?_
    refine r_build (parts := [(0, .tmp 13), (1, .tmp 19)]) rfl T.pl50 T.zero50 rfl rfl rfl ?_
    first | (refine r_store 0 rfl rfl rfl T.sz50 rfl rfl rfl ?_) | (refine r_store 1 rfl rfl rfl T.sz50 rfl rfl rfl ?_)
    refine r_assign rfl rfl ?_
    refine awl_nil ?_
    refine x_then ?_
    refine awp_ret ?_
    exact ⟨(.inl rfl), _, [], ⟨_, _, (by first | exact .mk' 0 rfl rfl T.agg50 T.sz50 rfl | exact .mk' 1 rfl rfl T.agg50 T.sz50 rfl | exact .mk' 2 rfl rfl T.agg50 T.sz50 rfl | exact .mk' 3 rfl rfl T.agg50 T.sz50 rfl | exact .mk' 4 rfl rfl T.agg50 T.sz50 rfl | exact .mk' 5 rfl rfl T.agg50 T.sz50 rfl), (by first | exact .mk rfl rfl | exact .nil rfl), rfl⟩, ⟨rfl, by rw [findR, hf]; rfl⟩, (List.nil_sublist _), (by simp)⟩

end Go.Proofs.Ytpoacfbobalpkaa.A

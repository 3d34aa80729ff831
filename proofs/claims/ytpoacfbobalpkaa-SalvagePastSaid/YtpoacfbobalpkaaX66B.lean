/- Layer 66: walks of the document's insert, of closures, of what is compared. -/
import Derived.Test.YtpoacfbobalpkaaProg
import Derived.KernelRfl
import Derived.Test.YtpoacfbobalpkaaX66A
namespace Go.Proofs.Ytpoacfbobalpkaa.A
open Go Go.RowKit
set_option linter.unusedVariables false
set_option linter.unusedSimpArgs false
set_option maxRecDepth 100000

theorem T.sl46 : sliceT Try.prog 46 = some 9 := by kernel_rfl
theorem T.mixed : Try.prog.follows .mixedOrders = true := by kernel_rfl
theorem T.zraw9 : zeroT Try.prog 9 = some [(.string ⟨#[]⟩)] := by kernel_rfl
theorem T.by9 : bytesT Try.prog 9 = some 16 := by kernel_rfl
theorem T.zlen9 : (zeroT Try.prog 9).map (·.length) = some 1 := by kernel_rfl
theorem T.agg51 : aggT Try.prog 51 = some true := by kernel_rfl
theorem T.zero51 : ZeroT Try.prog 51 [.v (.string ⟨#[]⟩), .sl 1 []] := ⟨[(.string ⟨#[]⟩), (.slice none 0 0)], by kernel_rfl, (.cons (.refl _) (.cons (.nil 1) .nil))⟩
theorem T.f51_1 : fieldT Try.prog 51 1 = some (1, 31) := by kernel_rfl
theorem T.sz31 : szT Try.prog 31 = some 1 := by kernel_rfl
theorem T.agg31 : aggT Try.prog 31 = some false := by kernel_rfl
theorem T.pl50 : placesT Try.prog 50 = some [(0, 1), (1, 1)] := by kernel_rfl
theorem T.zero50 : ZeroT Try.prog 50 [.v (.string ⟨#[]⟩), .sl 1 []] := ⟨[(.string ⟨#[]⟩), (.slice none 0 0)], by kernel_rfl, (.cons (.refl _) (.cons (.nil 1) .nil))⟩
theorem T.sl41 : sliceT Try.prog 41 = some 50 := by kernel_rfl
theorem T.sz50 : szT Try.prog 50 = some 2 := by kernel_rfl
theorem T.zraw50 : zeroT Try.prog 50 = some [(.string ⟨#[]⟩), (.slice none 0 0)] := by kernel_rfl
theorem T.by50 : bytesT Try.prog 50 = some 40 := by kernel_rfl
theorem T.zlen50 : (zeroT Try.prog 50).map (·.length) = some 2 := by kernel_rfl
theorem T.sl34 : sliceT Try.prog 34 = some 40 := by kernel_rfl
theorem T.sz40 : szT Try.prog 40 = some 4 := by kernel_rfl
theorem T.agg40 : aggT Try.prog 40 = some true := by kernel_rfl
theorem T.zero40 : ZeroT Try.prog 40 [.v (.string ⟨#[]⟩), .v (.int .u64 0), .v (.bool false), .sl 1 []] := ⟨[(.string ⟨#[]⟩), (.int .u64 0), (.bool false), (.slice none 0 0)], by kernel_rfl, (.cons (.refl _) (.cons (.refl _) (.cons (.refl _) (.cons (.nil 1) .nil))))⟩
theorem T.f40_0 : fieldT Try.prog 40 0 = some (0, 9) := by kernel_rfl
theorem T.f40_1 : fieldT Try.prog 40 1 = some (1, 30) := by kernel_rfl
theorem T.f40_2 : fieldT Try.prog 40 2 = some (2, 4) := by kernel_rfl
theorem T.f40_3 : fieldT Try.prog 40 3 = some (3, 31) := by kernel_rfl
theorem T.pl33 : placesT Try.prog 33 = some [(0, 1), (1, 1), (2, 1), (3, 1)] := by kernel_rfl
theorem T.zraw33 : zeroT Try.prog 33 = some [(.string ⟨#[]⟩), (.int .u64 0), (.bool false), (.slice none 0 0)] := by kernel_rfl
theorem T.by33 : bytesT Try.prog 33 = some 56 := by kernel_rfl
theorem T.zlen33 : (zeroT Try.prog 33).map (·.length) = some 4 := by kernel_rfl
theorem T.en21 : entersT Try.prog 21 := enters_of Try.func21 (by kernel_rfl) (by kernel_rfl)
theorem T.agg22 : aggT Try.prog 22 = some false := by kernel_rfl
theorem T.en22 : entersT Try.prog 22 := enters_of Try.func22 (by kernel_rfl) (by kernel_rfl)
theorem T.f57_1 : fieldT Try.prog 57 1 = some (1, 4) := by kernel_rfl
theorem T.f57_2 : fieldT Try.prog 57 2 = some (2, 44) := by kernel_rfl
theorem T.sz44 : szT Try.prog 44 = some 1 := by kernel_rfl
theorem T.agg44 : aggT Try.prog 44 = some false := by kernel_rfl
theorem T.en33 : entersT Try.prog 33 := enters_of Try.func33 (by kernel_rfl) (by kernel_rfl)
theorem T.f33_1 : fieldT Try.prog 33 1 = some (1, 30) := by kernel_rfl
theorem T.un4 : Try.prog.underlying 4 = some .bool := by kernel_rfl
theorem T.f33_3 : fieldT Try.prog 33 3 = some (3, 31) := by kernel_rfl
theorem T.un5 : Try.prog.underlying 5 = some (.int .u8) := by kernel_rfl
theorem T.sl23 : sliceT Try.prog 23 = some 30 := by kernel_rfl
theorem T.agg57 : aggT Try.prog 57 = some true := by kernel_rfl
theorem T.zero57 : ZeroT Try.prog 57 [.v (.int .u64 0), .v (.bool false), .sl 2 []] := ⟨[(.int .u64 0), (.bool false), (.slice none 0 0)], by kernel_rfl, (.cons (.refl _) (.cons (.refl _) (.cons (.nil 2) .nil)))⟩

theorem insert_ok (l : List ByteArray) (name : ByteArray) (hl : l.length ≤ 1000000) : AC Try.prog 34 [strsA l, strA name] [] (fun r n => n = [] ∧ r = strsA (insS l name)) := by
  refine ac_of_awp (rs := [4]) (nt := 45) Try.func34 rfl rfl rfl rfl (fun w0 C0 => ?_)
  refine awp_seq ?_
  refine awp_region ?_
  refine r_assign rfl rfl ?_
  refine awl_nil ?_
  refine x_then ?_
  refine awp_seq ?_
  refine awp_region ?_
  refine r_assign rfl rfl ?_
  refine awl_nil ?_
  refine x_then ?_
  refine awp_cut (fun S => ∃ k : Nat, S = ⟨45, [(0, .a (strsA l)), (1, .a (strA name)), (5, .a (.v (.int .i64 ((k : Int)))))], []⟩ ∧ (k ≤ l.length) ∧ ((l.take k).all (ltS · name) = true) ∧ (∀ x, l[k]? = some x → ltS x name = false)) ?_ ?_
  ·
    refine awp_block ?_
    refine awp_loop (fun nn0 S => ∃ k : Nat, S = ⟨45, [(0, .a (strsA l)), (1, .a (strA name)), (5, .a (.v (.int .i64 ((k : Int)))))], []⟩ ∧ nn0 = l.length - k ∧ (k ≤ l.length) ∧ ((l.take k).all (ltS · name) = true)) (l.length - (0)) ⟨45, [(0, .a (strsA l)), (1, .a (strA name)), (5, .a (.v (.int .i64 (((0) : Int)))))], []⟩ ⟨rfl, (Slots.cons rfl (by first | exact .refl _ | exact .nilOwn _ _ | exact .nilSl _ | exact .ownSl _ _ _ | exact SV.le.of_eq (by simp)) (Slots.cons rfl (by first | exact .refl _ | exact .nilOwn _ _ | exact .nilSl _ | exact .ownSl _ _ _ | exact SV.le.of_eq (by simp)) (Slots.cons rfl (by first | exact .refl _ | exact .nilOwn _ _ | exact .nilSl _ | exact .ownSl _ _ _ | exact SV.le.of_eq (by simp)) Slots.nil))), (by first | exact List.Sublist.refl _ | exact List.nil_sublist _ | exact .cons _ (.refl _) | exact .cons _ (.cons _ (.refl _)) | exact .cons _ (.cons _ (.cons _ (.refl _))) | exact .cons _ (.cons _ (.cons _ (.cons _ (.refl _)))) | exact .cons_cons _ (List.nil_sublist _))⟩ ⟨0, rfl, rfl, Nat.zero_le _, rfl⟩ ?_
    rintro nn0 _ ⟨k, rfl, rfl, hk, ha⟩
    refine awp_seq ?_
    refine awp_seq ?_
    refine awp_region ?_
    refine r_move rfl rfl ?_
    refine r_move rfl rfl ?_
    first | (refine r_lenS rfl rfl T.sl46 rfl ?_) | (refine r_lenNil rfl T.sl46 rfl ?_)
    refine r_cmp rfl rfl rfl rfl ?_
    refine r_move rfl rfl ?_
    refine g_cases (t' := 10) rfl (fun hg10 => ?_) (fun hg10 => ?_)
    ·
      have hlt : k < l.length := by have := of_decide_eq_true hg10; simpa using this
      obtain ⟨x, hx⟩ := get_lt hlt
      refine g_run rfl rfl hg10 ?_
      refine r_move rfl rfl ?_
      refine g_run rfl rfl hg10 ?_
      refine r_move rfl rfl ?_
      refine g_run rfl rfl hg10 ?_
      refine r_index rfl rfl rfl T.sl46 T.sz9 (by omega) (get_map hx) rfl ?_
      refine g_run rfl rfl hg10 ?_
      refine r_load1 rfl T.agg9 rfl ?_
      refine g_run rfl rfl hg10 ?_
      refine r_move rfl rfl ?_
      refine g_run rfl rfl hg10 ?_
      refine r_str2 rfl rfl rfl rfl ?_
      refine r_pickT rfl hg10 rfl rfl ?_
      refine awl_nil ?_
      refine x_then ?_
      refine awp_cond rfl (fun hc0 => ?_) (fun hc0 => ?_)
      ·
        refine awp_skip ?_
        refine x_then ?_
        refine awp_block ?_
        refine awp_region ?_
        refine r_move rfl rfl ?_
        refine r_ari _ rfl rfl rfl (wrap_id (by omega)) rfl ?_
        refine r_assign rfl rfl ?_
        refine awl_nil ?_
        refine x_block ?_
        refine x_then ?_
        refine ⟨l.length - (k + 1), ⟨45, [(0, .a (strsA l)), (1, .a (strA name)), (5, .a (.v (.int .i64 (((k + 1) : Int)))))], []⟩, ⟨rfl, (Slots.cons rfl (by first | exact .refl _ | exact .nilOwn _ _ | exact .nilSl _ | exact .ownSl _ _ _ | exact SV.le.of_eq (by simp)) (Slots.cons rfl (by first | exact .refl _ | exact .nilOwn _ _ | exact .nilSl _ | exact .ownSl _ _ _ | exact SV.le.of_eq (by simp)) (Slots.cons rfl (by first | exact .refl _ | exact .nilOwn _ _ | exact .nilSl _ | exact .ownSl _ _ _ | exact SV.le.of_eq (by simp)) Slots.nil))), (by first | exact List.Sublist.refl _ | exact List.nil_sublist _ | exact .cons _ (.refl _) | exact .cons _ (.cons _ (.refl _)) | exact .cons _ (.cons _ (.cons _ (.refl _))) | exact .cons _ (.cons _ (.cons _ (.cons _ (.refl _)))) | exact .cons_cons _ (List.nil_sublist _))⟩, (by omega), ⟨k + 1, rfl, rfl, (by have := (List.getElem?_eq_some_iff.1 hx).1; omega), (all_takeB hx ha hc0)⟩⟩
      ·
        refine awp_exit ?_
        refine x_thenE ?_
        refine x_thenE ?_
        refine x_blockE ?_
        refine x_then ?_
        refine ⟨⟨45, [(0, .a (strsA l)), (1, .a (strA name)), (5, .a (.v (.int .i64 (((k) : Int)))))], []⟩, ⟨rfl, (Slots.cons rfl (by first | exact .refl _ | exact .nilOwn _ _ | exact .nilSl _ | exact .ownSl _ _ _ | exact SV.le.of_eq (by simp)) (Slots.cons rfl (by first | exact .refl _ | exact .nilOwn _ _ | exact .nilSl _ | exact .ownSl _ _ _ | exact SV.le.of_eq (by simp)) (Slots.cons rfl (by first | exact .refl _ | exact .nilOwn _ _ | exact .nilSl _ | exact .ownSl _ _ _ | exact SV.le.of_eq (by simp)) Slots.nil))), (by first | exact List.Sublist.refl _ | exact List.nil_sublist _ | exact .cons _ (.refl _) | exact .cons _ (.cons _ (.refl _)) | exact .cons _ (.cons _ (.cons _ (.refl _))) | exact .cons _ (.cons _ (.cons _ (.cons _ (.refl _)))) | exact .cons_cons _ (List.nil_sublist _))⟩, ⟨k, rfl, hk, ha, (fun y hy => by rw [hx] at hy; cases hy; exact hc0)⟩⟩
    ·
      have hge : l.length ≤ k := by have := of_decide_eq_false hg10; simp at this; omega
      refine g_skip rfl rfl hg10 rfl ?_
      refine g_skip rfl rfl hg10 rfl ?_
      refine g_skip rfl rfl hg10 rfl ?_
      refine g_skip rfl rfl hg10 rfl ?_
      refine g_skip rfl rfl hg10 rfl ?_
      refine g_skip rfl rfl hg10 rfl ?_
      refine r_pickF rfl hg10 rfl rfl ?_
      refine awl_nil ?_
      refine x_then ?_
      refine awp_condF rfl ?_
      refine awp_exit ?_
      refine x_thenE ?_
      refine x_thenE ?_
      refine x_blockE ?_
      refine x_then ?_
      refine ⟨⟨45, [(0, .a (strsA l)), (1, .a (strA name)), (5, .a (.v (.int .i64 (((k) : Int)))))], []⟩, ⟨rfl, (Slots.cons rfl (by first | exact .refl _ | exact .nilOwn _ _ | exact .nilSl _ | exact .ownSl _ _ _ | exact SV.le.of_eq (by simp)) (Slots.cons rfl (by first | exact .refl _ | exact .nilOwn _ _ | exact .nilSl _ | exact .ownSl _ _ _ | exact SV.le.of_eq (by simp)) (Slots.cons rfl (by first | exact .refl _ | exact .nilOwn _ _ | exact .nilSl _ | exact .ownSl _ _ _ | exact SV.le.of_eq (by simp)) Slots.nil))), (by first | exact List.Sublist.refl _ | exact List.nil_sublist _ | exact .cons _ (.refl _) | exact .cons _ (.cons _ (.refl _)) | exact .cons _ (.cons _ (.cons _ (.refl _))) | exact .cons _ (.cons _ (.cons _ (.cons _ (.refl _)))) | exact .cons_cons _ (List.nil_sublist _))⟩, ⟨k, rfl, hk, ha, (fun y hy => by have := (List.getElem?_eq_some_iff.1 hy).1; omega)⟩⟩
  ·
    rintro _ ⟨k, rfl, hk, ha, hs⟩
    refine awp_seq ?_
    refine awp_seq ?_
    refine awp_region ?_
    refine r_move rfl rfl ?_
    refine r_move rfl rfl ?_
    first | (refine r_lenS rfl rfl T.sl46 rfl ?_) | (refine r_lenNil rfl T.sl46 rfl ?_)
    refine r_cmp rfl rfl rfl rfl ?_
    refine r_move rfl rfl ?_
    refine g_cases (t' := 24) rfl (fun hg24 => ?_) (fun hg24 => ?_)
    ·
      have hlt : k < l.length := by have := of_decide_eq_true hg24; simpa using this
      obtain ⟨x, hx⟩ := get_lt hlt
      refine g_run rfl rfl hg24 ?_
      refine r_move rfl rfl ?_
      refine g_run rfl rfl hg24 ?_
      refine r_move rfl rfl ?_
      refine g_run rfl rfl hg24 ?_
      refine r_index rfl rfl rfl T.sl46 T.sz9 (by omega) (get_map hx) rfl ?_
      refine g_run rfl rfl hg24 ?_
      refine r_load1 rfl T.agg9 rfl ?_
      refine g_run rfl rfl hg24 ?_
      refine r_move rfl rfl ?_
      refine g_run rfl rfl hg24 ?_
      refine r_str2 rfl rfl rfl rfl ?_
      refine r_pickT rfl hg24 rfl rfl ?_
      refine awl_nil ?_
      refine x_then ?_
      refine awp_cond rfl (fun hc1 => ?_) (fun hc1 => ?_)
      ·
        refine awp_seq ?_
        refine awp_region ?_
        refine r_move rfl rfl ?_
        refine r_assign rfl rfl ?_
        refine awl_nil ?_
        refine x_then ?_
        refine awp_ret ?_
        refine x_thenR ?_
        exact ⟨(.inl rfl), _, [], (.one (by first | exact .mk rfl rfl | exact .nil rfl)), ⟨rfl, by rw [insS_at ha hk hs, hx]; simp [of_decide_eq_true hc1]; rfl⟩, (List.nil_sublist _), (by simp)⟩
      ·
        refine awp_skip ?_
        refine x_then ?_
        refine awp_seq ?_
        refine awp_drawS [33, 34, 35, 36, 37, 38, 39, 40, 41, 42, 43] [_, _, _, _, _, _, _, _, _, _, _] [[], [], [], [], [33], [], [], [33, 37]] [(0, 33), (4, 33), (6, 39), (7, 33)] T.mixed rfl rfl rfl ⟨⟨⟨⟨⟨⟨⟨⟨⟨⟨⟨trivial
          , ⟨_, rfl, fun sl hd hr ho => by
              refine r_lit 33 (parts := []) rfl T.sl46 T.sz9 T.zraw9 rfl rfl parts_nil rfl rfl rfl rfl ?_
              exact awl_nil ⟨rfl, (post_dem (ho 33 (List.mem_of_elem_eq_true rfl)))⟩⟩⟩
          , ⟨_, rfl, fun sl hd hr ho => by
              refine r_move (hr 0 _ rfl rfl rfl) rfl ?_
              exact awl_nil ⟨rfl, post_put⟩⟩⟩
          , ⟨_, rfl, fun sl hd hr ho => by
              refine r_move (hr 5 _ rfl rfl rfl) rfl ?_
              exact awl_nil ⟨rfl, post_put⟩⟩⟩
          , ⟨_, rfl, fun sl hd hr ho => by
              refine r_sliceH (hd 1 _ rfl rfl rfl) rfl (hd 2 _ rfl rfl rfl) T.sl46 T.sz9 (by omega) (by simp; omega) rfl ?_
              exact awl_nil ⟨rfl, post_put⟩⟩⟩
          , ⟨_, rfl, fun sl hd hr ho => by
              refine r_append 33 (hd 0 _ rfl rfl rfl) (by first | exact .own _ | exact .nil) (hd 3 _ rfl rfl rfl) (by first | exact .sl _ | exact .own _ _ | exact .nil) T.sl46 T.sz9 (by decide) T.by9 T.zlen9 (by simp [chunks] <;> omega) (by simp [chunks] <;> omega) rfl ?_
              exact awl_nil ⟨rfl, (post_dem (ho 33 (List.mem_of_elem_eq_true rfl)))⟩⟩⟩
          , ⟨_, rfl, fun sl hd hr ho => by
              refine r_move (hr 1 _ rfl rfl rfl) rfl ?_
              exact awl_nil ⟨rfl, post_put⟩⟩⟩
          , ⟨_, rfl, fun sl hd hr ho => by
              refine r_lit 39 (parts := [(0, .tmp 38)]) rfl T.sl46 T.sz9 T.zraw9 rfl rfl (parts_cons (hd 5 _ rfl rfl rfl) parts_nil) rfl rfl rfl rfl ?_
              exact awl_nil ⟨rfl, (post_dem (ho 39 (List.mem_of_elem_eq_true rfl)))⟩⟩⟩
          , ⟨_, rfl, fun sl hd hr ho => by
              refine r_append 33 (hd 4 _ rfl rfl rfl) (by first | exact .own _ | exact .nil) (hd 6 _ rfl rfl rfl) (by first | exact .sl _ | exact .own _ _ | exact .nil) T.sl46 T.sz9 (by decide) T.by9 T.zlen9 (by simp [chunks] <;> omega) (by simp [chunks] <;> omega) rfl ?_
              exact awl_nil ⟨rfl, (post_dem (ho 33 (List.mem_of_elem_eq_true rfl)))⟩⟩⟩
          , ⟨_, rfl, fun sl hd hr ho => by
              refine r_move (hr 0 _ rfl rfl rfl) rfl ?_
              exact awl_nil ⟨rfl, post_put⟩⟩⟩
          , ⟨_, rfl, fun sl hd hr ho => by
              refine r_move (hr 5 _ rfl rfl rfl) rfl ?_
              exact awl_nil ⟨rfl, post_put⟩⟩⟩
          , ⟨_, rfl, fun sl hd hr ho => by
              refine r_sliceL (hd 8 _ rfl rfl rfl) rfl (hd 9 _ rfl rfl rfl) T.sl46 T.sz9 (by omega) (by simp; omega) rfl ?_
              exact awl_nil ⟨rfl, post_put⟩⟩⟩
          (by rfl) ?_
        refine r_append 33 rfl (by first | exact .own _ | exact .nil) rfl (by first | exact .sl _ | exact .own _ _ | exact .nil) T.sl46 T.sz9 (by decide) T.by9 T.zlen9 (by simp [chunks] <;> omega) (by simp [chunks] <;> omega) rfl ?_
        refine r_assign rfl rfl ?_
        refine awl_nil ?_
        refine x_then ?_
        refine awp_ret ?_
        exact ⟨(.inl rfl), _, [], (.one (by first | exact .mk rfl rfl | exact .nil rfl)), ⟨rfl, by rw [insS_at ha hk hs, hx]; have hne := of_decide_eq_false hc1; simp only [if_neg hne]; change AV.sl 1 ((((l.map (fun s => [AV.v (.string s)])).take k) ++ [[AV.v (.string name)]]) ++ ((l.map (fun s => [AV.v (.string s)])).drop k)) = _; simp [strsA, List.map_take, List.map_drop]⟩, (List.nil_sublist _), (by simp)⟩
    ·
      have hge : l.length ≤ k := by have := of_decide_eq_false hg24; simp at this; omega
      refine g_skip rfl rfl hg24 rfl ?_
      refine g_skip rfl rfl hg24 rfl ?_
      refine g_skip rfl rfl hg24 rfl ?_
      refine g_skip rfl rfl hg24 rfl ?_
      refine g_skip rfl rfl hg24 rfl ?_
      refine g_skip rfl rfl hg24 rfl ?_
      refine r_pickF rfl hg24 rfl rfl ?_
      refine awl_nil ?_
      refine x_then ?_
      refine awp_condF rfl ?_
      refine awp_skip ?_
      refine x_then ?_
      refine awp_seq ?_
      refine awp_drawS [33, 34, 35, 36, 37, 38, 39, 40, 41, 42, 43] [_, _, _, _, _, _, _, _, _, _, _] [[], [], [], [], [33], [], [], [33, 37]] [(0, 33), (4, 33), (6, 39), (7, 33)] T.mixed rfl rfl rfl ⟨⟨⟨⟨⟨⟨⟨⟨⟨⟨⟨trivial
        , ⟨_, rfl, fun sl hd hr ho => by
            refine r_lit 33 (parts := []) rfl T.sl46 T.sz9 T.zraw9 rfl rfl parts_nil rfl rfl rfl rfl ?_
            exact awl_nil ⟨rfl, (post_dem (ho 33 (List.mem_of_elem_eq_true rfl)))⟩⟩⟩
        , ⟨_, rfl, fun sl hd hr ho => by
            refine r_move (hr 0 _ rfl rfl rfl) rfl ?_
            exact awl_nil ⟨rfl, post_put⟩⟩⟩
        , ⟨_, rfl, fun sl hd hr ho => by
            refine r_move (hr 5 _ rfl rfl rfl) rfl ?_
            exact awl_nil ⟨rfl, post_put⟩⟩⟩
        , ⟨_, rfl, fun sl hd hr ho => by
            refine r_sliceH (hd 1 _ rfl rfl rfl) rfl (hd 2 _ rfl rfl rfl) T.sl46 T.sz9 (by omega) (by simp; omega) rfl ?_
            exact awl_nil ⟨rfl, post_put⟩⟩⟩
        , ⟨_, rfl, fun sl hd hr ho => by
            refine r_append 33 (hd 0 _ rfl rfl rfl) (by first | exact .own _ | exact .nil) (hd 3 _ rfl rfl rfl) (by first | exact .sl _ | exact .own _ _ | exact .nil) T.sl46 T.sz9 (by decide) T.by9 T.zlen9 (by simp [chunks] <;> omega) (by simp [chunks] <;> omega) rfl ?_
            exact awl_nil ⟨rfl, (post_dem (ho 33 (List.mem_of_elem_eq_true rfl)))⟩⟩⟩
        , ⟨_, rfl, fun sl hd hr ho => by
            refine r_move (hr 1 _ rfl rfl rfl) rfl ?_
            exact awl_nil ⟨rfl, post_put⟩⟩⟩
        , ⟨_, rfl, fun sl hd hr ho => by
            refine r_lit 39 (parts := [(0, .tmp 38)]) rfl T.sl46 T.sz9 T.zraw9 rfl rfl (parts_cons (hd 5 _ rfl rfl rfl) parts_nil) rfl rfl rfl rfl ?_
            exact awl_nil ⟨rfl, (post_dem (ho 39 (List.mem_of_elem_eq_true rfl)))⟩⟩⟩
        , ⟨_, rfl, fun sl hd hr ho => by
            refine r_append 33 (hd 4 _ rfl rfl rfl) (by first | exact .own _ | exact .nil) (hd 6 _ rfl rfl rfl) (by first | exact .sl _ | exact .own _ _ | exact .nil) T.sl46 T.sz9 (by decide) T.by9 T.zlen9 (by simp [chunks] <;> omega) (by simp [chunks] <;> omega) rfl ?_
            exact awl_nil ⟨rfl, (post_dem (ho 33 (List.mem_of_elem_eq_true rfl)))⟩⟩⟩
        , ⟨_, rfl, fun sl hd hr ho => by
            refine r_move (hr 0 _ rfl rfl rfl) rfl ?_
            exact awl_nil ⟨rfl, post_put⟩⟩⟩
        , ⟨_, rfl, fun sl hd hr ho => by
            refine r_move (hr 5 _ rfl rfl rfl) rfl ?_
            exact awl_nil ⟨rfl, post_put⟩⟩⟩
        , ⟨_, rfl, fun sl hd hr ho => by
            refine r_sliceL (hd 8 _ rfl rfl rfl) rfl (hd 9 _ rfl rfl rfl) T.sl46 T.sz9 (by omega) (by simp; omega) rfl ?_
            exact awl_nil ⟨rfl, post_put⟩⟩⟩
        (by rfl) ?_
      refine r_append 33 rfl (by first | exact .own _ | exact .nil) rfl (by first | exact .sl _ | exact .own _ _ | exact .nil) T.sl46 T.sz9 (by decide) T.by9 T.zlen9 (by simp [chunks] <;> omega) (by simp [chunks] <;> omega) rfl ?_
      refine r_assign rfl rfl ?_
      refine awl_nil ?_
      refine x_then ?_
      refine awp_ret ?_
      exact ⟨(.inl rfl), _, [], (.one (by first | exact .mk rfl rfl | exact .nil rfl)), ⟨rfl, by rw [insS_at ha hk hs, List.getElem?_eq_none hge]; change AV.sl 1 ((((l.map (fun s => [AV.v (.string s)])).take k) ++ [[AV.v (.string name)]]) ++ ((l.map (fun s => [AV.v (.string s)])).drop k)) = _; rw [List.take_of_length_le (by simpa using hge), List.drop_eq_nil_of_le (by simpa using hge)]; simp [strsA]⟩, (List.nil_sublist _), (by simp)⟩

theorem files_ok (l : List File) (hl : l.length ≤ 1000000) (hd : ∀ f ∈ l, f.data.length ≤ 1000000) : AC Try.prog 33 [files l] [] (fun r n => n = [] ∧ r = files l) := by
  refine ac_of_awp (rs := [2]) (nt := 24) Try.func33 rfl rfl rfl rfl (fun w0 C0 => ?_)
  refine awp_seq ?_
  refine awp_region ?_
  refine r_assign rfl rfl ?_
  refine awl_nil ?_
  refine x_then ?_
  refine awp_seq ?_
  refine awp_region ?_
  refine r_assign rfl rfl ?_
  refine awl_nil ?_
  refine x_then ?_
  refine awp_seq ?_
  refine awp_seq ?_
  refine awp_region ?_
  refine r_move rfl rfl ?_
  first | (refine r_lenS rfl rfl T.sl44 rfl ?_) | (refine r_lenNil rfl T.sl44 rfl ?_)
  refine r_move rfl rfl ?_
  refine awl_nil ?_
  refine x_then ?_
  refine awp_block ?_
  refine awp_loop (fun nn0 S => ∃ k : Nat, S = ⟨24, [(3, .own 3 2 ((l.take k).map File.cs)), (6, .a (files l)), (7, .a (.v (.int .i64 ((l.map File.cs).length)))), (8, .a (.v (.int .i64 ((k : Int)))))], []⟩ ∧ nn0 = l.length - k ∧ (k ≤ l.length)) (l.length - (0)) ⟨24, [(3, .own 3 2 ((l.take (0)).map File.cs)), (6, .a (files l)), (7, .a (.v (.int .i64 ((l.map File.cs).length)))), (8, .a (.v (.int .i64 (((0) : Int)))))], []⟩ ⟨rfl, (Slots.cons rfl (by first | exact .refl _ | exact .nilOwn _ _ | exact .nilSl _ | exact .ownSl _ _ _ | exact SV.le.of_eq (by simp)) (Slots.cons rfl (by first | exact .refl _ | exact .nilOwn _ _ | exact .nilSl _ | exact .ownSl _ _ _ | exact SV.le.of_eq (by simp)) (Slots.cons rfl (by first | exact .refl _ | exact .nilOwn _ _ | exact .nilSl _ | exact .ownSl _ _ _ | exact SV.le.of_eq (by simp)) (Slots.cons rfl (by first | exact .refl _ | exact .nilOwn _ _ | exact .nilSl _ | exact .ownSl _ _ _ | exact SV.le.of_eq (by simp)) Slots.nil)))), (by first | exact List.Sublist.refl _ | exact List.nil_sublist _ | exact .cons _ (.refl _) | exact .cons _ (.cons _ (.refl _)) | exact .cons _ (.cons _ (.cons _ (.refl _))) | exact .cons _ (.cons _ (.cons _ (.cons _ (.refl _)))) | exact .cons_cons _ (List.nil_sublist _))⟩ ⟨0, rfl, rfl, Nat.zero_le _⟩ ?_
  rintro nn0 _ ⟨k, rfl, rfl, hk⟩
  refine awp_seq ?_
  refine awp_region ?_
  refine r_cmp rfl rfl rfl rfl ?_
  refine awl_nil ?_
  refine x_then ?_
  refine awp_seq ?_
  refine awp_cond rfl (fun hc0 => ?_) (fun hc0 => ?_)
  ·
    have hlt : k < l.length := by have := of_decide_eq_true hc0; simpa using this
    obtain ⟨x, hx⟩ := get_lt hlt
    have hxd := hd x (List.mem_of_getElem? hx)
    refine awp_skip ?_
    refine x_then ?_
    refine awp_seq ?_
    refine awp_block ?_
    refine awp_seq ?_
    refine awp_region ?_
    refine r_index rfl rfl rfl T.sl44 T.sz51 (by omega) (get_map hx) rfl ?_
    refine r_loadA rfl T.agg51 T.sz51 rfl rfl ?_
    refine r_alloc T.zero51 rfl (fun b5 => ?_)
    refine r_store 0 rfl rfl rfl T.sz51 rfl rfl rfl ?_
    refine awl_nil ?_
    refine x_then ?_
    refine awp_drawS [12, 13, 14, 15, 16, 17, 18, 19, 20] [_, _, _, _, _, _, _, _, _] [[], [], [], [], [], [], [15]] [(3, 15), (6, 15), (8, 20)] T.mixed rfl rfl rfl ⟨⟨⟨⟨⟨⟨⟨⟨⟨trivial
      , ⟨_, rfl, fun sl hd hr ho => by
          refine r_move (hr 3 _ rfl rfl rfl) rfl ?_
          exact awl_nil ⟨rfl, post_put⟩⟩⟩
      , ⟨_, rfl, fun sl hd hr ho => by
          first | (refine r_fieldcp (hr 5 _ rfl rfl rfl) T.f51_0 T.sz9 rfl ?_) | (refine r_fieldb (hr 5 _ rfl rfl rfl) T.f51_0 T.sz9 rfl ?_)
          exact awl_nil ⟨rfl, post_put⟩⟩⟩
      , ⟨_, rfl, fun sl hd hr ho => by
          first | (refine r_load1 (hd 1 _ rfl rfl rfl) T.agg9 rfl ?_) | (refine r_load1b 0 (hd 1 _ rfl rfl rfl) rfl rfl T.agg9 rfl ?_)
          exact awl_nil ⟨rfl, post_put⟩⟩⟩
      , ⟨_, rfl, fun sl hd hr ho => by
          refine r_lit 15 (parts := []) rfl T.sl31 T.sz5 T.zraw5 rfl rfl parts_nil rfl rfl rfl rfl ?_
          exact awl_nil ⟨rfl, (post_dem (ho 15 (List.mem_of_elem_eq_true rfl)))⟩⟩⟩
      , ⟨_, rfl, fun sl hd hr ho => by
          first | (refine r_fieldcp (hr 5 _ rfl rfl rfl) T.f51_1 T.sz31 rfl ?_) | (refine r_fieldb (hr 5 _ rfl rfl rfl) T.f51_1 T.sz31 rfl ?_)
          exact awl_nil ⟨rfl, post_put⟩⟩⟩
      , ⟨_, rfl, fun sl hd hr ho => by
          first | (refine r_load1 (hd 4 _ rfl rfl rfl) T.agg31 rfl ?_) | (refine r_load1b 0 (hd 4 _ rfl rfl rfl) rfl rfl T.agg31 rfl ?_)
          exact awl_nil ⟨rfl, post_put⟩⟩⟩
      , ⟨_, rfl, fun sl hd hr ho => by
          refine r_append 15 (hd 3 _ rfl rfl rfl) (by first | exact .own _ | exact .nil) (hd 5 _ rfl rfl rfl) (by first | exact .sl _ | exact .own _ _ | exact .nil) T.sl31 T.sz5 (by decide) T.by5 T.zlen5 (by simp [chunks, u8s] <;> omega) (by simp [chunks, u8s] <;> omega) rfl ?_
          exact awl_nil ⟨rfl, (post_dem (ho 15 (List.mem_of_elem_eq_true rfl)))⟩⟩⟩
      , ⟨_, rfl, fun sl hd hr ho => by
          refine r_build (parts := [(0, .tmp 14), (1, .tmp 18)]) rfl T.pl50 T.zero50 (parts_cons (hd 2 _ rfl rfl rfl) (parts_cons (hd 6 _ rfl rfl rfl) parts_nil)) rfl rfl ?_
          exact awl_nil ⟨rfl, post_put⟩⟩⟩
      , ⟨_, rfl, fun sl hd hr ho => by
          refine r_lit 20 (parts := [(0, .tmp 19)]) rfl T.sl41 T.sz50 T.zraw50 rfl rfl (parts_cons (hd 7 _ rfl rfl rfl) parts_nil) rfl rfl rfl rfl ?_
          exact awl_nil ⟨rfl, (post_dem (ho 20 (List.mem_of_elem_eq_true rfl)))⟩⟩⟩
      (by rfl) ?_
    refine r_append 3 rfl (by first | exact .own _ | exact .nil) rfl (by first | exact .sl _ | exact .own _ _ | exact .nil) T.sl41 T.sz50 (by decide) T.by50 T.zlen50 (by simp [chunks] <;> omega) (by simp [chunks] <;> omega) rfl ?_
    refine r_assign rfl rfl ?_
    refine awl_nil ?_
    refine x_block ?_
    refine x_then ?_
    refine awp_region ?_
    refine r_ari _ rfl rfl rfl (wrap_id (by omega)) rfl ?_
    refine r_move rfl rfl ?_
    refine awl_nil ?_
    refine x_then ?_
    refine ⟨l.length - (k + 1), ⟨24, [(3, .own 3 2 ((l.take (k + 1)).map File.cs)), (6, .a (files l)), (7, .a (.v (.int .i64 ((l.map File.cs).length)))), (8, .a (.v (.int .i64 (((k + 1) : Int)))))], []⟩, ⟨rfl, (Slots.cons rfl (by first | exact .refl _ | exact .nilOwn _ _ | exact .nilSl _ | exact .ownSl _ _ _ | exact SV.le.of_eq (by rw [map_take hx]; rfl)) (Slots.cons rfl (by first | exact .refl _ | exact .nilOwn _ _ | exact .nilSl _ | exact .ownSl _ _ _ | exact SV.le.of_eq (by rw [map_take hx]; rfl)) (Slots.cons rfl (by first | exact .refl _ | exact .nilOwn _ _ | exact .nilSl _ | exact .ownSl _ _ _ | exact SV.le.of_eq (by rw [map_take hx]; rfl)) (Slots.cons rfl (by first | exact .refl _ | exact .nilOwn _ _ | exact .nilSl _ | exact .ownSl _ _ _ | exact SV.le.of_eq (by rw [map_take hx]; rfl)) Slots.nil)))), (by first | exact List.Sublist.refl _ | exact List.nil_sublist _ | exact .cons _ (.refl _) | exact .cons _ (.cons _ (.refl _)) | exact .cons _ (.cons _ (.cons _ (.refl _))) | exact .cons _ (.cons _ (.cons _ (.cons _ (.refl _)))) | exact .cons_cons _ (List.nil_sublist _))⟩, (by omega), ⟨k + 1, rfl, rfl, (by have := (List.getElem?_eq_some_iff.1 hx).1; omega)⟩⟩
  ·
    have hge : l.length ≤ k := by have := of_decide_eq_false hc0; simp at this; omega
    have hkl : l.take k = l := List.take_of_length_le hge
    refine awp_exit ?_
    refine x_thenE ?_
    refine x_thenE ?_
    refine x_blockE ?_
    refine x_then ?_
    refine awp_seq ?_
    refine awp_region ?_
    refine r_move rfl rfl ?_
    refine r_assign rfl rfl ?_
    refine awl_nil ?_
    refine x_then ?_
    refine awp_ret ?_
    exact ⟨(.inl rfl), _, [], (.one (by first | exact .mk rfl rfl | exact .nil rfl)), ⟨rfl, by rw [hkl]; rfl⟩, (List.nil_sublist _), (by simp)⟩

theorem choices_ok (l : List Choice) (hl : l.length ≤ 1000000) (hd : ∀ f ∈ l, f.data.length ≤ 1000000) : AC Try.prog 17 [choicesA l] [] (fun r n => n = [] ∧ r = choicesA l) := by
  refine ac_of_awp (rs := [2]) (nt := 28) Try.func17 rfl rfl rfl rfl (fun w0 C0 => ?_)
  refine awp_seq ?_
  refine awp_region ?_
  refine r_assign rfl rfl ?_
  refine awl_nil ?_
  refine x_then ?_
  refine awp_seq ?_
  refine awp_region ?_
  refine r_assign rfl rfl ?_
  refine awl_nil ?_
  refine x_then ?_
  refine awp_seq ?_
  refine awp_seq ?_
  refine awp_region ?_
  refine r_move rfl rfl ?_
  first | (refine r_lenS rfl rfl T.sl34 rfl ?_) | (refine r_lenNil rfl T.sl34 rfl ?_)
  refine r_move rfl rfl ?_
  refine awl_nil ?_
  refine x_then ?_
  refine awp_block ?_
  refine awp_loop (fun nn0 S => ∃ k : Nat, S = ⟨28, [(3, .own 3 4 ((l.take k).map Choice.cs)), (6, .a (choicesA l)), (7, .a (.v (.int .i64 ((l.map Choice.cs).length)))), (8, .a (.v (.int .i64 ((k : Int)))))], []⟩ ∧ nn0 = l.length - k ∧ (k ≤ l.length)) (l.length - (0)) ⟨28, [(3, .own 3 4 ((l.take (0)).map Choice.cs)), (6, .a (choicesA l)), (7, .a (.v (.int .i64 ((l.map Choice.cs).length)))), (8, .a (.v (.int .i64 (((0) : Int)))))], []⟩ ⟨rfl, (Slots.cons rfl (by first | exact .refl _ | exact .nilOwn _ _ | exact .nilSl _ | exact .ownSl _ _ _ | exact SV.le.of_eq (by simp)) (Slots.cons rfl (by first | exact .refl _ | exact .nilOwn _ _ | exact .nilSl _ | exact .ownSl _ _ _ | exact SV.le.of_eq (by simp)) (Slots.cons rfl (by first | exact .refl _ | exact .nilOwn _ _ | exact .nilSl _ | exact .ownSl _ _ _ | exact SV.le.of_eq (by simp)) (Slots.cons rfl (by first | exact .refl _ | exact .nilOwn _ _ | exact .nilSl _ | exact .ownSl _ _ _ | exact SV.le.of_eq (by simp)) Slots.nil)))), (by first | exact List.Sublist.refl _ | exact List.nil_sublist _ | exact .cons _ (.refl _) | exact .cons _ (.cons _ (.refl _)) | exact .cons _ (.cons _ (.cons _ (.refl _))) | exact .cons _ (.cons _ (.cons _ (.cons _ (.refl _)))) | exact .cons_cons _ (List.nil_sublist _))⟩ ⟨0, rfl, rfl, Nat.zero_le _⟩ ?_
  rintro nn0 _ ⟨k, rfl, rfl, hk⟩
  refine awp_seq ?_
  refine awp_region ?_
  refine r_cmp rfl rfl rfl rfl ?_
  refine awl_nil ?_
  refine x_then ?_
  refine awp_seq ?_
  refine awp_cond rfl (fun hc0 => ?_) (fun hc0 => ?_)
  ·
    have hlt : k < l.length := by have := of_decide_eq_true hc0; simpa using this
    obtain ⟨x, hx⟩ := get_lt hlt
    have hxd := hd x (List.mem_of_getElem? hx)
    refine awp_skip ?_
    refine x_then ?_
    refine awp_seq ?_
    refine awp_block ?_
    refine awp_seq ?_
    refine awp_region ?_
    refine r_index rfl rfl rfl T.sl34 T.sz40 (by omega) (get_map hx) rfl ?_
    refine r_loadA rfl T.agg40 T.sz40 rfl rfl ?_
    refine r_alloc T.zero40 rfl (fun b5 => ?_)
    refine r_store 0 rfl rfl rfl T.sz40 rfl rfl rfl ?_
    refine awl_nil ?_
    refine x_then ?_
    refine awp_drawS [12, 13, 14, 15, 16, 17, 18, 19, 20, 21, 22, 23, 24] [_, _, _, _, _, _, _, _, _, _, _, _, _] [[], [], [], [], [], [], [], [], [], [], [19]] [(7, 19), (10, 19), (12, 24)] T.mixed rfl rfl rfl ⟨⟨⟨⟨⟨⟨⟨⟨⟨⟨⟨⟨⟨trivial
      , ⟨_, rfl, fun sl hd hr ho => by
          refine r_move (hr 3 _ rfl rfl rfl) rfl ?_
          exact awl_nil ⟨rfl, post_put⟩⟩⟩
      , ⟨_, rfl, fun sl hd hr ho => by
          first | (refine r_fieldcp (hr 5 _ rfl rfl rfl) T.f40_0 T.sz9 rfl ?_) | (refine r_fieldb (hr 5 _ rfl rfl rfl) T.f40_0 T.sz9 rfl ?_)
          exact awl_nil ⟨rfl, post_put⟩⟩⟩
      , ⟨_, rfl, fun sl hd hr ho => by
          first | (refine r_load1 (hd 1 _ rfl rfl rfl) T.agg9 rfl ?_) | (refine r_load1b 0 (hd 1 _ rfl rfl rfl) rfl rfl T.agg9 rfl ?_)
          exact awl_nil ⟨rfl, post_put⟩⟩⟩
      , ⟨_, rfl, fun sl hd hr ho => by
          first | (refine r_fieldcp (hr 5 _ rfl rfl rfl) T.f40_1 T.sz30 rfl ?_) | (refine r_fieldb (hr 5 _ rfl rfl rfl) T.f40_1 T.sz30 rfl ?_)
          exact awl_nil ⟨rfl, post_put⟩⟩⟩
      , ⟨_, rfl, fun sl hd hr ho => by
          first | (refine r_load1 (hd 3 _ rfl rfl rfl) T.agg30 rfl ?_) | (refine r_load1b 0 (hd 3 _ rfl rfl rfl) rfl rfl T.agg30 rfl ?_)
          exact awl_nil ⟨rfl, post_put⟩⟩⟩
      , ⟨_, rfl, fun sl hd hr ho => by
          first | (refine r_fieldcp (hr 5 _ rfl rfl rfl) T.f40_2 T.sz4 rfl ?_) | (refine r_fieldb (hr 5 _ rfl rfl rfl) T.f40_2 T.sz4 rfl ?_)
          exact awl_nil ⟨rfl, post_put⟩⟩⟩
      , ⟨_, rfl, fun sl hd hr ho => by
          first | (refine r_load1 (hd 5 _ rfl rfl rfl) T.agg4 rfl ?_) | (refine r_load1b 0 (hd 5 _ rfl rfl rfl) rfl rfl T.agg4 rfl ?_)
          exact awl_nil ⟨rfl, post_put⟩⟩⟩
      , ⟨_, rfl, fun sl hd hr ho => by
          refine r_lit 19 (parts := []) rfl T.sl31 T.sz5 T.zraw5 rfl rfl parts_nil rfl rfl rfl rfl ?_
          exact awl_nil ⟨rfl, (post_dem (ho 19 (List.mem_of_elem_eq_true rfl)))⟩⟩⟩
      , ⟨_, rfl, fun sl hd hr ho => by
          first | (refine r_fieldcp (hr 5 _ rfl rfl rfl) T.f40_3 T.sz31 rfl ?_) | (refine r_fieldb (hr 5 _ rfl rfl rfl) T.f40_3 T.sz31 rfl ?_)
          exact awl_nil ⟨rfl, post_put⟩⟩⟩
      , ⟨_, rfl, fun sl hd hr ho => by
          first | (refine r_load1 (hd 8 _ rfl rfl rfl) T.agg31 rfl ?_) | (refine r_load1b 0 (hd 8 _ rfl rfl rfl) rfl rfl T.agg31 rfl ?_)
          exact awl_nil ⟨rfl, post_put⟩⟩⟩
      , ⟨_, rfl, fun sl hd hr ho => by
          refine r_append 19 (hd 7 _ rfl rfl rfl) (by first | exact .own _ | exact .nil) (hd 9 _ rfl rfl rfl) (by first | exact .sl _ | exact .own _ _ | exact .nil) T.sl31 T.sz5 (by decide) T.by5 T.zlen5 (by simp [chunks, u8s] <;> omega) (by simp [chunks, u8s] <;> omega) rfl ?_
          exact awl_nil ⟨rfl, (post_dem (ho 19 (List.mem_of_elem_eq_true rfl)))⟩⟩⟩
      , ⟨_, rfl, fun sl hd hr ho => by
          refine r_build (parts := [(0, .tmp 14), (1, .tmp 16), (2, .tmp 18), (3, .tmp 22)]) rfl T.pl33 T.zero33 (parts_cons (hd 2 _ rfl rfl rfl) (parts_cons (hd 4 _ rfl rfl rfl) (parts_cons (hd 6 _ rfl rfl rfl) (parts_cons (hd 10 _ rfl rfl rfl) parts_nil)))) rfl rfl ?_
          exact awl_nil ⟨rfl, post_put⟩⟩⟩
      , ⟨_, rfl, fun sl hd hr ho => by
          refine r_lit 24 (parts := [(0, .tmp 23)]) rfl T.sl26 T.sz33 T.zraw33 rfl rfl (parts_cons (hd 11 _ rfl rfl rfl) parts_nil) rfl rfl rfl rfl ?_
          exact awl_nil ⟨rfl, (post_dem (ho 24 (List.mem_of_elem_eq_true rfl)))⟩⟩⟩
      (by rfl) ?_
    refine r_append 3 rfl (by first | exact .own _ | exact .nil) rfl (by first | exact .sl _ | exact .own _ _ | exact .nil) T.sl26 T.sz33 (by decide) T.by33 T.zlen33 (by simp [chunks] <;> omega) (by simp [chunks] <;> omega) rfl ?_
    refine r_assign rfl rfl ?_
    refine awl_nil ?_
    refine x_block ?_
    refine x_then ?_
    refine awp_region ?_
    refine r_ari _ rfl rfl rfl (wrap_id (by omega)) rfl ?_
    refine r_move rfl rfl ?_
    refine awl_nil ?_
    refine x_then ?_
    refine ⟨l.length - (k + 1), ⟨28, [(3, .own 3 4 ((l.take (k + 1)).map Choice.cs)), (6, .a (choicesA l)), (7, .a (.v (.int .i64 ((l.map Choice.cs).length)))), (8, .a (.v (.int .i64 (((k + 1) : Int)))))], []⟩, ⟨rfl, (Slots.cons rfl (by first | exact .refl _ | exact .nilOwn _ _ | exact .nilSl _ | exact .ownSl _ _ _ | exact SV.le.of_eq (by rw [map_take hx]; rfl)) (Slots.cons rfl (by first | exact .refl _ | exact .nilOwn _ _ | exact .nilSl _ | exact .ownSl _ _ _ | exact SV.le.of_eq (by rw [map_take hx]; rfl)) (Slots.cons rfl (by first | exact .refl _ | exact .nilOwn _ _ | exact .nilSl _ | exact .ownSl _ _ _ | exact SV.le.of_eq (by rw [map_take hx]; rfl)) (Slots.cons rfl (by first | exact .refl _ | exact .nilOwn _ _ | exact .nilSl _ | exact .ownSl _ _ _ | exact SV.le.of_eq (by rw [map_take hx]; rfl)) Slots.nil)))), (by first | exact List.Sublist.refl _ | exact List.nil_sublist _ | exact .cons _ (.refl _) | exact .cons _ (.cons _ (.refl _)) | exact .cons _ (.cons _ (.cons _ (.refl _))) | exact .cons _ (.cons _ (.cons _ (.cons _ (.refl _)))) | exact .cons_cons _ (List.nil_sublist _))⟩, (by omega), ⟨k + 1, rfl, rfl, (by have := (List.getElem?_eq_some_iff.1 hx).1; omega)⟩⟩
  ·
    have hge : l.length ≤ k := by have := of_decide_eq_false hc0; simp at this; omega
    have hkl : l.take k = l := List.take_of_length_le hge
    refine awp_exit ?_
    refine x_thenE ?_
    refine x_thenE ?_
    refine x_blockE ?_
    refine x_then ?_
    refine awp_seq ?_
    refine awp_region ?_
    refine r_move rfl rfl ?_
    refine r_assign rfl rfl ?_
    refine awl_nil ?_
    refine x_then ?_
    refine awp_ret ?_
    exact ⟨(.inl rfl), _, [], (.one (by first | exact .mk rfl rfl | exact .nil rfl)), ⟨rfl, by rw [hkl]; rfl⟩, (List.nil_sublist _), (by simp)⟩

theorem whole1_ok (name : ByteArray) (d : List UInt8) (not : Int) (hd : d.length ≤ 1000000) : AC Try.prog 36 [strA name, bts d, .cp [u8A not]] [] (fun r n => n = [] ∧ r = boolA (wholeB not d)) := by
  refine ac_of_awp (rs := [5]) (nt := 9) Try.func36 rfl rfl rfl rfl (fun w0 C0 => ?_)
  refine awp_seq ?_
  refine awp_region ?_
  refine r_assign rfl rfl ?_
  refine awl_nil ?_
  refine x_then ?_
  refine awp_seq ?_
  refine awp_region ?_
  refine r_move rfl rfl ?_
  refine r_load1 rfl T.agg5 rfl ?_
  refine r_call0 rfl rfl (.cons (.ev rfl rfl) (.cons (.ev rfl rfl) .nil)) (whole_ok d not hd) rfl T.en21 rfl (fun r hr => ?_)
  obtain rfl := hr
  refine r_assign rfl rfl ?_
  refine awl_nil ?_
  refine x_then ?_
  refine awp_ret ?_
  exact ⟨(.inl rfl), _, [], (.one (by first | exact .mk rfl rfl | exact .nil rfl)), ⟨rfl, rfl⟩, (List.nil_sublist _), (by simp)⟩

theorem wholef_ok (not : Int) : AC Try.prog 15 [u8A not] [] (fun r n => n = [] ∧ r = .fn 36 [.cp [u8A not]]) := by
  refine ac_of_awp (rs := [2]) (nt := 4) Try.func15 rfl rfl rfl rfl (fun w0 C0 => ?_)
  refine awp_seq ?_
  refine awp_region ?_
  refine r_box rfl rfl rfl (fun b1 => ?_)
  refine r_assign rfl rfl ?_
  refine awl_nil ?_
  refine x_then ?_
  refine awp_seq ?_
  refine awp_region ?_
  refine awl_imp (imp_commit 0 1 rfl rfl rfl rfl) ?_
  refine r_makeFunc rfl (.cons (.ev rfl rfl) .nil) rfl ?_
  refine r_assign rfl rfl ?_
  refine awl_nil ?_
  refine x_then ?_
  refine awp_ret ?_
  exact ⟨(.inl rfl), _, [], (.one (by first | exact .mk rfl rfl | exact .nil rfl)), ⟨rfl, rfl⟩, (List.nil_sublist _), (by simp)⟩

theorem atf_ok (l : List Moment) : AC Try.prog 12 [momentsA l] [] (fun r n => n = [] ∧ r = .fn 32 [.cp [momentsA l]]) := by
  refine ac_of_awp (rs := [2]) (nt := 4) Try.func12 rfl rfl rfl rfl (fun w0 C0 => ?_)
  refine awp_seq ?_
  refine awp_region ?_
  refine r_box rfl rfl rfl (fun b1 => ?_)
  refine r_assign rfl rfl ?_
  refine awl_nil ?_
  refine x_then ?_
  refine awp_seq ?_
  refine awp_region ?_
  refine awl_imp (imp_commit 0 1 rfl rfl rfl rfl) ?_
  refine r_makeFunc rfl (.cons (.ev rfl rfl) .nil) rfl ?_
  refine r_assign rfl rfl ?_
  refine awl_nil ?_
  refine x_then ?_
  refine awp_ret ?_
  exact ⟨(.inl rfl), _, [], (.one (by first | exact .mk rfl rfl | exact .nil rfl)), ⟨rfl, rfl⟩, (List.nil_sublist _), (by simp)⟩

theorem at1_ok (l : List Moment) (m : Int) (h : Sane l) : AC Try.prog 32 [.v (.int .u64 m), .cp [momentsA l]] [] (fun r n => n = [] ∧ r = atR (lookM l m)) := by
  refine ac_of_awp (rs := [3, 4]) (nt := 25) Try.func32 rfl rfl rfl rfl (fun w0 C0 => ?_)
  refine awp_seq ?_
  refine awp_region ?_
  refine r_assign rfl rfl ?_
  refine r_assign rfl rfl ?_
  refine awl_nil ?_
  refine x_then ?_
  refine awp_seq ?_
  refine awp_region ?_
  refine r_load1 rfl T.agg22 rfl ?_
  refine r_move rfl rfl ?_
  refine r_call0 rfl rfl (.cons (.ev rfl rfl) (.cons (.ev rfl rfl) .nil)) (at_ok l m h.len) rfl T.en22 rfl (fun r hr => ?_)
  obtain rfl := hr
  refine r_assign rfl rfl ?_
  refine awl_nil ?_
  refine x_then ?_
  refine awp_seq ?_
  refine awp_seq ?_
  refine awp_region ?_
  refine r_move rfl rfl ?_
  refine r_cmp rfl rfl rfl rfl ?_
  refine r_move rfl rfl ?_
  refine g_cases (t' := 11) rfl (fun hg11 => ?_) (fun hg11 => ?_)
  ·
    have hn := optI_none (of_decide_eq_true hg11)
    refine g_skip rfl rfl hg11 rfl ?_
    refine g_skip rfl rfl hg11 rfl ?_
    refine g_skip rfl rfl hg11 rfl ?_
    refine g_skip rfl rfl hg11 rfl ?_
    refine g_skip rfl rfl hg11 rfl ?_
    refine g_skip rfl rfl hg11 rfl ?_
    refine r_pickT rfl hg11 rfl rfl ?_
    refine awl_nil ?_
    refine x_then ?_
    refine awp_condT rfl ?_
    refine awp_seq ?_
    refine awp_region ?_
    refine r_assign rfl rfl ?_
    refine r_assign rfl rfl ?_
    refine awl_nil ?_
    refine x_then ?_
    refine awp_ret ?_
    refine x_thenR ?_
    exact ⟨(.inl rfl), _, [], (.two (.nil rfl) (.mk rfl rfl)), ⟨rfl, by rw [look_none hn]; rfl⟩, (List.nil_sublist _), (by simp)⟩
  ·
    obtain ⟨k, hk⟩ := optI_some (Int.not_lt.1 (of_decide_eq_false hg11))
    obtain ⟨x, hx, hxm⟩ := fidx_get hk
    refine g_run rfl rfl hg11 ?_
    refine r_load1 rfl T.agg22 rfl ?_
    refine g_run rfl rfl hg11 ?_
    refine r_move rfl rfl ?_
    refine g_run rfl rfl hg11 ?_
    refine r_index rfl rfl rfl T.sl22 T.sz57 (by rw [hk]; simp [optI]) (by rw [hk]; exact get_map hx) rfl ?_
    refine g_run rfl rfl hg11 ?_
    first | (refine r_fieldcp rfl T.f57_1 T.sz4 rfl ?_) | (refine r_fieldb rfl T.f57_1 T.sz4 rfl ?_)
    refine g_run rfl rfl hg11 ?_
    refine r_load1 rfl T.agg4 rfl ?_
    refine g_run rfl rfl hg11 ?_
    refine r_not rfl rfl ?_
    refine r_pickF rfl hg11 rfl rfl ?_
    refine awl_nil ?_
    refine x_then ?_
    refine awp_cond rfl (fun hc0 => ?_) (fun hc0 => ?_)
    ·
      refine awp_seq ?_
      refine awp_region ?_
      refine r_assign rfl rfl ?_
      refine r_assign rfl rfl ?_
      refine awl_nil ?_
      refine x_then ?_
      refine awp_ret ?_
      refine x_thenR ?_
      exact ⟨(.inl rfl), _, [], (.two (.nil rfl) (.mk rfl rfl)), ⟨rfl, by rw [look_some hk hx, show x.can = false by simpa using hc0]; rfl⟩, (List.nil_sublist _), (by simp)⟩
    ·
      refine awp_skip ?_
      refine x_then ?_
      refine awp_seq ?_
      refine awp_region ?_
      refine r_load1 rfl T.agg22 rfl ?_
      refine r_move rfl rfl ?_
      refine r_index rfl rfl rfl T.sl22 T.sz57 (by rw [hk]; simp [optI]) (by rw [hk]; exact get_map hx) rfl ?_
      first | (refine r_fieldcp rfl T.f57_2 T.sz44 rfl ?_) | (refine r_fieldb rfl T.f57_2 T.sz44 rfl ?_)
      refine r_load1 rfl T.agg44 rfl ?_
      refine r_call0 rfl rfl (.cons (.ev rfl rfl) .nil) (files_ok x.files (h.files x (List.mem_of_getElem? hx)).1 (fun f hf => ((h.files x (List.mem_of_getElem? hx)).2 f hf).2)) rfl T.en33 rfl (fun r hr => ?_)
      obtain rfl := hr
      refine r_assign rfl rfl ?_
      refine r_assign rfl rfl ?_
      refine awl_nil ?_
      refine x_then ?_
      refine awp_ret ?_
      exact ⟨(.inl rfl), _, [], (.two (by first | exact .mk rfl rfl | exact .nil rfl) (by first | exact .mk rfl rfl | exact .nil rfl)), ⟨rfl, by rw [look_some hk hx, show x.can = true by simpa using hc0]; rfl⟩, (List.nil_sublist _), (by simp)⟩

theorem same_ok (l : List Choice) (hl : l.length ≤ 1000000) : AC Try.prog 14 [choicesA l, choicesA l] [] (fun r n => n = [] ∧ r = .v (.int .i64 1)) := by
  refine ac_of_awp (rs := [4]) (nt := 69) Try.func14 rfl rfl rfl rfl (fun w0 C0 => ?_)
  refine awp_seq ?_
  refine awp_region ?_
  refine r_assign rfl rfl ?_
  refine awl_nil ?_
  refine x_then ?_
  refine awp_seq ?_
  refine awp_seq ?_
  refine awp_region ?_
  refine r_move rfl rfl ?_
  first | (refine r_lenS rfl rfl T.sl26 rfl ?_) | (refine r_lenNil rfl T.sl26 rfl ?_)
  refine r_move rfl rfl ?_
  first | (refine r_lenS rfl rfl T.sl34 rfl ?_) | (refine r_lenNil rfl T.sl34 rfl ?_)
  refine r_cmp rfl rfl rfl rfl ?_
  refine awl_nil ?_
  refine x_then ?_
  refine awp_cond rfl (fun hc0 => ?_) (fun hc0 => ?_)
  ·
    exfalso; simp at hc0
  ·
    refine awp_skip ?_
    refine x_then ?_
    refine awp_seq ?_
    refine awp_seq ?_
    refine awp_region ?_
    refine r_move rfl rfl ?_
    first | (refine r_lenS rfl rfl T.sl26 rfl ?_) | (refine r_lenNil rfl T.sl26 rfl ?_)
    refine r_move rfl rfl ?_
    refine awl_nil ?_
    refine x_then ?_
    refine awp_block ?_
    refine awp_loop (fun nn0 S => ∃ k : Nat, S = ⟨69, [(0, .a (choicesA l)), (1, .a (choicesA l)), (11, .a (choicesA l)), (12, .a (.v (.int .i64 ((l.map Choice.cs).length)))), (13, .a (.v (.int .i64 ((k : Int)))))], []⟩ ∧ nn0 = l.length - k ∧ (k ≤ l.length)) (l.length - (0)) ⟨69, [(0, .a (choicesA l)), (1, .a (choicesA l)), (11, .a (choicesA l)), (12, .a (.v (.int .i64 ((l.map Choice.cs).length)))), (13, .a (.v (.int .i64 (((0) : Int)))))], []⟩ ⟨rfl, (Slots.cons rfl (by first | exact .refl _ | exact .nilOwn _ _ | exact .nilSl _ | exact .ownSl _ _ _ | exact SV.le.of_eq (by simp)) (Slots.cons rfl (by first | exact .refl _ | exact .nilOwn _ _ | exact .nilSl _ | exact .ownSl _ _ _ | exact SV.le.of_eq (by simp)) (Slots.cons rfl (by first | exact .refl _ | exact .nilOwn _ _ | exact .nilSl _ | exact .ownSl _ _ _ | exact SV.le.of_eq (by simp)) (Slots.cons rfl (by first | exact .refl _ | exact .nilOwn _ _ | exact .nilSl _ | exact .ownSl _ _ _ | exact SV.le.of_eq (by simp)) (Slots.cons rfl (by first | exact .refl _ | exact .nilOwn _ _ | exact .nilSl _ | exact .ownSl _ _ _ | exact SV.le.of_eq (by simp)) Slots.nil))))), (by first | exact List.Sublist.refl _ | exact List.nil_sublist _ | exact .cons _ (.refl _) | exact .cons _ (.cons _ (.refl _)) | exact .cons _ (.cons _ (.cons _ (.refl _))) | exact .cons _ (.cons _ (.cons _ (.cons _ (.refl _)))) | exact .cons_cons _ (List.nil_sublist _))⟩ ⟨0, rfl, rfl, Nat.zero_le _⟩ ?_
    rintro nn0 _ ⟨k, rfl, rfl, hk⟩
    refine awp_seq ?_
    refine awp_region ?_
    refine r_cmp rfl rfl rfl rfl ?_
    refine awl_nil ?_
    refine x_then ?_
    refine awp_seq ?_
    refine awp_cond rfl (fun hc1 => ?_) (fun hc1 => ?_)
    ·
      have hlt : k < l.length := by have := of_decide_eq_true hc1; simpa using this
      obtain ⟨x, hx⟩ := get_lt hlt
      refine awp_skip ?_
      refine x_then ?_
      refine awp_seq ?_
      refine awp_block ?_
      refine awp_seq ?_
      refine awp_region ?_
      refine r_move rfl rfl ?_
      refine r_assign rfl rfl ?_
      refine awl_nil ?_
      refine x_then ?_
      refine awp_seq ?_
      refine awp_drawS [16, 17, 18, 19, 20, 21, 22, 23, 24, 25, 26, 27, 28, 29, 30, 31, 32, 33, 34, 35, 36, 37, 38, 39, 40, 41, 42, 43, 44, 45, 46, 47, 48, 49, 50, 51, 52, 53, 54, 55, 56, 57, 58, 59, 60, 61, 62, 63, 64, 65] [_, _, _, _, _, _, _, _, _, _, _, _, _, _, _, _, _, _, _, _, _, _, _, _, _, _, _, _, _, _, _, _, _, _, _, _, _, _, _, _, _, _, _, _, _, _, _, _, _, _] [] [] T.mixed rfl rfl rfl ⟨⟨⟨⟨⟨⟨⟨⟨⟨⟨⟨⟨⟨⟨⟨⟨⟨⟨⟨⟨⟨⟨⟨⟨⟨⟨⟨⟨⟨⟨⟨⟨⟨⟨⟨⟨⟨⟨⟨⟨⟨⟨⟨⟨⟨⟨⟨⟨⟨⟨trivial
        , ⟨_, rfl, fun sl hd hr ho => by
            refine r_move (hr 0 _ rfl rfl rfl) rfl ?_
            exact awl_nil ⟨rfl, post_put⟩⟩⟩
        , ⟨_, rfl, fun sl hd hr ho => by
            refine r_move (hr 5 _ rfl rfl rfl) rfl ?_
            exact awl_nil ⟨rfl, post_put⟩⟩⟩
        , ⟨_, rfl, fun sl hd hr ho => by
            refine r_index (hd 0 _ rfl rfl rfl) rfl (hd 1 _ rfl rfl rfl) T.sl26 T.sz33 (by omega) (get_map hx) rfl ?_
            exact awl_nil ⟨rfl, post_put⟩⟩⟩
        , ⟨_, rfl, fun sl hd hr ho => by
            first | (refine r_fieldcp (hd 2 _ rfl rfl rfl) T.f33_0 T.sz9 rfl ?_) | (refine r_fieldb (hd 2 _ rfl rfl rfl) T.f33_0 T.sz9 rfl ?_)
            exact awl_nil ⟨rfl, post_put⟩⟩⟩
        , ⟨_, rfl, fun sl hd hr ho => by
            refine r_load1 (hd 3 _ rfl rfl rfl) T.agg9 rfl ?_
            exact awl_nil ⟨rfl, post_put⟩⟩⟩
        , ⟨_, rfl, fun sl hd hr ho => by
            refine r_move (hr 1 _ rfl rfl rfl) rfl ?_
            exact awl_nil ⟨rfl, post_put⟩⟩⟩
        , ⟨_, rfl, fun sl hd hr ho => by
            refine r_move (hr 5 _ rfl rfl rfl) rfl ?_
            exact awl_nil ⟨rfl, post_put⟩⟩⟩
        , ⟨_, rfl, fun sl hd hr ho => by
            refine r_index (hd 5 _ rfl rfl rfl) rfl (hd 6 _ rfl rfl rfl) T.sl34 T.sz40 (by omega) (get_map hx) rfl ?_
            exact awl_nil ⟨rfl, post_put⟩⟩⟩
        , ⟨_, rfl, fun sl hd hr ho => by
            first | (refine r_fieldcp (hd 7 _ rfl rfl rfl) T.f40_0 T.sz9 rfl ?_) | (refine r_fieldb (hd 7 _ rfl rfl rfl) T.f40_0 T.sz9 rfl ?_)
            exact awl_nil ⟨rfl, post_put⟩⟩⟩
        , ⟨_, rfl, fun sl hd hr ho => by
            refine r_load1 (hd 8 _ rfl rfl rfl) T.agg9 rfl ?_
            exact awl_nil ⟨rfl, post_put⟩⟩⟩
        , ⟨_, rfl, fun sl hd hr ho => by
            refine r_str2 (hd 4 _ rfl rfl rfl) (hd 9 _ rfl rfl rfl) rfl rfl ?_
            exact awl_nil ⟨rfl, post_put⟩⟩⟩
        , ⟨_, rfl, fun sl hd hr ho => by
            refine r_move (hd 10 _ rfl rfl rfl) rfl ?_
            exact awl_nil ⟨rfl, post_put⟩⟩⟩
        , ⟨_, rfl, fun sl hd hr ho => by
            refine g_run rfl (hd 11 _ rfl rfl rfl) (by simp) ?_
            refine r_move (hr 0 _ rfl rfl rfl) rfl ?_
            exact awl_nil ⟨rfl, post_put⟩⟩⟩
        , ⟨_, rfl, fun sl hd hr ho => by
            refine g_run rfl (hd 11 _ rfl rfl rfl) (by simp) ?_
            refine r_move (hr 5 _ rfl rfl rfl) rfl ?_
            exact awl_nil ⟨rfl, post_put⟩⟩⟩
        , ⟨_, rfl, fun sl hd hr ho => by
            refine g_run rfl (hd 11 _ rfl rfl rfl) (by simp) ?_
            refine r_index (hd 12 _ rfl rfl rfl) rfl (hd 13 _ rfl rfl rfl) T.sl26 T.sz33 (by omega) (get_map hx) rfl ?_
            exact awl_nil ⟨rfl, post_put⟩⟩⟩
        , ⟨_, rfl, fun sl hd hr ho => by
            refine g_run rfl (hd 11 _ rfl rfl rfl) (by simp) ?_
            first | (refine r_fieldcp (hd 14 _ rfl rfl rfl) T.f33_1 T.sz30 rfl ?_) | (refine r_fieldb (hd 14 _ rfl rfl rfl) T.f33_1 T.sz30 rfl ?_)
            exact awl_nil ⟨rfl, post_put⟩⟩⟩
        , ⟨_, rfl, fun sl hd hr ho => by
            refine g_run rfl (hd 11 _ rfl rfl rfl) (by simp) ?_
            refine r_load1 (hd 15 _ rfl rfl rfl) T.agg30 rfl ?_
            exact awl_nil ⟨rfl, post_put⟩⟩⟩
        , ⟨_, rfl, fun sl hd hr ho => by
            refine g_run rfl (hd 11 _ rfl rfl rfl) (by simp) ?_
            refine r_move (hr 1 _ rfl rfl rfl) rfl ?_
            exact awl_nil ⟨rfl, post_put⟩⟩⟩
        , ⟨_, rfl, fun sl hd hr ho => by
            refine g_run rfl (hd 11 _ rfl rfl rfl) (by simp) ?_
            refine r_move (hr 5 _ rfl rfl rfl) rfl ?_
            exact awl_nil ⟨rfl, post_put⟩⟩⟩
        , ⟨_, rfl, fun sl hd hr ho => by
            refine g_run rfl (hd 11 _ rfl rfl rfl) (by simp) ?_
            refine r_index (hd 17 _ rfl rfl rfl) rfl (hd 18 _ rfl rfl rfl) T.sl34 T.sz40 (by omega) (get_map hx) rfl ?_
            exact awl_nil ⟨rfl, post_put⟩⟩⟩
        , ⟨_, rfl, fun sl hd hr ho => by
            refine g_run rfl (hd 11 _ rfl rfl rfl) (by simp) ?_
            first | (refine r_fieldcp (hd 19 _ rfl rfl rfl) T.f40_1 T.sz30 rfl ?_) | (refine r_fieldb (hd 19 _ rfl rfl rfl) T.f40_1 T.sz30 rfl ?_)
            exact awl_nil ⟨rfl, post_put⟩⟩⟩
        , ⟨_, rfl, fun sl hd hr ho => by
            refine g_run rfl (hd 11 _ rfl rfl rfl) (by simp) ?_
            refine r_load1 (hd 20 _ rfl rfl rfl) T.agg30 rfl ?_
            exact awl_nil ⟨rfl, post_put⟩⟩⟩
        , ⟨_, rfl, fun sl hd hr ho => by
            refine g_run rfl (hd 11 _ rfl rfl rfl) (by simp) ?_
            refine r_cmp (hd 16 _ rfl rfl rfl) (hd 21 _ rfl rfl rfl) rfl rfl ?_
            exact awl_nil ⟨rfl, post_put⟩⟩⟩
        , ⟨_, rfl, fun sl hd hr ho => by
            refine r_pickF (hd 11 _ rfl rfl rfl) (by simp) (hd 22 _ rfl rfl rfl) rfl ?_
            exact awl_nil ⟨rfl, post_put⟩⟩⟩
        , ⟨_, rfl, fun sl hd hr ho => by
            refine r_move (hd 23 _ rfl rfl rfl) rfl ?_
            exact awl_nil ⟨rfl, post_put⟩⟩⟩
        , ⟨_, rfl, fun sl hd hr ho => by
            refine g_run rfl (hd 24 _ rfl rfl rfl) (by simp) ?_
            refine r_move (hr 0 _ rfl rfl rfl) rfl ?_
            exact awl_nil ⟨rfl, post_put⟩⟩⟩
        , ⟨_, rfl, fun sl hd hr ho => by
            refine g_run rfl (hd 24 _ rfl rfl rfl) (by simp) ?_
            refine r_move (hr 5 _ rfl rfl rfl) rfl ?_
            exact awl_nil ⟨rfl, post_put⟩⟩⟩
        , ⟨_, rfl, fun sl hd hr ho => by
            refine g_run rfl (hd 24 _ rfl rfl rfl) (by simp) ?_
            refine r_index (hd 25 _ rfl rfl rfl) rfl (hd 26 _ rfl rfl rfl) T.sl26 T.sz33 (by omega) (get_map hx) rfl ?_
            exact awl_nil ⟨rfl, post_put⟩⟩⟩
        , ⟨_, rfl, fun sl hd hr ho => by
            refine g_run rfl (hd 24 _ rfl rfl rfl) (by simp) ?_
            first | (refine r_fieldcp (hd 27 _ rfl rfl rfl) T.f33_2 T.sz4 rfl ?_) | (refine r_fieldb (hd 27 _ rfl rfl rfl) T.f33_2 T.sz4 rfl ?_)
            exact awl_nil ⟨rfl, post_put⟩⟩⟩
        , ⟨_, rfl, fun sl hd hr ho => by
            refine g_run rfl (hd 24 _ rfl rfl rfl) (by simp) ?_
            refine r_load1 (hd 28 _ rfl rfl rfl) T.agg4 rfl ?_
            exact awl_nil ⟨rfl, post_put⟩⟩⟩
        , ⟨_, rfl, fun sl hd hr ho => by
            refine g_run rfl (hd 24 _ rfl rfl rfl) (by simp) ?_
            refine r_move (hr 1 _ rfl rfl rfl) rfl ?_
            exact awl_nil ⟨rfl, post_put⟩⟩⟩
        , ⟨_, rfl, fun sl hd hr ho => by
            refine g_run rfl (hd 24 _ rfl rfl rfl) (by simp) ?_
            refine r_move (hr 5 _ rfl rfl rfl) rfl ?_
            exact awl_nil ⟨rfl, post_put⟩⟩⟩
        , ⟨_, rfl, fun sl hd hr ho => by
            refine g_run rfl (hd 24 _ rfl rfl rfl) (by simp) ?_
            refine r_index (hd 30 _ rfl rfl rfl) rfl (hd 31 _ rfl rfl rfl) T.sl34 T.sz40 (by omega) (get_map hx) rfl ?_
            exact awl_nil ⟨rfl, post_put⟩⟩⟩
        , ⟨_, rfl, fun sl hd hr ho => by
            refine g_run rfl (hd 24 _ rfl rfl rfl) (by simp) ?_
            first | (refine r_fieldcp (hd 32 _ rfl rfl rfl) T.f40_2 T.sz4 rfl ?_) | (refine r_fieldb (hd 32 _ rfl rfl rfl) T.f40_2 T.sz4 rfl ?_)
            exact awl_nil ⟨rfl, post_put⟩⟩⟩
        , ⟨_, rfl, fun sl hd hr ho => by
            refine g_run rfl (hd 24 _ rfl rfl rfl) (by simp) ?_
            refine r_load1 (hd 33 _ rfl rfl rfl) T.agg4 rfl ?_
            exact awl_nil ⟨rfl, post_put⟩⟩⟩
        , ⟨_, rfl, fun sl hd hr ho => by
            refine g_run rfl (hd 24 _ rfl rfl rfl) (by simp) ?_
            refine r_bne (hd 29 _ rfl rfl rfl) (hd 34 _ rfl rfl rfl) T.un4 rfl ?_
            exact awl_nil ⟨rfl, post_put⟩⟩⟩
        , ⟨_, rfl, fun sl hd hr ho => by
            refine r_pickF (hd 24 _ rfl rfl rfl) (by simp) (hd 35 _ rfl rfl rfl) rfl ?_
            exact awl_nil ⟨rfl, post_put⟩⟩⟩
        , ⟨_, rfl, fun sl hd hr ho => by
            refine r_move (hd 36 _ rfl rfl rfl) rfl ?_
            exact awl_nil ⟨rfl, post_put⟩⟩⟩
        , ⟨_, rfl, fun sl hd hr ho => by
            refine g_run rfl (hd 37 _ rfl rfl rfl) (by simp) ?_
            refine r_move (hr 0 _ rfl rfl rfl) rfl ?_
            exact awl_nil ⟨rfl, post_put⟩⟩⟩
        , ⟨_, rfl, fun sl hd hr ho => by
            refine g_run rfl (hd 37 _ rfl rfl rfl) (by simp) ?_
            refine r_move (hr 5 _ rfl rfl rfl) rfl ?_
            exact awl_nil ⟨rfl, post_put⟩⟩⟩
        , ⟨_, rfl, fun sl hd hr ho => by
            refine g_run rfl (hd 37 _ rfl rfl rfl) (by simp) ?_
            refine r_index (hd 38 _ rfl rfl rfl) rfl (hd 39 _ rfl rfl rfl) T.sl26 T.sz33 (by omega) (get_map hx) rfl ?_
            exact awl_nil ⟨rfl, post_put⟩⟩⟩
        , ⟨_, rfl, fun sl hd hr ho => by
            refine g_run rfl (hd 37 _ rfl rfl rfl) (by simp) ?_
            first | (refine r_fieldcp (hd 40 _ rfl rfl rfl) T.f33_3 T.sz31 rfl ?_) | (refine r_fieldb (hd 40 _ rfl rfl rfl) T.f33_3 T.sz31 rfl ?_)
            exact awl_nil ⟨rfl, post_put⟩⟩⟩
        , ⟨_, rfl, fun sl hd hr ho => by
            refine g_run rfl (hd 37 _ rfl rfl rfl) (by simp) ?_
            refine r_load1 (hd 41 _ rfl rfl rfl) T.agg31 rfl ?_
            exact awl_nil ⟨rfl, post_put⟩⟩⟩
        , ⟨_, rfl, fun sl hd hr ho => by
            refine g_run rfl (hd 37 _ rfl rfl rfl) (by simp) ?_
            refine r_convBS _ (hd 42 _ rfl rfl rfl) rfl T.sl31 T.un5 T.un9 rfl ?_
            exact awl_nil ⟨rfl, post_put⟩⟩⟩
        , ⟨_, rfl, fun sl hd hr ho => by
            refine g_run rfl (hd 37 _ rfl rfl rfl) (by simp) ?_
            refine r_move (hr 1 _ rfl rfl rfl) rfl ?_
            exact awl_nil ⟨rfl, post_put⟩⟩⟩
        , ⟨_, rfl, fun sl hd hr ho => by
            refine g_run rfl (hd 37 _ rfl rfl rfl) (by simp) ?_
            refine r_move (hr 5 _ rfl rfl rfl) rfl ?_
            exact awl_nil ⟨rfl, post_put⟩⟩⟩
        , ⟨_, rfl, fun sl hd hr ho => by
            refine g_run rfl (hd 37 _ rfl rfl rfl) (by simp) ?_
            refine r_index (hd 44 _ rfl rfl rfl) rfl (hd 45 _ rfl rfl rfl) T.sl34 T.sz40 (by omega) (get_map hx) rfl ?_
            exact awl_nil ⟨rfl, post_put⟩⟩⟩
        , ⟨_, rfl, fun sl hd hr ho => by
            refine g_run rfl (hd 37 _ rfl rfl rfl) (by simp) ?_
            first | (refine r_fieldcp (hd 46 _ rfl rfl rfl) T.f40_3 T.sz31 rfl ?_) | (refine r_fieldb (hd 46 _ rfl rfl rfl) T.f40_3 T.sz31 rfl ?_)
            exact awl_nil ⟨rfl, post_put⟩⟩⟩
        , ⟨_, rfl, fun sl hd hr ho => by
            refine g_run rfl (hd 37 _ rfl rfl rfl) (by simp) ?_
            refine r_load1 (hd 47 _ rfl rfl rfl) T.agg31 rfl ?_
            exact awl_nil ⟨rfl, post_put⟩⟩⟩
        , ⟨_, rfl, fun sl hd hr ho => by
            refine g_run rfl (hd 37 _ rfl rfl rfl) (by simp) ?_
            refine r_convBS _ (hd 48 _ rfl rfl rfl) rfl T.sl31 T.un5 T.un9 rfl ?_
            exact awl_nil ⟨rfl, post_put⟩⟩⟩
        (by rfl) ?_
      refine g_run rfl rfl (by simp) ?_
      refine r_str2 rfl rfl rfl rfl ?_
      refine r_pickF rfl (by simp) rfl rfl ?_
      refine awl_nil ?_
      refine x_then ?_
      refine awp_cond rfl (fun hc2 => ?_) (fun hc2 => ?_)
      ·
        exfalso; simp at hc2
      ·
        refine awp_skip ?_
        refine x_block ?_
        refine x_then ?_
        refine awp_region ?_
        refine r_ari _ rfl rfl rfl (wrap_id (by omega)) rfl ?_
        refine r_move rfl rfl ?_
        refine awl_nil ?_
        refine x_then ?_
        refine ⟨l.length - (k + 1), ⟨69, [(0, .a (choicesA l)), (1, .a (choicesA l)), (11, .a (choicesA l)), (12, .a (.v (.int .i64 ((l.map Choice.cs).length)))), (13, .a (.v (.int .i64 (((k + 1) : Int)))))], []⟩, ⟨rfl, (Slots.cons rfl (by first | exact .refl _ | exact .nilOwn _ _ | exact .nilSl _ | exact .ownSl _ _ _ | exact SV.le.of_eq (by simp)) (Slots.cons rfl (by first | exact .refl _ | exact .nilOwn _ _ | exact .nilSl _ | exact .ownSl _ _ _ | exact SV.le.of_eq (by simp)) (Slots.cons rfl (by first | exact .refl _ | exact .nilOwn _ _ | exact .nilSl _ | exact .ownSl _ _ _ | exact SV.le.of_eq (by simp)) (Slots.cons rfl (by first | exact .refl _ | exact .nilOwn _ _ | exact .nilSl _ | exact .ownSl _ _ _ | exact SV.le.of_eq (by simp)) (Slots.cons rfl (by first | exact .refl _ | exact .nilOwn _ _ | exact .nilSl _ | exact .ownSl _ _ _ | exact SV.le.of_eq (by simp)) Slots.nil))))), (by first | exact List.Sublist.refl _ | exact List.nil_sublist _ | exact .cons _ (.refl _) | exact .cons _ (.cons _ (.refl _)) | exact .cons _ (.cons _ (.cons _ (.refl _))) | exact .cons _ (.cons _ (.cons _ (.cons _ (.refl _)))) | exact .cons_cons _ (List.nil_sublist _))⟩, (by omega), ⟨k + 1, rfl, rfl, (by have := (List.getElem?_eq_some_iff.1 hx).1; omega)⟩⟩
    ·
      have hge : l.length ≤ k := by have := of_decide_eq_false hc1; simp at this; omega
      refine awp_exit ?_
      refine x_thenE ?_
      refine x_thenE ?_
      refine x_blockE ?_
      refine x_then ?_
      refine awp_seq ?_
      refine awp_region ?_
      refine r_assign rfl rfl ?_
      refine awl_nil ?_
      refine x_then ?_
      refine awp_ret ?_
      exact ⟨(.inl rfl), _, [], (.one (by first | exact .mk rfl rfl | exact .nil rfl)), ⟨rfl, rfl⟩, (List.nil_sublist _), (by simp)⟩

theorem small_ok (l : List Moment) (nums : List Int) : AC Try.prog 10 [momentsA l, numsA nums] [] (fun r n => n = [] ∧ (r = .v (.int .i64 0) ∨ (r = .v (.int .i64 1) ∧ Small l nums))) := by
  refine ac_of_awp (rs := [4]) (nt := 46) Try.func10 rfl rfl rfl rfl (fun w0 C0 => ?_)
  refine awp_seq ?_
  refine awp_region ?_
  refine r_assign rfl rfl ?_
  refine awl_nil ?_
  refine x_then ?_
  refine awp_seq ?_
  refine awp_seq ?_
  refine awp_region ?_
  refine r_move rfl rfl ?_
  first | (refine r_lenS rfl rfl T.sl22 rfl ?_) | (refine r_lenNil rfl T.sl22 rfl ?_)
  refine r_cmp rfl rfl rfl rfl ?_
  refine r_move rfl rfl ?_
  refine g_cases (t' := 12) rfl (fun hg12 => ?_) (fun hg12 => ?_)
  ·
    refine g_skip rfl rfl hg12 rfl ?_
    refine g_skip rfl rfl hg12 rfl ?_
    refine g_skip rfl rfl hg12 rfl ?_
    refine r_pickT rfl hg12 rfl rfl ?_
    refine awl_nil ?_
    refine x_then ?_
    refine awp_condT rfl ?_
    refine awp_seq ?_
    refine awp_region ?_
    refine r_assign rfl rfl ?_
    refine awl_nil ?_
    refine x_then ?_
    refine awp_ret ?_
    refine x_thenR ?_
    exact ⟨(.inl rfl), _, [], (.one (by first | exact .mk rfl rfl | exact .nil rfl)), ⟨rfl, .inl rfl⟩, (List.nil_sublist _), (by simp)⟩
  ·
    refine g_run rfl rfl hg12 ?_
    refine r_move rfl rfl ?_
    refine g_run rfl rfl hg12 ?_
    first | (refine r_lenS rfl rfl T.sl23 rfl ?_) | (refine r_lenNil rfl T.sl23 rfl ?_)
    refine g_run rfl rfl hg12 ?_
    refine r_cmp rfl rfl rfl rfl ?_
    refine r_pickF rfl hg12 rfl rfl ?_
    refine awl_nil ?_
    refine x_then ?_
    refine awp_cond rfl (fun hc0 => ?_) (fun hc0 => ?_)
    ·
      refine awp_seq ?_
      refine awp_region ?_
      refine r_assign rfl rfl ?_
      refine awl_nil ?_
      refine x_then ?_
      refine awp_ret ?_
      refine x_thenR ?_
      exact ⟨(.inl rfl), _, [], (.one (by first | exact .mk rfl rfl | exact .nil rfl)), ⟨rfl, .inl rfl⟩, (List.nil_sublist _), (by simp)⟩
    ·
      have hl8 : l.length ≤ 8 := by have := of_decide_eq_false hg12; simp at this; omega
      have hn10 : nums.length ≤ 10 := by have := of_decide_eq_false hc0; simp at this; omega
      refine awp_skip ?_
      refine x_then ?_
      refine awp_seq ?_
      refine awp_seq ?_
      refine awp_region ?_
      refine r_move rfl rfl ?_
      first | (refine r_lenS rfl rfl T.sl22 rfl ?_) | (refine r_lenNil rfl T.sl22 rfl ?_)
      refine r_move rfl rfl ?_
      refine awl_nil ?_
      refine x_then ?_
      refine awp_block ?_
      refine awp_loop (fun nn0 S => ∃ k : Nat, S = ⟨46, [(17, .a (momentsA l)), (18, .a (.v (.int .i64 ((l.map Moment.cs).length)))), (19, .a (.v (.int .i64 ((k : Int)))))], []⟩ ∧ nn0 = l.length - k ∧ (k ≤ l.length) ∧ (∀ m ∈ l.take k, m.files.length ≤ 10 ∧ ∀ f ∈ m.files, f.name.size ≤ 40 ∧ f.data.length ≤ 300)) (l.length - (0)) ⟨46, [(17, .a (momentsA l)), (18, .a (.v (.int .i64 ((l.map Moment.cs).length)))), (19, .a (.v (.int .i64 (((0) : Int)))))], []⟩ ⟨rfl, (Slots.cons rfl (by first | exact .refl _ | exact .nilOwn _ _ | exact .nilSl _ | exact .ownSl _ _ _ | exact SV.le.of_eq (by simp)) (Slots.cons rfl (by first | exact .refl _ | exact .nilOwn _ _ | exact .nilSl _ | exact .ownSl _ _ _ | exact SV.le.of_eq (by simp)) (Slots.cons rfl (by first | exact .refl _ | exact .nilOwn _ _ | exact .nilSl _ | exact .ownSl _ _ _ | exact SV.le.of_eq (by simp)) Slots.nil))), (by first | exact List.Sublist.refl _ | exact List.nil_sublist _ | exact .cons _ (.refl _) | exact .cons _ (.cons _ (.refl _)) | exact .cons _ (.cons _ (.cons _ (.refl _))) | exact .cons _ (.cons _ (.cons _ (.cons _ (.refl _)))) | exact .cons_cons _ (List.nil_sublist _))⟩ ⟨0, rfl, rfl, Nat.zero_le _, (fun m hm => by simp at hm)⟩ ?_
      rintro nn0 _ ⟨k, rfl, rfl, hk, hd⟩
      refine awp_seq ?_
      refine awp_region ?_
      refine r_cmp rfl rfl rfl rfl ?_
      refine awl_nil ?_
      refine x_then ?_
      refine awp_seq ?_
      refine awp_cond rfl (fun hc1 => ?_) (fun hc1 => ?_)
      ·
        have hlt : k < l.length := by have := of_decide_eq_true hc1; simpa using this
        obtain ⟨x, hx⟩ := get_lt hlt
        refine awp_skip ?_
        refine x_then ?_
        refine awp_seq ?_
        refine awp_block ?_
        refine awp_seq ?_
        refine awp_region ?_
        refine r_index rfl rfl rfl T.sl22 T.sz57 (by omega) (get_map hx) rfl ?_
        refine r_loadA rfl T.agg57 T.sz57 rfl rfl ?_
        refine r_alloc T.zero57 rfl (fun b6 => ?_)
        refine r_store 0 rfl rfl rfl T.sz57 rfl rfl rfl ?_
        refine awl_nil ?_
        refine x_then ?_
        refine awp_seq ?_
        refine awp_seq ?_
        refine awp_region ?_
        first | (refine r_fieldcp rfl T.f57_2 T.sz44 rfl ?_) | (refine r_fieldb rfl T.f57_2 T.sz44 rfl ?_)
        first | (refine r_load1 rfl T.agg44 rfl ?_) | (refine r_load1b 0 rfl rfl rfl T.agg44 rfl ?_)
        first | (refine r_lenS rfl rfl T.sl44 rfl ?_) | (refine r_lenNil rfl T.sl44 rfl ?_)
        refine r_cmp rfl rfl rfl rfl ?_
        refine awl_nil ?_
        refine x_then ?_
        refine awp_cond rfl (fun hc2 => ?_) (fun hc2 => ?_)
        ·
          refine awp_seq ?_
          refine awp_region ?_
          refine r_assign rfl rfl ?_
          refine awl_nil ?_
          refine x_then ?_
          refine awp_ret ?_
          refine x_thenR ?_
          refine x_blockR ?_
          refine x_thenR ?_
          refine x_thenR ?_
          refine x_blockR ?_
          refine x_thenR ?_
          exact ⟨(.inl rfl), _, [], (.one (by first | exact .mk rfl rfl | exact .nil rfl)), ⟨rfl, .inl rfl⟩, (List.nil_sublist _), (by simp)⟩
        ·
          have hf10 : x.files.length ≤ 10 := by have := of_decide_eq_false hc2; simp at this; omega
          refine awp_skip ?_
          refine x_then ?_
          refine awp_seq ?_
          refine awp_region ?_
          first | (refine r_fieldcp rfl T.f57_2 T.sz44 rfl ?_) | (refine r_fieldb rfl T.f57_2 T.sz44 rfl ?_)
          first | (refine r_load1 rfl T.agg44 rfl ?_) | (refine r_load1b 0 rfl rfl rfl T.agg44 rfl ?_)
          first | (refine r_lenS rfl rfl T.sl44 rfl ?_) | (refine r_lenNil rfl T.sl44 rfl ?_)
          refine r_move rfl rfl ?_
          refine awl_nil ?_
          refine x_then ?_
          refine awp_block ?_
          refine awp_loop (fun nn0 S => ∃ j : Nat, S = ⟨46, [(17, .a (momentsA l)), (18, .a (.v (.int .i64 ((l.map Moment.cs).length)))), (19, .a (.v (.int .i64 ((k : Int))))), (28, .a (files x.files)), (29, .a (.v (.int .i64 ((x.files.map File.cs).length)))), (30, .a (.v (.int .i64 ((j : Int)))))], []⟩ ∧ nn0 = x.files.length - j ∧ (j ≤ x.files.length) ∧ (∀ f ∈ x.files.take j, f.name.size ≤ 40 ∧ f.data.length ≤ 300)) (x.files.length - (0)) ⟨46, [(17, .a (momentsA l)), (18, .a (.v (.int .i64 ((l.map Moment.cs).length)))), (19, .a (.v (.int .i64 ((k : Int))))), (28, .a (files x.files)), (29, .a (.v (.int .i64 ((x.files.map File.cs).length)))), (30, .a (.v (.int .i64 (((0) : Int)))))], []⟩ ⟨rfl, (Slots.cons rfl (by first | exact .refl _ | exact .nilOwn _ _ | exact .nilSl _ | exact .ownSl _ _ _ | exact SV.le.of_eq (by simp)) (Slots.cons rfl (by first | exact .refl _ | exact .nilOwn _ _ | exact .nilSl _ | exact .ownSl _ _ _ | exact SV.le.of_eq (by simp)) (Slots.cons rfl (by first | exact .refl _ | exact .nilOwn _ _ | exact .nilSl _ | exact .ownSl _ _ _ | exact SV.le.of_eq (by simp)) (Slots.cons rfl (by first | exact .refl _ | exact .nilOwn _ _ | exact .nilSl _ | exact .ownSl _ _ _ | exact SV.le.of_eq (by simp)) (Slots.cons rfl (by first | exact .refl _ | exact .nilOwn _ _ | exact .nilSl _ | exact .ownSl _ _ _ | exact SV.le.of_eq (by simp)) (Slots.cons rfl (by first | exact .refl _ | exact .nilOwn _ _ | exact .nilSl _ | exact .ownSl _ _ _ | exact SV.le.of_eq (by simp)) Slots.nil)))))), (by first | exact List.Sublist.refl _ | exact List.nil_sublist _ | exact .cons _ (.refl _) | exact .cons _ (.cons _ (.refl _)) | exact .cons _ (.cons _ (.cons _ (.refl _))) | exact .cons _ (.cons _ (.cons _ (.cons _ (.refl _)))) | exact .cons_cons _ (List.nil_sublist _))⟩ ⟨0, rfl, rfl, Nat.zero_le _, (fun m hm => by simp at hm)⟩ ?_
          rintro nn0 _ ⟨j, rfl, rfl, hj, he⟩
          refine awp_seq ?_
          refine awp_region ?_
          refine r_cmp rfl rfl rfl rfl ?_
          refine awl_nil ?_
          refine x_then ?_
          refine awp_seq ?_
          refine awp_cond rfl (fun hc3 => ?_) (fun hc3 => ?_)
          ·
            have hltj : j < x.files.length := by have := of_decide_eq_true hc3; simpa using this
            obtain ⟨y, hy⟩ := get_lt hltj
            refine awp_skip ?_
            refine x_then ?_
            refine awp_seq ?_
            refine awp_block ?_
            refine awp_seq ?_
            refine awp_region ?_
            refine r_index rfl rfl rfl T.sl44 T.sz51 (by omega) (get_map hy) rfl ?_
            refine r_loadA rfl T.agg51 T.sz51 rfl rfl ?_
            refine r_alloc T.zero51 rfl (fun b8 => ?_)
            refine r_store 0 rfl rfl rfl T.sz51 rfl rfl rfl ?_
            refine awl_nil ?_
            refine x_then ?_
            refine awp_seq ?_
            refine awp_region ?_
            first | (refine r_fieldcp rfl T.f51_0 T.sz9 rfl ?_) | (refine r_fieldb rfl T.f51_0 T.sz9 rfl ?_)
            first | (refine r_load1 rfl T.agg9 rfl ?_) | (refine r_load1b 0 rfl rfl rfl T.agg9 rfl ?_)
            refine r_lenStr rfl T.un9 rfl ?_
            refine r_cmp rfl rfl rfl rfl ?_
            refine r_move rfl rfl ?_
            refine g_cases (t' := 38) rfl (fun hg38 => ?_) (fun hg38 => ?_)
            ·
              refine g_skip rfl rfl hg38 rfl ?_
              refine g_skip rfl rfl hg38 rfl ?_
              refine g_skip rfl rfl hg38 rfl ?_
              refine g_skip rfl rfl hg38 rfl ?_
              refine r_pickT rfl hg38 rfl rfl ?_
              refine awl_nil ?_
              refine x_then ?_
              refine awp_condT rfl ?_
              refine awp_seq ?_
              refine awp_region ?_
              refine r_assign rfl rfl ?_
              refine awl_nil ?_
              refine x_then ?_
              refine awp_ret ?_
              refine x_blockR ?_
              refine x_thenR ?_
              refine x_thenR ?_
              refine x_blockR ?_
              refine x_blockR ?_
              refine x_thenR ?_
              refine x_thenR ?_
              refine x_blockR ?_
              refine x_thenR ?_
              exact ⟨(.inl rfl), _, [], (.one (by first | exact .mk rfl rfl | exact .nil rfl)), ⟨rfl, .inl rfl⟩, (List.nil_sublist _), (by simp)⟩
            ·
              refine g_run rfl rfl hg38 ?_
              first | (refine r_fieldcp rfl T.f51_1 T.sz31 rfl ?_) | (refine r_fieldb rfl T.f51_1 T.sz31 rfl ?_)
              refine g_run rfl rfl hg38 ?_
              first | (refine r_load1 rfl T.agg31 rfl ?_) | (refine r_load1b 0 rfl rfl rfl T.agg31 rfl ?_)
              refine g_run rfl rfl hg38 ?_
              first | (refine r_lenS rfl rfl T.sl31 rfl ?_) | (refine r_lenNil rfl T.sl31 rfl ?_)
              refine g_run rfl rfl hg38 ?_
              refine r_cmp rfl rfl rfl rfl ?_
              refine r_pickF rfl hg38 rfl rfl ?_
              refine awl_nil ?_
              refine x_then ?_
              refine awp_cond rfl (fun hc4 => ?_) (fun hc4 => ?_)
              ·
                refine awp_seq ?_
                refine awp_region ?_
                refine r_assign rfl rfl ?_
                refine awl_nil ?_
                refine x_then ?_
                refine awp_ret ?_
                refine x_blockR ?_
                refine x_thenR ?_
                refine x_thenR ?_
                refine x_blockR ?_
                refine x_blockR ?_
                refine x_thenR ?_
                refine x_thenR ?_
                refine x_blockR ?_
                refine x_thenR ?_
                exact ⟨(.inl rfl), _, [], (.one (by first | exact .mk rfl rfl | exact .nil rfl)), ⟨rfl, .inl rfl⟩, (List.nil_sublist _), (by simp)⟩
              ·
                refine awp_skip ?_
                refine x_block ?_
                refine x_then ?_
                refine awp_region ?_
                refine r_ari _ rfl rfl rfl (wrap_id (by omega)) rfl ?_
                refine r_move rfl rfl ?_
                refine awl_nil ?_
                refine x_then ?_
                refine ⟨x.files.length - (j + 1), ⟨46, [(17, .a (momentsA l)), (18, .a (.v (.int .i64 ((l.map Moment.cs).length)))), (19, .a (.v (.int .i64 ((k : Int))))), (28, .a (files x.files)), (29, .a (.v (.int .i64 ((x.files.map File.cs).length)))), (30, .a (.v (.int .i64 (((j + 1) : Int)))))], []⟩, ⟨rfl, (Slots.cons rfl (by first | exact .refl _ | exact .nilOwn _ _ | exact .nilSl _ | exact .ownSl _ _ _ | exact SV.le.of_eq (by simp)) (Slots.cons rfl (by first | exact .refl _ | exact .nilOwn _ _ | exact .nilSl _ | exact .ownSl _ _ _ | exact SV.le.of_eq (by simp)) (Slots.cons rfl (by first | exact .refl _ | exact .nilOwn _ _ | exact .nilSl _ | exact .ownSl _ _ _ | exact SV.le.of_eq (by simp)) (Slots.cons rfl (by first | exact .refl _ | exact .nilOwn _ _ | exact .nilSl _ | exact .ownSl _ _ _ | exact SV.le.of_eq (by simp)) (Slots.cons rfl (by first | exact .refl _ | exact .nilOwn _ _ | exact .nilSl _ | exact .ownSl _ _ _ | exact SV.le.of_eq (by simp)) (Slots.cons rfl (by first | exact .refl _ | exact .nilOwn _ _ | exact .nilSl _ | exact .ownSl _ _ _ | exact SV.le.of_eq (by simp)) Slots.nil)))))), (by first | exact List.Sublist.refl _ | exact List.nil_sublist _ | exact .cons _ (.refl _) | exact .cons _ (.cons _ (.refl _)) | exact .cons _ (.cons _ (.cons _ (.refl _))) | exact .cons _ (.cons _ (.cons _ (.cons _ (.refl _)))) | exact .cons_cons _ (List.nil_sublist _))⟩, (by omega), ⟨j + 1, rfl, rfl, (by have := (List.getElem?_eq_some_iff.1 hy).1; omega), (all_takeS hy he ⟨by have := of_decide_eq_false hg38; simp at this; omega, by have := of_decide_eq_false hc4; simp [u8s] at this; omega⟩)⟩⟩
          ·
            have hgej : x.files.length ≤ j := by have := of_decide_eq_false hc3; simp at this; omega
            refine awp_exit ?_
            refine x_thenE ?_
            refine x_thenE ?_
            refine x_blockE ?_
            refine x_block ?_
            refine x_then ?_
            refine awp_region ?_
            refine r_ari _ rfl rfl rfl (wrap_id (by omega)) rfl ?_
            refine r_move rfl rfl ?_
            refine awl_nil ?_
            refine x_then ?_
            refine ⟨l.length - (k + 1), ⟨46, [(17, .a (momentsA l)), (18, .a (.v (.int .i64 ((l.map Moment.cs).length)))), (19, .a (.v (.int .i64 (((k + 1) : Int)))))], []⟩, ⟨rfl, (Slots.cons rfl (by first | exact .refl _ | exact .nilOwn _ _ | exact .nilSl _ | exact .ownSl _ _ _ | exact SV.le.of_eq (by simp)) (Slots.cons rfl (by first | exact .refl _ | exact .nilOwn _ _ | exact .nilSl _ | exact .ownSl _ _ _ | exact SV.le.of_eq (by simp)) (Slots.cons rfl (by first | exact .refl _ | exact .nilOwn _ _ | exact .nilSl _ | exact .ownSl _ _ _ | exact SV.le.of_eq (by simp)) Slots.nil))), (by first | exact List.Sublist.refl _ | exact List.nil_sublist _ | exact .cons _ (.refl _) | exact .cons _ (.cons _ (.refl _)) | exact .cons _ (.cons _ (.cons _ (.refl _))) | exact .cons _ (.cons _ (.cons _ (.cons _ (.refl _)))) | exact .cons_cons _ (List.nil_sublist _))⟩, (by omega), ⟨k + 1, rfl, rfl, (by have := (List.getElem?_eq_some_iff.1 hx).1; omega), (all_takeS hx hd ⟨hf10, all_end hgej he⟩)⟩⟩
      ·
        have hge : l.length ≤ k := by have := of_decide_eq_false hc1; simp at this; omega
        refine awp_exit ?_
        refine x_thenE ?_
        refine x_thenE ?_
        refine x_blockE ?_
        refine x_then ?_
        refine awp_seq ?_
        refine awp_region ?_
        refine r_assign rfl rfl ?_
        refine awl_nil ?_
        refine x_then ?_
        refine awp_ret ?_
        exact ⟨(.inl rfl), _, [], (.one (by first | exact .mk rfl rfl | exact .nil rfl)), ⟨rfl, .inr ⟨rfl, hl8, hn10, all_end hge hd⟩⟩, (List.nil_sublist _), (by simp)⟩

theorem equal_ok (a b : List UInt8) : AC Try.prog 41 [bts a, bts b] [] (fun r n => n = [] ∧ r = boolA (decide ((⟨a.toArray⟩ : ByteArray) = ⟨b.toArray⟩))) := by
  refine ac_of_awp (rs := [4]) (nt := 10) Try.func41 rfl rfl rfl rfl (fun w0 C0 => ?_)
  refine awp_seq ?_
  refine awp_region ?_
  refine r_assign rfl rfl ?_
  refine awl_nil ?_
  refine x_then ?_
  refine awp_seq ?_
  refine awp_region ?_
  refine r_move rfl rfl ?_
  refine r_convBS a rfl rfl T.sl31 T.un5 T.un9 rfl ?_
  refine r_move rfl rfl ?_
  refine r_convBS b rfl rfl T.sl31 T.un5 T.un9 rfl ?_
  refine r_str2 rfl rfl rfl rfl ?_
  refine r_assign rfl rfl ?_
  refine awl_nil ?_
  refine x_then ?_
  refine awp_ret ?_
  exact ⟨(.inl rfl), _, [], (.one (by first | exact .mk rfl rfl | exact .nil rfl)), ⟨rfl, rfl⟩, (List.nil_sublist _), (by simp)⟩

end Go.Proofs.Ytpoacfbobalpkaa.A

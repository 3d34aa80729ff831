/- Layer 31: walks of Entries and Apply. -/
import Derived.Test.YtaglbmgpdoophaaProg
import Derived.KernelRfl
import Derived.Test.YtaglbmgpdoophaaX31B
namespace Go.Proofs.Ytaglbmgpdoophaa.A
open Go Go.RowKit
set_option linter.unusedVariables false
set_option linter.unusedSimpArgs false
set_option maxRecDepth 100000

theorem TD.en64 : entersT Try.prog 64 := enters_of Try.func64 (by kernel_rfl) (by kernel_rfl)
theorem TD.en65 : entersT Try.prog 65 := enters_of Try.func65 (by kernel_rfl) (by kernel_rfl)
theorem TD.en66 : entersT Try.prog 66 := enters_of Try.func66 (by kernel_rfl) (by kernel_rfl)
theorem TD.en67 : entersT Try.prog 67 := enters_of Try.func67 (by kernel_rfl) (by kernel_rfl)
theorem TD.pl112 : placesT Try.prog 112 = some [(0, 1), (1, 1), (2, 1), (3, 1)] := by kernel_rfl
theorem TD.zero112 : ZeroT Try.prog 112 [.v (.int .i64 0), .v (.int .i64 0), .v (.int .u64 0), .v (.int .u64 0)] := ⟨[(.int .i64 0), (.int .i64 0), (.int .u64 0), (.int .u64 0)], by kernel_rfl, (LeCells.refl _)⟩
theorem TD.sl27 : sliceT Try.prog 27 = some 112 := by kernel_rfl
theorem TD.sz112 : szT Try.prog 112 = some 4 := by kernel_rfl
theorem TD.zraw112 : zeroT Try.prog 112 = some [(.int .i64 0), (.int .i64 0), (.int .u64 0), (.int .u64 0)] := by kernel_rfl
theorem TD.by112 : bytesT Try.prog 112 = some 32 := by kernel_rfl
theorem TD.zlen112 : (zeroT Try.prog 112).map (·.length) = some 4 := by kernel_rfl
theorem TD.agg112 : aggT Try.prog 112 = some true := by kernel_rfl
theorem TD.f112_0 : fieldT Try.prog 112 0 = some (0, 3) := by kernel_rfl
theorem TD.f112_1 : fieldT Try.prog 112 1 = some (1, 3) := by kernel_rfl
theorem TD.f112_2 : fieldT Try.prog 112 2 = some (2, 79) := by kernel_rfl
theorem TD.f112_3 : fieldT Try.prog 112 3 = some (3, 79) := by kernel_rfl
theorem TD.pl110 : placesT Try.prog 110 = some [(0, 1), (1, 1), (2, 1)] := by kernel_rfl
theorem TD.zraw110 : zeroT Try.prog 110 = some [(.int .i64 0), (.int .i64 0), (.int .u64 0)] := by kernel_rfl
theorem TD.by110 : bytesT Try.prog 110 = some 24 := by kernel_rfl
theorem TD.zlen110 : (zeroT Try.prog 110).map (·.length) = some 3 := by kernel_rfl

set_option maxHeartbeats 1000000 in
theorem entries_ok (a b : List Ent) (hla : a.length ≤ 1000) (hlb : b.length ≤ 1000) : AC Try.prog 24 [entsA a, entsA b] [] (fun r n => n = [] ∧ r = chgsA (entriesF a b)) := by
  refine ac_of_awp (rs := [4]) (nt := 50) Try.func24 rfl rfl rfl rfl (fun w0 C0 hq => ?_)
  refine awp_seq ?_
  refine awp_region ?_
  refine r_assign rfl rfl ?_
  refine awl_nil ?_
  refine x_then ?_
  refine awp_seq ?_
  refine awp_region ?_
  refine r_move rfl rfl ?_
  refine r_callO hq rfl rfl (.cons (.ev rfl rfl) .nil) (told_map a (by omega)) rfl TD.en64 (List.nil_sublist _) rfl (fun r nobjs hr => ?_)
  obtain ⟨bx, mx, rfl, rfl, htx⟩ := hr
  refine r_move rfl rfl ?_
  refine r_callO hq rfl rfl (.cons (.ev rfl rfl) .nil) (told_map b (by omega)) rfl TD.en64 (List.nil_sublist _) rfl (fun r nobjs hr => ?_)
  obtain ⟨by_, my, rfl, rfl, hty⟩ := hr
  refine r_assign rfl rfl ?_
  refine r_assign rfl rfl ?_
  refine awl_nil ?_
  refine x_then ?_
  refine awp_seq ?_
  refine awp_region ?_
  refine r_move rfl rfl ?_
  refine r_callO hq rfl rfl (.cons (.ev rfl rfl) .nil) (clone65 (es := encM ekP numA mx)) rfl TD.en65 (.cons _ (.refl _)) rfl (fun r nobjs hr => ?_)
  obtain ⟨bz, rfl, rfl⟩ := hr
  refine r_assign rfl rfl ?_
  refine awl_nil ?_
  refine x_then ?_
  refine awp_seq ?_
  refine awp_region ?_
  refine r_move rfl rfl ?_
  refine r_move rfl rfl ?_
  refine r_callW hq [true, false, false] rfl rfl (.cons (.ev rfl rfl) (.cons (.ev rfl rfl) .nil)) (copy_okD mx my) rfl TD.en66 rfl rfl (.cons_cons _ (List.nil_sublist _)) rfl (fun r nobjs hr => ?_)
  obtain ⟨rfl, es, hes, rfl⟩ := hr
  have hall : AllOf (List.foldl (fun (m : List (PL × Int)) (e : PL × Int) => mset m e.1 e.2) mx es) [a, b] := tells_step (tells_all htx hla) hes hty hlb
  have hml : (List.foldl (fun (m : List (PL × Int)) (e : PL × Int) => mset m e.1 e.2) mx es).length ≤ 1000000 := by have := hall.len; simp at this; omega
  refine awl_nil ?_
  refine x_then ?_
  refine awp_seq ?_
  refine awp_region ?_
  refine r_assign rfl rfl ?_
  refine awl_nil ?_
  refine x_then ?_
  refine awp_seq ?_
  refine awp_seq ?_
  refine awp_region ?_
  refine r_move rfl rfl ?_
  refine r_callO hq rfl rfl (.cons (.ev rfl rfl) .nil) (order_ok (List.foldl (fun (m : List (PL × Int)) (e : PL × Int) => mset m e.1 e.2) mx es) hml) rfl TD.en67 (.cons_cons _ (List.nil_sublist _)) rfl (fun r nobjs hr => ?_)
  obtain ⟨rfl, kl, hkl, hr2⟩ := hr
  rw [allOf_places hall hkl] at hr2
  obtain ⟨pl, hpl⟩ : ∃ pl, pl = placesF [a, b] := ⟨_, rfl⟩
  rw [← hpl] at hr2
  obtain rfl := hr2
  have hpll : pl.length ≤ 2000 := by rw [hpl]; have := places_len [a, b]; simp at this; omega
  first | (refine r_lenS rfl rfl TD.sl120 rfl ?_) | (refine r_lenNil rfl TD.sl120 rfl ?_)
  refine r_move rfl rfl ?_
  refine awl_nil ?_
  refine x_then ?_
  refine awp_block ?_
  refine awp_loop (fun nn0 S => ∃ k : Nat, S = ⟨50, [(5, .a (.v (.map (some bx)))), (6, .a (.v (.map (some by_)))), (8, .own 8 4 (((pl.take k).filterMap (chgAt a b)).map Chg.cs)), (21, .a (plsA pl)), (22, .a (.v (.int .i64 ((pl.map PL.cs).length)))), (23, .a (.v (.int .i64 ((k : Int)))))], [⟨bz, true, .map (encM ekP numA (List.foldl (fun (m : List (PL × Int)) (e : PL × Int) => mset m e.1 e.2) mx es))⟩, ⟨by_, true, .map (encM ekP numA my)⟩, ⟨bx, true, .map (encM ekP numA mx)⟩]⟩ ∧ nn0 = pl.length - k ∧ (k ≤ pl.length)) (pl.length - (0)) ⟨50, [(5, .a (.v (.map (some bx)))), (6, .a (.v (.map (some by_)))), (8, .own 8 4 (((pl.take (0)).filterMap (chgAt a b)).map Chg.cs)), (21, .a (plsA pl)), (22, .a (.v (.int .i64 ((pl.map PL.cs).length)))), (23, .a (.v (.int .i64 (((0) : Int)))))], [⟨bz, true, .map (encM ekP numA (List.foldl (fun (m : List (PL × Int)) (e : PL × Int) => mset m e.1 e.2) mx es))⟩, ⟨by_, true, .map (encM ekP numA my)⟩, ⟨bx, true, .map (encM ekP numA mx)⟩]⟩ ⟨rfl, (Slots.cons rfl (by first | exact .refl _ | exact .nilOwn _ _ | exact .nilSl _ | exact .ownSl _ _ _  | exact SV.le.of_eq (by simp)) (Slots.cons rfl (by first | exact .refl _ | exact .nilOwn _ _ | exact .nilSl _ | exact .ownSl _ _ _  | exact SV.le.of_eq (by simp)) (Slots.cons rfl (by first | exact .refl _ | exact .nilOwn _ _ | exact .nilSl _ | exact .ownSl _ _ _  | exact SV.le.of_eq (by simp)) (Slots.cons rfl (by first | exact .refl _ | exact .nilOwn _ _ | exact .nilSl _ | exact .ownSl _ _ _  | exact SV.le.of_eq (by simp)) (Slots.cons rfl (by first | exact .refl _ | exact .nilOwn _ _ | exact .nilSl _ | exact .ownSl _ _ _  | exact SV.le.of_eq (by simp)) (Slots.cons rfl (by first | exact .refl _ | exact .nilOwn _ _ | exact .nilSl _ | exact .ownSl _ _ _  | exact SV.le.of_eq (by simp)) Slots.nil)))))), (by first | exact List.Sublist.refl _ | exact .cons_cons _ (.cons _ (.refl _)) | exact List.nil_sublist _ | exact .cons _ (.refl _) | exact .cons _ (.cons _ (.refl _)) | exact .cons _ (.cons _ (.cons _ (.refl _))) | exact .cons _ (.cons _ (.cons _ (.cons _ (.refl _)))) | exact .cons_cons _ (List.nil_sublist _))⟩ ⟨0, rfl, rfl, Nat.zero_le _⟩ ?_
  rintro nn0 _ ⟨k, rfl, rfl, hk⟩
  refine awp_seq ?_
  refine awp_region ?_
  refine r_cmp rfl rfl rfl rfl ?_
  refine awl_nil ?_
  refine x_then ?_
  refine awp_seq ?_
  refine awp_cond rfl (fun hc0 => ?_) (fun hc0 => ?_)
  ·
    have hlt : k < pl.length := by have := of_decide_eq_true hc0; simpa using this
    obtain ⟨p, hp⟩ := get_lt hlt
    have hf : ((pl.take k).filterMap (chgAt a b)).length ≤ k := Nat.le_trans (List.length_filterMap_le _ _) (by simp; omega)
    refine awp_skip ?_
    refine x_then ?_
    refine awp_seq ?_
    refine awp_block ?_
    refine awp_seq ?_
    refine awp_region ?_
    refine r_index rfl rfl rfl TD.sl120 TD.sz118 (by omega) (get_map hp) rfl ?_
    first | (refine r_loadA rfl TD.agg118 TD.sz118 rfl rfl ?_) | (refine r_loadAb 0 rfl rfl TD.agg118 TD.sz118 rfl rfl ?_) | (refine r_loadAb 1 rfl rfl TD.agg118 TD.sz118 rfl rfl ?_) | (refine r_loadAb 2 rfl rfl TD.agg118 TD.sz118 rfl rfl ?_)
    refine r_alloc TD.zero118 rfl (fun b10 => ?_)
    first | (refine r_store 0 rfl rfl rfl TD.sz118 rfl rfl rfl ?_) | (refine r_store 1 rfl rfl rfl TD.sz118 rfl rfl rfl ?_) | (refine r_store 2 rfl rfl rfl TD.sz118 rfl rfl rfl ?_) | (refine r_store 3 rfl rfl rfl TD.sz118 rfl rfl rfl ?_)
    refine awl_nil ?_
    refine x_then ?_
    refine awp_seq ?_
    refine awp_drawS [27, 28, 29, 30, 31, 32] [_, _, _, _, _, _] [] [] TD.mixed rfl rfl rfl ⟨⟨⟨⟨⟨⟨trivial
      , ⟨_, rfl, fun sl hd hr ho => by
          refine r_move (hr 5 _ rfl rfl rfl) rfl ?_
          exact awl_nil ⟨rfl, post_put⟩⟩⟩
      , ⟨_, rfl, fun sl hd hr ho => by
          refine r_loadAb 0 (hr 10 _ rfl rfl rfl) rfl TD.agg118 TD.sz118 rfl rfl ?_
          exact awl_nil ⟨rfl, post_put⟩⟩⟩
      , ⟨_, rfl, fun sl hd hr ho => by
          refine r_lookupK 3 keyPD (ev := numA) (k := p) 0 (hd 0 _ rfl rfl rfl) rfl (hd 1 _ rfl rfl rfl) (isVal_pl p) TD.map114 TD.zav79 rfl ?_
          exact awl_nil ⟨rfl, post_put⟩⟩⟩
      , ⟨_, rfl, fun sl hd hr ho => by
          refine r_move (hr 6 _ rfl rfl rfl) rfl ?_
          exact awl_nil ⟨rfl, post_put⟩⟩⟩
      , ⟨_, rfl, fun sl hd hr ho => by
          refine r_loadAb 0 (hr 10 _ rfl rfl rfl) rfl TD.agg118 TD.sz118 rfl rfl ?_
          exact awl_nil ⟨rfl, post_put⟩⟩⟩
      , ⟨_, rfl, fun sl hd hr ho => by
          refine r_lookupK 2 keyPD (ev := numA) (k := p) 0 (hd 3 _ rfl rfl rfl) rfl (hd 4 _ rfl rfl rfl) (isVal_pl p) TD.map114 TD.zav79 rfl ?_
          exact awl_nil ⟨rfl, post_put⟩⟩⟩
      (by rfl) ?_
    refine r_cmp rfl rfl rfl rfl ?_
    refine awl_nil ?_
    refine x_then ?_
    refine awp_cond rfl (fun hc1 => ?_) (fun hc1 => ?_)
    ·
      have hne : ¬ shows a p = shows b p := by rw [← tells_shows htx, ← tells_shows hty]; simpa using hc1
      have ht : chgAt a b p = some ⟨p.1, p.2, (mget mx p).getD 0, (mget my p).getD 0⟩ := by rw [chgAt, if_neg hne, tells_shows htx, tells_shows hty]
      refine awp_drawS [34, 35, 36, 37, 38, 39, 40, 41, 42, 43, 44, 45, 46] [_, _, _, _, _, _, _, _, _, _, _, _, _] [] [(12, 46)] TD.mixed rfl rfl rfl ⟨⟨⟨⟨⟨⟨⟨⟨⟨⟨⟨⟨⟨trivial
        , ⟨_, rfl, fun sl hd hr ho => by
            refine r_move (hr 8 _ rfl rfl rfl) rfl ?_
            exact awl_nil ⟨rfl, post_put⟩⟩⟩
        , ⟨_, rfl, fun sl hd hr ho => by
            refine r_indexArrB (hr 10 _ rfl rfl rfl) rfl TD.un118 TD.sz3 (by decide) (by decide) rfl ?_
            exact awl_nil ⟨rfl, post_put⟩⟩⟩
        , ⟨_, rfl, fun sl hd hr ho => by
            refine r_load1b 0 (hd 1 _ rfl rfl rfl) rfl rfl TD.agg3 rfl ?_
            exact awl_nil ⟨rfl, post_put⟩⟩⟩
        , ⟨_, rfl, fun sl hd hr ho => by
            refine r_indexArrB (hr 10 _ rfl rfl rfl) rfl TD.un118 TD.sz3 (by decide) (by decide) rfl ?_
            exact awl_nil ⟨rfl, post_put⟩⟩⟩
        , ⟨_, rfl, fun sl hd hr ho => by
            refine r_load1b 0 (hd 3 _ rfl rfl rfl) rfl rfl TD.agg3 rfl ?_
            exact awl_nil ⟨rfl, post_put⟩⟩⟩
        , ⟨_, rfl, fun sl hd hr ho => by
            refine r_move (hr 5 _ rfl rfl rfl) rfl ?_
            exact awl_nil ⟨rfl, post_put⟩⟩⟩
        , ⟨_, rfl, fun sl hd hr ho => by
            refine r_loadAb 0 (hr 10 _ rfl rfl rfl) rfl TD.agg118 TD.sz118 rfl rfl ?_
            exact awl_nil ⟨rfl, post_put⟩⟩⟩
        , ⟨_, rfl, fun sl hd hr ho => by
            refine r_lookupK 3 keyPD (ev := numA) (k := p) 0 (hd 5 _ rfl rfl rfl) rfl (hd 6 _ rfl rfl rfl) (isVal_pl p) TD.map114 TD.zav79 rfl ?_
            exact awl_nil ⟨rfl, post_put⟩⟩⟩
        , ⟨_, rfl, fun sl hd hr ho => by
            refine r_move (hr 6 _ rfl rfl rfl) rfl ?_
            exact awl_nil ⟨rfl, post_put⟩⟩⟩
        , ⟨_, rfl, fun sl hd hr ho => by
            refine r_loadAb 0 (hr 10 _ rfl rfl rfl) rfl TD.agg118 TD.sz118 rfl rfl ?_
            exact awl_nil ⟨rfl, post_put⟩⟩⟩
        , ⟨_, rfl, fun sl hd hr ho => by
            refine r_lookupK 2 keyPD (ev := numA) (k := p) 0 (hd 8 _ rfl rfl rfl) rfl (hd 9 _ rfl rfl rfl) (isVal_pl p) TD.map114 TD.zav79 rfl ?_
            exact awl_nil ⟨rfl, post_put⟩⟩⟩
        , ⟨_, rfl, fun sl hd hr ho => by
            refine r_build (parts := [(0, .tmp 36), (1, .tmp 38), (2, .tmp 41), (3, .tmp 44)]) rfl TD.pl112 TD.zero112 (parts_cons (hd 2 _ rfl rfl rfl) (parts_cons (hd 4 _ rfl rfl rfl) (parts_cons (hd 7 _ rfl rfl rfl) (parts_cons (hd 10 _ rfl rfl rfl) parts_nil)))) rfl rfl ?_
            exact awl_nil ⟨rfl, post_put⟩⟩⟩
        , ⟨_, rfl, fun sl hd hr ho => by
            refine r_lit 46 (parts := [(0, .tmp 45)]) rfl TD.sl27 TD.sz112 TD.zraw112 rfl rfl (parts_cons (hd 11 _ rfl rfl rfl) parts_nil) rfl rfl rfl rfl ?_
            exact awl_nil ⟨rfl, (post_dem (ho 46 (List.mem_of_elem_eq_true rfl)))⟩⟩⟩
        (by rfl) ?_
      refine r_append 8 rfl (by first | exact .own _ | exact .nil) rfl (by first | exact .sl _ | exact .own _ _ | exact .nil) TD.sl27 TD.sz112 (by decide) TD.by112 TD.zlen112 (by simp [chunks] <;> omega) (by simp [chunks] <;> omega) rfl ?_
      refine r_assign rfl rfl ?_
      refine awl_nil ?_
      refine x_block ?_
      refine x_then ?_
      refine awp_region ?_
      refine r_ari _ rfl rfl rfl (wrap_id (by first | omega | (simp; omega))) rfl ?_
      refine r_move rfl rfl ?_
      refine awl_nil ?_
      refine x_then ?_
      have et := fm_step (f := chgAt a b) hp
      rw [ht] at et
      simp only [Option.toList_some, Option.toList_none, List.append_nil] at et
      refine ⟨pl.length - (k + 1), ⟨50, [(5, .a (.v (.map (some bx)))), (6, .a (.v (.map (some by_)))), (8, .own 8 4 (((pl.take (k + 1)).filterMap (chgAt a b)).map Chg.cs)), (21, .a (plsA pl)), (22, .a (.v (.int .i64 ((pl.map PL.cs).length)))), (23, .a (.v (.int .i64 (((k + 1) : Int)))))], [⟨bz, true, .map (encM ekP numA (List.foldl (fun (m : List (PL × Int)) (e : PL × Int) => mset m e.1 e.2) mx es))⟩, ⟨by_, true, .map (encM ekP numA my)⟩, ⟨bx, true, .map (encM ekP numA mx)⟩]⟩, ⟨rfl, (Slots.cons rfl (by first | exact .refl _ | exact .nilOwn _ _ | exact .nilSl _ | exact .ownSl _ _ _  | exact SV.le.ownEq (by first | rfl | (rw [et, List.map_append]; rfl) | (rw [et]; first | done | rfl)) | exact SV.le.of_eq (by first | rfl | (rw [et, List.map_append]; rfl) | (rw [et]; first | done | rfl))) (Slots.cons rfl (by first | exact .refl _ | exact .nilOwn _ _ | exact .nilSl _ | exact .ownSl _ _ _  | exact SV.le.ownEq (by first | rfl | (rw [et, List.map_append]; rfl) | (rw [et]; first | done | rfl)) | exact SV.le.of_eq (by first | rfl | (rw [et, List.map_append]; rfl) | (rw [et]; first | done | rfl))) (Slots.cons rfl (by first | exact .refl _ | exact .nilOwn _ _ | exact .nilSl _ | exact .ownSl _ _ _  | exact SV.le.ownEq (by first | rfl | (rw [et, List.map_append]; rfl) | (rw [et]; first | done | rfl)) | exact SV.le.of_eq (by first | rfl | (rw [et, List.map_append]; rfl) | (rw [et]; first | done | rfl))) (Slots.cons rfl (by first | exact .refl _ | exact .nilOwn _ _ | exact .nilSl _ | exact .ownSl _ _ _  | exact SV.le.ownEq (by first | rfl | (rw [et, List.map_append]; rfl) | (rw [et]; first | done | rfl)) | exact SV.le.of_eq (by first | rfl | (rw [et, List.map_append]; rfl) | (rw [et]; first | done | rfl))) (Slots.cons rfl (by first | exact .refl _ | exact .nilOwn _ _ | exact .nilSl _ | exact .ownSl _ _ _  | exact SV.le.ownEq (by first | rfl | (rw [et, List.map_append]; rfl) | (rw [et]; first | done | rfl)) | exact SV.le.of_eq (by first | rfl | (rw [et, List.map_append]; rfl) | (rw [et]; first | done | rfl))) (Slots.cons rfl (by first | exact .refl _ | exact .nilOwn _ _ | exact .nilSl _ | exact .ownSl _ _ _  | exact SV.le.ownEq (by first | rfl | (rw [et, List.map_append]; rfl) | (rw [et]; first | done | rfl)) | exact SV.le.of_eq (by first | rfl | (rw [et, List.map_append]; rfl) | (rw [et]; first | done | rfl))) Slots.nil)))))), (by first | exact List.Sublist.refl _ | exact .cons_cons _ (.cons _ (.refl _)) | exact List.nil_sublist _ | exact .cons _ (.refl _) | exact .cons _ (.cons _ (.refl _)) | exact .cons _ (.cons _ (.cons _ (.refl _))) | exact .cons _ (.cons _ (.cons _ (.cons _ (.refl _)))) | exact .cons_cons _ (List.nil_sublist _))⟩, (by omega), ⟨k + 1, rfl, rfl, (by omega)⟩⟩
    ·
      have hne : shows a p = shows b p := by rw [← tells_shows htx, ← tells_shows hty]; simpa using hc1
      have ht : chgAt a b p = none := by rw [chgAt, if_pos hne]
      refine awp_skip ?_
      refine x_block ?_
      refine x_then ?_
      refine awp_region ?_
      refine r_ari _ rfl rfl rfl (wrap_id (by first | omega | (simp; omega))) rfl ?_
      refine r_move rfl rfl ?_
      refine awl_nil ?_
      refine x_then ?_
      have et := fm_step (f := chgAt a b) hp
      rw [ht] at et
      simp only [Option.toList_some, Option.toList_none, List.append_nil] at et
      refine ⟨pl.length - (k + 1), ⟨50, [(5, .a (.v (.map (some bx)))), (6, .a (.v (.map (some by_)))), (8, .own 8 4 (((pl.take (k + 1)).filterMap (chgAt a b)).map Chg.cs)), (21, .a (plsA pl)), (22, .a (.v (.int .i64 ((pl.map PL.cs).length)))), (23, .a (.v (.int .i64 (((k + 1) : Int)))))], [⟨bz, true, .map (encM ekP numA (List.foldl (fun (m : List (PL × Int)) (e : PL × Int) => mset m e.1 e.2) mx es))⟩, ⟨by_, true, .map (encM ekP numA my)⟩, ⟨bx, true, .map (encM ekP numA mx)⟩]⟩, ⟨rfl, (Slots.cons rfl (by first | exact .refl _ | exact .nilOwn _ _ | exact .nilSl _ | exact .ownSl _ _ _  | exact SV.le.ownEq (by first | rfl | (rw [et, List.map_append]; rfl) | (rw [et]; first | done | rfl)) | exact SV.le.of_eq (by first | rfl | (rw [et, List.map_append]; rfl) | (rw [et]; first | done | rfl))) (Slots.cons rfl (by first | exact .refl _ | exact .nilOwn _ _ | exact .nilSl _ | exact .ownSl _ _ _  | exact SV.le.ownEq (by first | rfl | (rw [et, List.map_append]; rfl) | (rw [et]; first | done | rfl)) | exact SV.le.of_eq (by first | rfl | (rw [et, List.map_append]; rfl) | (rw [et]; first | done | rfl))) (Slots.cons rfl (by first | exact .refl _ | exact .nilOwn _ _ | exact .nilSl _ | exact .ownSl _ _ _  | exact SV.le.ownEq (by first | rfl | (rw [et, List.map_append]; rfl) | (rw [et]; first | done | rfl)) | exact SV.le.of_eq (by first | rfl | (rw [et, List.map_append]; rfl) | (rw [et]; first | done | rfl))) (Slots.cons rfl (by first | exact .refl _ | exact .nilOwn _ _ | exact .nilSl _ | exact .ownSl _ _ _  | exact SV.le.ownEq (by first | rfl | (rw [et, List.map_append]; rfl) | (rw [et]; first | done | rfl)) | exact SV.le.of_eq (by first | rfl | (rw [et, List.map_append]; rfl) | (rw [et]; first | done | rfl))) (Slots.cons rfl (by first | exact .refl _ | exact .nilOwn _ _ | exact .nilSl _ | exact .ownSl _ _ _  | exact SV.le.ownEq (by first | rfl | (rw [et, List.map_append]; rfl) | (rw [et]; first | done | rfl)) | exact SV.le.of_eq (by first | rfl | (rw [et, List.map_append]; rfl) | (rw [et]; first | done | rfl))) (Slots.cons rfl (by first | exact .refl _ | exact .nilOwn _ _ | exact .nilSl _ | exact .ownSl _ _ _  | exact SV.le.ownEq (by first | rfl | (rw [et, List.map_append]; rfl) | (rw [et]; first | done | rfl)) | exact SV.le.of_eq (by first | rfl | (rw [et, List.map_append]; rfl) | (rw [et]; first | done | rfl))) Slots.nil)))))), (by first | exact List.Sublist.refl _ | exact .cons_cons _ (.cons _ (.refl _)) | exact List.nil_sublist _ | exact .cons _ (.refl _) | exact .cons _ (.cons _ (.refl _)) | exact .cons _ (.cons _ (.cons _ (.refl _))) | exact .cons _ (.cons _ (.cons _ (.cons _ (.refl _)))) | exact .cons_cons _ (List.nil_sublist _))⟩, (by omega), ⟨k + 1, rfl, rfl, (by omega)⟩⟩
  ·
    have hge : pl.length ≤ k := by have := of_decide_eq_false hc0; simp at this; omega
    have hkl2 : pl.take k = pl := List.take_of_length_le hge
    refine awp_exit ?_
    refine x_thenE ?_
    refine x_thenE ?_
    refine x_blockE ?_
    refine x_then ?_
    refine awp_seq ?_
    refine awp_region ?_
    refine r_move rfl rfl ?_
    refine r_assign rfl rfl ?_
    refine awl_nil ?_
    refine x_then ?_
    refine awp_ret ?_
    exact ⟨(.inl rfl), _, [], (.one (by first | exact .mk rfl rfl | exact .nil rfl)), ⟨rfl, by rw [hkl2, hpl]; rfl⟩, (List.nil_sublist _), (by simp)⟩

set_option maxHeartbeats 1000000 in
theorem apply_ok (l : List Ent) (d : List Chg) (hll : l.length ≤ 1000) (hld : d.length ≤ 1000) : AC Try.prog 28 [entsA l, chgsA d] [] (fun r n => n = [] ∧ ((∃ l', applyF l d = some l' ∧ r = .tup [entsA (cleanF l'), .v (.int .i64 0)]) ∨ (applyF l d = none ∧ r = .tup [.v (.slice none 0 0), .v (.int .i64 7)]))) := by
  refine ac_of_awp (rs := [4, 5]) (nt := 61) Try.func28 rfl rfl rfl rfl (fun w0 C0 hq => ?_)
  refine awp_seq ?_
  refine awp_region ?_
  refine r_assign rfl rfl ?_
  refine r_assign rfl rfl ?_
  refine awl_nil ?_
  refine x_then ?_
  refine awp_seq ?_
  refine awp_region ?_
  refine r_move rfl rfl ?_
  refine r_callO hq rfl rfl (.cons (.ev rfl rfl) .nil) (told_map l (by omega)) rfl TD.en64 (List.nil_sublist _) rfl (fun r nobjs hr => ?_)
  obtain ⟨bm, m0, rfl, rfl, ht0⟩ := hr
  refine r_assign rfl rfl ?_
  refine awl_nil ?_
  refine x_then ?_
  refine awp_seq ?_
  refine awp_seq ?_
  refine awp_region ?_
  refine r_move rfl rfl ?_
  first | (refine r_lenS rfl rfl TD.sl27 rfl ?_) | (refine r_lenNil rfl TD.sl27 rfl ?_)
  refine r_move rfl rfl ?_
  refine awl_nil ?_
  refine x_then ?_
  refine awp_block ?_
  refine awp_loop (fun nn0 S => ∃ k : Nat, ∃ m : List (PL × Int), ∃ l' : List Ent, S = ⟨61, [(6, .a (.v (.map (some bm)))), (15, .a (chgsA d)), (16, .a (.v (.int .i64 ((d.map Chg.cs).length)))), (17, .a (.v (.int .i64 ((k : Int)))))], [⟨bm, true, .map (encM ekP numA m)⟩]⟩ ∧ nn0 = d.length - k ∧ (k ≤ d.length) ∧ (Tells m l') ∧ (applyF l (d.take k) = some l')) (d.length - (0)) ⟨61, [(6, .a (.v (.map (some bm)))), (15, .a (chgsA d)), (16, .a (.v (.int .i64 ((d.map Chg.cs).length)))), (17, .a (.v (.int .i64 (((0) : Int)))))], [⟨bm, true, .map (encM ekP numA (m0))⟩]⟩ ⟨rfl, (Slots.cons rfl (by first | exact .refl _ | exact .nilOwn _ _ | exact .nilSl _ | exact .ownSl _ _ _  | exact SV.le.of_eq (by simp)) (Slots.cons rfl (by first | exact .refl _ | exact .nilOwn _ _ | exact .nilSl _ | exact .ownSl _ _ _  | exact SV.le.of_eq (by simp)) (Slots.cons rfl (by first | exact .refl _ | exact .nilOwn _ _ | exact .nilSl _ | exact .ownSl _ _ _  | exact SV.le.of_eq (by simp)) (Slots.cons rfl (by first | exact .refl _ | exact .nilOwn _ _ | exact .nilSl _ | exact .ownSl _ _ _  | exact SV.le.of_eq (by simp)) Slots.nil)))), (by first | exact List.Sublist.refl _ | exact .cons_cons _ (.cons _ (.refl _)) | exact List.nil_sublist _ | exact .cons _ (.refl _) | exact .cons _ (.cons _ (.refl _)) | exact .cons _ (.cons _ (.cons _ (.refl _))) | exact .cons _ (.cons _ (.cons _ (.cons _ (.refl _)))) | exact .cons_cons _ (List.nil_sublist _))⟩ ⟨0, m0, l, rfl, rfl, Nat.zero_le _, ht0, rfl⟩ ?_
  rintro nn0 _ ⟨k, m, l', rfl, rfl, hk, ht, ha⟩
  refine awp_seq ?_
  refine awp_region ?_
  refine r_cmp rfl rfl rfl rfl ?_
  refine awl_nil ?_
  refine x_then ?_
  refine awp_seq ?_
  refine awp_cond rfl (fun hc0 => ?_) (fun hc0 => ?_)
  ·
    have hltx : k < d.length := by have := of_decide_eq_true hc0; simpa using this
    obtain ⟨x, hx⟩ := get_lt hltx
    refine awp_skip ?_
    refine x_then ?_
    refine awp_seq ?_
    refine awp_block ?_
    refine awp_seq ?_
    refine awp_region ?_
    refine r_index rfl rfl rfl TD.sl27 TD.sz112 (by omega) (get_map hx) rfl ?_
    first | (refine r_loadA rfl TD.agg112 TD.sz112 rfl rfl ?_) | (refine r_loadAb 0 rfl rfl TD.agg112 TD.sz112 rfl rfl ?_)
    refine r_alloc TD.zero112 rfl (fun b8 => ?_)
    first | (refine r_store 0 rfl rfl rfl TD.sz112 rfl rfl rfl ?_) | (refine r_store 1 rfl rfl rfl TD.sz112 rfl rfl rfl ?_)
    refine awl_nil ?_
    refine x_then ?_
    refine awp_seq ?_
    refine awp_region ?_
    first | (refine r_fieldcp rfl TD.f112_0 TD.sz3 rfl ?_) | (refine r_fieldb rfl TD.f112_0 TD.sz3 rfl ?_)
    refine r_load1b 0 rfl rfl rfl TD.agg3 rfl ?_
    first | (refine r_fieldcp rfl TD.f112_1 TD.sz3 rfl ?_) | (refine r_fieldb rfl TD.f112_1 TD.sz3 rfl ?_)
    refine r_load1b 0 rfl rfl rfl TD.agg3 rfl ?_
    refine r_buildArr (parts := [(0, .tmp 22), (1, .tmp 24)]) rfl TD.arr118 TD.sz3 TD.zero118 rfl rfl rfl ?_
    refine r_alloc TD.zero118 rfl (fun b9 => ?_)
    first | (refine r_store 0 rfl rfl rfl TD.sz118 rfl rfl rfl ?_) | (refine r_store 1 rfl rfl rfl TD.sz118 rfl rfl rfl ?_) | (refine r_store 2 rfl rfl rfl TD.sz118 rfl rfl rfl ?_)
    refine awl_nil ?_
    refine x_then ?_
    refine awp_seq ?_
    refine awp_seq ?_
    refine awp_drawS [26, 27, 28, 29, 30] [_, _, _, _, _] [] [] TD.mixed rfl rfl rfl ⟨⟨⟨⟨⟨trivial
      , ⟨_, rfl, fun sl hd hr ho => by
          refine r_move (hr 6 _ rfl rfl rfl) rfl ?_
          exact awl_nil ⟨rfl, post_put⟩⟩⟩
      , ⟨_, rfl, fun sl hd hr ho => by
          refine r_loadAb 0 (hr 9 _ rfl rfl rfl) rfl TD.agg118 TD.sz118 rfl rfl ?_
          exact awl_nil ⟨rfl, post_put⟩⟩⟩
      , ⟨_, rfl, fun sl hd hr ho => by
          first | (refine r_lookupK 0 keyPD (ev := numA) (k := x.pl) 0 (hd 0 _ rfl rfl rfl) rfl (hd 1 _ rfl rfl rfl) (isVal_pl x.pl) TD.map114 TD.zav79 rfl ?_) | (refine r_lookupK 1 keyPD (ev := numA) (k := x.pl) 0 (hd 0 _ rfl rfl rfl) rfl (hd 1 _ rfl rfl rfl) (isVal_pl x.pl) TD.map114 TD.zav79 rfl ?_) | (refine r_lookupK 2 keyPD (ev := numA) (k := x.pl) 0 (hd 0 _ rfl rfl rfl) rfl (hd 1 _ rfl rfl rfl) (isVal_pl x.pl) TD.map114 TD.zav79 rfl ?_)
          exact awl_nil ⟨rfl, post_put⟩⟩⟩
      , ⟨_, rfl, fun sl hd hr ho => by
          first | (refine r_fieldcp (hr 8 _ rfl rfl rfl) TD.f112_2 TD.sz79 rfl ?_) | (refine r_fieldb (hr 8 _ rfl rfl rfl) TD.f112_2 TD.sz79 rfl ?_)
          exact awl_nil ⟨rfl, post_put⟩⟩⟩
      , ⟨_, rfl, fun sl hd hr ho => by
          refine r_load1b 1 (hd 3 _ rfl rfl rfl) rfl rfl TD.agg79 rfl ?_
          exact awl_nil ⟨rfl, post_put⟩⟩⟩
      (by rfl) ?_
    refine r_cmp rfl rfl rfl rfl ?_
    refine awl_nil ?_
    refine x_then ?_
    refine awp_cond rfl (fun hc1 => ?_) (fun hc1 => ?_)
    ·
      have hsx : ¬ shows l' x.pl = x.a := by rw [← tells_shows ht]; simpa using hc1
      refine awp_seq ?_
      refine awp_region ?_
      refine r_assign rfl rfl ?_
      refine r_assign rfl rfl ?_
      refine awl_nil ?_
      refine x_then ?_
      refine awp_ret ?_
      refine x_thenR ?_
      refine x_blockR ?_
      refine x_thenR ?_
      refine x_thenR ?_
      refine x_blockR ?_
      refine x_thenR ?_
      exact ⟨(.inl rfl), _, [], (.two (by first | exact .mk rfl rfl | exact .nil rfl) (by first | exact .mk rfl rfl | exact .nil rfl)), ⟨rfl, .inr ⟨apply_fail hx ha hsx, rfl⟩⟩, (List.nil_sublist _), (by simp)⟩
    ·
      have hsx : shows l' x.pl = x.a := by rw [← tells_shows ht]; simpa using hc1
      refine awp_skip ?_
      refine x_then ?_
      refine awp_region ?_
      refine r_move rfl rfl ?_
      refine r_loadAb 0 rfl rfl TD.agg118 TD.sz118 rfl rfl ?_
      first | (refine r_fieldcp rfl TD.f112_3 TD.sz79 rfl ?_) | (refine r_fieldb rfl TD.f112_3 TD.sz79 rfl ?_)
      refine r_load1b 1 rfl rfl rfl TD.agg79 rfl ?_
      first | (refine r_mapUpdateK 0 keyPD (ev := numA) (k := x.pl) x.b rfl rfl rfl (isVal_pl x.pl) rfl rfl TD.map114 ?_) | (refine r_mapUpdateK 1 keyPD (ev := numA) (k := x.pl) x.b rfl rfl rfl (isVal_pl x.pl) rfl rfl TD.map114 ?_) | (refine r_mapUpdateK 2 keyPD (ev := numA) (k := x.pl) x.b rfl rfl rfl (isVal_pl x.pl) rfl rfl TD.map114 ?_)
      refine awl_nil ?_
      refine x_block ?_
      refine x_then ?_
      refine awp_region ?_
      refine r_ari _ rfl rfl rfl (wrap_id (by first | omega | (simp; omega))) rfl ?_
      refine r_move rfl rfl ?_
      refine awl_nil ?_
      refine x_then ?_
      refine ⟨d.length - (k + 1), ⟨61, [(6, .a (.v (.map (some bm)))), (15, .a (chgsA d)), (16, .a (.v (.int .i64 ((d.map Chg.cs).length)))), (17, .a (.v (.int .i64 (((k + 1) : Int)))))], [⟨bm, true, .map (encM ekP numA (mset m x.pl x.b))⟩]⟩, ⟨rfl, (Slots.cons rfl (by first | exact .refl _ | exact .nilOwn _ _ | exact .nilSl _ | exact .ownSl _ _ _  | exact SV.le.of_eq (by simp)) (Slots.cons rfl (by first | exact .refl _ | exact .nilOwn _ _ | exact .nilSl _ | exact .ownSl _ _ _  | exact SV.le.of_eq (by simp)) (Slots.cons rfl (by first | exact .refl _ | exact .nilOwn _ _ | exact .nilSl _ | exact .ownSl _ _ _  | exact SV.le.of_eq (by simp)) (Slots.cons rfl (by first | exact .refl _ | exact .nilOwn _ _ | exact .nilSl _ | exact .ownSl _ _ _  | exact SV.le.of_eq (by simp)) Slots.nil)))), (by first | exact List.Sublist.refl _ | exact .cons_cons _ (.cons _ (.refl _)) | exact List.nil_sublist _ | exact .cons _ (.refl _) | exact .cons _ (.cons _ (.refl _)) | exact .cons _ (.cons _ (.cons _ (.refl _))) | exact .cons _ (.cons _ (.cons _ (.cons _ (.refl _)))) | exact .cons_cons _ (List.nil_sublist _))⟩, (by omega), ⟨k + 1, mset m x.pl x.b, ⟨x.vol, x.blk, x.b⟩ :: l', rfl, rfl, (by omega), (tells_set ht ⟨x.vol, x.blk, x.b⟩), (apply_step hx ha hsx)⟩⟩
  ·
    have hge : d.length ≤ k := by have := of_decide_eq_false hc0; simp at this; omega
    have ha' := apply_end hge ha
    have hl'n := apply_len ha'
    have hml : m.length ≤ 1000000 := by have := ht.len; omega
    refine awp_exit ?_
    refine x_thenE ?_
    refine x_thenE ?_
    refine x_blockE ?_
    refine x_then ?_
    refine awp_seq ?_
    refine awp_region ?_
    refine r_assign rfl rfl ?_
    refine awl_nil ?_
    refine x_then ?_
    refine awp_seq ?_
    refine awp_seq ?_
    refine awp_region ?_
    refine r_move rfl rfl ?_
    refine r_callO hq rfl rfl (.cons (.ev rfl rfl) .nil) (order_ok m hml) rfl TD.en67 (.cons_cons _ (List.nil_sublist _)) rfl (fun r nobjs hr => ?_)
    obtain ⟨rfl, kl, hkl, hr2⟩ := hr
    rw [sort_keys (hkl.nodup_iff.2 ht.nd) (places_sorted [l']) (fun p => by rw [hkl.mem_iff, tells_mem ht, places_mem]; simp)] at hr2
    obtain ⟨pl, hpl⟩ : ∃ pl, pl = placesF [l'] := ⟨_, rfl⟩
    rw [← hpl] at hr2
    obtain rfl := hr2
    have hpll : pl.length ≤ 2000 := by rw [hpl]; have := places_len [l']; simp at this; omega
    first | (refine r_lenS rfl rfl TD.sl120 rfl ?_) | (refine r_lenNil rfl TD.sl120 rfl ?_)
    refine r_move rfl rfl ?_
    refine awl_nil ?_
    refine x_then ?_
    refine awp_block ?_
    refine awp_loop (fun nn0 S => ∃ k : Nat, S = ⟨61, [(6, .a (.v (.map (some bm)))), (10, .own 10 3 (((pl.take k).filterMap (cleanAt l')).map Ent.cs)), (38, .a (plsA pl)), (39, .a (.v (.int .i64 ((pl.map PL.cs).length)))), (40, .a (.v (.int .i64 ((k : Int)))))], [⟨bm, true, .map (encM ekP numA m)⟩]⟩ ∧ nn0 = pl.length - k ∧ (k ≤ pl.length)) (pl.length - (0)) ⟨61, [(6, .a (.v (.map (some bm)))), (10, .own 10 3 (((pl.take (0)).filterMap (cleanAt l')).map Ent.cs)), (38, .a (plsA pl)), (39, .a (.v (.int .i64 ((pl.map PL.cs).length)))), (40, .a (.v (.int .i64 (((0) : Int)))))], [⟨bm, true, .map (encM ekP numA m)⟩]⟩ ⟨rfl, (Slots.cons rfl (by first | exact .refl _ | exact .nilOwn _ _ | exact .nilSl _ | exact .ownSl _ _ _  | exact SV.le.of_eq (by simp)) (Slots.cons rfl (by first | exact .refl _ | exact .nilOwn _ _ | exact .nilSl _ | exact .ownSl _ _ _  | exact SV.le.of_eq (by simp)) (Slots.cons rfl (by first | exact .refl _ | exact .nilOwn _ _ | exact .nilSl _ | exact .ownSl _ _ _  | exact SV.le.of_eq (by simp)) (Slots.cons rfl (by first | exact .refl _ | exact .nilOwn _ _ | exact .nilSl _ | exact .ownSl _ _ _  | exact SV.le.of_eq (by simp)) (Slots.cons rfl (by first | exact .refl _ | exact .nilOwn _ _ | exact .nilSl _ | exact .ownSl _ _ _  | exact SV.le.of_eq (by simp)) Slots.nil))))), (by first | exact List.Sublist.refl _ | exact .cons_cons _ (.cons _ (.refl _)) | exact List.nil_sublist _ | exact .cons _ (.refl _) | exact .cons _ (.cons _ (.refl _)) | exact .cons _ (.cons _ (.cons _ (.refl _))) | exact .cons _ (.cons _ (.cons _ (.cons _ (.refl _)))) | exact .cons_cons _ (List.nil_sublist _))⟩ ⟨0, rfl, rfl, Nat.zero_le _⟩ ?_
    rintro nn0 _ ⟨k, rfl, rfl, hk⟩
    refine awp_seq ?_
    refine awp_region ?_
    refine r_cmp rfl rfl rfl rfl ?_
    refine awl_nil ?_
    refine x_then ?_
    refine awp_seq ?_
    refine awp_cond rfl (fun hc2 => ?_) (fun hc2 => ?_)
    ·
      have hlt : k < pl.length := by have := of_decide_eq_true hc2; simpa using this
      obtain ⟨p, hp⟩ := get_lt hlt
      have hf : ((pl.take k).filterMap (cleanAt l')).length ≤ k := Nat.le_trans (List.length_filterMap_le _ _) (by simp; omega)
      refine awp_skip ?_
      refine x_then ?_
      refine awp_seq ?_
      refine awp_block ?_
      refine awp_seq ?_
      refine awp_region ?_
      refine r_index rfl rfl rfl TD.sl120 TD.sz118 (by omega) (get_map hp) rfl ?_
      first | (refine r_loadA rfl TD.agg118 TD.sz118 rfl rfl ?_) | (refine r_loadAb 0 rfl rfl TD.agg118 TD.sz118 rfl rfl ?_)
      refine r_alloc TD.zero118 rfl (fun b12 => ?_)
      first | (refine r_store 0 rfl rfl rfl TD.sz118 rfl rfl rfl ?_) | (refine r_store 1 rfl rfl rfl TD.sz118 rfl rfl rfl ?_)
      refine awl_nil ?_
      refine x_then ?_
      refine awp_seq ?_
      refine awp_region ?_
      refine r_move rfl rfl ?_
      refine r_loadAb 0 rfl rfl TD.agg118 TD.sz118 rfl rfl ?_
      first | (refine r_lookupK 0 keyPD (ev := numA) (k := p) 0 rfl rfl rfl (isVal_pl p) TD.map114 TD.zav79 rfl ?_) | (refine r_lookupK 1 keyPD (ev := numA) (k := p) 0 rfl rfl rfl (isVal_pl p) TD.map114 TD.zav79 rfl ?_)
      refine r_cmp rfl rfl rfl rfl ?_
      refine awl_nil ?_
      refine x_then ?_
      refine awp_cond rfl (fun hc3 => ?_) (fun hc3 => ?_)
      ·
        have hne : ¬ shows l' p = 0 := by rw [← tells_shows ht]; simpa using hc3
        have hcl : cleanAt l' p = some ⟨p.1, p.2, (mget m p).getD 0⟩ := by rw [cleanAt, if_neg hne, tells_shows ht]
        refine awp_drawS [48, 49, 50, 51, 52, 53, 54, 55, 56, 57] [_, _, _, _, _, _, _, _, _, _] [] [(9, 57)] TD.mixed rfl rfl rfl ⟨⟨⟨⟨⟨⟨⟨⟨⟨⟨trivial
          , ⟨_, rfl, fun sl hd hr ho => by
              refine r_move (hr 10 _ rfl rfl rfl) rfl ?_
              exact awl_nil ⟨rfl, post_put⟩⟩⟩
          , ⟨_, rfl, fun sl hd hr ho => by
              refine r_indexArrB (hr 12 _ rfl rfl rfl) rfl TD.un118 TD.sz3 (by decide) (by decide) rfl ?_
              exact awl_nil ⟨rfl, post_put⟩⟩⟩
          , ⟨_, rfl, fun sl hd hr ho => by
              refine r_load1b 0 (hd 1 _ rfl rfl rfl) rfl rfl TD.agg3 rfl ?_
              exact awl_nil ⟨rfl, post_put⟩⟩⟩
          , ⟨_, rfl, fun sl hd hr ho => by
              refine r_indexArrB (hr 12 _ rfl rfl rfl) rfl TD.un118 TD.sz3 (by decide) (by decide) rfl ?_
              exact awl_nil ⟨rfl, post_put⟩⟩⟩
          , ⟨_, rfl, fun sl hd hr ho => by
              refine r_load1b 0 (hd 3 _ rfl rfl rfl) rfl rfl TD.agg3 rfl ?_
              exact awl_nil ⟨rfl, post_put⟩⟩⟩
          , ⟨_, rfl, fun sl hd hr ho => by
              refine r_move (hr 6 _ rfl rfl rfl) rfl ?_
              exact awl_nil ⟨rfl, post_put⟩⟩⟩
          , ⟨_, rfl, fun sl hd hr ho => by
              refine r_loadAb 0 (hr 12 _ rfl rfl rfl) rfl TD.agg118 TD.sz118 rfl rfl ?_
              exact awl_nil ⟨rfl, post_put⟩⟩⟩
          , ⟨_, rfl, fun sl hd hr ho => by
              first | (refine r_lookupK 0 keyPD (ev := numA) (k := p) 0 (hd 5 _ rfl rfl rfl) rfl (hd 6 _ rfl rfl rfl) (isVal_pl p) TD.map114 TD.zav79 rfl ?_) | (refine r_lookupK 1 keyPD (ev := numA) (k := p) 0 (hd 5 _ rfl rfl rfl) rfl (hd 6 _ rfl rfl rfl) (isVal_pl p) TD.map114 TD.zav79 rfl ?_)
              exact awl_nil ⟨rfl, post_put⟩⟩⟩
          , ⟨_, rfl, fun sl hd hr ho => by
              refine r_build (parts := [(0, .tmp 50), (1, .tmp 52), (2, .tmp 55)]) rfl TD.pl110 TD.zero110 (parts_cons (hd 2 _ rfl rfl rfl) (parts_cons (hd 4 _ rfl rfl rfl) (parts_cons (hd 7 _ rfl rfl rfl) parts_nil))) rfl rfl ?_
              exact awl_nil ⟨rfl, post_put⟩⟩⟩
          , ⟨_, rfl, fun sl hd hr ho => by
              refine r_lit 57 (parts := [(0, .tmp 56)]) rfl TD.sl22 TD.sz110 TD.zraw110 rfl rfl (parts_cons (hd 8 _ rfl rfl rfl) parts_nil) rfl rfl rfl rfl ?_
              exact awl_nil ⟨rfl, (post_dem (ho 57 (List.mem_of_elem_eq_true rfl)))⟩⟩⟩
          (by rfl) ?_
        refine r_append 10 rfl (by first | exact .own _ | exact .nil) rfl (by first | exact .sl _ | exact .own _ _ | exact .nil) TD.sl22 TD.sz110 (by decide) TD.by110 TD.zlen110 (by simp [chunks] <;> omega) (by simp [chunks] <;> omega) rfl ?_
        refine r_assign rfl rfl ?_
        refine awl_nil ?_
        refine x_block ?_
        refine x_then ?_
        refine awp_region ?_
        refine r_ari _ rfl rfl rfl (wrap_id (by first | omega | (simp; omega))) rfl ?_
        refine r_move rfl rfl ?_
        refine awl_nil ?_
        refine x_then ?_
        have et := fm_step (f := cleanAt l') hp
        rw [hcl] at et
        simp only [Option.toList_some, Option.toList_none, List.append_nil] at et
        refine ⟨pl.length - (k + 1), ⟨61, [(6, .a (.v (.map (some bm)))), (10, .own 10 3 (((pl.take (k + 1)).filterMap (cleanAt l')).map Ent.cs)), (38, .a (plsA pl)), (39, .a (.v (.int .i64 ((pl.map PL.cs).length)))), (40, .a (.v (.int .i64 (((k + 1) : Int)))))], [⟨bm, true, .map (encM ekP numA m)⟩]⟩, ⟨rfl, (Slots.cons rfl (by first | exact .refl _ | exact .nilOwn _ _ | exact .nilSl _ | exact .ownSl _ _ _  | exact SV.le.ownEq (by first | rfl | (rw [et, List.map_append]; rfl) | (rw [et]; first | done | rfl)) | exact SV.le.of_eq (by first | rfl | (rw [et, List.map_append]; rfl) | (rw [et]; first | done | rfl))) (Slots.cons rfl (by first | exact .refl _ | exact .nilOwn _ _ | exact .nilSl _ | exact .ownSl _ _ _  | exact SV.le.ownEq (by first | rfl | (rw [et, List.map_append]; rfl) | (rw [et]; first | done | rfl)) | exact SV.le.of_eq (by first | rfl | (rw [et, List.map_append]; rfl) | (rw [et]; first | done | rfl))) (Slots.cons rfl (by first | exact .refl _ | exact .nilOwn _ _ | exact .nilSl _ | exact .ownSl _ _ _  | exact SV.le.ownEq (by first | rfl | (rw [et, List.map_append]; rfl) | (rw [et]; first | done | rfl)) | exact SV.le.of_eq (by first | rfl | (rw [et, List.map_append]; rfl) | (rw [et]; first | done | rfl))) (Slots.cons rfl (by first | exact .refl _ | exact .nilOwn _ _ | exact .nilSl _ | exact .ownSl _ _ _  | exact SV.le.ownEq (by first | rfl | (rw [et, List.map_append]; rfl) | (rw [et]; first | done | rfl)) | exact SV.le.of_eq (by first | rfl | (rw [et, List.map_append]; rfl) | (rw [et]; first | done | rfl))) (Slots.cons rfl (by first | exact .refl _ | exact .nilOwn _ _ | exact .nilSl _ | exact .ownSl _ _ _  | exact SV.le.ownEq (by first | rfl | (rw [et, List.map_append]; rfl) | (rw [et]; first | done | rfl)) | exact SV.le.of_eq (by first | rfl | (rw [et, List.map_append]; rfl) | (rw [et]; first | done | rfl))) Slots.nil))))), (by first | exact List.Sublist.refl _ | exact .cons_cons _ (.cons _ (.refl _)) | exact List.nil_sublist _ | exact .cons _ (.refl _) | exact .cons _ (.cons _ (.refl _)) | exact .cons _ (.cons _ (.cons _ (.refl _))) | exact .cons _ (.cons _ (.cons _ (.cons _ (.refl _)))) | exact .cons_cons _ (List.nil_sublist _))⟩, (by omega), ⟨k + 1, rfl, rfl, (by omega)⟩⟩
      ·
        have hne : shows l' p = 0 := by rw [← tells_shows ht]; simpa using hc3
        have hcl : cleanAt l' p = none := by rw [cleanAt, if_pos hne]
        refine awp_skip ?_
        refine x_block ?_
        refine x_then ?_
        refine awp_region ?_
        refine r_ari _ rfl rfl rfl (wrap_id (by first | omega | (simp; omega))) rfl ?_
        refine r_move rfl rfl ?_
        refine awl_nil ?_
        refine x_then ?_
        have et := fm_step (f := cleanAt l') hp
        rw [hcl] at et
        simp only [Option.toList_some, Option.toList_none, List.append_nil] at et
        refine ⟨pl.length - (k + 1), ⟨61, [(6, .a (.v (.map (some bm)))), (10, .own 10 3 (((pl.take (k + 1)).filterMap (cleanAt l')).map Ent.cs)), (38, .a (plsA pl)), (39, .a (.v (.int .i64 ((pl.map PL.cs).length)))), (40, .a (.v (.int .i64 (((k + 1) : Int)))))], [⟨bm, true, .map (encM ekP numA m)⟩]⟩, ⟨rfl, (Slots.cons rfl (by first | exact .refl _ | exact .nilOwn _ _ | exact .nilSl _ | exact .ownSl _ _ _  | exact SV.le.ownEq (by first | rfl | (rw [et, List.map_append]; rfl) | (rw [et]; first | done | rfl)) | exact SV.le.of_eq (by first | rfl | (rw [et, List.map_append]; rfl) | (rw [et]; first | done | rfl))) (Slots.cons rfl (by first | exact .refl _ | exact .nilOwn _ _ | exact .nilSl _ | exact .ownSl _ _ _  | exact SV.le.ownEq (by first | rfl | (rw [et, List.map_append]; rfl) | (rw [et]; first | done | rfl)) | exact SV.le.of_eq (by first | rfl | (rw [et, List.map_append]; rfl) | (rw [et]; first | done | rfl))) (Slots.cons rfl (by first | exact .refl _ | exact .nilOwn _ _ | exact .nilSl _ | exact .ownSl _ _ _  | exact SV.le.ownEq (by first | rfl | (rw [et, List.map_append]; rfl) | (rw [et]; first | done | rfl)) | exact SV.le.of_eq (by first | rfl | (rw [et, List.map_append]; rfl) | (rw [et]; first | done | rfl))) (Slots.cons rfl (by first | exact .refl _ | exact .nilOwn _ _ | exact .nilSl _ | exact .ownSl _ _ _  | exact SV.le.ownEq (by first | rfl | (rw [et, List.map_append]; rfl) | (rw [et]; first | done | rfl)) | exact SV.le.of_eq (by first | rfl | (rw [et, List.map_append]; rfl) | (rw [et]; first | done | rfl))) (Slots.cons rfl (by first | exact .refl _ | exact .nilOwn _ _ | exact .nilSl _ | exact .ownSl _ _ _  | exact SV.le.ownEq (by first | rfl | (rw [et, List.map_append]; rfl) | (rw [et]; first | done | rfl)) | exact SV.le.of_eq (by first | rfl | (rw [et, List.map_append]; rfl) | (rw [et]; first | done | rfl))) Slots.nil))))), (by first | exact List.Sublist.refl _ | exact .cons_cons _ (.cons _ (.refl _)) | exact List.nil_sublist _ | exact .cons _ (.refl _) | exact .cons _ (.cons _ (.refl _)) | exact .cons _ (.cons _ (.cons _ (.refl _))) | exact .cons _ (.cons _ (.cons _ (.cons _ (.refl _)))) | exact .cons_cons _ (List.nil_sublist _))⟩, (by omega), ⟨k + 1, rfl, rfl, (by omega)⟩⟩
    ·
      have hge : pl.length ≤ k := by have := of_decide_eq_false hc2; simp at this; omega
      have hkl2 : pl.take k = pl := List.take_of_length_le hge
      refine awp_exit ?_
      refine x_thenE ?_
      refine x_thenE ?_
      refine x_blockE ?_
      refine x_then ?_
      refine awp_seq ?_
      refine awp_region ?_
      refine r_move rfl rfl ?_
      refine r_assign rfl rfl ?_
      refine r_assign rfl rfl ?_
      refine awl_nil ?_
      refine x_then ?_
      refine awp_ret ?_
      exact ⟨(.inl rfl), _, [], (.two (by first | exact .mk rfl rfl | exact .nil rfl) (by first | exact .mk rfl rfl | exact .nil rfl)), ⟨rfl, .inl ⟨l', ha', by rw [hkl2, hpl]; rfl⟩⟩, (List.nil_sublist _), (by simp)⟩

end Go.Proofs.Ytaglbmgpdoophaa.A

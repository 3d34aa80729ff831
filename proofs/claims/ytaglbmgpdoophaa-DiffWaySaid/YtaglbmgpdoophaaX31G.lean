/- Layer 31: Entries, handed over; the document's examples. -/
import Derived.Test.YtaglbmgpdoophaaProg
import Derived.KernelRfl
import Derived.Test.YtaglbmgpdoophaaX31F
import Derived.Test.YtaglbmgpdoophaaY
namespace Go.Proofs.Ytaglbmgpdoophaa.A
open Go Go.RowKit
set_option linter.unusedVariables false
set_option linter.unusedSimpArgs false
set_option maxRecDepth 100000

theorem TD.en24 : entersT Try.prog 24 := enters_of Try.func24 (by kernel_rfl) (by kernel_rfl)
theorem TD.en28 : entersT Try.prog 28 := enters_of Try.func28 (by kernel_rfl) (by kernel_rfl)
theorem TD.mix112 : MixT Try.prog 112 [.i64, .i64, .u64, .u64] := ⟨by kernel_rfl, by kernel_rfl, by kernel_rfl, by kernel_rfl⟩
theorem TD.en30 : entersT Try.prog 30 := enters_of Try.func30 (by kernel_rfl) (by kernel_rfl)

def GrowX (sz : Nat) (l : List (List AV)) (r : AV) (n : List OE) : Prop :=
  (l = [] ∧ r = .v (.slice none 0 0) ∧ n = []) ∨ ∃ g cap e, r = .v (.slice (some ⟨g, 0, none⟩) l.length cap) ∧ n = [⟨g, true, .buf sz l cap e⟩]

set_option maxHeartbeats 1000000 in
theorem entriesG_ok (a b : List Ent) (hla : a.length ≤ 1000) (hlb : b.length ≤ 1000) : AC Try.prog 24 [entsA a, entsA b] [] (fun r n => GrowX 4 ((entriesF a b).map Chg.cs) r n) := by
  refine ac_of_awp (rs := [4]) (nt := 50) Try.func24 rfl rfl rfl rfl (fun w0 C0 hq => ?_)
  refine awp_seq ?_
  refine awp_region ?_
  refine r_assign rfl rfl ?_
  refine awl_nil ?_
  refine x_then ?_
  refine awp_seq ?_
  refine awp_region ?_
  refine r_move rfl rfl ?_
  refine r_callO hq rfl rfl (.cons (.ev rfl rfl) .nil) (told_map a (by omega)) rfl TD.en64 (List.nil_sublist _) rfl (fun r nobjs hr => ?_)
  obtain ⟨bx, mx, rfl, rfl, htx⟩ := hr
  refine r_move rfl rfl ?_
  refine r_callO hq rfl rfl (.cons (.ev rfl rfl) .nil) (told_map b (by omega)) rfl TD.en64 (List.nil_sublist _) rfl (fun r nobjs hr => ?_)
  obtain ⟨by_, my, rfl, rfl, hty⟩ := hr
  refine r_assign rfl rfl ?_
  refine r_assign rfl rfl ?_
  refine awl_nil ?_
  refine x_then ?_
  refine awp_seq ?_
  refine awp_region ?_
  refine r_move rfl rfl ?_
  refine r_callO hq rfl rfl (.cons (.ev rfl rfl) .nil) (clone65 (es := encM ekP numA mx)) rfl TD.en65 (.cons _ (.refl _)) rfl (fun r nobjs hr => ?_)
  obtain ⟨bz, rfl, rfl⟩ := hr
  refine r_assign rfl rfl ?_
  refine awl_nil ?_
  refine x_then ?_
  refine awp_seq ?_
  refine awp_region ?_
  refine r_move rfl rfl ?_
  refine r_move rfl rfl ?_
  refine r_callW hq [true, false, false] rfl rfl (.cons (.ev rfl rfl) (.cons (.ev rfl rfl) .nil)) (copy_okD mx my) rfl TD.en66 rfl rfl (.cons_cons _ (List.nil_sublist _)) rfl (fun r nobjs hr => ?_)
  obtain ⟨rfl, es, hes, rfl⟩ := hr
  have hall : AllOf (List.foldl (fun (m : List (PL × Int)) (e : PL × Int) => mset m e.1 e.2) mx es) [a, b] := tells_step (tells_all htx hla) hes hty hlb
  have hml : (List.foldl (fun (m : List (PL × Int)) (e : PL × Int) => mset m e.1 e.2) mx es).length ≤ 1000000 := by have := hall.len; simp at this; omega
  refine awl_nil ?_
  refine x_then ?_
  refine awp_seq ?_
  refine awp_region ?_
  refine r_assign rfl rfl ?_
  refine awl_nil ?_
  refine x_then ?_
  refine awp_seq ?_
  refine awp_seq ?_
  refine awp_region ?_
  refine r_move rfl rfl ?_
  refine r_callO hq rfl rfl (.cons (.ev rfl rfl) .nil) (order_ok (List.foldl (fun (m : List (PL × Int)) (e : PL × Int) => mset m e.1 e.2) mx es) hml) rfl TD.en67 (.cons_cons _ (List.nil_sublist _)) rfl (fun r nobjs hr => ?_)
  obtain ⟨rfl, kl, hkl, hr2⟩ := hr
  rw [allOf_places hall hkl] at hr2
  obtain ⟨pl, hpl⟩ : ∃ pl, pl = placesF [a, b] := ⟨_, rfl⟩
  rw [← hpl] at hr2
  obtain rfl := hr2
  have hpll : pl.length ≤ 2000 := by rw [hpl]; have := places_len [a, b]; simp at this; omega
  first | (refine r_lenS rfl rfl TD.sl120 rfl ?_) | (refine r_lenNil rfl TD.sl120 rfl ?_)
  refine r_move rfl rfl ?_
  refine awl_nil ?_
  refine x_then ?_
  refine awp_block ?_
  refine awp_loop (fun nn0 S => ∃ k : Nat, S = ⟨50, [(5, .a (.v (.map (some bx)))), (6, .a (.v (.map (some by_)))), (8, .own 8 4 (((pl.take k).filterMap (chgAt a b)).map Chg.cs)), (21, .a (plsA pl)), (22, .a (.v (.int .i64 ((pl.map PL.cs).length)))), (23, .a (.v (.int .i64 ((k : Int)))))], [⟨bz, true, .map (encM ekP numA (List.foldl (fun (m : List (PL × Int)) (e : PL × Int) => mset m e.1 e.2) mx es))⟩, ⟨by_, true, .map (encM ekP numA my)⟩, ⟨bx, true, .map (encM ekP numA mx)⟩]⟩ ∧ nn0 = pl.length - k ∧ (k ≤ pl.length)) (pl.length - (0)) ⟨50, [(5, .a (.v (.map (some bx)))), (6, .a (.v (.map (some by_)))), (8, .own 8 4 (((pl.take (0)).filterMap (chgAt a b)).map Chg.cs)), (21, .a (plsA pl)), (22, .a (.v (.int .i64 ((pl.map PL.cs).length)))), (23, .a (.v (.int .i64 (((0) : Int)))))], [⟨bz, true, .map (encM ekP numA (List.foldl (fun (m : List (PL × Int)) (e : PL × Int) => mset m e.1 e.2) mx es))⟩, ⟨by_, true, .map (encM ekP numA my)⟩, ⟨bx, true, .map (encM ekP numA mx)⟩]⟩ ⟨rfl, (Slots.cons rfl (by first | exact .refl _ | exact .nilOwn _ _ | exact .nilSl _ | exact .ownSl _ _ _  | exact SV.le.of_eq (by simp)) (Slots.cons rfl (by first | exact .refl _ | exact .nilOwn _ _ | exact .nilSl _ | exact .ownSl _ _ _  | exact SV.le.of_eq (by simp)) (Slots.cons rfl (by first | exact .refl _ | exact .nilOwn _ _ | exact .nilSl _ | exact .ownSl _ _ _  | exact SV.le.of_eq (by simp)) (Slots.cons rfl (by first | exact .refl _ | exact .nilOwn _ _ | exact .nilSl _ | exact .ownSl _ _ _  | exact SV.le.of_eq (by simp)) (Slots.cons rfl (by first | exact .refl _ | exact .nilOwn _ _ | exact .nilSl _ | exact .ownSl _ _ _  | exact SV.le.of_eq (by simp)) (Slots.cons rfl (by first | exact .refl _ | exact .nilOwn _ _ | exact .nilSl _ | exact .ownSl _ _ _  | exact SV.le.of_eq (by simp)) Slots.nil)))))), (by first | exact List.Sublist.refl _ | exact .cons_cons _ (.cons _ (.refl _)) | exact List.nil_sublist _ | exact .cons _ (.refl _) | exact .cons _ (.cons _ (.refl _)) | exact .cons _ (.cons _ (.cons _ (.refl _))) | exact .cons _ (.cons _ (.cons _ (.cons _ (.refl _)))) | exact .cons_cons _ (List.nil_sublist _))⟩ ⟨0, rfl, rfl, Nat.zero_le _⟩ ?_
  rintro nn0 _ ⟨k, rfl, rfl, hk⟩
  refine awp_seq ?_
  refine awp_region ?_
  refine r_cmp rfl rfl rfl rfl ?_
  refine awl_nil ?_
  refine x_then ?_
  refine awp_seq ?_
  refine awp_cond rfl (fun hc0 => ?_) (fun hc0 => ?_)
  ·
    have hlt : k < pl.length := by have := of_decide_eq_true hc0; simpa using this
    obtain ⟨p, hp⟩ := get_lt hlt
    have hf : ((pl.take k).filterMap (chgAt a b)).length ≤ k := Nat.le_trans (List.length_filterMap_le _ _) (by simp; omega)
    refine awp_skip ?_
    refine x_then ?_
    refine awp_seq ?_
    refine awp_block ?_
    refine awp_seq ?_
    refine awp_region ?_
    refine r_index rfl rfl rfl TD.sl120 TD.sz118 (by omega) (get_map hp) rfl ?_
    first | (refine r_loadA rfl TD.agg118 TD.sz118 rfl rfl ?_) | (refine r_loadAb 0 rfl rfl TD.agg118 TD.sz118 rfl rfl ?_) | (refine r_loadAb 1 rfl rfl TD.agg118 TD.sz118 rfl rfl ?_) | (refine r_loadAb 2 rfl rfl TD.agg118 TD.sz118 rfl rfl ?_)
    refine r_alloc TD.zero118 rfl (fun b10 => ?_)
    first | (refine r_store 0 rfl rfl rfl TD.sz118 rfl rfl rfl ?_) | (refine r_store 1 rfl rfl rfl TD.sz118 rfl rfl rfl ?_) | (refine r_store 2 rfl rfl rfl TD.sz118 rfl rfl rfl ?_) | (refine r_store 3 rfl rfl rfl TD.sz118 rfl rfl rfl ?_)
    refine awl_nil ?_
    refine x_then ?_
    refine awp_seq ?_
    refine awp_drawS [27, 28, 29, 30, 31, 32] [_, _, _, _, _, _] [] [] TD.mixed rfl rfl rfl ⟨⟨⟨⟨⟨⟨trivial
      , ⟨_, rfl, fun sl hd hr ho => by
          refine r_move (hr 5 _ rfl rfl rfl) rfl ?_
          exact awl_nil ⟨rfl, post_put⟩⟩⟩
      , ⟨_, rfl, fun sl hd hr ho => by
          refine r_loadAb 0 (hr 10 _ rfl rfl rfl) rfl TD.agg118 TD.sz118 rfl rfl ?_
          exact awl_nil ⟨rfl, post_put⟩⟩⟩
      , ⟨_, rfl, fun sl hd hr ho => by
          refine r_lookupK 3 keyPD (ev := numA) (k := p) 0 (hd 0 _ rfl rfl rfl) rfl (hd 1 _ rfl rfl rfl) (isVal_pl p) TD.map114 TD.zav79 rfl ?_
          exact awl_nil ⟨rfl, post_put⟩⟩⟩
      , ⟨_, rfl, fun sl hd hr ho => by
          refine r_move (hr 6 _ rfl rfl rfl) rfl ?_
          exact awl_nil ⟨rfl, post_put⟩⟩⟩
      , ⟨_, rfl, fun sl hd hr ho => by
          refine r_loadAb 0 (hr 10 _ rfl rfl rfl) rfl TD.agg118 TD.sz118 rfl rfl ?_
          exact awl_nil ⟨rfl, post_put⟩⟩⟩
      , ⟨_, rfl, fun sl hd hr ho => by
          refine r_lookupK 2 keyPD (ev := numA) (k := p) 0 (hd 3 _ rfl rfl rfl) rfl (hd 4 _ rfl rfl rfl) (isVal_pl p) TD.map114 TD.zav79 rfl ?_
          exact awl_nil ⟨rfl, post_put⟩⟩⟩
      (by rfl) ?_
    refine r_cmp rfl rfl rfl rfl ?_
    refine awl_nil ?_
    refine x_then ?_
    refine awp_cond rfl (fun hc1 => ?_) (fun hc1 => ?_)
    ·
      have hne : ¬ shows a p = shows b p := by rw [← tells_shows htx, ← tells_shows hty]; simpa using hc1
      have ht : chgAt a b p = some ⟨p.1, p.2, (mget mx p).getD 0, (mget my p).getD 0⟩ := by rw [chgAt, if_neg hne, tells_shows htx, tells_shows hty]
      refine awp_drawS [34, 35, 36, 37, 38, 39, 40, 41, 42, 43, 44, 45, 46] [_, _, _, _, _, _, _, _, _, _, _, _, _] [] [(12, 46)] TD.mixed rfl rfl rfl ⟨⟨⟨⟨⟨⟨⟨⟨⟨⟨⟨⟨⟨trivial
        , ⟨_, rfl, fun sl hd hr ho => by
            refine r_move (hr 8 _ rfl rfl rfl) rfl ?_
            exact awl_nil ⟨rfl, post_put⟩⟩⟩
        , ⟨_, rfl, fun sl hd hr ho => by
            refine r_indexArrB (hr 10 _ rfl rfl rfl) rfl TD.un118 TD.sz3 (by decide) (by decide) rfl ?_
            exact awl_nil ⟨rfl, post_put⟩⟩⟩
        , ⟨_, rfl, fun sl hd hr ho => by
            refine r_load1b 0 (hd 1 _ rfl rfl rfl) rfl rfl TD.agg3 rfl ?_
            exact awl_nil ⟨rfl, post_put⟩⟩⟩
        , ⟨_, rfl, fun sl hd hr ho => by
            refine r_indexArrB (hr 10 _ rfl rfl rfl) rfl TD.un118 TD.sz3 (by decide) (by decide) rfl ?_
            exact awl_nil ⟨rfl, post_put⟩⟩⟩
        , ⟨_, rfl, fun sl hd hr ho => by
            refine r_load1b 0 (hd 3 _ rfl rfl rfl) rfl rfl TD.agg3 rfl ?_
            exact awl_nil ⟨rfl, post_put⟩⟩⟩
        , ⟨_, rfl, fun sl hd hr ho => by
            refine r_move (hr 5 _ rfl rfl rfl) rfl ?_
            exact awl_nil ⟨rfl, post_put⟩⟩⟩
        , ⟨_, rfl, fun sl hd hr ho => by
            refine r_loadAb 0 (hr 10 _ rfl rfl rfl) rfl TD.agg118 TD.sz118 rfl rfl ?_
            exact awl_nil ⟨rfl, post_put⟩⟩⟩
        , ⟨_, rfl, fun sl hd hr ho => by
            refine r_lookupK 3 keyPD (ev := numA) (k := p) 0 (hd 5 _ rfl rfl rfl) rfl (hd 6 _ rfl rfl rfl) (isVal_pl p) TD.map114 TD.zav79 rfl ?_
            exact awl_nil ⟨rfl, post_put⟩⟩⟩
        , ⟨_, rfl, fun sl hd hr ho => by
            refine r_move (hr 6 _ rfl rfl rfl) rfl ?_
            exact awl_nil ⟨rfl, post_put⟩⟩⟩
        , ⟨_, rfl, fun sl hd hr ho => by
            refine r_loadAb 0 (hr 10 _ rfl rfl rfl) rfl TD.agg118 TD.sz118 rfl rfl ?_
            exact awl_nil ⟨rfl, post_put⟩⟩⟩
        , ⟨_, rfl, fun sl hd hr ho => by
            refine r_lookupK 2 keyPD (ev := numA) (k := p) 0 (hd 8 _ rfl rfl rfl) rfl (hd 9 _ rfl rfl rfl) (isVal_pl p) TD.map114 TD.zav79 rfl ?_
            exact awl_nil ⟨rfl, post_put⟩⟩⟩
        , ⟨_, rfl, fun sl hd hr ho => by
            refine r_build (parts := [(0, .tmp 36), (1, .tmp 38), (2, .tmp 41), (3, .tmp 44)]) rfl TD.pl112 TD.zero112 (parts_cons (hd 2 _ rfl rfl rfl) (parts_cons (hd 4 _ rfl rfl rfl) (parts_cons (hd 7 _ rfl rfl rfl) (parts_cons (hd 10 _ rfl rfl rfl) parts_nil)))) rfl rfl ?_
            exact awl_nil ⟨rfl, post_put⟩⟩⟩
        , ⟨_, rfl, fun sl hd hr ho => by
            refine r_lit 46 (parts := [(0, .tmp 45)]) rfl TD.sl27 TD.sz112 TD.zraw112 rfl rfl (parts_cons (hd 11 _ rfl rfl rfl) parts_nil) rfl rfl rfl rfl ?_
            exact awl_nil ⟨rfl, (post_dem (ho 46 (List.mem_of_elem_eq_true rfl)))⟩⟩⟩
        (by rfl) ?_
      refine r_append 8 rfl (by first | exact .own _ | exact .nil) rfl (by first | exact .sl _ | exact .own _ _ | exact .nil) TD.sl27 TD.sz112 (by decide) TD.by112 TD.zlen112 (by simp [chunks] <;> omega) (by simp [chunks] <;> omega) rfl ?_
      refine r_assign rfl rfl ?_
      refine awl_nil ?_
      refine x_block ?_
      refine x_then ?_
      refine awp_region ?_
      refine r_ari _ rfl rfl rfl (wrap_id (by first | omega | (simp; omega))) rfl ?_
      refine r_move rfl rfl ?_
      refine awl_nil ?_
      refine x_then ?_
      have et := fm_step (f := chgAt a b) hp
      rw [ht] at et
      simp only [Option.toList_some, Option.toList_none, List.append_nil] at et
      refine ⟨pl.length - (k + 1), ⟨50, [(5, .a (.v (.map (some bx)))), (6, .a (.v (.map (some by_)))), (8, .own 8 4 (((pl.take (k + 1)).filterMap (chgAt a b)).map Chg.cs)), (21, .a (plsA pl)), (22, .a (.v (.int .i64 ((pl.map PL.cs).length)))), (23, .a (.v (.int .i64 (((k + 1) : Int)))))], [⟨bz, true, .map (encM ekP numA (List.foldl (fun (m : List (PL × Int)) (e : PL × Int) => mset m e.1 e.2) mx es))⟩, ⟨by_, true, .map (encM ekP numA my)⟩, ⟨bx, true, .map (encM ekP numA mx)⟩]⟩, ⟨rfl, (Slots.cons rfl (by first | exact .refl _ | exact .nilOwn _ _ | exact .nilSl _ | exact .ownSl _ _ _  | exact SV.le.ownEq (by first | rfl | (rw [et, List.map_append]; rfl) | (rw [et]; first | done | rfl)) | exact SV.le.of_eq (by first | rfl | (rw [et, List.map_append]; rfl) | (rw [et]; first | done | rfl))) (Slots.cons rfl (by first | exact .refl _ | exact .nilOwn _ _ | exact .nilSl _ | exact .ownSl _ _ _  | exact SV.le.ownEq (by first | rfl | (rw [et, List.map_append]; rfl) | (rw [et]; first | done | rfl)) | exact SV.le.of_eq (by first | rfl | (rw [et, List.map_append]; rfl) | (rw [et]; first | done | rfl))) (Slots.cons rfl (by first | exact .refl _ | exact .nilOwn _ _ | exact .nilSl _ | exact .ownSl _ _ _  | exact SV.le.ownEq (by first | rfl | (rw [et, List.map_append]; rfl) | (rw [et]; first | done | rfl)) | exact SV.le.of_eq (by first | rfl | (rw [et, List.map_append]; rfl) | (rw [et]; first | done | rfl))) (Slots.cons rfl (by first | exact .refl _ | exact .nilOwn _ _ | exact .nilSl _ | exact .ownSl _ _ _  | exact SV.le.ownEq (by first | rfl | (rw [et, List.map_append]; rfl) | (rw [et]; first | done | rfl)) | exact SV.le.of_eq (by first | rfl | (rw [et, List.map_append]; rfl) | (rw [et]; first | done | rfl))) (Slots.cons rfl (by first | exact .refl _ | exact .nilOwn _ _ | exact .nilSl _ | exact .ownSl _ _ _  | exact SV.le.ownEq (by first | rfl | (rw [et, List.map_append]; rfl) | (rw [et]; first | done | rfl)) | exact SV.le.of_eq (by first | rfl | (rw [et, List.map_append]; rfl) | (rw [et]; first | done | rfl))) (Slots.cons rfl (by first | exact .refl _ | exact .nilOwn _ _ | exact .nilSl _ | exact .ownSl _ _ _  | exact SV.le.ownEq (by first | rfl | (rw [et, List.map_append]; rfl) | (rw [et]; first | done | rfl)) | exact SV.le.of_eq (by first | rfl | (rw [et, List.map_append]; rfl) | (rw [et]; first | done | rfl))) Slots.nil)))))), (by first | exact List.Sublist.refl _ | exact .cons_cons _ (.cons _ (.refl _)) | exact List.nil_sublist _ | exact .cons _ (.refl _) | exact .cons _ (.cons _ (.refl _)) | exact .cons _ (.cons _ (.cons _ (.refl _))) | exact .cons _ (.cons _ (.cons _ (.cons _ (.refl _)))) | exact .cons_cons _ (List.nil_sublist _))⟩, (by omega), ⟨k + 1, rfl, rfl, (by omega)⟩⟩
    ·
      have hne : shows a p = shows b p := by rw [← tells_shows htx, ← tells_shows hty]; simpa using hc1
      have ht : chgAt a b p = none := by rw [chgAt, if_pos hne]
      refine awp_skip ?_
      refine x_block ?_
      refine x_then ?_
      refine awp_region ?_
      refine r_ari _ rfl rfl rfl (wrap_id (by first | omega | (simp; omega))) rfl ?_
      refine r_move rfl rfl ?_
      refine awl_nil ?_
      refine x_then ?_
      have et := fm_step (f := chgAt a b) hp
      rw [ht] at et
      simp only [Option.toList_some, Option.toList_none, List.append_nil] at et
      refine ⟨pl.length - (k + 1), ⟨50, [(5, .a (.v (.map (some bx)))), (6, .a (.v (.map (some by_)))), (8, .own 8 4 (((pl.take (k + 1)).filterMap (chgAt a b)).map Chg.cs)), (21, .a (plsA pl)), (22, .a (.v (.int .i64 ((pl.map PL.cs).length)))), (23, .a (.v (.int .i64 (((k + 1) : Int)))))], [⟨bz, true, .map (encM ekP numA (List.foldl (fun (m : List (PL × Int)) (e : PL × Int) => mset m e.1 e.2) mx es))⟩, ⟨by_, true, .map (encM ekP numA my)⟩, ⟨bx, true, .map (encM ekP numA mx)⟩]⟩, ⟨rfl, (Slots.cons rfl (by first | exact .refl _ | exact .nilOwn _ _ | exact .nilSl _ | exact .ownSl _ _ _  | exact SV.le.ownEq (by first | rfl | (rw [et, List.map_append]; rfl) | (rw [et]; first | done | rfl)) | exact SV.le.of_eq (by first | rfl | (rw [et, List.map_append]; rfl) | (rw [et]; first | done | rfl))) (Slots.cons rfl (by first | exact .refl _ | exact .nilOwn _ _ | exact .nilSl _ | exact .ownSl _ _ _  | exact SV.le.ownEq (by first | rfl | (rw [et, List.map_append]; rfl) | (rw [et]; first | done | rfl)) | exact SV.le.of_eq (by first | rfl | (rw [et, List.map_append]; rfl) | (rw [et]; first | done | rfl))) (Slots.cons rfl (by first | exact .refl _ | exact .nilOwn _ _ | exact .nilSl _ | exact .ownSl _ _ _  | exact SV.le.ownEq (by first | rfl | (rw [et, List.map_append]; rfl) | (rw [et]; first | done | rfl)) | exact SV.le.of_eq (by first | rfl | (rw [et, List.map_append]; rfl) | (rw [et]; first | done | rfl))) (Slots.cons rfl (by first | exact .refl _ | exact .nilOwn _ _ | exact .nilSl _ | exact .ownSl _ _ _  | exact SV.le.ownEq (by first | rfl | (rw [et, List.map_append]; rfl) | (rw [et]; first | done | rfl)) | exact SV.le.of_eq (by first | rfl | (rw [et, List.map_append]; rfl) | (rw [et]; first | done | rfl))) (Slots.cons rfl (by first | exact .refl _ | exact .nilOwn _ _ | exact .nilSl _ | exact .ownSl _ _ _  | exact SV.le.ownEq (by first | rfl | (rw [et, List.map_append]; rfl) | (rw [et]; first | done | rfl)) | exact SV.le.of_eq (by first | rfl | (rw [et, List.map_append]; rfl) | (rw [et]; first | done | rfl))) (Slots.cons rfl (by first | exact .refl _ | exact .nilOwn _ _ | exact .nilSl _ | exact .ownSl _ _ _  | exact SV.le.ownEq (by first | rfl | (rw [et, List.map_append]; rfl) | (rw [et]; first | done | rfl)) | exact SV.le.of_eq (by first | rfl | (rw [et, List.map_append]; rfl) | (rw [et]; first | done | rfl))) Slots.nil)))))), (by first | exact List.Sublist.refl _ | exact .cons_cons _ (.cons _ (.refl _)) | exact List.nil_sublist _ | exact .cons _ (.refl _) | exact .cons _ (.cons _ (.refl _)) | exact .cons _ (.cons _ (.cons _ (.refl _))) | exact .cons _ (.cons _ (.cons _ (.cons _ (.refl _)))) | exact .cons_cons _ (List.nil_sublist _))⟩, (by omega), ⟨k + 1, rfl, rfl, (by omega)⟩⟩
  ·
    have hge : pl.length ≤ k := by have := of_decide_eq_false hc0; simp at this; omega
    have hkl2 : pl.take k = pl := List.take_of_length_le hge
    refine awp_exit ?_
    refine x_thenE ?_
    refine x_thenE ?_
    refine x_blockE ?_
    refine x_then ?_
    refine awp_seq ?_
    refine awp_region ?_
    rw [hkl2, hpl]
    refine r_move rfl rfl ?_
    refine awl_ownbuf 49 rfl (fun cs hcs c hc => by obtain ⟨x, _, rfl⟩ := List.mem_map.1 hcs; simp [Chg.cs] at hc; rcases hc with rfl | rfl | rfl | rfl <;> exact ⟨_, rfl⟩) rfl (fun h0 => ?_) (fun gb gc ge => ?_)
    ·
      refine r_assign rfl rfl ?_
      refine awl_nil ?_
      refine x_then ?_
      refine awp_ret ?_
      exact ⟨(.inl rfl), _, [], (.one (by first | exact .mk rfl rfl | exact .nil rfl)), (.inl ⟨h0, rfl, rfl⟩), (List.nil_sublist _), (by simp)⟩
    ·
      refine r_assign rfl rfl ?_
      refine awl_nil ?_
      refine x_then ?_
      refine awp_ret ?_
      exact ⟨(.inl rfl), _, [⟨gb, true, .buf 4 ((entriesF a b).map Chg.cs) gc ge⟩], (.one (by first | exact .mk rfl rfl | exact .nil rfl)), (.inr ⟨gb, gc, ge, rfl, rfl⟩), (by first | exact List.Sublist.refl _ | exact .cons_cons _ (.cons _ (.refl _)) | exact List.nil_sublist _ | exact .cons _ (.refl _) | exact .cons _ (.cons _ (.refl _)) | exact .cons _ (.cons _ (.cons _ (.refl _))) | exact .cons _ (.cons _ (.cons _ (.cons _ (.refl _)))) | exact .cons_cons _ (List.nil_sublist _)), (by simp)⟩

theorem awake_ok : AC Try.prog 21 [] [] (fun r n => n = [] ∧ r = bA true) := by
  refine ac_of_awp (rs := [0]) (nt := 75) Try.func21 rfl rfl rfl rfl (fun w0 C0 hq => ?_)
  refine awp_seq ?_
  refine awp_region ?_
  refine r_assign rfl rfl ?_
  refine awl_nil ?_
  refine x_then ?_
  refine awp_seq ?_
  refine awp_region ?_
  refine r_build (parts := [(1, .const ((Go.Value.int Go.IntKind.i64 1))), (2, .const ((Go.Value.int Go.IntKind.u64 5)))]) rfl TD.pl110 TD.zero110 rfl rfl rfl ?_
  refine r_lit 7 (parts := [(0, .tmp 6)]) rfl TD.sl22 TD.sz110 TD.zraw110 rfl rfl rfl rfl rfl rfl rfl ?_
  refine r_build (parts := [(1, .const ((Go.Value.int Go.IntKind.i64 1))), (2, .const ((Go.Value.int Go.IntKind.u64 7)))]) rfl TD.pl110 TD.zero110 rfl rfl rfl ?_
  refine r_build (parts := [(1, .const ((Go.Value.int Go.IntKind.i64 2))), (2, .const ((Go.Value.int Go.IntKind.u64 3)))]) rfl TD.pl110 TD.zero110 rfl rfl rfl ?_
  refine r_lit 10 (parts := [(0, .tmp 8), (1, .tmp 9)]) rfl TD.sl22 TD.sz110 TD.zraw110 rfl rfl rfl rfl rfl rfl rfl ?_
  refine r_call0 hq rfl rfl (.cons (.ev rfl rfl) (.cons (.ev rfl rfl) .nil)) (entries_ok [⟨0, 1, 5⟩] [⟨0, 1, 7⟩, ⟨0, 2, 3⟩] (by simp) (by simp)) rfl TD.en24 rfl (fun r hr => ?_)
  obtain rfl := hr
  rw [show entriesF [⟨0, 1, 5⟩] [⟨0, 1, 7⟩, ⟨0, 2, 3⟩] = [⟨0, 1, 5, 7⟩, ⟨0, 2, 0, 3⟩] from by decide]
  refine r_assign rfl rfl ?_
  refine awl_nil ?_
  refine x_then ?_
  refine awp_seq ?_
  refine awp_region ?_
  refine r_build (parts := [(1, .const ((Go.Value.int Go.IntKind.i64 1))), (2, .const ((Go.Value.int Go.IntKind.u64 5)))]) rfl TD.pl110 TD.zero110 rfl rfl rfl ?_
  refine r_lit 14 (parts := [(0, .tmp 13)]) rfl TD.sl22 TD.sz110 TD.zraw110 rfl rfl rfl rfl rfl rfl rfl ?_
  refine r_move rfl rfl ?_
  refine r_call0 hq rfl rfl (.cons (.ev rfl rfl) (.cons (.ev rfl rfl) .nil)) (apply_ok [⟨0, 1, 5⟩] [⟨0, 1, 5, 7⟩, ⟨0, 2, 0, 3⟩] (by simp) (by simp)) rfl TD.en28 rfl (fun r hr => ?_)
  obtain rfl : r = .tup [entsA [⟨0, 1, 7⟩, ⟨0, 2, 3⟩], .v (.int .i64 0)] := by
    rcases hr with ⟨l', h1, h2⟩ | ⟨h1, _⟩
    · rw [show applyF [⟨0, 1, 5⟩] [⟨0, 1, 5, 7⟩, ⟨0, 2, 0, 3⟩] = some [⟨0, 2, 3⟩, ⟨0, 1, 7⟩, ⟨0, 1, 5⟩] from by decide] at h1
      cases h1
      rw [h2, show cleanF [⟨0, 2, 3⟩, ⟨0, 1, 7⟩, ⟨0, 1, 5⟩] = [⟨0, 1, 7⟩, ⟨0, 2, 3⟩] from by decide]
    · rw [show applyF [⟨0, 1, 5⟩] [⟨0, 1, 5, 7⟩, ⟨0, 2, 0, 3⟩] = some [⟨0, 2, 3⟩, ⟨0, 1, 7⟩, ⟨0, 1, 5⟩] from by decide] at h1; cases h1
  refine r_move rfl rfl ?_
  refine r_extract rfl rfl rfl ?_
  refine r_extract rfl rfl rfl ?_
  refine r_assign rfl rfl ?_
  refine r_assign rfl rfl ?_
  refine awl_nil ?_
  refine x_then ?_
  refine awp_seq ?_
  refine awp_region ?_
  refine r_move rfl rfl ?_
  refine r_call0 hq rfl rfl (.cons (.nil rfl) (.cons (.ev rfl rfl) .nil)) (apply_ok [] [⟨0, 1, 5, 7⟩, ⟨0, 2, 0, 3⟩] (by simp) (by simp)) rfl TD.en28 rfl (fun r hr => ?_)
  obtain rfl : r = .tup [.v (.slice none 0 0), .v (.int .i64 7)] := by
    rcases hr with ⟨l', h1, h2⟩ | ⟨_, h2⟩
    · rw [show applyF [] [⟨0, 1, 5, 7⟩, ⟨0, 2, 0, 3⟩] = none from by decide] at h1; cases h1
    · exact h2
  refine r_move rfl rfl ?_
  refine r_extract rfl rfl rfl ?_
  refine r_extract rfl rfl rfl ?_
  refine r_assign rfl rfl ?_
  refine r_assign rfl rfl ?_
  refine awl_nil ?_
  refine x_then ?_
  refine awp_seq ?_
  refine awp_region ?_
  refine r_move rfl rfl ?_
  first | (refine r_lenS rfl rfl TD.sl27 rfl ?_) | (refine r_lenNil rfl TD.sl27 rfl ?_)
  refine r_cmp rfl rfl rfl rfl ?_
  refine r_move rfl rfl ?_
  refine g_run rfl rfl rfl ?_
  refine r_move rfl rfl ?_
  refine g_run rfl rfl rfl ?_
  refine r_index rfl rfl rfl TD.sl27 TD.sz112 (by decide) rfl rfl ?_
  refine g_run rfl rfl rfl ?_
  refine r_loadA rfl TD.agg112 TD.sz112 rfl rfl ?_
  refine g_run rfl rfl rfl ?_
  refine r_build (parts := [(1, .const ((Go.Value.int Go.IntKind.i64 1))), (2, .const ((Go.Value.int Go.IntKind.u64 5))), (3, .const ((Go.Value.int Go.IntKind.u64 7)))]) rfl TD.pl112 TD.zero112 rfl rfl rfl ?_
  refine g_run rfl rfl rfl ?_
  refine r_seq (us := [0, 1, 5, 7]) (vs := [0, 1, 5, 7]) rfl rfl TD.mix112 (isVal_cells rfl) (isVal_cells rfl) rfl rfl rfl ?_
  refine r_pickT rfl rfl rfl rfl ?_
  refine r_move rfl rfl ?_
  refine g_run rfl rfl rfl ?_
  refine r_move rfl rfl ?_
  refine g_run rfl rfl rfl ?_
  refine r_index rfl rfl rfl TD.sl27 TD.sz112 (by decide) rfl rfl ?_
  refine g_run rfl rfl rfl ?_
  refine r_loadA rfl TD.agg112 TD.sz112 rfl rfl ?_
  refine g_run rfl rfl rfl ?_
  refine r_build (parts := [(1, .const ((Go.Value.int Go.IntKind.i64 2))), (3, .const ((Go.Value.int Go.IntKind.u64 3)))]) rfl TD.pl112 TD.zero112 rfl rfl rfl ?_
  refine g_run rfl rfl rfl ?_
  refine r_seq (us := [0, 2, 0, 3]) (vs := [0, 2, 0, 3]) rfl rfl TD.mix112 (isVal_cells rfl) (isVal_cells rfl) rfl rfl rfl ?_
  refine r_pickT rfl rfl rfl rfl ?_
  refine r_move rfl rfl ?_
  refine g_run rfl rfl rfl ?_
  refine r_move rfl rfl ?_
  refine g_run rfl rfl rfl ?_
  refine r_cmp rfl rfl rfl rfl ?_
  refine r_pickT rfl rfl rfl rfl ?_
  refine r_move rfl rfl ?_
  refine g_run rfl rfl rfl ?_
  refine r_move rfl rfl ?_
  refine g_run rfl rfl rfl ?_
  first | (refine r_lenS rfl rfl TD.sl22 rfl ?_) | (refine r_lenNil rfl TD.sl22 rfl ?_)
  refine g_run rfl rfl rfl ?_
  refine r_cmp rfl rfl rfl rfl ?_
  refine r_pickT rfl rfl rfl rfl ?_
  refine r_move rfl rfl ?_
  refine g_run rfl rfl rfl ?_
  refine r_move rfl rfl ?_
  refine g_run rfl rfl rfl ?_
  refine r_index rfl rfl rfl TD.sl22 TD.sz110 (by decide) rfl rfl ?_
  refine g_run rfl rfl rfl ?_
  first | (refine r_fieldcp rfl TD.f110_2 TD.sz79 rfl ?_) | (refine r_fieldb rfl TD.f110_2 TD.sz79 rfl ?_)
  refine g_run rfl rfl rfl ?_
  refine r_load1 rfl TD.agg79 rfl ?_
  refine g_run rfl rfl rfl ?_
  refine r_cmp rfl rfl rfl rfl ?_
  refine r_pickT rfl rfl rfl rfl ?_
  refine r_move rfl rfl ?_
  refine g_run rfl rfl rfl ?_
  refine r_move rfl rfl ?_
  refine g_run rfl rfl rfl ?_
  refine r_cmp rfl rfl rfl rfl ?_
  refine r_pickT rfl rfl rfl rfl ?_
  refine r_move rfl rfl ?_
  refine g_run rfl rfl rfl ?_
  refine r_move rfl rfl ?_
  refine g_run rfl rfl rfl ?_
  refine r_call0 hq rfl rfl (.cons (.ev rfl rfl) .nil) (turn_ok [⟨0, 1, 5, 7⟩, ⟨0, 2, 0, 3⟩] (by simp)) rfl TD.en30 rfl (fun r hr => ?_)
  obtain rfl := hr
  rw [show turnF [⟨0, 1, 5, 7⟩, ⟨0, 2, 0, 3⟩] = [⟨0, 2, 3, 0⟩, ⟨0, 1, 7, 5⟩] from by decide]
  refine g_run rfl rfl rfl ?_
  first | (refine r_lenS rfl rfl TD.sl27 rfl ?_) | (refine r_lenNil rfl TD.sl27 rfl ?_)
  refine g_run rfl rfl rfl ?_
  refine r_cmp rfl rfl rfl rfl ?_
  refine r_pickT rfl rfl rfl rfl ?_
  refine r_move rfl rfl ?_
  refine g_run rfl rfl rfl ?_
  refine r_move rfl rfl ?_
  refine g_run rfl rfl rfl ?_
  refine r_call0 hq rfl rfl (.cons (.ev rfl rfl) .nil) (turn_ok [⟨0, 1, 5, 7⟩, ⟨0, 2, 0, 3⟩] (by simp)) rfl TD.en30 rfl (fun r hr => ?_)
  obtain rfl := hr
  rw [show turnF [⟨0, 1, 5, 7⟩, ⟨0, 2, 0, 3⟩] = [⟨0, 2, 3, 0⟩, ⟨0, 1, 7, 5⟩] from by decide]
  refine g_run rfl rfl rfl ?_
  refine r_index rfl rfl rfl TD.sl27 TD.sz112 (by decide) rfl rfl ?_
  refine g_run rfl rfl rfl ?_
  refine r_loadA rfl TD.agg112 TD.sz112 rfl rfl ?_
  refine g_run rfl rfl rfl ?_
  refine r_build (parts := [(1, .const ((Go.Value.int Go.IntKind.i64 2))), (2, .const ((Go.Value.int Go.IntKind.u64 3)))]) rfl TD.pl112 TD.zero112 rfl rfl rfl ?_
  refine g_run rfl rfl rfl ?_
  refine r_seq (us := [0, 2, 3, 0]) (vs := [0, 2, 3, 0]) rfl rfl TD.mix112 (isVal_cells rfl) (isVal_cells rfl) rfl rfl rfl ?_
  refine r_pickT rfl rfl rfl rfl ?_
  refine r_assign rfl rfl ?_
  refine awl_nil ?_
  refine x_then ?_
  refine awp_ret ?_
  exact ⟨(.inl rfl), _, [], (.one (by first | exact .mk rfl rfl | exact .nil rfl)), ⟨rfl, rfl⟩, (List.nil_sublist _), (by simp)⟩

end Go.Proofs.Ytaglbmgpdoophaa.A

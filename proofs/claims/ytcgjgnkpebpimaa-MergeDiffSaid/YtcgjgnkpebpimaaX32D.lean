/- Layer 32: walks of Same, of the closures of the statements. -/
import Derived.Test.YtcgjgnkpebpimaaProg
import Derived.KernelRfl
import Derived.Test.YtcgjgnkpebpimaaX32C
namespace Go.Proofs.Ytcgjgnkpebpimaa.A
open Go Go.RowKit
set_option linter.unusedVariables false
set_option linter.unusedSimpArgs false
set_option maxRecDepth 100000

theorem T.en45 : entersT Try.prog 45 := enters_of Try.func45 (by kernel_rfl) (by kernel_rfl)
theorem T.agg29 : aggT Try.prog 29 = some false := by kernel_rfl
theorem T.en32 : entersT Try.prog 32 := enters_of Try.func32 (by kernel_rfl) (by kernel_rfl)
theorem T.en31 : entersT Try.prog 31 := enters_of Try.func31 (by kernel_rfl) (by kernel_rfl)


theorem any_idx (pr : PL → Bool) (l : List PL) : l.any pr = decide (optI (l.findIdx? pr) ≥ 0) := by
  cases h : l.findIdx? pr with
  | none => rw [List.findIdx?_eq_none_iff] at h; simp [optI]; exact fun a b => h (a, b)
  | some k => obtain ⟨x, hx, hp⟩ := fidx_get h; simp [optI]; exact ⟨x.1, x.2, List.mem_of_getElem? hx, hp⟩


theorem index_ok {f : FuncId} {caps : List AV} {b1 b2 : Nat} {o1 o2 : AObj} {f1 f2 : Bool} (pr : PL → Bool) (l : List PL) (hl : l.length ≤ 1000000) (hen : entersT Try.prog f) (hf : ∀ p g1 g2, AC Try.prog f (plA p :: caps) [⟨b1, g1, o1⟩, ⟨b2, g2, o2⟩] (fun r n => n = [] ∧ r = bA (pr p))) : AC Try.prog 45 [plsA l, .fn f caps] [⟨b1, f1, o1⟩, ⟨b2, f2, o2⟩] (fun r n => n = [] ∧ r = .v (.int .i64 (optI (l.findIdx? pr)))) := by
  refine ac_of_awp (rs := [4]) (nt := 19) Try.func45 rfl rfl rfl rfl (fun w0 C0 hq => ?_)
  refine awp_seq ?_
  refine awp_region ?_
  refine r_assign rfl rfl ?_
  refine awl_nil ?_
  refine x_then ?_
  refine awp_seq ?_
  refine awp_seq ?_
  refine awp_region ?_
  refine r_move rfl rfl ?_
  first | (refine r_lenS rfl rfl T.sl57 rfl ?_) | (refine r_lenNil rfl T.sl57 rfl ?_)
  refine r_move rfl rfl ?_
  refine awl_nil ?_
  refine x_then ?_
  refine awp_block ?_
  refine awp_loop (fun nn0 S => ∃ k : Nat, S = ⟨19, [(0, .a (plsA l)), (1, .a (.fn f caps)), (7, .a (.v (.int .i64 ((l.map PL.cs).length)))), (8, .a (.v (.int .i64 ((k : Int)))))], [⟨b1, false, o1⟩, ⟨b2, false, o2⟩]⟩ ∧ nn0 = l.length - k ∧ (k ≤ l.length) ∧ ((l.take k).findIdx? pr = none)) (l.length - (0)) ⟨19, [(0, .a (plsA l)), (1, .a (.fn f caps)), (7, .a (.v (.int .i64 ((l.map PL.cs).length)))), (8, .a (.v (.int .i64 (((0) : Int)))))], [⟨b1, false, o1⟩, ⟨b2, false, o2⟩]⟩ ⟨rfl, (Slots.cons rfl (by first | exact .refl _ | exact .nilOwn _ _ | exact .nilSl _ | exact .ownSl _ _ _  | exact SV.le.of_eq (by simp)) (Slots.cons rfl (by first | exact .refl _ | exact .nilOwn _ _ | exact .nilSl _ | exact .ownSl _ _ _  | exact SV.le.of_eq (by simp)) (Slots.cons rfl (by first | exact .refl _ | exact .nilOwn _ _ | exact .nilSl _ | exact .ownSl _ _ _  | exact SV.le.of_eq (by simp)) (Slots.cons rfl (by first | exact .refl _ | exact .nilOwn _ _ | exact .nilSl _ | exact .ownSl _ _ _  | exact SV.le.of_eq (by simp)) Slots.nil)))), (by first | exact List.Sublist.refl _ | exact .cons_cons _ (.cons _ (.refl _)) | exact List.nil_sublist _ | exact .cons _ (.refl _) | exact .cons _ (.cons _ (.refl _)) | exact .cons _ (.cons _ (.cons _ (.refl _))) | exact .cons _ (.cons _ (.cons _ (.cons _ (.refl _)))) | exact .cons_cons _ (List.nil_sublist _))⟩ ⟨0, rfl, rfl, Nat.zero_le _, rfl⟩ ?_
  rintro nn0 _ ⟨k, rfl, rfl, hk, hno⟩
  refine awp_seq ?_
  refine awp_region ?_
  refine r_cmp rfl rfl rfl rfl ?_
  refine awl_nil ?_
  refine x_then ?_
  refine awp_seq ?_
  refine awp_cond rfl (fun hc0 => ?_) (fun hc0 => ?_)
  ·
    have hltx : k < l.length := by have := of_decide_eq_true hc0; simpa using this
    obtain ⟨x, hx⟩ := get_lt hltx
    refine awp_skip ?_
    refine x_then ?_
    refine awp_seq ?_
    refine awp_block ?_
    refine awp_seq ?_
    refine awp_region ?_
    refine r_move rfl rfl ?_
    refine r_assign rfl rfl ?_
    refine awl_nil ?_
    refine x_then ?_
    refine awp_seq ?_
    refine awp_region ?_
    refine r_move rfl rfl ?_
    refine r_move rfl rfl ?_
    refine r_move rfl rfl ?_
    refine r_index rfl rfl rfl T.sl57 T.sz60 (by omega) (get_map hx) rfl ?_
    first | (refine r_loadA rfl T.agg60 T.sz60 rfl rfl ?_) | (refine r_loadAb 0 rfl rfl T.agg60 T.sz60 rfl rfl ?_) | (refine r_loadAb 1 rfl rfl T.agg60 T.sz60 rfl rfl ?_)
    refine r_callO hq rfl rfl (.cons (.ev rfl rfl) .nil) (hf x false false) rfl hen (List.Sublist.refl _) rfl (fun r nobjs hr => ?_)
    obtain ⟨rfl, rfl⟩ := hr
    refine awl_nil ?_
    refine x_then ?_
    refine awp_cond rfl (fun hc1 => ?_) (fun hc1 => ?_)
    ·
      refine awp_seq ?_
      refine awp_region ?_
      refine r_move rfl rfl ?_
      refine r_assign rfl rfl ?_
      refine awl_nil ?_
      refine x_then ?_
      refine awp_ret ?_
      refine x_blockR ?_
      refine x_thenR ?_
      refine x_thenR ?_
      refine x_blockR ?_
      refine x_thenR ?_
      exact ⟨(.inl rfl), _, [], (.one (by first | exact .mk rfl rfl | exact .nil rfl)), ⟨rfl, by rw [fidx_hit hx hc1 hno]; rfl⟩, (List.nil_sublist _), (by simp)⟩
    ·
      refine awp_skip ?_
      refine x_block ?_
      refine x_then ?_
      refine awp_region ?_
      refine r_ari _ rfl rfl rfl (wrap_id (by first | omega | (simp; omega))) rfl ?_
      refine r_move rfl rfl ?_
      refine awl_nil ?_
      refine x_then ?_
      refine ⟨l.length - (k + 1), ⟨19, [(0, .a (plsA l)), (1, .a (.fn f caps)), (7, .a (.v (.int .i64 ((l.map PL.cs).length)))), (8, .a (.v (.int .i64 (((k + 1) : Int)))))], [⟨b1, false, o1⟩, ⟨b2, false, o2⟩]⟩, ⟨rfl, (Slots.cons rfl (by first | exact .refl _ | exact .nilOwn _ _ | exact .nilSl _ | exact .ownSl _ _ _  | exact SV.le.of_eq (by simp)) (Slots.cons rfl (by first | exact .refl _ | exact .nilOwn _ _ | exact .nilSl _ | exact .ownSl _ _ _  | exact SV.le.of_eq (by simp)) (Slots.cons rfl (by first | exact .refl _ | exact .nilOwn _ _ | exact .nilSl _ | exact .ownSl _ _ _  | exact SV.le.of_eq (by simp)) (Slots.cons rfl (by first | exact .refl _ | exact .nilOwn _ _ | exact .nilSl _ | exact .ownSl _ _ _  | exact SV.le.of_eq (by simp)) Slots.nil)))), (by first | exact List.Sublist.refl _ | exact .cons_cons _ (.cons _ (.refl _)) | exact List.nil_sublist _ | exact .cons _ (.refl _) | exact .cons _ (.cons _ (.refl _)) | exact .cons _ (.cons _ (.cons _ (.refl _))) | exact .cons _ (.cons _ (.cons _ (.cons _ (.refl _)))) | exact .cons_cons _ (List.nil_sublist _))⟩, (by omega), ⟨k + 1, rfl, rfl, (by have := (List.getElem?_eq_some_iff.1 hx).1; omega), (fidx_step hx hc1 hno)⟩⟩
  ·
    have hge : l.length ≤ k := by have := of_decide_eq_false hc0; simp at this; omega
    refine awp_exit ?_
    refine x_thenE ?_
    refine x_thenE ?_
    refine x_blockE ?_
    refine x_then ?_
    refine awp_seq ?_
    refine awp_region ?_
    refine r_assign rfl rfl ?_
    refine awl_nil ?_
    refine x_then ?_
    refine awp_ret ?_
    exact ⟨(.inl rfl), _, [], (.one (by first | exact .mk rfl rfl | exact .nil rfl)), ⟨rfl, by rw [fidx_end hge hno]; rfl⟩, (List.nil_sublist _), (by simp)⟩

theorem contains_ok {f : FuncId} {caps : List AV} {b1 b2 : Nat} {o1 o2 : AObj} {f1 f2 : Bool} (pr : PL → Bool) (l : List PL) (hl : l.length ≤ 1000000) (hen : entersT Try.prog f) (hf : ∀ p g1 g2, AC Try.prog f (plA p :: caps) [⟨b1, g1, o1⟩, ⟨b2, g2, o2⟩] (fun r n => n = [] ∧ r = bA (pr p))) : AC Try.prog 31 [plsA l, .fn f caps] [⟨b1, f1, o1⟩, ⟨b2, f2, o2⟩] (fun r n => n = [] ∧ r = bA (l.any pr)) := by
  have any_idx : l.any pr = decide (optI (l.findIdx? pr) ≥ 0) := any_idx pr l
  refine ac_of_awp (rs := [4]) (nt := 9) Try.func31 rfl rfl rfl rfl (fun w0 C0 hq => ?_)
  refine awp_seq ?_
  refine awp_region ?_
  refine r_assign rfl rfl ?_
  refine awl_nil ?_
  refine x_then ?_
  refine awp_seq ?_
  refine awp_region ?_
  refine r_move rfl rfl ?_
  refine r_move rfl rfl ?_
  refine r_callO hq rfl rfl (.cons (.ev rfl rfl) (.cons (.ev rfl rfl) .nil)) (index_ok pr l hl hen hf) rfl T.en45 (List.Sublist.refl _) rfl (fun r nobjs hr => ?_)
  obtain ⟨rfl, rfl⟩ := hr
  refine r_cmp rfl rfl rfl rfl ?_
  refine r_assign rfl rfl ?_
  refine awl_nil ?_
  refine x_then ?_
  refine awp_ret ?_
  exact ⟨(.inl rfl), _, [], (.one (by first | exact .mk rfl rfl | exact .nil rfl)), ⟨rfl, by rw [any_idx]; rfl⟩, (List.nil_sublist _), (by simp)⟩

theorem same1_ok {sv : AV} {told : Int → Int → Bool} (hs : Told Try.prog sv told) (x y : List Ent) (hgx : Good x) (hgy : Good y) {bx by_ : Nat} (p : PL) (f1 f2 : Bool) : AC Try.prog 32 [plA p, .cp [.v (.map (some bx))], .cp [.v (.map (some by_))], .cp [sv]] [⟨bx, f1, .map (encM ekP numA (shownM x))⟩, ⟨by_, f2, .map (encM ekP numA (shownM y))⟩] (fun r n => n = [] ∧ r = bA (!alikeF told (shows x p) (shows y p))) := by
  refine ac_of_awp (rs := [5]) (nt := 15) Try.func32 rfl rfl rfl rfl (fun w0 C0 hq => ?_)
  refine awp_seq ?_
  refine awp_region ?_
  refine r_box rfl rfl rfl (fun b4 => ?_)
  refine r_assign rfl rfl ?_
  refine awl_nil ?_
  refine x_then ?_
  refine awp_seq ?_
  refine awp_drawS [6, 7, 8, 9, 10, 11, 12] [_, _, _, _, _, _, _] [] [] T.mixed rfl rfl rfl ⟨⟨⟨⟨⟨⟨⟨trivial
    , ⟨_, rfl, fun sl hd hr ho => by
        first | (refine r_load1 (hr 1 _ rfl rfl rfl) T.agg55 rfl ?_) | (refine r_load1b 0 (hr 1 _ rfl rfl rfl) rfl rfl T.agg55 rfl ?_) | (refine r_load1b 1 (hr 1 _ rfl rfl rfl) rfl rfl T.agg55 rfl ?_) | (refine r_load1b 2 (hr 1 _ rfl rfl rfl) rfl rfl T.agg55 rfl ?_)
        exact awl_nil ⟨rfl, post_put⟩⟩⟩
    , ⟨_, rfl, fun sl hd hr ho => by
        first | (refine r_loadA (hr 4 _ rfl rfl rfl) T.agg60 T.sz60 rfl rfl ?_) | (refine r_loadAb 0 (hr 4 _ rfl rfl rfl) rfl T.agg60 T.sz60 rfl rfl ?_) | (refine r_loadAb 1 (hr 4 _ rfl rfl rfl) rfl T.agg60 T.sz60 rfl rfl ?_) | (refine r_loadAb 2 (hr 4 _ rfl rfl rfl) rfl T.agg60 T.sz60 rfl rfl ?_)
        exact awl_nil ⟨rfl, post_put⟩⟩⟩
    , ⟨_, rfl, fun sl hd hr ho => by
        refine r_lookupK 1 keyP (ev := numA) (k := p) 0 (hd 0 _ rfl rfl rfl) rfl (hd 1 _ rfl rfl rfl) (isVal_pl p) T.map55 T.zav23 rfl ?_
        exact awl_nil ⟨rfl, post_put⟩⟩⟩
    , ⟨_, rfl, fun sl hd hr ho => by
        first | (refine r_load1 (hr 2 _ rfl rfl rfl) T.agg55 rfl ?_) | (refine r_load1b 0 (hr 2 _ rfl rfl rfl) rfl rfl T.agg55 rfl ?_) | (refine r_load1b 1 (hr 2 _ rfl rfl rfl) rfl rfl T.agg55 rfl ?_) | (refine r_load1b 2 (hr 2 _ rfl rfl rfl) rfl rfl T.agg55 rfl ?_)
        exact awl_nil ⟨rfl, post_put⟩⟩⟩
    , ⟨_, rfl, fun sl hd hr ho => by
        first | (refine r_loadA (hr 4 _ rfl rfl rfl) T.agg60 T.sz60 rfl rfl ?_) | (refine r_loadAb 0 (hr 4 _ rfl rfl rfl) rfl T.agg60 T.sz60 rfl rfl ?_) | (refine r_loadAb 1 (hr 4 _ rfl rfl rfl) rfl T.agg60 T.sz60 rfl rfl ?_) | (refine r_loadAb 2 (hr 4 _ rfl rfl rfl) rfl T.agg60 T.sz60 rfl rfl ?_)
        exact awl_nil ⟨rfl, post_put⟩⟩⟩
    , ⟨_, rfl, fun sl hd hr ho => by
        refine r_lookupK 2 keyP (ev := numA) (k := p) 0 (hd 3 _ rfl rfl rfl) rfl (hd 4 _ rfl rfl rfl) (isVal_pl p) T.map55 T.zav23 rfl ?_
        exact awl_nil ⟨rfl, post_put⟩⟩⟩
    , ⟨_, rfl, fun sl hd hr ho => by
        first | (refine r_load1 (hr 3 _ rfl rfl rfl) T.agg29 rfl ?_) | (refine r_load1b 0 (hr 3 _ rfl rfl rfl) rfl rfl T.agg29 rfl ?_) | (refine r_load1b 1 (hr 3 _ rfl rfl rfl) rfl rfl T.agg29 rfl ?_) | (refine r_load1b 2 (hr 3 _ rfl rfl rfl) rfl rfl T.agg29 rfl ?_)
        exact awl_nil ⟨rfl, post_put⟩⟩⟩
    (by rfl) ?_
  refine r_call0 hq rfl rfl (.cons (.ev rfl rfl) (.cons (.ev rfl rfl) (.cons (.ev rfl rfl) .nil))) (alike_ok hs _ _ (got_good hgx p) (got_good hgy p)) rfl T.en27 rfl (fun r hr => ?_)
  obtain rfl := hr
  refine r_not rfl rfl ?_
  refine r_assign rfl rfl ?_
  refine awl_nil ?_
  refine x_then ?_
  refine awp_ret ?_
  exact ⟨(.inl rfl), _, [], (.one (by first | exact .mk rfl rfl | exact .nil rfl)), ⟨rfl, by rw [← shown_get, ← shown_get]; rfl⟩, (List.nil_sublist _), (by simp)⟩

theorem same_ok {sv : AV} {told : Int → Int → Bool} (hs : Told Try.prog sv told) (h1 : sv.one = true) (hcs : sv.cells = [sv]) (a b : List Ent) (hla : a.length ≤ 1000) (hlb : b.length ≤ 1000) (hga : Good a) (hgb : Good b) :
    AC Try.prog 16 [entsA a, entsA b, sv] [] (fun r n => n = [] ∧ r = bA (sameF told a b)) := by
  refine ac_of_awp (rs := [6]) (nt := 20) Try.func16 rfl rfl rfl rfl (fun w0 C0 hq => ?_)
  refine awp_seq ?_
  refine awp_region ?_
  refine r_box (cs := [sv]) rfl hcs rfl (fun b5 => ?_)
  refine r_assign rfl rfl ?_
  refine awl_nil ?_
  refine x_then ?_
  refine awp_seq ?_
  refine awp_region ?_
  refine r_move rfl rfl ?_
  refine r_callO hq rfl rfl (.cons (.ev rfl rfl) .nil) (shown_ok a (by omega)) rfl T.en25 (List.nil_sublist _) rfl (fun r nobjs hr => ?_)
  obtain ⟨bx, rfl, rfl⟩ := hr
  refine r_move rfl rfl ?_
  refine r_callO hq rfl rfl (.cons (.ev rfl rfl) .nil) (shown_ok b (by omega)) rfl T.en25 (List.nil_sublist _) rfl (fun r nobjs hr => ?_)
  obtain ⟨by_, rfl, rfl⟩ := hr
  refine r_alloc T.zero55 rfl (fun b7 => ?_)
  refine r_alloc T.zero55 rfl (fun b8 => ?_)
  first | (refine r_store 0 rfl rfl rfl T.sz55 rfl rfl rfl ?_) | (refine r_store 1 rfl rfl rfl T.sz55 rfl rfl rfl ?_) | (refine r_store 2 rfl rfl rfl T.sz55 rfl rfl rfl ?_) | (refine r_store 3 rfl rfl rfl T.sz55 rfl rfl rfl ?_)
  first | (refine r_store 0 rfl rfl rfl T.sz55 rfl rfl rfl ?_) | (refine r_store 1 rfl rfl rfl T.sz55 rfl rfl rfl ?_) | (refine r_store 2 rfl rfl rfl T.sz55 rfl rfl rfl ?_) | (refine r_store 3 rfl rfl rfl T.sz55 rfl rfl rfl ?_)
  refine awl_nil ?_
  refine x_then ?_
  refine awp_seq ?_
  refine awp_region ?_
  refine awl_imp (imp_commit 0 8 rfl rfl rfl rfl) ?_
  refine awl_imp (imp_commit 0 7 rfl rfl rfl rfl) ?_
  refine awl_imp (imp_commit 2 5 rfl rfl (by simp [SV.av, hcs, h1]) rfl) ?_
  refine awl_imp (imp_perm (List.reverse_perm _)) ?_
  first | (refine r_load1 rfl T.agg55 rfl ?_) | (refine r_load1b 0 rfl rfl rfl T.agg55 rfl ?_) | (refine r_load1b 1 rfl rfl rfl T.agg55 rfl ?_) | (refine r_load1b 2 rfl rfl rfl T.agg55 rfl ?_) | (refine r_load1b 3 rfl rfl rfl T.agg55 rfl ?_)
  first | (refine r_load1 rfl T.agg55 rfl ?_) | (refine r_load1b 0 rfl rfl rfl T.agg55 rfl ?_) | (refine r_load1b 1 rfl rfl rfl T.agg55 rfl ?_) | (refine r_load1b 2 rfl rfl rfl T.agg55 rfl ?_) | (refine r_load1b 3 rfl rfl rfl T.agg55 rfl ?_)
  refine r_lit 15 (parts := [(0, .tmp 13), (1, .tmp 14)]) rfl T.sl76 T.sz55 T.zraw55 rfl rfl rfl rfl rfl rfl rfl ?_
  refine r_callO hq rfl rfl (.cons (.ev rfl rfl) .nil) (places_ok [(bx, a), (by_, b)] (by simp) (by simp; omega) (fl := true)) rfl T.en26 (List.Sublist.refl _) rfl (fun r nobjs hr => ?_)
  obtain ⟨pl, hpl⟩ : ∃ pl, pl = placesF [a, b] := ⟨_, rfl⟩
  obtain ⟨rfl, hr2⟩ := hr
  have hr' : r = plsA pl := by rw [hpl]; exact hr2
  clear hr2
  obtain rfl := hr'
  have hpll : pl.length ≤ 2000 := by rw [hpl]; have := places_len [a, b]; simp at this; omega
  refine r_makeFunc rfl (.cons (.ev rfl rfl) (.cons (.ev rfl rfl) (.cons (.ev rfl rfl) .nil))) rfl ?_
  refine r_callO hq rfl rfl (.cons (.ev rfl rfl) (.cons (.ev rfl rfl) .nil)) (contains_ok (fun p => !alikeF told (shows a p) (shows b p)) pl (by omega) T.en32 (fun p g1 g2 => same1_ok hs a b hga hgb p g1 g2)) rfl T.en31 (List.Sublist.refl _) rfl (fun r nobjs hr => ?_)
  obtain ⟨rfl, rfl⟩ := hr
  refine r_not rfl rfl ?_
  refine r_assign rfl rfl ?_
  refine awl_nil ?_
  refine x_then ?_
  refine awp_ret ?_
  exact ⟨(.inl rfl), _, [], (.one (by first | exact .mk rfl rfl | exact .nil rfl)), ⟨rfl, by rw [sameF, ← hpl, List.all_eq_not_any_not]; rfl⟩, (List.nil_sublist _), (by simp)⟩

end Go.Proofs.Ytcgjgnkpebpimaa.A

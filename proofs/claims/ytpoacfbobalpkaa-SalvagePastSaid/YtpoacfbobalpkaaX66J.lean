/- Layer 66: walks of the document's Files and Lost; SalvageFiles, walked. -/
import Derived.Test.YtpoacfbobalpkaaProg
import Derived.KernelRfl
import Derived.Test.YtpoacfbobalpkaaX66H
namespace Go.Proofs.Ytpoacfbobalpkaa.A
open Go Go.RowKit
set_option linter.unusedVariables false
set_option linter.unusedSimpArgs false
set_option maxRecDepth 100000

theorem T.zraw51 : zeroT Try.prog 51 = some [(.string ⟨#[]⟩), (.slice none 0 0)] := by kernel_rfl
theorem T.pl51 : placesT Try.prog 51 = some [(0, 1), (1, 1)] := by kernel_rfl
theorem T.by51 : bytesT Try.prog 51 = some 40 := by kernel_rfl
theorem T.zlen51 : (zeroT Try.prog 51).map (·.length) = some 2 := by kernel_rfl
theorem T.en17 : entersT Try.prog 17 := enters_of Try.func17 (by kernel_rfl) (by kernel_rfl)
theorem T.en18 : entersT Try.prog 18 := enters_of Try.func18 (by kernel_rfl) (by kernel_rfl)
theorem T.en20 : entersT Try.prog 20 := enters_of Try.func20 (by kernel_rfl) (by kernel_rfl)

theorem rfiles_ok (l : List Choice) (hl : l.length ≤ 1000000) (hd : ∀ c ∈ l, c.data.length ≤ 1000000) : AC Try.prog 18 [choicesA l] [] (fun r n => n = [] ∧ r = files (rfilesOf l)) := by
  refine ac_of_awp (rs := [2]) (nt := 76) Try.func18 rfl rfl rfl rfl (fun w0 C0 => ?_)
  refine awp_seq ?_
  refine awp_region ?_
  refine r_assign rfl rfl ?_
  refine awl_nil ?_
  refine x_then ?_
  refine awp_seq ?_
  refine awp_region ?_
  refine r_lit 8 (parts := []) rfl T.sl46 T.sz9 T.zraw9 rfl rfl rfl rfl rfl rfl rfl ?_
  refine r_assign rfl rfl ?_
  refine awl_nil ?_
  refine x_then ?_
  refine awp_seq ?_
  refine awp_seq ?_
  refine awp_region ?_
  refine r_assign rfl rfl ?_
  refine awl_nil ?_
  refine x_then ?_
  refine awp_block ?_
  refine awp_loop (fun nn0 S => ∃ k : Nat, S = ⟨76, [(0, .a (choicesA l)), (3, .a (strsA ((l.take k).foldl (fun ns c => cond c.whole (insS ns c.name) ns) []))), (4, .a (.v (.int .i64 ((k : Int)))))], []⟩ ∧ nn0 = l.length - k ∧ (k ≤ l.length)) (l.length - (0)) ⟨76, [(0, .a (choicesA l)), (3, .a (strsA ((l.take (0)).foldl (fun ns c => cond c.whole (insS ns c.name) ns) []))), (4, .a (.v (.int .i64 (((0) : Int)))))], []⟩ ⟨rfl, (Slots.cons rfl (by first | exact .refl _ | exact .nilOwn _ _ | exact .nilSl _ | exact .ownSl _ _ _ | exact SV.le.of_eq (by simp)) (Slots.cons rfl (by first | exact .refl _ | exact .nilOwn _ _ | exact .nilSl _ | exact .ownSl _ _ _ | exact SV.le.of_eq (by simp)) (Slots.cons rfl (by first | exact .refl _ | exact .nilOwn _ _ | exact .nilSl _ | exact .ownSl _ _ _ | exact SV.le.of_eq (by simp)) Slots.nil))), (by first | exact List.Sublist.refl _ | exact List.nil_sublist _ | exact .cons _ (.refl _) | exact .cons _ (.cons _ (.refl _)) | exact .cons _ (.cons _ (.cons _ (.refl _))) | exact .cons _ (.cons _ (.cons _ (.cons _ (.refl _)))) | exact .cons_cons _ (List.nil_sublist _))⟩ ⟨0, rfl, rfl, Nat.zero_le _⟩ ?_
  rintro nn0 _ ⟨k, rfl, rfl, hk⟩
  refine awp_seq ?_
  refine awp_seq ?_
  refine awp_region ?_
  refine r_move rfl rfl ?_
  refine r_move rfl rfl ?_
  first | (refine r_lenS rfl rfl T.sl34 rfl ?_) | (refine r_lenNil rfl T.sl34 rfl ?_)
  refine r_cmp rfl rfl rfl rfl ?_
  refine awl_nil ?_
  refine x_then ?_
  refine awp_cond rfl (fun hc0 => ?_) (fun hc0 => ?_)
  ·
    have hlt : k < l.length := by have := of_decide_eq_true hc0; simpa using this
    obtain ⟨x, hx⟩ := get_lt hlt
    have hnn := rnames_len_aux (l.take k) []
    rw [List.length_take, List.length_nil] at hnn
    have e : (l.take (k + 1)).foldl (fun ns c => cond c.whole (insS ns c.name) ns) [] = cond x.whole (insS ((l.take k).foldl (fun ns c => cond c.whole (insS ns c.name) ns) []) x.name) ((l.take k).foldl (fun ns c => cond c.whole (insS ns c.name) ns) []) := fold_take hx
    refine awp_skip ?_
    refine x_then ?_
    refine awp_seq ?_
    refine awp_block ?_
    refine awp_seq ?_
    refine awp_region ?_
    refine r_move rfl rfl ?_
    refine r_move rfl rfl ?_
    refine r_index rfl rfl rfl T.sl34 T.sz40 (by omega) (get_map hx) rfl ?_
    first | (refine r_fieldcp rfl T.f40_2 T.sz4 rfl ?_) | (refine r_fieldb rfl T.f40_2 T.sz4 rfl ?_)
    refine r_load1 rfl T.agg4 rfl ?_
    refine awl_nil ?_
    refine x_then ?_
    refine awp_cond rfl (fun hc1 => ?_) (fun hc1 => ?_)
    ·
      rw [hc1] at e
      refine awp_region ?_
      refine r_move rfl rfl ?_
      refine r_move rfl rfl ?_
      refine r_move rfl rfl ?_
      refine r_index rfl rfl rfl T.sl34 T.sz40 (by omega) (get_map hx) rfl ?_
      first | (refine r_fieldcp rfl T.f40_0 T.sz9 rfl ?_) | (refine r_fieldb rfl T.f40_0 T.sz9 rfl ?_)
      refine r_load1 rfl T.agg9 rfl ?_
      refine r_call0 rfl rfl (.cons (.ev rfl rfl) (.cons (.ev rfl rfl) .nil)) (insert_ok _ x.name (by omega)) rfl T.en34 rfl (fun r hr => ?_)
      obtain rfl := hr
      refine r_assign rfl rfl ?_
      refine awl_nil ?_
      refine x_block ?_
      refine x_then ?_
      refine awp_region ?_
      refine r_move rfl rfl ?_
      refine r_ari _ rfl rfl rfl (wrap_id (by omega)) rfl ?_
      refine r_assign rfl rfl ?_
      refine awl_nil ?_
      refine x_then ?_
      refine ⟨l.length - (k + 1), ⟨76, [(0, .a (choicesA l)), (3, .a (strsA ((l.take (k + 1)).foldl (fun ns c => cond c.whole (insS ns c.name) ns) []))), (4, .a (.v (.int .i64 (((k + 1) : Int)))))], []⟩, ⟨rfl, (Slots.cons rfl (by first | exact .refl _ | exact .nilOwn _ _ | exact .nilSl _ | exact .ownSl _ _ _ | exact SV.le.of_eq (by rw [e] <;> rfl)) (Slots.cons rfl (by first | exact .refl _ | exact .nilOwn _ _ | exact .nilSl _ | exact .ownSl _ _ _ | exact SV.le.of_eq (by rw [e] <;> rfl)) (Slots.cons rfl (by first | exact .refl _ | exact .nilOwn _ _ | exact .nilSl _ | exact .ownSl _ _ _ | exact SV.le.of_eq (by rw [e] <;> rfl)) Slots.nil))), (by first | exact List.Sublist.refl _ | exact List.nil_sublist _ | exact .cons _ (.refl _) | exact .cons _ (.cons _ (.refl _)) | exact .cons _ (.cons _ (.cons _ (.refl _))) | exact .cons _ (.cons _ (.cons _ (.cons _ (.refl _)))) | exact .cons_cons _ (List.nil_sublist _))⟩, (by omega), ⟨k + 1, rfl, rfl, (by have := (List.getElem?_eq_some_iff.1 hx).1; omega)⟩⟩
    ·
      rw [hc1] at e
      refine awp_skip ?_
      refine x_block ?_
      refine x_then ?_
      refine awp_region ?_
      refine r_move rfl rfl ?_
      refine r_ari _ rfl rfl rfl (wrap_id (by omega)) rfl ?_
      refine r_assign rfl rfl ?_
      refine awl_nil ?_
      refine x_then ?_
      refine ⟨l.length - (k + 1), ⟨76, [(0, .a (choicesA l)), (3, .a (strsA ((l.take (k + 1)).foldl (fun ns c => cond c.whole (insS ns c.name) ns) []))), (4, .a (.v (.int .i64 (((k + 1) : Int)))))], []⟩, ⟨rfl, (Slots.cons rfl (by first | exact .refl _ | exact .nilOwn _ _ | exact .nilSl _ | exact .ownSl _ _ _ | exact SV.le.of_eq (by rw [e] <;> rfl)) (Slots.cons rfl (by first | exact .refl _ | exact .nilOwn _ _ | exact .nilSl _ | exact .ownSl _ _ _ | exact SV.le.of_eq (by rw [e] <;> rfl)) (Slots.cons rfl (by first | exact .refl _ | exact .nilOwn _ _ | exact .nilSl _ | exact .ownSl _ _ _ | exact SV.le.of_eq (by rw [e] <;> rfl)) Slots.nil))), (by first | exact List.Sublist.refl _ | exact List.nil_sublist _ | exact .cons _ (.refl _) | exact .cons _ (.cons _ (.refl _)) | exact .cons _ (.cons _ (.cons _ (.refl _))) | exact .cons _ (.cons _ (.cons _ (.cons _ (.refl _)))) | exact .cons_cons _ (List.nil_sublist _))⟩, (by omega), ⟨k + 1, rfl, rfl, (by have := (List.getElem?_eq_some_iff.1 hx).1; omega)⟩⟩
  ·
    have hge : l.length ≤ k := by have := of_decide_eq_false hc0; simp at this; omega
    have hkl : l.take k = l := List.take_of_length_le hge
    refine awp_exit ?_
    refine x_thenE ?_
    refine x_thenE ?_
    refine x_blockE ?_
    refine x_then ?_
    refine awp_seq ?_
    refine awp_region ?_
    rw [hkl]
    have hmem : ∀ x, x ∈ rnamesOf l ↔ ∃ c ∈ l, c.whole = true ∧ c.name = x := fun x => by rw [rnamesOf, rnames_mem_aux]; simp
    rw [show l.foldl (fun ns c => cond c.whole (insS ns c.name) ns) [] = rnamesOf l from rfl]
    generalize hns : rnamesOf l = ns at hmem ⊢
    refine r_lit 27 (parts := []) rfl T.sl44 T.sz51 T.zraw51 rfl rfl rfl rfl rfl rfl rfl ?_
    refine r_assign rfl rfl ?_
    refine awl_nil ?_
    refine x_then ?_
    refine awp_seq ?_
    refine awp_seq ?_
    refine awp_region ?_
    refine r_assign rfl rfl ?_
    refine awl_nil ?_
    refine x_then ?_
    refine awp_block ?_
    refine awp_loop (fun nn0 S => ∃ q : Nat, S = ⟨76, [(0, .a (choicesA l)), (3, .a (strsA ns)), (5, .own 27 2 (((ns.take q).map (fun n : ByteArray => (⟨n, ((l.find? (fun c => c.whole && decide (c.name = n))).getD .zero).data⟩ : File))).map File.cs)), (6, .a (.v (.int .i64 ((q : Int)))))], []⟩ ∧ nn0 = ns.length - q ∧ (q ≤ ns.length) ∧ (q ≤ 8)) (ns.length - (0)) ⟨76, [(0, .a (choicesA l)), (3, .a (strsA ns)), (5, .own 27 2 (((ns.take (0)).map (fun n : ByteArray => (⟨n, ((l.find? (fun c => c.whole && decide (c.name = n))).getD .zero).data⟩ : File))).map File.cs)), (6, .a (.v (.int .i64 (((0) : Int)))))], []⟩ ⟨rfl, (Slots.cons rfl (by first | exact .refl _ | exact .nilOwn _ _ | exact .nilSl _ | exact .ownSl _ _ _ | exact SV.le.of_eq (by simp)) (Slots.cons rfl (by first | exact .refl _ | exact .nilOwn _ _ | exact .nilSl _ | exact .ownSl _ _ _ | exact SV.le.of_eq (by simp)) (Slots.cons rfl (by first | exact .refl _ | exact .nilOwn _ _ | exact .nilSl _ | exact .ownSl _ _ _ | exact SV.le.of_eq (by simp)) (Slots.cons rfl (by first | exact .refl _ | exact .nilOwn _ _ | exact .nilSl _ | exact .ownSl _ _ _ | exact SV.le.of_eq (by simp)) Slots.nil)))), (by first | exact List.Sublist.refl _ | exact List.nil_sublist _ | exact .cons _ (.refl _) | exact .cons _ (.cons _ (.refl _)) | exact .cons _ (.cons _ (.cons _ (.refl _))) | exact .cons _ (.cons _ (.cons _ (.cons _ (.refl _)))) | exact .cons_cons _ (List.nil_sublist _))⟩ ⟨0, rfl, rfl, Nat.zero_le _, Nat.zero_le _⟩ ?_
    rintro nn0 _ ⟨q, rfl, rfl, hq, hq8⟩
    refine awp_seq ?_
    refine awp_seq ?_
    refine awp_region ?_
    refine r_move rfl rfl ?_
    refine r_move rfl rfl ?_
    first | (refine r_lenS rfl rfl T.sl46 rfl ?_) | (refine r_lenNil rfl T.sl46 rfl ?_)
    refine r_cmp rfl rfl rfl rfl ?_
    refine r_move rfl rfl ?_
    refine g_cases (t' := 32) rfl (fun hg32 => ?_) (fun hg32 => ?_)
    ·
      have hltn : q < ns.length := by have := of_decide_eq_true hg32; simpa using this
      obtain ⟨nm, hnm⟩ := get_lt hltn
      refine g_run rfl rfl hg32 ?_
      refine r_move rfl rfl ?_
      refine g_run rfl rfl hg32 ?_
      refine r_cmp rfl rfl rfl rfl ?_
      refine r_pickT rfl hg32 rfl rfl ?_
      refine awl_nil ?_
      refine x_then ?_
      refine awp_cond rfl (fun hc2 => ?_) (fun hc2 => ?_)
      ·
        refine awp_skip ?_
        refine x_then ?_
        refine awp_seq ?_
        refine awp_block ?_
        refine awp_seq ?_
        refine awp_region ?_
        refine r_assign rfl rfl ?_
        refine awl_nil ?_
        refine x_then ?_
        refine awp_block ?_
        refine awp_loop (fun nn0 S => ∃ i : Nat, S = ⟨76, [(0, .a (choicesA l)), (3, .a (strsA ns)), (5, .own 27 2 (((ns.take q).map (fun n : ByteArray => (⟨n, ((l.find? (fun c => c.whole && decide (c.name = n))).getD .zero).data⟩ : File))).map File.cs)), (6, .a (.v (.int .i64 ((q : Int))))), (7, .a (.v (.int .i64 ((i : Int)))))], []⟩ ∧ nn0 = l.length - i ∧ (i ≤ l.length) ∧ (∀ c ∈ l.take i, (c.whole && decide (c.name = nm)) = false)) (l.length - (0)) ⟨76, [(0, .a (choicesA l)), (3, .a (strsA ns)), (5, .own 27 2 (((ns.take q).map (fun n : ByteArray => (⟨n, ((l.find? (fun c => c.whole && decide (c.name = n))).getD .zero).data⟩ : File))).map File.cs)), (6, .a (.v (.int .i64 ((q : Int))))), (7, .a (.v (.int .i64 (((0) : Int)))))], []⟩ ⟨rfl, (Slots.cons rfl (by first | exact .refl _ | exact .nilOwn _ _ | exact .nilSl _ | exact .ownSl _ _ _ | exact SV.le.of_eq (by simp)) (Slots.cons rfl (by first | exact .refl _ | exact .nilOwn _ _ | exact .nilSl _ | exact .ownSl _ _ _ | exact SV.le.of_eq (by simp)) (Slots.cons rfl (by first | exact .refl _ | exact .nilOwn _ _ | exact .nilSl _ | exact .ownSl _ _ _ | exact SV.le.of_eq (by simp)) (Slots.cons rfl (by first | exact .refl _ | exact .nilOwn _ _ | exact .nilSl _ | exact .ownSl _ _ _ | exact SV.le.of_eq (by simp)) (Slots.cons rfl (by first | exact .refl _ | exact .nilOwn _ _ | exact .nilSl _ | exact .ownSl _ _ _ | exact SV.le.of_eq (by simp)) Slots.nil))))), (by first | exact List.Sublist.refl _ | exact List.nil_sublist _ | exact .cons _ (.refl _) | exact .cons _ (.cons _ (.refl _)) | exact .cons _ (.cons _ (.cons _ (.refl _))) | exact .cons _ (.cons _ (.cons _ (.cons _ (.refl _)))) | exact .cons_cons _ (List.nil_sublist _))⟩ ⟨0, rfl, rfl, Nat.zero_le _, (fun m hm => by simp at hm)⟩ ?_
        rintro nn0 _ ⟨i, rfl, rfl, hi, he⟩
        refine awp_seq ?_
        refine awp_seq ?_
        refine awp_region ?_
        refine r_move rfl rfl ?_
        refine r_move rfl rfl ?_
        first | (refine r_lenS rfl rfl T.sl34 rfl ?_) | (refine r_lenNil rfl T.sl34 rfl ?_)
        refine r_cmp rfl rfl rfl rfl ?_
        refine awl_nil ?_
        refine x_then ?_
        refine awp_cond rfl (fun hc3 => ?_) (fun hc3 => ?_)
        ·
          have hlti : i < l.length := by have := of_decide_eq_true hc3; simpa using this
          obtain ⟨y, hy⟩ := get_lt hlti
          have hyd := hd y (List.mem_of_getElem? hy)
          refine awp_skip ?_
          refine x_then ?_
          refine awp_seq ?_
          refine awp_block ?_
          refine awp_seq ?_
          rcases Bool.eq_false_or_eq_true (y.whole) with hg49 | hg49
          ·
            refine awp_drawS [44, 45, 46, 47, 48, 49, 50, 51, 52, 53, 54, 55, 56, 57, 58] [_, _, _, _, _, _, _, _, _, _, _, _, _, _, _] [] [] T.mixed rfl rfl rfl ⟨⟨⟨⟨⟨⟨⟨⟨⟨⟨⟨⟨⟨⟨⟨trivial
              , ⟨_, rfl, fun sl hd hr ho => by
                  refine r_move (hr 0 _ rfl rfl rfl) rfl ?_
                  exact awl_nil ⟨rfl, post_put⟩⟩⟩
              , ⟨_, rfl, fun sl hd hr ho => by
                  refine r_move (hr 7 _ rfl rfl rfl) rfl ?_
                  exact awl_nil ⟨rfl, post_put⟩⟩⟩
              , ⟨_, rfl, fun sl hd hr ho => by
                  refine r_index (hd 0 _ rfl rfl rfl) rfl (hd 1 _ rfl rfl rfl) T.sl34 T.sz40 (by omega) (get_map hy) rfl ?_
                  exact awl_nil ⟨rfl, post_put⟩⟩⟩
              , ⟨_, rfl, fun sl hd hr ho => by
                  first | (refine r_fieldcp (hd 2 _ rfl rfl rfl) T.f40_2 T.sz4 rfl ?_) | (refine r_fieldb (hd 2 _ rfl rfl rfl) T.f40_2 T.sz4 rfl ?_)
                  exact awl_nil ⟨rfl, post_put⟩⟩⟩
              , ⟨_, rfl, fun sl hd hr ho => by
                  refine r_load1 (hd 3 _ rfl rfl rfl) T.agg4 rfl ?_
                  exact awl_nil ⟨rfl, post_put⟩⟩⟩
              , ⟨_, rfl, fun sl hd hr ho => by
                  refine r_move (hd 4 _ rfl rfl rfl) rfl ?_
                  exact awl_nil ⟨rfl, post_put⟩⟩⟩
              , ⟨_, rfl, fun sl hd hr ho => by
                  refine g_run rfl (hd 5 _ rfl rfl rfl) hg49 ?_
                  refine r_move (hr 0 _ rfl rfl rfl) rfl ?_
                  exact awl_nil ⟨rfl, post_put⟩⟩⟩
              , ⟨_, rfl, fun sl hd hr ho => by
                  refine g_run rfl (hd 5 _ rfl rfl rfl) hg49 ?_
                  refine r_move (hr 7 _ rfl rfl rfl) rfl ?_
                  exact awl_nil ⟨rfl, post_put⟩⟩⟩
              , ⟨_, rfl, fun sl hd hr ho => by
                  refine g_run rfl (hd 5 _ rfl rfl rfl) hg49 ?_
                  refine r_index (hd 6 _ rfl rfl rfl) rfl (hd 7 _ rfl rfl rfl) T.sl34 T.sz40 (by omega) (get_map hy) rfl ?_
                  exact awl_nil ⟨rfl, post_put⟩⟩⟩
              , ⟨_, rfl, fun sl hd hr ho => by
                  refine g_run rfl (hd 5 _ rfl rfl rfl) hg49 ?_
                  first | (refine r_fieldcp (hd 8 _ rfl rfl rfl) T.f40_0 T.sz9 rfl ?_) | (refine r_fieldb (hd 8 _ rfl rfl rfl) T.f40_0 T.sz9 rfl ?_)
                  exact awl_nil ⟨rfl, post_put⟩⟩⟩
              , ⟨_, rfl, fun sl hd hr ho => by
                  refine g_run rfl (hd 5 _ rfl rfl rfl) hg49 ?_
                  refine r_load1 (hd 9 _ rfl rfl rfl) T.agg9 rfl ?_
                  exact awl_nil ⟨rfl, post_put⟩⟩⟩
              , ⟨_, rfl, fun sl hd hr ho => by
                  refine g_run rfl (hd 5 _ rfl rfl rfl) hg49 ?_
                  refine r_move (hr 3 _ rfl rfl rfl) rfl ?_
                  exact awl_nil ⟨rfl, post_put⟩⟩⟩
              , ⟨_, rfl, fun sl hd hr ho => by
                  refine g_run rfl (hd 5 _ rfl rfl rfl) hg49 ?_
                  refine r_move (hr 6 _ rfl rfl rfl) rfl ?_
                  exact awl_nil ⟨rfl, post_put⟩⟩⟩
              , ⟨_, rfl, fun sl hd hr ho => by
                  refine g_run rfl (hd 5 _ rfl rfl rfl) hg49 ?_
                  refine r_index (hd 11 _ rfl rfl rfl) rfl (hd 12 _ rfl rfl rfl) T.sl46 T.sz9 (by omega) (get_map hnm) rfl ?_
                  exact awl_nil ⟨rfl, post_put⟩⟩⟩
              , ⟨_, rfl, fun sl hd hr ho => by
                  refine g_run rfl (hd 5 _ rfl rfl rfl) hg49 ?_
                  refine r_load1 (hd 13 _ rfl rfl rfl) T.agg9 rfl ?_
                  exact awl_nil ⟨rfl, post_put⟩⟩⟩
              (by rfl) ?_
            refine g_run rfl rfl hg49 ?_
            refine r_str2 rfl rfl rfl rfl ?_
            refine r_pickT rfl hg49 rfl rfl ?_
            refine awl_nil ?_
            refine x_then ?_
            refine awp_cond rfl (fun hc4 => ?_) (fun hc4 => ?_)
            ·
              have hyn : y.name = nm := of_decide_eq_true hc4
              subst hyn
              have e3 : ((ns.take (q + 1)).map (fun n : ByteArray => (⟨n, ((l.find? (fun c => c.whole && decide (c.name = n))).getD .zero).data⟩ : File))).map File.cs = ((ns.take q).map (fun n : ByteArray => (⟨n, ((l.find? (fun c => c.whole && decide (c.name = n))).getD .zero).data⟩ : File))).map File.cs ++ [File.cs ⟨y.name, y.data⟩] := by
                rw [map_take hnm, List.map_append, find_hit hy he (by rw [hg49]; simp)]; rfl
              refine awp_seq ?_
              refine awp_drawS [61, 62, 63, 64, 65, 66, 67, 68, 69, 70, 71, 72, 73] [_, _, _, _, _, _, _, _, _, _, _, _, _] [] [(12, 73)] T.mixed rfl rfl rfl ⟨⟨⟨⟨⟨⟨⟨⟨⟨⟨⟨⟨⟨trivial
                , ⟨_, rfl, fun sl hd hr ho => by
                    refine r_move (hr 5 _ rfl rfl rfl) rfl ?_
                    exact awl_nil ⟨rfl, post_put⟩⟩⟩
                , ⟨_, rfl, fun sl hd hr ho => by
                    refine r_move (hr 0 _ rfl rfl rfl) rfl ?_
                    exact awl_nil ⟨rfl, post_put⟩⟩⟩
                , ⟨_, rfl, fun sl hd hr ho => by
                    refine r_move (hr 7 _ rfl rfl rfl) rfl ?_
                    exact awl_nil ⟨rfl, post_put⟩⟩⟩
                , ⟨_, rfl, fun sl hd hr ho => by
                    refine r_index (hd 1 _ rfl rfl rfl) rfl (hd 2 _ rfl rfl rfl) T.sl34 T.sz40 (by omega) (get_map hy) rfl ?_
                    exact awl_nil ⟨rfl, post_put⟩⟩⟩
                , ⟨_, rfl, fun sl hd hr ho => by
                    first | (refine r_fieldcp (hd 3 _ rfl rfl rfl) T.f40_0 T.sz9 rfl ?_) | (refine r_fieldb (hd 3 _ rfl rfl rfl) T.f40_0 T.sz9 rfl ?_)
                    exact awl_nil ⟨rfl, post_put⟩⟩⟩
                , ⟨_, rfl, fun sl hd hr ho => by
                    refine r_load1 (hd 4 _ rfl rfl rfl) T.agg9 rfl ?_
                    exact awl_nil ⟨rfl, post_put⟩⟩⟩
                , ⟨_, rfl, fun sl hd hr ho => by
                    refine r_move (hr 0 _ rfl rfl rfl) rfl ?_
                    exact awl_nil ⟨rfl, post_put⟩⟩⟩
                , ⟨_, rfl, fun sl hd hr ho => by
                    refine r_move (hr 7 _ rfl rfl rfl) rfl ?_
                    exact awl_nil ⟨rfl, post_put⟩⟩⟩
                , ⟨_, rfl, fun sl hd hr ho => by
                    refine r_index (hd 6 _ rfl rfl rfl) rfl (hd 7 _ rfl rfl rfl) T.sl34 T.sz40 (by omega) (get_map hy) rfl ?_
                    exact awl_nil ⟨rfl, post_put⟩⟩⟩
                , ⟨_, rfl, fun sl hd hr ho => by
                    first | (refine r_fieldcp (hd 8 _ rfl rfl rfl) T.f40_3 T.sz31 rfl ?_) | (refine r_fieldb (hd 8 _ rfl rfl rfl) T.f40_3 T.sz31 rfl ?_)
                    exact awl_nil ⟨rfl, post_put⟩⟩⟩
                , ⟨_, rfl, fun sl hd hr ho => by
                    refine r_load1 (hd 9 _ rfl rfl rfl) T.agg31 rfl ?_
                    exact awl_nil ⟨rfl, post_put⟩⟩⟩
                , ⟨_, rfl, fun sl hd hr ho => by
                    refine r_build (parts := [(0, .tmp 66), (1, .tmp 71)]) rfl T.pl51 T.zero51 (parts_cons (hd 5 _ rfl rfl rfl) (parts_cons (hd 10 _ rfl rfl rfl) parts_nil)) rfl rfl ?_
                    exact awl_nil ⟨rfl, post_put⟩⟩⟩
                , ⟨_, rfl, fun sl hd hr ho => by
                    refine r_lit 73 (parts := [(0, .tmp 72)]) rfl T.sl44 T.sz51 T.zraw51 rfl rfl (parts_cons (hd 11 _ rfl rfl rfl) parts_nil) rfl rfl rfl rfl ?_
                    exact awl_nil ⟨rfl, (post_dem (ho 73 (List.mem_of_elem_eq_true rfl)))⟩⟩⟩
                (by rfl) ?_
              refine r_append 27 rfl (by first | exact .own _ | exact .nil) rfl (by first | exact .sl _ | exact .own _ _ | exact .nil) T.sl44 T.sz51 (by decide) T.by51 T.zlen51 (by simp [chunks] <;> omega) (by simp [chunks] <;> omega) rfl ?_
              refine r_assign rfl rfl ?_
              refine awl_nil ?_
              refine x_then ?_
              refine awp_exit ?_
              refine x_blockO rfl ?_
              refine x_thenE ?_
              refine x_thenE ?_
              refine x_blockE ?_
              refine x_block ?_
              refine x_then ?_
              refine awp_region ?_
              refine r_move rfl rfl ?_
              refine r_ari _ rfl rfl rfl (wrap_id (by omega)) rfl ?_
              refine r_assign rfl rfl ?_
              refine awl_nil ?_
              refine x_then ?_
              refine ⟨ns.length - (q + 1), ⟨76, [(0, .a (choicesA l)), (3, .a (strsA ns)), (5, .own 27 2 (((ns.take (q + 1)).map (fun n : ByteArray => (⟨n, ((l.find? (fun c => c.whole && decide (c.name = n))).getD .zero).data⟩ : File))).map File.cs)), (6, .a (.v (.int .i64 (((q + 1) : Int)))))], []⟩, ⟨rfl, (Slots.cons rfl (by first | exact .refl _ | exact .nilOwn _ _ | exact .nilSl _ | exact .ownSl _ _ _ | exact SV.le.of_eq (by rw [e3] <;> rfl)) (Slots.cons rfl (by first | exact .refl _ | exact .nilOwn _ _ | exact .nilSl _ | exact .ownSl _ _ _ | exact SV.le.of_eq (by rw [e3] <;> rfl)) (Slots.cons rfl (by first | exact .refl _ | exact .nilOwn _ _ | exact .nilSl _ | exact .ownSl _ _ _ | exact SV.le.of_eq (by rw [e3] <;> rfl)) (Slots.cons rfl (by first | exact .refl _ | exact .nilOwn _ _ | exact .nilSl _ | exact .ownSl _ _ _ | exact SV.le.of_eq (by rw [e3] <;> rfl)) Slots.nil)))), (by first | exact List.Sublist.refl _ | exact List.nil_sublist _ | exact .cons _ (.refl _) | exact .cons _ (.cons _ (.refl _)) | exact .cons _ (.cons _ (.cons _ (.refl _))) | exact .cons _ (.cons _ (.cons _ (.cons _ (.refl _)))) | exact .cons_cons _ (List.nil_sublist _))⟩, (by omega), ⟨q + 1, rfl, rfl, (by have := (List.getElem?_eq_some_iff.1 hnm).1; omega), (by have := of_decide_eq_true hc2; omega)⟩⟩
            ·
              have hp : (y.whole && decide (y.name = nm)) = false := by rw [hg49, hc4]; rfl
              refine awp_skip ?_
              refine x_block ?_
              refine x_then ?_
              refine awp_region ?_
              refine r_move rfl rfl ?_
              refine r_ari _ rfl rfl rfl (wrap_id (by omega)) rfl ?_
              refine r_assign rfl rfl ?_
              refine awl_nil ?_
              refine x_then ?_
              refine ⟨l.length - (i + 1), ⟨76, [(0, .a (choicesA l)), (3, .a (strsA ns)), (5, .own 27 2 (((ns.take q).map (fun n : ByteArray => (⟨n, ((l.find? (fun c => c.whole && decide (c.name = n))).getD .zero).data⟩ : File))).map File.cs)), (6, .a (.v (.int .i64 ((q : Int))))), (7, .a (.v (.int .i64 (((i + 1) : Int)))))], []⟩, ⟨rfl, (Slots.cons rfl (by first | exact .refl _ | exact .nilOwn _ _ | exact .nilSl _ | exact .ownSl _ _ _ | exact SV.le.of_eq (by simp)) (Slots.cons rfl (by first | exact .refl _ | exact .nilOwn _ _ | exact .nilSl _ | exact .ownSl _ _ _ | exact SV.le.of_eq (by simp)) (Slots.cons rfl (by first | exact .refl _ | exact .nilOwn _ _ | exact .nilSl _ | exact .ownSl _ _ _ | exact SV.le.of_eq (by simp)) (Slots.cons rfl (by first | exact .refl _ | exact .nilOwn _ _ | exact .nilSl _ | exact .ownSl _ _ _ | exact SV.le.of_eq (by simp)) (Slots.cons rfl (by first | exact .refl _ | exact .nilOwn _ _ | exact .nilSl _ | exact .ownSl _ _ _ | exact SV.le.of_eq (by simp)) Slots.nil))))), (by first | exact List.Sublist.refl _ | exact List.nil_sublist _ | exact .cons _ (.refl _) | exact .cons _ (.cons _ (.refl _)) | exact .cons _ (.cons _ (.cons _ (.refl _))) | exact .cons _ (.cons _ (.cons _ (.cons _ (.refl _)))) | exact .cons_cons _ (List.nil_sublist _))⟩, (by omega), ⟨i + 1, rfl, rfl, (by have := (List.getElem?_eq_some_iff.1 hy).1; omega), (all_takeS hy he hp)⟩⟩
          ·
            have hp : (y.whole && decide (y.name = nm)) = false := by rw [hg49]; rfl
            refine awp_drawS [44, 45, 46, 47, 48, 49, 50, 51, 52, 53, 54, 55, 56, 57, 58] [_, _, _, _, _, _, _, _, _, _, _, _, _, _, _] [] [] T.mixed rfl rfl rfl ⟨⟨⟨⟨⟨⟨⟨⟨⟨⟨⟨⟨⟨⟨⟨trivial
              , ⟨_, rfl, fun sl hd hr ho => by
                  refine r_move (hr 0 _ rfl rfl rfl) rfl ?_
                  exact awl_nil ⟨rfl, post_put⟩⟩⟩
              , ⟨_, rfl, fun sl hd hr ho => by
                  refine r_move (hr 7 _ rfl rfl rfl) rfl ?_
                  exact awl_nil ⟨rfl, post_put⟩⟩⟩
              , ⟨_, rfl, fun sl hd hr ho => by
                  refine r_index (hd 0 _ rfl rfl rfl) rfl (hd 1 _ rfl rfl rfl) T.sl34 T.sz40 (by omega) (get_map hy) rfl ?_
                  exact awl_nil ⟨rfl, post_put⟩⟩⟩
              , ⟨_, rfl, fun sl hd hr ho => by
                  first | (refine r_fieldcp (hd 2 _ rfl rfl rfl) T.f40_2 T.sz4 rfl ?_) | (refine r_fieldb (hd 2 _ rfl rfl rfl) T.f40_2 T.sz4 rfl ?_)
                  exact awl_nil ⟨rfl, post_put⟩⟩⟩
              , ⟨_, rfl, fun sl hd hr ho => by
                  refine r_load1 (hd 3 _ rfl rfl rfl) T.agg4 rfl ?_
                  exact awl_nil ⟨rfl, post_put⟩⟩⟩
              , ⟨_, rfl, fun sl hd hr ho => by
                  refine r_move (hd 4 _ rfl rfl rfl) rfl ?_
                  exact awl_nil ⟨rfl, post_put⟩⟩⟩
              , ⟨_, rfl, fun sl hd hr ho => by
                  refine g_skip rfl (hd 5 _ rfl rfl rfl) hg49 rfl ?_
                  exact awl_nil ⟨rfl, post_put⟩⟩⟩
              , ⟨_, rfl, fun sl hd hr ho => by
                  refine g_skip rfl (hd 5 _ rfl rfl rfl) hg49 rfl ?_
                  exact awl_nil ⟨rfl, post_put⟩⟩⟩
              , ⟨_, rfl, fun sl hd hr ho => by
                  refine g_skip rfl (hd 5 _ rfl rfl rfl) hg49 rfl ?_
                  exact awl_nil ⟨rfl, post_put⟩⟩⟩
              , ⟨_, rfl, fun sl hd hr ho => by
                  refine g_skip rfl (hd 5 _ rfl rfl rfl) hg49 rfl ?_
                  exact awl_nil ⟨rfl, post_put⟩⟩⟩
              , ⟨_, rfl, fun sl hd hr ho => by
                  refine g_skip rfl (hd 5 _ rfl rfl rfl) hg49 rfl ?_
                  exact awl_nil ⟨rfl, post_put⟩⟩⟩
              , ⟨_, rfl, fun sl hd hr ho => by
                  refine g_skip rfl (hd 5 _ rfl rfl rfl) hg49 rfl ?_
                  exact awl_nil ⟨rfl, post_put⟩⟩⟩
              , ⟨_, rfl, fun sl hd hr ho => by
                  refine g_skip rfl (hd 5 _ rfl rfl rfl) hg49 rfl ?_
                  exact awl_nil ⟨rfl, post_put⟩⟩⟩
              , ⟨_, rfl, fun sl hd hr ho => by
                  refine g_skip rfl (hd 5 _ rfl rfl rfl) hg49 rfl ?_
                  exact awl_nil ⟨rfl, post_put⟩⟩⟩
              , ⟨_, rfl, fun sl hd hr ho => by
                  refine g_skip rfl (hd 5 _ rfl rfl rfl) hg49 rfl ?_
                  exact awl_nil ⟨rfl, post_put⟩⟩⟩
              (by rfl) ?_
            refine g_skip rfl rfl hg49 rfl ?_
            refine r_pickF rfl hg49 rfl rfl ?_
            refine awl_nil ?_
            refine x_then ?_
            refine awp_condF rfl ?_
            refine awp_skip ?_
            refine x_block ?_
            refine x_then ?_
            refine awp_region ?_
            refine r_move rfl rfl ?_
            refine r_ari _ rfl rfl rfl (wrap_id (by omega)) rfl ?_
            refine r_assign rfl rfl ?_
            refine awl_nil ?_
            refine x_then ?_
            refine ⟨l.length - (i + 1), ⟨76, [(0, .a (choicesA l)), (3, .a (strsA ns)), (5, .own 27 2 (((ns.take q).map (fun n : ByteArray => (⟨n, ((l.find? (fun c => c.whole && decide (c.name = n))).getD .zero).data⟩ : File))).map File.cs)), (6, .a (.v (.int .i64 ((q : Int))))), (7, .a (.v (.int .i64 (((i + 1) : Int)))))], []⟩, ⟨rfl, (Slots.cons rfl (by first | exact .refl _ | exact .nilOwn _ _ | exact .nilSl _ | exact .ownSl _ _ _ | exact SV.le.of_eq (by simp)) (Slots.cons rfl (by first | exact .refl _ | exact .nilOwn _ _ | exact .nilSl _ | exact .ownSl _ _ _ | exact SV.le.of_eq (by simp)) (Slots.cons rfl (by first | exact .refl _ | exact .nilOwn _ _ | exact .nilSl _ | exact .ownSl _ _ _ | exact SV.le.of_eq (by simp)) (Slots.cons rfl (by first | exact .refl _ | exact .nilOwn _ _ | exact .nilSl _ | exact .ownSl _ _ _ | exact SV.le.of_eq (by simp)) (Slots.cons rfl (by first | exact .refl _ | exact .nilOwn _ _ | exact .nilSl _ | exact .ownSl _ _ _ | exact SV.le.of_eq (by simp)) Slots.nil))))), (by first | exact List.Sublist.refl _ | exact List.nil_sublist _ | exact .cons _ (.refl _) | exact .cons _ (.cons _ (.refl _)) | exact .cons _ (.cons _ (.cons _ (.refl _))) | exact .cons _ (.cons _ (.cons _ (.cons _ (.refl _)))) | exact .cons_cons _ (List.nil_sublist _))⟩, (by omega), ⟨i + 1, rfl, rfl, (by have := (List.getElem?_eq_some_iff.1 hy).1; omega), (all_takeS hy he hp)⟩⟩
        ·
          exfalso
          have hgei : l.length ≤ i := by have := of_decide_eq_false hc3; simp at this; omega
          obtain ⟨c, h1, h2, h3⟩ := (hmem nm).1 (List.mem_of_getElem? hnm)
          have := all_end hgei he c h1
          rw [h2, h3] at this; simp at this
      ·
        have hfin : ns.take q = ns.take 8 := by have := of_decide_eq_false hc2; rw [show q = 8 by omega]
        refine awp_exit ?_
        refine x_thenE ?_
        refine x_thenE ?_
        refine x_blockE ?_
        refine x_then ?_
        refine awp_seq ?_
        refine awp_region ?_
        refine r_move rfl rfl ?_
        refine r_assign rfl rfl ?_
        refine awl_nil ?_
        refine x_then ?_
        refine awp_ret ?_
        exact ⟨(.inl rfl), _, [], (.one (by first | exact .mk rfl rfl | exact .nil rfl)), ⟨rfl, by rw [hfin, ← hns]; rfl⟩, (List.nil_sublist _), (by simp)⟩
    ·
      have hgen : ns.length ≤ q := by have := of_decide_eq_false hg32; simp at this; omega
      have hfin : ns.take q = ns.take 8 := by rw [List.take_of_length_le hgen, List.take_of_length_le (by omega)]
      refine g_skip rfl rfl hg32 rfl ?_
      refine g_skip rfl rfl hg32 rfl ?_
      refine r_pickF rfl hg32 rfl rfl ?_
      refine awl_nil ?_
      refine x_then ?_
      refine awp_condF rfl ?_
      refine awp_exit ?_
      refine x_thenE ?_
      refine x_thenE ?_
      refine x_blockE ?_
      refine x_then ?_
      refine awp_seq ?_
      refine awp_region ?_
      refine r_move rfl rfl ?_
      refine r_assign rfl rfl ?_
      refine awl_nil ?_
      refine x_then ?_
      refine awp_ret ?_
      exact ⟨(.inl rfl), _, [], (.one (by first | exact .mk rfl rfl | exact .nil rfl)), ⟨rfl, by rw [hfin, ← hns]; rfl⟩, (List.nil_sublist _), (by simp)⟩

theorem rlost_ok (l : List Choice) (hl : l.length ≤ 1000000) : AC Try.prog 20 [choicesA l] [] (fun r n => n = [] ∧ r = strsA (rlostOf l)) := by
  refine ac_of_awp (rs := [2]) (nt := 51) Try.func20 rfl rfl rfl rfl (fun w0 C0 => ?_)
  refine awp_seq ?_
  refine awp_region ?_
  refine r_assign rfl rfl ?_
  refine awl_nil ?_
  refine x_then ?_
  refine awp_seq ?_
  refine awp_region ?_
  refine r_lit 7 (parts := []) rfl T.sl46 T.sz9 T.zraw9 rfl rfl rfl rfl rfl rfl rfl ?_
  refine r_assign rfl rfl ?_
  refine awl_nil ?_
  refine x_then ?_
  refine awp_seq ?_
  refine awp_seq ?_
  refine awp_region ?_
  refine r_assign rfl rfl ?_
  refine awl_nil ?_
  refine x_then ?_
  refine awp_block ?_
  refine awp_loop (fun nn0 S => ∃ k : Nat, S = ⟨51, [(0, .a (choicesA l)), (3, .a (strsA ((l.take k).foldl (fun ns c => cond (anyW l c.name) ns (insS ns c.name)) []))), (4, .a (.v (.int .i64 ((k : Int)))))], []⟩ ∧ nn0 = l.length - k ∧ (k ≤ l.length)) (l.length - (0)) ⟨51, [(0, .a (choicesA l)), (3, .a (strsA ((l.take (0)).foldl (fun ns c => cond (anyW l c.name) ns (insS ns c.name)) []))), (4, .a (.v (.int .i64 (((0) : Int)))))], []⟩ ⟨rfl, (Slots.cons rfl (by first | exact .refl _ | exact .nilOwn _ _ | exact .nilSl _ | exact .ownSl _ _ _ | exact SV.le.of_eq (by simp)) (Slots.cons rfl (by first | exact .refl _ | exact .nilOwn _ _ | exact .nilSl _ | exact .ownSl _ _ _ | exact SV.le.of_eq (by simp)) (Slots.cons rfl (by first | exact .refl _ | exact .nilOwn _ _ | exact .nilSl _ | exact .ownSl _ _ _ | exact SV.le.of_eq (by simp)) Slots.nil))), (by first | exact List.Sublist.refl _ | exact List.nil_sublist _ | exact .cons _ (.refl _) | exact .cons _ (.cons _ (.refl _)) | exact .cons _ (.cons _ (.cons _ (.refl _))) | exact .cons _ (.cons _ (.cons _ (.cons _ (.refl _)))) | exact .cons_cons _ (List.nil_sublist _))⟩ ⟨0, rfl, rfl, Nat.zero_le _⟩ ?_
  rintro nn0 _ ⟨k, rfl, rfl, hk⟩
  refine awp_seq ?_
  refine awp_seq ?_
  refine awp_region ?_
  refine r_move rfl rfl ?_
  refine r_move rfl rfl ?_
  first | (refine r_lenS rfl rfl T.sl34 rfl ?_) | (refine r_lenNil rfl T.sl34 rfl ?_)
  refine r_cmp rfl rfl rfl rfl ?_
  refine awl_nil ?_
  refine x_then ?_
  refine awp_cond rfl (fun hc0 => ?_) (fun hc0 => ?_)
  ·
    have hlt : k < l.length := by have := of_decide_eq_true hc0; simpa using this
    obtain ⟨x, hx⟩ := get_lt hlt
    have hnn := rlost_len_aux (anyW l) (l.take k) []
    rw [List.length_take, List.length_nil] at hnn
    have e : (l.take (k + 1)).foldl (fun ns c => cond (anyW l c.name) ns (insS ns c.name)) [] = cond (anyW l x.name) ((l.take k).foldl (fun ns c => cond (anyW l c.name) ns (insS ns c.name)) []) (insS ((l.take k).foldl (fun ns c => cond (anyW l c.name) ns (insS ns c.name)) []) x.name) := fold_take hx
    refine awp_skip ?_
    refine x_then ?_
    refine awp_seq ?_
    refine awp_block ?_
    refine awp_seq ?_
    refine awp_region ?_
    refine r_assign rfl rfl ?_
    refine awl_nil ?_
    refine x_then ?_
    refine awp_seq ?_
    refine awp_seq ?_
    refine awp_region ?_
    refine r_assign rfl rfl ?_
    refine awl_nil ?_
    refine x_then ?_
    refine awp_block ?_
    refine awp_loop (fun nn0 S => ∃ j : Nat, S = ⟨51, [(0, .a (choicesA l)), (3, .a (strsA ((l.take k).foldl (fun ns c => cond (anyW l c.name) ns (insS ns c.name)) []))), (4, .a (.v (.int .i64 ((k : Int))))), (5, .a (boolA ((l.take j).any fun d => d.whole && decide (d.name = x.name)))), (6, .a (.v (.int .i64 ((j : Int)))))], []⟩ ∧ nn0 = l.length - j ∧ (j ≤ l.length)) (l.length - (0)) ⟨51, [(0, .a (choicesA l)), (3, .a (strsA ((l.take k).foldl (fun ns c => cond (anyW l c.name) ns (insS ns c.name)) []))), (4, .a (.v (.int .i64 ((k : Int))))), (5, .a (boolA ((l.take (0)).any fun d => d.whole && decide (d.name = x.name)))), (6, .a (.v (.int .i64 (((0) : Int)))))], []⟩ ⟨rfl, (Slots.cons rfl (by first | exact .refl _ | exact .nilOwn _ _ | exact .nilSl _ | exact .ownSl _ _ _ | exact SV.le.of_eq (by simp)) (Slots.cons rfl (by first | exact .refl _ | exact .nilOwn _ _ | exact .nilSl _ | exact .ownSl _ _ _ | exact SV.le.of_eq (by simp)) (Slots.cons rfl (by first | exact .refl _ | exact .nilOwn _ _ | exact .nilSl _ | exact .ownSl _ _ _ | exact SV.le.of_eq (by simp)) (Slots.cons rfl (by first | exact .refl _ | exact .nilOwn _ _ | exact .nilSl _ | exact .ownSl _ _ _ | exact SV.le.of_eq (by simp)) (Slots.cons rfl (by first | exact .refl _ | exact .nilOwn _ _ | exact .nilSl _ | exact .ownSl _ _ _ | exact SV.le.of_eq (by simp)) Slots.nil))))), (by first | exact List.Sublist.refl _ | exact List.nil_sublist _ | exact .cons _ (.refl _) | exact .cons _ (.cons _ (.refl _)) | exact .cons _ (.cons _ (.cons _ (.refl _))) | exact .cons _ (.cons _ (.cons _ (.cons _ (.refl _)))) | exact .cons_cons _ (List.nil_sublist _))⟩ ⟨0, rfl, rfl, Nat.zero_le _⟩ ?_
    rintro nn0 _ ⟨j, rfl, rfl, hj⟩
    refine awp_seq ?_
    refine awp_seq ?_
    refine awp_region ?_
    refine r_move rfl rfl ?_
    refine r_move rfl rfl ?_
    first | (refine r_lenS rfl rfl T.sl34 rfl ?_) | (refine r_lenNil rfl T.sl34 rfl ?_)
    refine r_cmp rfl rfl rfl rfl ?_
    refine awl_nil ?_
    refine x_then ?_
    refine awp_cond rfl (fun hc1 => ?_) (fun hc1 => ?_)
    ·
      have hltj : j < l.length := by have := of_decide_eq_true hc1; simpa using this
      obtain ⟨y, hy⟩ := get_lt hltj
      have e2 : ((l.take (j + 1)).any fun d => d.whole && decide (d.name = x.name)) = (((l.take j).any fun d => d.whole && decide (d.name = x.name)) || (y.whole && decide (y.name = x.name))) := by rw [takeS hy, List.any_append]; simp
      refine awp_skip ?_
      refine x_then ?_
      refine awp_seq ?_
      refine awp_block ?_
      rcases Bool.eq_false_or_eq_true (((l.take j).any fun d => d.whole && decide (d.name = x.name))) with hg21 | hg21
      ·
        rw [hg21] at e2
        refine awp_drawS [20, 21, 22, 23, 24, 25, 26, 27, 28, 29, 30, 31, 32, 33, 34, 35, 36, 37] [_, _, _, _, _, _, _, _, _, _, _, _, _, _, _, _, _, _] [] [] T.mixed rfl rfl rfl ⟨⟨⟨⟨⟨⟨⟨⟨⟨⟨⟨⟨⟨⟨⟨⟨⟨⟨trivial
          , ⟨_, rfl, fun sl hd hr ho => by
              refine r_move (hr 5 _ rfl rfl rfl) rfl ?_
              exact awl_nil ⟨rfl, post_put⟩⟩⟩
          , ⟨_, rfl, fun sl hd hr ho => by
              refine r_move (hd 0 _ rfl rfl rfl) rfl ?_
              exact awl_nil ⟨rfl, post_put⟩⟩⟩
          , ⟨_, rfl, fun sl hd hr ho => by
              refine g_skip rfl (hd 1 _ rfl rfl rfl) hg21 rfl ?_
              exact awl_nil ⟨rfl, post_put⟩⟩⟩
          , ⟨_, rfl, fun sl hd hr ho => by
              refine g_skip rfl (hd 1 _ rfl rfl rfl) hg21 rfl ?_
              exact awl_nil ⟨rfl, post_put⟩⟩⟩
          , ⟨_, rfl, fun sl hd hr ho => by
              refine g_skip rfl (hd 1 _ rfl rfl rfl) hg21 rfl ?_
              exact awl_nil ⟨rfl, post_put⟩⟩⟩
          , ⟨_, rfl, fun sl hd hr ho => by
              refine g_skip rfl (hd 1 _ rfl rfl rfl) hg21 rfl ?_
              exact awl_nil ⟨rfl, post_put⟩⟩⟩
          , ⟨_, rfl, fun sl hd hr ho => by
              refine g_skip rfl (hd 1 _ rfl rfl rfl) hg21 rfl ?_
              exact awl_nil ⟨rfl, post_put⟩⟩⟩
          , ⟨_, rfl, fun sl hd hr ho => by
              refine g_skip rfl (hd 1 _ rfl rfl rfl) hg21 rfl ?_
              exact awl_nil ⟨rfl, post_put⟩⟩⟩
          , ⟨_, rfl, fun sl hd hr ho => by
              refine g_skipU rfl (hd 7 _ rfl rfl rfl) rfl ?_
              exact awl_nil ⟨rfl, post_put⟩⟩⟩
          , ⟨_, rfl, fun sl hd hr ho => by
              refine g_skipU rfl (hd 7 _ rfl rfl rfl) rfl ?_
              exact awl_nil ⟨rfl, post_put⟩⟩⟩
          , ⟨_, rfl, fun sl hd hr ho => by
              refine g_skipU rfl (hd 7 _ rfl rfl rfl) rfl ?_
              exact awl_nil ⟨rfl, post_put⟩⟩⟩
          , ⟨_, rfl, fun sl hd hr ho => by
              refine g_skipU rfl (hd 7 _ rfl rfl rfl) rfl ?_
              exact awl_nil ⟨rfl, post_put⟩⟩⟩
          , ⟨_, rfl, fun sl hd hr ho => by
              refine g_skipU rfl (hd 7 _ rfl rfl rfl) rfl ?_
              exact awl_nil ⟨rfl, post_put⟩⟩⟩
          , ⟨_, rfl, fun sl hd hr ho => by
              refine g_skipU rfl (hd 7 _ rfl rfl rfl) rfl ?_
              exact awl_nil ⟨rfl, post_put⟩⟩⟩
          , ⟨_, rfl, fun sl hd hr ho => by
              refine g_skipU rfl (hd 7 _ rfl rfl rfl) rfl ?_
              exact awl_nil ⟨rfl, post_put⟩⟩⟩
          , ⟨_, rfl, fun sl hd hr ho => by
              refine g_skipU rfl (hd 7 _ rfl rfl rfl) rfl ?_
              exact awl_nil ⟨rfl, post_put⟩⟩⟩
          , ⟨_, rfl, fun sl hd hr ho => by
              refine g_skipU rfl (hd 7 _ rfl rfl rfl) rfl ?_
              exact awl_nil ⟨rfl, post_put⟩⟩⟩
          , ⟨_, rfl, fun sl hd hr ho => by
              refine g_skipU rfl (hd 7 _ rfl rfl rfl) rfl ?_
              exact awl_nil ⟨rfl, post_put⟩⟩⟩
          (by rfl) ?_
        refine g_skipU rfl rfl rfl ?_
        refine g_skip rfl rfl hg21 rfl ?_
        refine r_pickT rfl hg21 rfl rfl ?_
        refine r_assign rfl rfl ?_
        refine awl_nil ?_
        refine x_block ?_
        refine x_then ?_
        refine awp_region ?_
        refine r_move rfl rfl ?_
        refine r_ari _ rfl rfl rfl (wrap_id (by omega)) rfl ?_
        refine r_assign rfl rfl ?_
        refine awl_nil ?_
        refine x_then ?_
        refine ⟨l.length - (j + 1), ⟨51, [(0, .a (choicesA l)), (3, .a (strsA ((l.take k).foldl (fun ns c => cond (anyW l c.name) ns (insS ns c.name)) []))), (4, .a (.v (.int .i64 ((k : Int))))), (5, .a (boolA ((l.take (j + 1)).any fun d => d.whole && decide (d.name = x.name)))), (6, .a (.v (.int .i64 (((j + 1) : Int)))))], []⟩, ⟨rfl, (Slots.cons rfl (by first | exact .refl _ | exact .nilOwn _ _ | exact .nilSl _ | exact .ownSl _ _ _ | exact SV.le.of_eq (by rw [e2] <;> rfl)) (Slots.cons rfl (by first | exact .refl _ | exact .nilOwn _ _ | exact .nilSl _ | exact .ownSl _ _ _ | exact SV.le.of_eq (by rw [e2] <;> rfl)) (Slots.cons rfl (by first | exact .refl _ | exact .nilOwn _ _ | exact .nilSl _ | exact .ownSl _ _ _ | exact SV.le.of_eq (by rw [e2] <;> rfl)) (Slots.cons rfl (by first | exact .refl _ | exact .nilOwn _ _ | exact .nilSl _ | exact .ownSl _ _ _ | exact SV.le.of_eq (by rw [e2] <;> rfl)) (Slots.cons rfl (by first | exact .refl _ | exact .nilOwn _ _ | exact .nilSl _ | exact .ownSl _ _ _ | exact SV.le.of_eq (by rw [e2] <;> rfl)) Slots.nil))))), (by first | exact List.Sublist.refl _ | exact List.nil_sublist _ | exact .cons _ (.refl _) | exact .cons _ (.cons _ (.refl _)) | exact .cons _ (.cons _ (.cons _ (.refl _))) | exact .cons _ (.cons _ (.cons _ (.cons _ (.refl _)))) | exact .cons_cons _ (List.nil_sublist _))⟩, (by omega), ⟨j + 1, rfl, rfl, (by have := (List.getElem?_eq_some_iff.1 hy).1; omega)⟩⟩
      ·
        rw [hg21] at e2
        rcases Bool.eq_false_or_eq_true (y.whole) with hg27 | hg27
        ·
          rw [hg27] at e2
          refine awp_drawS [20, 21, 22, 23, 24, 25, 26, 27, 28, 29, 30, 31, 32, 33, 34, 35, 36, 37] [_, _, _, _, _, _, _, _, _, _, _, _, _, _, _, _, _, _] [] [] T.mixed rfl rfl rfl ⟨⟨⟨⟨⟨⟨⟨⟨⟨⟨⟨⟨⟨⟨⟨⟨⟨⟨trivial
            , ⟨_, rfl, fun sl hd hr ho => by
                refine r_move (hr 5 _ rfl rfl rfl) rfl ?_
                exact awl_nil ⟨rfl, post_put⟩⟩⟩
            , ⟨_, rfl, fun sl hd hr ho => by
                refine r_move (hd 0 _ rfl rfl rfl) rfl ?_
                exact awl_nil ⟨rfl, post_put⟩⟩⟩
            , ⟨_, rfl, fun sl hd hr ho => by
                refine g_run rfl (hd 1 _ rfl rfl rfl) hg21 ?_
                refine r_move (hr 0 _ rfl rfl rfl) rfl ?_
                exact awl_nil ⟨rfl, post_put⟩⟩⟩
            , ⟨_, rfl, fun sl hd hr ho => by
                refine g_run rfl (hd 1 _ rfl rfl rfl) hg21 ?_
                refine r_move (hr 6 _ rfl rfl rfl) rfl ?_
                exact awl_nil ⟨rfl, post_put⟩⟩⟩
            , ⟨_, rfl, fun sl hd hr ho => by
                refine g_run rfl (hd 1 _ rfl rfl rfl) hg21 ?_
                refine r_index (hd 2 _ rfl rfl rfl) rfl (hd 3 _ rfl rfl rfl) T.sl34 T.sz40 (by omega) (get_map hy) rfl ?_
                exact awl_nil ⟨rfl, post_put⟩⟩⟩
            , ⟨_, rfl, fun sl hd hr ho => by
                refine g_run rfl (hd 1 _ rfl rfl rfl) hg21 ?_
                first | (refine r_fieldcp (hd 4 _ rfl rfl rfl) T.f40_2 T.sz4 rfl ?_) | (refine r_fieldb (hd 4 _ rfl rfl rfl) T.f40_2 T.sz4 rfl ?_)
                exact awl_nil ⟨rfl, post_put⟩⟩⟩
            , ⟨_, rfl, fun sl hd hr ho => by
                refine g_run rfl (hd 1 _ rfl rfl rfl) hg21 ?_
                refine r_load1 (hd 5 _ rfl rfl rfl) T.agg4 rfl ?_
                exact awl_nil ⟨rfl, post_put⟩⟩⟩
            , ⟨_, rfl, fun sl hd hr ho => by
                refine g_run rfl (hd 1 _ rfl rfl rfl) hg21 ?_
                refine r_move (hd 6 _ rfl rfl rfl) rfl ?_
                exact awl_nil ⟨rfl, post_put⟩⟩⟩
            , ⟨_, rfl, fun sl hd hr ho => by
                refine g_run rfl (hd 7 _ rfl rfl rfl) hg27 ?_
                refine r_move (hr 0 _ rfl rfl rfl) rfl ?_
                exact awl_nil ⟨rfl, post_put⟩⟩⟩
            , ⟨_, rfl, fun sl hd hr ho => by
                refine g_run rfl (hd 7 _ rfl rfl rfl) hg27 ?_
                refine r_move (hr 6 _ rfl rfl rfl) rfl ?_
                exact awl_nil ⟨rfl, post_put⟩⟩⟩
            , ⟨_, rfl, fun sl hd hr ho => by
                refine g_run rfl (hd 7 _ rfl rfl rfl) hg27 ?_
                refine r_index (hd 8 _ rfl rfl rfl) rfl (hd 9 _ rfl rfl rfl) T.sl34 T.sz40 (by omega) (get_map hy) rfl ?_
                exact awl_nil ⟨rfl, post_put⟩⟩⟩
            , ⟨_, rfl, fun sl hd hr ho => by
                refine g_run rfl (hd 7 _ rfl rfl rfl) hg27 ?_
                first | (refine r_fieldcp (hd 10 _ rfl rfl rfl) T.f40_0 T.sz9 rfl ?_) | (refine r_fieldb (hd 10 _ rfl rfl rfl) T.f40_0 T.sz9 rfl ?_)
                exact awl_nil ⟨rfl, post_put⟩⟩⟩
            , ⟨_, rfl, fun sl hd hr ho => by
                refine g_run rfl (hd 7 _ rfl rfl rfl) hg27 ?_
                refine r_load1 (hd 11 _ rfl rfl rfl) T.agg9 rfl ?_
                exact awl_nil ⟨rfl, post_put⟩⟩⟩
            , ⟨_, rfl, fun sl hd hr ho => by
                refine g_run rfl (hd 7 _ rfl rfl rfl) hg27 ?_
                refine r_move (hr 0 _ rfl rfl rfl) rfl ?_
                exact awl_nil ⟨rfl, post_put⟩⟩⟩
            , ⟨_, rfl, fun sl hd hr ho => by
                refine g_run rfl (hd 7 _ rfl rfl rfl) hg27 ?_
                refine r_move (hr 4 _ rfl rfl rfl) rfl ?_
                exact awl_nil ⟨rfl, post_put⟩⟩⟩
            , ⟨_, rfl, fun sl hd hr ho => by
                refine g_run rfl (hd 7 _ rfl rfl rfl) hg27 ?_
                refine r_index (hd 13 _ rfl rfl rfl) rfl (hd 14 _ rfl rfl rfl) T.sl34 T.sz40 (by omega) (get_map hx) rfl ?_
                exact awl_nil ⟨rfl, post_put⟩⟩⟩
            , ⟨_, rfl, fun sl hd hr ho => by
                refine g_run rfl (hd 7 _ rfl rfl rfl) hg27 ?_
                first | (refine r_fieldcp (hd 15 _ rfl rfl rfl) T.f40_0 T.sz9 rfl ?_) | (refine r_fieldb (hd 15 _ rfl rfl rfl) T.f40_0 T.sz9 rfl ?_)
                exact awl_nil ⟨rfl, post_put⟩⟩⟩
            , ⟨_, rfl, fun sl hd hr ho => by
                refine g_run rfl (hd 7 _ rfl rfl rfl) hg27 ?_
                refine r_load1 (hd 16 _ rfl rfl rfl) T.agg9 rfl ?_
                exact awl_nil ⟨rfl, post_put⟩⟩⟩
            (by rfl) ?_
          refine g_run rfl rfl hg27 ?_
          refine r_str2 rfl rfl rfl rfl ?_
          refine g_run rfl rfl hg21 ?_
          refine r_pickT rfl hg27 rfl rfl ?_
          refine r_pickF rfl hg21 rfl rfl ?_
          refine r_assign rfl rfl ?_
          refine awl_nil ?_
          refine x_block ?_
          refine x_then ?_
          refine awp_region ?_
          refine r_move rfl rfl ?_
          refine r_ari _ rfl rfl rfl (wrap_id (by omega)) rfl ?_
          refine r_assign rfl rfl ?_
          refine awl_nil ?_
          refine x_then ?_
          refine ⟨l.length - (j + 1), ⟨51, [(0, .a (choicesA l)), (3, .a (strsA ((l.take k).foldl (fun ns c => cond (anyW l c.name) ns (insS ns c.name)) []))), (4, .a (.v (.int .i64 ((k : Int))))), (5, .a (boolA ((l.take (j + 1)).any fun d => d.whole && decide (d.name = x.name)))), (6, .a (.v (.int .i64 (((j + 1) : Int)))))], []⟩, ⟨rfl, (Slots.cons rfl (by first | exact .refl _ | exact .nilOwn _ _ | exact .nilSl _ | exact .ownSl _ _ _ | exact SV.le.of_eq (by rw [e2] <;> rfl)) (Slots.cons rfl (by first | exact .refl _ | exact .nilOwn _ _ | exact .nilSl _ | exact .ownSl _ _ _ | exact SV.le.of_eq (by rw [e2] <;> rfl)) (Slots.cons rfl (by first | exact .refl _ | exact .nilOwn _ _ | exact .nilSl _ | exact .ownSl _ _ _ | exact SV.le.of_eq (by rw [e2] <;> rfl)) (Slots.cons rfl (by first | exact .refl _ | exact .nilOwn _ _ | exact .nilSl _ | exact .ownSl _ _ _ | exact SV.le.of_eq (by rw [e2] <;> rfl)) (Slots.cons rfl (by first | exact .refl _ | exact .nilOwn _ _ | exact .nilSl _ | exact .ownSl _ _ _ | exact SV.le.of_eq (by rw [e2] <;> rfl)) Slots.nil))))), (by first | exact List.Sublist.refl _ | exact List.nil_sublist _ | exact .cons _ (.refl _) | exact .cons _ (.cons _ (.refl _)) | exact .cons _ (.cons _ (.cons _ (.refl _))) | exact .cons _ (.cons _ (.cons _ (.cons _ (.refl _)))) | exact .cons_cons _ (List.nil_sublist _))⟩, (by omega), ⟨j + 1, rfl, rfl, (by have := (List.getElem?_eq_some_iff.1 hy).1; omega)⟩⟩
        ·
          rw [hg27] at e2
          refine awp_drawS [20, 21, 22, 23, 24, 25, 26, 27, 28, 29, 30, 31, 32, 33, 34, 35, 36, 37] [_, _, _, _, _, _, _, _, _, _, _, _, _, _, _, _, _, _] [] [] T.mixed rfl rfl rfl ⟨⟨⟨⟨⟨⟨⟨⟨⟨⟨⟨⟨⟨⟨⟨⟨⟨⟨trivial
            , ⟨_, rfl, fun sl hd hr ho => by
                refine r_move (hr 5 _ rfl rfl rfl) rfl ?_
                exact awl_nil ⟨rfl, post_put⟩⟩⟩
            , ⟨_, rfl, fun sl hd hr ho => by
                refine r_move (hd 0 _ rfl rfl rfl) rfl ?_
                exact awl_nil ⟨rfl, post_put⟩⟩⟩
            , ⟨_, rfl, fun sl hd hr ho => by
                refine g_run rfl (hd 1 _ rfl rfl rfl) hg21 ?_
                refine r_move (hr 0 _ rfl rfl rfl) rfl ?_
                exact awl_nil ⟨rfl, post_put⟩⟩⟩
            , ⟨_, rfl, fun sl hd hr ho => by
                refine g_run rfl (hd 1 _ rfl rfl rfl) hg21 ?_
                refine r_move (hr 6 _ rfl rfl rfl) rfl ?_
                exact awl_nil ⟨rfl, post_put⟩⟩⟩
            , ⟨_, rfl, fun sl hd hr ho => by
                refine g_run rfl (hd 1 _ rfl rfl rfl) hg21 ?_
                refine r_index (hd 2 _ rfl rfl rfl) rfl (hd 3 _ rfl rfl rfl) T.sl34 T.sz40 (by omega) (get_map hy) rfl ?_
                exact awl_nil ⟨rfl, post_put⟩⟩⟩
            , ⟨_, rfl, fun sl hd hr ho => by
                refine g_run rfl (hd 1 _ rfl rfl rfl) hg21 ?_
                first | (refine r_fieldcp (hd 4 _ rfl rfl rfl) T.f40_2 T.sz4 rfl ?_) | (refine r_fieldb (hd 4 _ rfl rfl rfl) T.f40_2 T.sz4 rfl ?_)
                exact awl_nil ⟨rfl, post_put⟩⟩⟩
            , ⟨_, rfl, fun sl hd hr ho => by
                refine g_run rfl (hd 1 _ rfl rfl rfl) hg21 ?_
                refine r_load1 (hd 5 _ rfl rfl rfl) T.agg4 rfl ?_
                exact awl_nil ⟨rfl, post_put⟩⟩⟩
            , ⟨_, rfl, fun sl hd hr ho => by
                refine g_run rfl (hd 1 _ rfl rfl rfl) hg21 ?_
                refine r_move (hd 6 _ rfl rfl rfl) rfl ?_
                exact awl_nil ⟨rfl, post_put⟩⟩⟩
            , ⟨_, rfl, fun sl hd hr ho => by
                refine g_skip rfl (hd 7 _ rfl rfl rfl) hg27 rfl ?_
                exact awl_nil ⟨rfl, post_put⟩⟩⟩
            , ⟨_, rfl, fun sl hd hr ho => by
                refine g_skip rfl (hd 7 _ rfl rfl rfl) hg27 rfl ?_
                exact awl_nil ⟨rfl, post_put⟩⟩⟩
            , ⟨_, rfl, fun sl hd hr ho => by
                refine g_skip rfl (hd 7 _ rfl rfl rfl) hg27 rfl ?_
                exact awl_nil ⟨rfl, post_put⟩⟩⟩
            , ⟨_, rfl, fun sl hd hr ho => by
                refine g_skip rfl (hd 7 _ rfl rfl rfl) hg27 rfl ?_
                exact awl_nil ⟨rfl, post_put⟩⟩⟩
            , ⟨_, rfl, fun sl hd hr ho => by
                refine g_skip rfl (hd 7 _ rfl rfl rfl) hg27 rfl ?_
                exact awl_nil ⟨rfl, post_put⟩⟩⟩
            , ⟨_, rfl, fun sl hd hr ho => by
                refine g_skip rfl (hd 7 _ rfl rfl rfl) hg27 rfl ?_
                exact awl_nil ⟨rfl, post_put⟩⟩⟩
            , ⟨_, rfl, fun sl hd hr ho => by
                refine g_skip rfl (hd 7 _ rfl rfl rfl) hg27 rfl ?_
                exact awl_nil ⟨rfl, post_put⟩⟩⟩
            , ⟨_, rfl, fun sl hd hr ho => by
                refine g_skip rfl (hd 7 _ rfl rfl rfl) hg27 rfl ?_
                exact awl_nil ⟨rfl, post_put⟩⟩⟩
            , ⟨_, rfl, fun sl hd hr ho => by
                refine g_skip rfl (hd 7 _ rfl rfl rfl) hg27 rfl ?_
                exact awl_nil ⟨rfl, post_put⟩⟩⟩
            , ⟨_, rfl, fun sl hd hr ho => by
                refine g_skip rfl (hd 7 _ rfl rfl rfl) hg27 rfl ?_
                exact awl_nil ⟨rfl, post_put⟩⟩⟩
            (by rfl) ?_
          refine g_skip rfl rfl hg27 rfl ?_
          refine g_run rfl rfl hg21 ?_
          refine r_pickF rfl hg27 rfl rfl ?_
          refine r_pickF rfl hg21 rfl rfl ?_
          refine r_assign rfl rfl ?_
          refine awl_nil ?_
          refine x_block ?_
          refine x_then ?_
          refine awp_region ?_
          refine r_move rfl rfl ?_
          refine r_ari _ rfl rfl rfl (wrap_id (by omega)) rfl ?_
          refine r_assign rfl rfl ?_
          refine awl_nil ?_
          refine x_then ?_
          refine ⟨l.length - (j + 1), ⟨51, [(0, .a (choicesA l)), (3, .a (strsA ((l.take k).foldl (fun ns c => cond (anyW l c.name) ns (insS ns c.name)) []))), (4, .a (.v (.int .i64 ((k : Int))))), (5, .a (boolA ((l.take (j + 1)).any fun d => d.whole && decide (d.name = x.name)))), (6, .a (.v (.int .i64 (((j + 1) : Int)))))], []⟩, ⟨rfl, (Slots.cons rfl (by first | exact .refl _ | exact .nilOwn _ _ | exact .nilSl _ | exact .ownSl _ _ _ | exact SV.le.of_eq (by rw [e2] <;> rfl)) (Slots.cons rfl (by first | exact .refl _ | exact .nilOwn _ _ | exact .nilSl _ | exact .ownSl _ _ _ | exact SV.le.of_eq (by rw [e2] <;> rfl)) (Slots.cons rfl (by first | exact .refl _ | exact .nilOwn _ _ | exact .nilSl _ | exact .ownSl _ _ _ | exact SV.le.of_eq (by rw [e2] <;> rfl)) (Slots.cons rfl (by first | exact .refl _ | exact .nilOwn _ _ | exact .nilSl _ | exact .ownSl _ _ _ | exact SV.le.of_eq (by rw [e2] <;> rfl)) (Slots.cons rfl (by first | exact .refl _ | exact .nilOwn _ _ | exact .nilSl _ | exact .ownSl _ _ _ | exact SV.le.of_eq (by rw [e2] <;> rfl)) Slots.nil))))), (by first | exact List.Sublist.refl _ | exact List.nil_sublist _ | exact .cons _ (.refl _) | exact .cons _ (.cons _ (.refl _)) | exact .cons _ (.cons _ (.cons _ (.refl _))) | exact .cons _ (.cons _ (.cons _ (.cons _ (.refl _)))) | exact .cons_cons _ (List.nil_sublist _))⟩, (by omega), ⟨j + 1, rfl, rfl, (by have := (List.getElem?_eq_some_iff.1 hy).1; omega)⟩⟩
    ·
      have hgej : l.length ≤ j := by have := of_decide_eq_false hc1; simp at this; omega
      have hjl : ((l.take j).any fun d => d.whole && decide (d.name = x.name)) = anyW l x.name := by rw [List.take_of_length_le hgej]; rfl
      rw [hjl]
      refine awp_exit ?_
      refine x_thenE ?_
      refine x_thenE ?_
      refine x_blockE ?_
      refine x_then ?_
      refine awp_seq ?_
      refine awp_region ?_
      refine r_move rfl rfl ?_
      refine r_not rfl rfl ?_
      refine awl_nil ?_
      refine x_then ?_
      refine awp_cond rfl (fun hc2 => ?_) (fun hc2 => ?_)
      ·
        rw [(Bool.not_eq_true' _).mp hc2] at e
        refine awp_region ?_
        refine r_move rfl rfl ?_
        refine r_move rfl rfl ?_
        refine r_move rfl rfl ?_
        refine r_index rfl rfl rfl T.sl34 T.sz40 (by omega) (get_map hx) rfl ?_
        first | (refine r_fieldcp rfl T.f40_0 T.sz9 rfl ?_) | (refine r_fieldb rfl T.f40_0 T.sz9 rfl ?_)
        refine r_load1 rfl T.agg9 rfl ?_
        refine r_call0 rfl rfl (.cons (.ev rfl rfl) (.cons (.ev rfl rfl) .nil)) (insert_ok _ x.name (by omega)) rfl T.en34 rfl (fun r hr => ?_)
        obtain rfl := hr
        refine r_assign rfl rfl ?_
        refine awl_nil ?_
        refine x_block ?_
        refine x_then ?_
        refine awp_region ?_
        refine r_move rfl rfl ?_
        refine r_ari _ rfl rfl rfl (wrap_id (by omega)) rfl ?_
        refine r_assign rfl rfl ?_
        refine awl_nil ?_
        refine x_then ?_
        refine ⟨l.length - (k + 1), ⟨51, [(0, .a (choicesA l)), (3, .a (strsA ((l.take (k + 1)).foldl (fun ns c => cond (anyW l c.name) ns (insS ns c.name)) []))), (4, .a (.v (.int .i64 (((k + 1) : Int)))))], []⟩, ⟨rfl, (Slots.cons rfl (by first | exact .refl _ | exact .nilOwn _ _ | exact .nilSl _ | exact .ownSl _ _ _ | exact SV.le.of_eq (by rw [e] <;> rfl)) (Slots.cons rfl (by first | exact .refl _ | exact .nilOwn _ _ | exact .nilSl _ | exact .ownSl _ _ _ | exact SV.le.of_eq (by rw [e] <;> rfl)) (Slots.cons rfl (by first | exact .refl _ | exact .nilOwn _ _ | exact .nilSl _ | exact .ownSl _ _ _ | exact SV.le.of_eq (by rw [e] <;> rfl)) Slots.nil))), (by first | exact List.Sublist.refl _ | exact List.nil_sublist _ | exact .cons _ (.refl _) | exact .cons _ (.cons _ (.refl _)) | exact .cons _ (.cons _ (.cons _ (.refl _))) | exact .cons _ (.cons _ (.cons _ (.cons _ (.refl _)))) | exact .cons_cons _ (List.nil_sublist _))⟩, (by omega), ⟨k + 1, rfl, rfl, (by have := (List.getElem?_eq_some_iff.1 hx).1; omega)⟩⟩
      ·
        rw [(Bool.not_eq_false' _).mp hc2] at e
        refine awp_skip ?_
        refine x_block ?_
        refine x_then ?_
        refine awp_region ?_
        refine r_move rfl rfl ?_
        refine r_ari _ rfl rfl rfl (wrap_id (by omega)) rfl ?_
        refine r_assign rfl rfl ?_
        refine awl_nil ?_
        refine x_then ?_
        refine ⟨l.length - (k + 1), ⟨51, [(0, .a (choicesA l)), (3, .a (strsA ((l.take (k + 1)).foldl (fun ns c => cond (anyW l c.name) ns (insS ns c.name)) []))), (4, .a (.v (.int .i64 (((k + 1) : Int)))))], []⟩, ⟨rfl, (Slots.cons rfl (by first | exact .refl _ | exact .nilOwn _ _ | exact .nilSl _ | exact .ownSl _ _ _ | exact SV.le.of_eq (by rw [e] <;> rfl)) (Slots.cons rfl (by first | exact .refl _ | exact .nilOwn _ _ | exact .nilSl _ | exact .ownSl _ _ _ | exact SV.le.of_eq (by rw [e] <;> rfl)) (Slots.cons rfl (by first | exact .refl _ | exact .nilOwn _ _ | exact .nilSl _ | exact .ownSl _ _ _ | exact SV.le.of_eq (by rw [e] <;> rfl)) Slots.nil))), (by first | exact List.Sublist.refl _ | exact List.nil_sublist _ | exact .cons _ (.refl _) | exact .cons _ (.cons _ (.refl _)) | exact .cons _ (.cons _ (.cons _ (.refl _))) | exact .cons _ (.cons _ (.cons _ (.cons _ (.refl _)))) | exact .cons_cons _ (List.nil_sublist _))⟩, (by omega), ⟨k + 1, rfl, rfl, (by have := (List.getElem?_eq_some_iff.1 hx).1; omega)⟩⟩
  ·
    have hge : l.length ≤ k := by have := of_decide_eq_false hc0; simp at this; omega
    have hkl : l.take k = l := List.take_of_length_le hge
    refine awp_exit ?_
    refine x_thenE ?_
    refine x_thenE ?_
    refine x_blockE ?_
    refine x_then ?_
    refine awp_seq ?_
    refine awp_region ?_
    refine r_move rfl rfl ?_
    refine r_assign rfl rfl ?_
    refine awl_nil ?_
    refine x_then ?_
    refine awp_ret ?_
    exact ⟨(.inl rfl), _, [], (.one (by first | exact .mk rfl rfl | exact .nil rfl)), ⟨rfl, by rw [hkl]; rfl⟩, (List.nil_sublist _), (by simp)⟩

theorem files_law (l : List Choice) : AC Try.prog 4 [choicesA l] [] (fun r n => n = [] ∧ r = boolA true) := by
  refine ac_of_awp (rs := [2]) (nt := 102) Try.func4 rfl rfl rfl rfl (fun w0 C0 => ?_)
  refine awp_seq ?_
  refine awp_region ?_
  refine r_assign rfl rfl ?_
  refine awl_nil ?_
  refine x_then ?_
  refine awp_seq ?_
  refine awp_seq ?_
  refine awp_region ?_
  refine r_call0 rfl rfl .nil (awake_ok) rfl T.en9 rfl (fun r hr => ?_)
  obtain rfl := hr
  refine r_not rfl rfl ?_
  refine awl_nil ?_
  refine x_then ?_
  refine awp_cond rfl (fun hc0 => ?_) (fun hc0 => ?_)
  ·
    exfalso; exact absurd hc0 (by decide)
  ·
    refine awp_skip ?_
    refine x_then ?_
    refine awp_seq ?_
    refine awp_seq ?_
    refine awp_region ?_
    refine r_move rfl rfl ?_
    first | (refine r_lenS rfl rfl T.sl34 rfl ?_) | (refine r_lenNil rfl T.sl34 rfl ?_)
    refine r_cmp rfl rfl rfl rfl ?_
    refine awl_nil ?_
    refine x_then ?_
    refine awp_cond rfl (fun hc1 => ?_) (fun hc1 => ?_)
    ·
      refine awp_seq ?_
      refine awp_region ?_
      refine r_assign rfl rfl ?_
      refine awl_nil ?_
      refine x_then ?_
      refine awp_ret ?_
      refine x_thenR ?_
      exact ⟨(.inl rfl), _, [], (.one (by first | exact .mk rfl rfl | exact .nil rfl)), ⟨rfl, rfl⟩, (List.nil_sublist _), (by simp)⟩
    ·
      have hl20 : l.length ≤ 20 := by have := of_decide_eq_false hc1; simp at this; omega
      refine awp_skip ?_
      refine x_then ?_
      refine awp_seq ?_
      refine awp_seq ?_
      refine awp_region ?_
      refine r_move rfl rfl ?_
      first | (refine r_lenS rfl rfl T.sl34 rfl ?_) | (refine r_lenNil rfl T.sl34 rfl ?_)
      refine r_move rfl rfl ?_
      refine awl_nil ?_
      refine x_then ?_
      refine awp_block ?_
      refine awp_loop (fun nn0 S => ∃ k : Nat, S = ⟨102, [(0, .a (choicesA l)), (16, .a (choicesA l)), (17, .a (.v (.int .i64 ((l.map Choice.cs).length)))), (18, .a (.v (.int .i64 ((k : Int)))))], []⟩ ∧ nn0 = l.length - k ∧ (k ≤ l.length) ∧ (∀ c ∈ l.take k, c.name.size ≤ 40 ∧ c.data.length ≤ 300)) (l.length - (0)) ⟨102, [(0, .a (choicesA l)), (16, .a (choicesA l)), (17, .a (.v (.int .i64 ((l.map Choice.cs).length)))), (18, .a (.v (.int .i64 (((0) : Int)))))], []⟩ ⟨rfl, (Slots.cons rfl (by first | exact .refl _ | exact .nilOwn _ _ | exact .nilSl _ | exact .ownSl _ _ _ | exact SV.le.of_eq (by simp)) (Slots.cons rfl (by first | exact .refl _ | exact .nilOwn _ _ | exact .nilSl _ | exact .ownSl _ _ _ | exact SV.le.of_eq (by simp)) (Slots.cons rfl (by first | exact .refl _ | exact .nilOwn _ _ | exact .nilSl _ | exact .ownSl _ _ _ | exact SV.le.of_eq (by simp)) (Slots.cons rfl (by first | exact .refl _ | exact .nilOwn _ _ | exact .nilSl _ | exact .ownSl _ _ _ | exact SV.le.of_eq (by simp)) Slots.nil)))), (by first | exact List.Sublist.refl _ | exact List.nil_sublist _ | exact .cons _ (.refl _) | exact .cons _ (.cons _ (.refl _)) | exact .cons _ (.cons _ (.cons _ (.refl _))) | exact .cons _ (.cons _ (.cons _ (.cons _ (.refl _)))) | exact .cons_cons _ (List.nil_sublist _))⟩ ⟨0, rfl, rfl, Nat.zero_le _, (fun m hm => by simp at hm)⟩ ?_
      rintro nn0 _ ⟨k, rfl, rfl, hk, hd⟩
      refine awp_seq ?_
      refine awp_region ?_
      refine r_cmp rfl rfl rfl rfl ?_
      refine awl_nil ?_
      refine x_then ?_
      refine awp_seq ?_
      refine awp_cond rfl (fun hc2 => ?_) (fun hc2 => ?_)
      ·
        have hlt : k < l.length := by have := of_decide_eq_true hc2; simpa using this
        obtain ⟨x, hx⟩ := get_lt hlt
        refine awp_skip ?_
        refine x_then ?_
        refine awp_seq ?_
        refine awp_block ?_
        refine awp_seq ?_
        refine awp_region ?_
        refine r_index rfl rfl rfl T.sl34 T.sz40 (by omega) (get_map hx) rfl ?_
        refine r_loadA rfl T.agg40 T.sz40 rfl rfl ?_
        refine r_alloc T.zero40 rfl (fun b4 => ?_)
        refine r_store 0 rfl rfl rfl T.sz40 rfl rfl rfl ?_
        refine awl_nil ?_
        refine x_then ?_
        refine awp_seq ?_
        refine awp_region ?_
        first | (refine r_fieldcp rfl T.f40_0 T.sz9 rfl ?_) | (refine r_fieldb rfl T.f40_0 T.sz9 rfl ?_)
        first | (refine r_load1 rfl T.agg9 rfl ?_) | (refine r_load1b 0 rfl rfl rfl T.agg9 rfl ?_)
        refine r_lenStr rfl T.un9 rfl ?_
        refine r_cmp rfl rfl rfl rfl ?_
        refine r_move rfl rfl ?_
        refine g_cases (t' := 26) rfl (fun hg26 => ?_) (fun hg26 => ?_)
        ·
          refine g_skip rfl rfl hg26 rfl ?_
          refine g_skip rfl rfl hg26 rfl ?_
          refine g_skip rfl rfl hg26 rfl ?_
          refine g_skip rfl rfl hg26 rfl ?_
          refine r_pickT rfl hg26 rfl rfl ?_
          refine awl_nil ?_
          refine x_then ?_
          refine awp_condT rfl ?_
          refine awp_seq ?_
          refine awp_region ?_
          refine r_assign rfl rfl ?_
          refine awl_nil ?_
          refine x_then ?_
          refine awp_ret ?_
          refine x_blockR ?_
          refine x_thenR ?_
          refine x_thenR ?_
          refine x_blockR ?_
          refine x_thenR ?_
          exact ⟨(.inl rfl), _, [], (.one (by first | exact .mk rfl rfl | exact .nil rfl)), ⟨rfl, rfl⟩, (List.nil_sublist _), (by simp)⟩
        ·
          refine g_run rfl rfl hg26 ?_
          first | (refine r_fieldcp rfl T.f40_3 T.sz31 rfl ?_) | (refine r_fieldb rfl T.f40_3 T.sz31 rfl ?_)
          refine g_run rfl rfl hg26 ?_
          first | (refine r_load1 rfl T.agg31 rfl ?_) | (refine r_load1b 0 rfl rfl rfl T.agg31 rfl ?_)
          refine g_run rfl rfl hg26 ?_
          first | (refine r_lenS rfl rfl T.sl31 rfl ?_) | (refine r_lenNil rfl T.sl31 rfl ?_)
          refine g_run rfl rfl hg26 ?_
          refine r_cmp rfl rfl rfl rfl ?_
          refine r_pickF rfl hg26 rfl rfl ?_
          refine awl_nil ?_
          refine x_then ?_
          refine awp_cond rfl (fun hc3 => ?_) (fun hc3 => ?_)
          ·
            refine awp_seq ?_
            refine awp_region ?_
            refine r_assign rfl rfl ?_
            refine awl_nil ?_
            refine x_then ?_
            refine awp_ret ?_
            refine x_blockR ?_
            refine x_thenR ?_
            refine x_thenR ?_
            refine x_blockR ?_
            refine x_thenR ?_
            exact ⟨(.inl rfl), _, [], (.one (by first | exact .mk rfl rfl | exact .nil rfl)), ⟨rfl, rfl⟩, (List.nil_sublist _), (by simp)⟩
          ·
            refine awp_skip ?_
            refine x_block ?_
            refine x_then ?_
            refine awp_region ?_
            refine r_ari _ rfl rfl rfl (wrap_id (by omega)) rfl ?_
            refine r_move rfl rfl ?_
            refine awl_nil ?_
            refine x_then ?_
            refine ⟨l.length - (k + 1), ⟨102, [(0, .a (choicesA l)), (16, .a (choicesA l)), (17, .a (.v (.int .i64 ((l.map Choice.cs).length)))), (18, .a (.v (.int .i64 (((k + 1) : Int)))))], []⟩, ⟨rfl, (Slots.cons rfl (by first | exact .refl _ | exact .nilOwn _ _ | exact .nilSl _ | exact .ownSl _ _ _ | exact SV.le.of_eq (by simp)) (Slots.cons rfl (by first | exact .refl _ | exact .nilOwn _ _ | exact .nilSl _ | exact .ownSl _ _ _ | exact SV.le.of_eq (by simp)) (Slots.cons rfl (by first | exact .refl _ | exact .nilOwn _ _ | exact .nilSl _ | exact .ownSl _ _ _ | exact SV.le.of_eq (by simp)) (Slots.cons rfl (by first | exact .refl _ | exact .nilOwn _ _ | exact .nilSl _ | exact .ownSl _ _ _ | exact SV.le.of_eq (by simp)) Slots.nil)))), (by first | exact List.Sublist.refl _ | exact List.nil_sublist _ | exact .cons _ (.refl _) | exact .cons _ (.cons _ (.refl _)) | exact .cons _ (.cons _ (.cons _ (.refl _))) | exact .cons _ (.cons _ (.cons _ (.cons _ (.refl _)))) | exact .cons_cons _ (List.nil_sublist _))⟩, (by omega), ⟨k + 1, rfl, rfl, (by have := (List.getElem?_eq_some_iff.1 hx).1; omega), (all_takeS hx hd ⟨by have := of_decide_eq_false hg26; simp at this; omega, by have := of_decide_eq_false hc3; simp [u8s] at this; omega⟩)⟩⟩
      ·
        have hge : l.length ≤ k := by have := of_decide_eq_false hc2; simp at this; omega
        replace hd := all_end hge hd
        have hd' : ∀ c ∈ l, c.name.size ≤ 1000000 ∧ c.data.length ≤ 1000000 := fun c hc => by have := hd c hc; omega
        refine awp_exit ?_
        refine x_thenE ?_
        refine x_thenE ?_
        refine x_blockE ?_
        refine x_then ?_
        refine awp_seq ?_
        refine awp_region ?_
        refine r_move rfl rfl ?_
        refine r_call0 rfl rfl (.cons (.ev rfl rfl) .nil) (choices_ok l (by omega) (fun c hc => (hd' c hc).2)) rfl T.en17 rfl (fun r hr => ?_)
        obtain rfl := hr
        refine r_call0 rfl rfl (.cons (.ev rfl rfl) .nil) (sfiles_ok l (by omega) hd') rfl T.en16 rfl (fun r hr => ?_)
        obtain rfl := hr
        rw [files_eq]
        refine r_move rfl rfl ?_
        refine r_call0 rfl rfl (.cons (.ev rfl rfl) .nil) (rfiles_ok l (by omega) (fun c hc => (hd' c hc).2)) rfl T.en18 rfl (fun r hr => ?_)
        obtain rfl := hr
        refine r_assign rfl rfl ?_
        refine r_assign rfl rfl ?_
        refine awl_nil ?_
        refine x_then ?_
        refine awp_seq ?_
        refine awp_region ?_
        refine r_move rfl rfl ?_
        refine r_call0 rfl rfl (.cons (.ev rfl rfl) .nil) (choices_ok l (by omega) (fun c hc => (hd' c hc).2)) rfl T.en17 rfl (fun r hr => ?_)
        obtain rfl := hr
        refine r_call0 rfl rfl (.cons (.ev rfl rfl) .nil) (slost_ok l (by omega) hd') rfl T.en19 rfl (fun r hr => ?_)
        obtain rfl := hr
        rw [lost_eq]
        refine r_move rfl rfl ?_
        refine r_call0 rfl rfl (.cons (.ev rfl rfl) .nil) (rlost_ok l (by omega)) rfl T.en20 rfl (fun r hr => ?_)
        obtain rfl := hr
        generalize hfs : rfilesOf l = fs
        generalize hns : rlostOf l = ns
        have hfl : fs.length ≤ 8 := by rw [← hfs]; simp [rfilesOf]; omega
        have hnl : ns.length ≤ 20 := by have := rlost_len_aux (anyW l) l []; rw [← rlost_def, hns] at this; simp at this; omega
        refine r_assign rfl rfl ?_
        refine r_assign rfl rfl ?_
        refine awl_nil ?_
        refine x_then ?_
        refine awp_seq ?_
        refine awp_seq ?_
        refine awp_region ?_
        refine r_move rfl rfl ?_
        first | (refine r_lenS rfl rfl T.sl41 rfl ?_) | (refine r_lenNil rfl T.sl41 rfl ?_)
        refine r_move rfl rfl ?_
        first | (refine r_lenS rfl rfl T.sl44 rfl ?_) | (refine r_lenNil rfl T.sl44 rfl ?_)
        refine r_cmp rfl rfl rfl rfl ?_
        refine r_move rfl rfl ?_
        refine g_run rfl rfl (by simp) ?_
        refine r_move rfl rfl ?_
        refine g_run rfl rfl (by simp) ?_
        first | (refine r_lenS rfl rfl T.sl46 rfl ?_) | (refine r_lenNil rfl T.sl46 rfl ?_)
        refine g_run rfl rfl (by simp) ?_
        refine r_move rfl rfl ?_
        refine g_run rfl rfl (by simp) ?_
        first | (refine r_lenS rfl rfl T.sl46 rfl ?_) | (refine r_lenNil rfl T.sl46 rfl ?_)
        refine g_run rfl rfl (by simp) ?_
        refine r_cmp rfl rfl rfl rfl ?_
        refine r_pickF rfl (by simp) rfl rfl ?_
        refine awl_nil ?_
        refine x_then ?_
        refine awp_cond rfl (fun hc4 => ?_) (fun hc4 => ?_)
        ·
          exfalso; simp at hc4
        ·
          refine awp_skip ?_
          refine x_then ?_
          refine awp_seq ?_
          refine awp_seq ?_
          refine awp_region ?_
          refine r_move rfl rfl ?_
          first | (refine r_lenS rfl rfl T.sl41 rfl ?_) | (refine r_lenNil rfl T.sl41 rfl ?_)
          refine r_move rfl rfl ?_
          refine awl_nil ?_
          refine x_then ?_
          refine awp_block ?_
          refine awp_loop (fun nn0 S => ∃ k : Nat, S = ⟨102, [(5, .a (files fs)), (6, .a (files fs)), (7, .a (strsA ns)), (8, .a (strsA ns)), (56, .a (.v (.int .i64 ((fs.map File.cs).length)))), (57, .a (.v (.int .i64 ((k : Int)))))], []⟩ ∧ nn0 = fs.length - k ∧ (k ≤ fs.length)) (fs.length - (0)) ⟨102, [(5, .a (files fs)), (6, .a (files fs)), (7, .a (strsA ns)), (8, .a (strsA ns)), (56, .a (.v (.int .i64 ((fs.map File.cs).length)))), (57, .a (.v (.int .i64 (((0) : Int)))))], []⟩ ⟨rfl, (Slots.cons rfl (by first | exact .refl _ | exact .nilOwn _ _ | exact .nilSl _ | exact .ownSl _ _ _ | exact SV.le.of_eq (by simp)) (Slots.cons rfl (by first | exact .refl _ | exact .nilOwn _ _ | exact .nilSl _ | exact .ownSl _ _ _ | exact SV.le.of_eq (by simp)) (Slots.cons rfl (by first | exact .refl _ | exact .nilOwn _ _ | exact .nilSl _ | exact .ownSl _ _ _ | exact SV.le.of_eq (by simp)) (Slots.cons rfl (by first | exact .refl _ | exact .nilOwn _ _ | exact .nilSl _ | exact .ownSl _ _ _ | exact SV.le.of_eq (by simp)) (Slots.cons rfl (by first | exact .refl _ | exact .nilOwn _ _ | exact .nilSl _ | exact .ownSl _ _ _ | exact SV.le.of_eq (by simp)) (Slots.cons rfl (by first | exact .refl _ | exact .nilOwn _ _ | exact .nilSl _ | exact .ownSl _ _ _ | exact SV.le.of_eq (by simp)) Slots.nil)))))), (by first | exact List.Sublist.refl _ | exact List.nil_sublist _ | exact .cons _ (.refl _) | exact .cons _ (.cons _ (.refl _)) | exact .cons _ (.cons _ (.cons _ (.refl _))) | exact .cons _ (.cons _ (.cons _ (.cons _ (.refl _)))) | exact .cons_cons _ (List.nil_sublist _))⟩ ⟨0, rfl, rfl, Nat.zero_le _⟩ ?_
          rintro nn0 _ ⟨k, rfl, rfl, hk⟩
          refine awp_seq ?_
          refine awp_region ?_
          refine r_cmp rfl rfl rfl rfl ?_
          refine awl_nil ?_
          refine x_then ?_
          refine awp_seq ?_
          refine awp_cond rfl (fun hc5 => ?_) (fun hc5 => ?_)
          ·
            have hlt : k < fs.length := by have := of_decide_eq_true hc5; simpa using this
            obtain ⟨x, hx⟩ := get_lt hlt
            refine awp_skip ?_
            refine x_then ?_
            refine awp_seq ?_
            refine awp_block ?_
            refine awp_seq ?_
            refine awp_region ?_
            refine r_move rfl rfl ?_
            refine r_assign rfl rfl ?_
            refine awl_nil ?_
            refine x_then ?_
            refine awp_seq ?_
            refine awp_drawS [60, 61, 62, 63, 64, 65, 66, 67, 68, 69, 70, 71, 72, 73, 74, 75, 76, 77, 78, 79, 80, 81, 82, 83] [_, _, _, _, _, _, _, _, _, _, _, _, _, _, _, _, _, _, _, _, _, _, _, _] [] [] T.mixed rfl rfl rfl ⟨⟨⟨⟨⟨⟨⟨⟨⟨⟨⟨⟨⟨⟨⟨⟨⟨⟨⟨⟨⟨⟨⟨⟨trivial
              , ⟨_, rfl, fun sl hd hr ho => by
                  refine r_move (hr 5 _ rfl rfl rfl) rfl ?_
                  exact awl_nil ⟨rfl, post_put⟩⟩⟩
              , ⟨_, rfl, fun sl hd hr ho => by
                  refine r_move (hr 9 _ rfl rfl rfl) rfl ?_
                  exact awl_nil ⟨rfl, post_put⟩⟩⟩
              , ⟨_, rfl, fun sl hd hr ho => by
                  refine r_index (hd 0 _ rfl rfl rfl) rfl (hd 1 _ rfl rfl rfl) T.sl41 T.sz50 (by omega) (get_map hx) rfl ?_
                  exact awl_nil ⟨rfl, post_put⟩⟩⟩
              , ⟨_, rfl, fun sl hd hr ho => by
                  first | (refine r_fieldcp (hd 2 _ rfl rfl rfl) T.f50_0 T.sz9 rfl ?_) | (refine r_fieldb (hd 2 _ rfl rfl rfl) T.f50_0 T.sz9 rfl ?_)
                  exact awl_nil ⟨rfl, post_put⟩⟩⟩
              , ⟨_, rfl, fun sl hd hr ho => by
                  refine r_load1 (hd 3 _ rfl rfl rfl) T.agg9 rfl ?_
                  exact awl_nil ⟨rfl, post_put⟩⟩⟩
              , ⟨_, rfl, fun sl hd hr ho => by
                  refine r_move (hr 6 _ rfl rfl rfl) rfl ?_
                  exact awl_nil ⟨rfl, post_put⟩⟩⟩
              , ⟨_, rfl, fun sl hd hr ho => by
                  refine r_move (hr 9 _ rfl rfl rfl) rfl ?_
                  exact awl_nil ⟨rfl, post_put⟩⟩⟩
              , ⟨_, rfl, fun sl hd hr ho => by
                  refine r_index (hd 5 _ rfl rfl rfl) rfl (hd 6 _ rfl rfl rfl) T.sl44 T.sz51 (by omega) (get_map hx) rfl ?_
                  exact awl_nil ⟨rfl, post_put⟩⟩⟩
              , ⟨_, rfl, fun sl hd hr ho => by
                  first | (refine r_fieldcp (hd 7 _ rfl rfl rfl) T.f51_0 T.sz9 rfl ?_) | (refine r_fieldb (hd 7 _ rfl rfl rfl) T.f51_0 T.sz9 rfl ?_)
                  exact awl_nil ⟨rfl, post_put⟩⟩⟩
              , ⟨_, rfl, fun sl hd hr ho => by
                  refine r_load1 (hd 8 _ rfl rfl rfl) T.agg9 rfl ?_
                  exact awl_nil ⟨rfl, post_put⟩⟩⟩
              , ⟨_, rfl, fun sl hd hr ho => by
                  refine r_str2 (hd 4 _ rfl rfl rfl) (hd 9 _ rfl rfl rfl) rfl rfl ?_
                  exact awl_nil ⟨rfl, post_put⟩⟩⟩
              , ⟨_, rfl, fun sl hd hr ho => by
                  refine r_move (hd 10 _ rfl rfl rfl) rfl ?_
                  exact awl_nil ⟨rfl, post_put⟩⟩⟩
              , ⟨_, rfl, fun sl hd hr ho => by
                  refine g_run rfl (hd 11 _ rfl rfl rfl) (by simp) ?_
                  refine r_move (hr 5 _ rfl rfl rfl) rfl ?_
                  exact awl_nil ⟨rfl, post_put⟩⟩⟩
              , ⟨_, rfl, fun sl hd hr ho => by
                  refine g_run rfl (hd 11 _ rfl rfl rfl) (by simp) ?_
                  refine r_move (hr 9 _ rfl rfl rfl) rfl ?_
                  exact awl_nil ⟨rfl, post_put⟩⟩⟩
              , ⟨_, rfl, fun sl hd hr ho => by
                  refine g_run rfl (hd 11 _ rfl rfl rfl) (by simp) ?_
                  refine r_index (hd 12 _ rfl rfl rfl) rfl (hd 13 _ rfl rfl rfl) T.sl41 T.sz50 (by omega) (get_map hx) rfl ?_
                  exact awl_nil ⟨rfl, post_put⟩⟩⟩
              , ⟨_, rfl, fun sl hd hr ho => by
                  refine g_run rfl (hd 11 _ rfl rfl rfl) (by simp) ?_
                  first | (refine r_fieldcp (hd 14 _ rfl rfl rfl) T.f50_1 T.sz31 rfl ?_) | (refine r_fieldb (hd 14 _ rfl rfl rfl) T.f50_1 T.sz31 rfl ?_)
                  exact awl_nil ⟨rfl, post_put⟩⟩⟩
              , ⟨_, rfl, fun sl hd hr ho => by
                  refine g_run rfl (hd 11 _ rfl rfl rfl) (by simp) ?_
                  refine r_load1 (hd 15 _ rfl rfl rfl) T.agg31 rfl ?_
                  exact awl_nil ⟨rfl, post_put⟩⟩⟩
              , ⟨_, rfl, fun sl hd hr ho => by
                  refine g_run rfl (hd 11 _ rfl rfl rfl) (by simp) ?_
                  refine r_convBS x.data (hd 16 _ rfl rfl rfl) rfl T.sl31 T.un5 T.un9 rfl ?_
                  exact awl_nil ⟨rfl, post_put⟩⟩⟩
              , ⟨_, rfl, fun sl hd hr ho => by
                  refine g_run rfl (hd 11 _ rfl rfl rfl) (by simp) ?_
                  refine r_move (hr 6 _ rfl rfl rfl) rfl ?_
                  exact awl_nil ⟨rfl, post_put⟩⟩⟩
              , ⟨_, rfl, fun sl hd hr ho => by
                  refine g_run rfl (hd 11 _ rfl rfl rfl) (by simp) ?_
                  refine r_move (hr 9 _ rfl rfl rfl) rfl ?_
                  exact awl_nil ⟨rfl, post_put⟩⟩⟩
              , ⟨_, rfl, fun sl hd hr ho => by
                  refine g_run rfl (hd 11 _ rfl rfl rfl) (by simp) ?_
                  refine r_index (hd 18 _ rfl rfl rfl) rfl (hd 19 _ rfl rfl rfl) T.sl44 T.sz51 (by omega) (get_map hx) rfl ?_
                  exact awl_nil ⟨rfl, post_put⟩⟩⟩
              , ⟨_, rfl, fun sl hd hr ho => by
                  refine g_run rfl (hd 11 _ rfl rfl rfl) (by simp) ?_
                  first | (refine r_fieldcp (hd 20 _ rfl rfl rfl) T.f51_1 T.sz31 rfl ?_) | (refine r_fieldb (hd 20 _ rfl rfl rfl) T.f51_1 T.sz31 rfl ?_)
                  exact awl_nil ⟨rfl, post_put⟩⟩⟩
              , ⟨_, rfl, fun sl hd hr ho => by
                  refine g_run rfl (hd 11 _ rfl rfl rfl) (by simp) ?_
                  refine r_load1 (hd 21 _ rfl rfl rfl) T.agg31 rfl ?_
                  exact awl_nil ⟨rfl, post_put⟩⟩⟩
              , ⟨_, rfl, fun sl hd hr ho => by
                  refine g_run rfl (hd 11 _ rfl rfl rfl) (by simp) ?_
                  refine r_convBS x.data (hd 22 _ rfl rfl rfl) rfl T.sl31 T.un5 T.un9 rfl ?_
                  exact awl_nil ⟨rfl, post_put⟩⟩⟩
              (by rfl) ?_
            refine g_run rfl rfl (by simp) ?_
            refine r_str2 rfl rfl rfl rfl ?_
            refine r_pickF rfl (by simp) rfl rfl ?_
            refine awl_nil ?_
            refine x_then ?_
            refine awp_cond rfl (fun hc6 => ?_) (fun hc6 => ?_)
            ·
              exfalso; simp at hc6
            ·
              refine awp_skip ?_
              refine x_block ?_
              refine x_then ?_
              refine awp_region ?_
              refine r_ari _ rfl rfl rfl (wrap_id (by omega)) rfl ?_
              refine r_move rfl rfl ?_
              refine awl_nil ?_
              refine x_then ?_
              refine ⟨fs.length - (k + 1), ⟨102, [(5, .a (files fs)), (6, .a (files fs)), (7, .a (strsA ns)), (8, .a (strsA ns)), (56, .a (.v (.int .i64 ((fs.map File.cs).length)))), (57, .a (.v (.int .i64 (((k + 1) : Int)))))], []⟩, ⟨rfl, (Slots.cons rfl (by first | exact .refl _ | exact .nilOwn _ _ | exact .nilSl _ | exact .ownSl _ _ _ | exact SV.le.of_eq (by simp)) (Slots.cons rfl (by first | exact .refl _ | exact .nilOwn _ _ | exact .nilSl _ | exact .ownSl _ _ _ | exact SV.le.of_eq (by simp)) (Slots.cons rfl (by first | exact .refl _ | exact .nilOwn _ _ | exact .nilSl _ | exact .ownSl _ _ _ | exact SV.le.of_eq (by simp)) (Slots.cons rfl (by first | exact .refl _ | exact .nilOwn _ _ | exact .nilSl _ | exact .ownSl _ _ _ | exact SV.le.of_eq (by simp)) (Slots.cons rfl (by first | exact .refl _ | exact .nilOwn _ _ | exact .nilSl _ | exact .ownSl _ _ _ | exact SV.le.of_eq (by simp)) (Slots.cons rfl (by first | exact .refl _ | exact .nilOwn _ _ | exact .nilSl _ | exact .ownSl _ _ _ | exact SV.le.of_eq (by simp)) Slots.nil)))))), (by first | exact List.Sublist.refl _ | exact List.nil_sublist _ | exact .cons _ (.refl _) | exact .cons _ (.cons _ (.refl _)) | exact .cons _ (.cons _ (.cons _ (.refl _))) | exact .cons _ (.cons _ (.cons _ (.cons _ (.refl _)))) | exact .cons_cons _ (List.nil_sublist _))⟩, (by omega), ⟨k + 1, rfl, rfl, (by have := (List.getElem?_eq_some_iff.1 hx).1; omega)⟩⟩
          ·
            have hge : fs.length ≤ k := by have := of_decide_eq_false hc5; simp at this; omega
            refine awp_exit ?_
            refine x_thenE ?_
            refine x_thenE ?_
            refine x_blockE ?_
            refine x_then ?_
            refine awp_seq ?_
            refine awp_seq ?_
            refine awp_region ?_
            refine r_move rfl rfl ?_
            first | (refine r_lenS rfl rfl T.sl46 rfl ?_) | (refine r_lenNil rfl T.sl46 rfl ?_)
            refine r_move rfl rfl ?_
            refine awl_nil ?_
            refine x_then ?_
            refine awp_block ?_
            refine awp_loop (fun nn0 S => ∃ k : Nat, S = ⟨102, [(7, .a (strsA ns)), (8, .a (strsA ns)), (88, .a (.v (.int .i64 ((ns.map fun s => [AV.v (.string s)]).length)))), (89, .a (.v (.int .i64 ((k : Int)))))], []⟩ ∧ nn0 = ns.length - k ∧ (k ≤ ns.length)) (ns.length - (0)) ⟨102, [(7, .a (strsA ns)), (8, .a (strsA ns)), (88, .a (.v (.int .i64 ((ns.map fun s => [AV.v (.string s)]).length)))), (89, .a (.v (.int .i64 (((0) : Int)))))], []⟩ ⟨rfl, (Slots.cons rfl (by first | exact .refl _ | exact .nilOwn _ _ | exact .nilSl _ | exact .ownSl _ _ _ | exact SV.le.of_eq (by simp)) (Slots.cons rfl (by first | exact .refl _ | exact .nilOwn _ _ | exact .nilSl _ | exact .ownSl _ _ _ | exact SV.le.of_eq (by simp)) (Slots.cons rfl (by first | exact .refl _ | exact .nilOwn _ _ | exact .nilSl _ | exact .ownSl _ _ _ | exact SV.le.of_eq (by simp)) (Slots.cons rfl (by first | exact .refl _ | exact .nilOwn _ _ | exact .nilSl _ | exact .ownSl _ _ _ | exact SV.le.of_eq (by simp)) Slots.nil)))), (by first | exact List.Sublist.refl _ | exact List.nil_sublist _ | exact .cons _ (.refl _) | exact .cons _ (.cons _ (.refl _)) | exact .cons _ (.cons _ (.cons _ (.refl _))) | exact .cons _ (.cons _ (.cons _ (.cons _ (.refl _)))) | exact .cons_cons _ (List.nil_sublist _))⟩ ⟨0, rfl, rfl, Nat.zero_le _⟩ ?_
            rintro nn0 _ ⟨k, rfl, rfl, hk⟩
            refine awp_seq ?_
            refine awp_region ?_
            refine r_cmp rfl rfl rfl rfl ?_
            refine awl_nil ?_
            refine x_then ?_
            refine awp_seq ?_
            refine awp_cond rfl (fun hc7 => ?_) (fun hc7 => ?_)
            ·
              have hlt : k < ns.length := by have := of_decide_eq_true hc7; simpa using this
              obtain ⟨x, hx⟩ := get_lt hlt
              refine awp_skip ?_
              refine x_then ?_
              refine awp_seq ?_
              refine awp_block ?_
              refine awp_seq ?_
              refine awp_region ?_
              refine r_move rfl rfl ?_
              refine r_assign rfl rfl ?_
              refine awl_nil ?_
              refine x_then ?_
              refine awp_seq ?_
              refine awp_drawS [92, 93, 94, 95, 96, 97, 98, 99] [_, _, _, _, _, _, _, _] [] [] T.mixed rfl rfl rfl ⟨⟨⟨⟨⟨⟨⟨⟨trivial
                , ⟨_, rfl, fun sl hd hr ho => by
                    refine r_move (hr 7 _ rfl rfl rfl) rfl ?_
                    exact awl_nil ⟨rfl, post_put⟩⟩⟩
                , ⟨_, rfl, fun sl hd hr ho => by
                    refine r_move (hr 10 _ rfl rfl rfl) rfl ?_
                    exact awl_nil ⟨rfl, post_put⟩⟩⟩
                , ⟨_, rfl, fun sl hd hr ho => by
                    refine r_index (hd 0 _ rfl rfl rfl) rfl (hd 1 _ rfl rfl rfl) T.sl46 T.sz9 (by omega) (get_map hx) rfl ?_
                    exact awl_nil ⟨rfl, post_put⟩⟩⟩
                , ⟨_, rfl, fun sl hd hr ho => by
                    refine r_load1 (hd 2 _ rfl rfl rfl) T.agg9 rfl ?_
                    exact awl_nil ⟨rfl, post_put⟩⟩⟩
                , ⟨_, rfl, fun sl hd hr ho => by
                    refine r_move (hr 8 _ rfl rfl rfl) rfl ?_
                    exact awl_nil ⟨rfl, post_put⟩⟩⟩
                , ⟨_, rfl, fun sl hd hr ho => by
                    refine r_move (hr 10 _ rfl rfl rfl) rfl ?_
                    exact awl_nil ⟨rfl, post_put⟩⟩⟩
                , ⟨_, rfl, fun sl hd hr ho => by
                    refine r_index (hd 4 _ rfl rfl rfl) rfl (hd 5 _ rfl rfl rfl) T.sl46 T.sz9 (by omega) (get_map hx) rfl ?_
                    exact awl_nil ⟨rfl, post_put⟩⟩⟩
                , ⟨_, rfl, fun sl hd hr ho => by
                    refine r_load1 (hd 6 _ rfl rfl rfl) T.agg9 rfl ?_
                    exact awl_nil ⟨rfl, post_put⟩⟩⟩
                (by rfl) ?_
              refine r_str2 rfl rfl rfl rfl ?_
              refine awl_nil ?_
              refine x_then ?_
              refine awp_cond rfl (fun hc8 => ?_) (fun hc8 => ?_)
              ·
                exfalso; simp at hc8
              ·
                refine awp_skip ?_
                refine x_block ?_
                refine x_then ?_
                refine awp_region ?_
                refine r_ari _ rfl rfl rfl (wrap_id (by omega)) rfl ?_
                refine r_move rfl rfl ?_
                refine awl_nil ?_
                refine x_then ?_
                refine ⟨ns.length - (k + 1), ⟨102, [(7, .a (strsA ns)), (8, .a (strsA ns)), (88, .a (.v (.int .i64 ((ns.map fun s => [AV.v (.string s)]).length)))), (89, .a (.v (.int .i64 (((k + 1) : Int)))))], []⟩, ⟨rfl, (Slots.cons rfl (by first | exact .refl _ | exact .nilOwn _ _ | exact .nilSl _ | exact .ownSl _ _ _ | exact SV.le.of_eq (by simp)) (Slots.cons rfl (by first | exact .refl _ | exact .nilOwn _ _ | exact .nilSl _ | exact .ownSl _ _ _ | exact SV.le.of_eq (by simp)) (Slots.cons rfl (by first | exact .refl _ | exact .nilOwn _ _ | exact .nilSl _ | exact .ownSl _ _ _ | exact SV.le.of_eq (by simp)) (Slots.cons rfl (by first | exact .refl _ | exact .nilOwn _ _ | exact .nilSl _ | exact .ownSl _ _ _ | exact SV.le.of_eq (by simp)) Slots.nil)))), (by first | exact List.Sublist.refl _ | exact List.nil_sublist _ | exact .cons _ (.refl _) | exact .cons _ (.cons _ (.refl _)) | exact .cons _ (.cons _ (.cons _ (.refl _))) | exact .cons _ (.cons _ (.cons _ (.cons _ (.refl _)))) | exact .cons_cons _ (List.nil_sublist _))⟩, (by omega), ⟨k + 1, rfl, rfl, (by have := (List.getElem?_eq_some_iff.1 hx).1; omega)⟩⟩
            ·
              have hge : ns.length ≤ k := by have := of_decide_eq_false hc7; simp at this; omega
              refine awp_exit ?_
              refine x_thenE ?_
              refine x_thenE ?_
              refine x_blockE ?_
              refine x_then ?_
              refine awp_seq ?_
              refine awp_region ?_
              refine r_assign rfl rfl ?_
              refine awl_nil ?_
              refine x_then ?_
              refine awp_ret ?_
              exact ⟨(.inl rfl), _, [], (.one (by first | exact .mk rfl rfl | exact .nil rfl)), ⟨rfl, rfl⟩, (List.nil_sublist _), (by simp)⟩

end Go.Proofs.Ytpoacfbobalpkaa.A

/- Layer 32: walks of the document's places. -/
import Derived.Test.YtcgjgnkpebpimaaProg
import Derived.KernelRfl
import Derived.Test.YtcgjgnkpebpimaaX32E
namespace Go.Proofs.Ytcgjgnkpebpimaa.A
open Go Go.RowKit
set_option linter.unusedVariables false
set_option linter.unusedSimpArgs false
set_option maxRecDepth 100000

def PE (p : PL) : List AV := Ent.cs ⟨p.1, p.2, 0⟩
def plesA (l : List PL) : AV := .sl 3 (l.map PE)
theorem insP_len (acc : List PL) (p : PL) : (insP acc p).length ≤ acc.length + 1 := by
  induction acc with
  | nil => simp [insP]
  | cons x r ih => unfold insP; split; · simp; exact ih
                   · split <;> simp

set_option maxHeartbeats 1000000 in
theorem rplaces_ok (ls : List (List Ent)) (hls : ls.length ≤ 3) (hll : ∀ l ∈ ls, l.length ≤ 1000) : AC Try.prog 19 [(.sl 1 (ls.map fun l => [entsA l]))] [] (fun r n => n = [] ∧ r = plesA (placesF ls)) := by
  refine ac_of_awp (rs := [2]) (nt := 107) Try.func19 rfl rfl rfl rfl (fun w0 C0 hq => ?_)
  refine awp_seq ?_
  refine awp_region ?_
  refine r_assign rfl rfl ?_
  refine awl_nil ?_
  refine x_then ?_
  refine awp_seq ?_
  refine awp_region ?_
  refine r_assign rfl rfl ?_
  refine awl_nil ?_
  refine x_then ?_
  refine awp_seq ?_
  refine awp_seq ?_
  refine awp_region ?_
  refine r_assign rfl rfl ?_
  refine awl_nil ?_
  refine x_then ?_
  refine awp_block ?_
  refine awp_loop (fun nn0 S => ∃ i : Nat, ∃ acc : List PL, S = ⟨107, [(0, .a (.sl 1 (ls.map fun l => [entsA l]))), (3, .a (plesA acc)), (4, .a (.v (.int .i64 ((i : Int)))))], []⟩ ∧ nn0 = ls.length - i ∧ (i ≤ ls.length) ∧ (acc = (ls.take i).foldl insAll []) ∧ (acc.length ≤ 1000 * i)) (ls.length - (0)) ⟨107, [(0, .a (.sl 1 (ls.map fun l => [entsA l]))), (3, .a (plesA ([]))), (4, .a (.v (.int .i64 (((0) : Int)))))], []⟩ ⟨rfl, (Slots.cons rfl (by first | exact .refl _ | exact .nilOwn _ _ | exact .nilSl _ | exact .ownSl _ _ _  | exact SV.le.of_eq (by simp)) (Slots.cons rfl (by first | exact .refl _ | exact .nilOwn _ _ | exact .nilSl _ | exact .ownSl _ _ _  | exact SV.le.of_eq (by simp)) (Slots.cons rfl (by first | exact .refl _ | exact .nilOwn _ _ | exact .nilSl _ | exact .ownSl _ _ _  | exact SV.le.of_eq (by simp)) Slots.nil))), (by first | exact List.Sublist.refl _ | exact .cons_cons _ (.cons _ (.refl _)) | exact List.nil_sublist _ | exact .cons _ (.refl _) | exact .cons _ (.cons _ (.refl _)) | exact .cons _ (.cons _ (.cons _ (.refl _))) | exact .cons _ (.cons _ (.cons _ (.cons _ (.refl _)))) | exact .cons_cons _ (List.nil_sublist _))⟩ ⟨0, [], rfl, rfl, Nat.zero_le _, rfl, (by simp)⟩ ?_
  rintro nn0 _ ⟨i, acc, rfl, rfl, hi, hacc, hal⟩
  refine awp_seq ?_
  refine awp_seq ?_
  refine awp_region ?_
  refine r_move rfl rfl ?_
  refine r_move rfl rfl ?_
  first | (refine r_lenS rfl rfl T.sl44 rfl ?_) | (refine r_lenNil rfl T.sl44 rfl ?_)
  refine r_cmp rfl rfl rfl rfl ?_
  refine awl_nil ?_
  refine x_then ?_
  refine awp_cond rfl (fun hc0 => ?_) (fun hc0 => ?_)
  ·
    have hltl : i < ls.length := by have := of_decide_eq_true hc0; simpa using this
    obtain ⟨l, hli⟩ := get_lt hltl
    have hlll := hll l (List.mem_of_getElem? hli)
    refine awp_skip ?_
    refine x_then ?_
    refine awp_seq ?_
    refine awp_block ?_
    refine awp_seq ?_
    refine awp_region ?_
    refine r_assign rfl rfl ?_
    refine awl_nil ?_
    refine x_then ?_
    refine awp_block ?_
    refine awp_loop (fun nn0 S => ∃ k : Nat, ∃ out : List PL, S = ⟨107, [(0, .a (.sl 1 (ls.map fun l => [entsA l]))), (3, .a (plesA out)), (4, .a (.v (.int .i64 ((i : Int))))), (5, .a (.v (.int .i64 ((k : Int)))))], []⟩ ∧ nn0 = l.length - k ∧ (k ≤ l.length) ∧ (out = insAll acc (l.take k)) ∧ (out.length ≤ acc.length + k)) (l.length - (0)) ⟨107, [(0, .a (.sl 1 (ls.map fun l => [entsA l]))), (3, .a (plesA (acc))), (4, .a (.v (.int .i64 ((i : Int))))), (5, .a (.v (.int .i64 (((0) : Int)))))], []⟩ ⟨rfl, (Slots.cons rfl (by first | exact .refl _ | exact .nilOwn _ _ | exact .nilSl _ | exact .ownSl _ _ _  | exact SV.le.of_eq (by simp)) (Slots.cons rfl (by first | exact .refl _ | exact .nilOwn _ _ | exact .nilSl _ | exact .ownSl _ _ _  | exact SV.le.of_eq (by simp)) (Slots.cons rfl (by first | exact .refl _ | exact .nilOwn _ _ | exact .nilSl _ | exact .ownSl _ _ _  | exact SV.le.of_eq (by simp)) (Slots.cons rfl (by first | exact .refl _ | exact .nilOwn _ _ | exact .nilSl _ | exact .ownSl _ _ _  | exact SV.le.of_eq (by simp)) Slots.nil)))), (by first | exact List.Sublist.refl _ | exact .cons_cons _ (.cons _ (.refl _)) | exact List.nil_sublist _ | exact .cons _ (.refl _) | exact .cons _ (.cons _ (.refl _)) | exact .cons _ (.cons _ (.cons _ (.refl _))) | exact .cons _ (.cons _ (.cons _ (.cons _ (.refl _)))) | exact .cons_cons _ (List.nil_sublist _))⟩ ⟨0, acc, rfl, rfl, Nat.zero_le _, rfl, (by omega)⟩ ?_
    rintro nn0 _ ⟨k, out, rfl, rfl, hk, ho, hol⟩
    refine awp_seq ?_
    refine awp_seq ?_
    refine awp_region ?_
    refine r_move rfl rfl ?_
    refine r_move rfl rfl ?_
    refine r_move rfl rfl ?_
    refine r_index rfl rfl rfl T.sl44 T.sz22 (by omega) (get_map hli) rfl ?_
    refine r_load1 rfl T.agg22 rfl ?_
    first | (refine r_lenS rfl rfl T.sl22 rfl ?_) | (refine r_lenNil rfl T.sl22 rfl ?_)
    refine r_cmp rfl rfl rfl rfl ?_
    refine awl_nil ?_
    refine x_then ?_
    refine awp_cond rfl (fun hc1 => ?_) (fun hc1 => ?_)
    ·
      have hltx : k < l.length := by have := of_decide_eq_true hc1; simpa using this
      obtain ⟨x, hx⟩ := get_lt hltx
      refine awp_skip ?_
      refine x_then ?_
      refine awp_seq ?_
      refine awp_block ?_
      refine awp_seq ?_
      refine awp_region ?_
      refine r_move rfl rfl ?_
      refine r_move rfl rfl ?_
      refine r_index rfl rfl rfl T.sl44 T.sz22 (by omega) (get_map hli) rfl ?_
      refine r_load1 rfl T.agg22 rfl ?_
      refine r_move rfl rfl ?_
      refine r_index rfl rfl rfl T.sl22 T.sz35 (by omega) (get_map hx) rfl ?_
      refine r_loadA rfl T.agg35 T.sz35 rfl rfl ?_
      refine r_alloc T.zero35 rfl (fun b6 => ?_)
      refine r_store 0 rfl rfl rfl T.sz35 rfl rfl rfl ?_
      refine awl_nil ?_
      refine x_then ?_
      refine awp_seq ?_
      refine awp_region ?_
      refine r_assign rfl rfl ?_
      refine awl_nil ?_
      refine x_then ?_
      refine awp_cut (fun S => ∃ j : Nat, S = ⟨107, [(0, .a (.sl 1 (ls.map fun l => [entsA l]))), (3, .a (plesA out)), (4, .a (.v (.int .i64 ((i : Int))))), (5, .a (.v (.int .i64 ((k : Int))))), (6, .a (.v (.pointer (some ⟨b6, 0, none⟩)))), (7, .a (.v (.int .i64 ((j : Int)))))], [⟨b6, true, .box (Ent.cs x)⟩]⟩ ∧ (j ≤ out.length) ∧ ((out.take j).all (ltP · x.pl) = true) ∧ (∀ y, out[j]? = some y → ltP y x.pl = false)) ?_ ?_
      ·
        refine awp_block ?_
        refine awp_loop (fun nn0 S => ∃ j : Nat, S = ⟨107, [(0, .a (.sl 1 (ls.map fun l => [entsA l]))), (3, .a (plesA out)), (4, .a (.v (.int .i64 ((i : Int))))), (5, .a (.v (.int .i64 ((k : Int))))), (6, .a (.v (.pointer (some ⟨b6, 0, none⟩)))), (7, .a (.v (.int .i64 ((j : Int)))))], [⟨b6, true, .box (Ent.cs x)⟩]⟩ ∧ nn0 = out.length - j ∧ (j ≤ out.length) ∧ ((out.take j).all (ltP · x.pl) = true)) (out.length - (0)) ⟨107, [(0, .a (.sl 1 (ls.map fun l => [entsA l]))), (3, .a (plesA out)), (4, .a (.v (.int .i64 ((i : Int))))), (5, .a (.v (.int .i64 ((k : Int))))), (6, .a (.v (.pointer (some ⟨b6, 0, none⟩)))), (7, .a (.v (.int .i64 (((0) : Int)))))], [⟨b6, true, .box (Ent.cs x)⟩]⟩ ⟨rfl, (Slots.cons rfl (by first | exact .refl _ | exact .nilOwn _ _ | exact .nilSl _ | exact .ownSl _ _ _  | exact SV.le.of_eq (by simp)) (Slots.cons rfl (by first | exact .refl _ | exact .nilOwn _ _ | exact .nilSl _ | exact .ownSl _ _ _  | exact SV.le.of_eq (by simp)) (Slots.cons rfl (by first | exact .refl _ | exact .nilOwn _ _ | exact .nilSl _ | exact .ownSl _ _ _  | exact SV.le.of_eq (by simp)) (Slots.cons rfl (by first | exact .refl _ | exact .nilOwn _ _ | exact .nilSl _ | exact .ownSl _ _ _  | exact SV.le.of_eq (by simp)) (Slots.cons rfl (by first | exact .refl _ | exact .nilOwn _ _ | exact .nilSl _ | exact .ownSl _ _ _  | exact SV.le.of_eq (by simp)) (Slots.cons rfl (by first | exact .refl _ | exact .nilOwn _ _ | exact .nilSl _ | exact .ownSl _ _ _  | exact SV.le.of_eq (by simp)) Slots.nil)))))), (by first | exact List.Sublist.refl _ | exact .cons_cons _ (.cons _ (.refl _)) | exact List.nil_sublist _ | exact .cons _ (.refl _) | exact .cons _ (.cons _ (.refl _)) | exact .cons _ (.cons _ (.cons _ (.refl _))) | exact .cons _ (.cons _ (.cons _ (.cons _ (.refl _)))) | exact .cons_cons _ (List.nil_sublist _))⟩ ⟨0, rfl, rfl, Nat.zero_le _, rfl⟩ ?_
        rintro nn0 _ ⟨j, rfl, rfl, hj, ha⟩
        refine awp_seq ?_
        refine awp_seq ?_
        rcases Bool.eq_false_or_eq_true (decide ((j : Int) < (out.map PE).length)) with hg34 | hg34
        ·
          have hlty : j < out.length := by have := of_decide_eq_true hg34; simpa using this
          obtain ⟨y, hy⟩ := get_lt hlty
          rcases Bool.eq_false_or_eq_true (decide (y.1 < x.vol)) with hg43 | hg43
          ·
            have hlt : ltP y x.pl = true := ltP_iff.2 (.inl (of_decide_eq_true hg43))
            refine awp_drawS [30, 31, 32, 33, 34, 35, 36, 37, 38, 39, 40, 41, 42, 43, 44, 45, 46, 47, 48, 49, 50, 51, 52, 53, 54, 55, 56, 57, 58, 59] [_, _, _, _, _, _, _, _, _, _, _, _, _, _, _, _, _, _, _, _, _, _, _, _, _, _, _, _, _, _] [] [] T.mixed rfl rfl rfl ⟨⟨⟨⟨⟨⟨⟨⟨⟨⟨⟨⟨⟨⟨⟨⟨⟨⟨⟨⟨⟨⟨⟨⟨⟨⟨⟨⟨⟨⟨trivial
              , ⟨_, rfl, fun sl hd hr ho => by
                  refine r_move (hr 7 _ rfl rfl rfl) rfl ?_
                  exact awl_nil ⟨rfl, post_put⟩⟩⟩
              , ⟨_, rfl, fun sl hd hr ho => by
                  refine r_move (hr 3 _ rfl rfl rfl) rfl ?_
                  exact awl_nil ⟨rfl, post_put⟩⟩⟩
              , ⟨_, rfl, fun sl hd hr ho => by
                  first | (refine r_lenS (hd 1 _ rfl rfl rfl) rfl T.sl22 rfl ?_) | (refine r_lenNil (hd 1 _ rfl rfl rfl) T.sl22 rfl ?_)
                  exact awl_nil ⟨rfl, post_put⟩⟩⟩
              , ⟨_, rfl, fun sl hd hr ho => by
                  refine r_cmp (hd 0 _ rfl rfl rfl) (hd 2 _ rfl rfl rfl) rfl rfl ?_
                  exact awl_nil ⟨rfl, post_put⟩⟩⟩
              , ⟨_, rfl, fun sl hd hr ho => by
                  refine r_move (hd 3 _ rfl rfl rfl) rfl ?_
                  exact awl_nil ⟨rfl, post_put⟩⟩⟩
              , ⟨_, rfl, fun sl hd hr ho => by
                  refine g_run rfl (hd 4 _ rfl rfl rfl) hg34 ?_
                  refine r_move (hr 3 _ rfl rfl rfl) rfl ?_
                  exact awl_nil ⟨rfl, post_put⟩⟩⟩
              , ⟨_, rfl, fun sl hd hr ho => by
                  refine g_run rfl (hd 4 _ rfl rfl rfl) hg34 ?_
                  refine r_move (hr 7 _ rfl rfl rfl) rfl ?_
                  exact awl_nil ⟨rfl, post_put⟩⟩⟩
              , ⟨_, rfl, fun sl hd hr ho => by
                  refine g_run rfl (hd 4 _ rfl rfl rfl) hg34 ?_
                  refine r_index (hd 5 _ rfl rfl rfl) rfl (hd 6 _ rfl rfl rfl) T.sl22 T.sz35 (by omega) (get_map hy) rfl ?_
                  exact awl_nil ⟨rfl, post_put⟩⟩⟩
              , ⟨_, rfl, fun sl hd hr ho => by
                  refine g_run rfl (hd 4 _ rfl rfl rfl) hg34 ?_
                  first | (refine r_fieldcp (hd 7 _ rfl rfl rfl) T.f35_0 T.sz3 rfl ?_) | (refine r_fieldb (hd 7 _ rfl rfl rfl) T.f35_0 T.sz3 rfl ?_)
                  exact awl_nil ⟨rfl, post_put⟩⟩⟩
              , ⟨_, rfl, fun sl hd hr ho => by
                  refine g_run rfl (hd 4 _ rfl rfl rfl) hg34 ?_
                  first | (refine r_load1 (hd 8 _ rfl rfl rfl) T.agg3 rfl ?_) | (refine r_load1b 0 (hd 8 _ rfl rfl rfl) rfl rfl T.agg3 rfl ?_)
                  exact awl_nil ⟨rfl, post_put⟩⟩⟩
              , ⟨_, rfl, fun sl hd hr ho => by
                  refine g_run rfl (hd 4 _ rfl rfl rfl) hg34 ?_
                  first | (refine r_fieldcp (hr 6 _ rfl rfl rfl) T.f35_0 T.sz3 rfl ?_) | (refine r_fieldb (hr 6 _ rfl rfl rfl) T.f35_0 T.sz3 rfl ?_)
                  exact awl_nil ⟨rfl, post_put⟩⟩⟩
              , ⟨_, rfl, fun sl hd hr ho => by
                  refine g_run rfl (hd 4 _ rfl rfl rfl) hg34 ?_
                  first | (refine r_load1 (hd 10 _ rfl rfl rfl) T.agg3 rfl ?_) | (refine r_load1b 0 (hd 10 _ rfl rfl rfl) rfl rfl T.agg3 rfl ?_)
                  exact awl_nil ⟨rfl, post_put⟩⟩⟩
              , ⟨_, rfl, fun sl hd hr ho => by
                  refine g_run rfl (hd 4 _ rfl rfl rfl) hg34 ?_
                  refine r_cmp (hd 9 _ rfl rfl rfl) (hd 11 _ rfl rfl rfl) rfl rfl ?_
                  exact awl_nil ⟨rfl, post_put⟩⟩⟩
              , ⟨_, rfl, fun sl hd hr ho => by
                  refine g_run rfl (hd 4 _ rfl rfl rfl) hg34 ?_
                  refine r_move (hd 12 _ rfl rfl rfl) rfl ?_
                  exact awl_nil ⟨rfl, post_put⟩⟩⟩
              , ⟨_, rfl, fun sl hd hr ho => by
                  refine g_skip rfl (hd 13 _ rfl rfl rfl) hg43 rfl ?_
                  exact awl_nil ⟨rfl, post_put⟩⟩⟩
              , ⟨_, rfl, fun sl hd hr ho => by
                  refine g_skip rfl (hd 13 _ rfl rfl rfl) hg43 rfl ?_
                  exact awl_nil ⟨rfl, post_put⟩⟩⟩
              , ⟨_, rfl, fun sl hd hr ho => by
                  refine g_skip rfl (hd 13 _ rfl rfl rfl) hg43 rfl ?_
                  exact awl_nil ⟨rfl, post_put⟩⟩⟩
              , ⟨_, rfl, fun sl hd hr ho => by
                  refine g_skip rfl (hd 13 _ rfl rfl rfl) hg43 rfl ?_
                  exact awl_nil ⟨rfl, post_put⟩⟩⟩
              , ⟨_, rfl, fun sl hd hr ho => by
                  refine g_skip rfl (hd 13 _ rfl rfl rfl) hg43 rfl ?_
                  exact awl_nil ⟨rfl, post_put⟩⟩⟩
              , ⟨_, rfl, fun sl hd hr ho => by
                  refine g_skip rfl (hd 13 _ rfl rfl rfl) hg43 rfl ?_
                  exact awl_nil ⟨rfl, post_put⟩⟩⟩
              , ⟨_, rfl, fun sl hd hr ho => by
                  refine g_skip rfl (hd 13 _ rfl rfl rfl) hg43 rfl ?_
                  exact awl_nil ⟨rfl, post_put⟩⟩⟩
              , ⟨_, rfl, fun sl hd hr ho => by
                  refine g_skip rfl (hd 13 _ rfl rfl rfl) hg43 rfl ?_
                  exact awl_nil ⟨rfl, post_put⟩⟩⟩
              , ⟨_, rfl, fun sl hd hr ho => by
                  refine g_skip rfl (hd 13 _ rfl rfl rfl) hg43 rfl ?_
                  exact awl_nil ⟨rfl, post_put⟩⟩⟩
              , ⟨_, rfl, fun sl hd hr ho => by
                  refine g_skipU rfl (hd 22 _ rfl rfl rfl) rfl ?_
                  exact awl_nil ⟨rfl, post_put⟩⟩⟩
              , ⟨_, rfl, fun sl hd hr ho => by
                  refine g_skipU rfl (hd 22 _ rfl rfl rfl) rfl ?_
                  exact awl_nil ⟨rfl, post_put⟩⟩⟩
              , ⟨_, rfl, fun sl hd hr ho => by
                  refine g_skipU rfl (hd 22 _ rfl rfl rfl) rfl ?_
                  exact awl_nil ⟨rfl, post_put⟩⟩⟩
              , ⟨_, rfl, fun sl hd hr ho => by
                  refine g_skipU rfl (hd 22 _ rfl rfl rfl) rfl ?_
                  exact awl_nil ⟨rfl, post_put⟩⟩⟩
              , ⟨_, rfl, fun sl hd hr ho => by
                  refine g_skipU rfl (hd 22 _ rfl rfl rfl) rfl ?_
                  exact awl_nil ⟨rfl, post_put⟩⟩⟩
              , ⟨_, rfl, fun sl hd hr ho => by
                  refine g_skipU rfl (hd 22 _ rfl rfl rfl) rfl ?_
                  exact awl_nil ⟨rfl, post_put⟩⟩⟩
              , ⟨_, rfl, fun sl hd hr ho => by
                  refine g_skipU rfl (hd 22 _ rfl rfl rfl) rfl ?_
                  exact awl_nil ⟨rfl, post_put⟩⟩⟩
              (by rfl) ?_
            refine g_skipU rfl rfl rfl ?_
            refine g_skip rfl rfl hg43 rfl ?_
            refine g_run rfl rfl hg34 ?_
            refine r_pickT rfl hg43 rfl rfl ?_
            refine r_pickT rfl hg34 rfl rfl ?_
            refine awl_nil ?_
            refine x_then ?_
            refine awp_condT rfl ?_
            refine awp_skip ?_
            refine x_then ?_
            refine awp_block ?_
            refine awp_region ?_
            refine r_move rfl rfl ?_
            refine r_ari _ rfl rfl rfl (wrap_id (by first | omega | (simp; omega))) rfl ?_
            refine r_assign rfl rfl ?_
            refine awl_nil ?_
            refine x_block ?_
            refine x_then ?_
            refine ⟨out.length - (j + 1), ⟨107, [(0, .a (.sl 1 (ls.map fun l => [entsA l]))), (3, .a (plesA out)), (4, .a (.v (.int .i64 ((i : Int))))), (5, .a (.v (.int .i64 ((k : Int))))), (6, .a (.v (.pointer (some ⟨b6, 0, none⟩)))), (7, .a (.v (.int .i64 (((j + 1) : Int)))))], [⟨b6, true, .box (Ent.cs x)⟩]⟩, ⟨rfl, (Slots.cons rfl (by first | exact .refl _ | exact .nilOwn _ _ | exact .nilSl _ | exact .ownSl _ _ _  | exact SV.le.of_eq (by simp)) (Slots.cons rfl (by first | exact .refl _ | exact .nilOwn _ _ | exact .nilSl _ | exact .ownSl _ _ _  | exact SV.le.of_eq (by simp)) (Slots.cons rfl (by first | exact .refl _ | exact .nilOwn _ _ | exact .nilSl _ | exact .ownSl _ _ _  | exact SV.le.of_eq (by simp)) (Slots.cons rfl (by first | exact .refl _ | exact .nilOwn _ _ | exact .nilSl _ | exact .ownSl _ _ _  | exact SV.le.of_eq (by simp)) (Slots.cons rfl (by first | exact .refl _ | exact .nilOwn _ _ | exact .nilSl _ | exact .ownSl _ _ _  | exact SV.le.of_eq (by simp)) (Slots.cons rfl (by first | exact .refl _ | exact .nilOwn _ _ | exact .nilSl _ | exact .ownSl _ _ _  | exact SV.le.of_eq (by simp)) Slots.nil)))))), (by first | exact List.Sublist.refl _ | exact .cons_cons _ (.cons _ (.refl _)) | exact List.nil_sublist _ | exact .cons _ (.refl _) | exact .cons _ (.cons _ (.refl _)) | exact .cons _ (.cons _ (.cons _ (.refl _))) | exact .cons _ (.cons _ (.cons _ (.cons _ (.refl _)))) | exact .cons_cons _ (List.nil_sublist _))⟩, (by omega), ⟨j + 1, rfl, rfl, (by have := (List.getElem?_eq_some_iff.1 hy).1; omega), (all_takeB hy ha hlt)⟩⟩
          ·
            have h1 := of_decide_eq_false hg43
            rcases Bool.eq_false_or_eq_true (y.1 == x.vol) with hg52 | hg52
            ·
              have h2 : y.1 = x.vol := eq_of_beq hg52
              refine awp_drawS [30, 31, 32, 33, 34, 35, 36, 37, 38, 39, 40, 41, 42, 43, 44, 45, 46, 47, 48, 49, 50, 51, 52, 53, 54, 55, 56, 57, 58, 59] [_, _, _, _, _, _, _, _, _, _, _, _, _, _, _, _, _, _, _, _, _, _, _, _, _, _, _, _, _, _] [] [] T.mixed rfl rfl rfl ⟨⟨⟨⟨⟨⟨⟨⟨⟨⟨⟨⟨⟨⟨⟨⟨⟨⟨⟨⟨⟨⟨⟨⟨⟨⟨⟨⟨⟨⟨trivial
                , ⟨_, rfl, fun sl hd hr ho => by
                    refine r_move (hr 7 _ rfl rfl rfl) rfl ?_
                    exact awl_nil ⟨rfl, post_put⟩⟩⟩
                , ⟨_, rfl, fun sl hd hr ho => by
                    refine r_move (hr 3 _ rfl rfl rfl) rfl ?_
                    exact awl_nil ⟨rfl, post_put⟩⟩⟩
                , ⟨_, rfl, fun sl hd hr ho => by
                    first | (refine r_lenS (hd 1 _ rfl rfl rfl) rfl T.sl22 rfl ?_) | (refine r_lenNil (hd 1 _ rfl rfl rfl) T.sl22 rfl ?_)
                    exact awl_nil ⟨rfl, post_put⟩⟩⟩
                , ⟨_, rfl, fun sl hd hr ho => by
                    refine r_cmp (hd 0 _ rfl rfl rfl) (hd 2 _ rfl rfl rfl) rfl rfl ?_
                    exact awl_nil ⟨rfl, post_put⟩⟩⟩
                , ⟨_, rfl, fun sl hd hr ho => by
                    refine r_move (hd 3 _ rfl rfl rfl) rfl ?_
                    exact awl_nil ⟨rfl, post_put⟩⟩⟩
                , ⟨_, rfl, fun sl hd hr ho => by
                    refine g_run rfl (hd 4 _ rfl rfl rfl) hg34 ?_
                    refine r_move (hr 3 _ rfl rfl rfl) rfl ?_
                    exact awl_nil ⟨rfl, post_put⟩⟩⟩
                , ⟨_, rfl, fun sl hd hr ho => by
                    refine g_run rfl (hd 4 _ rfl rfl rfl) hg34 ?_
                    refine r_move (hr 7 _ rfl rfl rfl) rfl ?_
                    exact awl_nil ⟨rfl, post_put⟩⟩⟩
                , ⟨_, rfl, fun sl hd hr ho => by
                    refine g_run rfl (hd 4 _ rfl rfl rfl) hg34 ?_
                    refine r_index (hd 5 _ rfl rfl rfl) rfl (hd 6 _ rfl rfl rfl) T.sl22 T.sz35 (by omega) (get_map hy) rfl ?_
                    exact awl_nil ⟨rfl, post_put⟩⟩⟩
                , ⟨_, rfl, fun sl hd hr ho => by
                    refine g_run rfl (hd 4 _ rfl rfl rfl) hg34 ?_
                    first | (refine r_fieldcp (hd 7 _ rfl rfl rfl) T.f35_0 T.sz3 rfl ?_) | (refine r_fieldb (hd 7 _ rfl rfl rfl) T.f35_0 T.sz3 rfl ?_)
                    exact awl_nil ⟨rfl, post_put⟩⟩⟩
                , ⟨_, rfl, fun sl hd hr ho => by
                    refine g_run rfl (hd 4 _ rfl rfl rfl) hg34 ?_
                    first | (refine r_load1 (hd 8 _ rfl rfl rfl) T.agg3 rfl ?_) | (refine r_load1b 0 (hd 8 _ rfl rfl rfl) rfl rfl T.agg3 rfl ?_)
                    exact awl_nil ⟨rfl, post_put⟩⟩⟩
                , ⟨_, rfl, fun sl hd hr ho => by
                    refine g_run rfl (hd 4 _ rfl rfl rfl) hg34 ?_
                    first | (refine r_fieldcp (hr 6 _ rfl rfl rfl) T.f35_0 T.sz3 rfl ?_) | (refine r_fieldb (hr 6 _ rfl rfl rfl) T.f35_0 T.sz3 rfl ?_)
                    exact awl_nil ⟨rfl, post_put⟩⟩⟩
                , ⟨_, rfl, fun sl hd hr ho => by
                    refine g_run rfl (hd 4 _ rfl rfl rfl) hg34 ?_
                    first | (refine r_load1 (hd 10 _ rfl rfl rfl) T.agg3 rfl ?_) | (refine r_load1b 0 (hd 10 _ rfl rfl rfl) rfl rfl T.agg3 rfl ?_)
                    exact awl_nil ⟨rfl, post_put⟩⟩⟩
                , ⟨_, rfl, fun sl hd hr ho => by
                    refine g_run rfl (hd 4 _ rfl rfl rfl) hg34 ?_
                    refine r_cmp (hd 9 _ rfl rfl rfl) (hd 11 _ rfl rfl rfl) rfl rfl ?_
                    exact awl_nil ⟨rfl, post_put⟩⟩⟩
                , ⟨_, rfl, fun sl hd hr ho => by
                    refine g_run rfl (hd 4 _ rfl rfl rfl) hg34 ?_
                    refine r_move (hd 12 _ rfl rfl rfl) rfl ?_
                    exact awl_nil ⟨rfl, post_put⟩⟩⟩
                , ⟨_, rfl, fun sl hd hr ho => by
                    refine g_run rfl (hd 13 _ rfl rfl rfl) hg43 ?_
                    refine r_move (hr 3 _ rfl rfl rfl) rfl ?_
                    exact awl_nil ⟨rfl, post_put⟩⟩⟩
                , ⟨_, rfl, fun sl hd hr ho => by
                    refine g_run rfl (hd 13 _ rfl rfl rfl) hg43 ?_
                    refine r_move (hr 7 _ rfl rfl rfl) rfl ?_
                    exact awl_nil ⟨rfl, post_put⟩⟩⟩
                , ⟨_, rfl, fun sl hd hr ho => by
                    refine g_run rfl (hd 13 _ rfl rfl rfl) hg43 ?_
                    refine r_index (hd 14 _ rfl rfl rfl) rfl (hd 15 _ rfl rfl rfl) T.sl22 T.sz35 (by omega) (get_map hy) rfl ?_
                    exact awl_nil ⟨rfl, post_put⟩⟩⟩
                , ⟨_, rfl, fun sl hd hr ho => by
                    refine g_run rfl (hd 13 _ rfl rfl rfl) hg43 ?_
                    first | (refine r_fieldcp (hd 16 _ rfl rfl rfl) T.f35_0 T.sz3 rfl ?_) | (refine r_fieldb (hd 16 _ rfl rfl rfl) T.f35_0 T.sz3 rfl ?_)
                    exact awl_nil ⟨rfl, post_put⟩⟩⟩
                , ⟨_, rfl, fun sl hd hr ho => by
                    refine g_run rfl (hd 13 _ rfl rfl rfl) hg43 ?_
                    first | (refine r_load1 (hd 17 _ rfl rfl rfl) T.agg3 rfl ?_) | (refine r_load1b 0 (hd 17 _ rfl rfl rfl) rfl rfl T.agg3 rfl ?_)
                    exact awl_nil ⟨rfl, post_put⟩⟩⟩
                , ⟨_, rfl, fun sl hd hr ho => by
                    refine g_run rfl (hd 13 _ rfl rfl rfl) hg43 ?_
                    first | (refine r_fieldcp (hr 6 _ rfl rfl rfl) T.f35_0 T.sz3 rfl ?_) | (refine r_fieldb (hr 6 _ rfl rfl rfl) T.f35_0 T.sz3 rfl ?_)
                    exact awl_nil ⟨rfl, post_put⟩⟩⟩
                , ⟨_, rfl, fun sl hd hr ho => by
                    refine g_run rfl (hd 13 _ rfl rfl rfl) hg43 ?_
                    first | (refine r_load1 (hd 19 _ rfl rfl rfl) T.agg3 rfl ?_) | (refine r_load1b 0 (hd 19 _ rfl rfl rfl) rfl rfl T.agg3 rfl ?_)
                    exact awl_nil ⟨rfl, post_put⟩⟩⟩
                , ⟨_, rfl, fun sl hd hr ho => by
                    refine g_run rfl (hd 13 _ rfl rfl rfl) hg43 ?_
                    refine r_cmp (hd 18 _ rfl rfl rfl) (hd 20 _ rfl rfl rfl) rfl rfl ?_
                    exact awl_nil ⟨rfl, post_put⟩⟩⟩
                , ⟨_, rfl, fun sl hd hr ho => by
                    refine g_run rfl (hd 13 _ rfl rfl rfl) hg43 ?_
                    refine r_move (hd 21 _ rfl rfl rfl) rfl ?_
                    exact awl_nil ⟨rfl, post_put⟩⟩⟩
                , ⟨_, rfl, fun sl hd hr ho => by
                    refine g_run rfl (hd 22 _ rfl rfl rfl) hg52 ?_
                    refine r_move (hr 3 _ rfl rfl rfl) rfl ?_
                    exact awl_nil ⟨rfl, post_put⟩⟩⟩
                , ⟨_, rfl, fun sl hd hr ho => by
                    refine g_run rfl (hd 22 _ rfl rfl rfl) hg52 ?_
                    refine r_move (hr 7 _ rfl rfl rfl) rfl ?_
                    exact awl_nil ⟨rfl, post_put⟩⟩⟩
                , ⟨_, rfl, fun sl hd hr ho => by
                    refine g_run rfl (hd 22 _ rfl rfl rfl) hg52 ?_
                    refine r_index (hd 23 _ rfl rfl rfl) rfl (hd 24 _ rfl rfl rfl) T.sl22 T.sz35 (by omega) (get_map hy) rfl ?_
                    exact awl_nil ⟨rfl, post_put⟩⟩⟩
                , ⟨_, rfl, fun sl hd hr ho => by
                    refine g_run rfl (hd 22 _ rfl rfl rfl) hg52 ?_
                    first | (refine r_fieldcp (hd 25 _ rfl rfl rfl) T.f35_1 T.sz3 rfl ?_) | (refine r_fieldb (hd 25 _ rfl rfl rfl) T.f35_1 T.sz3 rfl ?_)
                    exact awl_nil ⟨rfl, post_put⟩⟩⟩
                , ⟨_, rfl, fun sl hd hr ho => by
                    refine g_run rfl (hd 22 _ rfl rfl rfl) hg52 ?_
                    first | (refine r_load1 (hd 26 _ rfl rfl rfl) T.agg3 rfl ?_) | (refine r_load1b 0 (hd 26 _ rfl rfl rfl) rfl rfl T.agg3 rfl ?_)
                    exact awl_nil ⟨rfl, post_put⟩⟩⟩
                , ⟨_, rfl, fun sl hd hr ho => by
                    refine g_run rfl (hd 22 _ rfl rfl rfl) hg52 ?_
                    first | (refine r_fieldcp (hr 6 _ rfl rfl rfl) T.f35_1 T.sz3 rfl ?_) | (refine r_fieldb (hr 6 _ rfl rfl rfl) T.f35_1 T.sz3 rfl ?_)
                    exact awl_nil ⟨rfl, post_put⟩⟩⟩
                , ⟨_, rfl, fun sl hd hr ho => by
                    refine g_run rfl (hd 22 _ rfl rfl rfl) hg52 ?_
                    first | (refine r_load1 (hd 28 _ rfl rfl rfl) T.agg3 rfl ?_) | (refine r_load1b 0 (hd 28 _ rfl rfl rfl) rfl rfl T.agg3 rfl ?_)
                    exact awl_nil ⟨rfl, post_put⟩⟩⟩
                (by rfl) ?_
              refine g_run rfl rfl hg52 ?_
              refine r_cmp rfl rfl rfl rfl ?_
              refine g_run rfl rfl hg43 ?_
              refine r_pickT rfl hg52 rfl rfl ?_
              refine g_run rfl rfl hg34 ?_
              refine r_pickF rfl hg43 rfl rfl ?_
              refine r_pickT rfl hg34 rfl rfl ?_
              refine awl_nil ?_
              refine x_then ?_
              refine awp_cond rfl (fun hc2 => ?_) (fun hc2 => ?_)
              ·
                have hlt : ltP y x.pl = true := ltP_iff.2 (.inr ⟨h2, of_decide_eq_true hc2⟩)
                refine awp_skip ?_
                refine x_then ?_
                refine awp_block ?_
                refine awp_region ?_
                refine r_move rfl rfl ?_
                refine r_ari _ rfl rfl rfl (wrap_id (by first | omega | (simp; omega))) rfl ?_
                refine r_assign rfl rfl ?_
                refine awl_nil ?_
                refine x_block ?_
                refine x_then ?_
                refine ⟨out.length - (j + 1), ⟨107, [(0, .a (.sl 1 (ls.map fun l => [entsA l]))), (3, .a (plesA out)), (4, .a (.v (.int .i64 ((i : Int))))), (5, .a (.v (.int .i64 ((k : Int))))), (6, .a (.v (.pointer (some ⟨b6, 0, none⟩)))), (7, .a (.v (.int .i64 (((j + 1) : Int)))))], [⟨b6, true, .box (Ent.cs x)⟩]⟩, ⟨rfl, (Slots.cons rfl (by first | exact .refl _ | exact .nilOwn _ _ | exact .nilSl _ | exact .ownSl _ _ _  | exact SV.le.of_eq (by simp)) (Slots.cons rfl (by first | exact .refl _ | exact .nilOwn _ _ | exact .nilSl _ | exact .ownSl _ _ _  | exact SV.le.of_eq (by simp)) (Slots.cons rfl (by first | exact .refl _ | exact .nilOwn _ _ | exact .nilSl _ | exact .ownSl _ _ _  | exact SV.le.of_eq (by simp)) (Slots.cons rfl (by first | exact .refl _ | exact .nilOwn _ _ | exact .nilSl _ | exact .ownSl _ _ _  | exact SV.le.of_eq (by simp)) (Slots.cons rfl (by first | exact .refl _ | exact .nilOwn _ _ | exact .nilSl _ | exact .ownSl _ _ _  | exact SV.le.of_eq (by simp)) (Slots.cons rfl (by first | exact .refl _ | exact .nilOwn _ _ | exact .nilSl _ | exact .ownSl _ _ _  | exact SV.le.of_eq (by simp)) Slots.nil)))))), (by first | exact List.Sublist.refl _ | exact .cons_cons _ (.cons _ (.refl _)) | exact List.nil_sublist _ | exact .cons _ (.refl _) | exact .cons _ (.cons _ (.refl _)) | exact .cons _ (.cons _ (.cons _ (.refl _))) | exact .cons _ (.cons _ (.cons _ (.cons _ (.refl _)))) | exact .cons_cons _ (List.nil_sublist _))⟩, (by omega), ⟨j + 1, rfl, rfl, (by have := (List.getElem?_eq_some_iff.1 hy).1; omega), (all_takeB hy ha hlt)⟩⟩
              ·
                have h3 := of_decide_eq_false hc2
                have hnl : ltP y x.pl = false := by cases h : ltP y x.pl with
                  | false => rfl
                  | true => exact ((ltP_iff.1 h).elim (fun h => absurd h h1) (fun h => absurd h.2 h3))
                refine awp_exit ?_
                refine x_thenE ?_
                refine x_thenE ?_
                refine x_blockE ?_
                refine x_then ?_
                refine ⟨⟨107, [(0, .a (.sl 1 (ls.map fun l => [entsA l]))), (3, .a (plesA out)), (4, .a (.v (.int .i64 ((i : Int))))), (5, .a (.v (.int .i64 ((k : Int))))), (6, .a (.v (.pointer (some ⟨b6, 0, none⟩)))), (7, .a (.v (.int .i64 (((j) : Int)))))], [⟨b6, true, .box (Ent.cs x)⟩]⟩, ⟨rfl, (Slots.cons rfl (by first | exact .refl _ | exact .nilOwn _ _ | exact .nilSl _ | exact .ownSl _ _ _  | exact SV.le.of_eq (by simp)) (Slots.cons rfl (by first | exact .refl _ | exact .nilOwn _ _ | exact .nilSl _ | exact .ownSl _ _ _  | exact SV.le.of_eq (by simp)) (Slots.cons rfl (by first | exact .refl _ | exact .nilOwn _ _ | exact .nilSl _ | exact .ownSl _ _ _  | exact SV.le.of_eq (by simp)) (Slots.cons rfl (by first | exact .refl _ | exact .nilOwn _ _ | exact .nilSl _ | exact .ownSl _ _ _  | exact SV.le.of_eq (by simp)) (Slots.cons rfl (by first | exact .refl _ | exact .nilOwn _ _ | exact .nilSl _ | exact .ownSl _ _ _  | exact SV.le.of_eq (by simp)) (Slots.cons rfl (by first | exact .refl _ | exact .nilOwn _ _ | exact .nilSl _ | exact .ownSl _ _ _  | exact SV.le.of_eq (by simp)) Slots.nil)))))), (by first | exact List.Sublist.refl _ | exact .cons_cons _ (.cons _ (.refl _)) | exact List.nil_sublist _ | exact .cons _ (.refl _) | exact .cons _ (.cons _ (.refl _)) | exact .cons _ (.cons _ (.cons _ (.refl _))) | exact .cons _ (.cons _ (.cons _ (.cons _ (.refl _)))) | exact .cons_cons _ (List.nil_sublist _))⟩, ⟨j, rfl, hj, ha, (fun z hz => by first | (rw [hy] at hz; cases hz; exact hnl) | (have := (List.getElem?_eq_some_iff.1 hz).1; omega))⟩⟩
            ·
              have h2 : ¬ y.1 = x.vol := by simpa using hg52
              have hnl : ltP y x.pl = false := by cases h : ltP y x.pl with
                | false => rfl
                | true => exact ((ltP_iff.1 h).elim (fun h => absurd h h1) (fun h => absurd h.1 h2))
              refine awp_drawS [30, 31, 32, 33, 34, 35, 36, 37, 38, 39, 40, 41, 42, 43, 44, 45, 46, 47, 48, 49, 50, 51, 52, 53, 54, 55, 56, 57, 58, 59] [_, _, _, _, _, _, _, _, _, _, _, _, _, _, _, _, _, _, _, _, _, _, _, _, _, _, _, _, _, _] [] [] T.mixed rfl rfl rfl ⟨⟨⟨⟨⟨⟨⟨⟨⟨⟨⟨⟨⟨⟨⟨⟨⟨⟨⟨⟨⟨⟨⟨⟨⟨⟨⟨⟨⟨⟨trivial
                , ⟨_, rfl, fun sl hd hr ho => by
                    refine r_move (hr 7 _ rfl rfl rfl) rfl ?_
                    exact awl_nil ⟨rfl, post_put⟩⟩⟩
                , ⟨_, rfl, fun sl hd hr ho => by
                    refine r_move (hr 3 _ rfl rfl rfl) rfl ?_
                    exact awl_nil ⟨rfl, post_put⟩⟩⟩
                , ⟨_, rfl, fun sl hd hr ho => by
                    first | (refine r_lenS (hd 1 _ rfl rfl rfl) rfl T.sl22 rfl ?_) | (refine r_lenNil (hd 1 _ rfl rfl rfl) T.sl22 rfl ?_)
                    exact awl_nil ⟨rfl, post_put⟩⟩⟩
                , ⟨_, rfl, fun sl hd hr ho => by
                    refine r_cmp (hd 0 _ rfl rfl rfl) (hd 2 _ rfl rfl rfl) rfl rfl ?_
                    exact awl_nil ⟨rfl, post_put⟩⟩⟩
                , ⟨_, rfl, fun sl hd hr ho => by
                    refine r_move (hd 3 _ rfl rfl rfl) rfl ?_
                    exact awl_nil ⟨rfl, post_put⟩⟩⟩
                , ⟨_, rfl, fun sl hd hr ho => by
                    refine g_run rfl (hd 4 _ rfl rfl rfl) hg34 ?_
                    refine r_move (hr 3 _ rfl rfl rfl) rfl ?_
                    exact awl_nil ⟨rfl, post_put⟩⟩⟩
                , ⟨_, rfl, fun sl hd hr ho => by
                    refine g_run rfl (hd 4 _ rfl rfl rfl) hg34 ?_
                    refine r_move (hr 7 _ rfl rfl rfl) rfl ?_
                    exact awl_nil ⟨rfl, post_put⟩⟩⟩
                , ⟨_, rfl, fun sl hd hr ho => by
                    refine g_run rfl (hd 4 _ rfl rfl rfl) hg34 ?_
                    refine r_index (hd 5 _ rfl rfl rfl) rfl (hd 6 _ rfl rfl rfl) T.sl22 T.sz35 (by omega) (get_map hy) rfl ?_
                    exact awl_nil ⟨rfl, post_put⟩⟩⟩
                , ⟨_, rfl, fun sl hd hr ho => by
                    refine g_run rfl (hd 4 _ rfl rfl rfl) hg34 ?_
                    first | (refine r_fieldcp (hd 7 _ rfl rfl rfl) T.f35_0 T.sz3 rfl ?_) | (refine r_fieldb (hd 7 _ rfl rfl rfl) T.f35_0 T.sz3 rfl ?_)
                    exact awl_nil ⟨rfl, post_put⟩⟩⟩
                , ⟨_, rfl, fun sl hd hr ho => by
                    refine g_run rfl (hd 4 _ rfl rfl rfl) hg34 ?_
                    first | (refine r_load1 (hd 8 _ rfl rfl rfl) T.agg3 rfl ?_) | (refine r_load1b 0 (hd 8 _ rfl rfl rfl) rfl rfl T.agg3 rfl ?_)
                    exact awl_nil ⟨rfl, post_put⟩⟩⟩
                , ⟨_, rfl, fun sl hd hr ho => by
                    refine g_run rfl (hd 4 _ rfl rfl rfl) hg34 ?_
                    first | (refine r_fieldcp (hr 6 _ rfl rfl rfl) T.f35_0 T.sz3 rfl ?_) | (refine r_fieldb (hr 6 _ rfl rfl rfl) T.f35_0 T.sz3 rfl ?_)
                    exact awl_nil ⟨rfl, post_put⟩⟩⟩
                , ⟨_, rfl, fun sl hd hr ho => by
                    refine g_run rfl (hd 4 _ rfl rfl rfl) hg34 ?_
                    first | (refine r_load1 (hd 10 _ rfl rfl rfl) T.agg3 rfl ?_) | (refine r_load1b 0 (hd 10 _ rfl rfl rfl) rfl rfl T.agg3 rfl ?_)
                    exact awl_nil ⟨rfl, post_put⟩⟩⟩
                , ⟨_, rfl, fun sl hd hr ho => by
                    refine g_run rfl (hd 4 _ rfl rfl rfl) hg34 ?_
                    refine r_cmp (hd 9 _ rfl rfl rfl) (hd 11 _ rfl rfl rfl) rfl rfl ?_
                    exact awl_nil ⟨rfl, post_put⟩⟩⟩
                , ⟨_, rfl, fun sl hd hr ho => by
                    refine g_run rfl (hd 4 _ rfl rfl rfl) hg34 ?_
                    refine r_move (hd 12 _ rfl rfl rfl) rfl ?_
                    exact awl_nil ⟨rfl, post_put⟩⟩⟩
                , ⟨_, rfl, fun sl hd hr ho => by
                    refine g_run rfl (hd 13 _ rfl rfl rfl) hg43 ?_
                    refine r_move (hr 3 _ rfl rfl rfl) rfl ?_
                    exact awl_nil ⟨rfl, post_put⟩⟩⟩
                , ⟨_, rfl, fun sl hd hr ho => by
                    refine g_run rfl (hd 13 _ rfl rfl rfl) hg43 ?_
                    refine r_move (hr 7 _ rfl rfl rfl) rfl ?_
                    exact awl_nil ⟨rfl, post_put⟩⟩⟩
                , ⟨_, rfl, fun sl hd hr ho => by
                    refine g_run rfl (hd 13 _ rfl rfl rfl) hg43 ?_
                    refine r_index (hd 14 _ rfl rfl rfl) rfl (hd 15 _ rfl rfl rfl) T.sl22 T.sz35 (by omega) (get_map hy) rfl ?_
                    exact awl_nil ⟨rfl, post_put⟩⟩⟩
                , ⟨_, rfl, fun sl hd hr ho => by
                    refine g_run rfl (hd 13 _ rfl rfl rfl) hg43 ?_
                    first | (refine r_fieldcp (hd 16 _ rfl rfl rfl) T.f35_0 T.sz3 rfl ?_) | (refine r_fieldb (hd 16 _ rfl rfl rfl) T.f35_0 T.sz3 rfl ?_)
                    exact awl_nil ⟨rfl, post_put⟩⟩⟩
                , ⟨_, rfl, fun sl hd hr ho => by
                    refine g_run rfl (hd 13 _ rfl rfl rfl) hg43 ?_
                    first | (refine r_load1 (hd 17 _ rfl rfl rfl) T.agg3 rfl ?_) | (refine r_load1b 0 (hd 17 _ rfl rfl rfl) rfl rfl T.agg3 rfl ?_)
                    exact awl_nil ⟨rfl, post_put⟩⟩⟩
                , ⟨_, rfl, fun sl hd hr ho => by
                    refine g_run rfl (hd 13 _ rfl rfl rfl) hg43 ?_
                    first | (refine r_fieldcp (hr 6 _ rfl rfl rfl) T.f35_0 T.sz3 rfl ?_) | (refine r_fieldb (hr 6 _ rfl rfl rfl) T.f35_0 T.sz3 rfl ?_)
                    exact awl_nil ⟨rfl, post_put⟩⟩⟩
                , ⟨_, rfl, fun sl hd hr ho => by
                    refine g_run rfl (hd 13 _ rfl rfl rfl) hg43 ?_
                    first | (refine r_load1 (hd 19 _ rfl rfl rfl) T.agg3 rfl ?_) | (refine r_load1b 0 (hd 19 _ rfl rfl rfl) rfl rfl T.agg3 rfl ?_)
                    exact awl_nil ⟨rfl, post_put⟩⟩⟩
                , ⟨_, rfl, fun sl hd hr ho => by
                    refine g_run rfl (hd 13 _ rfl rfl rfl) hg43 ?_
                    refine r_cmp (hd 18 _ rfl rfl rfl) (hd 20 _ rfl rfl rfl) rfl rfl ?_
                    exact awl_nil ⟨rfl, post_put⟩⟩⟩
                , ⟨_, rfl, fun sl hd hr ho => by
                    refine g_run rfl (hd 13 _ rfl rfl rfl) hg43 ?_
                    refine r_move (hd 21 _ rfl rfl rfl) rfl ?_
                    exact awl_nil ⟨rfl, post_put⟩⟩⟩
                , ⟨_, rfl, fun sl hd hr ho => by
                    refine g_skip rfl (hd 22 _ rfl rfl rfl) hg52 rfl ?_
                    exact awl_nil ⟨rfl, post_put⟩⟩⟩
                , ⟨_, rfl, fun sl hd hr ho => by
                    refine g_skip rfl (hd 22 _ rfl rfl rfl) hg52 rfl ?_
                    exact awl_nil ⟨rfl, post_put⟩⟩⟩
                , ⟨_, rfl, fun sl hd hr ho => by
                    refine g_skip rfl (hd 22 _ rfl rfl rfl) hg52 rfl ?_
                    exact awl_nil ⟨rfl, post_put⟩⟩⟩
                , ⟨_, rfl, fun sl hd hr ho => by
                    refine g_skip rfl (hd 22 _ rfl rfl rfl) hg52 rfl ?_
                    exact awl_nil ⟨rfl, post_put⟩⟩⟩
                , ⟨_, rfl, fun sl hd hr ho => by
                    refine g_skip rfl (hd 22 _ rfl rfl rfl) hg52 rfl ?_
                    exact awl_nil ⟨rfl, post_put⟩⟩⟩
                , ⟨_, rfl, fun sl hd hr ho => by
                    refine g_skip rfl (hd 22 _ rfl rfl rfl) hg52 rfl ?_
                    exact awl_nil ⟨rfl, post_put⟩⟩⟩
                , ⟨_, rfl, fun sl hd hr ho => by
                    refine g_skip rfl (hd 22 _ rfl rfl rfl) hg52 rfl ?_
                    exact awl_nil ⟨rfl, post_put⟩⟩⟩
                (by rfl) ?_
              refine g_skip rfl rfl hg52 rfl ?_
              refine g_run rfl rfl hg43 ?_
              refine r_pickF rfl hg52 rfl rfl ?_
              refine g_run rfl rfl hg34 ?_
              refine r_pickF rfl hg43 rfl rfl ?_
              refine r_pickT rfl hg34 rfl rfl ?_
              refine awl_nil ?_
              refine x_then ?_
              refine awp_condF rfl ?_
              refine awp_exit ?_
              refine x_thenE ?_
              refine x_thenE ?_
              refine x_blockE ?_
              refine x_then ?_
              refine ⟨⟨107, [(0, .a (.sl 1 (ls.map fun l => [entsA l]))), (3, .a (plesA out)), (4, .a (.v (.int .i64 ((i : Int))))), (5, .a (.v (.int .i64 ((k : Int))))), (6, .a (.v (.pointer (some ⟨b6, 0, none⟩)))), (7, .a (.v (.int .i64 (((j) : Int)))))], [⟨b6, true, .box (Ent.cs x)⟩]⟩, ⟨rfl, (Slots.cons rfl (by first | exact .refl _ | exact .nilOwn _ _ | exact .nilSl _ | exact .ownSl _ _ _  | exact SV.le.of_eq (by simp)) (Slots.cons rfl (by first | exact .refl _ | exact .nilOwn _ _ | exact .nilSl _ | exact .ownSl _ _ _  | exact SV.le.of_eq (by simp)) (Slots.cons rfl (by first | exact .refl _ | exact .nilOwn _ _ | exact .nilSl _ | exact .ownSl _ _ _  | exact SV.le.of_eq (by simp)) (Slots.cons rfl (by first | exact .refl _ | exact .nilOwn _ _ | exact .nilSl _ | exact .ownSl _ _ _  | exact SV.le.of_eq (by simp)) (Slots.cons rfl (by first | exact .refl _ | exact .nilOwn _ _ | exact .nilSl _ | exact .ownSl _ _ _  | exact SV.le.of_eq (by simp)) (Slots.cons rfl (by first | exact .refl _ | exact .nilOwn _ _ | exact .nilSl _ | exact .ownSl _ _ _  | exact SV.le.of_eq (by simp)) Slots.nil)))))), (by first | exact List.Sublist.refl _ | exact .cons_cons _ (.cons _ (.refl _)) | exact List.nil_sublist _ | exact .cons _ (.refl _) | exact .cons _ (.cons _ (.refl _)) | exact .cons _ (.cons _ (.cons _ (.refl _))) | exact .cons _ (.cons _ (.cons _ (.cons _ (.refl _)))) | exact .cons_cons _ (List.nil_sublist _))⟩, ⟨j, rfl, hj, ha, (fun z hz => by first | (rw [hy] at hz; cases hz; exact hnl) | (have := (List.getElem?_eq_some_iff.1 hz).1; omega))⟩⟩
        ·
          have hgej : out.length ≤ j := by have := of_decide_eq_false hg34; simp at this; omega
          refine awp_drawS [30, 31, 32, 33, 34, 35, 36, 37, 38, 39, 40, 41, 42, 43, 44, 45, 46, 47, 48, 49, 50, 51, 52, 53, 54, 55, 56, 57, 58, 59] [_, _, _, _, _, _, _, _, _, _, _, _, _, _, _, _, _, _, _, _, _, _, _, _, _, _, _, _, _, _] [] [] T.mixed rfl rfl rfl ⟨⟨⟨⟨⟨⟨⟨⟨⟨⟨⟨⟨⟨⟨⟨⟨⟨⟨⟨⟨⟨⟨⟨⟨⟨⟨⟨⟨⟨⟨trivial
            , ⟨_, rfl, fun sl hd hr ho => by
                refine r_move (hr 7 _ rfl rfl rfl) rfl ?_
                exact awl_nil ⟨rfl, post_put⟩⟩⟩
            , ⟨_, rfl, fun sl hd hr ho => by
                refine r_move (hr 3 _ rfl rfl rfl) rfl ?_
                exact awl_nil ⟨rfl, post_put⟩⟩⟩
            , ⟨_, rfl, fun sl hd hr ho => by
                first | (refine r_lenS (hd 1 _ rfl rfl rfl) rfl T.sl22 rfl ?_) | (refine r_lenNil (hd 1 _ rfl rfl rfl) T.sl22 rfl ?_)
                exact awl_nil ⟨rfl, post_put⟩⟩⟩
            , ⟨_, rfl, fun sl hd hr ho => by
                refine r_cmp (hd 0 _ rfl rfl rfl) (hd 2 _ rfl rfl rfl) rfl rfl ?_
                exact awl_nil ⟨rfl, post_put⟩⟩⟩
            , ⟨_, rfl, fun sl hd hr ho => by
                refine r_move (hd 3 _ rfl rfl rfl) rfl ?_
                exact awl_nil ⟨rfl, post_put⟩⟩⟩
            , ⟨_, rfl, fun sl hd hr ho => by
                refine g_skip rfl (hd 4 _ rfl rfl rfl) hg34 rfl ?_
                exact awl_nil ⟨rfl, post_put⟩⟩⟩
            , ⟨_, rfl, fun sl hd hr ho => by
                refine g_skip rfl (hd 4 _ rfl rfl rfl) hg34 rfl ?_
                exact awl_nil ⟨rfl, post_put⟩⟩⟩
            , ⟨_, rfl, fun sl hd hr ho => by
                refine g_skip rfl (hd 4 _ rfl rfl rfl) hg34 rfl ?_
                exact awl_nil ⟨rfl, post_put⟩⟩⟩
            , ⟨_, rfl, fun sl hd hr ho => by
                refine g_skip rfl (hd 4 _ rfl rfl rfl) hg34 rfl ?_
                exact awl_nil ⟨rfl, post_put⟩⟩⟩
            , ⟨_, rfl, fun sl hd hr ho => by
                refine g_skip rfl (hd 4 _ rfl rfl rfl) hg34 rfl ?_
                exact awl_nil ⟨rfl, post_put⟩⟩⟩
            , ⟨_, rfl, fun sl hd hr ho => by
                refine g_skip rfl (hd 4 _ rfl rfl rfl) hg34 rfl ?_
                exact awl_nil ⟨rfl, post_put⟩⟩⟩
            , ⟨_, rfl, fun sl hd hr ho => by
                refine g_skip rfl (hd 4 _ rfl rfl rfl) hg34 rfl ?_
                exact awl_nil ⟨rfl, post_put⟩⟩⟩
            , ⟨_, rfl, fun sl hd hr ho => by
                refine g_skip rfl (hd 4 _ rfl rfl rfl) hg34 rfl ?_
                exact awl_nil ⟨rfl, post_put⟩⟩⟩
            , ⟨_, rfl, fun sl hd hr ho => by
                refine g_skip rfl (hd 4 _ rfl rfl rfl) hg34 rfl ?_
                exact awl_nil ⟨rfl, post_put⟩⟩⟩
            , ⟨_, rfl, fun sl hd hr ho => by
                refine g_skipU rfl (hd 13 _ rfl rfl rfl) rfl ?_
                exact awl_nil ⟨rfl, post_put⟩⟩⟩
            , ⟨_, rfl, fun sl hd hr ho => by
                refine g_skipU rfl (hd 13 _ rfl rfl rfl) rfl ?_
                exact awl_nil ⟨rfl, post_put⟩⟩⟩
            , ⟨_, rfl, fun sl hd hr ho => by
                refine g_skipU rfl (hd 13 _ rfl rfl rfl) rfl ?_
                exact awl_nil ⟨rfl, post_put⟩⟩⟩
            , ⟨_, rfl, fun sl hd hr ho => by
                refine g_skipU rfl (hd 13 _ rfl rfl rfl) rfl ?_
                exact awl_nil ⟨rfl, post_put⟩⟩⟩
            , ⟨_, rfl, fun sl hd hr ho => by
                refine g_skipU rfl (hd 13 _ rfl rfl rfl) rfl ?_
                exact awl_nil ⟨rfl, post_put⟩⟩⟩
            , ⟨_, rfl, fun sl hd hr ho => by
                refine g_skipU rfl (hd 13 _ rfl rfl rfl) rfl ?_
                exact awl_nil ⟨rfl, post_put⟩⟩⟩
            , ⟨_, rfl, fun sl hd hr ho => by
                refine g_skipU rfl (hd 13 _ rfl rfl rfl) rfl ?_
                exact awl_nil ⟨rfl, post_put⟩⟩⟩
            , ⟨_, rfl, fun sl hd hr ho => by
                refine g_skipU rfl (hd 13 _ rfl rfl rfl) rfl ?_
                exact awl_nil ⟨rfl, post_put⟩⟩⟩
            , ⟨_, rfl, fun sl hd hr ho => by
                refine g_skipU rfl (hd 13 _ rfl rfl rfl) rfl ?_
                exact awl_nil ⟨rfl, post_put⟩⟩⟩
            , ⟨_, rfl, fun sl hd hr ho => by
                refine g_skipU rfl (hd 22 _ rfl rfl rfl) rfl ?_
                exact awl_nil ⟨rfl, post_put⟩⟩⟩
            , ⟨_, rfl, fun sl hd hr ho => by
                refine g_skipU rfl (hd 22 _ rfl rfl rfl) rfl ?_
                exact awl_nil ⟨rfl, post_put⟩⟩⟩
            , ⟨_, rfl, fun sl hd hr ho => by
                refine g_skipU rfl (hd 22 _ rfl rfl rfl) rfl ?_
                exact awl_nil ⟨rfl, post_put⟩⟩⟩
            , ⟨_, rfl, fun sl hd hr ho => by
                refine g_skipU rfl (hd 22 _ rfl rfl rfl) rfl ?_
                exact awl_nil ⟨rfl, post_put⟩⟩⟩
            , ⟨_, rfl, fun sl hd hr ho => by
                refine g_skipU rfl (hd 22 _ rfl rfl rfl) rfl ?_
                exact awl_nil ⟨rfl, post_put⟩⟩⟩
            , ⟨_, rfl, fun sl hd hr ho => by
                refine g_skipU rfl (hd 22 _ rfl rfl rfl) rfl ?_
                exact awl_nil ⟨rfl, post_put⟩⟩⟩
            , ⟨_, rfl, fun sl hd hr ho => by
                refine g_skipU rfl (hd 22 _ rfl rfl rfl) rfl ?_
                exact awl_nil ⟨rfl, post_put⟩⟩⟩
            (by rfl) ?_
          refine g_skipU rfl rfl rfl ?_
          refine g_skipU rfl rfl rfl ?_
          refine g_skip rfl rfl hg34 rfl ?_
          refine r_pickF rfl hg34 rfl rfl ?_
          refine awl_nil ?_
          refine x_then ?_
          refine awp_condF rfl ?_
          refine awp_exit ?_
          refine x_thenE ?_
          refine x_thenE ?_
          refine x_blockE ?_
          refine x_then ?_
          refine ⟨⟨107, [(0, .a (.sl 1 (ls.map fun l => [entsA l]))), (3, .a (plesA out)), (4, .a (.v (.int .i64 ((i : Int))))), (5, .a (.v (.int .i64 ((k : Int))))), (6, .a (.v (.pointer (some ⟨b6, 0, none⟩)))), (7, .a (.v (.int .i64 (((j) : Int)))))], [⟨b6, true, .box (Ent.cs x)⟩]⟩, ⟨rfl, (Slots.cons rfl (by first | exact .refl _ | exact .nilOwn _ _ | exact .nilSl _ | exact .ownSl _ _ _  | exact SV.le.of_eq (by simp)) (Slots.cons rfl (by first | exact .refl _ | exact .nilOwn _ _ | exact .nilSl _ | exact .ownSl _ _ _  | exact SV.le.of_eq (by simp)) (Slots.cons rfl (by first | exact .refl _ | exact .nilOwn _ _ | exact .nilSl _ | exact .ownSl _ _ _  | exact SV.le.of_eq (by simp)) (Slots.cons rfl (by first | exact .refl _ | exact .nilOwn _ _ | exact .nilSl _ | exact .ownSl _ _ _  | exact SV.le.of_eq (by simp)) (Slots.cons rfl (by first | exact .refl _ | exact .nilOwn _ _ | exact .nilSl _ | exact .ownSl _ _ _  | exact SV.le.of_eq (by simp)) (Slots.cons rfl (by first | exact .refl _ | exact .nilOwn _ _ | exact .nilSl _ | exact .ownSl _ _ _  | exact SV.le.of_eq (by simp)) Slots.nil)))))), (by first | exact List.Sublist.refl _ | exact .cons_cons _ (.cons _ (.refl _)) | exact List.nil_sublist _ | exact .cons _ (.refl _) | exact .cons _ (.cons _ (.refl _)) | exact .cons _ (.cons _ (.cons _ (.refl _))) | exact .cons _ (.cons _ (.cons _ (.cons _ (.refl _)))) | exact .cons_cons _ (List.nil_sublist _))⟩, ⟨j, rfl, hj, ha, (fun z hz => by first | (rw [hy] at hz; cases hz; exact hnl) | (have := (List.getElem?_eq_some_iff.1 hz).1; omega))⟩⟩
      ·
        rintro _ ⟨j, rfl, hj, ha, hs⟩
        refine awp_seq ?_
        rcases Bool.eq_false_or_eq_true ((j : Int) == (out.map PE).length) with hg70 | hg70
        ·
          have hje : j = out.length := by have := eq_of_beq hg70; simp at this; omega
          have hins : insP out x.pl = out.take j ++ x.pl :: out.drop j := by rw [insP_at ha hj hs, List.getElem?_eq_none (by omega), List.take_of_length_le (by omega), List.drop_eq_nil_of_le (by omega)]
          refine awp_drawS [66, 67, 68, 69, 70, 71, 72, 73, 74, 75, 76, 77, 78, 79, 80, 81, 82, 83, 84, 85, 86, 87] [_, _, _, _, _, _, _, _, _, _, _, _, _, _, _, _, _, _, _, _, _, _] [] [] T.mixed rfl rfl rfl ⟨⟨⟨⟨⟨⟨⟨⟨⟨⟨⟨⟨⟨⟨⟨⟨⟨⟨⟨⟨⟨⟨trivial
            , ⟨_, rfl, fun sl hd hr ho => by
                refine r_move (hr 7 _ rfl rfl rfl) rfl ?_
                exact awl_nil ⟨rfl, post_put⟩⟩⟩
            , ⟨_, rfl, fun sl hd hr ho => by
                refine r_move (hr 3 _ rfl rfl rfl) rfl ?_
                exact awl_nil ⟨rfl, post_put⟩⟩⟩
            , ⟨_, rfl, fun sl hd hr ho => by
                first | (refine r_lenS (hd 1 _ rfl rfl rfl) rfl T.sl22 rfl ?_) | (refine r_lenNil (hd 1 _ rfl rfl rfl) T.sl22 rfl ?_)
                exact awl_nil ⟨rfl, post_put⟩⟩⟩
            , ⟨_, rfl, fun sl hd hr ho => by
                refine r_cmp (hd 0 _ rfl rfl rfl) (hd 2 _ rfl rfl rfl) rfl rfl ?_
                exact awl_nil ⟨rfl, post_put⟩⟩⟩
            , ⟨_, rfl, fun sl hd hr ho => by
                refine r_move (hd 3 _ rfl rfl rfl) rfl ?_
                exact awl_nil ⟨rfl, post_put⟩⟩⟩
            , ⟨_, rfl, fun sl hd hr ho => by
                refine g_skip rfl (hd 4 _ rfl rfl rfl) hg70 rfl ?_
                exact awl_nil ⟨rfl, post_put⟩⟩⟩
            , ⟨_, rfl, fun sl hd hr ho => by
                refine g_skip rfl (hd 4 _ rfl rfl rfl) hg70 rfl ?_
                exact awl_nil ⟨rfl, post_put⟩⟩⟩
            , ⟨_, rfl, fun sl hd hr ho => by
                refine g_skip rfl (hd 4 _ rfl rfl rfl) hg70 rfl ?_
                exact awl_nil ⟨rfl, post_put⟩⟩⟩
            , ⟨_, rfl, fun sl hd hr ho => by
                refine g_skip rfl (hd 4 _ rfl rfl rfl) hg70 rfl ?_
                exact awl_nil ⟨rfl, post_put⟩⟩⟩
            , ⟨_, rfl, fun sl hd hr ho => by
                refine g_skip rfl (hd 4 _ rfl rfl rfl) hg70 rfl ?_
                exact awl_nil ⟨rfl, post_put⟩⟩⟩
            , ⟨_, rfl, fun sl hd hr ho => by
                refine g_skip rfl (hd 4 _ rfl rfl rfl) hg70 rfl ?_
                exact awl_nil ⟨rfl, post_put⟩⟩⟩
            , ⟨_, rfl, fun sl hd hr ho => by
                refine g_skip rfl (hd 4 _ rfl rfl rfl) hg70 rfl ?_
                exact awl_nil ⟨rfl, post_put⟩⟩⟩
            , ⟨_, rfl, fun sl hd hr ho => by
                refine g_skip rfl (hd 4 _ rfl rfl rfl) hg70 rfl ?_
                exact awl_nil ⟨rfl, post_put⟩⟩⟩
            , ⟨_, rfl, fun sl hd hr ho => by
                refine r_pickT (hd 4 _ rfl rfl rfl) hg70 rfl rfl ?_
                exact awl_nil ⟨rfl, post_put⟩⟩⟩
            , ⟨_, rfl, fun sl hd hr ho => by
                refine r_move (hd 13 _ rfl rfl rfl) rfl ?_
                exact awl_nil ⟨rfl, post_put⟩⟩⟩
            , ⟨_, rfl, fun sl hd hr ho => by
                refine g_skip rfl (hd 14 _ rfl rfl rfl) rfl rfl ?_
                exact awl_nil ⟨rfl, post_put⟩⟩⟩
            , ⟨_, rfl, fun sl hd hr ho => by
                refine g_skip rfl (hd 14 _ rfl rfl rfl) rfl rfl ?_
                exact awl_nil ⟨rfl, post_put⟩⟩⟩
            , ⟨_, rfl, fun sl hd hr ho => by
                refine g_skip rfl (hd 14 _ rfl rfl rfl) rfl rfl ?_
                exact awl_nil ⟨rfl, post_put⟩⟩⟩
            , ⟨_, rfl, fun sl hd hr ho => by
                refine g_skip rfl (hd 14 _ rfl rfl rfl) rfl rfl ?_
                exact awl_nil ⟨rfl, post_put⟩⟩⟩
            , ⟨_, rfl, fun sl hd hr ho => by
                refine g_skip rfl (hd 14 _ rfl rfl rfl) rfl rfl ?_
                exact awl_nil ⟨rfl, post_put⟩⟩⟩
            , ⟨_, rfl, fun sl hd hr ho => by
                refine g_skip rfl (hd 14 _ rfl rfl rfl) rfl rfl ?_
                exact awl_nil ⟨rfl, post_put⟩⟩⟩
            , ⟨_, rfl, fun sl hd hr ho => by
                refine g_skip rfl (hd 14 _ rfl rfl rfl) rfl rfl ?_
                exact awl_nil ⟨rfl, post_put⟩⟩⟩
            (by rfl) ?_
          refine g_skip rfl rfl rfl rfl ?_
          refine r_pickT rfl rfl rfl rfl ?_
          refine awl_nil ?_
          refine x_then ?_
          refine awp_condT rfl ?_
          refine awp_drawS [90, 91, 92, 93, 94, 95, 96, 97, 98, 99, 100, 101, 102, 103, 104] [_, _, _, _, _, _, _, _, _, _, _, _, _, _, _] [[], [], [], [], [90], [], [], [], [], [], [], [90, 94]] [(0, 90), (4, 90), (10, 100), (11, 90)] T.mixed rfl rfl rfl ⟨⟨⟨⟨⟨⟨⟨⟨⟨⟨⟨⟨⟨⟨⟨trivial
            , ⟨_, rfl, fun sl hd hr ho => by
                refine r_lit 90 (parts := []) rfl T.sl22 T.sz35 T.zraw35 rfl rfl parts_nil rfl rfl rfl rfl ?_
                exact awl_nil ⟨rfl, (post_dem (ho 90 (List.mem_of_elem_eq_true rfl)))⟩⟩⟩
            , ⟨_, rfl, fun sl hd hr ho => by
                refine r_move (hr 3 _ rfl rfl rfl) rfl ?_
                exact awl_nil ⟨rfl, post_put⟩⟩⟩
            , ⟨_, rfl, fun sl hd hr ho => by
                refine r_move (hr 7 _ rfl rfl rfl) rfl ?_
                exact awl_nil ⟨rfl, post_put⟩⟩⟩
            , ⟨_, rfl, fun sl hd hr ho => by
                refine r_sliceH (hd 1 _ rfl rfl rfl) rfl (hd 2 _ rfl rfl rfl) T.sl22 T.sz35 (by omega) (by simp; omega) rfl ?_
                exact awl_nil ⟨rfl, post_put⟩⟩⟩
            , ⟨_, rfl, fun sl hd hr ho => by
                refine r_append 90 (hd 0 _ rfl rfl rfl) (by first | exact .own _ | exact .nil) (hd 3 _ rfl rfl rfl) (by first | exact .sl _ | exact .own _ _ | exact .nil) T.sl22 T.sz35 (by decide) T.by35 T.zlen35 (by simp [chunks] <;> omega) (by simp [chunks] <;> omega) rfl ?_
                exact awl_nil ⟨rfl, (post_dem (ho 90 (List.mem_of_elem_eq_true rfl)))⟩⟩⟩
            , ⟨_, rfl, fun sl hd hr ho => by
                first | (refine r_fieldcp (hr 6 _ rfl rfl rfl) T.f35_0 T.sz3 rfl ?_) | (refine r_fieldb (hr 6 _ rfl rfl rfl) T.f35_0 T.sz3 rfl ?_)
                exact awl_nil ⟨rfl, post_put⟩⟩⟩
            , ⟨_, rfl, fun sl hd hr ho => by
                first | (refine r_load1 (hd 5 _ rfl rfl rfl) T.agg3 rfl ?_) | (refine r_load1b 0 (hd 5 _ rfl rfl rfl) rfl rfl T.agg3 rfl ?_)
                exact awl_nil ⟨rfl, post_put⟩⟩⟩
            , ⟨_, rfl, fun sl hd hr ho => by
                first | (refine r_fieldcp (hr 6 _ rfl rfl rfl) T.f35_1 T.sz3 rfl ?_) | (refine r_fieldb (hr 6 _ rfl rfl rfl) T.f35_1 T.sz3 rfl ?_)
                exact awl_nil ⟨rfl, post_put⟩⟩⟩
            , ⟨_, rfl, fun sl hd hr ho => by
                first | (refine r_load1 (hd 7 _ rfl rfl rfl) T.agg3 rfl ?_) | (refine r_load1b 0 (hd 7 _ rfl rfl rfl) rfl rfl T.agg3 rfl ?_)
                exact awl_nil ⟨rfl, post_put⟩⟩⟩
            , ⟨_, rfl, fun sl hd hr ho => by
                refine r_build (parts := [(0, .tmp 96), (1, .tmp 98)]) rfl T.pl35 T.zero35 (parts_cons (hd 6 _ rfl rfl rfl) (parts_cons (hd 8 _ rfl rfl rfl) parts_nil)) rfl rfl ?_
                exact awl_nil ⟨rfl, post_put⟩⟩⟩
            , ⟨_, rfl, fun sl hd hr ho => by
                refine r_lit 100 (parts := [(0, .tmp 99)]) rfl T.sl22 T.sz35 T.zraw35 rfl rfl (parts_cons (hd 9 _ rfl rfl rfl) parts_nil) rfl rfl rfl rfl ?_
                exact awl_nil ⟨rfl, (post_dem (ho 100 (List.mem_of_elem_eq_true rfl)))⟩⟩⟩
            , ⟨_, rfl, fun sl hd hr ho => by
                refine r_append 90 (hd 4 _ rfl rfl rfl) (by first | exact .own _ | exact .nil) (hd 10 _ rfl rfl rfl) (by first | exact .sl _ | exact .own _ _ | exact .nil) T.sl22 T.sz35 (by decide) T.by35 T.zlen35 (by simp [chunks] <;> omega) (by simp [chunks] <;> omega) rfl ?_
                exact awl_nil ⟨rfl, (post_dem (ho 90 (List.mem_of_elem_eq_true rfl)))⟩⟩⟩
            , ⟨_, rfl, fun sl hd hr ho => by
                refine r_move (hr 3 _ rfl rfl rfl) rfl ?_
                exact awl_nil ⟨rfl, post_put⟩⟩⟩
            , ⟨_, rfl, fun sl hd hr ho => by
                refine r_move (hr 7 _ rfl rfl rfl) rfl ?_
                exact awl_nil ⟨rfl, post_put⟩⟩⟩
            , ⟨_, rfl, fun sl hd hr ho => by
                refine r_sliceL (hd 12 _ rfl rfl rfl) rfl (hd 13 _ rfl rfl rfl) T.sl22 T.sz35 (by omega) (by simp; omega) rfl ?_
                exact awl_nil ⟨rfl, post_put⟩⟩⟩
            (by rfl) ?_
          refine r_append 90 rfl (by first | exact .own _ | exact .nil) rfl (by first | exact .sl _ | exact .own _ _ | exact .nil) T.sl22 T.sz35 (by decide) T.by35 T.zlen35 (by simp [chunks] <;> omega) (by simp [chunks] <;> omega) rfl ?_
          refine r_assign rfl rfl ?_
          refine awl_nil ?_
          refine x_block ?_
          refine x_then ?_
          refine awp_region ?_
          refine r_move rfl rfl ?_
          refine r_ari _ rfl rfl rfl (wrap_id (by first | omega | (simp; omega))) rfl ?_
          refine r_assign rfl rfl ?_
          refine awl_nil ?_
          refine x_then ?_
          refine ⟨l.length - (k + 1), ⟨107, [(0, .a (.sl 1 (ls.map fun l => [entsA l]))), (3, .a (plesA (insP out x.pl))), (4, .a (.v (.int .i64 ((i : Int))))), (5, .a (.v (.int .i64 (((k + 1) : Int)))))], []⟩, ⟨rfl, (Slots.cons rfl (by first | exact .refl _ | exact .nilOwn _ _ | exact .nilSl _ | exact .ownSl _ _ _  | exact SV.le.ownEq (by first | rfl | (rw [hins]; done) | (rw [hins]; rfl) | (rw [hins]; simp [chunks, PE, Ent.cs, Ent.pl, List.map_take, List.map_drop]; rfl)) | exact SV.le.of_eq (by first | rfl | (rw [hins]; done) | (rw [hins]; rfl) | (rw [hins]; simp [chunks, PE, Ent.cs, Ent.pl, List.map_take, List.map_drop]; rfl))) (Slots.cons rfl (by first | exact .refl _ | exact .nilOwn _ _ | exact .nilSl _ | exact .ownSl _ _ _  | exact SV.le.ownEq (by first | rfl | (rw [hins]; done) | (rw [hins]; rfl) | (rw [hins]; simp [chunks, PE, Ent.cs, Ent.pl, List.map_take, List.map_drop]; rfl)) | exact SV.le.of_eq (by first | rfl | (rw [hins]; done) | (rw [hins]; rfl) | (rw [hins]; simp [chunks, PE, Ent.cs, Ent.pl, List.map_take, List.map_drop]; rfl))) (Slots.cons rfl (by first | exact .refl _ | exact .nilOwn _ _ | exact .nilSl _ | exact .ownSl _ _ _  | exact SV.le.ownEq (by first | rfl | (rw [hins]; done) | (rw [hins]; rfl) | (rw [hins]; simp [chunks, PE, Ent.cs, Ent.pl, List.map_take, List.map_drop]; rfl)) | exact SV.le.of_eq (by first | rfl | (rw [hins]; done) | (rw [hins]; rfl) | (rw [hins]; simp [chunks, PE, Ent.cs, Ent.pl, List.map_take, List.map_drop]; rfl))) (Slots.cons rfl (by first | exact .refl _ | exact .nilOwn _ _ | exact .nilSl _ | exact .ownSl _ _ _  | exact SV.le.ownEq (by first | rfl | (rw [hins]; done) | (rw [hins]; rfl) | (rw [hins]; simp [chunks, PE, Ent.cs, Ent.pl, List.map_take, List.map_drop]; rfl)) | exact SV.le.of_eq (by first | rfl | (rw [hins]; done) | (rw [hins]; rfl) | (rw [hins]; simp [chunks, PE, Ent.cs, Ent.pl, List.map_take, List.map_drop]; rfl))) Slots.nil)))), (by first | exact List.Sublist.refl _ | exact .cons_cons _ (.cons _ (.refl _)) | exact List.nil_sublist _ | exact .cons _ (.refl _) | exact .cons _ (.cons _ (.refl _)) | exact .cons _ (.cons _ (.cons _ (.refl _))) | exact .cons _ (.cons _ (.cons _ (.cons _ (.refl _)))) | exact .cons_cons _ (List.nil_sublist _))⟩, (by omega), ⟨k + 1, insP out x.pl, rfl, rfl, (by have := (List.getElem?_eq_some_iff.1 hx).1; omega), (by rw [ho, insAll, insAll, fold_take hx]), (by have := insP_len out x.pl; omega)⟩⟩
        ·
          have hjn : j < out.length := by have h : ¬ (j : Int) = (out.map PE).length := by simpa using hg70
                                          simp at h; omega
          obtain ⟨y, hy⟩ := get_lt hjn
          rcases Bool.eq_false_or_eq_true (y.1 != x.vol) with hg80 | hg80
          ·
            have hins : insP out x.pl = out.take j ++ x.pl :: out.drop j := by rw [insP_at ha hj hs, hy]; simp only [show ¬ y = x.pl from fun e => (by simpa using hg80 : ¬ y.1 = x.vol) (congrArg Prod.fst e), if_false]
            refine awp_drawS [66, 67, 68, 69, 70, 71, 72, 73, 74, 75, 76, 77, 78, 79, 80, 81, 82, 83, 84, 85, 86, 87] [_, _, _, _, _, _, _, _, _, _, _, _, _, _, _, _, _, _, _, _, _, _] [] [] T.mixed rfl rfl rfl ⟨⟨⟨⟨⟨⟨⟨⟨⟨⟨⟨⟨⟨⟨⟨⟨⟨⟨⟨⟨⟨⟨trivial
              , ⟨_, rfl, fun sl hd hr ho => by
                  refine r_move (hr 7 _ rfl rfl rfl) rfl ?_
                  exact awl_nil ⟨rfl, post_put⟩⟩⟩
              , ⟨_, rfl, fun sl hd hr ho => by
                  refine r_move (hr 3 _ rfl rfl rfl) rfl ?_
                  exact awl_nil ⟨rfl, post_put⟩⟩⟩
              , ⟨_, rfl, fun sl hd hr ho => by
                  first | (refine r_lenS (hd 1 _ rfl rfl rfl) rfl T.sl22 rfl ?_) | (refine r_lenNil (hd 1 _ rfl rfl rfl) T.sl22 rfl ?_)
                  exact awl_nil ⟨rfl, post_put⟩⟩⟩
              , ⟨_, rfl, fun sl hd hr ho => by
                  refine r_cmp (hd 0 _ rfl rfl rfl) (hd 2 _ rfl rfl rfl) rfl rfl ?_
                  exact awl_nil ⟨rfl, post_put⟩⟩⟩
              , ⟨_, rfl, fun sl hd hr ho => by
                  refine r_move (hd 3 _ rfl rfl rfl) rfl ?_
                  exact awl_nil ⟨rfl, post_put⟩⟩⟩
              , ⟨_, rfl, fun sl hd hr ho => by
                  refine g_run rfl (hd 4 _ rfl rfl rfl) hg70 ?_
                  refine r_move (hr 3 _ rfl rfl rfl) rfl ?_
                  exact awl_nil ⟨rfl, post_put⟩⟩⟩
              , ⟨_, rfl, fun sl hd hr ho => by
                  refine g_run rfl (hd 4 _ rfl rfl rfl) hg70 ?_
                  refine r_move (hr 7 _ rfl rfl rfl) rfl ?_
                  exact awl_nil ⟨rfl, post_put⟩⟩⟩
              , ⟨_, rfl, fun sl hd hr ho => by
                  refine g_run rfl (hd 4 _ rfl rfl rfl) hg70 ?_
                  refine r_index (hd 5 _ rfl rfl rfl) rfl (hd 6 _ rfl rfl rfl) T.sl22 T.sz35 (by omega) (get_map hy) rfl ?_
                  exact awl_nil ⟨rfl, post_put⟩⟩⟩
              , ⟨_, rfl, fun sl hd hr ho => by
                  refine g_run rfl (hd 4 _ rfl rfl rfl) hg70 ?_
                  first | (refine r_fieldcp (hd 7 _ rfl rfl rfl) T.f35_0 T.sz3 rfl ?_) | (refine r_fieldb (hd 7 _ rfl rfl rfl) T.f35_0 T.sz3 rfl ?_)
                  exact awl_nil ⟨rfl, post_put⟩⟩⟩
              , ⟨_, rfl, fun sl hd hr ho => by
                  refine g_run rfl (hd 4 _ rfl rfl rfl) hg70 ?_
                  first | (refine r_load1 (hd 8 _ rfl rfl rfl) T.agg3 rfl ?_) | (refine r_load1b 0 (hd 8 _ rfl rfl rfl) rfl rfl T.agg3 rfl ?_)
                  exact awl_nil ⟨rfl, post_put⟩⟩⟩
              , ⟨_, rfl, fun sl hd hr ho => by
                  refine g_run rfl (hd 4 _ rfl rfl rfl) hg70 ?_
                  first | (refine r_fieldcp (hr 6 _ rfl rfl rfl) T.f35_0 T.sz3 rfl ?_) | (refine r_fieldb (hr 6 _ rfl rfl rfl) T.f35_0 T.sz3 rfl ?_)
                  exact awl_nil ⟨rfl, post_put⟩⟩⟩
              , ⟨_, rfl, fun sl hd hr ho => by
                  refine g_run rfl (hd 4 _ rfl rfl rfl) hg70 ?_
                  first | (refine r_load1 (hd 10 _ rfl rfl rfl) T.agg3 rfl ?_) | (refine r_load1b 0 (hd 10 _ rfl rfl rfl) rfl rfl T.agg3 rfl ?_)
                  exact awl_nil ⟨rfl, post_put⟩⟩⟩
              , ⟨_, rfl, fun sl hd hr ho => by
                  refine g_run rfl (hd 4 _ rfl rfl rfl) hg70 ?_
                  refine r_cmp (hd 9 _ rfl rfl rfl) (hd 11 _ rfl rfl rfl) rfl rfl ?_
                  exact awl_nil ⟨rfl, post_put⟩⟩⟩
              , ⟨_, rfl, fun sl hd hr ho => by
                  refine r_pickF (hd 4 _ rfl rfl rfl) hg70 (hd 12 _ rfl rfl rfl) rfl ?_
                  exact awl_nil ⟨rfl, post_put⟩⟩⟩
              , ⟨_, rfl, fun sl hd hr ho => by
                  refine r_move (hd 13 _ rfl rfl rfl) rfl ?_
                  exact awl_nil ⟨rfl, post_put⟩⟩⟩
              , ⟨_, rfl, fun sl hd hr ho => by
                  refine g_skip rfl (hd 14 _ rfl rfl rfl) hg80 rfl ?_
                  exact awl_nil ⟨rfl, post_put⟩⟩⟩
              , ⟨_, rfl, fun sl hd hr ho => by
                  refine g_skip rfl (hd 14 _ rfl rfl rfl) hg80 rfl ?_
                  exact awl_nil ⟨rfl, post_put⟩⟩⟩
              , ⟨_, rfl, fun sl hd hr ho => by
                  refine g_skip rfl (hd 14 _ rfl rfl rfl) hg80 rfl ?_
                  exact awl_nil ⟨rfl, post_put⟩⟩⟩
              , ⟨_, rfl, fun sl hd hr ho => by
                  refine g_skip rfl (hd 14 _ rfl rfl rfl) hg80 rfl ?_
                  exact awl_nil ⟨rfl, post_put⟩⟩⟩
              , ⟨_, rfl, fun sl hd hr ho => by
                  refine g_skip rfl (hd 14 _ rfl rfl rfl) hg80 rfl ?_
                  exact awl_nil ⟨rfl, post_put⟩⟩⟩
              , ⟨_, rfl, fun sl hd hr ho => by
                  refine g_skip rfl (hd 14 _ rfl rfl rfl) hg80 rfl ?_
                  exact awl_nil ⟨rfl, post_put⟩⟩⟩
              , ⟨_, rfl, fun sl hd hr ho => by
                  refine g_skip rfl (hd 14 _ rfl rfl rfl) hg80 rfl ?_
                  exact awl_nil ⟨rfl, post_put⟩⟩⟩
              (by rfl) ?_
            refine g_skip rfl rfl hg80 rfl ?_
            refine r_pickT rfl hg80 rfl rfl ?_
            refine awl_nil ?_
            refine x_then ?_
            refine awp_condT rfl ?_
            refine awp_drawS [90, 91, 92, 93, 94, 95, 96, 97, 98, 99, 100, 101, 102, 103, 104] [_, _, _, _, _, _, _, _, _, _, _, _, _, _, _] [[], [], [], [], [90], [], [], [], [], [], [], [90, 94]] [(0, 90), (4, 90), (10, 100), (11, 90)] T.mixed rfl rfl rfl ⟨⟨⟨⟨⟨⟨⟨⟨⟨⟨⟨⟨⟨⟨⟨trivial
              , ⟨_, rfl, fun sl hd hr ho => by
                  refine r_lit 90 (parts := []) rfl T.sl22 T.sz35 T.zraw35 rfl rfl parts_nil rfl rfl rfl rfl ?_
                  exact awl_nil ⟨rfl, (post_dem (ho 90 (List.mem_of_elem_eq_true rfl)))⟩⟩⟩
              , ⟨_, rfl, fun sl hd hr ho => by
                  refine r_move (hr 3 _ rfl rfl rfl) rfl ?_
                  exact awl_nil ⟨rfl, post_put⟩⟩⟩
              , ⟨_, rfl, fun sl hd hr ho => by
                  refine r_move (hr 7 _ rfl rfl rfl) rfl ?_
                  exact awl_nil ⟨rfl, post_put⟩⟩⟩
              , ⟨_, rfl, fun sl hd hr ho => by
                  refine r_sliceH (hd 1 _ rfl rfl rfl) rfl (hd 2 _ rfl rfl rfl) T.sl22 T.sz35 (by omega) (by simp; omega) rfl ?_
                  exact awl_nil ⟨rfl, post_put⟩⟩⟩
              , ⟨_, rfl, fun sl hd hr ho => by
                  refine r_append 90 (hd 0 _ rfl rfl rfl) (by first | exact .own _ | exact .nil) (hd 3 _ rfl rfl rfl) (by first | exact .sl _ | exact .own _ _ | exact .nil) T.sl22 T.sz35 (by decide) T.by35 T.zlen35 (by simp [chunks] <;> omega) (by simp [chunks] <;> omega) rfl ?_
                  exact awl_nil ⟨rfl, (post_dem (ho 90 (List.mem_of_elem_eq_true rfl)))⟩⟩⟩
              , ⟨_, rfl, fun sl hd hr ho => by
                  first | (refine r_fieldcp (hr 6 _ rfl rfl rfl) T.f35_0 T.sz3 rfl ?_) | (refine r_fieldb (hr 6 _ rfl rfl rfl) T.f35_0 T.sz3 rfl ?_)
                  exact awl_nil ⟨rfl, post_put⟩⟩⟩
              , ⟨_, rfl, fun sl hd hr ho => by
                  first | (refine r_load1 (hd 5 _ rfl rfl rfl) T.agg3 rfl ?_) | (refine r_load1b 0 (hd 5 _ rfl rfl rfl) rfl rfl T.agg3 rfl ?_)
                  exact awl_nil ⟨rfl, post_put⟩⟩⟩
              , ⟨_, rfl, fun sl hd hr ho => by
                  first | (refine r_fieldcp (hr 6 _ rfl rfl rfl) T.f35_1 T.sz3 rfl ?_) | (refine r_fieldb (hr 6 _ rfl rfl rfl) T.f35_1 T.sz3 rfl ?_)
                  exact awl_nil ⟨rfl, post_put⟩⟩⟩
              , ⟨_, rfl, fun sl hd hr ho => by
                  first | (refine r_load1 (hd 7 _ rfl rfl rfl) T.agg3 rfl ?_) | (refine r_load1b 0 (hd 7 _ rfl rfl rfl) rfl rfl T.agg3 rfl ?_)
                  exact awl_nil ⟨rfl, post_put⟩⟩⟩
              , ⟨_, rfl, fun sl hd hr ho => by
                  refine r_build (parts := [(0, .tmp 96), (1, .tmp 98)]) rfl T.pl35 T.zero35 (parts_cons (hd 6 _ rfl rfl rfl) (parts_cons (hd 8 _ rfl rfl rfl) parts_nil)) rfl rfl ?_
                  exact awl_nil ⟨rfl, post_put⟩⟩⟩
              , ⟨_, rfl, fun sl hd hr ho => by
                  refine r_lit 100 (parts := [(0, .tmp 99)]) rfl T.sl22 T.sz35 T.zraw35 rfl rfl (parts_cons (hd 9 _ rfl rfl rfl) parts_nil) rfl rfl rfl rfl ?_
                  exact awl_nil ⟨rfl, (post_dem (ho 100 (List.mem_of_elem_eq_true rfl)))⟩⟩⟩
              , ⟨_, rfl, fun sl hd hr ho => by
                  refine r_append 90 (hd 4 _ rfl rfl rfl) (by first | exact .own _ | exact .nil) (hd 10 _ rfl rfl rfl) (by first | exact .sl _ | exact .own _ _ | exact .nil) T.sl22 T.sz35 (by decide) T.by35 T.zlen35 (by simp [chunks] <;> omega) (by simp [chunks] <;> omega) rfl ?_
                  exact awl_nil ⟨rfl, (post_dem (ho 90 (List.mem_of_elem_eq_true rfl)))⟩⟩⟩
              , ⟨_, rfl, fun sl hd hr ho => by
                  refine r_move (hr 3 _ rfl rfl rfl) rfl ?_
                  exact awl_nil ⟨rfl, post_put⟩⟩⟩
              , ⟨_, rfl, fun sl hd hr ho => by
                  refine r_move (hr 7 _ rfl rfl rfl) rfl ?_
                  exact awl_nil ⟨rfl, post_put⟩⟩⟩
              , ⟨_, rfl, fun sl hd hr ho => by
                  refine r_sliceL (hd 12 _ rfl rfl rfl) rfl (hd 13 _ rfl rfl rfl) T.sl22 T.sz35 (by omega) (by simp; omega) rfl ?_
                  exact awl_nil ⟨rfl, post_put⟩⟩⟩
              (by rfl) ?_
            refine r_append 90 rfl (by first | exact .own _ | exact .nil) rfl (by first | exact .sl _ | exact .own _ _ | exact .nil) T.sl22 T.sz35 (by decide) T.by35 T.zlen35 (by simp [chunks] <;> omega) (by simp [chunks] <;> omega) rfl ?_
            refine r_assign rfl rfl ?_
            refine awl_nil ?_
            refine x_block ?_
            refine x_then ?_
            refine awp_region ?_
            refine r_move rfl rfl ?_
            refine r_ari _ rfl rfl rfl (wrap_id (by first | omega | (simp; omega))) rfl ?_
            refine r_assign rfl rfl ?_
            refine awl_nil ?_
            refine x_then ?_
            refine ⟨l.length - (k + 1), ⟨107, [(0, .a (.sl 1 (ls.map fun l => [entsA l]))), (3, .a (plesA (insP out x.pl))), (4, .a (.v (.int .i64 ((i : Int))))), (5, .a (.v (.int .i64 (((k + 1) : Int)))))], []⟩, ⟨rfl, (Slots.cons rfl (by first | exact .refl _ | exact .nilOwn _ _ | exact .nilSl _ | exact .ownSl _ _ _  | exact SV.le.ownEq (by first | rfl | (rw [hins]; done) | (rw [hins]; rfl) | (rw [hins]; simp [chunks, PE, Ent.cs, Ent.pl, List.map_take, List.map_drop]; rfl)) | exact SV.le.of_eq (by first | rfl | (rw [hins]; done) | (rw [hins]; rfl) | (rw [hins]; simp [chunks, PE, Ent.cs, Ent.pl, List.map_take, List.map_drop]; rfl))) (Slots.cons rfl (by first | exact .refl _ | exact .nilOwn _ _ | exact .nilSl _ | exact .ownSl _ _ _  | exact SV.le.ownEq (by first | rfl | (rw [hins]; done) | (rw [hins]; rfl) | (rw [hins]; simp [chunks, PE, Ent.cs, Ent.pl, List.map_take, List.map_drop]; rfl)) | exact SV.le.of_eq (by first | rfl | (rw [hins]; done) | (rw [hins]; rfl) | (rw [hins]; simp [chunks, PE, Ent.cs, Ent.pl, List.map_take, List.map_drop]; rfl))) (Slots.cons rfl (by first | exact .refl _ | exact .nilOwn _ _ | exact .nilSl _ | exact .ownSl _ _ _  | exact SV.le.ownEq (by first | rfl | (rw [hins]; done) | (rw [hins]; rfl) | (rw [hins]; simp [chunks, PE, Ent.cs, Ent.pl, List.map_take, List.map_drop]; rfl)) | exact SV.le.of_eq (by first | rfl | (rw [hins]; done) | (rw [hins]; rfl) | (rw [hins]; simp [chunks, PE, Ent.cs, Ent.pl, List.map_take, List.map_drop]; rfl))) (Slots.cons rfl (by first | exact .refl _ | exact .nilOwn _ _ | exact .nilSl _ | exact .ownSl _ _ _  | exact SV.le.ownEq (by first | rfl | (rw [hins]; done) | (rw [hins]; rfl) | (rw [hins]; simp [chunks, PE, Ent.cs, Ent.pl, List.map_take, List.map_drop]; rfl)) | exact SV.le.of_eq (by first | rfl | (rw [hins]; done) | (rw [hins]; rfl) | (rw [hins]; simp [chunks, PE, Ent.cs, Ent.pl, List.map_take, List.map_drop]; rfl))) Slots.nil)))), (by first | exact List.Sublist.refl _ | exact .cons_cons _ (.cons _ (.refl _)) | exact List.nil_sublist _ | exact .cons _ (.refl _) | exact .cons _ (.cons _ (.refl _)) | exact .cons _ (.cons _ (.cons _ (.refl _))) | exact .cons _ (.cons _ (.cons _ (.cons _ (.refl _)))) | exact .cons_cons _ (List.nil_sublist _))⟩, (by omega), ⟨k + 1, insP out x.pl, rfl, rfl, (by have := (List.getElem?_eq_some_iff.1 hx).1; omega), (by rw [ho, insAll, insAll, fold_take hx]), (by have := insP_len out x.pl; omega)⟩⟩
          ·
            have h2 : y.1 = x.vol := by simpa using hg80
            refine awp_drawS [66, 67, 68, 69, 70, 71, 72, 73, 74, 75, 76, 77, 78, 79, 80, 81, 82, 83, 84, 85, 86, 87] [_, _, _, _, _, _, _, _, _, _, _, _, _, _, _, _, _, _, _, _, _, _] [] [] T.mixed rfl rfl rfl ⟨⟨⟨⟨⟨⟨⟨⟨⟨⟨⟨⟨⟨⟨⟨⟨⟨⟨⟨⟨⟨⟨trivial
              , ⟨_, rfl, fun sl hd hr ho => by
                  refine r_move (hr 7 _ rfl rfl rfl) rfl ?_
                  exact awl_nil ⟨rfl, post_put⟩⟩⟩
              , ⟨_, rfl, fun sl hd hr ho => by
                  refine r_move (hr 3 _ rfl rfl rfl) rfl ?_
                  exact awl_nil ⟨rfl, post_put⟩⟩⟩
              , ⟨_, rfl, fun sl hd hr ho => by
                  first | (refine r_lenS (hd 1 _ rfl rfl rfl) rfl T.sl22 rfl ?_) | (refine r_lenNil (hd 1 _ rfl rfl rfl) T.sl22 rfl ?_)
                  exact awl_nil ⟨rfl, post_put⟩⟩⟩
              , ⟨_, rfl, fun sl hd hr ho => by
                  refine r_cmp (hd 0 _ rfl rfl rfl) (hd 2 _ rfl rfl rfl) rfl rfl ?_
                  exact awl_nil ⟨rfl, post_put⟩⟩⟩
              , ⟨_, rfl, fun sl hd hr ho => by
                  refine r_move (hd 3 _ rfl rfl rfl) rfl ?_
                  exact awl_nil ⟨rfl, post_put⟩⟩⟩
              , ⟨_, rfl, fun sl hd hr ho => by
                  refine g_run rfl (hd 4 _ rfl rfl rfl) hg70 ?_
                  refine r_move (hr 3 _ rfl rfl rfl) rfl ?_
                  exact awl_nil ⟨rfl, post_put⟩⟩⟩
              , ⟨_, rfl, fun sl hd hr ho => by
                  refine g_run rfl (hd 4 _ rfl rfl rfl) hg70 ?_
                  refine r_move (hr 7 _ rfl rfl rfl) rfl ?_
                  exact awl_nil ⟨rfl, post_put⟩⟩⟩
              , ⟨_, rfl, fun sl hd hr ho => by
                  refine g_run rfl (hd 4 _ rfl rfl rfl) hg70 ?_
                  refine r_index (hd 5 _ rfl rfl rfl) rfl (hd 6 _ rfl rfl rfl) T.sl22 T.sz35 (by omega) (get_map hy) rfl ?_
                  exact awl_nil ⟨rfl, post_put⟩⟩⟩
              , ⟨_, rfl, fun sl hd hr ho => by
                  refine g_run rfl (hd 4 _ rfl rfl rfl) hg70 ?_
                  first | (refine r_fieldcp (hd 7 _ rfl rfl rfl) T.f35_0 T.sz3 rfl ?_) | (refine r_fieldb (hd 7 _ rfl rfl rfl) T.f35_0 T.sz3 rfl ?_)
                  exact awl_nil ⟨rfl, post_put⟩⟩⟩
              , ⟨_, rfl, fun sl hd hr ho => by
                  refine g_run rfl (hd 4 _ rfl rfl rfl) hg70 ?_
                  first | (refine r_load1 (hd 8 _ rfl rfl rfl) T.agg3 rfl ?_) | (refine r_load1b 0 (hd 8 _ rfl rfl rfl) rfl rfl T.agg3 rfl ?_)
                  exact awl_nil ⟨rfl, post_put⟩⟩⟩
              , ⟨_, rfl, fun sl hd hr ho => by
                  refine g_run rfl (hd 4 _ rfl rfl rfl) hg70 ?_
                  first | (refine r_fieldcp (hr 6 _ rfl rfl rfl) T.f35_0 T.sz3 rfl ?_) | (refine r_fieldb (hr 6 _ rfl rfl rfl) T.f35_0 T.sz3 rfl ?_)
                  exact awl_nil ⟨rfl, post_put⟩⟩⟩
              , ⟨_, rfl, fun sl hd hr ho => by
                  refine g_run rfl (hd 4 _ rfl rfl rfl) hg70 ?_
                  first | (refine r_load1 (hd 10 _ rfl rfl rfl) T.agg3 rfl ?_) | (refine r_load1b 0 (hd 10 _ rfl rfl rfl) rfl rfl T.agg3 rfl ?_)
                  exact awl_nil ⟨rfl, post_put⟩⟩⟩
              , ⟨_, rfl, fun sl hd hr ho => by
                  refine g_run rfl (hd 4 _ rfl rfl rfl) hg70 ?_
                  refine r_cmp (hd 9 _ rfl rfl rfl) (hd 11 _ rfl rfl rfl) rfl rfl ?_
                  exact awl_nil ⟨rfl, post_put⟩⟩⟩
              , ⟨_, rfl, fun sl hd hr ho => by
                  refine r_pickF (hd 4 _ rfl rfl rfl) hg70 (hd 12 _ rfl rfl rfl) rfl ?_
                  exact awl_nil ⟨rfl, post_put⟩⟩⟩
              , ⟨_, rfl, fun sl hd hr ho => by
                  refine r_move (hd 13 _ rfl rfl rfl) rfl ?_
                  exact awl_nil ⟨rfl, post_put⟩⟩⟩
              , ⟨_, rfl, fun sl hd hr ho => by
                  refine g_run rfl (hd 14 _ rfl rfl rfl) hg80 ?_
                  refine r_move (hr 3 _ rfl rfl rfl) rfl ?_
                  exact awl_nil ⟨rfl, post_put⟩⟩⟩
              , ⟨_, rfl, fun sl hd hr ho => by
                  refine g_run rfl (hd 14 _ rfl rfl rfl) hg80 ?_
                  refine r_move (hr 7 _ rfl rfl rfl) rfl ?_
                  exact awl_nil ⟨rfl, post_put⟩⟩⟩
              , ⟨_, rfl, fun sl hd hr ho => by
                  refine g_run rfl (hd 14 _ rfl rfl rfl) hg80 ?_
                  refine r_index (hd 15 _ rfl rfl rfl) rfl (hd 16 _ rfl rfl rfl) T.sl22 T.sz35 (by omega) (get_map hy) rfl ?_
                  exact awl_nil ⟨rfl, post_put⟩⟩⟩
              , ⟨_, rfl, fun sl hd hr ho => by
                  refine g_run rfl (hd 14 _ rfl rfl rfl) hg80 ?_
                  first | (refine r_fieldcp (hd 17 _ rfl rfl rfl) T.f35_1 T.sz3 rfl ?_) | (refine r_fieldb (hd 17 _ rfl rfl rfl) T.f35_1 T.sz3 rfl ?_)
                  exact awl_nil ⟨rfl, post_put⟩⟩⟩
              , ⟨_, rfl, fun sl hd hr ho => by
                  refine g_run rfl (hd 14 _ rfl rfl rfl) hg80 ?_
                  first | (refine r_load1 (hd 18 _ rfl rfl rfl) T.agg3 rfl ?_) | (refine r_load1b 0 (hd 18 _ rfl rfl rfl) rfl rfl T.agg3 rfl ?_)
                  exact awl_nil ⟨rfl, post_put⟩⟩⟩
              , ⟨_, rfl, fun sl hd hr ho => by
                  refine g_run rfl (hd 14 _ rfl rfl rfl) hg80 ?_
                  first | (refine r_fieldcp (hr 6 _ rfl rfl rfl) T.f35_1 T.sz3 rfl ?_) | (refine r_fieldb (hr 6 _ rfl rfl rfl) T.f35_1 T.sz3 rfl ?_)
                  exact awl_nil ⟨rfl, post_put⟩⟩⟩
              , ⟨_, rfl, fun sl hd hr ho => by
                  refine g_run rfl (hd 14 _ rfl rfl rfl) hg80 ?_
                  first | (refine r_load1 (hd 20 _ rfl rfl rfl) T.agg3 rfl ?_) | (refine r_load1b 0 (hd 20 _ rfl rfl rfl) rfl rfl T.agg3 rfl ?_)
                  exact awl_nil ⟨rfl, post_put⟩⟩⟩
              (by rfl) ?_
            refine g_run rfl rfl hg80 ?_
            refine r_cmp rfl rfl rfl rfl ?_
            refine r_pickF rfl hg80 rfl rfl ?_
            refine awl_nil ?_
            refine x_then ?_
            refine awp_cond rfl (fun hc3 => ?_) (fun hc3 => ?_)
            ·
              have hins : insP out x.pl = out.take j ++ x.pl :: out.drop j := by rw [insP_at ha hj hs, hy]; simp only [show ¬ y = x.pl from fun e => (by simpa using hc3 : ¬ y.2 = x.blk) (congrArg Prod.snd e), if_false]
              refine awp_drawS [90, 91, 92, 93, 94, 95, 96, 97, 98, 99, 100, 101, 102, 103, 104] [_, _, _, _, _, _, _, _, _, _, _, _, _, _, _] [[], [], [], [], [90], [], [], [], [], [], [], [90, 94]] [(0, 90), (4, 90), (10, 100), (11, 90)] T.mixed rfl rfl rfl ⟨⟨⟨⟨⟨⟨⟨⟨⟨⟨⟨⟨⟨⟨⟨trivial
                , ⟨_, rfl, fun sl hd hr ho => by
                    refine r_lit 90 (parts := []) rfl T.sl22 T.sz35 T.zraw35 rfl rfl parts_nil rfl rfl rfl rfl ?_
                    exact awl_nil ⟨rfl, (post_dem (ho 90 (List.mem_of_elem_eq_true rfl)))⟩⟩⟩
                , ⟨_, rfl, fun sl hd hr ho => by
                    refine r_move (hr 3 _ rfl rfl rfl) rfl ?_
                    exact awl_nil ⟨rfl, post_put⟩⟩⟩
                , ⟨_, rfl, fun sl hd hr ho => by
                    refine r_move (hr 7 _ rfl rfl rfl) rfl ?_
                    exact awl_nil ⟨rfl, post_put⟩⟩⟩
                , ⟨_, rfl, fun sl hd hr ho => by
                    refine r_sliceH (hd 1 _ rfl rfl rfl) rfl (hd 2 _ rfl rfl rfl) T.sl22 T.sz35 (by omega) (by simp; omega) rfl ?_
                    exact awl_nil ⟨rfl, post_put⟩⟩⟩
                , ⟨_, rfl, fun sl hd hr ho => by
                    refine r_append 90 (hd 0 _ rfl rfl rfl) (by first | exact .own _ | exact .nil) (hd 3 _ rfl rfl rfl) (by first | exact .sl _ | exact .own _ _ | exact .nil) T.sl22 T.sz35 (by decide) T.by35 T.zlen35 (by simp [chunks] <;> omega) (by simp [chunks] <;> omega) rfl ?_
                    exact awl_nil ⟨rfl, (post_dem (ho 90 (List.mem_of_elem_eq_true rfl)))⟩⟩⟩
                , ⟨_, rfl, fun sl hd hr ho => by
                    first | (refine r_fieldcp (hr 6 _ rfl rfl rfl) T.f35_0 T.sz3 rfl ?_) | (refine r_fieldb (hr 6 _ rfl rfl rfl) T.f35_0 T.sz3 rfl ?_)
                    exact awl_nil ⟨rfl, post_put⟩⟩⟩
                , ⟨_, rfl, fun sl hd hr ho => by
                    first | (refine r_load1 (hd 5 _ rfl rfl rfl) T.agg3 rfl ?_) | (refine r_load1b 0 (hd 5 _ rfl rfl rfl) rfl rfl T.agg3 rfl ?_)
                    exact awl_nil ⟨rfl, post_put⟩⟩⟩
                , ⟨_, rfl, fun sl hd hr ho => by
                    first | (refine r_fieldcp (hr 6 _ rfl rfl rfl) T.f35_1 T.sz3 rfl ?_) | (refine r_fieldb (hr 6 _ rfl rfl rfl) T.f35_1 T.sz3 rfl ?_)
                    exact awl_nil ⟨rfl, post_put⟩⟩⟩
                , ⟨_, rfl, fun sl hd hr ho => by
                    first | (refine r_load1 (hd 7 _ rfl rfl rfl) T.agg3 rfl ?_) | (refine r_load1b 0 (hd 7 _ rfl rfl rfl) rfl rfl T.agg3 rfl ?_)
                    exact awl_nil ⟨rfl, post_put⟩⟩⟩
                , ⟨_, rfl, fun sl hd hr ho => by
                    refine r_build (parts := [(0, .tmp 96), (1, .tmp 98)]) rfl T.pl35 T.zero35 (parts_cons (hd 6 _ rfl rfl rfl) (parts_cons (hd 8 _ rfl rfl rfl) parts_nil)) rfl rfl ?_
                    exact awl_nil ⟨rfl, post_put⟩⟩⟩
                , ⟨_, rfl, fun sl hd hr ho => by
                    refine r_lit 100 (parts := [(0, .tmp 99)]) rfl T.sl22 T.sz35 T.zraw35 rfl rfl (parts_cons (hd 9 _ rfl rfl rfl) parts_nil) rfl rfl rfl rfl ?_
                    exact awl_nil ⟨rfl, (post_dem (ho 100 (List.mem_of_elem_eq_true rfl)))⟩⟩⟩
                , ⟨_, rfl, fun sl hd hr ho => by
                    refine r_append 90 (hd 4 _ rfl rfl rfl) (by first | exact .own _ | exact .nil) (hd 10 _ rfl rfl rfl) (by first | exact .sl _ | exact .own _ _ | exact .nil) T.sl22 T.sz35 (by decide) T.by35 T.zlen35 (by simp [chunks] <;> omega) (by simp [chunks] <;> omega) rfl ?_
                    exact awl_nil ⟨rfl, (post_dem (ho 90 (List.mem_of_elem_eq_true rfl)))⟩⟩⟩
                , ⟨_, rfl, fun sl hd hr ho => by
                    refine r_move (hr 3 _ rfl rfl rfl) rfl ?_
                    exact awl_nil ⟨rfl, post_put⟩⟩⟩
                , ⟨_, rfl, fun sl hd hr ho => by
                    refine r_move (hr 7 _ rfl rfl rfl) rfl ?_
                    exact awl_nil ⟨rfl, post_put⟩⟩⟩
                , ⟨_, rfl, fun sl hd hr ho => by
                    refine r_sliceL (hd 12 _ rfl rfl rfl) rfl (hd 13 _ rfl rfl rfl) T.sl22 T.sz35 (by omega) (by simp; omega) rfl ?_
                    exact awl_nil ⟨rfl, post_put⟩⟩⟩
                (by rfl) ?_
              refine r_append 90 rfl (by first | exact .own _ | exact .nil) rfl (by first | exact .sl _ | exact .own _ _ | exact .nil) T.sl22 T.sz35 (by decide) T.by35 T.zlen35 (by simp [chunks] <;> omega) (by simp [chunks] <;> omega) rfl ?_
              refine r_assign rfl rfl ?_
              refine awl_nil ?_
              refine x_block ?_
              refine x_then ?_
              refine awp_region ?_
              refine r_move rfl rfl ?_
              refine r_ari _ rfl rfl rfl (wrap_id (by first | omega | (simp; omega))) rfl ?_
              refine r_assign rfl rfl ?_
              refine awl_nil ?_
              refine x_then ?_
              refine ⟨l.length - (k + 1), ⟨107, [(0, .a (.sl 1 (ls.map fun l => [entsA l]))), (3, .a (plesA (insP out x.pl))), (4, .a (.v (.int .i64 ((i : Int))))), (5, .a (.v (.int .i64 (((k + 1) : Int)))))], []⟩, ⟨rfl, (Slots.cons rfl (by first | exact .refl _ | exact .nilOwn _ _ | exact .nilSl _ | exact .ownSl _ _ _  | exact SV.le.ownEq (by first | rfl | (rw [hins]; done) | (rw [hins]; rfl) | (rw [hins]; simp [chunks, PE, Ent.cs, Ent.pl, List.map_take, List.map_drop]; rfl)) | exact SV.le.of_eq (by first | rfl | (rw [hins]; done) | (rw [hins]; rfl) | (rw [hins]; simp [chunks, PE, Ent.cs, Ent.pl, List.map_take, List.map_drop]; rfl))) (Slots.cons rfl (by first | exact .refl _ | exact .nilOwn _ _ | exact .nilSl _ | exact .ownSl _ _ _  | exact SV.le.ownEq (by first | rfl | (rw [hins]; done) | (rw [hins]; rfl) | (rw [hins]; simp [chunks, PE, Ent.cs, Ent.pl, List.map_take, List.map_drop]; rfl)) | exact SV.le.of_eq (by first | rfl | (rw [hins]; done) | (rw [hins]; rfl) | (rw [hins]; simp [chunks, PE, Ent.cs, Ent.pl, List.map_take, List.map_drop]; rfl))) (Slots.cons rfl (by first | exact .refl _ | exact .nilOwn _ _ | exact .nilSl _ | exact .ownSl _ _ _  | exact SV.le.ownEq (by first | rfl | (rw [hins]; done) | (rw [hins]; rfl) | (rw [hins]; simp [chunks, PE, Ent.cs, Ent.pl, List.map_take, List.map_drop]; rfl)) | exact SV.le.of_eq (by first | rfl | (rw [hins]; done) | (rw [hins]; rfl) | (rw [hins]; simp [chunks, PE, Ent.cs, Ent.pl, List.map_take, List.map_drop]; rfl))) (Slots.cons rfl (by first | exact .refl _ | exact .nilOwn _ _ | exact .nilSl _ | exact .ownSl _ _ _  | exact SV.le.ownEq (by first | rfl | (rw [hins]; done) | (rw [hins]; rfl) | (rw [hins]; simp [chunks, PE, Ent.cs, Ent.pl, List.map_take, List.map_drop]; rfl)) | exact SV.le.of_eq (by first | rfl | (rw [hins]; done) | (rw [hins]; rfl) | (rw [hins]; simp [chunks, PE, Ent.cs, Ent.pl, List.map_take, List.map_drop]; rfl))) Slots.nil)))), (by first | exact List.Sublist.refl _ | exact .cons_cons _ (.cons _ (.refl _)) | exact List.nil_sublist _ | exact .cons _ (.refl _) | exact .cons _ (.cons _ (.refl _)) | exact .cons _ (.cons _ (.cons _ (.refl _))) | exact .cons _ (.cons _ (.cons _ (.cons _ (.refl _)))) | exact .cons_cons _ (List.nil_sublist _))⟩, (by omega), ⟨k + 1, insP out x.pl, rfl, rfl, (by have := (List.getElem?_eq_some_iff.1 hx).1; omega), (by rw [ho, insAll, insAll, fold_take hx]), (by have := insP_len out x.pl; omega)⟩⟩
            ·
              have hins : insP out x.pl = out := by rw [insP_at ha hj hs, hy]; simp only [show y = x.pl from Prod.ext h2 (show y.2 = x.blk by simpa using hc3), if_true]
              refine awp_skip ?_
              refine x_block ?_
              refine x_then ?_
              refine awp_region ?_
              refine r_move rfl rfl ?_
              refine r_ari _ rfl rfl rfl (wrap_id (by first | omega | (simp; omega))) rfl ?_
              refine r_assign rfl rfl ?_
              refine awl_nil ?_
              refine x_then ?_
              refine ⟨l.length - (k + 1), ⟨107, [(0, .a (.sl 1 (ls.map fun l => [entsA l]))), (3, .a (plesA (insP out x.pl))), (4, .a (.v (.int .i64 ((i : Int))))), (5, .a (.v (.int .i64 (((k + 1) : Int)))))], []⟩, ⟨rfl, (Slots.cons rfl (by first | exact .refl _ | exact .nilOwn _ _ | exact .nilSl _ | exact .ownSl _ _ _  | exact SV.le.ownEq (by first | rfl | (rw [hins]; done) | (rw [hins]; rfl) | (rw [hins]; simp [chunks, PE, Ent.cs, Ent.pl, List.map_take, List.map_drop]; rfl)) | exact SV.le.of_eq (by first | rfl | (rw [hins]; done) | (rw [hins]; rfl) | (rw [hins]; simp [chunks, PE, Ent.cs, Ent.pl, List.map_take, List.map_drop]; rfl))) (Slots.cons rfl (by first | exact .refl _ | exact .nilOwn _ _ | exact .nilSl _ | exact .ownSl _ _ _  | exact SV.le.ownEq (by first | rfl | (rw [hins]; done) | (rw [hins]; rfl) | (rw [hins]; simp [chunks, PE, Ent.cs, Ent.pl, List.map_take, List.map_drop]; rfl)) | exact SV.le.of_eq (by first | rfl | (rw [hins]; done) | (rw [hins]; rfl) | (rw [hins]; simp [chunks, PE, Ent.cs, Ent.pl, List.map_take, List.map_drop]; rfl))) (Slots.cons rfl (by first | exact .refl _ | exact .nilOwn _ _ | exact .nilSl _ | exact .ownSl _ _ _  | exact SV.le.ownEq (by first | rfl | (rw [hins]; done) | (rw [hins]; rfl) | (rw [hins]; simp [chunks, PE, Ent.cs, Ent.pl, List.map_take, List.map_drop]; rfl)) | exact SV.le.of_eq (by first | rfl | (rw [hins]; done) | (rw [hins]; rfl) | (rw [hins]; simp [chunks, PE, Ent.cs, Ent.pl, List.map_take, List.map_drop]; rfl))) (Slots.cons rfl (by first | exact .refl _ | exact .nilOwn _ _ | exact .nilSl _ | exact .ownSl _ _ _  | exact SV.le.ownEq (by first | rfl | (rw [hins]; done) | (rw [hins]; rfl) | (rw [hins]; simp [chunks, PE, Ent.cs, Ent.pl, List.map_take, List.map_drop]; rfl)) | exact SV.le.of_eq (by first | rfl | (rw [hins]; done) | (rw [hins]; rfl) | (rw [hins]; simp [chunks, PE, Ent.cs, Ent.pl, List.map_take, List.map_drop]; rfl))) Slots.nil)))), (by first | exact List.Sublist.refl _ | exact .cons_cons _ (.cons _ (.refl _)) | exact List.nil_sublist _ | exact .cons _ (.refl _) | exact .cons _ (.cons _ (.refl _)) | exact .cons _ (.cons _ (.cons _ (.refl _))) | exact .cons _ (.cons _ (.cons _ (.cons _ (.refl _)))) | exact .cons_cons _ (List.nil_sublist _))⟩, (by omega), ⟨k + 1, insP out x.pl, rfl, rfl, (by have := (List.getElem?_eq_some_iff.1 hx).1; omega), (by rw [ho, insAll, insAll, fold_take hx]), (by have := insP_len out x.pl; omega)⟩⟩
    ·
      have hgek : l.length ≤ k := by have := of_decide_eq_false hc1; simp at this; omega
      refine awp_exit ?_
      refine x_thenE ?_
      refine x_thenE ?_
      refine x_blockE ?_
      refine x_block ?_
      refine x_then ?_
      refine awp_region ?_
      refine r_move rfl rfl ?_
      refine r_ari _ rfl rfl rfl (wrap_id (by first | omega | (simp; omega))) rfl ?_
      refine r_assign rfl rfl ?_
      refine awl_nil ?_
      refine x_then ?_
      refine ⟨ls.length - (i + 1), ⟨107, [(0, .a (.sl 1 (ls.map fun l => [entsA l]))), (3, .a (plesA (out))), (4, .a (.v (.int .i64 (((i + 1) : Int)))))], []⟩, ⟨rfl, (Slots.cons rfl (by first | exact .refl _ | exact .nilOwn _ _ | exact .nilSl _ | exact .ownSl _ _ _  | exact SV.le.of_eq (by simp)) (Slots.cons rfl (by first | exact .refl _ | exact .nilOwn _ _ | exact .nilSl _ | exact .ownSl _ _ _  | exact SV.le.of_eq (by simp)) (Slots.cons rfl (by first | exact .refl _ | exact .nilOwn _ _ | exact .nilSl _ | exact .ownSl _ _ _  | exact SV.le.of_eq (by simp)) Slots.nil))), (by first | exact List.Sublist.refl _ | exact .cons_cons _ (.cons _ (.refl _)) | exact List.nil_sublist _ | exact .cons _ (.refl _) | exact .cons _ (.cons _ (.refl _)) | exact .cons _ (.cons _ (.cons _ (.refl _))) | exact .cons _ (.cons _ (.cons _ (.cons _ (.refl _)))) | exact .cons_cons _ (List.nil_sublist _))⟩, (by omega), ⟨i + 1, out, rfl, rfl, (by have := (List.getElem?_eq_some_iff.1 hli).1; omega), (by rw [fold_take hli, ← hacc, ho, List.take_of_length_le hgek]), (by have := hll l (List.mem_of_getElem? hli); omega)⟩⟩
  ·
    have hgei : ls.length ≤ i := by have := of_decide_eq_false hc0; simp at this; omega
    rw [List.take_of_length_le hgei] at hacc
    refine awp_exit ?_
    refine x_thenE ?_
    refine x_thenE ?_
    refine x_blockE ?_
    refine x_then ?_
    refine awp_seq ?_
    refine awp_region ?_
    refine r_move rfl rfl ?_
    refine r_assign rfl rfl ?_
    refine awl_nil ?_
    refine x_then ?_
    refine awp_ret ?_
    exact ⟨(.inl rfl), _, [], (.one (by first | exact .mk rfl rfl | exact .nil rfl)), ⟨rfl, by rw [hacc]; rfl⟩, (List.nil_sublist _), (by simp)⟩

end Go.Proofs.Ytcgjgnkpebpimaa.A

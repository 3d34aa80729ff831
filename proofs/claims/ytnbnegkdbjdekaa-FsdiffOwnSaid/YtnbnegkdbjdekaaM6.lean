import Derived.WalkKit
import Derived.Below
import Derived.Laws.Rows
import Derived.Laws.CopyRow
import Derived.Laws.AppendOwn
import Derived.RangeFuncLeaves
import Derived.RangeFuncSeq
import Derived.RangeFuncCalls
import Derived.MapKept
import Derived.Orders
import Derived.Laws.IdiomStrings
import Derived.Laws.BytesArg
import Derived.Shelf.SlIter.Nil
import Derived.Shelf.SortM.Plain
import Derived.Shelf.SortM.SortNone
import Derived.Ground.GgzProg
import Derived.Ground.SlgmProg
import Derived.Test.YtnbnegkdbjdekaaProg
import Derived.KernelRfl
import Derived.RangeFuncBound
import Derived.Maps.RangeRun
import Derived.DeepKeys3
import Derived.Laws.StructEq
import Derived.Shelf.SlSortCmp.NoneTotal
import Derived.ChangeKeysEq
import Derived.Laws.MakeOwn
import Derived.ChangeArms
import Derived.ChangeOld
import Derived.Test.YtnbnegkdbjdekaaM5
namespace Go.Proofs.Ytnbnegkdbjdekaa.A
open Go Go.RowKit
set_option linter.unusedVariables false
set_option linter.unusedSimpArgs false
set_option maxRecDepth 100000
set_option linter.unusedSectionVars false
variable [Thr]
set_option maxHeartbeats 1000000 in
theorem own_law (hT : THC = true) (a b : List File) (by_ : Int) {w : World} (hw : thr ≤ w.heap.size) : ACw w Try.prog 7 [files a, files b, .v (.int .u8 by_)] (fun r n => n = [] ∧ r = boolA true) := by
 refine ac_of_awpT (rs := [6]) (nt := 117) Try.func7 rfl rfl rfl rfl (fun w0 C0 hq hth => ?_) hw
 refine awp_seq ?_
 refine awp_region ?_
 refine r_assign rfl rfl ?_
 refine awl_nil ?_
 refine x_then ?_
 refine awp_seq ?_
 refine awp_seq ?_
 refine awp_region ?_
 refine r_call0 hq rfl rfl .nil (awake_ok) rfl TF.en9 rfl (fun r hr => ?_)
 obtain rfl := hr
 refine r_not rfl rfl ?_
 refine awl_nil ?_
 refine x_then ?_
 refine awp_cond rfl (fun hc0 => ?_) (fun hc0 => ?_)
 ·
  exfalso; exact absurd hc0 (by decide)
 ·
  refine awp_skip ?_
  refine x_then ?_
  refine awp_seq ?_
  refine awp_seq ?_
  refine awp_region ?_
  refine r_move rfl rfl ?_
  refine r_call0 hq rfl rfl (.cons (.ev rfl rfl) .nil) (small_ok a) rfl TF.en10 rfl (fun r hr => ?_)
  rcases hr with rfl | ⟨rfl, h12a, hsa⟩
  ·
   refine r_cmp rfl rfl rfl rfl ?_
   refine r_move rfl rfl ?_
   refine g_skip rfl rfl rfl rfl ?_
   refine g_skip rfl rfl rfl rfl ?_
   refine g_skip rfl rfl rfl rfl ?_
   refine r_pickT rfl rfl rfl rfl ?_
   refine awl_nil ?_
   refine x_then ?_
   refine awp_condT rfl ?_
   refine awp_seq ?_
   refine awp_region ?_
   refine r_assign rfl rfl ?_
   refine awl_nil ?_
   refine x_then ?_
   refine awp_ret ?_
   refine x_thenR ?_
   exact ⟨(.inl rfl), _, [], (.one (by first | exact .mk rfl rfl | exact .nil rfl)), ⟨rfl, rfl⟩, (List.nil_sublist _), (by simp)⟩
  ·
   have hla : a.length ≤ 1000 := by omega
   have hna : ∀ f ∈ a, f.name.size ≤ 1000000 := fun f hf => by have := (hsa f hf).1; omega
   have hda : ∀ f ∈ a, f.data.length ≤ 1000000 := fun f hf => by have := (hsa f hf).2; omega
   refine r_cmp rfl rfl rfl rfl ?_
   refine r_move rfl rfl ?_
   refine g_run rfl rfl rfl ?_
   refine r_move rfl rfl ?_
   refine g_run rfl rfl rfl ?_
   refine r_call0 hq rfl rfl (.cons (.ev rfl rfl) .nil) (small_ok b) rfl TF.en10 rfl (fun r hr => ?_)
   rcases hr with rfl | ⟨rfl, h12b, hsb⟩
   ·
    refine g_run rfl rfl rfl ?_
    refine r_cmp rfl rfl rfl rfl ?_
    refine r_pickF rfl rfl rfl rfl ?_
    refine awl_nil ?_
    refine x_then ?_
    refine awp_cond rfl (fun hc1 => ?_) (fun hc1 => ?_)
    ·
     refine awp_seq ?_
     refine awp_region ?_
     refine r_assign rfl rfl ?_
     refine awl_nil ?_
     refine x_then ?_
     refine awp_ret ?_
     refine x_thenR ?_
     exact ⟨(.inl rfl), _, [], (.one (by first | exact .mk rfl rfl | exact .nil rfl)), ⟨rfl, rfl⟩, (List.nil_sublist _), (by simp)⟩
    ·
     exfalso; exact absurd hc1 (by decide)
   ·
    have hlb : b.length ≤ 1000 := by omega
    have hnb : ∀ f ∈ b, f.name.size ≤ 1000000 := fun f hf => by have := (hsb f hf).1; omega
    have hdb : ∀ f ∈ b, f.data.length ≤ 1000000 := fun f hf => by have := (hsb f hf).2; omega
    refine g_run rfl rfl rfl ?_
    refine r_cmp rfl rfl rfl rfl ?_
    refine r_pickF rfl rfl rfl rfl ?_
    refine awl_nil ?_
    refine x_then ?_
    refine awp_cond rfl (fun hc1 => ?_) (fun hc1 => ?_)
    ·
     exfalso; exact absurd hc1 (by decide)
    ·
     refine awp_skip ?_
     refine x_then ?_
     refine awp_seq ?_
     refine awp_region ?_
     refine r_move rfl rfl ?_
     refine r_call0 hq rfl rfl (.cons (.ev rfl rfl) .nil) (files_ok a (by omega) hda) rfl TF.en11 rfl (fun r hr => ?_)
     obtain rfl := hr
     refine r_move rfl rfl ?_
     refine r_call0 hq rfl rfl (.cons (.ev rfl rfl) .nil) (files_ok b (by omega) hdb) rfl TF.en11 rfl (fun r hr => ?_)
     obtain rfl := hr
     have hol := of_len a b
     have hcl := clean_len b
     refine r_assign rfl rfl ?_
     refine r_assign rfl rfl ?_
     refine awl_nil ?_
     refine x_then ?_
     refine awp_seq ?_
     refine awp_region ?_
     refine r_move rfl rfl ?_
     refine r_move rfl rfl ?_
     refine r_callX hq hth [] (OwnR 4 3 ((OfF a b).map FC.cs)) (R := fun Cs => GrowB 4 ((OfF a b).map (FC.csH Cs))) rfl rfl (List.nil_sublist _) (.cons (.arg (.ev rfl rfl)) (.cons (.arg (.ev rfl rfl)) .nil)) (fun Cs => ofH_ok Cs a b hla hlb hna hnb hda hdb) TF.en13 rfl (fun Cs C' w' n v r nobjs h1 h2 h3 h4 h5 h6 h7 => conv_grow (strip_fc Cs _) (shape_fc Cs _) (col_fc Cs _ (fun c hc => (of_bound hna hnb hdb c hc).2.2)) h1 h2 h3 h4 h5 h6 h7 hT) (fun r Od hr => ?_)
     obtain ⟨Ad, cd, rfl, hrd, hdd⟩ := hr
     have hND : (List.map FC.cs (OfF a b)).length ≤ 3000 := by simp; omega
     generalize (List.map FC.cs (OfF a b)).length = ND at hrd hdd hND ⊢
     refine r_assign rfl rfl ?_
     refine awl_nil ?_
     refine x_then ?_
     refine awp_seq ?_
     refine awp_region ?_
     refine r_move rfl rfl ?_
     refine r_move rfl rfl ?_
     refine r_callX hq hth Od (fun r n => ∃ r0, r = .tup [r0, .v (.int .i64 0)] ∧ OwnR 2 1 ((cleanS b).map File.cs) r0 n) (R := fun Cs r n => ∃ r0, r = .tup [r0, .v (.int .i64 0)] ∧ GrowB 2 ((cleanS b).map (File.csH Cs)) r0 n) rfl rfl (List.sublist_append_left _ _) (.cons (.arg (.ev rfl rfl)) (.cons (.raw rfl hrd) .nil)) (fun Cs => applyOfH_ok Cs a b hla hlb hna hnb hda hdb) TF.en16 rfl (fun Cs C' w' n v r nobjs h1 h2 h3 h4 h5 h6 h7 => by
      obtain ⟨r0, rfl, h1⟩ := h1
      exact convX_tup h2 (fun v0 h2 => conv_grow (strip_file Cs _) (shape_file Cs _) (col_file Cs _ (clean_data hdb)) h1 h2 h3 h4 h5 h6 h7 hT)) (fun r Ol hr => ?_)
     obtain ⟨r0, rfl, Al, cl, rfl, hrl, hdl⟩ := hr
     clear hrl
     have hNL : (List.map File.cs (cleanS b)).length ≤ 3000 := by simp; omega
     generalize (List.map File.cs (cleanS b)).length = NL at hdl hNL ⊢
     refine r_move rfl rfl ?_
     refine r_extract rfl rfl rfl ?_
     refine r_extract rfl rfl rfl ?_
     refine r_assign rfl rfl ?_
     refine r_assign rfl rfl ?_
     refine awl_nil ?_
     refine x_then ?_
     refine awp_seq ?_
     refine awp_seq ?_
     refine awp_region ?_
     refine r_move rfl rfl ?_
     refine r_cmp rfl rfl rfl rfl ?_
     refine awl_nil ?_
     refine x_then ?_
     refine awp_cond rfl (fun hc2 => ?_) (fun hc2 => ?_)
     ·
      exfalso; exact absurd hc2 (by decide)
     ·
      refine awp_skip ?_
      refine x_then ?_
      refine awp_cut (fun S => S = ⟨117, [(0, .a (files a)), (1, .a (files b)), (2, .a (.v (.int .u8 by_))), (7, .a (files a)), (8, .a (files b)), (9, .a (.v (.slice Ad ND cd)))], Od⟩) ?_ ?_
      ·
       refine awp_seq ?_
       refine awp_region ?_
       refine r_move rfl rfl ?_
       rcases hdl with hn0 | ⟨gl, xl, Dl, rfl, rfl, hD0⟩
       ·
        first | (refine r_lenS rfl rfl TF.sl25 rfl ?_) | (refine r_lenNil rfl TF.sl25 rfl ?_) | (refine r_lenV rfl TF.sl25 rfl ?_)
        refine r_move rfl rfl ?_
        refine awl_nil ?_
        refine x_then ?_
        refine awp_block ?_
        refine awp_loop (fun nn0 S => S = ⟨117, [(0, .a (files a)), (1, .a (files b)), (2, .a (.v (.int .u8 by_))), (7, .a (files a)), (8, .a (files b)), (9, .a (.v (.slice Ad ND cd))), (42, .a (.v (.int .i64 ((NL : Int))))), (43, .a (.v (.int .i64 (0))))], Od⟩ ∧ nn0 = 0) (0) ⟨117, [(0, .a (files a)), (1, .a (files b)), (2, .a (.v (.int .u8 by_))), (7, .a (files a)), (8, .a (files b)), (9, .a (.v (.slice Ad ND cd))), (42, .a (.v (.int .i64 ((NL : Int))))), (43, .a (.v (.int .i64 (0))))], Od⟩ ⟨rfl, (Slots.cons rfl (by first | exact .refl _ | exact .nilOwn _ _ | exact .nilSl _ | exact .ownSl _ _ _  | exact SV.le.of_eq (by simp)) (Slots.cons rfl (by first | exact .refl _ | exact .nilOwn _ _ | exact .nilSl _ | exact .ownSl _ _ _  | exact SV.le.of_eq (by simp)) (Slots.cons rfl (by first | exact .refl _ | exact .nilOwn _ _ | exact .nilSl _ | exact .ownSl _ _ _  | exact SV.le.of_eq (by simp)) (Slots.cons rfl (by first | exact .refl _ | exact .nilOwn _ _ | exact .nilSl _ | exact .ownSl _ _ _  | exact SV.le.of_eq (by simp)) (Slots.cons rfl (by first | exact .refl _ | exact .nilOwn _ _ | exact .nilSl _ | exact .ownSl _ _ _  | exact SV.le.of_eq (by simp)) (Slots.cons rfl (by first | exact .refl _ | exact .nilOwn _ _ | exact .nilSl _ | exact .ownSl _ _ _  | exact SV.le.of_eq (by simp)) (Slots.cons rfl (by first | exact .refl _ | exact .nilOwn _ _ | exact .nilSl _ | exact .ownSl _ _ _  | exact SV.le.of_eq (by simp)) (Slots.cons rfl (by first | exact .refl _ | exact .nilOwn _ _ | exact .nilSl _ | exact .ownSl _ _ _  | exact SV.le.of_eq (by simp)) Slots.nil)))))))), (by change List.Sublist _ (Ol ++ (Od ++ [])); simp)⟩ ⟨rfl, rfl⟩ ?_
        rintro nn0 _ ⟨rfl, rfl⟩
        refine awp_seq ?_
        refine awp_region ?_
        refine r_cmp rfl rfl rfl rfl ?_
        refine awl_nil ?_
        refine x_then ?_
        refine awp_seq ?_
        refine awp_cond rfl (fun hc3 => ?_) (fun hc3 => ?_)
        ·
         exfalso; have := of_decide_eq_true hc3; omega
        ·
         refine awp_exit ?_
         refine x_thenE ?_
         refine x_thenE ?_
         refine x_blockE ?_
         refine x_then ?_
         refine ⟨⟨117, [(0, .a (files a)), (1, .a (files b)), (2, .a (.v (.int .u8 by_))), (7, .a (files a)), (8, .a (files b)), (9, .a (.v (.slice Ad ND cd)))], Od⟩, ⟨rfl, (Slots.cons rfl (by first | exact .refl _ | exact .nilOwn _ _ | exact .nilSl _ | exact .ownSl _ _ _  | exact SV.le.of_eq (by simp)) (Slots.cons rfl (by first | exact .refl _ | exact .nilOwn _ _ | exact .nilSl _ | exact .ownSl _ _ _  | exact SV.le.of_eq (by simp)) (Slots.cons rfl (by first | exact .refl _ | exact .nilOwn _ _ | exact .nilSl _ | exact .ownSl _ _ _  | exact SV.le.of_eq (by simp)) (Slots.cons rfl (by first | exact .refl _ | exact .nilOwn _ _ | exact .nilSl _ | exact .ownSl _ _ _  | exact SV.le.of_eq (by simp)) (Slots.cons rfl (by first | exact .refl _ | exact .nilOwn _ _ | exact .nilSl _ | exact .ownSl _ _ _  | exact SV.le.of_eq (by simp)) (Slots.cons rfl (by first | exact .refl _ | exact .nilOwn _ _ | exact .nilSl _ | exact .ownSl _ _ _  | exact SV.le.of_eq (by simp)) Slots.nil)))))), (by first | exact List.Sublist.refl _ | exact List.sublist_append_right _ _)⟩, rfl⟩
       ·
        first | (refine r_lenS rfl rfl TF.sl25 rfl ?_) | (refine r_lenNil rfl TF.sl25 rfl ?_) | (refine r_lenV rfl TF.sl25 rfl ?_)
        refine r_move rfl rfl ?_
        refine awl_nil ?_
        refine x_then ?_
        refine awp_block ?_
        refine awp_loop (fun nn0 S => ∃ k : Nat, ∃ D : List OE, S = ⟨117, [(0, .a (files a)), (1, .a (files b)), (2, .a (.v (.int .u8 by_))), (7, .a (files a)), (8, .a (files b)), (9, .a (.v (.slice Ad ND cd))), (10, .a (.v (.slice (some ⟨gl, 0, none⟩) NL cl))), (42, .a (.v (.int .i64 ((NL : Int))))), (43, .a (.v (.int .i64 ((k : Int)))))], (⟨gl, true, .box (List.map AV.v xl)⟩ :: D) ++ Od⟩ ∧ nn0 = NL - k ∧ (k ≤ NL) ∧ (DatD xl D NL 2 1)) (NL - (0)) ⟨117, [(0, .a (files a)), (1, .a (files b)), (2, .a (.v (.int .u8 by_))), (7, .a (files a)), (8, .a (files b)), (9, .a (.v (.slice Ad ND cd))), (10, .a (.v (.slice (some ⟨gl, 0, none⟩) NL cl))), (42, .a (.v (.int .i64 ((NL : Int))))), (43, .a (.v (.int .i64 (((0) : Int)))))], (⟨gl, true, .box (List.map AV.v xl)⟩ :: (Dl)) ++ Od⟩ ⟨rfl, (Slots.cons rfl (by first | exact .refl _ | exact .nilOwn _ _ | exact .nilSl _ | exact .ownSl _ _ _  | exact SV.le.of_eq (by simp)) (Slots.cons rfl (by first | exact .refl _ | exact .nilOwn _ _ | exact .nilSl _ | exact .ownSl _ _ _  | exact SV.le.of_eq (by simp)) (Slots.cons rfl (by first | exact .refl _ | exact .nilOwn _ _ | exact .nilSl _ | exact .ownSl _ _ _  | exact SV.le.of_eq (by simp)) (Slots.cons rfl (by first | exact .refl _ | exact .nilOwn _ _ | exact .nilSl _ | exact .ownSl _ _ _  | exact SV.le.of_eq (by simp)) (Slots.cons rfl (by first | exact .refl _ | exact .nilOwn _ _ | exact .nilSl _ | exact .ownSl _ _ _  | exact SV.le.of_eq (by simp)) (Slots.cons rfl (by first | exact .refl _ | exact .nilOwn _ _ | exact .nilSl _ | exact .ownSl _ _ _  | exact SV.le.of_eq (by simp)) (Slots.cons rfl (by first | exact .refl _ | exact .nilOwn _ _ | exact .nilSl _ | exact .ownSl _ _ _  | exact SV.le.of_eq (by simp)) (Slots.cons rfl (by first | exact .refl _ | exact .nilOwn _ _ | exact .nilSl _ | exact .ownSl _ _ _  | exact SV.le.of_eq (by simp)) (Slots.cons rfl (by first | exact .refl _ | exact .nilOwn _ _ | exact .nilSl _ | exact .ownSl _ _ _  | exact SV.le.of_eq (by simp)) Slots.nil))))))))), (by change List.Sublist _ ((⟨gl, true, .box (List.map AV.v xl)⟩ :: Dl) ++ (Od ++ [])); simp)⟩ ⟨0, Dl, rfl, rfl, Nat.zero_le _, hD0⟩ ?_
        rintro nn0 _ ⟨k, D, rfl, rfl, hk, hD⟩
        refine awp_seq ?_
        refine awp_region ?_
        refine r_cmp rfl rfl rfl rfl ?_
        refine awl_nil ?_
        refine x_then ?_
        refine awp_seq ?_
        refine awp_cond rfl (fun hc3 => ?_) (fun hc3 => ?_)
        ·
         have hltk : k < NL := by have := of_decide_eq_true hc3; omega
         obtain ⟨B, m, cap, hxs, hmb, hB⟩ := hD k hltk
         refine awp_skip ?_
         refine x_then ?_
         refine awp_seq ?_
         refine awp_block ?_
         refine awp_seq ?_
         refine awp_region ?_
         refine r_move rfl rfl ?_
         refine r_assign rfl rfl ?_
         refine awl_nil ?_
         refine x_then ?_
         refine awp_seq ?_
         refine awp_region ?_
         refine r_move rfl rfl ?_
         refine r_move rfl rfl ?_
         refine r_indexV rfl rfl TF.sl25 TF.sz48 (by omega) (by omega) rfl ?_
         first | (refine r_fieldcp rfl TF.f48_1 TF.sz34 rfl ?_) | (refine r_fieldb rfl TF.f48_1 TF.sz34 rfl ?_)
         refine r_load1b 0 rfl rfl (show (List.map AV.v xl)[0 + (k : Int).toNat * 2 + 1]? = some (.v (.slice B m cap)) from by rw [Int.toNat_natCast, Nat.zero_add]; exact cell_av hxs) TF.agg34 rfl ?_
         first | (refine r_lenS rfl rfl TF.sl34 rfl ?_) | (refine r_lenNil rfl TF.sl34 rfl ?_) | (refine r_lenV rfl TF.sl34 rfl ?_)
         refine r_move rfl rfl ?_
         refine awl_nil ?_
         refine x_then ?_
         refine awp_block ?_
         refine awp_loop (fun nn0 S => ∃ j : Nat, ∃ D2 : List OE, S = ⟨117, [(0, .a (files a)), (1, .a (files b)), (2, .a (.v (.int .u8 by_))), (7, .a (files a)), (8, .a (files b)), (9, .a (.v (.slice Ad ND cd))), (10, .a (.v (.slice (some ⟨gl, 0, none⟩) NL cl))), (42, .a (.v (.int .i64 ((NL : Int))))), (43, .a (.v (.int .i64 ((k : Int))))), (12, .a (.v (.int .i64 ((k : Int))))), (51, .a (.v (.int .i64 ((m : Int))))), (52, .a (.v (.int .i64 ((j : Int)))))], (⟨gl, true, .box (List.map AV.v xl)⟩ :: D2) ++ Od⟩ ∧ nn0 = m - j ∧ (j ≤ m) ∧ (DatD xl D2 NL 2 1)) (m - (0)) ⟨117, [(0, .a (files a)), (1, .a (files b)), (2, .a (.v (.int .u8 by_))), (7, .a (files a)), (8, .a (files b)), (9, .a (.v (.slice Ad ND cd))), (10, .a (.v (.slice (some ⟨gl, 0, none⟩) NL cl))), (42, .a (.v (.int .i64 ((NL : Int))))), (43, .a (.v (.int .i64 ((k : Int))))), (12, .a (.v (.int .i64 ((k : Int))))), (51, .a (.v (.int .i64 ((m : Int))))), (52, .a (.v (.int .i64 (((0) : Int)))))], (⟨gl, true, .box (List.map AV.v xl)⟩ :: (D)) ++ Od⟩ ⟨rfl, (Slots.cons rfl (by first | exact .refl _ | exact .nilOwn _ _ | exact .nilSl _ | exact .ownSl _ _ _  | exact SV.le.of_eq (by simp)) (Slots.cons rfl (by first | exact .refl _ | exact .nilOwn _ _ | exact .nilSl _ | exact .ownSl _ _ _  | exact SV.le.of_eq (by simp)) (Slots.cons rfl (by first | exact .refl _ | exact .nilOwn _ _ | exact .nilSl _ | exact .ownSl _ _ _  | exact SV.le.of_eq (by simp)) (Slots.cons rfl (by first | exact .refl _ | exact .nilOwn _ _ | exact .nilSl _ | exact .ownSl _ _ _  | exact SV.le.of_eq (by simp)) (Slots.cons rfl (by first | exact .refl _ | exact .nilOwn _ _ | exact .nilSl _ | exact .ownSl _ _ _  | exact SV.le.of_eq (by simp)) (Slots.cons rfl (by first | exact .refl _ | exact .nilOwn _ _ | exact .nilSl _ | exact .ownSl _ _ _  | exact SV.le.of_eq (by simp)) (Slots.cons rfl (by first | exact .refl _ | exact .nilOwn _ _ | exact .nilSl _ | exact .ownSl _ _ _  | exact SV.le.of_eq (by simp)) (Slots.cons rfl (by first | exact .refl _ | exact .nilOwn _ _ | exact .nilSl _ | exact .ownSl _ _ _  | exact SV.le.of_eq (by simp)) (Slots.cons rfl (by first | exact .refl _ | exact .nilOwn _ _ | exact .nilSl _ | exact .ownSl _ _ _  | exact SV.le.of_eq (by simp)) (Slots.cons rfl (by first | exact .refl _ | exact .nilOwn _ _ | exact .nilSl _ | exact .ownSl _ _ _  | exact SV.le.of_eq (by simp)) (Slots.cons rfl (by first | exact .refl _ | exact .nilOwn _ _ | exact .nilSl _ | exact .ownSl _ _ _  | exact SV.le.of_eq (by simp)) (Slots.cons rfl (by first | exact .refl _ | exact .nilOwn _ _ | exact .nilSl _ | exact .ownSl _ _ _  | exact SV.le.of_eq (by simp)) Slots.nil)))))))))))), (List.Sublist.refl _)⟩ ⟨0, D, rfl, rfl, Nat.zero_le _, hD⟩ ?_
         rintro nn0 _ ⟨j, D2, rfl, rfl, hj, hD2⟩
         refine awp_seq ?_
         refine awp_region ?_
         refine r_cmp rfl rfl rfl rfl ?_
         refine awl_nil ?_
         refine x_then ?_
         refine awp_seq ?_
         refine awp_cond rfl (fun hc4 => ?_) (fun hc4 => ?_)
         ·
          have hltj : j < m := by have := of_decide_eq_true hc4; omega
          obtain ⟨B', m', cap', hxs', _, hB'⟩ := hD2 k hltk
          rw [hxs] at hxs'
          cases hxs'
          obtain ⟨b0, o0, q, ys, hBe, hq, hlen⟩ := hB' (by omega)
          refine awp_skip ?_
          refine x_then ?_
          refine awp_seq ?_
          refine awp_block ?_
          refine awp_seq ?_
          refine awp_region ?_
          refine r_move rfl rfl ?_
          refine r_assign rfl rfl ?_
          refine awl_nil ?_
          refine x_then ?_
          refine awp_region ?_
          refine r_move rfl rfl ?_
          refine r_move rfl rfl ?_
          refine r_indexV rfl rfl TF.sl25 TF.sz48 (by omega) (by omega) rfl ?_
          first | (refine r_fieldcp rfl TF.f48_1 TF.sz34 rfl ?_) | (refine r_fieldb rfl TF.f48_1 TF.sz34 rfl ?_)
          refine r_load1b 0 rfl rfl (show (List.map AV.v xl)[0 + (k : Int).toNat * 2 + 1]? = some (.v (.slice B m cap)) from by rw [Int.toNat_natCast, Nat.zero_add]; exact cell_av hxs) TF.agg34 rfl ?_
          refine r_move rfl rfl ?_
          refine r_move rfl rfl ?_
          refine r_indexVA hBe rfl rfl TF.sl34 TF.sz5 (by omega) (by omega) rfl ?_
          refine r_store (q + 1) rfl (get_head hq) rfl TF.sz5 rfl (Nat.ble_eq_true_of_le (by omega)) rfl ?_
          refine awl_nil ?_
          refine x_block ?_
          refine x_then ?_
          refine awp_region ?_
          refine r_ari _ rfl rfl rfl (wrap_id (by first | omega | (simp; omega))) rfl ?_
          refine r_move rfl rfl ?_
          refine awl_nil ?_
          refine x_then ?_
          refine ⟨m - (j + 1), ⟨117, [(0, .a (files a)), (1, .a (files b)), (2, .a (.v (.int .u8 by_))), (7, .a (files a)), (8, .a (files b)), (9, .a (.v (.slice Ad ND cd))), (10, .a (.v (.slice (some ⟨gl, 0, none⟩) NL cl))), (42, .a (.v (.int .i64 ((NL : Int))))), (43, .a (.v (.int .i64 ((k : Int))))), (12, .a (.v (.int .i64 ((k : Int))))), (51, .a (.v (.int .i64 ((m : Int))))), (52, .a (.v (.int .i64 (((j + 1) : Int)))))], (⟨gl, true, .box (List.map AV.v xl)⟩ :: (D2.set q ⟨b0, true, .box (ys.take (o0 + (j : Int).toNat * 1) ++ [.v (.int .u8 by_)] ++ ys.drop (o0 + (j : Int).toNat * 1 + 1))⟩)) ++ Od⟩, ⟨rfl, (Slots.cons rfl (by first | exact .refl _ | exact .nilOwn _ _ | exact .nilSl _ | exact .ownSl _ _ _  | exact SV.le.of_eq (by simp)) (Slots.cons rfl (by first | exact .refl _ | exact .nilOwn _ _ | exact .nilSl _ | exact .ownSl _ _ _  | exact SV.le.of_eq (by simp)) (Slots.cons rfl (by first | exact .refl _ | exact .nilOwn _ _ | exact .nilSl _ | exact .ownSl _ _ _  | exact SV.le.of_eq (by simp)) (Slots.cons rfl (by first | exact .refl _ | exact .nilOwn _ _ | exact .nilSl _ | exact .ownSl _ _ _  | exact SV.le.of_eq (by simp)) (Slots.cons rfl (by first | exact .refl _ | exact .nilOwn _ _ | exact .nilSl _ | exact .ownSl _ _ _  | exact SV.le.of_eq (by simp)) (Slots.cons rfl (by first | exact .refl _ | exact .nilOwn _ _ | exact .nilSl _ | exact .ownSl _ _ _  | exact SV.le.of_eq (by simp)) (Slots.cons rfl (by first | exact .refl _ | exact .nilOwn _ _ | exact .nilSl _ | exact .ownSl _ _ _  | exact SV.le.of_eq (by simp)) (Slots.cons rfl (by first | exact .refl _ | exact .nilOwn _ _ | exact .nilSl _ | exact .ownSl _ _ _  | exact SV.le.of_eq (by simp)) (Slots.cons rfl (by first | exact .refl _ | exact .nilOwn _ _ | exact .nilSl _ | exact .ownSl _ _ _  | exact SV.le.of_eq (by simp)) (Slots.cons rfl (by first | exact .refl _ | exact .nilOwn _ _ | exact .nilSl _ | exact .ownSl _ _ _  | exact SV.le.of_eq (by simp)) (Slots.cons rfl (by first | exact .refl _ | exact .nilOwn _ _ | exact .nilSl _ | exact .ownSl _ _ _  | exact SV.le.of_eq (by simp)) (Slots.cons rfl (by first | exact .refl _ | exact .nilOwn _ _ | exact .nilSl _ | exact .ownSl _ _ _  | exact SV.le.of_eq (by simp)) Slots.nil)))))))))))), (set_headS hq)⟩, (by omega), ⟨j + 1, D2.set q ⟨b0, true, .box (ys.take (o0 + (j : Int).toNat * 1) ++ [.v (.int .u8 by_)] ++ ys.drop (o0 + (j : Int).toNat * 1 + 1))⟩, rfl, rfl, (by omega), (hD2.set hq (by omega))⟩⟩
         ·
          refine awp_exit ?_
          refine x_thenE ?_
          refine x_thenE ?_
          refine x_blockE ?_
          refine x_block ?_
          refine x_then ?_
          refine awp_region ?_
          refine r_ari _ rfl rfl rfl (wrap_id (by first | omega | (simp; omega))) rfl ?_
          refine r_move rfl rfl ?_
          refine awl_nil ?_
          refine x_then ?_
          refine ⟨NL - (k + 1), ⟨117, [(0, .a (files a)), (1, .a (files b)), (2, .a (.v (.int .u8 by_))), (7, .a (files a)), (8, .a (files b)), (9, .a (.v (.slice Ad ND cd))), (10, .a (.v (.slice (some ⟨gl, 0, none⟩) NL cl))), (42, .a (.v (.int .i64 ((NL : Int))))), (43, .a (.v (.int .i64 (((k + 1) : Int)))))], (⟨gl, true, .box (List.map AV.v xl)⟩ :: (D2)) ++ Od⟩, ⟨rfl, (Slots.cons rfl (by first | exact .refl _ | exact .nilOwn _ _ | exact .nilSl _ | exact .ownSl _ _ _  | exact SV.le.of_eq (by simp)) (Slots.cons rfl (by first | exact .refl _ | exact .nilOwn _ _ | exact .nilSl _ | exact .ownSl _ _ _  | exact SV.le.of_eq (by simp)) (Slots.cons rfl (by first | exact .refl _ | exact .nilOwn _ _ | exact .nilSl _ | exact .ownSl _ _ _  | exact SV.le.of_eq (by simp)) (Slots.cons rfl (by first | exact .refl _ | exact .nilOwn _ _ | exact .nilSl _ | exact .ownSl _ _ _  | exact SV.le.of_eq (by simp)) (Slots.cons rfl (by first | exact .refl _ | exact .nilOwn _ _ | exact .nilSl _ | exact .ownSl _ _ _  | exact SV.le.of_eq (by simp)) (Slots.cons rfl (by first | exact .refl _ | exact .nilOwn _ _ | exact .nilSl _ | exact .ownSl _ _ _  | exact SV.le.of_eq (by simp)) (Slots.cons rfl (by first | exact .refl _ | exact .nilOwn _ _ | exact .nilSl _ | exact .ownSl _ _ _  | exact SV.le.of_eq (by simp)) (Slots.cons rfl (by first | exact .refl _ | exact .nilOwn _ _ | exact .nilSl _ | exact .ownSl _ _ _  | exact SV.le.of_eq (by simp)) (Slots.cons rfl (by first | exact .refl _ | exact .nilOwn _ _ | exact .nilSl _ | exact .ownSl _ _ _  | exact SV.le.of_eq (by simp)) Slots.nil))))))))), (List.Sublist.refl _)⟩, (by omega), ⟨k + 1, D2, rfl, rfl, (by omega), hD2⟩⟩
        ·
         refine awp_exit ?_
         refine x_thenE ?_
         refine x_thenE ?_
         refine x_blockE ?_
         refine x_then ?_
         refine ⟨⟨117, [(0, .a (files a)), (1, .a (files b)), (2, .a (.v (.int .u8 by_))), (7, .a (files a)), (8, .a (files b)), (9, .a (.v (.slice Ad ND cd)))], Od⟩, ⟨rfl, (Slots.cons rfl (by first | exact .refl _ | exact .nilOwn _ _ | exact .nilSl _ | exact .ownSl _ _ _  | exact SV.le.of_eq (by simp)) (Slots.cons rfl (by first | exact .refl _ | exact .nilOwn _ _ | exact .nilSl _ | exact .ownSl _ _ _  | exact SV.le.of_eq (by simp)) (Slots.cons rfl (by first | exact .refl _ | exact .nilOwn _ _ | exact .nilSl _ | exact .ownSl _ _ _  | exact SV.le.of_eq (by simp)) (Slots.cons rfl (by first | exact .refl _ | exact .nilOwn _ _ | exact .nilSl _ | exact .ownSl _ _ _  | exact SV.le.of_eq (by simp)) (Slots.cons rfl (by first | exact .refl _ | exact .nilOwn _ _ | exact .nilSl _ | exact .ownSl _ _ _  | exact SV.le.of_eq (by simp)) (Slots.cons rfl (by first | exact .refl _ | exact .nilOwn _ _ | exact .nilSl _ | exact .ownSl _ _ _  | exact SV.le.of_eq (by simp)) Slots.nil)))))), (by first | exact List.Sublist.refl _ | exact List.sublist_append_right _ _)⟩, rfl⟩
      ·
       rintro _ ⟨rfl⟩
       refine awp_seq ?_
       refine awp_seq ?_
       refine awp_region ?_
       refine r_move rfl rfl ?_
       refine r_move rfl rfl ?_
       refine r_call0 hq rfl rfl (.cons (.ev rfl rfl) (.cons (.ev rfl rfl) .nil)) (alike_ok a (by omega)) rfl TF.en15 rfl (fun r hr => ?_)
       obtain rfl := hr
       refine r_cmp rfl rfl rfl rfl ?_
       refine r_move rfl rfl ?_
       refine g_run rfl rfl rfl ?_
       refine r_move rfl rfl ?_
       refine g_run rfl rfl rfl ?_
       refine r_move rfl rfl ?_
       refine g_run rfl rfl rfl ?_
       refine r_call0 hq rfl rfl (.cons (.ev rfl rfl) (.cons (.ev rfl rfl) .nil)) (alike_ok b (by omega)) rfl TF.en15 rfl (fun r hr => ?_)
       obtain rfl := hr
       refine g_run rfl rfl rfl ?_
       refine r_cmp rfl rfl rfl rfl ?_
       refine r_pickF rfl rfl rfl rfl ?_
       refine r_move rfl rfl ?_
       refine g_run rfl rfl rfl ?_
       refine r_move rfl rfl ?_
       refine g_run rfl rfl rfl ?_
       refine r_move rfl rfl ?_
       refine g_run rfl rfl rfl ?_
       refine r_move rfl rfl ?_
       refine g_run rfl rfl rfl ?_
       refine r_call0 hq rfl rfl (.cons (.ev rfl rfl) (.cons (.ev rfl rfl) .nil)) (rof_ok a b hla hlb hda hdb) rfl TF.en14 rfl (fun r hr => ?_)
       obtain rfl := hr
       refine g_run rfl rfl rfl ?_
       refine r_callX hq hth Od (fun r n => r = .v (.int .i64 1) ∧ n = []) (R := fun Cs r n => n = [] ∧ r = .v (.int .i64 1)) rfl rfl (List.Sublist.refl _) (.cons (.raw rfl hrd) (.cons (.arg (.ev rfl rfl)) .nil)) (fun Cs => awc_of_ac Cs (same_ok (OfF a b) (by omega))) TF.en12 rfl (fun Cs C' w' n v r nobjs h1 h2 h3 h4 h5 h6 h7 => by
        obtain ⟨rfl, rfl⟩ := h1
        cases h2
        exact ⟨_, [], fun C => .v _, by simp, by simp, rfl, rfl⟩) (fun r nobjs hr => ?_)
       obtain ⟨rfl, rfl⟩ := hr
       refine g_run rfl rfl rfl ?_
       refine r_cmp rfl rfl rfl rfl ?_
       refine r_pickF rfl rfl rfl rfl ?_
       refine awl_nil ?_
       refine x_then ?_
       refine awp_cond rfl (fun hc5 => ?_) (fun hc5 => ?_)
       ·
        exfalso; exact absurd hc5 (by decide)
       ·
        refine awp_skip ?_
        refine x_then ?_
        refine awp_cut (fun S => S = ⟨117, [(0, .a (files a)), (1, .a (files b)), (2, .a (.v (.int .u8 by_))), (7, .a (files a)), (8, .a (files b))], []⟩) ?_ ?_
        ·
         refine awp_seq ?_
         refine awp_region ?_
         refine r_move rfl rfl ?_
         rcases hdd with hn0 | ⟨gd, xd, Dd, rfl, rfl, hD0⟩
         ·
          first | (refine r_lenS rfl rfl TF.sl28 rfl ?_) | (refine r_lenNil rfl TF.sl28 rfl ?_) | (refine r_lenV rfl TF.sl28 rfl ?_)
          refine r_move rfl rfl ?_
          refine awl_nil ?_
          refine x_then ?_
          refine awp_block ?_
          refine awp_loop (fun nn0 S => S = ⟨117, [(0, .a (files a)), (1, .a (files b)), (2, .a (.v (.int .u8 by_))), (7, .a (files a)), (8, .a (files b)), (84, .a (.v (.int .i64 ((ND : Int))))), (85, .a (.v (.int .i64 (0))))], []⟩ ∧ nn0 = 0) (0) ⟨117, [(0, .a (files a)), (1, .a (files b)), (2, .a (.v (.int .u8 by_))), (7, .a (files a)), (8, .a (files b)), (84, .a (.v (.int .i64 ((ND : Int))))), (85, .a (.v (.int .i64 (0))))], []⟩ ⟨rfl, (Slots.cons rfl (by first | exact .refl _ | exact .nilOwn _ _ | exact .nilSl _ | exact .ownSl _ _ _  | exact SV.le.of_eq (by simp)) (Slots.cons rfl (by first | exact .refl _ | exact .nilOwn _ _ | exact .nilSl _ | exact .ownSl _ _ _  | exact SV.le.of_eq (by simp)) (Slots.cons rfl (by first | exact .refl _ | exact .nilOwn _ _ | exact .nilSl _ | exact .ownSl _ _ _  | exact SV.le.of_eq (by simp)) (Slots.cons rfl (by first | exact .refl _ | exact .nilOwn _ _ | exact .nilSl _ | exact .ownSl _ _ _  | exact SV.le.of_eq (by simp)) (Slots.cons rfl (by first | exact .refl _ | exact .nilOwn _ _ | exact .nilSl _ | exact .ownSl _ _ _  | exact SV.le.of_eq (by simp)) (Slots.cons rfl (by first | exact .refl _ | exact .nilOwn _ _ | exact .nilSl _ | exact .ownSl _ _ _  | exact SV.le.of_eq (by simp)) (Slots.cons rfl (by first | exact .refl _ | exact .nilOwn _ _ | exact .nilSl _ | exact .ownSl _ _ _  | exact SV.le.of_eq (by simp)) Slots.nil))))))), (List.nil_sublist _)⟩ ⟨rfl, rfl⟩ ?_
          rintro nn0 _ ⟨rfl, rfl⟩
          refine awp_seq ?_
          refine awp_region ?_
          refine r_cmp rfl rfl rfl rfl ?_
          refine awl_nil ?_
          refine x_then ?_
          refine awp_seq ?_
          refine awp_cond rfl (fun hc6 => ?_) (fun hc6 => ?_)
          ·
           exfalso; have := of_decide_eq_true hc6; omega
          ·
           refine awp_exit ?_
           refine x_thenE ?_
           refine x_thenE ?_
           refine x_blockE ?_
           refine x_then ?_
           refine ⟨⟨117, [(0, .a (files a)), (1, .a (files b)), (2, .a (.v (.int .u8 by_))), (7, .a (files a)), (8, .a (files b))], []⟩, ⟨rfl, (Slots.cons rfl (by first | exact .refl _ | exact .nilOwn _ _ | exact .nilSl _ | exact .ownSl _ _ _  | exact SV.le.of_eq (by simp)) (Slots.cons rfl (by first | exact .refl _ | exact .nilOwn _ _ | exact .nilSl _ | exact .ownSl _ _ _  | exact SV.le.of_eq (by simp)) (Slots.cons rfl (by first | exact .refl _ | exact .nilOwn _ _ | exact .nilSl _ | exact .ownSl _ _ _  | exact SV.le.of_eq (by simp)) (Slots.cons rfl (by first | exact .refl _ | exact .nilOwn _ _ | exact .nilSl _ | exact .ownSl _ _ _  | exact SV.le.of_eq (by simp)) (Slots.cons rfl (by first | exact .refl _ | exact .nilOwn _ _ | exact .nilSl _ | exact .ownSl _ _ _  | exact SV.le.of_eq (by simp)) Slots.nil))))), (List.nil_sublist _)⟩, rfl⟩
         ·
          first | (refine r_lenS rfl rfl TF.sl28 rfl ?_) | (refine r_lenNil rfl TF.sl28 rfl ?_) | (refine r_lenV rfl TF.sl28 rfl ?_)
          refine r_move rfl rfl ?_
          refine awl_nil ?_
          refine x_then ?_
          refine awp_block ?_
          refine awp_loop (fun nn0 S => ∃ k : Nat, ∃ D : List OE, S = ⟨117, [(0, .a (files a)), (1, .a (files b)), (2, .a (.v (.int .u8 by_))), (7, .a (files a)), (8, .a (files b)), (9, .a (.v (.slice (some ⟨gd, 0, none⟩) ND cd))), (84, .a (.v (.int .i64 ((ND : Int))))), (85, .a (.v (.int .i64 ((k : Int)))))], (⟨gd, true, .box (List.map AV.v xd)⟩ :: D) ++ []⟩ ∧ nn0 = ND - k ∧ (k ≤ ND) ∧ (DatD xd D ND 4 3)) (ND - (0)) ⟨117, [(0, .a (files a)), (1, .a (files b)), (2, .a (.v (.int .u8 by_))), (7, .a (files a)), (8, .a (files b)), (9, .a (.v (.slice (some ⟨gd, 0, none⟩) ND cd))), (84, .a (.v (.int .i64 ((ND : Int))))), (85, .a (.v (.int .i64 (((0) : Int)))))], (⟨gd, true, .box (List.map AV.v xd)⟩ :: (Dd)) ++ []⟩ ⟨rfl, (Slots.cons rfl (by first | exact .refl _ | exact .nilOwn _ _ | exact .nilSl _ | exact .ownSl _ _ _  | exact SV.le.of_eq (by simp)) (Slots.cons rfl (by first | exact .refl _ | exact .nilOwn _ _ | exact .nilSl _ | exact .ownSl _ _ _  | exact SV.le.of_eq (by simp)) (Slots.cons rfl (by first | exact .refl _ | exact .nilOwn _ _ | exact .nilSl _ | exact .ownSl _ _ _  | exact SV.le.of_eq (by simp)) (Slots.cons rfl (by first | exact .refl _ | exact .nilOwn _ _ | exact .nilSl _ | exact .ownSl _ _ _  | exact SV.le.of_eq (by simp)) (Slots.cons rfl (by first | exact .refl _ | exact .nilOwn _ _ | exact .nilSl _ | exact .ownSl _ _ _  | exact SV.le.of_eq (by simp)) (Slots.cons rfl (by first | exact .refl _ | exact .nilOwn _ _ | exact .nilSl _ | exact .ownSl _ _ _  | exact SV.le.of_eq (by simp)) (Slots.cons rfl (by first | exact .refl _ | exact .nilOwn _ _ | exact .nilSl _ | exact .ownSl _ _ _  | exact SV.le.of_eq (by simp)) (Slots.cons rfl (by first | exact .refl _ | exact .nilOwn _ _ | exact .nilSl _ | exact .ownSl _ _ _  | exact SV.le.of_eq (by simp)) Slots.nil)))))))), (by change List.Sublist _ (⟨gd, true, .box (List.map AV.v xd)⟩ :: Dd); simp)⟩ ⟨0, Dd, rfl, rfl, Nat.zero_le _, hD0⟩ ?_
          rintro nn0 _ ⟨k, D, rfl, rfl, hk, hD⟩
          refine awp_seq ?_
          refine awp_region ?_
          refine r_cmp rfl rfl rfl rfl ?_
          refine awl_nil ?_
          refine x_then ?_
          refine awp_seq ?_
          refine awp_cond rfl (fun hc6 => ?_) (fun hc6 => ?_)
          ·
           have hltk : k < ND := by have := of_decide_eq_true hc6; omega
           obtain ⟨B, m, cap, hxs, hmb, hB⟩ := hD k hltk
           refine awp_skip ?_
           refine x_then ?_
           refine awp_seq ?_
           refine awp_block ?_
           refine awp_seq ?_
           refine awp_region ?_
           refine r_move rfl rfl ?_
           refine r_assign rfl rfl ?_
           refine awl_nil ?_
           refine x_then ?_
           refine awp_seq ?_
           refine awp_region ?_
           refine r_move rfl rfl ?_
           refine r_move rfl rfl ?_
           refine r_indexV rfl rfl TF.sl28 TF.sz50 (by omega) (by omega) rfl ?_
           first | (refine r_fieldcp rfl TF.f50_3 TF.sz34 rfl ?_) | (refine r_fieldb rfl TF.f50_3 TF.sz34 rfl ?_)
           refine r_load1b 0 rfl rfl (show (List.map AV.v xd)[0 + (k : Int).toNat * 4 + 3]? = some (.v (.slice B m cap)) from by rw [Int.toNat_natCast, Nat.zero_add]; exact cell_av hxs) TF.agg34 rfl ?_
           first | (refine r_lenS rfl rfl TF.sl34 rfl ?_) | (refine r_lenNil rfl TF.sl34 rfl ?_) | (refine r_lenV rfl TF.sl34 rfl ?_)
           refine r_move rfl rfl ?_
           refine awl_nil ?_
           refine x_then ?_
           refine awp_block ?_
           refine awp_loop (fun nn0 S => ∃ j : Nat, ∃ D2 : List OE, S = ⟨117, [(0, .a (files a)), (1, .a (files b)), (2, .a (.v (.int .u8 by_))), (7, .a (files a)), (8, .a (files b)), (9, .a (.v (.slice (some ⟨gd, 0, none⟩) ND cd))), (84, .a (.v (.int .i64 ((ND : Int))))), (85, .a (.v (.int .i64 ((k : Int))))), (14, .a (.v (.int .i64 ((k : Int))))), (93, .a (.v (.int .i64 ((m : Int))))), (94, .a (.v (.int .i64 ((j : Int)))))], (⟨gd, true, .box (List.map AV.v xd)⟩ :: D2) ++ []⟩ ∧ nn0 = m - j ∧ (j ≤ m) ∧ (DatD xd D2 ND 4 3)) (m - (0)) ⟨117, [(0, .a (files a)), (1, .a (files b)), (2, .a (.v (.int .u8 by_))), (7, .a (files a)), (8, .a (files b)), (9, .a (.v (.slice (some ⟨gd, 0, none⟩) ND cd))), (84, .a (.v (.int .i64 ((ND : Int))))), (85, .a (.v (.int .i64 ((k : Int))))), (14, .a (.v (.int .i64 ((k : Int))))), (93, .a (.v (.int .i64 ((m : Int))))), (94, .a (.v (.int .i64 (((0) : Int)))))], (⟨gd, true, .box (List.map AV.v xd)⟩ :: (D)) ++ []⟩ ⟨rfl, (Slots.cons rfl (by first | exact .refl _ | exact .nilOwn _ _ | exact .nilSl _ | exact .ownSl _ _ _  | exact SV.le.of_eq (by simp)) (Slots.cons rfl (by first | exact .refl _ | exact .nilOwn _ _ | exact .nilSl _ | exact .ownSl _ _ _  | exact SV.le.of_eq (by simp)) (Slots.cons rfl (by first | exact .refl _ | exact .nilOwn _ _ | exact .nilSl _ | exact .ownSl _ _ _  | exact SV.le.of_eq (by simp)) (Slots.cons rfl (by first | exact .refl _ | exact .nilOwn _ _ | exact .nilSl _ | exact .ownSl _ _ _  | exact SV.le.of_eq (by simp)) (Slots.cons rfl (by first | exact .refl _ | exact .nilOwn _ _ | exact .nilSl _ | exact .ownSl _ _ _  | exact SV.le.of_eq (by simp)) (Slots.cons rfl (by first | exact .refl _ | exact .nilOwn _ _ | exact .nilSl _ | exact .ownSl _ _ _  | exact SV.le.of_eq (by simp)) (Slots.cons rfl (by first | exact .refl _ | exact .nilOwn _ _ | exact .nilSl _ | exact .ownSl _ _ _  | exact SV.le.of_eq (by simp)) (Slots.cons rfl (by first | exact .refl _ | exact .nilOwn _ _ | exact .nilSl _ | exact .ownSl _ _ _  | exact SV.le.of_eq (by simp)) (Slots.cons rfl (by first | exact .refl _ | exact .nilOwn _ _ | exact .nilSl _ | exact .ownSl _ _ _  | exact SV.le.of_eq (by simp)) (Slots.cons rfl (by first | exact .refl _ | exact .nilOwn _ _ | exact .nilSl _ | exact .ownSl _ _ _  | exact SV.le.of_eq (by simp)) (Slots.cons rfl (by first | exact .refl _ | exact .nilOwn _ _ | exact .nilSl _ | exact .ownSl _ _ _  | exact SV.le.of_eq (by simp)) Slots.nil))))))))))), (List.Sublist.refl _)⟩ ⟨0, D, rfl, rfl, Nat.zero_le _, hD⟩ ?_
           rintro nn0 _ ⟨j, D2, rfl, rfl, hj, hD2⟩
           refine awp_seq ?_
           refine awp_region ?_
           refine r_cmp rfl rfl rfl rfl ?_
           refine awl_nil ?_
           refine x_then ?_
           refine awp_seq ?_
           refine awp_cond rfl (fun hc7 => ?_) (fun hc7 => ?_)
           ·
            have hltj : j < m := by have := of_decide_eq_true hc7; omega
            obtain ⟨B', m', cap', hxs', _, hB'⟩ := hD2 k hltk
            rw [hxs] at hxs'
            cases hxs'
            obtain ⟨b0, o0, q, ys, hBe, hq, hlen⟩ := hB' (by omega)
            refine awp_skip ?_
            refine x_then ?_
            refine awp_seq ?_
            refine awp_block ?_
            refine awp_seq ?_
            refine awp_region ?_
            refine r_move rfl rfl ?_
            refine r_assign rfl rfl ?_
            refine awl_nil ?_
            refine x_then ?_
            refine awp_region ?_
            refine r_move rfl rfl ?_
            refine r_move rfl rfl ?_
            refine r_indexV rfl rfl TF.sl28 TF.sz50 (by omega) (by omega) rfl ?_
            first | (refine r_fieldcp rfl TF.f50_3 TF.sz34 rfl ?_) | (refine r_fieldb rfl TF.f50_3 TF.sz34 rfl ?_)
            refine r_load1b 0 rfl rfl (show (List.map AV.v xd)[0 + (k : Int).toNat * 4 + 3]? = some (.v (.slice B m cap)) from by rw [Int.toNat_natCast, Nat.zero_add]; exact cell_av hxs) TF.agg34 rfl ?_
            refine r_move rfl rfl ?_
            refine r_move rfl rfl ?_
            refine r_indexVA hBe rfl rfl TF.sl34 TF.sz5 (by omega) (by omega) rfl ?_
            refine r_store (q + 1) rfl (get_head hq) rfl TF.sz5 rfl (Nat.ble_eq_true_of_le (by omega)) rfl ?_
            refine awl_nil ?_
            refine x_block ?_
            refine x_then ?_
            refine awp_region ?_
            refine r_ari _ rfl rfl rfl (wrap_id (by first | omega | (simp; omega))) rfl ?_
            refine r_move rfl rfl ?_
            refine awl_nil ?_
            refine x_then ?_
            refine ⟨m - (j + 1), ⟨117, [(0, .a (files a)), (1, .a (files b)), (2, .a (.v (.int .u8 by_))), (7, .a (files a)), (8, .a (files b)), (9, .a (.v (.slice (some ⟨gd, 0, none⟩) ND cd))), (84, .a (.v (.int .i64 ((ND : Int))))), (85, .a (.v (.int .i64 ((k : Int))))), (14, .a (.v (.int .i64 ((k : Int))))), (93, .a (.v (.int .i64 ((m : Int))))), (94, .a (.v (.int .i64 (((j + 1) : Int)))))], (⟨gd, true, .box (List.map AV.v xd)⟩ :: (D2.set q ⟨b0, true, .box (ys.take (o0 + (j : Int).toNat * 1) ++ [.v (.int .u8 by_)] ++ ys.drop (o0 + (j : Int).toNat * 1 + 1))⟩)) ++ []⟩, ⟨rfl, (Slots.cons rfl (by first | exact .refl _ | exact .nilOwn _ _ | exact .nilSl _ | exact .ownSl _ _ _  | exact SV.le.of_eq (by simp)) (Slots.cons rfl (by first | exact .refl _ | exact .nilOwn _ _ | exact .nilSl _ | exact .ownSl _ _ _  | exact SV.le.of_eq (by simp)) (Slots.cons rfl (by first | exact .refl _ | exact .nilOwn _ _ | exact .nilSl _ | exact .ownSl _ _ _  | exact SV.le.of_eq (by simp)) (Slots.cons rfl (by first | exact .refl _ | exact .nilOwn _ _ | exact .nilSl _ | exact .ownSl _ _ _  | exact SV.le.of_eq (by simp)) (Slots.cons rfl (by first | exact .refl _ | exact .nilOwn _ _ | exact .nilSl _ | exact .ownSl _ _ _  | exact SV.le.of_eq (by simp)) (Slots.cons rfl (by first | exact .refl _ | exact .nilOwn _ _ | exact .nilSl _ | exact .ownSl _ _ _  | exact SV.le.of_eq (by simp)) (Slots.cons rfl (by first | exact .refl _ | exact .nilOwn _ _ | exact .nilSl _ | exact .ownSl _ _ _  | exact SV.le.of_eq (by simp)) (Slots.cons rfl (by first | exact .refl _ | exact .nilOwn _ _ | exact .nilSl _ | exact .ownSl _ _ _  | exact SV.le.of_eq (by simp)) (Slots.cons rfl (by first | exact .refl _ | exact .nilOwn _ _ | exact .nilSl _ | exact .ownSl _ _ _  | exact SV.le.of_eq (by simp)) (Slots.cons rfl (by first | exact .refl _ | exact .nilOwn _ _ | exact .nilSl _ | exact .ownSl _ _ _  | exact SV.le.of_eq (by simp)) (Slots.cons rfl (by first | exact .refl _ | exact .nilOwn _ _ | exact .nilSl _ | exact .ownSl _ _ _  | exact SV.le.of_eq (by simp)) Slots.nil))))))))))), (set_headS hq)⟩, (by omega), ⟨j + 1, D2.set q ⟨b0, true, .box (ys.take (o0 + (j : Int).toNat * 1) ++ [.v (.int .u8 by_)] ++ ys.drop (o0 + (j : Int).toNat * 1 + 1))⟩, rfl, rfl, (by omega), (hD2.set hq (by omega))⟩⟩
           ·
            refine awp_exit ?_
            refine x_thenE ?_
            refine x_thenE ?_
            refine x_blockE ?_
            refine x_block ?_
            refine x_then ?_
            refine awp_region ?_
            refine r_ari _ rfl rfl rfl (wrap_id (by first | omega | (simp; omega))) rfl ?_
            refine r_move rfl rfl ?_
            refine awl_nil ?_
            refine x_then ?_
            refine ⟨ND - (k + 1), ⟨117, [(0, .a (files a)), (1, .a (files b)), (2, .a (.v (.int .u8 by_))), (7, .a (files a)), (8, .a (files b)), (9, .a (.v (.slice (some ⟨gd, 0, none⟩) ND cd))), (84, .a (.v (.int .i64 ((ND : Int))))), (85, .a (.v (.int .i64 (((k + 1) : Int)))))], (⟨gd, true, .box (List.map AV.v xd)⟩ :: (D2)) ++ []⟩, ⟨rfl, (Slots.cons rfl (by first | exact .refl _ | exact .nilOwn _ _ | exact .nilSl _ | exact .ownSl _ _ _  | exact SV.le.of_eq (by simp)) (Slots.cons rfl (by first | exact .refl _ | exact .nilOwn _ _ | exact .nilSl _ | exact .ownSl _ _ _  | exact SV.le.of_eq (by simp)) (Slots.cons rfl (by first | exact .refl _ | exact .nilOwn _ _ | exact .nilSl _ | exact .ownSl _ _ _  | exact SV.le.of_eq (by simp)) (Slots.cons rfl (by first | exact .refl _ | exact .nilOwn _ _ | exact .nilSl _ | exact .ownSl _ _ _  | exact SV.le.of_eq (by simp)) (Slots.cons rfl (by first | exact .refl _ | exact .nilOwn _ _ | exact .nilSl _ | exact .ownSl _ _ _  | exact SV.le.of_eq (by simp)) (Slots.cons rfl (by first | exact .refl _ | exact .nilOwn _ _ | exact .nilSl _ | exact .ownSl _ _ _  | exact SV.le.of_eq (by simp)) (Slots.cons rfl (by first | exact .refl _ | exact .nilOwn _ _ | exact .nilSl _ | exact .ownSl _ _ _  | exact SV.le.of_eq (by simp)) (Slots.cons rfl (by first | exact .refl _ | exact .nilOwn _ _ | exact .nilSl _ | exact .ownSl _ _ _  | exact SV.le.of_eq (by simp)) Slots.nil)))))))), (List.Sublist.refl _)⟩, (by omega), ⟨k + 1, D2, rfl, rfl, (by omega), hD2⟩⟩
          ·
           refine awp_exit ?_
           refine x_thenE ?_
           refine x_thenE ?_
           refine x_blockE ?_
           refine x_then ?_
           refine ⟨⟨117, [(0, .a (files a)), (1, .a (files b)), (2, .a (.v (.int .u8 by_))), (7, .a (files a)), (8, .a (files b))], []⟩, ⟨rfl, (Slots.cons rfl (by first | exact .refl _ | exact .nilOwn _ _ | exact .nilSl _ | exact .ownSl _ _ _  | exact SV.le.of_eq (by simp)) (Slots.cons rfl (by first | exact .refl _ | exact .nilOwn _ _ | exact .nilSl _ | exact .ownSl _ _ _  | exact SV.le.of_eq (by simp)) (Slots.cons rfl (by first | exact .refl _ | exact .nilOwn _ _ | exact .nilSl _ | exact .ownSl _ _ _  | exact SV.le.of_eq (by simp)) (Slots.cons rfl (by first | exact .refl _ | exact .nilOwn _ _ | exact .nilSl _ | exact .ownSl _ _ _  | exact SV.le.of_eq (by simp)) (Slots.cons rfl (by first | exact .refl _ | exact .nilOwn _ _ | exact .nilSl _ | exact .ownSl _ _ _  | exact SV.le.of_eq (by simp)) Slots.nil))))), (List.nil_sublist _)⟩, rfl⟩
        ·
         rintro _ ⟨rfl⟩
         refine awp_seq ?_
         refine awp_region ?_
         refine r_move rfl rfl ?_
         refine r_move rfl rfl ?_
         refine r_call0 hq rfl rfl (.cons (.ev rfl rfl) (.cons (.ev rfl rfl) .nil)) (alike_ok a (by omega)) rfl TF.en15 rfl (fun r hr => ?_)
         obtain rfl := hr
         refine r_cmp rfl rfl rfl rfl ?_
         refine r_move rfl rfl ?_
         refine g_run rfl rfl rfl ?_
         refine r_move rfl rfl ?_
         refine g_run rfl rfl rfl ?_
         refine r_move rfl rfl ?_
         refine g_run rfl rfl rfl ?_
         refine r_call0 hq rfl rfl (.cons (.ev rfl rfl) (.cons (.ev rfl rfl) .nil)) (alike_ok b (by omega)) rfl TF.en15 rfl (fun r hr => ?_)
         obtain rfl := hr
         refine g_run rfl rfl rfl ?_
         refine r_cmp rfl rfl rfl rfl ?_
         refine r_pickT rfl rfl rfl rfl ?_
         refine r_assign rfl rfl ?_
         refine awl_nil ?_
         refine x_then ?_
         refine awp_ret ?_
         exact ⟨(.inl rfl), _, [], (.one (by first | exact .mk rfl rfl | exact .nil rfl)), ⟨rfl, rfl⟩, (List.nil_sublist _), (by simp)⟩
end Go.Proofs.Ytnbnegkdbjdekaa.A

import Derived.WalkKit
import Derived.Below
import Derived.Laws.Rows
import Derived.Laws.CopyRow
import Derived.Laws.AppendOwn
import Derived.RangeFuncLeaves
import Derived.RangeFuncSeq
import Derived.RangeFuncCalls
import Derived.MapKept
import Derived.Orders
import Derived.Laws.IdiomStrings
import Derived.Laws.BytesArg
import Derived.Shelf.SlIter.Nil
import Derived.Shelf.SortM.Plain
import Derived.Shelf.SortM.SortNone
import Derived.Ground.GgzProg
import Derived.Ground.SlgmProg
import Derived.Test.YtcbhhjahjnlfhaaDoorProg
import Derived.KernelRfl
import Derived.RangeFuncBound
import Derived.Maps.RangeRun
import Derived.DeepKeys3
import Derived.Laws.StructEq
import Derived.Shelf.SlSortCmp.NoneTotal
import Derived.ChangeKeysEq
import Derived.Laws.MakeOwn
import Derived.ChangeArms
import Derived.ChangeOld
import Derived.Laws.DeepStrings4
import Derived.OpenShut
import Derived.OrdersIn
import Derived.Lib.AppendZeros
import Derived.Lib.AppendZerosOnto
import Derived.Lib.Overlaps
import Derived.Deep.AppendSrc
import Derived.Lib.BytesEntry
import Derived.Laws.Concat
import Derived.Laws.Strings3
import Derived.Test.YtcbhhjahjnlfhaaDoorRows
import Derived.ProofKit
import Derived.LaidMore
import Derived.Stop.Joined
import Derived.Stop.BytesEq
import Derived.Laws.Runes
import Derived.Test.YtcbhhjahjnlfhaaDoorM2
namespace Go.Proofs.YtcbhhjahjnlfhaaDoor.A
open Go Go.RowKit
set_option linter.unusedVariables false
set_option linter.unusedSimpArgs false
set_option maxRecDepth 100000
theorem TG.un9 : Tryd.prog.underlying 9 = some .string := by kernel_rfl
theorem TG.un33 : Tryd.prog.underlying 33 = some (.array 32 5) := by kernel_rfl
theorem TG.sz5 : szT Tryd.prog 5 = some 1 := by kernel_rfl
theorem TG.agg5 : aggT Tryd.prog 5 = some false := by kernel_rfl
theorem TG.sl59 : sliceT Tryd.prog 59 = some 33 := by kernel_rfl
theorem TG.sz33 : szT Tryd.prog 33 = some 32 := by kernel_rfl
theorem TG.agg33 : aggT Tryd.prog 33 = some true := by kernel_rfl
theorem TG.zero33 : ZeroT Tryd.prog 33 [.v (.int .u8 0), .v (.int .u8 0), .v (.int .u8 0), .v (.int .u8 0), .v (.int .u8 0), .v (.int .u8 0), .v (.int .u8 0), .v (.int .u8 0), .v (.int .u8 0), .v (.int .u8 0), .v (.int .u8 0), .v (.int .u8 0), .v (.int .u8 0), .v (.int .u8 0), .v (.int .u8 0), .v (.int .u8 0), .v (.int .u8 0), .v (.int .u8 0), .v (.int .u8 0), .v (.int .u8 0), .v (.int .u8 0), .v (.int .u8 0), .v (.int .u8 0), .v (.int .u8 0), .v (.int .u8 0), .v (.int .u8 0), .v (.int .u8 0), .v (.int .u8 0), .v (.int .u8 0), .v (.int .u8 0), .v (.int .u8 0), .v (.int .u8 0)] := ⟨[(.int .u8 0), (.int .u8 0), (.int .u8 0), (.int .u8 0), (.int .u8 0), (.int .u8 0), (.int .u8 0), (.int .u8 0), (.int .u8 0), (.int .u8 0), (.int .u8 0), (.int .u8 0), (.int .u8 0), (.int .u8 0), (.int .u8 0), (.int .u8 0), (.int .u8 0), (.int .u8 0), (.int .u8 0), (.int .u8 0), (.int .u8 0), (.int .u8 0), (.int .u8 0), (.int .u8 0), (.int .u8 0), (.int .u8 0), (.int .u8 0), (.int .u8 0), (.int .u8 0), (.int .u8 0), (.int .u8 0), (.int .u8 0)], by kernel_rfl, (LeCells.refl _)⟩
theorem TG.un5 : Tryd.prog.underlying 5 = some (.int .u8) := by kernel_rfl
theorem TG.un47 : Tryd.prog.underlying 47 = some (.int .u64) := by kernel_rfl
theorem named_fs_ok (s : ByteArray) (hs : s.size ≤ 1000000) : AC Tryd.prog 99 [.v (.string s)] [] (fun r n => n = [] ∧ r = boolA (namedS s)) := by
 refine ac_of_awp (rs := [2]) (nt := 40) Tryd.func99 rfl rfl rfl rfl (fun w0 C0 hq => ?_)
 refine awp_seq ?_
 refine awp_region ?_
 refine r_assign rfl rfl ?_
 refine awl_nil ?_
 refine x_then ?_
 refine awp_seq ?_
 refine awp_seq ?_
 refine awp_region ?_
 refine r_assign rfl rfl ?_
 refine awl_nil ?_
 refine x_then ?_
 refine awp_block ?_
 refine awp_loop (fun nn0 S => ∃ i : Nat, S = ⟨40, [(0, .a (.v (.string s))), (3, .a (.v (.int .i64 ((i : Int)))))], []⟩ ∧ nn0 = s.size - i ∧ (i ≤ s.size) ∧ ((s.data.toList.take i).all okCh = true)) (s.size - (0)) ⟨40, [(0, .a (.v (.string s))), (3, .a (.v (.int .i64 (((0) : Int)))))], []⟩ ⟨rfl, (Slots.cons rfl (by first | exact .refl _ | exact .nilOwn _ _ | exact .nilSl _ | exact .ownSl _ _ _  | exact SV.le.of_eq (by simp)) (Slots.cons rfl (by first | exact .refl _ | exact .nilOwn _ _ | exact .nilSl _ | exact .ownSl _ _ _  | exact SV.le.of_eq (by simp)) Slots.nil)), (by first | exact List.Sublist.refl _ | exact .cons_cons _ (.cons _ (.refl _)) | exact List.nil_sublist _ | exact .cons _ (.refl _) | exact .cons _ (.cons _ (.refl _)) | exact .cons _ (.cons _ (.cons _ (.refl _))) | exact .cons _ (.cons _ (.cons _ (.cons _ (.refl _)))) | exact .cons_cons _ (List.nil_sublist _))⟩ ⟨0, rfl, rfl, Nat.zero_le _, rfl⟩ ?_
 rintro nn0 _ ⟨i, rfl, rfl, hi, ha⟩
 refine awp_seq ?_
 refine awp_seq ?_
 refine awp_region ?_
 refine r_move rfl rfl ?_
 refine r_move rfl rfl ?_
 refine r_lenStr rfl TG.un9 rfl ?_
 refine r_cmp rfl rfl rfl rfl ?_
 refine awl_nil ?_
 refine x_then ?_
 refine awp_cond rfl (fun hc0 => ?_) (fun hc0 => ?_)
 ·
  have hltx : i < s.data.toList.length := by have := of_decide_eq_true hc0; rw [ba_len]; omega
  obtain ⟨x, hx⟩ := get_lt hltx
  rw [ba_len] at hltx
  refine awp_skip ?_
  refine x_then ?_
  refine awp_seq ?_
  refine awp_block ?_
  refine awp_seq ?_
  refine awp_region ?_
  refine r_move rfl rfl ?_
  refine r_move rfl rfl ?_
  refine r_strAt rfl rfl TG.un9 (by omega) (ba_at hx) rfl ?_
  refine r_assign rfl rfl ?_
  refine awl_nil ?_
  refine x_then ?_
  refine awp_seq ?_
  refine awp_region ?_
  refine r_move rfl rfl ?_
  refine r_cmp rfl rfl rfl rfl ?_
  refine r_move rfl rfl ?_
  refine g_cases (t' := 16) rfl (fun hg16 => ?_) (fun hg16 => ?_)
  ·
   refine g_run rfl rfl hg16 ?_
   refine r_move rfl rfl ?_
   refine g_run rfl rfl hg16 ?_
   refine r_cmp rfl rfl rfl rfl ?_
   refine g_run rfl rfl hg16 ?_
   refine r_move rfl rfl ?_
   refine g_cases (t' := 19) rfl (fun hg19 => ?_) (fun hg19 => ?_)
   ·
    refine g_skip rfl rfl hg19 rfl ?_
    refine g_skip rfl rfl hg19 rfl ?_
    refine g_run rfl rfl hg16 ?_
    refine r_pickT rfl hg19 rfl rfl ?_
    refine r_pickT rfl hg16 rfl rfl ?_
    refine r_move rfl rfl ?_
    refine g_run rfl rfl rfl ?_
    refine r_move rfl rfl ?_
    refine g_run rfl rfl rfl ?_
    refine r_cmp rfl rfl rfl rfl ?_
    refine g_run rfl rfl rfl ?_
    refine r_move rfl rfl ?_
    refine g_cases (t' := 27) rfl (fun hg27 => ?_) (fun hg27 => ?_)
    ·
     refine g_skip rfl rfl hg27 rfl ?_
     refine g_skip rfl rfl hg27 rfl ?_
     refine g_run rfl rfl rfl ?_
     refine r_pickT rfl hg27 rfl rfl ?_
     refine r_pickT rfl rfl rfl rfl ?_
     refine awl_nil ?_
     refine x_then ?_
     refine awp_condT rfl ?_
     have hbad : okCh x = false := okCh_F (by simp at *; omega)
     refine awp_seq ?_
     refine awp_region ?_
     refine r_assign rfl rfl ?_
     refine awl_nil ?_
     refine x_then ?_
     refine awp_ret ?_
     refine x_blockR ?_
     refine x_thenR ?_
     refine x_thenR ?_
     refine x_blockR ?_
     refine x_thenR ?_
     exact ⟨(.inl rfl), _, [], (.one (by first | exact .mk rfl rfl | exact .nil rfl)), ⟨rfl, by first | (rw [named_bad hx hbad]; done) | (rw [named_bad hx hbad]; rfl) | (rw [namedS, hall, decide_eq_true (show 1 ≤ s.size by omega)]; simp [boolA, SV.av]; done) | (rw [namedS, hall, decide_eq_true (show 1 ≤ s.size by omega)]; simp [boolA, SV.av]; omega) | (rw [namedS, hall, decide_eq_false (show ¬ 1 ≤ s.size by omega)]; rfl)⟩, (List.nil_sublist _), (by simp)⟩
    ·
     refine g_run rfl rfl hg27 ?_
     refine r_move rfl rfl ?_
     refine g_run rfl rfl hg27 ?_
     refine r_cmp rfl rfl rfl rfl ?_
     refine g_run rfl rfl rfl ?_
     refine r_pickF rfl hg27 rfl rfl ?_
     refine r_pickT rfl rfl rfl rfl ?_
     refine awl_nil ?_
     refine x_then ?_
     refine awp_cond rfl (fun hc1 => ?_) (fun hc1 => ?_)
     ·
      have hbad : okCh x = false := okCh_F (by simp at *; omega)
      refine awp_seq ?_
      refine awp_region ?_
      refine r_assign rfl rfl ?_
      refine awl_nil ?_
      refine x_then ?_
      refine awp_ret ?_
      refine x_blockR ?_
      refine x_thenR ?_
      refine x_thenR ?_
      refine x_blockR ?_
      refine x_thenR ?_
      exact ⟨(.inl rfl), _, [], (.one (by first | exact .mk rfl rfl | exact .nil rfl)), ⟨rfl, by first | (rw [named_bad hx hbad]; done) | (rw [named_bad hx hbad]; rfl) | (rw [namedS, hall, decide_eq_true (show 1 ≤ s.size by omega)]; simp [boolA, SV.av]; done) | (rw [namedS, hall, decide_eq_true (show 1 ≤ s.size by omega)]; simp [boolA, SV.av]; omega) | (rw [namedS, hall, decide_eq_false (show ¬ 1 ≤ s.size by omega)]; rfl)⟩, (List.nil_sublist _), (by simp)⟩
     ·
      have hgood : okCh x = true := okCh_T (by simp at *; omega)
      refine awp_skip ?_
      refine x_block ?_
      refine x_then ?_
      refine awp_region ?_
      refine r_move rfl rfl ?_
      refine r_ari _ rfl rfl rfl (wrap_id (by first | omega | (simp; omega))) rfl ?_
      refine r_assign rfl rfl ?_
      refine awl_nil ?_
      refine x_then ?_
      refine ⟨s.size - (i + 1), ⟨40, [(0, .a (.v (.string s))), (3, .a (.v (.int .i64 (((i + 1) : Int)))))], []⟩, ⟨rfl, (Slots.cons rfl (by first | exact .refl _ | exact .nilOwn _ _ | exact .nilSl _ | exact .ownSl _ _ _  | exact SV.le.of_eq (by simp)) (Slots.cons rfl (by first | exact .refl _ | exact .nilOwn _ _ | exact .nilSl _ | exact .ownSl _ _ _  | exact SV.le.of_eq (by simp)) Slots.nil)), (by first | exact List.Sublist.refl _ | exact .cons_cons _ (.cons _ (.refl _)) | exact List.nil_sublist _ | exact .cons _ (.refl _) | exact .cons _ (.cons _ (.refl _)) | exact .cons _ (.cons _ (.cons _ (.refl _))) | exact .cons _ (.cons _ (.cons _ (.cons _ (.refl _)))) | exact .cons_cons _ (List.nil_sublist _))⟩, (by omega), ⟨i + 1, rfl, rfl, (by omega), (all_step hx ha hgood)⟩⟩
   ·
    refine g_run rfl rfl hg19 ?_
    refine r_move rfl rfl ?_
    refine g_run rfl rfl hg19 ?_
    refine r_cmp rfl rfl rfl rfl ?_
    refine g_run rfl rfl hg16 ?_
    refine r_pickF rfl hg19 rfl rfl ?_
    refine r_pickT rfl hg16 rfl rfl ?_
    refine r_move rfl rfl ?_
    refine g_cases (t' := 24) rfl (fun hg24 => ?_) (fun hg24 => ?_)
    ·
     refine g_run rfl rfl hg24 ?_
     refine r_move rfl rfl ?_
     refine g_run rfl rfl hg24 ?_
     refine r_cmp rfl rfl rfl rfl ?_
     refine g_run rfl rfl hg24 ?_
     refine r_move rfl rfl ?_
     refine g_cases (t' := 27) rfl (fun hg27 => ?_) (fun hg27 => ?_)
     ·
      refine g_skip rfl rfl hg27 rfl ?_
      refine g_skip rfl rfl hg27 rfl ?_
      refine g_run rfl rfl hg24 ?_
      refine r_pickT rfl hg27 rfl rfl ?_
      refine r_pickT rfl hg24 rfl rfl ?_
      refine awl_nil ?_
      refine x_then ?_
      refine awp_condT rfl ?_
      have hbad : okCh x = false := okCh_F (by simp at *; omega)
      refine awp_seq ?_
      refine awp_region ?_
      refine r_assign rfl rfl ?_
      refine awl_nil ?_
      refine x_then ?_
      refine awp_ret ?_
      refine x_blockR ?_
      refine x_thenR ?_
      refine x_thenR ?_
      refine x_blockR ?_
      refine x_thenR ?_
      exact ⟨(.inl rfl), _, [], (.one (by first | exact .mk rfl rfl | exact .nil rfl)), ⟨rfl, by first | (rw [named_bad hx hbad]; done) | (rw [named_bad hx hbad]; rfl) | (rw [namedS, hall, decide_eq_true (show 1 ≤ s.size by omega)]; simp [boolA, SV.av]; done) | (rw [namedS, hall, decide_eq_true (show 1 ≤ s.size by omega)]; simp [boolA, SV.av]; omega) | (rw [namedS, hall, decide_eq_false (show ¬ 1 ≤ s.size by omega)]; rfl)⟩, (List.nil_sublist _), (by simp)⟩
     ·
      refine g_run rfl rfl hg27 ?_
      refine r_move rfl rfl ?_
      refine g_run rfl rfl hg27 ?_
      refine r_cmp rfl rfl rfl rfl ?_
      refine g_run rfl rfl hg24 ?_
      refine r_pickF rfl hg27 rfl rfl ?_
      refine r_pickT rfl hg24 rfl rfl ?_
      refine awl_nil ?_
      refine x_then ?_
      refine awp_cond rfl (fun hc1 => ?_) (fun hc1 => ?_)
      ·
       have hbad : okCh x = false := okCh_F (by simp at *; omega)
       refine awp_seq ?_
       refine awp_region ?_
       refine r_assign rfl rfl ?_
       refine awl_nil ?_
       refine x_then ?_
       refine awp_ret ?_
       refine x_blockR ?_
       refine x_thenR ?_
       refine x_thenR ?_
       refine x_blockR ?_
       refine x_thenR ?_
       exact ⟨(.inl rfl), _, [], (.one (by first | exact .mk rfl rfl | exact .nil rfl)), ⟨rfl, by first | (rw [named_bad hx hbad]; done) | (rw [named_bad hx hbad]; rfl) | (rw [namedS, hall, decide_eq_true (show 1 ≤ s.size by omega)]; simp [boolA, SV.av]; done) | (rw [namedS, hall, decide_eq_true (show 1 ≤ s.size by omega)]; simp [boolA, SV.av]; omega) | (rw [namedS, hall, decide_eq_false (show ¬ 1 ≤ s.size by omega)]; rfl)⟩, (List.nil_sublist _), (by simp)⟩
      ·
       have hgood : okCh x = true := okCh_T (by simp at *; omega)
       refine awp_skip ?_
       refine x_block ?_
       refine x_then ?_
       refine awp_region ?_
       refine r_move rfl rfl ?_
       refine r_ari _ rfl rfl rfl (wrap_id (by first | omega | (simp; omega))) rfl ?_
       refine r_assign rfl rfl ?_
       refine awl_nil ?_
       refine x_then ?_
       refine ⟨s.size - (i + 1), ⟨40, [(0, .a (.v (.string s))), (3, .a (.v (.int .i64 (((i + 1) : Int)))))], []⟩, ⟨rfl, (Slots.cons rfl (by first | exact .refl _ | exact .nilOwn _ _ | exact .nilSl _ | exact .ownSl _ _ _  | exact SV.le.of_eq (by simp)) (Slots.cons rfl (by first | exact .refl _ | exact .nilOwn _ _ | exact .nilSl _ | exact .ownSl _ _ _  | exact SV.le.of_eq (by simp)) Slots.nil)), (by first | exact List.Sublist.refl _ | exact .cons_cons _ (.cons _ (.refl _)) | exact List.nil_sublist _ | exact .cons _ (.refl _) | exact .cons _ (.cons _ (.refl _)) | exact .cons _ (.cons _ (.cons _ (.refl _))) | exact .cons _ (.cons _ (.cons _ (.cons _ (.refl _)))) | exact .cons_cons _ (List.nil_sublist _))⟩, (by omega), ⟨i + 1, rfl, rfl, (by omega), (all_step hx ha hgood)⟩⟩
    ·
     refine g_skip rfl rfl hg24 rfl ?_
     refine g_skip rfl rfl hg24 rfl ?_
     refine g_skip rfl rfl hg24 rfl ?_
     refine g_skipU rfl rfl rfl ?_
     refine g_skipU rfl rfl rfl ?_
     refine g_skip rfl rfl hg24 rfl ?_
     refine r_pickF rfl hg24 rfl rfl ?_
     refine awl_nil ?_
     refine x_then ?_
     refine awp_condF rfl ?_
     have hgood : okCh x = true := okCh_T (by simp at *; omega)
     refine awp_skip ?_
     refine x_block ?_
     refine x_then ?_
     refine awp_region ?_
     refine r_move rfl rfl ?_
     refine r_ari _ rfl rfl rfl (wrap_id (by first | omega | (simp; omega))) rfl ?_
     refine r_assign rfl rfl ?_
     refine awl_nil ?_
     refine x_then ?_
     refine ⟨s.size - (i + 1), ⟨40, [(0, .a (.v (.string s))), (3, .a (.v (.int .i64 (((i + 1) : Int)))))], []⟩, ⟨rfl, (Slots.cons rfl (by first | exact .refl _ | exact .nilOwn _ _ | exact .nilSl _ | exact .ownSl _ _ _  | exact SV.le.of_eq (by simp)) (Slots.cons rfl (by first | exact .refl _ | exact .nilOwn _ _ | exact .nilSl _ | exact .ownSl _ _ _  | exact SV.le.of_eq (by simp)) Slots.nil)), (by first | exact List.Sublist.refl _ | exact .cons_cons _ (.cons _ (.refl _)) | exact List.nil_sublist _ | exact .cons _ (.refl _) | exact .cons _ (.cons _ (.refl _)) | exact .cons _ (.cons _ (.cons _ (.refl _))) | exact .cons _ (.cons _ (.cons _ (.cons _ (.refl _)))) | exact .cons_cons _ (List.nil_sublist _))⟩, (by omega), ⟨i + 1, rfl, rfl, (by omega), (all_step hx ha hgood)⟩⟩
  ·
   refine g_skip rfl rfl hg16 rfl ?_
   refine g_skip rfl rfl hg16 rfl ?_
   refine g_skip rfl rfl hg16 rfl ?_
   refine g_skipU rfl rfl rfl ?_
   refine g_skipU rfl rfl rfl ?_
   refine g_skip rfl rfl hg16 rfl ?_
   refine r_pickF rfl hg16 rfl rfl ?_
   refine r_move rfl rfl ?_
   refine g_skip rfl rfl rfl rfl ?_
   refine g_skip rfl rfl rfl rfl ?_
   refine g_skip rfl rfl rfl rfl ?_
   refine g_skipU rfl rfl rfl ?_
   refine g_skipU rfl rfl rfl ?_
   refine g_skip rfl rfl rfl rfl ?_
   refine r_pickF rfl rfl rfl rfl ?_
   refine awl_nil ?_
   refine x_then ?_
   refine awp_condF rfl ?_
   have hgood : okCh x = true := okCh_T (by simp at *; omega)
   refine awp_skip ?_
   refine x_block ?_
   refine x_then ?_
   refine awp_region ?_
   refine r_move rfl rfl ?_
   refine r_ari _ rfl rfl rfl (wrap_id (by first | omega | (simp; omega))) rfl ?_
   refine r_assign rfl rfl ?_
   refine awl_nil ?_
   refine x_then ?_
   refine ⟨s.size - (i + 1), ⟨40, [(0, .a (.v (.string s))), (3, .a (.v (.int .i64 (((i + 1) : Int)))))], []⟩, ⟨rfl, (Slots.cons rfl (by first | exact .refl _ | exact .nilOwn _ _ | exact .nilSl _ | exact .ownSl _ _ _  | exact SV.le.of_eq (by simp)) (Slots.cons rfl (by first | exact .refl _ | exact .nilOwn _ _ | exact .nilSl _ | exact .ownSl _ _ _  | exact SV.le.of_eq (by simp)) Slots.nil)), (by first | exact List.Sublist.refl _ | exact .cons_cons _ (.cons _ (.refl _)) | exact List.nil_sublist _ | exact .cons _ (.refl _) | exact .cons _ (.cons _ (.refl _)) | exact .cons _ (.cons _ (.cons _ (.refl _))) | exact .cons _ (.cons _ (.cons _ (.cons _ (.refl _)))) | exact .cons_cons _ (List.nil_sublist _))⟩, (by omega), ⟨i + 1, rfl, rfl, (by omega), (all_step hx ha hgood)⟩⟩
 ·
  have hge : s.size ≤ i := by have := of_decide_eq_false hc0; omega
  have hall : s.data.toList.all okCh = true := by rw [List.take_of_length_le (by rw [ba_len]; exact hge)] at ha; exact ha
  refine awp_exit ?_
  refine x_thenE ?_
  refine x_thenE ?_
  refine x_blockE ?_
  refine x_then ?_
  refine awp_seq ?_
  refine awp_region ?_
  refine r_move rfl rfl ?_
  refine r_lenStr rfl TG.un9 rfl ?_
  refine r_cmp rfl rfl rfl rfl ?_
  refine r_move rfl rfl ?_
  refine g_cases (t' := 35) rfl (fun hg35 => ?_) (fun hg35 => ?_)
  ·
   have h1 := of_decide_eq_true hg35
   refine g_run rfl rfl hg35 ?_
   refine r_move rfl rfl ?_
   refine g_run rfl rfl hg35 ?_
   refine r_lenStr rfl TG.un9 rfl ?_
   refine g_run rfl rfl hg35 ?_
   refine r_cmp rfl rfl rfl rfl ?_
   refine r_pickT rfl hg35 rfl rfl ?_
   refine r_assign rfl rfl ?_
   refine awl_nil ?_
   refine x_then ?_
   refine awp_ret ?_
   exact ⟨(.inl rfl), _, [], (.one (by first | exact .mk rfl rfl | exact .nil rfl)), ⟨rfl, by first | (rw [named_bad hx hbad]; done) | (rw [named_bad hx hbad]; rfl) | (rw [namedS, hall, decide_eq_true (show 1 ≤ s.size by omega)]; simp [boolA, SV.av]; done) | (rw [namedS, hall, decide_eq_true (show 1 ≤ s.size by omega)]; simp [boolA, SV.av]; omega) | (rw [namedS, hall, decide_eq_false (show ¬ 1 ≤ s.size by omega)]; rfl)⟩, (List.nil_sublist _), (by simp)⟩
  ·
   have h1 := of_decide_eq_false hg35
   refine g_skip rfl rfl hg35 rfl ?_
   refine g_skip rfl rfl hg35 rfl ?_
   refine g_skip rfl rfl hg35 rfl ?_
   refine r_pickF rfl hg35 rfl rfl ?_
   refine r_assign rfl rfl ?_
   refine awl_nil ?_
   refine x_then ?_
   refine awp_ret ?_
   exact ⟨(.inl rfl), _, [], (.one (by first | exact .mk rfl rfl | exact .nil rfl)), ⟨rfl, by first | (rw [named_bad hx hbad]; done) | (rw [named_bad hx hbad]; rfl) | (rw [namedS, hall, decide_eq_true (show 1 ≤ s.size by omega)]; simp [boolA, SV.av]; done) | (rw [namedS, hall, decide_eq_true (show 1 ≤ s.size by omega)]; simp [boolA, SV.av]; omega) | (rw [namedS, hall, decide_eq_false (show ¬ 1 ≤ s.size by omega)]; rfl)⟩, (List.nil_sublist _), (by simp)⟩
theorem many_ok (n : Nat) (hn : n ≤ 1000000) : AC Tryd.prog 40 [.v (.int .i64 (n : Int))] [] (fun r n1 => n1 = [] ∧ r = .v (.int .i64 (manyF n : Nat))) := by
 refine ac_of_awp (rs := [2]) (nt := 7) Tryd.func40 rfl rfl rfl rfl (fun w0 C0 hq => ?_)
 refine awp_seq ?_
 refine awp_region ?_
 refine r_assign rfl rfl ?_
 refine awl_nil ?_
 refine x_then ?_
 refine awp_seq ?_
 refine awp_region ?_
 refine r_move rfl rfl ?_
 refine r_ari _ rfl rfl rfl (wrap_id (by first | omega | (simp; omega))) rfl ?_
 refine r_ari _ rfl rfl rfl (wrap_id (by first | omega | (simp; omega))) rfl ?_
 refine r_div ((manyF n : Nat) : Int) rfl rfl (quo_some (by decide)) (by rw [Int.tdiv_eq_ediv_of_nonneg (by omega), wrap_id (by omega)]; unfold manyF; omega) rfl ?_
 refine r_assign rfl rfl ?_
 refine awl_nil ?_
 refine x_then ?_
 refine awp_ret ?_
 exact ⟨(.inl rfl), _, [], (.one (by first | exact .mk rfl rfl | exact .nil rfl)), ⟨rfl, rfl⟩, (List.nil_sublist _), (by simp)⟩
theorem sum_ok (l : List Blk) (hl : l.length ≤ 1000000) : AC Tryd.prog 38 [blksA l] [] (fun r n => n = [] ∧ r = .v (.int .u64 (sumF l : Nat))) := by
 refine ac_of_awp (rs := [2]) (nt := 27) Tryd.func38 rfl rfl rfl rfl (fun w0 C0 hq => ?_)
 refine awp_seq ?_
 refine awp_region ?_
 refine r_assign rfl rfl ?_
 refine awl_nil ?_
 refine x_then ?_
 refine awp_seq ?_
 refine awp_region ?_
 refine r_assign rfl rfl ?_
 refine awl_nil ?_
 refine x_then ?_
 refine awp_seq ?_
 refine awp_seq ?_
 refine awp_region ?_
 refine r_move rfl rfl ?_
 refine r_lenS rfl rfl TG.sl59 rfl ?_
 refine r_move rfl rfl ?_
 refine awl_nil ?_
 refine x_then ?_
 refine awp_block ?_
 refine awp_loop (fun nn0 S => ∃ k : Nat, S = ⟨27, [(3, .a (.v (.int .u64 (((sumF (l.take k) : Nat) : Int))))), (8, .a (blksA l)), (9, .a (.v (.int .i64 ((l.map blkC).length)))), (10, .a (.v (.int .i64 ((k : Int)))))], []⟩ ∧ nn0 = l.length - k ∧ (k ≤ l.length)) (l.length - (0)) ⟨27, [(3, .a (.v (.int .u64 (((sumF (l.take (0)) : Nat) : Int))))), (8, .a (blksA l)), (9, .a (.v (.int .i64 ((l.map blkC).length)))), (10, .a (.v (.int .i64 (((0) : Int)))))], []⟩ ⟨rfl, (Slots.cons rfl (by first | exact .refl _ | exact .nilOwn _ _ | exact .nilSl _ | exact .ownSl _ _ _  | exact SV.le.of_eq (by simp)) (Slots.cons rfl (by first | exact .refl _ | exact .nilOwn _ _ | exact .nilSl _ | exact .ownSl _ _ _  | exact SV.le.of_eq (by simp)) (Slots.cons rfl (by first | exact .refl _ | exact .nilOwn _ _ | exact .nilSl _ | exact .ownSl _ _ _  | exact SV.le.of_eq (by simp)) (Slots.cons rfl (by first | exact .refl _ | exact .nilOwn _ _ | exact .nilSl _ | exact .ownSl _ _ _  | exact SV.le.of_eq (by simp)) Slots.nil)))), (by first | exact List.Sublist.refl _ | exact .cons_cons _ (.cons _ (.refl _)) | exact List.nil_sublist _ | exact .cons _ (.refl _) | exact .cons _ (.cons _ (.refl _)) | exact .cons _ (.cons _ (.cons _ (.refl _))) | exact .cons _ (.cons _ (.cons _ (.cons _ (.refl _)))) | exact .cons_cons _ (List.nil_sublist _))⟩ ⟨0, rfl, rfl, Nat.zero_le _⟩ ?_
 rintro nn0 _ ⟨k, rfl, rfl, hk⟩
 refine awp_seq ?_
 refine awp_region ?_
 refine r_cmp rfl rfl rfl rfl ?_
 refine awl_nil ?_
 refine x_then ?_
 refine awp_seq ?_
 refine awp_cond rfl (fun hc0 => ?_) (fun hc0 => ?_)
 ·
  have hltx : k < l.length := by have := of_decide_eq_true hc0; simpa using this
  obtain ⟨x, hx⟩ := get_lt hltx
  refine awp_skip ?_
  refine x_then ?_
  refine awp_seq ?_
  refine awp_block ?_
  refine awp_seq ?_
  refine awp_region ?_
  refine r_index rfl rfl rfl TG.sl59 TG.sz33 (by omega) (get_map hx) rfl ?_
  refine r_loadA rfl TG.agg33 TG.sz33 rfl rfl ?_
  refine r_alloc TG.zero33 rfl (fun b5 => ?_)
  refine r_store 0 rfl rfl rfl TG.sz33 rfl rfl rfl ?_
  refine awl_nil ?_
  refine x_then ?_
  refine awp_seq ?_
  refine awp_region ?_
  refine r_loadAb 0 rfl rfl TG.agg33 TG.sz33 rfl rfl ?_
  refine r_move rfl rfl ?_
  refine awl_nil ?_
  refine x_then ?_
  refine awp_block ?_
  refine awp_loop (fun nn0 S => ∃ j : Nat, ∃ acc : Nat, S = ⟨27, [(3, .a (.v (.int .u64 (((acc : Nat) : Int))))), (8, .a (blksA l)), (9, .a (.v (.int .i64 ((l.map blkC).length)))), (10, .a (.v (.int .i64 ((k : Int))))), (14, .a (blkA x)), (15, .a (.v (.int .i64 ((j : Int)))))], []⟩ ∧ nn0 = 32 - j ∧ (j ≤ 32) ∧ (acc = (bpart x 0 j).foldl stepS (sumF (l.take k))) ∧ (acc < 65536)) (32 - (0)) ⟨27, [(3, .a (.v (.int .u64 (((((sumF (l.take k))) : Nat) : Int))))), (8, .a (blksA l)), (9, .a (.v (.int .i64 ((l.map blkC).length)))), (10, .a (.v (.int .i64 ((k : Int))))), (14, .a (blkA x)), (15, .a (.v (.int .i64 (((0) : Int)))))], []⟩ ⟨rfl, (Slots.cons rfl (by first | exact .refl _ | exact .nilOwn _ _ | exact .nilSl _ | exact .ownSl _ _ _  | exact SV.le.of_eq (by simp)) (Slots.cons rfl (by first | exact .refl _ | exact .nilOwn _ _ | exact .nilSl _ | exact .ownSl _ _ _  | exact SV.le.of_eq (by simp)) (Slots.cons rfl (by first | exact .refl _ | exact .nilOwn _ _ | exact .nilSl _ | exact .ownSl _ _ _  | exact SV.le.of_eq (by simp)) (Slots.cons rfl (by first | exact .refl _ | exact .nilOwn _ _ | exact .nilSl _ | exact .ownSl _ _ _  | exact SV.le.of_eq (by simp)) (Slots.cons rfl (by first | exact .refl _ | exact .nilOwn _ _ | exact .nilSl _ | exact .ownSl _ _ _  | exact SV.le.of_eq (by simp)) (Slots.cons rfl (by first | exact .refl _ | exact .nilOwn _ _ | exact .nilSl _ | exact .ownSl _ _ _  | exact SV.le.of_eq (by simp)) Slots.nil)))))), (by first | exact List.Sublist.refl _ | exact .cons_cons _ (.cons _ (.refl _)) | exact List.nil_sublist _ | exact .cons _ (.refl _) | exact .cons _ (.cons _ (.refl _)) | exact .cons _ (.cons _ (.cons _ (.refl _))) | exact .cons _ (.cons _ (.cons _ (.cons _ (.refl _)))) | exact .cons_cons _ (List.nil_sublist _))⟩ ⟨0, (sumF (l.take k)), rfl, rfl, Nat.zero_le _, rfl, (sum_lt _)⟩ ?_
  rintro nn0 _ ⟨j, acc, rfl, rfl, hj, hac, hal⟩
  refine awp_seq ?_
  refine awp_region ?_
  refine r_cmp rfl rfl rfl rfl ?_
  refine awl_nil ?_
  refine x_then ?_
  refine awp_seq ?_
  refine awp_cond rfl (fun hc1 => ?_) (fun hc1 => ?_)
  ·
   have hj32 : j < 32 := by have := of_decide_eq_true hc1; omega
   refine awp_skip ?_
   refine x_then ?_
   refine awp_seq ?_
   refine awp_block ?_
   refine awp_seq ?_
   refine awp_region ?_
   refine r_idxArr rfl rfl TG.un33 TG.sz5 TG.agg5 hj32 (blkC_at x hj32) rfl ?_
   refine r_assign rfl rfl ?_
   refine awl_nil ?_
   refine x_then ?_
   refine awp_region ?_
   refine r_move rfl rfl ?_
   refine r_ari _ rfl rfl rfl (wrapU_id (by omega)) rfl ?_
   refine r_move rfl rfl ?_
   refine r_conv _ rfl TG.un5 TG.un47 (wrapU_id (by have := (x.getD j 0).toNat_lt; omega)) rfl ?_
   refine r_ari _ rfl rfl rfl (wrapU_id (by have := (x.getD j 0).toNat_lt; omega)) rfl ?_
   refine r_div ((stepS acc (x.getD j 0) : Nat) : Int) rfl rfl (rem_some (by decide)) (by rw [Int.tmod_eq_emod_of_nonneg (by omega)]; unfold stepS; omega) rfl ?_
   refine r_assign rfl rfl ?_
   refine awl_nil ?_
   refine x_block ?_
   refine x_then ?_
   refine awp_region ?_
   refine r_ari _ rfl rfl rfl (wrap_id (by first | omega | (simp; omega))) rfl ?_
   refine r_move rfl rfl ?_
   refine awl_nil ?_
   refine x_then ?_
   refine ⟨32 - (j + 1), ⟨27, [(3, .a (.v (.int .u64 ((((stepS acc (x.getD j 0)) : Nat) : Int))))), (8, .a (blksA l)), (9, .a (.v (.int .i64 ((l.map blkC).length)))), (10, .a (.v (.int .i64 ((k : Int))))), (14, .a (blkA x)), (15, .a (.v (.int .i64 (((j + 1) : Int)))))], []⟩, ⟨rfl, (Slots.cons rfl (by first | exact .refl _ | exact .nilOwn _ _ | exact .nilSl _ | exact .ownSl _ _ _  | exact SV.le.of_eq (by simp)) (Slots.cons rfl (by first | exact .refl _ | exact .nilOwn _ _ | exact .nilSl _ | exact .ownSl _ _ _  | exact SV.le.of_eq (by simp)) (Slots.cons rfl (by first | exact .refl _ | exact .nilOwn _ _ | exact .nilSl _ | exact .ownSl _ _ _  | exact SV.le.of_eq (by simp)) (Slots.cons rfl (by first | exact .refl _ | exact .nilOwn _ _ | exact .nilSl _ | exact .ownSl _ _ _  | exact SV.le.of_eq (by simp)) (Slots.cons rfl (by first | exact .refl _ | exact .nilOwn _ _ | exact .nilSl _ | exact .ownSl _ _ _  | exact SV.le.of_eq (by simp)) (Slots.cons rfl (by first | exact .refl _ | exact .nilOwn _ _ | exact .nilSl _ | exact .ownSl _ _ _  | exact SV.le.of_eq (by simp)) Slots.nil)))))), (by first | exact List.Sublist.refl _ | exact .cons_cons _ (.cons _ (.refl _)) | exact List.nil_sublist _ | exact .cons _ (.refl _) | exact .cons _ (.cons _ (.refl _)) | exact .cons _ (.cons _ (.cons _ (.refl _))) | exact .cons _ (.cons _ (.cons _ (.cons _ (.refl _)))) | exact .cons_cons _ (List.nil_sublist _))⟩, (by omega), ⟨j + 1, stepS acc (x.getD j 0), rfl, rfl, (by omega), (by rw [bpart_step hj32, List.foldl_append, ← hac]; rfl), (stepS_lt _ _)⟩⟩
  ·
   have hj32 : j = 32 := by have := of_decide_eq_false hc1; omega
   subst hj32
   have hacc : rowS (sumF (l.take k)) x = acc := (rowS_def _ _).trans hac.symm
   refine awp_exit ?_
   refine x_thenE ?_
   refine x_thenE ?_
   refine x_blockE ?_
   refine x_block ?_
   refine x_then ?_
   refine awp_region ?_
   refine r_ari _ rfl rfl rfl (wrap_id (by first | omega | (simp; omega))) rfl ?_
   refine r_move rfl rfl ?_
   refine awl_nil ?_
   refine x_then ?_
   have hst : sumF (l.take (k + 1)) = acc := sum_step hx hacc
   refine ⟨l.length - (k + 1), ⟨27, [(3, .a (.v (.int .u64 (((sumF (l.take (k + 1)) : Nat) : Int))))), (8, .a (blksA l)), (9, .a (.v (.int .i64 ((l.map blkC).length)))), (10, .a (.v (.int .i64 (((k + 1) : Int)))))], []⟩, ⟨rfl, (Slots.cons rfl (by first | exact .refl _ | exact .nilOwn _ _ | exact .nilSl _ | exact .ownSl _ _ _  | exact SV.le.ownEq (by rw [hst]) | exact SV.le.of_eq (by rw [hst])) (Slots.cons rfl (by first | exact .refl _ | exact .nilOwn _ _ | exact .nilSl _ | exact .ownSl _ _ _  | exact SV.le.ownEq (by rw [hst]) | exact SV.le.of_eq (by rw [hst])) (Slots.cons rfl (by first | exact .refl _ | exact .nilOwn _ _ | exact .nilSl _ | exact .ownSl _ _ _  | exact SV.le.ownEq (by rw [hst]) | exact SV.le.of_eq (by rw [hst])) (Slots.cons rfl (by first | exact .refl _ | exact .nilOwn _ _ | exact .nilSl _ | exact .ownSl _ _ _  | exact SV.le.ownEq (by rw [hst]) | exact SV.le.of_eq (by rw [hst])) Slots.nil)))), (by first | exact List.Sublist.refl _ | exact .cons_cons _ (.cons _ (.refl _)) | exact List.nil_sublist _ | exact .cons _ (.refl _) | exact .cons _ (.cons _ (.refl _)) | exact .cons _ (.cons _ (.cons _ (.refl _))) | exact .cons _ (.cons _ (.cons _ (.cons _ (.refl _)))) | exact .cons_cons _ (List.nil_sublist _))⟩, (by omega), ⟨k + 1, rfl, rfl, (by omega)⟩⟩
 ·
  have hge : l.length ≤ k := by have := of_decide_eq_false hc0; simp at this; omega
  have hkl : l.take k = l := List.take_of_length_le hge
  refine awp_exit ?_
  refine x_thenE ?_
  refine x_thenE ?_
  refine x_blockE ?_
  refine x_then ?_
  refine awp_seq ?_
  refine awp_region ?_
  refine r_move rfl rfl ?_
  refine r_assign rfl rfl ?_
  refine awl_nil ?_
  refine x_then ?_
  refine awp_ret ?_
  exact ⟨(.inl rfl), _, [], (.one (by first | exact .mk rfl rfl | exact .nil rfl)), ⟨rfl, by rw [hkl]; rfl⟩, (List.nil_sublist _), (by simp)⟩
end Go.Proofs.YtcbhhjahjnlfhaaDoor.A
namespace Go.Proofs.YtcbhhjahjnlfhaaDoor.A
open Go Go.RowKit
set_option linter.unusedVariables false
set_option linter.unusedSimpArgs false
set_option maxRecDepth 100000
theorem TG.sl22 : sliceT Tryd.prog 22 = some 5 := by kernel_rfl
theorem TG.by5 : bytesT Tryd.prog 5 = some 1 := by kernel_rfl
theorem TG.zraw5 : zeroT Tryd.prog 5 = some [(.int .u8 0)] := by kernel_rfl
theorem TG.un3 : Tryd.prog.underlying 3 = some (.int .i64) := by kernel_rfl
theorem TG.un134 : Tryd.prog.underlying 134 = some (.int .u64) := by kernel_rfl
theorem TG.en75 : entersT Tryd.prog 75 := enters_of Tryd.func75 (by kernel_rfl) (by kernel_rfl)
theorem put2_ok (n : Nat) (hn : n < 65536) : AC Tryd.prog 60 [.v (.int .u64 (n : Int)), .v (.int .i64 ((2 : Nat) : Int))] [] (fun r n1 => n1 = [] ∧ r = bts (be2 n)) := by
 refine ac_of_awp (rs := [4]) (nt := 34) Tryd.func60 rfl rfl rfl rfl (fun w0 C0 hq => ?_)
 refine awp_seq ?_
 refine awp_region ?_
 refine r_assign rfl rfl ?_
 refine awl_nil ?_
 refine x_then ?_
 refine awp_seq ?_
 refine awp_seq ?_
 refine awp_region ?_
 refine r_move rfl rfl ?_
 refine r_cmp rfl rfl rfl rfl ?_
 refine r_move rfl rfl ?_
 refine g_run rfl rfl rfl ?_
 refine r_move rfl rfl ?_
 refine g_run rfl rfl rfl ?_
 refine r_cmp rfl rfl rfl rfl ?_
 refine r_pickF rfl rfl rfl rfl ?_
 refine awl_nil ?_
 refine x_then ?_
 refine awp_cond rfl (fun hc0 => ?_) (fun hc0 => ?_)
 ·
  exfalso; exact absurd hc0 (by decide)
 ·
  refine awp_skip ?_
  refine x_then ?_
  refine awp_seq ?_
  refine awp_region ?_
  refine r_move rfl rfl ?_
  refine r_makeSlice rfl rfl TG.sl22 TG.sz5 TG.by5 TG.zraw5 (by omega) (by omega) rfl (fun b14 => ?_)
  refine r_assign rfl rfl ?_
  refine awl_nil ?_
  refine x_then ?_
  refine awp_seq ?_
  refine awp_seq ?_
  refine awp_region ?_
  refine r_move rfl rfl ?_
  refine r_lenV rfl TG.sl22 rfl ?_
  refine r_move rfl rfl ?_
  refine awl_nil ?_
  refine x_then ?_
  refine awp_block ?_
  refine awp_loop (fun nn0 S => ∃ i : Nat, S = ⟨34, [(0, .a (.v (.int .u64 ((n : Int))))), (1, .a (.v (.int .i64 (((2 : Nat) : Int))))), (5, .a (.v (.slice (some ⟨b14, 0, none⟩) 2 2))), (15, .a (.v (.slice (some ⟨b14, 0, none⟩) 2 2))), (16, .a (.v (.int .i64 (((2 : Nat) : Int))))), (17, .a (.v (.int .i64 ((i : Int)))))], [⟨b14, true, .box (putC n i)⟩]⟩ ∧ nn0 = 2 - i ∧ (i ≤ 2)) (2 - (0)) ⟨34, [(0, .a (.v (.int .u64 ((n : Int))))), (1, .a (.v (.int .i64 (((2 : Nat) : Int))))), (5, .a (.v (.slice (some ⟨b14, 0, none⟩) 2 2))), (15, .a (.v (.slice (some ⟨b14, 0, none⟩) 2 2))), (16, .a (.v (.int .i64 (((2 : Nat) : Int))))), (17, .a (.v (.int .i64 (((0) : Int)))))], [⟨b14, true, .box (putC n (0))⟩]⟩ ⟨rfl, (Slots.cons rfl (by first | exact .refl _ | exact .nilOwn _ _ | exact .nilSl _ | exact .ownSl _ _ _  | exact SV.le.of_eq (by simp)) (Slots.cons rfl (by first | exact .refl _ | exact .nilOwn _ _ | exact .nilSl _ | exact .ownSl _ _ _  | exact SV.le.of_eq (by simp)) (Slots.cons rfl (by first | exact .refl _ | exact .nilOwn _ _ | exact .nilSl _ | exact .ownSl _ _ _  | exact SV.le.of_eq (by simp)) (Slots.cons rfl (by first | exact .refl _ | exact .nilOwn _ _ | exact .nilSl _ | exact .ownSl _ _ _  | exact SV.le.of_eq (by simp)) (Slots.cons rfl (by first | exact .refl _ | exact .nilOwn _ _ | exact .nilSl _ | exact .ownSl _ _ _  | exact SV.le.of_eq (by simp)) (Slots.cons rfl (by first | exact .refl _ | exact .nilOwn _ _ | exact .nilSl _ | exact .ownSl _ _ _  | exact SV.le.of_eq (by simp)) Slots.nil)))))), (by first | exact List.Sublist.refl _ | exact .cons_cons _ (.cons _ (.refl _)) | exact List.nil_sublist _ | exact .cons _ (.refl _) | exact .cons _ (.cons _ (.refl _)) | exact .cons _ (.cons _ (.cons _ (.refl _))) | exact .cons _ (.cons _ (.cons _ (.cons _ (.refl _)))) | exact .cons_cons _ (List.nil_sublist _))⟩ ⟨0, rfl, rfl, Nat.zero_le _⟩ ?_
  rintro nn0 _ ⟨i, rfl, rfl, hi⟩
  refine awp_seq ?_
  refine awp_region ?_
  refine r_cmp rfl rfl rfl rfl ?_
  refine awl_nil ?_
  refine x_then ?_
  refine awp_seq ?_
  refine awp_cond rfl (fun hc1 => ?_) (fun hc1 => ?_)
  ·
   have hi2 : i < 2 := by have := of_decide_eq_true hc1; omega
   refine awp_skip ?_
   refine x_then ?_
   refine awp_seq ?_
   refine awp_block ?_
   refine awp_seq ?_
   refine awp_region ?_
   refine r_move rfl rfl ?_
   rcases (show i = 0 ∨ i = 1 by omega) with rfl | rfl
   ·
    refine r_assign rfl rfl ?_
    refine awl_nil ?_
    refine x_then ?_
    refine awp_region ?_
    refine r_move rfl rfl ?_
    refine r_move rfl rfl ?_
    refine r_move rfl rfl ?_
    refine r_move rfl rfl ?_
    refine r_ari 1 rfl rfl rfl (wrap_id (by decide)) rfl ?_
    refine r_move rfl rfl ?_
    refine r_ari _ rfl rfl rfl (wrap_id (by decide)) rfl ?_
    refine r_conv _ rfl TG.un3 TG.un134 (wrap_u64 (by decide)) rfl ?_
    refine r_ari _ rfl rfl rfl (wrap_u64 (by decide)) rfl ?_
    refine r_sh ((n / 256 : Nat) : Int) rfl rfl (shr_some (by decide)) (shr8 n) rfl ?_
    refine r_conv (((n / 256).toUInt8).toNat : Int) rfl TG.un47 TG.un5 (hi_byte n hn) rfl ?_
    refine r_indexV rfl rfl TG.sl22 TG.sz5 (by decide) (by decide) rfl ?_
    refine r_store 0 rfl rfl rfl TG.sz5 rfl rfl rfl ?_
    refine awl_nil ?_
    refine x_block ?_
    refine x_then ?_
    refine awp_region ?_
    refine r_ari _ rfl rfl rfl (wrap_id (by first | omega | (simp; omega))) rfl ?_
    refine r_move rfl rfl ?_
    refine awl_nil ?_
    refine x_then ?_
    refine ⟨2 - (1), ⟨34, [(0, .a (.v (.int .u64 ((n : Int))))), (1, .a (.v (.int .i64 (((2 : Nat) : Int))))), (5, .a (.v (.slice (some ⟨b14, 0, none⟩) 2 2))), (15, .a (.v (.slice (some ⟨b14, 0, none⟩) 2 2))), (16, .a (.v (.int .i64 (((2 : Nat) : Int))))), (17, .a (.v (.int .i64 (((1) : Int)))))], [⟨b14, true, .box (putC n (1))⟩]⟩, ⟨rfl, (Slots.cons rfl (by first | exact .refl _ | exact .nilOwn _ _ | exact .nilSl _ | exact .ownSl _ _ _  | exact SV.le.of_eq (by simp)) (Slots.cons rfl (by first | exact .refl _ | exact .nilOwn _ _ | exact .nilSl _ | exact .ownSl _ _ _  | exact SV.le.of_eq (by simp)) (Slots.cons rfl (by first | exact .refl _ | exact .nilOwn _ _ | exact .nilSl _ | exact .ownSl _ _ _  | exact SV.le.of_eq (by simp)) (Slots.cons rfl (by first | exact .refl _ | exact .nilOwn _ _ | exact .nilSl _ | exact .ownSl _ _ _  | exact SV.le.of_eq (by simp)) (Slots.cons rfl (by first | exact .refl _ | exact .nilOwn _ _ | exact .nilSl _ | exact .ownSl _ _ _  | exact SV.le.of_eq (by simp)) (Slots.cons rfl (by first | exact .refl _ | exact .nilOwn _ _ | exact .nilSl _ | exact .ownSl _ _ _  | exact SV.le.of_eq (by simp)) Slots.nil)))))), (List.Sublist.refl _)⟩, (by omega), ⟨1, rfl, rfl, (by omega)⟩⟩
   ·
    refine r_assign rfl rfl ?_
    refine awl_nil ?_
    refine x_then ?_
    refine awp_region ?_
    refine r_move rfl rfl ?_
    refine r_move rfl rfl ?_
    refine r_move rfl rfl ?_
    refine r_move rfl rfl ?_
    refine r_ari 1 rfl rfl rfl (wrap_id (by decide)) rfl ?_
    refine r_move rfl rfl ?_
    refine r_ari _ rfl rfl rfl (wrap_id (by decide)) rfl ?_
    refine r_conv _ rfl TG.un3 TG.un134 (wrap_u64 (by decide)) rfl ?_
    refine r_ari _ rfl rfl rfl (wrap_u64 (by decide)) rfl ?_
    refine r_sh (n : Int) rfl rfl (shr_some (by decide)) (shr0 n) rfl ?_
    refine r_conv ((n.toUInt8).toNat : Int) rfl TG.un47 TG.un5 (lo_byte n hn) rfl ?_
    refine r_indexV rfl rfl TG.sl22 TG.sz5 (by decide) (by decide) rfl ?_
    refine r_store 0 rfl rfl rfl TG.sz5 rfl rfl rfl ?_
    refine awl_nil ?_
    refine x_block ?_
    refine x_then ?_
    refine awp_region ?_
    refine r_ari _ rfl rfl rfl (wrap_id (by first | omega | (simp; omega))) rfl ?_
    refine r_move rfl rfl ?_
    refine awl_nil ?_
    refine x_then ?_
    refine ⟨2 - (2), ⟨34, [(0, .a (.v (.int .u64 ((n : Int))))), (1, .a (.v (.int .i64 (((2 : Nat) : Int))))), (5, .a (.v (.slice (some ⟨b14, 0, none⟩) 2 2))), (15, .a (.v (.slice (some ⟨b14, 0, none⟩) 2 2))), (16, .a (.v (.int .i64 (((2 : Nat) : Int))))), (17, .a (.v (.int .i64 (((2) : Int)))))], [⟨b14, true, .box (putC n (2))⟩]⟩, ⟨rfl, (Slots.cons rfl (by first | exact .refl _ | exact .nilOwn _ _ | exact .nilSl _ | exact .ownSl _ _ _  | exact SV.le.of_eq (by simp)) (Slots.cons rfl (by first | exact .refl _ | exact .nilOwn _ _ | exact .nilSl _ | exact .ownSl _ _ _  | exact SV.le.of_eq (by simp)) (Slots.cons rfl (by first | exact .refl _ | exact .nilOwn _ _ | exact .nilSl _ | exact .ownSl _ _ _  | exact SV.le.of_eq (by simp)) (Slots.cons rfl (by first | exact .refl _ | exact .nilOwn _ _ | exact .nilSl _ | exact .ownSl _ _ _  | exact SV.le.of_eq (by simp)) (Slots.cons rfl (by first | exact .refl _ | exact .nilOwn _ _ | exact .nilSl _ | exact .ownSl _ _ _  | exact SV.le.of_eq (by simp)) (Slots.cons rfl (by first | exact .refl _ | exact .nilOwn _ _ | exact .nilSl _ | exact .ownSl _ _ _  | exact SV.le.of_eq (by simp)) Slots.nil)))))), (List.Sublist.refl _)⟩, (by omega), ⟨2, rfl, rfl, (by omega)⟩⟩
  ·
   obtain rfl : i = 2 := by have := of_decide_eq_false hc1; omega
   refine awp_exit ?_
   refine x_thenE ?_
   refine x_thenE ?_
   refine x_blockE ?_
   refine x_then ?_
   refine awp_seq ?_
   refine awp_region ?_
   refine awl_imp (imp_commitS 0 5 (l := u8s (be2 n)) (ext := []) rfl rfl (put_end n) rfl (Nat.le_refl _) (fun c hc => by obtain ⟨x, _, rfl⟩ := List.mem_map.1 hc; rfl) rfl rfl) ?_
   refine r_move rfl rfl ?_
   refine r_assign rfl rfl ?_
   refine awl_nil ?_
   refine x_then ?_
   refine awp_ret ?_
   exact ⟨(.inl rfl), _, [], (.one (by first | exact .mk rfl rfl | exact .nil rfl)), ⟨rfl, rfl⟩, (List.nil_sublist _), (by simp)⟩
theorem get2_ok (x y : UInt8) : AC Tryd.prog 37 [bts [x, y]] [] (fun r n => n = [] ∧ r = .tup [.v (.int .u64 (g2 x y : Nat)), .v (.bool true)]) := by
 refine ac_of_awp (rs := [2, 3]) (nt := 28) Tryd.func37 rfl rfl rfl rfl (fun w0 C0 hq => ?_)
 refine awp_seq ?_
 refine awp_region ?_
 refine r_assign rfl rfl ?_
 refine r_assign rfl rfl ?_
 refine awl_nil ?_
 refine x_then ?_
 refine awp_seq ?_
 refine awp_seq ?_
 refine awp_region ?_
 refine r_move rfl rfl ?_
 refine r_lenS rfl rfl TG.sl22 rfl ?_
 refine r_cmp rfl rfl rfl rfl ?_
 refine r_move rfl rfl ?_
 refine g_run rfl rfl rfl ?_
 refine r_move rfl rfl ?_
 refine g_run rfl rfl rfl ?_
 refine r_lenS rfl rfl TG.sl22 rfl ?_
 refine g_run rfl rfl rfl ?_
 refine r_cmp rfl rfl rfl rfl ?_
 refine r_pickF rfl rfl rfl rfl ?_
 refine awl_nil ?_
 refine x_then ?_
 refine awp_cond rfl (fun hc0 => ?_) (fun hc0 => ?_)
 ·
  exfalso; simp [u8s] at hc0
 ·
  refine awp_skip ?_
  refine x_then ?_
  refine awp_seq ?_
  refine awp_region ?_
  refine r_assign rfl rfl ?_
  refine awl_nil ?_
  refine x_then ?_
  refine awp_seq ?_
  refine awp_seq ?_
  refine awp_region ?_
  refine r_move rfl rfl ?_
  refine r_lenS rfl rfl TG.sl22 rfl ?_
  refine r_move rfl rfl ?_
  refine awl_nil ?_
  refine x_then ?_
  refine awp_block ?_
  refine awp_loop (fun nn0 S => ∃ i : Nat, ∃ acc : Nat, S = ⟨28, [(4, .a (.v (.int .u64 ((acc : Int))))), (15, .a (bts [x, y])), (16, .a (.v (.int .i64 (((2 : Nat) : Int))))), (17, .a (.v (.int .i64 ((i : Int)))))], []⟩ ∧ nn0 = 2 - i ∧ (i ≤ 2) ∧ (i = 0 → acc = 0) ∧ (i = 1 → acc = x.toNat) ∧ (i = 2 → acc = g2 x y)) (2 - (0)) ⟨28, [(4, .a (.v (.int .u64 (((0) : Int))))), (15, .a (bts [x, y])), (16, .a (.v (.int .i64 (((2 : Nat) : Int))))), (17, .a (.v (.int .i64 (((0) : Int)))))], []⟩ ⟨rfl, (Slots.cons rfl (by first | exact .refl _ | exact .nilOwn _ _ | exact .nilSl _ | exact .ownSl _ _ _  | exact SV.le.of_eq (by simp)) (Slots.cons rfl (by first | exact .refl _ | exact .nilOwn _ _ | exact .nilSl _ | exact .ownSl _ _ _  | exact SV.le.of_eq (by simp)) (Slots.cons rfl (by first | exact .refl _ | exact .nilOwn _ _ | exact .nilSl _ | exact .ownSl _ _ _  | exact SV.le.of_eq (by simp)) (Slots.cons rfl (by first | exact .refl _ | exact .nilOwn _ _ | exact .nilSl _ | exact .ownSl _ _ _  | exact SV.le.of_eq (by simp)) Slots.nil)))), (by first | exact List.Sublist.refl _ | exact .cons_cons _ (.cons _ (.refl _)) | exact List.nil_sublist _ | exact .cons _ (.refl _) | exact .cons _ (.cons _ (.refl _)) | exact .cons _ (.cons _ (.cons _ (.refl _))) | exact .cons _ (.cons _ (.cons _ (.cons _ (.refl _)))) | exact .cons_cons _ (List.nil_sublist _))⟩ ⟨0, 0, rfl, rfl, Nat.zero_le _, (fun _ => rfl), (fun h => by cases h), (fun h => by cases h)⟩ ?_
  rintro nn0 _ ⟨i, acc, rfl, rfl, hi, h0, h1, h2⟩
  refine awp_seq ?_
  refine awp_region ?_
  refine r_cmp rfl rfl rfl rfl ?_
  refine awl_nil ?_
  refine x_then ?_
  refine awp_seq ?_
  refine awp_cond rfl (fun hc1 => ?_) (fun hc1 => ?_)
  ·
   have hi2 : i < 2 := by have := of_decide_eq_true hc1; omega
   obtain ⟨z, hz⟩ := get_lt (l := [x, y]) (i := i) (by simpa using hi2)
   have hacc : acc < 65536 := by rcases (show i = 0 ∨ i = 1 by omega) with h | h; rw [h0 h]; decide; rw [h1 h]; have := x.toNat_lt; omega
   have hzl := z.toNat_lt
   refine awp_skip ?_
   refine x_then ?_
   refine awp_seq ?_
   refine awp_block ?_
   refine awp_seq ?_
   refine awp_region ?_
   refine r_index rfl rfl rfl TG.sl22 TG.sz5 (by omega) (get_map hz) rfl ?_
   refine r_load1 rfl TG.agg5 rfl ?_
   refine r_assign rfl rfl ?_
   refine awl_nil ?_
   refine x_then ?_
   refine awp_region ?_
   refine r_move rfl rfl ?_
   refine r_sh ((acc * 256 : Nat) : Int) rfl rfl (shl_some (by decide)) (by show IntKind.u64.wrap ((acc : Int) * 256) = _; rw [wrap_u64 (by omega)]; omega) rfl ?_
   refine r_move rfl rfl ?_
   refine r_conv _ rfl TG.un5 TG.un47 (wrap_u64 (by omega)) rfl ?_
   refine r_bits ((acc * 256 + z.toNat : Nat) : Int) rfl rfl rfl (or_byte (by omega) (by omega)) rfl ?_
   refine r_assign rfl rfl ?_
   refine awl_nil ?_
   refine x_block ?_
   refine x_then ?_
   refine awp_region ?_
   refine r_ari _ rfl rfl rfl (wrap_id (by first | omega | (simp; omega))) rfl ?_
   refine r_move rfl rfl ?_
   refine awl_nil ?_
   refine x_then ?_
   refine ⟨2 - (i + 1), ⟨28, [(4, .a (.v (.int .u64 ((((acc * 256 + z.toNat)) : Int))))), (15, .a (bts [x, y])), (16, .a (.v (.int .i64 (((2 : Nat) : Int))))), (17, .a (.v (.int .i64 (((i + 1) : Int)))))], []⟩, ⟨rfl, (Slots.cons rfl (by first | exact .refl _ | exact .nilOwn _ _ | exact .nilSl _ | exact .ownSl _ _ _  | exact SV.le.of_eq (by simp)) (Slots.cons rfl (by first | exact .refl _ | exact .nilOwn _ _ | exact .nilSl _ | exact .ownSl _ _ _  | exact SV.le.of_eq (by simp)) (Slots.cons rfl (by first | exact .refl _ | exact .nilOwn _ _ | exact .nilSl _ | exact .ownSl _ _ _  | exact SV.le.of_eq (by simp)) (Slots.cons rfl (by first | exact .refl _ | exact .nilOwn _ _ | exact .nilSl _ | exact .ownSl _ _ _  | exact SV.le.of_eq (by simp)) Slots.nil)))), (by first | exact List.Sublist.refl _ | exact .cons_cons _ (.cons _ (.refl _)) | exact List.nil_sublist _ | exact .cons _ (.refl _) | exact .cons _ (.cons _ (.refl _)) | exact .cons _ (.cons _ (.cons _ (.refl _))) | exact .cons _ (.cons _ (.cons _ (.cons _ (.refl _)))) | exact .cons_cons _ (List.nil_sublist _))⟩, (by omega), ⟨i + 1, (acc * 256 + z.toNat), rfl, rfl, (by omega), (fun h => by omega), (fun h => by have e : i = 0 := (by omega); subst e; simp at hz; rw [h0 rfl, ← hz]; omega), (fun h => by have e : i = 1 := (by omega); subst e; simp at hz; rw [h1 rfl, ← hz]; rfl)⟩⟩
  ·
   obtain rfl : i = 2 := by have := of_decide_eq_false hc1; omega
   obtain rfl := h2 rfl
   refine awp_exit ?_
   refine x_thenE ?_
   refine x_thenE ?_
   refine x_blockE ?_
   refine x_then ?_
   refine awp_seq ?_
   refine awp_region ?_
   refine r_move rfl rfl ?_
   refine r_assign rfl rfl ?_
   refine r_assign rfl rfl ?_
   refine awl_nil ?_
   refine x_then ?_
   refine awp_ret ?_
   exact ⟨(.inl rfl), _, [], (.two (by first | exact .mk rfl rfl | exact .nil rfl) (by first | exact .mk rfl rfl | exact .nil rfl)), ⟨rfl, rfl⟩, (List.nil_sublist _), (by simp)⟩
theorem cnt_ext : countT Tryd.prog 96 := fun args w => run_callFunc_extern Tryd.func96 (by kernel_rfl) (by kernel_rfl) (by kernel_rfl) (by kernel_rfl) args w
theorem idx_ext : indexByteT Tryd.prog 98 := fun args w => run_callFunc_extern Tryd.func98 (by kernel_rfl) (by kernel_rfl) (by kernel_rfl) (by kernel_rfl) args w
theorem count_ok (l : List UInt8) : AC Tryd.prog 75 [bts l, bts [0]] [] (fun r n => n = [] ∧ r = .v (.int .i64 (l.count 0 : Nat))) := by
 refine ac_of_awp (rs := [4]) (nt := 35) Tryd.func75 rfl rfl rfl rfl (fun w0 C0 hq => ?_)
 refine awp_seq ?_
 refine awp_region ?_
 refine r_assign rfl rfl ?_
 refine awl_nil ?_
 refine x_then ?_
 refine awp_seq ?_
 refine awp_seq ?_
 refine awp_region ?_
 refine r_move rfl rfl ?_
 refine r_lenS rfl rfl TG.sl22 rfl ?_
 refine r_cmp rfl rfl rfl rfl ?_
 refine awl_nil ?_
 refine x_then ?_
 refine awp_cond rfl (fun hc0 => ?_) (fun hc0 => ?_)
 ·
  exfalso; exact absurd hc0 (by decide)
 ·
  refine awp_skip ?_
  refine x_then ?_
  refine awp_seq ?_
  refine awp_seq ?_
  refine awp_region ?_
  refine r_move rfl rfl ?_
  refine r_lenS rfl rfl TG.sl22 rfl ?_
  refine r_cmp rfl rfl rfl rfl ?_
  refine awl_nil ?_
  refine x_then ?_
  refine awp_cond rfl (fun hc1 => ?_) (fun hc1 => ?_)
  ·
   refine awp_seq ?_
   refine awp_region ?_
   refine r_move rfl rfl ?_
   refine r_move rfl rfl ?_
   refine r_index rfl rfl rfl TG.sl22 TG.sz5 (by decide) rfl rfl ?_
   refine r_load1 rfl TG.agg5 rfl ?_
   refine r_countB (l := l) (c := 0) cnt_ext rfl rfl rfl rfl ?_
   refine r_assign rfl rfl ?_
   refine awl_nil ?_
   refine x_then ?_
   refine awp_ret ?_
   refine x_thenR ?_
   exact ⟨(.inl rfl), _, [], (.one (by first | exact .mk rfl rfl | exact .nil rfl)), ⟨rfl, rfl⟩, (List.nil_sublist _), (by simp)⟩
  ·
   exfalso; exact absurd hc1 (by decide)
theorem nought_ok (l : List UInt8) : AC Tryd.prog 36 [bts l] [] (fun r n => n = [] ∧ r = boolA (noughtS l)) := by
 refine ac_of_awp (rs := [2]) (nt := 9) Tryd.func36 rfl rfl rfl rfl (fun w0 C0 hq => ?_)
 refine awp_seq ?_
 refine awp_region ?_
 refine r_assign rfl rfl ?_
 refine awl_nil ?_
 refine x_then ?_
 refine awp_seq ?_
 refine awp_region ?_
 refine r_move rfl rfl ?_
 refine r_lit 4 (parts := [(0, .const ((Go.Value.int Go.IntKind.u8 0)))]) rfl TG.sl22 TG.sz5 TG.zraw5 rfl rfl rfl rfl rfl rfl rfl ?_
 refine r_call0 hq rfl rfl (.cons (.ev rfl rfl) (.cons (.ev rfl rfl) .nil)) (count_ok l) rfl TG.en75 rfl (fun r hr => ?_)
 obtain rfl := hr
 refine r_move rfl rfl ?_
 refine r_lenS rfl rfl TG.sl22 rfl ?_
 refine r_cmp rfl rfl rfl rfl ?_
 refine r_assign rfl rfl ?_
 refine awl_nil ?_
 refine x_then ?_
 refine awp_ret ?_
 exact ⟨(.inl rfl), _, [], (.one (by first | exact .mk rfl rfl | exact .nil rfl)), ⟨rfl, by rw [← nought_count]; show AV.v (.bool _) = AV.v (.bool _); congr 2; rw [u8sL]; rw [Bool.eq_iff_iff]; simp only [beq_iff_eq]; omega⟩, (List.nil_sublist _), (by simp)⟩
theorem indexByte_ok (l : List UInt8) (c : UInt8) : AC Tryd.prog 76 [bts l, .v (.int .u8 c.toNat)] [] (fun r n => n = [] ∧ r = .v (.int .i64 (Lib.indexByte l c))) := by
 refine ac_of_awp (rs := [4]) (nt := 8) Tryd.func76 rfl rfl rfl rfl (fun w0 C0 hq => ?_)
 refine awp_seq ?_
 refine awp_region ?_
 refine r_assign rfl rfl ?_
 refine awl_nil ?_
 refine x_then ?_
 refine awp_seq ?_
 refine awp_region ?_
 refine r_move rfl rfl ?_
 refine r_move rfl rfl ?_
 refine r_indexB (l := l) (c := c) idx_ext rfl rfl rfl rfl ?_
 refine r_assign rfl rfl ?_
 refine awl_nil ?_
 refine x_then ?_
 refine awp_ret ?_
 exact ⟨(.inl rfl), _, [], (.one (by first | exact .mk rfl rfl | exact .nil rfl)), ⟨rfl, rfl⟩, (List.nil_sublist _), (by simp)⟩
end Go.Proofs.YtcbhhjahjnlfhaaDoor.A
namespace Go.Proofs.YtcbhhjahjnlfhaaDoor.A
open Go Go.RowKit
set_option linter.unusedVariables false
set_option linter.unusedSimpArgs false
set_option maxRecDepth 100000
theorem TG.en76 : entersT Tryd.prog 76 := enters_of Tryd.func76 (by kernel_rfl) (by kernel_rfl)
theorem TG.en37 : entersT Tryd.prog 37 := enters_of Tryd.func37 (by kernel_rfl) (by kernel_rfl)
theorem TG.mixed : Tryd.prog.follows .mixedOrders = true := by kernel_rfl
theorem TG.en36 : entersT Tryd.prog 36 := enters_of Tryd.func36 (by kernel_rfl) (by kernel_rfl)
theorem TG.f26_0 : fieldT Tryd.prog 26 0 = some (0, 9) := by kernel_rfl
theorem TG.sz9 : szT Tryd.prog 9 = some 1 := by kernel_rfl
theorem TG.agg9 : aggT Tryd.prog 9 = some false := by kernel_rfl
theorem TG.en99 : entersT Tryd.prog 99 := enters_of Tryd.func99 (by kernel_rfl) (by kernel_rfl)
theorem TG.f26_1 : fieldT Tryd.prog 26 1 = some (1, 22) := by kernel_rfl
theorem TG.sz22 : szT Tryd.prog 22 = some 1 := by kernel_rfl
theorem TG.agg22 : aggT Tryd.prog 22 = some false := by kernel_rfl
theorem TG.sl24 : sliceT Tryd.prog 24 = some 26 := by kernel_rfl
theorem TG.sz26 : szT Tryd.prog 26 = some 2 := by kernel_rfl
theorem TG.agg26 : aggT Tryd.prog 26 = some true := by kernel_rfl
theorem TG.zero26 : ZeroT Tryd.prog 26 [.v (.string ⟨#[]⟩), .sl 1 []] := ⟨[(.string ⟨#[]⟩), (.slice none 0 0)], by kernel_rfl, (.cons (.refl _) (.cons (.nil 1) .nil))⟩
theorem TG.en77 : entersT Tryd.prog 77 := enters_of Tryd.func77 (by kernel_rfl) (by kernel_rfl)
theorem TG.map100 : mapT Tryd.prog 100 = some (9, 4) := by kernel_rfl
theorem TG.zav4 : ZeroAV Tryd.prog 4 (.v (.bool false)) := ⟨.v (.bool false), by kernel_rfl, .one (.refl _)⟩
set_option maxHeartbeats 1000000 in
theorem entryG_ok (b : Blk) (n : Nat) (hn : n ≤ 12) (hix : Lib.indexByte (bpart b 0 12) 0 = if n < 12 then (n : Int) else -1) (x1 x2 y1 y2 : UInt8) (h12 : bpart b 12 14 = [x1, x2]) (h14 : bpart b 14 16 = [y1, y2]) (hz1 : noughtS (bpart b n 12) = true) (hz2 : noughtS (bpart b 16 32) = true) : AC Tryd.prog 39 [blkA b] [] (fun r n1 => n1 = [] ∧ r = .tup [.v (.string ⟨(bpart b 0 n).toArray⟩), .v (.int .i64 (g2 x1 x2 : Nat)), .v (.int .i64 (g2 y1 y2 : Nat)), .v (.bool true)]) := by
 refine ac_of_awp (rs := [2, 3, 4, 5]) (nt := 39) Tryd.func39 rfl rfl rfl rfl (fun w0 C0 hq => ?_)
 refine awp_seq ?_
 refine awp_region ?_
 refine r_box rfl rfl rfl (fun b1 => ?_)
 refine r_assign rfl rfl ?_
 refine r_assign rfl rfl ?_
 refine r_assign rfl rfl ?_
 refine r_assign rfl rfl ?_
 refine awl_nil ?_
 refine x_then ?_
 refine awp_seq ?_
 refine awp_region ?_
 refine awl_imp (imp_commit 0 1 rfl rfl rfl rfl) ?_
 refine r_arrC (u8s (bpart b 0 12)) (arr_part b 0 12) rfl TG.un33 TG.sz5 rfl .none (.some rfl) (by omega) (by omega) rfl ?_
 refine r_call0 hq rfl rfl (.cons (.ev rfl rfl) (.cons (.ev rfl rfl) .nil)) (indexByte_ok (bpart b 0 12) 0) rfl TG.en76 rfl (fun r hr => ?_)
 rw [hix] at hr
 obtain rfl := hr
 refine r_assign rfl rfl ?_
 refine awl_nil ?_
 refine x_then ?_
 refine awp_cut (fun S => S = ⟨39, [(1, .a (.cp (blkC b))), (6, .a (.v (.int .i64 ((n : Int)))))], []⟩) ?_ ?_
 ·
  refine awp_seq ?_
  refine awp_region ?_
  refine r_move rfl rfl ?_
  refine r_cmp rfl rfl rfl rfl ?_
  refine awl_nil ?_
  refine x_then ?_
  refine awp_cond rfl (fun hc0 => ?_) (fun hc0 => ?_)
  ·
   have he0 : (12 : Int) = (n : Int) := by have := of_decide_eq_true hc0; split at this <;> omega
   refine awp_region ?_
   refine r_assign rfl rfl ?_
   refine awl_nil ?_
   refine x_then ?_
   refine ⟨⟨39, [(1, .a (.cp (blkC b))), (6, .a (.v (.int .i64 ((n : Int)))))], []⟩, ⟨rfl, (Slots.cons rfl (by first | exact .refl _ | exact .nilOwn _ _ | exact .nilSl _ | exact .ownSl _ _ _  | exact SV.le.ownEq (by rw [he0]) | exact SV.le.of_eq (by rw [he0])) (Slots.cons rfl (by first | exact .refl _ | exact .nilOwn _ _ | exact .nilSl _ | exact .ownSl _ _ _  | exact SV.le.ownEq (by rw [he0]) | exact SV.le.of_eq (by rw [he0])) Slots.nil)), (by first | exact List.Sublist.refl _ | exact .cons_cons _ (.cons _ (.refl _)) | exact List.nil_sublist _ | exact .cons _ (.refl _) | exact .cons _ (.cons _ (.refl _)) | exact .cons _ (.cons _ (.cons _ (.refl _))) | exact .cons _ (.cons _ (.cons _ (.cons _ (.refl _)))) | exact .cons_cons _ (List.nil_sublist _))⟩, rfl⟩
  ·
   have he0 : (if n < 12 then (n : Int) else -1) = (n : Int) := by have := of_decide_eq_false hc0; split at this <;> simp_all
   refine awp_skip ?_
   refine x_then ?_
   refine ⟨⟨39, [(1, .a (.cp (blkC b))), (6, .a (.v (.int .i64 ((n : Int)))))], []⟩, ⟨rfl, (Slots.cons rfl (by first | exact .refl _ | exact .nilOwn _ _ | exact .nilSl _ | exact .ownSl _ _ _  | exact SV.le.ownEq (by rw [he0]) | exact SV.le.of_eq (by rw [he0])) (Slots.cons rfl (by first | exact .refl _ | exact .nilOwn _ _ | exact .nilSl _ | exact .ownSl _ _ _  | exact SV.le.ownEq (by rw [he0]) | exact SV.le.of_eq (by rw [he0])) Slots.nil)), (by first | exact List.Sublist.refl _ | exact .cons_cons _ (.cons _ (.refl _)) | exact List.nil_sublist _ | exact .cons _ (.refl _) | exact .cons _ (.cons _ (.refl _)) | exact .cons _ (.cons _ (.cons _ (.refl _))) | exact .cons _ (.cons _ (.cons _ (.cons _ (.refl _)))) | exact .cons_cons _ (List.nil_sublist _))⟩, rfl⟩
 ·
  rintro _ ⟨rfl⟩
  refine awp_seq ?_
  refine awp_region ?_
  refine r_arrC (u8s (bpart b 12 14)) (arr_part b 12 14) rfl TG.un33 TG.sz5 rfl (.some rfl) (.some rfl) (by omega) (by omega) rfl ?_
  rw [h12]
  refine r_call0 hq rfl rfl (.cons (.ev rfl rfl) .nil) (get2_ok x1 x2) rfl TG.en37 rfl (fun r hr => ?_)
  obtain rfl := hr
  refine r_move rfl rfl ?_
  refine r_extract rfl rfl rfl ?_
  refine r_extract rfl rfl rfl ?_
  refine r_assign rfl rfl ?_
  refine r_assign rfl rfl ?_
  refine awl_nil ?_
  refine x_then ?_
  refine awp_seq ?_
  refine awp_region ?_
  refine r_arrC (u8s (bpart b 14 16)) (arr_part b 14 16) rfl TG.un33 TG.sz5 rfl (.some rfl) (.some rfl) (by omega) (by omega) rfl ?_
  rw [h14]
  refine r_call0 hq rfl rfl (.cons (.ev rfl rfl) .nil) (get2_ok y1 y2) rfl TG.en37 rfl (fun r hr => ?_)
  obtain rfl := hr
  refine r_move rfl rfl ?_
  refine r_extract rfl rfl rfl ?_
  refine r_extract rfl rfl rfl ?_
  refine r_assign rfl rfl ?_
  refine r_assign rfl rfl ?_
  refine awl_nil ?_
  refine x_then ?_
  refine awp_seq ?_
  refine awp_drawS [25, 26, 27, 28, 29, 30, 31, 32, 33, 34, 35, 36, 37, 38, 2, 3, 4] [_, _, _, _, _, _, _, _, _, _, _, _, _, _, _, _, _] [] [] TG.mixed rfl rfl rfl ⟨⟨⟨⟨⟨⟨⟨⟨⟨⟨⟨⟨⟨⟨⟨⟨⟨trivial
   , ⟨_, rfl, fun sl hd hr ho => by
     refine r_move (hr 6 _ rfl rfl rfl) rfl ?_
     exact awl_nil ⟨rfl, post_put⟩⟩⟩
   , ⟨_, rfl, fun sl hd hr ho => by
     refine r_arrC (u8s (bpart b 0 n)) (arr_part b 0 n) (hr 1 _ rfl rfl rfl) TG.un33 TG.sz5 rfl .none (.some (hd 0 _ rfl rfl rfl)) (by omega) (by omega) rfl ?_
     exact awl_nil ⟨rfl, post_put⟩⟩⟩
   , ⟨_, rfl, fun sl hd hr ho => by
     refine r_convBS (bpart b 0 n) (hd 1 _ rfl rfl rfl) rfl TG.sl22 TG.un5 TG.un9 rfl ?_
     exact awl_nil ⟨rfl, post_put⟩⟩⟩
   , ⟨_, rfl, fun sl hd hr ho => by
     refine r_move (hr 7 _ rfl rfl rfl) rfl ?_
     exact awl_nil ⟨rfl, post_put⟩⟩⟩
   , ⟨_, rfl, fun sl hd hr ho => by
     refine r_conv ((g2 x1 x2 : Nat) : Int) (hd 3 _ rfl rfl rfl) TG.un47 TG.un3 (wrap_id (by have := g2_lt x1 x2; omega)) rfl ?_
     exact awl_nil ⟨rfl, post_put⟩⟩⟩
   , ⟨_, rfl, fun sl hd hr ho => by
     refine r_move (hr 9 _ rfl rfl rfl) rfl ?_
     exact awl_nil ⟨rfl, post_put⟩⟩⟩
   , ⟨_, rfl, fun sl hd hr ho => by
     refine r_conv ((g2 y1 y2 : Nat) : Int) (hd 5 _ rfl rfl rfl) TG.un47 TG.un3 (wrap_id (by have := g2_lt y1 y2; omega)) rfl ?_
     exact awl_nil ⟨rfl, post_put⟩⟩⟩
   , ⟨_, rfl, fun sl hd hr ho => by
     refine r_move (hr 6 _ rfl rfl rfl) rfl ?_
     exact awl_nil ⟨rfl, post_put⟩⟩⟩
   , ⟨_, rfl, fun sl hd hr ho => by
     refine r_arrC (u8s (bpart b n 12)) (arr_part b n 12) (hr 1 _ rfl rfl rfl) TG.un33 TG.sz5 rfl (.some (hd 7 _ rfl rfl rfl)) (.some rfl) (by omega) (by omega) rfl ?_
     exact awl_nil ⟨rfl, post_put⟩⟩⟩
   , ⟨_, rfl, fun sl hd hr ho => by
     refine r_call0 hq rfl rfl (.cons (.ev (hd 8 _ rfl rfl rfl) rfl) .nil) (nought_ok (bpart b n 12)) rfl TG.en36 rfl (fun r hr => ?_)
     rw [hz1] at hr
     obtain rfl := hr
     exact awl_nil ⟨rfl, post_put⟩⟩⟩
   , ⟨_, rfl, fun sl hd hr ho => by
     refine r_move (hd 9 _ rfl rfl rfl) rfl ?_
     exact awl_nil ⟨rfl, post_put⟩⟩⟩
   , ⟨_, rfl, fun sl hd hr ho => by
     refine g_run rfl (hd 10 _ rfl rfl rfl) rfl ?_
     refine r_arrC (u8s (bpart b 16 32)) (arr_part b 16 32) (hr 1 _ rfl rfl rfl) TG.un33 TG.sz5 rfl (.some rfl) .none (by omega) (by omega) rfl ?_
     exact awl_nil ⟨rfl, post_put⟩⟩⟩
   , ⟨_, rfl, fun sl hd hr ho => by
     refine g_run rfl (hd 10 _ rfl rfl rfl) rfl ?_
     refine r_call0 hq rfl rfl (.cons (.ev (hd 11 _ rfl rfl rfl) rfl) .nil) (nought_ok (bpart b 16 32)) rfl TG.en36 rfl (fun r hr => ?_)
     rw [hz2] at hr
     obtain rfl := hr
     exact awl_nil ⟨rfl, post_put⟩⟩⟩
   , ⟨_, rfl, fun sl hd hr ho => by
     refine r_pickT (hd 10 _ rfl rfl rfl) rfl (hd 12 _ rfl rfl rfl) rfl ?_
     exact awl_nil ⟨rfl, post_put⟩⟩⟩
   , ⟨_, rfl, fun sl hd hr ho => by
     refine r_assign (hd 2 _ rfl rfl rfl) rfl ?_
     exact awl_nil ⟨rfl, post_put⟩⟩⟩
   , ⟨_, rfl, fun sl hd hr ho => by
     refine r_assign (hd 4 _ rfl rfl rfl) rfl ?_
     exact awl_nil ⟨rfl, post_put⟩⟩⟩
   , ⟨_, rfl, fun sl hd hr ho => by
     refine r_assign (hd 6 _ rfl rfl rfl) rfl ?_
     exact awl_nil ⟨rfl, post_put⟩⟩⟩
   (by rfl) ?_
  refine r_assign rfl rfl ?_
  refine awl_nil ?_
  refine x_then ?_
  refine awp_ret ?_
  exact ⟨(.inl rfl), _, [], (.four (by first | exact .mk rfl rfl | exact .nil rfl) (by first | exact .mk rfl rfl | exact .nil rfl) (by first | exact .mk rfl rfl | exact .nil rfl) (by first | exact .mk rfl rfl | exact .nil rfl)), ⟨rfl, rfl⟩, (List.nil_sublist _), (by simp)⟩
theorem right_fs_ok (f : File) (hs : f.name.size ≤ 1000000) : AC Tryd.prog 77 [.agg (File.cs f)] [] (fun r n => n = [] ∧ r = boolA (rightS f)) := by
 refine ac_of_awp (rs := [2]) (nt := 12) Tryd.func77 rfl rfl rfl rfl (fun w0 C0 hq => ?_)
 refine awp_seq ?_
 refine awp_region ?_
 refine r_box rfl rfl rfl (fun b1 => ?_)
 refine r_assign rfl rfl ?_
 refine awl_nil ?_
 refine x_then ?_
 refine awp_seq ?_
 refine awp_region ?_
 refine r_fieldb rfl TG.f26_0 TG.sz9 rfl ?_
 refine r_load1b 0 rfl rfl rfl TG.agg9 rfl ?_
 refine r_call0 hq rfl rfl (.cons (.ev rfl rfl) .nil) (named_fs_ok f.name hs) rfl TG.en99 rfl (fun r hr => ?_)
 obtain rfl := hr
 refine r_move rfl rfl ?_
 refine g_cases (t' := 6) rfl (fun hg6 => ?_) (fun hg6 => ?_)
 ·
  have hnm : namedS f.name = true := hg6
  refine g_run rfl rfl hg6 ?_
  refine r_fieldb rfl TG.f26_1 TG.sz22 rfl ?_
  refine g_run rfl rfl hg6 ?_
  refine r_load1b 0 rfl rfl rfl TG.agg22 rfl ?_
  refine g_run rfl rfl hg6 ?_
  refine r_lenS rfl rfl TG.sl22 rfl ?_
  refine g_run rfl rfl hg6 ?_
  refine r_cmp rfl rfl rfl rfl ?_
  refine r_pickT rfl hg6 rfl rfl ?_
  refine r_assign rfl rfl ?_
  refine awl_nil ?_
  refine x_then ?_
  refine awp_ret ?_
  exact ⟨(.inl rfl), _, [], (.one (by first | exact .mk rfl rfl | exact .nil rfl)), ⟨rfl, by rw [rightS, hnm]; first | rfl | (simp [boolA, SV.av, u8s]; done) | (simp [boolA, SV.av, u8s]; omega)⟩, (List.nil_sublist _), (by simp)⟩
 ·
  have hnm : namedS f.name = false := hg6
  refine g_skip rfl rfl hg6 rfl ?_
  refine g_skip rfl rfl hg6 rfl ?_
  refine g_skip rfl rfl hg6 rfl ?_
  refine g_skip rfl rfl hg6 rfl ?_
  refine r_pickF rfl hg6 rfl rfl ?_
  refine r_assign rfl rfl ?_
  refine awl_nil ?_
  refine x_then ?_
  refine awp_ret ?_
  exact ⟨(.inl rfl), _, [], (.one (by first | exact .mk rfl rfl | exact .nil rfl)), ⟨rfl, by rw [rightS, hnm]; first | rfl | (simp [boolA, SV.av, u8s]; done) | (simp [boolA, SV.av, u8s]; omega)⟩, (List.nil_sublist _), (by simp)⟩
theorem together_ok (l : List File) (hl : l.length ≤ 1000000) (hs : ∀ f ∈ l, f.name.size ≤ 1000000) : AC Tryd.prog 41 [files l] [] (fun r n => n = [] ∧ r = boolA (togetherS l)) := by
 refine ac_of_awp (rs := [2]) (nt := 26) Tryd.func41 rfl rfl rfl rfl (fun w0 C0 hq => ?_)
 refine awp_seq ?_
 refine awp_region ?_
 refine r_assign rfl rfl ?_
 refine awl_nil ?_
 refine x_then ?_
 refine awp_seq ?_
 refine awp_region ?_
 refine r_makeMap (ek := Value.string) (ev := boolA) [] rfl rfl (fun b6 => ?_)
 refine r_assign rfl rfl ?_
 refine awl_nil ?_
 refine x_then ?_
 refine awp_seq ?_
 refine awp_seq ?_
 refine awp_region ?_
 refine r_move rfl rfl ?_
 refine r_lenS rfl rfl TG.sl24 rfl ?_
 refine r_move rfl rfl ?_
 refine awl_nil ?_
 refine x_then ?_
 refine awp_block ?_
 refine awp_loop (fun nn0 S => ∃ k : Nat, ∃ m : List (ByteArray × Bool), S = ⟨26, [(3, .a (.v (.map (some b6)))), (7, .a (files l)), (8, .a (.v (.int .i64 ((l.map File.cs).length)))), (9, .a (.v (.int .i64 ((k : Int)))))], [⟨b6, true, .map (encM Value.string boolA m)⟩]⟩ ∧ nn0 = l.length - k ∧ (k ≤ l.length) ∧ ((l.take k).all rightS = true) ∧ (((l.take k).map (·.name)).Nodup) ∧ (HasN m ((l.take k).map (·.name)))) (l.length - (0)) ⟨26, [(3, .a (.v (.map (some b6)))), (7, .a (files l)), (8, .a (.v (.int .i64 ((l.map File.cs).length)))), (9, .a (.v (.int .i64 (((0) : Int)))))], [⟨b6, true, .map (encM Value.string boolA ([]))⟩]⟩ ⟨rfl, (Slots.cons rfl (by first | exact .refl _ | exact .nilOwn _ _ | exact .nilSl _ | exact .ownSl _ _ _  | exact SV.le.of_eq (by simp)) (Slots.cons rfl (by first | exact .refl _ | exact .nilOwn _ _ | exact .nilSl _ | exact .ownSl _ _ _  | exact SV.le.of_eq (by simp)) (Slots.cons rfl (by first | exact .refl _ | exact .nilOwn _ _ | exact .nilSl _ | exact .ownSl _ _ _  | exact SV.le.of_eq (by simp)) (Slots.cons rfl (by first | exact .refl _ | exact .nilOwn _ _ | exact .nilSl _ | exact .ownSl _ _ _  | exact SV.le.of_eq (by simp)) Slots.nil)))), (by first | exact List.Sublist.refl _ | exact .cons_cons _ (.cons _ (.refl _)) | exact List.nil_sublist _ | exact .cons _ (.refl _) | exact .cons _ (.cons _ (.refl _)) | exact .cons _ (.cons _ (.cons _ (.refl _))) | exact .cons _ (.cons _ (.cons _ (.cons _ (.refl _)))) | exact .cons_cons _ (List.nil_sublist _))⟩ ⟨0, [], rfl, rfl, Nat.zero_le _, rfl, (by simp), hasN_nil⟩ ?_
 rintro nn0 _ ⟨k, m, rfl, rfl, hk, ha, hnd, hm⟩
 refine awp_seq ?_
 refine awp_region ?_
 refine r_cmp rfl rfl rfl rfl ?_
 refine awl_nil ?_
 refine x_then ?_
 refine awp_seq ?_
 refine awp_cond rfl (fun hc0 => ?_) (fun hc0 => ?_)
 ·
  have hltx : k < l.length := by have := of_decide_eq_true hc0; simpa using this
  obtain ⟨x, hx⟩ := get_lt hltx
  have hsx := hs x (List.mem_of_getElem? hx)
  refine awp_skip ?_
  refine x_then ?_
  refine awp_seq ?_
  refine awp_block ?_
  refine awp_seq ?_
  refine awp_region ?_
  refine r_index rfl rfl rfl TG.sl24 TG.sz26 (by omega) (get_map hx) rfl ?_
  refine r_loadA rfl TG.agg26 TG.sz26 rfl rfl ?_
  refine r_alloc TG.zero26 rfl (fun b5 => ?_)
  refine r_store 0 rfl rfl rfl TG.sz26 rfl rfl rfl ?_
  refine awl_nil ?_
  refine x_then ?_
  refine awp_seq ?_
  refine awp_seq ?_
  refine awp_region ?_
  refine r_loadAb 0 rfl rfl TG.agg26 TG.sz26 rfl rfl ?_
  refine r_call0 hq rfl rfl (.cons (.ev rfl rfl) .nil) (right_fs_ok x hsx) rfl TG.en77 rfl (fun r hr => ?_)
  obtain rfl := hr
  refine r_not rfl rfl ?_
  refine r_move rfl rfl ?_
  refine g_cases (t' := 16) rfl (fun hg16 => ?_) (fun hg16 => ?_)
  ·
   have hrx : rightS x = false := by simpa using hg16
   refine g_skip rfl rfl hg16 rfl ?_
   refine g_skip rfl rfl hg16 rfl ?_
   refine g_skip rfl rfl hg16 rfl ?_
   refine g_skip rfl rfl hg16 rfl ?_
   refine r_pickT rfl hg16 rfl rfl ?_
   refine awl_nil ?_
   refine x_then ?_
   refine awp_condT rfl ?_
   have hbad : togetherS l = false := by first | exact tog_bad hx hrx | exact tog_dup hx ((hm x.name).1 (by simpa using hc1))
   refine awp_seq ?_
   refine awp_region ?_
   refine r_assign rfl rfl ?_
   refine awl_nil ?_
   refine x_then ?_
   refine awp_ret ?_
   refine x_thenR ?_
   refine x_blockR ?_
   refine x_thenR ?_
   refine x_thenR ?_
   refine x_blockR ?_
   refine x_thenR ?_
   exact ⟨(.inl rfl), _, [], (.one (by first | exact .mk rfl rfl | exact .nil rfl)), ⟨rfl, by first | (rw [hbad]; done) | (rw [hbad]; rfl) | (rw [tog_good ha hnd]; rfl)⟩, (List.nil_sublist _), (by simp)⟩
  ·
   have hrx : rightS x = true := by simpa using hg16
   refine g_run rfl rfl hg16 ?_
   refine r_move rfl rfl ?_
   refine g_run rfl rfl hg16 ?_
   refine r_fieldb rfl TG.f26_0 TG.sz9 rfl ?_
   refine g_run rfl rfl hg16 ?_
   refine r_load1b 0 rfl rfl rfl TG.agg9 rfl ?_
   refine g_run rfl rfl hg16 ?_
   refine r_lookup 1 (keyEnc_string TG.un9) (ev := boolA) false rfl rfl rfl TG.map100 TG.zav4 rfl ?_
   refine r_pickF rfl hg16 rfl rfl ?_
   refine awl_nil ?_
   refine x_then ?_
   refine awp_cond rfl (fun hc1 => ?_) (fun hc1 => ?_)
   ·
    have hbad : togetherS l = false := by first | exact tog_bad hx hrx | exact tog_dup hx ((hm x.name).1 (by simpa using hc1))
    refine awp_seq ?_
    refine awp_region ?_
    refine r_assign rfl rfl ?_
    refine awl_nil ?_
    refine x_then ?_
    refine awp_ret ?_
    refine x_thenR ?_
    refine x_blockR ?_
    refine x_thenR ?_
    refine x_thenR ?_
    refine x_blockR ?_
    refine x_thenR ?_
    exact ⟨(.inl rfl), _, [], (.one (by first | exact .mk rfl rfl | exact .nil rfl)), ⟨rfl, by first | (rw [hbad]; done) | (rw [hbad]; rfl) | (rw [tog_good ha hnd]; rfl)⟩, (List.nil_sublist _), (by simp)⟩
   ·
    have hnx : (mget m x.name).getD false = false := by simpa using hc1
    refine awp_skip ?_
    refine x_then ?_
    refine awp_region ?_
    refine r_move rfl rfl ?_
    refine r_fieldb rfl TG.f26_0 TG.sz9 rfl ?_
    refine r_load1b 0 rfl rfl rfl TG.agg9 rfl ?_
    refine r_mapUpdate 1 (keyEnc_string TG.un9) (ev := boolA) true rfl rfl rfl rfl rfl TG.map100 ?_
    refine awl_nil ?_
    refine x_block ?_
    refine x_then ?_
    refine awp_region ?_
    refine r_ari _ rfl rfl rfl (wrap_id (by first | omega | (simp; omega))) rfl ?_
    refine r_move rfl rfl ?_
    refine awl_nil ?_
    refine x_then ?_
    refine ⟨l.length - (k + 1), ⟨26, [(3, .a (.v (.map (some b6)))), (7, .a (files l)), (8, .a (.v (.int .i64 ((l.map File.cs).length)))), (9, .a (.v (.int .i64 (((k + 1) : Int)))))], [⟨b6, true, .map (encM Value.string boolA ((mset m x.name true)))⟩]⟩, ⟨rfl, (Slots.cons rfl (by first | exact .refl _ | exact .nilOwn _ _ | exact .nilSl _ | exact .ownSl _ _ _  | exact SV.le.of_eq (by simp)) (Slots.cons rfl (by first | exact .refl _ | exact .nilOwn _ _ | exact .nilSl _ | exact .ownSl _ _ _  | exact SV.le.of_eq (by simp)) (Slots.cons rfl (by first | exact .refl _ | exact .nilOwn _ _ | exact .nilSl _ | exact .ownSl _ _ _  | exact SV.le.of_eq (by simp)) (Slots.cons rfl (by first | exact .refl _ | exact .nilOwn _ _ | exact .nilSl _ | exact .ownSl _ _ _  | exact SV.le.of_eq (by simp)) Slots.nil)))), (by first | exact List.Sublist.refl _ | exact .cons_cons _ (.cons _ (.refl _)) | exact List.nil_sublist _ | exact .cons _ (.refl _) | exact .cons _ (.cons _ (.refl _)) | exact .cons _ (.cons _ (.cons _ (.refl _))) | exact .cons _ (.cons _ (.cons _ (.cons _ (.refl _)))) | exact .cons_cons _ (List.nil_sublist _))⟩, (by omega), ⟨k + 1, (mset m x.name true), rfl, rfl, (by omega), (tog_all hx ha hrx), (tog_nd hx hnd (fun h => by rw [(hm _).2 h] at hnx; cases hnx)), (tog_set hx hm)⟩⟩
 ·
  have hge : l.length ≤ k := by have := of_decide_eq_false hc0; simp at this; omega
  rw [List.take_of_length_le hge] at ha hnd
  refine awp_exit ?_
  refine x_thenE ?_
  refine x_thenE ?_
  refine x_blockE ?_
  refine x_then ?_
  refine awp_seq ?_
  refine awp_region ?_
  refine r_assign rfl rfl ?_
  refine awl_nil ?_
  refine x_then ?_
  refine awp_ret ?_
  exact ⟨(.inl rfl), _, [], (.one (by first | exact .mk rfl rfl | exact .nil rfl)), ⟨rfl, by first | (rw [hbad]; done) | (rw [hbad]; rfl) | (rw [tog_good ha hnd]; rfl)⟩, (List.nil_sublist _), (by simp)⟩
end Go.Proofs.YtcbhhjahjnlfhaaDoor.A
namespace Go.Proofs.YtcbhhjahjnlfhaaDoor.A
open Go Go.RowKit
set_option linter.unusedVariables false
set_option linter.unusedSimpArgs false
set_option maxRecDepth 100000
theorem TG.agg3 : aggT Tryd.prog 3 = some false := by kernel_rfl
theorem TG.en88 : entersT Tryd.prog 88 := enters_of Tryd.func88 (by kernel_rfl) (by kernel_rfl)
theorem TG.agg119 : aggT Tryd.prog 119 = some false := by kernel_rfl
theorem TG.sl119 : sliceT Tryd.prog 119 = some 22 := by kernel_rfl
theorem TG.zraw22 : zeroT Tryd.prog 22 = some [(.slice none 0 0)] := by kernel_rfl
theorem TG.by22 : bytesT Tryd.prog 22 = some 24 := by kernel_rfl
theorem TG.zlen22 : (zeroT Tryd.prog 22).map (·.length) = some 1 := by kernel_rfl
theorem TG.sz119 : szT Tryd.prog 119 = some 1 := by kernel_rfl
theorem TG.en87 : entersT Tryd.prog 87 := enters_of Tryd.func87 (by kernel_rfl) (by kernel_rfl)
def rowB (p : List UInt8) : List AV := [bts p]
def chunkA (l : List UInt8) (pre : List (List AV)) (x : List AV) : Prop := pre.length < manyF l.length ∧ ∃ p : List UInt8, x = rowB p
theorem tr_rwB {wo : List OE} : ∀ x ∈ Tr wo, x.rw = true := fun x hx => by obtain ⟨e0, _, rfl⟩ := List.mem_map.1 hx; rfl
theorem rowB_inj {a b : List (List UInt8)} (h : a.map rowB = b.map rowB) : a = b := by
  have inj : ∀ x y : List UInt8, rowB x = rowB y → x = y := by
    intro x y h
    have h1 : u8s x = u8s y := by simpa [rowB, bts] using h
    have key : ∀ x y : List UInt8, u8s x = u8s y → x = y := by
      intro x
      induction x with
      | nil => intro y h; cases y with | nil => rfl | cons _ _ => simp [u8s] at h
      | cons c r ih =>
        intro y h
        cases y with
        | nil => simp [u8s] at h
        | cons c' r' =>
          simp only [u8s, List.map_cons, List.cons.injEq, AV.v.injEq, Value.int.injEq, true_and, and_true] at h
          have hc : c = c' := UInt8.toNat_inj.1 (by omega)
          rw [hc, ih r' h.2]
    exact key x y h1
  exact (List.map_inj_right (fun x y => inj x y)).1 h
def GrowP (b : Nat) (l : List (List UInt8)) (wo : List OE) : Prop :=
  (l = [] ∧ wo = [⟨b, true, .box [.v (.slice none 0 0)]⟩]) ∨ (l ≠ [] ∧ ∃ g cap, wo = [⟨g, true, .buf 1 (l.map rowB) cap 22⟩, ⟨b, true, .box [.v (.slice (some ⟨g, 0, none⟩) (l.map rowB).length cap)]⟩])
def GrowQ (l : List (List UInt8)) (r : AV) (n : List OE) : Prop :=
  (l = [] ∧ r = .v (.slice none 0 0) ∧ n = []) ∨ (l ≠ [] ∧ ∃ g cap, r = .v (.slice (some ⟨g, 0, none⟩) (l.map rowB).length cap) ∧ n = [⟨g, true, .buf 1 (l.map rowB) cap 22⟩])
theorem cut_snoc : ∀ (k : Nat) (l : List UInt8), cut32 (k + 1) l = cut32 k l ++ [(l.drop (32 * k)).take 32]
  | 0, l => by simp [cut32]
  | k + 1, l => by
    rw [cut32, cut_snoc k (l.drop 32), cut32, List.cons_append, List.drop_drop, show 32 + 32 * k = 32 * (k + 1) by omega]
theorem many_lt {n k : Nat} (h : 32 * k < n) : k < manyF n := by unfold manyF; omega
theorem many_ge {n k : Nat} (h : n ≤ 32 * k) : manyF n ≤ k := by unfold manyF; omega
theorem chunk_part {l : List UInt8} {k e : Nat} (h : 32 * k < l.length) (he : e = min 32 (l.length - 32 * k)) : ((u8s l).take (32 * k + e)).drop (32 * k) = u8s ((l.drop (32 * k)).take 32) := by
  subst he
  unfold u8s
  rw [← List.map_take, ← List.map_drop, List.drop_take]
  congr 1
  rw [show 32 * k + min 32 (l.length - 32 * k) - 32 * k = min 32 (l.length - 32 * k) by omega]
  rcases Nat.le_total 32 (l.length - 32 * k) with h1 | h1
  · rw [Nat.min_eq_left h1]
  · rw [Nat.min_eq_right h1, List.take_of_length_le (by simp), List.take_of_length_le (by simp; omega)]
set_option maxHeartbeats 1000000 in
theorem chunk1_ok (l : List UInt8) (hl : l.length ≤ 1000000) : IterC Tryd.prog 88 [.cp [bts l], .cp [.v (.int .i64 ((32 : Nat) : Int))]] [] (chunkA l) (fun xs => xs = (cut32 (manyF l.length) l).map rowB) := by
 intro l0 Cs J hY wo hJ0
 refine awc_of_awpG Cs (so := Tr wo) (nt := 31) (fun S r => Result1 S [] r) Tryd.func88 rfl rfl rfl rfl (result1_run rfl) (fun w0 C0 hq hcs => ?_)
 refine awp_seq ?_
 refine awp_region ?_
 refine r_assign rfl rfl ?_
 refine awl_nil ?_
 refine x_then ?_
 refine awp_block ?_
 refine awp_loop (fun nn0 S => ∃ k : Nat, ∃ wv : List OE, S = ⟨31, [(0, .a (.v (.func (.yield l0) #[] #[]))), (1, .a (.cp [bts l])), (2, .a (.cp [.v (.int .i64 ((32 : Nat) : Int))])), (4, .a (.v (.int .i64 (((32 * k : Nat) : Int)))))], Tr wv⟩ ∧ nn0 = manyF l.length - k ∧ (k ≤ manyF l.length) ∧ (J ((cut32 k l).map rowB) wv)) (manyF l.length - (0)) ⟨31, [(0, .a (.v (.func (.yield l0) #[] #[]))), (1, .a (.cp [bts l])), (2, .a (.cp [.v (.int .i64 ((32 : Nat) : Int))])), (4, .a (.v (.int .i64 (((32 * (0) : Nat) : Int)))))], Tr (wo)⟩ ⟨rfl, (Slots.cons rfl (by first | exact .refl _ | exact .nilOwn _ _ | exact .nilSl _ | exact .ownSl _ _ _  | exact SV.le.of_eq (by simp)) (Slots.cons rfl (by first | exact .refl _ | exact .nilOwn _ _ | exact .nilSl _ | exact .ownSl _ _ _  | exact SV.le.of_eq (by simp)) (Slots.cons rfl (by first | exact .refl _ | exact .nilOwn _ _ | exact .nilSl _ | exact .ownSl _ _ _  | exact SV.le.of_eq (by simp)) (Slots.cons rfl (by first | exact .refl _ | exact .nilOwn _ _ | exact .nilSl _ | exact .ownSl _ _ _  | exact SV.le.of_eq (by simp)) Slots.nil)))), (List.Sublist.refl _)⟩ ⟨0, wo, rfl, rfl, Nat.zero_le _, hJ0⟩ ?_
 rintro nn0 _ ⟨k, wv, rfl, rfl, hk, hJ⟩
 refine awp_seq ?_
 refine awp_seq ?_
 refine awp_region ?_
 refine r_move rfl rfl ?_
 refine r_load1 rfl TG.agg22 rfl ?_
 refine r_lenS rfl rfl TG.sl22 rfl ?_
 refine r_cmp rfl rfl rfl rfl ?_
 refine awl_nil ?_
 refine x_then ?_
 refine awp_cond rfl (fun hc0 => ?_) (fun hc0 => ?_)
 ·
  have hlt : 32 * k < l.length := by have := of_decide_eq_true hc0; simp [u8s] at this; omega
  obtain ⟨e, he⟩ : ∃ e, e = min 32 (l.length - 32 * k) := ⟨_, rfl⟩
  refine awp_skip ?_
  refine x_then ?_
  refine awp_seq ?_
  refine awp_block ?_
  refine awp_seq ?_
  refine awp_drawS [13, 14, 15, 16, 17] [_, _, _, _, _] [] [] TG.mixed rfl rfl rfl ⟨⟨⟨⟨⟨trivial
   , ⟨_, rfl, fun sl hd hr ho => by
     refine r_load1 (hr 2 _ rfl rfl rfl) TG.agg3 rfl ?_
     exact awl_nil ⟨rfl, post_put⟩⟩⟩
   , ⟨_, rfl, fun sl hd hr ho => by
     refine r_load1 (hr 1 _ rfl rfl rfl) TG.agg22 rfl ?_
     exact awl_nil ⟨rfl, post_put⟩⟩⟩
   , ⟨_, rfl, fun sl hd hr ho => by
     refine r_move (hr 4 _ rfl rfl rfl) rfl ?_
     exact awl_nil ⟨rfl, post_put⟩⟩⟩
   , ⟨_, rfl, fun sl hd hr ho => by
     refine r_sliceL (hd 1 _ rfl rfl rfl) rfl (hd 2 _ rfl rfl rfl) TG.sl22 TG.sz5 (by omega) (by simp [u8s]; omega) rfl ?_
     exact awl_nil ⟨rfl, post_put⟩⟩⟩
   , ⟨_, rfl, fun sl hd hr ho => by
     refine r_lenS (hd 3 _ rfl rfl rfl) rfl TG.sl22 rfl ?_
     exact awl_nil ⟨rfl, post_put⟩⟩⟩
   (by rfl) ?_
  refine r_minE (m := (e : Int)) rfl rfl (by subst he; simp [u8s]; omega) rfl ?_
  refine r_assign rfl rfl ?_
  refine awl_nil ?_
  refine x_then ?_
  refine awp_seq ?_
  refine awp_regionI ?_
  refine awli_op (fun c h => (by cases h)) ?_
  refine r_move rfl rfl ?_
  refine awl_nil ⟨rfl, ?_⟩
  refine awli_op (fun c h => (by cases h)) ?_
  refine r_load1 rfl TG.agg22 rfl ?_
  refine awl_nil ⟨rfl, ?_⟩
  refine awli_op (fun c h => (by cases h)) ?_
  refine r_move rfl rfl ?_
  refine awl_nil ⟨rfl, ?_⟩
  refine awli_op (fun c h => (by cases h)) ?_
  refine r_move rfl rfl ?_
  refine awl_nil ⟨rfl, ?_⟩
  refine awli_op (fun c h => (by cases h)) ?_
  refine r_move rfl rfl ?_
  refine awl_nil ⟨rfl, ?_⟩
  refine awli_op (fun c h => (by cases h)) ?_
  refine r_ari _ rfl rfl rfl (wrap_id (by first | omega | (simp; omega))) rfl ?_
  refine awl_nil ⟨rfl, ?_⟩
  refine awli_op (fun c h => (by cases h)) ?_
  refine r_move rfl rfl ?_
  refine awl_nil ⟨rfl, ?_⟩
  refine awli_op (fun c h => (by cases h)) ?_
  refine r_move rfl rfl ?_
  refine awl_nil ⟨rfl, ?_⟩
  refine awli_op (fun c h => (by cases h)) ?_
  refine r_ari _ rfl rfl rfl (wrap_id (by first | omega | (simp; omega))) rfl ?_
  refine awl_nil ⟨rfl, ?_⟩
  refine awli_op (fun c h => (by cases h)) ?_
  refine r_slice3L rfl rfl rfl rfl rfl TG.sl22 TG.sz5 (by omega) (by omega) (by omega) (by simp [u8s]; omega) rfl ?_
  refine awl_nil ⟨rfl, ?_⟩
  have hcp : ((u8s l).take (((32 * k : Nat) : Int) + (e : Int)).toNat).drop (((32 * k : Nat) : Int)).toNat = u8s ((l.drop (32 * k)).take 32) := by rw [show (((32 * k : Nat) : Int) + (e : Int)).toNat = 32 * k + e by omega, Int.toNat_natCast]; exact chunk_part hlt he
  rw [hcp]
  refine r_yield hq (un := []) (fun n => Tr n) rfl rfl (.cons (.ev rfl rfl) .nil) Cs hcs (hY ((cut32 k l).map rowB) (rowB ((l.drop (32 * k)).take 32)) wv hJ ⟨by rw [List.length_map, cut32_len]; exact many_lt hlt, _, rfl⟩) (by rw [List.append_nil]; exact List.Perm.refl _) (fun n => by rw [List.append_nil]) rfl (fun nobjs hJ' => ?_)
  refine awli_op (fun c h => (by cases h)) ?_
  refine r_not rfl rfl ?_
  refine awl_nil ⟨rfl, ?_⟩
  refine awli_nil ?_
  refine x_then ?_
  refine awp_cond rfl (fun hc1 => ?_) (fun hc1 => ?_)
  ·
   exfalso; simp at hc1
  ·
   refine awp_skip ?_
   refine x_block ?_
   refine x_then ?_
   refine awp_region ?_
   refine r_move rfl rfl ?_
   refine r_load1 rfl TG.agg3 rfl ?_
   refine r_ari _ rfl rfl rfl (wrap_id (by first | omega | (simp; omega))) rfl ?_
   refine r_assign rfl rfl ?_
   refine awl_nil ?_
   refine x_then ?_
   refine ⟨manyF l.length - (k + 1), ⟨31, [(0, .a (.v (.func (.yield l0) #[] #[]))), (1, .a (.cp [bts l])), (2, .a (.cp [.v (.int .i64 ((32 : Nat) : Int))])), (4, .a (.v (.int .i64 (((32 * (k + 1) : Nat) : Int)))))], Tr (nobjs)⟩, ⟨rfl, (Slots.cons rfl (by first | exact .refl _ | exact .nilOwn _ _ | exact .nilSl _ | exact .ownSl _ _ _  | exact SV.le.of_eq (by simp)) (Slots.cons rfl (by first | exact .refl _ | exact .nilOwn _ _ | exact .nilSl _ | exact .ownSl _ _ _  | exact SV.le.of_eq (by simp)) (Slots.cons rfl (by first | exact .refl _ | exact .nilOwn _ _ | exact .nilSl _ | exact .ownSl _ _ _  | exact SV.le.of_eq (by simp)) (Slots.cons rfl (by first | exact .refl _ | exact .nilOwn _ _ | exact .nilSl _ | exact .ownSl _ _ _  | exact SV.le.of_eq (by simp)) Slots.nil)))), (List.Sublist.refl _)⟩, (by have := many_lt hlt; omega), ⟨k + 1, nobjs, rfl, rfl, (by have := many_lt hlt; omega), (by rw [cut_snoc, List.map_append]; exact hJ')⟩⟩
 ·
  have hge : l.length ≤ 32 * k := by have := of_decide_eq_false hc0; simp [u8s] at this; omega
  obtain rfl : k = manyF l.length := by have := many_ge hge; omega
  refine awp_exit ?_
  refine x_thenE ?_
  refine x_thenE ?_
  refine x_blockE ?_
  exact ⟨(.inr rfl), _, Tr wv, .none, ⟨_, wv, rfl, hJ, rfl⟩, (List.Sublist.refl _), tr_rwB⟩
theorem chunk_ok (l : List UInt8) : AC Tryd.prog 62 [bts l, .v (.int .i64 ((32 : Nat) : Int))] [] (fun r n => n = [] ∧ r = .fn 88 [.cp [bts l], .cp [.v (.int .i64 ((32 : Nat) : Int))]]) := by
 refine ac_of_awp (rs := [4]) (nt := 9) Tryd.func62 rfl rfl rfl rfl (fun w0 C0 hq => ?_)
 refine awp_seq ?_
 refine awp_region ?_
 refine r_box rfl rfl rfl (fun b2 => ?_)
 refine r_box rfl rfl rfl (fun b3 => ?_)
 refine r_assign rfl rfl ?_
 refine awl_nil ?_
 refine x_then ?_
 refine awp_seq ?_
 refine awp_seq ?_
 refine awp_region ?_
 refine r_load1b 0 rfl rfl rfl TG.agg3 rfl ?_
 refine r_cmp rfl rfl rfl rfl ?_
 refine awl_nil ?_
 refine x_then ?_
 refine awp_cond rfl (fun hc0 => ?_) (fun hc0 => ?_)
 ·
  exfalso; exact absurd hc0 (by decide)
 ·
  refine awp_skip ?_
  refine x_then ?_
  refine awp_seq ?_
  refine awp_region ?_
  refine awl_imp (imp_commit 0 3 rfl rfl rfl rfl) ?_
  refine awl_imp (imp_commit 0 2 rfl rfl rfl rfl) ?_
  refine r_makeFunc rfl (.cons (.ev rfl rfl) (.cons (.ev rfl rfl) .nil)) rfl ?_
  refine r_assign rfl rfl ?_
  refine awl_nil ?_
  refine x_then ?_
  refine awp_ret ?_
  exact ⟨(.inl rfl), _, [], (.one (by first | exact .mk rfl rfl | exact .nil rfl)), ⟨rfl, rfl⟩, (List.nil_sublist _), (by simp)⟩
theorem appendB_ok (l : List UInt8) (hl : l.length ≤ 1000000) : AC Tryd.prog 87 [.v (.slice none 0 0), .fn 88 [.cp [bts l], .cp [.v (.int .i64 ((32 : Nat) : Int))]]] [] (GrowQ (cut32 (manyF l.length) l)) := by
 refine ac_of_awp (rs := [4]) (nt := 13) Tryd.func87 rfl rfl rfl rfl (fun w0 C0 hq => ?_)
 refine awp_seq ?_
 refine awp_region ?_
 refine r_box rfl rfl rfl (fun b2 => ?_)
 refine r_assign rfl rfl ?_
 refine awl_nil ?_
 refine x_then ?_
 refine awp_seq ?_
 refine awp_seq ?_
 refine awp_region ?_
 refine r_move rfl rfl ?_
 refine awl_nil ?_
 refine x_then ?_
 refine awp_block ?_
 refine awp_rangeFunc (fun pre wo => ∃ kl : List (List UInt8), pre = kl.map rowB ∧ GrowP b2 kl wo) [(2, .a (.v (.pointer (some ⟨b2, 0, none⟩))))] [true] hq rfl (chunk1_ok l hl) TG.en88 (fun pre x h => by obtain ⟨_, p, rfl⟩ := h; rfl) rfl rfl rfl (List.Sublist.refl _) (Slots.cons rfl (by first | exact .refl _ | exact .nilOwn _ _ | exact .nilSl _ | exact .ownSl _ _ _  | exact SV.le.of_eq (by simp)) Slots.nil) rfl rfl ⟨[], rfl, .inl ⟨rfl, rfl⟩⟩ ?_ ?_
 ·
  intro lr pre x wo rec busy w0 C0 hq hj hax
  obtain ⟨kl, rfl, hgb⟩ := hj
  obtain ⟨hlen, p, rfl⟩ := hax
  have hml : manyF l.length ≤ 1000000 := by unfold manyF; omega
  rw [List.length_map] at hlen
  rcases hgb with ⟨h0, rfl⟩ | ⟨h0, g, cap, rfl⟩
  ·
   obtain rfl : kl = [] := h0
   refine awpi_region ?_
   refine awli_op (fun c h => (by cases h)) ?_
   refine r_assign rfl rfl ?_
   refine awl_nil ⟨rfl, ?_⟩
   refine awli_nil ?_
   refine ⟨rfl, 1, rfl, ?_⟩
   refine awpi_block ?_
   refine awpi_region ?_
   refine awli_op (fun c h => (by cases h)) ?_
   refine r_load1b 0 rfl rfl rfl TG.agg119 rfl ?_
   refine awl_nil ⟨rfl, ?_⟩
   refine awli_op (fun c h => (by cases h)) ?_
   refine r_move rfl rfl ?_
   refine awl_nil ⟨rfl, ?_⟩
   refine awli_op (fun c h => (by cases h)) ?_
   refine r_lit 10 (parts := [(0, .tmp 9)]) rfl TG.sl119 TG.sz22 TG.zraw22 rfl rfl rfl rfl rfl rfl rfl ?_
   refine awl_nil ⟨rfl, ?_⟩
   refine awli_op (fun c h => (by cases h)) ?_
   refine r_appendBN rfl rfl (by first | exact .sl _ | exact .own _ _) (by simp [chunks]) TG.sl119 TG.sz22 TG.by22 TG.zlen22 (by simp [chunks] <;> omega) (by simp [chunks] <;> omega) rfl (fun gb gc => ?_)
   refine awl_nil ⟨rfl, ?_⟩
   refine awli_op (fun c h => (by cases h)) ?_
   refine r_store 1 rfl rfl rfl TG.sz119 rfl rfl rfl ?_
   refine awl_nil ⟨rfl, ?_⟩
   refine awli_nil ?_
   refine x_block ?_
   refine ⟨rfl, _, ⟨[p], rfl, .inr ⟨by simp, gb, gc, rfl⟩⟩, ?_, by simp⟩
   first | exact List.Sublist.refl _ | exact .cons_cons _ (.cons _ (.refl _)) | exact List.nil_sublist _ | exact .cons _ (.refl _) | exact .cons _ (.cons _ (.refl _)) | exact .cons _ (.cons _ (.cons _ (.refl _))) | exact .cons _ (.cons _ (.cons _ (.cons _ (.refl _)))) | exact .cons_cons _ (List.nil_sublist _)
  ·
   refine awpi_region ?_
   refine awli_op (fun c h => (by cases h)) ?_
   refine r_assign rfl rfl ?_
   refine awl_nil ⟨rfl, ?_⟩
   refine awli_nil ?_
   refine ⟨rfl, 2, rfl, ?_⟩
   refine awpi_block ?_
   refine awpi_region ?_
   refine awli_op (fun c h => (by cases h)) ?_
   refine r_load1b 1 rfl rfl rfl TG.agg119 rfl ?_
   refine awl_nil ⟨rfl, ?_⟩
   refine awli_op (fun c h => (by cases h)) ?_
   refine r_move rfl rfl ?_
   refine awl_nil ⟨rfl, ?_⟩
   refine awli_op (fun c h => (by cases h)) ?_
   refine r_lit 10 (parts := [(0, .tmp 9)]) rfl TG.sl119 TG.sz22 TG.zraw22 rfl rfl rfl rfl rfl rfl rfl ?_
   refine awl_nil ⟨rfl, ?_⟩
   refine awli_op (fun c h => (by cases h)) ?_
   refine r_appendBG 0 rfl rfl rfl rfl (by first | exact .sl _ | exact .own _ _) (by simp [chunks]) TG.sl119 TG.sz22 TG.by22 TG.zlen22 (by simp [chunks] <;> omega) (by simp [chunks] <;> omega) rfl (fun gb gc => ?_)
   refine awl_nil ⟨rfl, ?_⟩
   refine awli_op (fun c h => (by cases h)) ?_
   refine r_store 1 rfl rfl rfl TG.sz119 rfl rfl rfl ?_
   refine awl_nil ⟨rfl, ?_⟩
   refine awli_nil ?_
   refine x_block ?_
   refine ⟨rfl, _, ⟨kl ++ [p], by simp, .inr ⟨by simp, gb, gc, rfl⟩⟩, ?_, by simp⟩
   simp only [List.map_append, List.map_cons, List.map_nil]
   first | exact List.Sublist.refl _ | exact .cons_cons _ (.cons _ (.refl _)) | exact List.nil_sublist _ | exact .cons _ (.refl _) | exact .cons _ (.cons _ (.refl _)) | exact .cons _ (.cons _ (.cons _ (.refl _))) | exact .cons _ (.cons _ (.cons _ (.cons _ (.refl _)))) | exact .cons_cons _ (List.nil_sublist _)
 ·
  intro xs wo' hG hJ
  obtain ⟨kl, rfl, hgb⟩ := hJ
  obtain rfl := rowB_inj hG
  rcases hgb with ⟨h0, rfl⟩ | ⟨h0, g, cap, rfl⟩
  ·
   refine x_block ?_
   refine x_then ?_
   refine awp_seq ?_
   refine awp_region ?_
   refine r_load1b 0 rfl rfl rfl TG.agg119 rfl ?_
   refine r_assign rfl rfl ?_
   refine awl_nil ?_
   refine x_then ?_
   refine awp_ret ?_
   exact ⟨(.inl rfl), _, [], (.one (by first | exact .mk rfl rfl | exact .nil rfl)), (.inl ⟨h0, rfl, rfl⟩), (List.nil_sublist _), (by simp)⟩
  ·
   refine x_block ?_
   refine x_then ?_
   refine awp_seq ?_
   refine awp_region ?_
   refine r_load1b 1 rfl rfl rfl TG.agg119 rfl ?_
   refine r_assign rfl rfl ?_
   refine awl_nil ?_
   refine x_then ?_
   refine awp_ret ?_
   exact ⟨(.inl rfl), _, [⟨g, true, .buf 1 ((cut32 (manyF l.length) l).map rowB) cap 22⟩], (.one (by first | exact .mk rfl rfl | exact .nil rfl)), (.inr ⟨h0, g, cap, rfl, rfl⟩), (by first | exact List.Sublist.refl _ | exact .cons_cons _ (.cons _ (.refl _)) | exact List.nil_sublist _ | exact .cons _ (.refl _) | exact .cons _ (.cons _ (.refl _)) | exact .cons _ (.cons _ (.cons _ (.refl _))) | exact .cons _ (.cons _ (.cons _ (.cons _ (.refl _)))) | exact .cons_cons _ (List.nil_sublist _)), (by simp)⟩
theorem collectB_ok (l : List UInt8) (hl : l.length ≤ 1000000) : AC Tryd.prog 61 [.fn 88 [.cp [bts l], .cp [.v (.int .i64 ((32 : Nat) : Int))]]] [] (fun r n => n = [] ∧ r = .sl 1 ((cut32 (manyF l.length) l).map rowB)) := by
 refine ac_of_awp (rs := [2]) (nt := 5) Tryd.func61 rfl rfl rfl rfl (fun w0 C0 hq => ?_)
 refine awp_seq ?_
 refine awp_region ?_
 refine r_assign rfl rfl ?_
 refine awl_nil ?_
 refine x_then ?_
 refine awp_seq ?_
 refine awp_region ?_
 refine r_move rfl rfl ?_
 refine r_callO hq rfl rfl (.cons (.ev rfl rfl) (.cons (.ev rfl rfl) .nil)) (appendB_ok l hl) rfl TG.en87 (List.nil_sublist _) rfl (fun r nobjs hr => ?_)
 rcases hr with ⟨h0, rfl, rfl⟩ | ⟨h0, g, cap, rfl, rfl⟩
 ·
  refine r_assign rfl rfl ?_
  refine awl_nil ?_
  refine x_then ?_
  refine awp_ret ?_
  exact ⟨(.inl rfl), _, [], (.one (.nil (sz := 1) rfl)), ⟨rfl, by rw [h0]; rfl⟩, (List.nil_sublist _), (by simp)⟩
 ·
  refine awl_imp (imp_commitB 0 4 rfl rfl rfl) ?_
  refine r_assign rfl rfl ?_
  refine awl_nil ?_
  refine x_then ?_
  refine awp_ret ?_
  exact ⟨(.inl rfl), _, [], (.one (by first | exact .mk rfl rfl | exact .nil rfl)), ⟨rfl, rfl⟩, (List.nil_sublist _), (by simp)⟩
end Go.Proofs.YtcbhhjahjnlfhaaDoor.A
namespace Go.Proofs.YtcbhhjahjnlfhaaDoor.A
open Go Go.RowKit Go.Maps Go.Sort
set_option linter.unusedVariables false
set_option linter.unusedSimpArgs false
set_option linter.unusedSectionVars false
def boxB (bl : List Blk) (ext : List AV) : List AV := (bl.map blkC).flatten ++ ext
theorem rows_len (bl : List Blk) : ∀ c, c ∈ bl.map blkC → c.length = 32 := fun c hc => by obtain ⟨b, _, rfl⟩ := List.mem_map.1 hc; rfl
theorem rows_flat (bl : List Blk) : ((bl.map blkC).flatten).length = bl.length * 32 := by rw [flat_len (rows_len bl), List.length_map]
theorem boxB_len (bl : List Blk) (ext : List AV) : (boxB bl ext).length = bl.length * 32 + ext.length := by rw [boxB, List.length_append, rows_flat]
theorem rows_split {bl : List Blk} {r : Nat} {b : Blk} (hb : bl[r]? = some b) (ext : List AV) : boxB bl ext = ((bl.take r).map blkC).flatten ++ (blkC b ++ (((bl.drop (r + 1)).map blkC).flatten ++ ext)) := by
  have hr := (List.getElem?_eq_some_iff.1 hb).1
  have e : bl = bl.take r ++ b :: bl.drop (r + 1) := by
    have h3 : bl.drop r = b :: bl.drop (r + 1) := by rw [List.drop_eq_getElem_cons hr, (List.getElem?_eq_some_iff.1 hb).2]
    rw [← h3, List.take_append_drop]
  unfold boxB
  conv => lhs; rw [e]
  simp [List.append_assoc]
theorem take_rows {bl : List Blk} {r : Nat} (hr : r ≤ bl.length) : (((bl.take r).map blkC).flatten).length = r * 32 := by
  rw [rows_flat, List.length_take, Nat.min_eq_left hr]
def u8c (l : List UInt8) : List AV := l.map fun x => AV.v (.int .u8 x.toNat)
theorem u8c_flat (l : List UInt8) : (u8s l).flatten = u8c l := by
  induction l with
  | nil => rfl
  | cons x r ih => simp only [u8s, u8c, List.map_cons, List.flatten_cons] at ih ⊢; rw [ih]; rfl
theorem u8c_len (l : List UInt8) : (u8c l).length = l.length := by simp [u8c]
theorem put_cells {b : Blk} {c : Nat} {xs : List UInt8} (hc : c + xs.length ≤ 32) : (blkC b).take c ++ u8c xs ++ (blkC b).drop (c + xs.length) = blkC (putAt b c xs) := by
  apply List.ext_getElem?
  intro i
  by_cases hi : i < 32
  · rw [blkC_at _ hi, putAt_get hi]
    by_cases h1 : i < c
    · rw [List.append_assoc, List.getElem?_append_left (by simp [blkC_len]; omega), List.getElem?_take, if_pos h1, blkC_at _ hi, if_neg (by omega)]
    · by_cases h2 : i < c + xs.length
      · have hj : i - c < xs.length := by omega
        rw [List.append_assoc, List.getElem?_append_right (by simp [blkC_len]; omega), List.length_take, blkC_len, Nat.min_eq_left (by omega), List.getElem?_append_left (by rw [u8c_len]; exact hj), if_pos ⟨by omega, h2⟩]
        simp [u8c, List.getElem?_eq_getElem hj]
      · rw [List.getElem?_append_right (by simp [blkC_len, u8c_len]; omega), List.length_append, List.length_take, blkC_len, u8c_len, Nat.min_eq_left (by omega), List.getElem?_drop, show c + xs.length + (i - (c + xs.length)) = i by omega, blkC_at _ hi, if_neg (by omega)]
  · rw [List.getElem?_eq_none (by simp [blkC_len, u8c_len]; omega), List.getElem?_eq_none (by rw [blkC_len]; omega)]
theorem put_row {bl : List Blk} {ext : List AV} {r c : Nat} {b : Blk} {xs : List UInt8} (hb : bl[r]? = some b) (hc : c + xs.length ≤ 32) :
    (boxB bl ext).take (r * 32 + c) ++ u8c xs ++ (boxB bl ext).drop (r * 32 + c + xs.length) = boxB (bl.set r (putAt b c xs)) ext := by
  have hr := (List.getElem?_eq_some_iff.1 hb).1
  have hl := take_rows (bl := bl) (r := r) (by omega)
  have hb' : (bl.set r (putAt b c xs))[r]? = some (putAt b c xs) := by rw [List.getElem?_set_self hr]
  rw [rows_split hb ext, rows_split hb' ext]
  have e1 : (bl.set r (putAt b c xs)).take r = bl.take r := by rw [List.take_set_of_le (Nat.le_refl _)]
  have e2 : (bl.set r (putAt b c xs)).drop (r + 1) = bl.drop (r + 1) := by rw [List.drop_set_of_lt (Nat.lt_succ_self _)]
  rw [e1, e2, ← put_cells hc]
  have hlen : (blkC b).length = 32 := rfl
  rw [← hl, List.take_length_add_append, Nat.add_assoc, List.drop_length_add_append, List.take_append_of_le_length (by rw [hlen]; omega), List.drop_append_of_le_length (by rw [hlen]; omega)]
  simp [List.append_assoc]
theorem row_at {bl : List Blk} {ext : List AV} {r : Nat} {b : Blk} (hb : bl[r]? = some b) : ((boxB bl ext).drop (r * 32)).take 32 = blkC b := by
  have hr := (List.getElem?_eq_some_iff.1 hb).1
  have hl := take_rows (bl := bl) (r := r) (by omega)
  rw [rows_split hb ext, ← hl, List.drop_left]
  have hlen : (blkC b).length = 32 := rfl
  rw [← hlen, List.take_left]
theorem pad_row {p : List UInt8} (hp : p.length ≤ 32) : (blkC []).take 0 ++ u8c p ++ (blkC []).drop (0 + p.length) = blkC p := by
  have h := put_cells (b := []) (c := 0) (xs := p) (by omega)
  rw [h]
  apply blkC_ext
  intro i hi
  rw [putAt_get hi]
  by_cases h1 : i < p.length
  · rw [if_pos ⟨Nat.zero_le _, by omega⟩]; rfl
  · rw [if_neg (by omega), List.getD_eq_getElem?_getD, List.getD_eq_getElem?_getD, List.getElem?_eq_none (l := p) (by omega)]; rfl
def mkB (l : List File) (k : Nat) : List Blk := [] :: (tabs (l.take k) (1 + l.length) ++ List.replicate (l.length - k) [] ++ (l.take k).flatMap datF)
theorem mkB_zero (l : List File) : mkB l 0 = List.replicate (1 + l.length) [] := by
  simp [mkB, tabs, List.replicate_succ, Nat.add_comm 1]
theorem mkB_len {l : List File} {k : Nat} (h : k ≤ l.length) : (mkB l k).length = 1 + l.length + ((l.take k).flatMap datF).length := by
  simp [mkB, tabs_len]; omega
theorem tabs_snoc : ∀ (l : List File) (x : File) (a : Nat), tabs (l ++ [x]) a = tabs l a ++ [tabF x (a + (l.flatMap datF).length)]
  | [], x, a => by simp [tabs]
  | f :: r, x, a => by
    rw [List.cons_append, tabs, tabs_snoc r x, tabs, List.cons_append, List.flatMap_cons, List.length_append]
    rw [show (datF f).length = manyF f.data.length from cut32_len _ _, Nat.add_assoc]
theorem mkB_row {l : List File} {k : Nat} {x : File} (hx : l[k]? = some x) : (mkB l k)[1 + k]? = some [] := by
  have hk := (List.getElem?_eq_some_iff.1 hx).1
  have ht : (tabs (l.take k) (1 + l.length)).length = k := by rw [tabs_len, List.length_take]; omega
  rw [mkB, Nat.add_comm 1 k, List.getElem?_cons_succ, List.append_assoc, List.getElem?_append_right (by omega), ht, Nat.sub_self, List.getElem?_append_left (by simp; omega), List.getElem?_replicate, if_pos (by omega)]
theorem mkB_step {l : List File} {k : Nat} {x : File} (hx : l[k]? = some x) : (mkB l k).set (1 + k) (tabF x (mkB l k).length) ++ datF x = mkB l (k + 1) := by
  have hk := (List.getElem?_eq_some_iff.1 hx).1
  have ht : (tabs (l.take k) (1 + l.length)).length = k := by rw [tabs_len, List.length_take]; omega
  rw [mkB_len (by omega)]
  unfold mkB
  rw [takeS hx, tabs_snoc, List.flatMap_append, Nat.add_comm 1 k, List.set_cons_succ]
  obtain ⟨m, hm⟩ : ∃ m, l.length - k = m + 1 := ⟨l.length - k - 1, by omega⟩
  rw [hm, show l.length - (k + 1) = m by omega, List.replicate_succ, List.append_assoc, List.set_append_right _ _ (by omega), ht, Nat.sub_self]
  simp [List.append_assoc]
theorem tab_puts (f : File) (a : Nat) (h : ¬ f.data = []) : putAt (putAt (putAt [] 0 f.name.data.toList) 12 (be2 f.data.length)) 14 (be2 a) = tabF f a := by
  simp [tabF, h]
theorem tab_puts0 (f : File) (a : Nat) (h : f.data = []) : putAt (putAt [] 0 f.name.data.toList) 12 (be2 f.data.length) = tabF f a := by
  simp [tabF, h]
theorem mkB_end (l : List File) : mkB l l.length = [] :: (tabs l (1 + l.length) ++ l.flatMap datF) := by
  simp [mkB]
theorem mkB_disk (l : List File) : (mkB l l.length).set 0 (headF l.length (tabs l (1 + l.length))) = diskF l := by
  rw [mkB_end]; rfl
theorem okFs_len {l : List File} (h : okFs l = true) : l.length ≤ 8 ∧ togetherS l = true := by
  unfold okFs at h; rw [Bool.and_eq_true] at h; exact ⟨of_decide_eq_true h.1, h.2⟩
theorem tog_right {l : List File} (h : togetherS l = true) {f : File} (hf : f ∈ l) : rightS f = true := by
  unfold togetherS at h; rw [Bool.and_eq_true] at h; exact List.all_eq_true.1 h.1 f hf
theorem right_bnd {f : File} (h : rightS f = true) : 1 ≤ f.name.size ∧ f.name.size ≤ 12 ∧ f.data.length ≤ 256 := by
  unfold rightS namedS at h
  simp only [Bool.and_eq_true, decide_eq_true_eq] at h
  exact ⟨h.1.2.1, h.1.2.2, h.2⟩
theorem dat_len (f : File) : (datF f).length = manyF f.data.length := cut32_len _ _
theorem many_le {n : Nat} (h : n ≤ 256) : manyF n ≤ 8 := by unfold manyF; omega
theorem dats_len {l : List File} (h : ∀ f ∈ l, rightS f = true) : (l.flatMap datF).length ≤ 8 * l.length := by
  induction l with
  | nil => simp
  | cons f r ih =>
    rw [List.flatMap_cons, List.length_append, dat_len, List.length_cons]
    have h1 := many_le (right_bnd (h f List.mem_cons_self)).2.2
    have h2 := ih (fun g hg => h g (List.mem_cons_of_mem _ hg))
    omega
theorem mkB_small {l : List File} (hok : okFs l = true) {k : Nat} (hk : k ≤ l.length) : (mkB l k).length ≤ 100 := by
  obtain ⟨h8, ht⟩ := okFs_len hok
  rw [mkB_len hk]
  have := dats_len (l := l.take k) (fun f hf => tog_right ht (List.mem_of_mem_take hf))
  rw [List.length_take, Nat.min_eq_left hk] at this
  omega
theorem cut_part {l : List UInt8} {n j : Nat} {p : List UInt8} (h : (cut32 n l)[j]? = some p) : p.length ≤ 32 := by
  induction n generalizing l j with
  | zero => simp [cut32] at h
  | succ n ih =>
    cases j with
    | zero => simp [cut32] at h; subst h; simp; omega
    | succ j => rw [cut32, List.getElem?_cons_succ] at h; exact ih h
theorem cut_pos {l : List UInt8} : ∀ {n j : Nat} {p : List UInt8}, (cut32 n l)[j]? = some p → p = (l.drop (32 * j)).take 32 := by
  intro n
  induction n generalizing l with
  | zero => intro j p h; simp [cut32] at h
  | succ n ih =>
    intro j p h
    cases j with
    | zero => simp [cut32] at h; rw [Nat.mul_zero, List.drop_zero]; exact h.symm
    | succ j =>
      rw [cut32, List.getElem?_cons_succ] at h
      rw [ih h, List.drop_drop, show 32 + 32 * j = 32 * (j + 1) by omega]
theorem dat_part {f : File} {j : Nat} {p : List UInt8} (h : (datF f)[j]? = some p) : 0 < p.length ∧ p.length ≤ 32 := by
  refine ⟨?_, cut_part h⟩
  have hj := (List.getElem?_eq_some_iff.1 h).1
  rw [dat_len] at hj
  rw [cut_pos h, List.length_take, List.length_drop]
  unfold manyF at hj; omega
theorem name_put {bl : List Blk} {ext : List AV} {r : Nat} {b : Blk} {s : ByteArray} (hb : bl[r]? = some b) (hs : s.size ≤ 32) :
    (boxB bl ext).take (r * 32 + 0) ++ (strC s).take s.size ++ (boxB bl ext).drop (r * 32 + 0 + s.size) = boxB (bl.set r (putAt b 0 s.data.toList)) ext := by
  have h := put_row (ext := ext) (c := 0) (xs := s.data.toList) hb (by rw [ba_len]; omega)
  rw [ba_len] at h
  rw [show (strC s).take s.size = u8c s.data.toList from List.take_of_length_le (by simp [strC, ba_len])]
  exact h
theorem num_put {bl : List Blk} {ext : List AV} {r c : Nat} {b : Blk} {xs : List UInt8} (hb : bl[r]? = some b) (hc : c + xs.length ≤ 32) {off m : Nat} (ho : off = r * 32 + c) (hm : m = xs.length) :
    (boxB bl ext).take off ++ (u8s xs).flatten ++ (boxB bl ext).drop (off + m * 1) = boxB (bl.set r (putAt b c xs)) ext := by
  subst ho hm
  rw [u8c_flat, Nat.mul_one]; exact put_row hb hc
theorem set_at {bl : List Blk} {r : Nat} {b b' : Blk} (hb : bl[r]? = some b) : (bl.set r b')[r]? = some b' := List.getElem?_set_self (List.getElem?_eq_some_iff.1 hb).1
theorem app_room {bl : List Blk} {ext xs : List AV} {p : Blk} {n : Nat} (hn : n = bl.length) (he : 32 ≤ ext.length) (hx : xs = blkC p) :
    (boxB bl ext).take (n * 32) ++ xs ++ (boxB bl ext).drop (n * 32 + 1 * 32) = boxB (bl ++ [p]) (ext.drop 32) := by
  subst hn hx
  unfold boxB
  have hl := rows_flat bl
  rw [← hl, List.take_left, List.drop_length_add_append]
  simp
theorem app_take {bl : List Blk} {ext : List AV} {n : Nat} (hn : n = bl.length) : ((boxB bl ext).drop 0).take (n * 32) = (bl.map blkC).flatten := by
  subst hn
  rw [List.drop_zero, boxB, ← rows_flat bl, List.take_left]
theorem rows_one (bl : List Blk) : ((bl.map blkC).flatten).all AV.one = true := by
  rw [List.all_eq_true]
  intro x hx
  obtain ⟨c, hc, hxc⟩ := List.mem_flatten.1 hx
  obtain ⟨b, _, rfl⟩ := List.mem_map.1 hc
  obtain ⟨i, _, rfl⟩ := List.mem_map.1 hxc
  rfl
theorem app_grow {bl : List Blk} {xs ext : List AV} {p : Blk} (hx : xs = blkC p) : (bl.map blkC).flatten ++ xs ++ ext = boxB (bl ++ [p]) ext := by
  subst hx; simp [boxB]
theorem pad_put {p : List UInt8} {cs : List AV} (hp : p.length ≤ 32) (hc : cs = blkC []) {k : Nat} (hk : k = p.length) : cs.take (0 + 0) ++ (u8s p).flatten ++ cs.drop (0 + 0 + k * 1) = blkC p := by
  subst hc hk
  rw [u8c_flat, Nat.mul_one]; exact pad_row hp
theorem mkB_sum (l : List File) (b : Blk) : (((mkB l l.length).set 0 b).drop 1).take l.length = tabs l (1 + l.length) := by
  rw [mkB_end]
  simp only [List.set_cons_zero, List.drop_succ_cons, List.drop_zero]
  rw [List.take_append_of_le_length (by rw [tabs_len]; exact Nat.le_refl _), List.take_of_length_le (by rw [tabs_len]; exact Nat.le_refl _)]
theorem byte_wrap {n : Nat} (h : n ≤ 8) : IntKind.u8.wrap (n : Int) = ((n.toUInt8).toNat : Int) := lo_byte n (by omega)
def bareL (l : List File) : List File := l.map fun f => ⟨f.name, []⟩
def boxF (l : List File) (ext : List AV) : List AV := (l.map File.cs).flatten ++ ext
theorem bareL_len (l : List File) : (bareL l).length = l.length := by simp [bareL]
theorem bareL_tog {l : List File} (h : togetherS l = true) : togetherS (bareL l) = true := by
  unfold togetherS at h ⊢
  rw [Bool.and_eq_true] at h ⊢
  refine ⟨List.all_eq_true.2 fun f hf => ?_, ?_⟩
  · obtain ⟨x, hx, rfl⟩ := List.mem_map.1 hf
    have := List.all_eq_true.1 h.1 x hx
    unfold rightS at this ⊢
    rw [Bool.and_eq_true] at this
    simp [this.1]
  · have : (bareL l).map (·.name) = l.map (·.name) := by simp [bareL, Function.comp_def]
    rw [this]; exact h.2
theorem bareL_snoc {l : List File} {k : Nat} {x : File} (hx : l[k]? = some x) : bareL (l.take (k + 1)) = bareL (l.take k) ++ [⟨x.name, []⟩] := by
  rw [takeS hx]; simp [bareL]
def szA (f : File) : AV := .v (.int .i64 (f.data.length : Int))
def szB (l : List File) (i : Nat) : List AV := (l.take i).map szA ++ List.replicate (l.length - i) (.v (.int .i64 0))
theorem szB_len {l : List File} {i : Nat} (h : i ≤ l.length) : (szB l i).length = l.length := by simp [szB]; omega
theorem szB_zero (l : List File) : szB l 0 = List.replicate l.length (.v (.int .i64 0)) := by simp [szB]
theorem szB_step {l : List File} {i : Nat} {x : File} (hx : l[i]? = some x) : (szB l i).take (0 + i * 1) ++ [szA x] ++ (szB l i).drop (0 + i * 1 + 1) = szB l (i + 1) := by
  have hi := (List.getElem?_eq_some_iff.1 hx).1
  have hl : ((l.take i).map szA).length = i := by simp; omega
  obtain ⟨m, hm⟩ : ∃ m, l.length - i = m + 1 := ⟨l.length - i - 1, by omega⟩
  rw [Nat.zero_add, Nat.mul_one]
  unfold szB
  rw [hm, show l.length - (i + 1) = m by omega, takeS hx, List.map_append, List.replicate_succ]
  have h1 : (List.map szA (l.take i) ++ AV.v (.int .i64 0) :: List.replicate m (AV.v (.int .i64 0))).take i = (l.take i).map szA := List.take_left' hl
  have h2 : (List.map szA (l.take i) ++ AV.v (.int .i64 0) :: List.replicate m (AV.v (.int .i64 0))).drop (i + 1) = List.replicate m (AV.v (.int .i64 0)) := by
    rw [show (List.map szA (l.take i) ++ AV.v (.int .i64 0) :: List.replicate m (AV.v (.int .i64 0))) = (List.map szA (l.take i) ++ [AV.v (.int .i64 0)]) ++ List.replicate m (AV.v (.int .i64 0)) by simp]
    exact List.drop_left' (by rw [List.length_append, hl]; rfl)
  rw [h1, h2]; simp
theorem szB_at {l : List File} {k : Nat} {x : File} (hx : l[k]? = some x) : (szB l l.length)[0 + k * 1]? = some (szA x) := by
  have hk := (List.getElem?_eq_some_iff.1 hx).1
  rw [Nat.zero_add, Nat.mul_one, szB, List.take_of_length_le (Nat.le_refl _), List.getElem?_append_left (by simpa using hk), List.getElem?_map, hx]; rfl
def OutO (tF : Nat) (l : List File) (i : Nat) (A : Option Addr) (cap : Nat) (O : List OE) : Prop :=
  (i = 0 ∧ A = none ∧ cap = 0 ∧ O = []) ∨ (0 < i ∧ ∃ g, A = some ⟨g, 0, none⟩ ∧ O = [⟨g, true, .buf 2 ((bareL (l.take i)).map File.cs) cap tF⟩])
def fillF (l : List File) (k : Nat) (ext : List AV) : List AV := boxF (l.take k ++ bareL (l.drop k)) ext
theorem boxF_len (l : List File) (ext : List AV) : (boxF l ext).length = l.length * 2 + ext.length := by
  rw [boxF, List.length_append, flat_len (sz := 2) (fun c hc => by obtain ⟨f, _, rfl⟩ := List.mem_map.1 hc; rfl), List.length_map]
theorem fill_len {l : List File} {k : Nat} {ext : List AV} (h : k ≤ l.length) : (fillF l k ext).length = l.length * 2 + ext.length := by
  rw [fillF, boxF_len]; simp [bareL]; omega
theorem fill_step {l : List File} {k : Nat} {x : File} {ext : List AV} (hx : l[k]? = some x) : (fillF l k ext).take (0 + k * 2 + 1) ++ [bts x.data] ++ (fillF l k ext).drop (0 + k * 2 + 1 + 1) = fillF l (k + 1) ext := by
  have hk := (List.getElem?_eq_some_iff.1 hx).1
  have hd : l.drop k = x :: l.drop (k + 1) := by rw [List.drop_eq_getElem_cons hk, (List.getElem?_eq_some_iff.1 hx).2]
  have hl : (((l.take k).map File.cs).flatten).length = k * 2 := by
    rw [flat_len (sz := 2) (fun c hc => by obtain ⟨f, _, rfl⟩ := List.mem_map.1 hc; rfl), List.length_map, List.length_take]; omega
  have e1 : fillF l k ext = ((l.take k).map File.cs).flatten ++ (AV.v (.string x.name) :: bts [] :: (((bareL (l.drop (k + 1))).map File.cs).flatten ++ ext)) := by
    unfold fillF boxF
    rw [hd]
    simp [bareL, File.cs]
  have e2 : fillF l (k + 1) ext = ((l.take k).map File.cs).flatten ++ (AV.v (.string x.name) :: bts x.data :: (((bareL (l.drop (k + 1))).map File.cs).flatten ++ ext)) := by
    unfold fillF boxF
    rw [takeS hx]
    simp [bareL, File.cs]
  rw [e1, e2, Nat.zero_add, ← hl, List.take_length_add_append, Nat.add_assoc, List.drop_length_add_append]
  simp
theorem fill_zero (l : List File) (ext : List AV) : fillF l 0 ext = boxF (bareL l) ext := by simp [fillF]
theorem fill_end (l : List File) (ext : List AV) : fillF l l.length ext = (l.map File.cs).flatten ++ ext := by
  simp [fillF, bareL, boxF]
theorem perm3 {a b c : OE} {R : List OE} : (c :: a :: b :: R).Perm (a :: b :: c :: R) := (List.perm_middle (l₁ := [a, b]) (a := c) (l₂ := R)).symm
theorem u8s_app (a b : List UInt8) : u8s (a ++ b) = u8s a ++ u8s b := by simp [u8s]
theorem files_one {l : List File} : (l.map File.cs).flatten.all AV.one = true := by
  rw [List.all_eq_true]
  intro x hx
  obtain ⟨c, hc, hxc⟩ := List.mem_flatten.1 hx
  obtain ⟨f, _, rfl⟩ := List.mem_map.1 hc
  simp [File.cs] at hxc
  rcases hxc with rfl | rfl <;> rfl
end Go.Proofs.YtcbhhjahjnlfhaaDoor.A
namespace Go.Proofs.YtcbhhjahjnlfhaaDoor.A
open Go Go.RowKit
set_option linter.unusedVariables false
set_option linter.unusedSimpArgs false
set_option maxRecDepth 100000
theorem TG.un83 : Tryd.prog.underlying 83 = some (.array 5 5) := by kernel_rfl
theorem TG.en41 : entersT Tryd.prog 41 := enters_of Tryd.func41 (by kernel_rfl) (by kernel_rfl)
theorem TG.by33 : bytesT Tryd.prog 33 = some 32 := by kernel_rfl
theorem TG.zraw33 : zeroT Tryd.prog 33 = some [(.int .u8 0), (.int .u8 0), (.int .u8 0), (.int .u8 0), (.int .u8 0), (.int .u8 0), (.int .u8 0), (.int .u8 0), (.int .u8 0), (.int .u8 0), (.int .u8 0), (.int .u8 0), (.int .u8 0), (.int .u8 0), (.int .u8 0), (.int .u8 0), (.int .u8 0), (.int .u8 0), (.int .u8 0), (.int .u8 0), (.int .u8 0), (.int .u8 0), (.int .u8 0), (.int .u8 0), (.int .u8 0), (.int .u8 0), (.int .u8 0), (.int .u8 0), (.int .u8 0), (.int .u8 0), (.int .u8 0), (.int .u8 0)] := by kernel_rfl
theorem TG.en60 : entersT Tryd.prog 60 := enters_of Tryd.func60 (by kernel_rfl) (by kernel_rfl)
theorem TG.en62 : entersT Tryd.prog 62 := enters_of Tryd.func62 (by kernel_rfl) (by kernel_rfl)
theorem TG.en61 : entersT Tryd.prog 61 := enters_of Tryd.func61 (by kernel_rfl) (by kernel_rfl)
theorem TG.zlen33 : (zeroT Tryd.prog 33).map (·.length) = some 32 := by kernel_rfl
theorem TG.en38 : entersT Tryd.prog 38 := enters_of Tryd.func38 (by kernel_rfl) (by kernel_rfl)
theorem sumO_ok (bl : List Blk) (ext : List AV) (n : Nat) (hn : 1 + n ≤ bl.length) (hb : bl.length ≤ 1000000) {g cap : Nat} {A : Addr} (hA : 0 < n → A = ⟨g, 1 * 32, none⟩) {fl : Bool} : AC Tryd.prog 38 [.v (.slice (some A) n cap)] [⟨g, fl, .box (boxB bl ext)⟩] (fun r n1 => n1 = [] ∧ r = .v (.int .u64 (sumF ((bl.drop 1).take n) : Nat))) := by
 refine ac_of_awp (rs := [2]) (nt := 27) Tryd.func38 rfl rfl rfl rfl (fun w0 C0 hq => ?_)
 refine awp_seq ?_
 refine awp_region ?_
 refine r_assign rfl rfl ?_
 refine awl_nil ?_
 refine x_then ?_
 refine awp_seq ?_
 refine awp_region ?_
 refine r_assign rfl rfl ?_
 refine awl_nil ?_
 refine x_then ?_
 refine awp_seq ?_
 refine awp_seq ?_
 refine awp_region ?_
 refine r_move rfl rfl ?_
 refine r_lenV rfl TG.sl59 rfl ?_
 refine r_move rfl rfl ?_
 refine awl_nil ?_
 refine x_then ?_
 refine awp_block ?_
 refine awp_loop (fun nn0 S => ∃ k : Nat, S = ⟨27, [(3, .a (.v (.int .u64 (((sumF (((bl.drop 1).take n).take k) : Nat) : Int))))), (8, .a (.v (.slice (some A) n cap))), (9, .a (.v (.int .i64 ((n : Int))))), (10, .a (.v (.int .i64 ((k : Int)))))], [⟨g, false, .box (boxB bl ext)⟩]⟩ ∧ nn0 = n - k ∧ (k ≤ n)) (n - (0)) ⟨27, [(3, .a (.v (.int .u64 (((sumF (((bl.drop 1).take n).take (0)) : Nat) : Int))))), (8, .a (.v (.slice (some A) n cap))), (9, .a (.v (.int .i64 ((n : Int))))), (10, .a (.v (.int .i64 (((0) : Int)))))], [⟨g, false, .box (boxB bl ext)⟩]⟩ ⟨rfl, (Slots.cons rfl (by first | exact .refl _ | exact .nilOwn _ _ | exact .nilSl _ | exact .ownSl _ _ _  | exact SV.le.of_eq (by simp)) (Slots.cons rfl (by first | exact .refl _ | exact .nilOwn _ _ | exact .nilSl _ | exact .ownSl _ _ _  | exact SV.le.of_eq (by simp)) (Slots.cons rfl (by first | exact .refl _ | exact .nilOwn _ _ | exact .nilSl _ | exact .ownSl _ _ _  | exact SV.le.of_eq (by simp)) (Slots.cons rfl (by first | exact .refl _ | exact .nilOwn _ _ | exact .nilSl _ | exact .ownSl _ _ _  | exact SV.le.of_eq (by simp)) Slots.nil)))), (by first | exact List.Sublist.refl _ | exact .cons_cons _ (.cons _ (.refl _)) | exact List.nil_sublist _ | exact .cons _ (.refl _) | exact .cons _ (.cons _ (.refl _)) | exact .cons _ (.cons _ (.cons _ (.refl _))) | exact .cons _ (.cons _ (.cons _ (.cons _ (.refl _)))) | exact .cons_cons _ (List.nil_sublist _))⟩ ⟨0, rfl, rfl, Nat.zero_le _⟩ ?_
 rintro nn0 _ ⟨k, rfl, rfl, hk⟩
 refine awp_seq ?_
 refine awp_region ?_
 refine r_cmp rfl rfl rfl rfl ?_
 refine awl_nil ?_
 refine x_then ?_
 refine awp_seq ?_
 refine awp_cond rfl (fun hc0 => ?_) (fun hc0 => ?_)
 ·
  have hlt : k < n := by have := of_decide_eq_true hc0; omega
  obtain ⟨x, hx⟩ := get_lt (l := (bl.drop 1).take n) (i := k) (by simp; omega)
  have hx1 : bl[1 + k]? = some x := by rw [List.getElem?_take, if_pos hlt, List.getElem?_drop] at hx; exact hx
  refine awp_skip ?_
  refine x_then ?_
  refine awp_seq ?_
  refine awp_block ?_
  refine awp_seq ?_
  refine awp_region ?_
  refine r_indexAt (hA (by omega)) rfl rfl TG.sl59 TG.sz33 (by omega) (by omega) rfl ?_
  refine r_loadAbe 0 (blkC x) (by rw [Int.toNat_natCast, ← Nat.add_mul]; exact row_at hx1) rfl rfl TG.agg33 TG.sz33 (Nat.ble_eq_true_of_le (by rw [Int.toNat_natCast, boxB_len]; omega)) rfl ?_
  refine r_alloc TG.zero33 rfl (fun b5 => ?_)
  refine r_store 0 rfl rfl rfl TG.sz33 rfl rfl rfl ?_
  refine awl_nil ?_
  refine x_then ?_
  refine awp_seq ?_
  refine awp_region ?_
  refine r_loadAbe 0 (blkC x) rfl rfl rfl TG.agg33 TG.sz33 rfl rfl ?_
  refine r_move rfl rfl ?_
  refine awl_nil ?_
  refine x_then ?_
  refine awp_block ?_
  refine awp_loop (fun nn0 S => ∃ j : Nat, ∃ acc : Nat, S = ⟨27, [(3, .a (.v (.int .u64 (((acc : Nat) : Int))))), (8, .a (.v (.slice (some A) n cap))), (9, .a (.v (.int .i64 ((n : Int))))), (10, .a (.v (.int .i64 ((k : Int))))), (14, .a (blkA x)), (15, .a (.v (.int .i64 ((j : Int)))))], [⟨g, false, .box (boxB bl ext)⟩]⟩ ∧ nn0 = 32 - j ∧ (j ≤ 32) ∧ (acc = (bpart x 0 j).foldl stepS (sumF (((bl.drop 1).take n).take k))) ∧ (acc < 65536)) (32 - (0)) ⟨27, [(3, .a (.v (.int .u64 (((((sumF (((bl.drop 1).take n).take k))) : Nat) : Int))))), (8, .a (.v (.slice (some A) n cap))), (9, .a (.v (.int .i64 ((n : Int))))), (10, .a (.v (.int .i64 ((k : Int))))), (14, .a (blkA x)), (15, .a (.v (.int .i64 (((0) : Int)))))], [⟨g, false, .box (boxB bl ext)⟩]⟩ ⟨rfl, (Slots.cons rfl (by first | exact .refl _ | exact .nilOwn _ _ | exact .nilSl _ | exact .ownSl _ _ _  | exact SV.le.of_eq (by simp)) (Slots.cons rfl (by first | exact .refl _ | exact .nilOwn _ _ | exact .nilSl _ | exact .ownSl _ _ _  | exact SV.le.of_eq (by simp)) (Slots.cons rfl (by first | exact .refl _ | exact .nilOwn _ _ | exact .nilSl _ | exact .ownSl _ _ _  | exact SV.le.of_eq (by simp)) (Slots.cons rfl (by first | exact .refl _ | exact .nilOwn _ _ | exact .nilSl _ | exact .ownSl _ _ _  | exact SV.le.of_eq (by simp)) (Slots.cons rfl (by first | exact .refl _ | exact .nilOwn _ _ | exact .nilSl _ | exact .ownSl _ _ _  | exact SV.le.of_eq (by simp)) (Slots.cons rfl (by first | exact .refl _ | exact .nilOwn _ _ | exact .nilSl _ | exact .ownSl _ _ _  | exact SV.le.of_eq (by simp)) Slots.nil)))))), (.cons _ (.refl _))⟩ ⟨0, (sumF (((bl.drop 1).take n).take k)), rfl, rfl, Nat.zero_le _, rfl, (sum_lt _)⟩ ?_
  rintro nn0 _ ⟨j, acc, rfl, rfl, hj, hac, hal⟩
  refine awp_seq ?_
  refine awp_region ?_
  refine r_cmp rfl rfl rfl rfl ?_
  refine awl_nil ?_
  refine x_then ?_
  refine awp_seq ?_
  refine awp_cond rfl (fun hc1 => ?_) (fun hc1 => ?_)
  ·
   have hj32 : j < 32 := by have := of_decide_eq_true hc1; omega
   refine awp_skip ?_
   refine x_then ?_
   refine awp_seq ?_
   refine awp_block ?_
   refine awp_seq ?_
   refine awp_region ?_
   refine r_idxArr rfl rfl TG.un33 TG.sz5 TG.agg5 hj32 (blkC_at x hj32) rfl ?_
   refine r_assign rfl rfl ?_
   refine awl_nil ?_
   refine x_then ?_
   refine awp_region ?_
   refine r_move rfl rfl ?_
   refine r_ari _ rfl rfl rfl (wrapU_id (by omega)) rfl ?_
   refine r_move rfl rfl ?_
   refine r_conv _ rfl TG.un5 TG.un47 (wrapU_id (by have := (x.getD j 0).toNat_lt; omega)) rfl ?_
   refine r_ari _ rfl rfl rfl (wrapU_id (by have := (x.getD j 0).toNat_lt; omega)) rfl ?_
   refine r_div ((stepS acc (x.getD j 0) : Nat) : Int) rfl rfl (rem_some (by decide)) (by rw [Int.tmod_eq_emod_of_nonneg (by omega)]; unfold stepS; omega) rfl ?_
   refine r_assign rfl rfl ?_
   refine awl_nil ?_
   refine x_block ?_
   refine x_then ?_
   refine awp_region ?_
   refine r_ari _ rfl rfl rfl (wrap_id (by first | omega | (simp; omega))) rfl ?_
   refine r_move rfl rfl ?_
   refine awl_nil ?_
   refine x_then ?_
   refine ⟨32 - (j + 1), ⟨27, [(3, .a (.v (.int .u64 ((((stepS acc (x.getD j 0)) : Nat) : Int))))), (8, .a (.v (.slice (some A) n cap))), (9, .a (.v (.int .i64 ((n : Int))))), (10, .a (.v (.int .i64 ((k : Int))))), (14, .a (blkA x)), (15, .a (.v (.int .i64 (((j + 1) : Int)))))], [⟨g, false, .box (boxB bl ext)⟩]⟩, ⟨rfl, (Slots.cons rfl (by first | exact .refl _ | exact .nilOwn _ _ | exact .nilSl _ | exact .ownSl _ _ _  | exact SV.le.of_eq (by simp)) (Slots.cons rfl (by first | exact .refl _ | exact .nilOwn _ _ | exact .nilSl _ | exact .ownSl _ _ _  | exact SV.le.of_eq (by simp)) (Slots.cons rfl (by first | exact .refl _ | exact .nilOwn _ _ | exact .nilSl _ | exact .ownSl _ _ _  | exact SV.le.of_eq (by simp)) (Slots.cons rfl (by first | exact .refl _ | exact .nilOwn _ _ | exact .nilSl _ | exact .ownSl _ _ _  | exact SV.le.of_eq (by simp)) (Slots.cons rfl (by first | exact .refl _ | exact .nilOwn _ _ | exact .nilSl _ | exact .ownSl _ _ _  | exact SV.le.of_eq (by simp)) (Slots.cons rfl (by first | exact .refl _ | exact .nilOwn _ _ | exact .nilSl _ | exact .ownSl _ _ _  | exact SV.le.of_eq (by simp)) Slots.nil)))))), (by first | exact List.Sublist.refl _ | exact .cons_cons _ (.cons _ (.refl _)) | exact List.nil_sublist _ | exact .cons _ (.refl _) | exact .cons _ (.cons _ (.refl _)) | exact .cons _ (.cons _ (.cons _ (.refl _))) | exact .cons _ (.cons _ (.cons _ (.cons _ (.refl _)))) | exact .cons_cons _ (List.nil_sublist _))⟩, (by omega), ⟨j + 1, stepS acc (x.getD j 0), rfl, rfl, (by omega), (by rw [bpart_step hj32, List.foldl_append, ← hac]; rfl), (stepS_lt _ _)⟩⟩
  ·
   have hj32 : j = 32 := by have := of_decide_eq_false hc1; omega
   subst hj32
   have hacc : rowS (sumF (((bl.drop 1).take n).take k)) x = acc := (rowS_def _ _).trans hac.symm
   refine awp_exit ?_
   refine x_thenE ?_
   refine x_thenE ?_
   refine x_blockE ?_
   refine x_block ?_
   refine x_then ?_
   refine awp_region ?_
   refine r_ari _ rfl rfl rfl (wrap_id (by first | omega | (simp; omega))) rfl ?_
   refine r_move rfl rfl ?_
   refine awl_nil ?_
   refine x_then ?_
   have hst : sumF (((bl.drop 1).take n).take (k + 1)) = acc := sum_step hx hacc
   refine ⟨n - (k + 1), ⟨27, [(3, .a (.v (.int .u64 (((sumF (((bl.drop 1).take n).take (k + 1)) : Nat) : Int))))), (8, .a (.v (.slice (some A) n cap))), (9, .a (.v (.int .i64 ((n : Int))))), (10, .a (.v (.int .i64 (((k + 1) : Int)))))], [⟨g, false, .box (boxB bl ext)⟩]⟩, ⟨rfl, (Slots.cons rfl (by first | exact .refl _ | exact .nilOwn _ _ | exact .nilSl _ | exact .ownSl _ _ _  | exact SV.le.ownEq (by rw [hst]) | exact SV.le.of_eq (by rw [hst])) (Slots.cons rfl (by first | exact .refl _ | exact .nilOwn _ _ | exact .nilSl _ | exact .ownSl _ _ _  | exact SV.le.ownEq (by rw [hst]) | exact SV.le.of_eq (by rw [hst])) (Slots.cons rfl (by first | exact .refl _ | exact .nilOwn _ _ | exact .nilSl _ | exact .ownSl _ _ _  | exact SV.le.ownEq (by rw [hst]) | exact SV.le.of_eq (by rw [hst])) (Slots.cons rfl (by first | exact .refl _ | exact .nilOwn _ _ | exact .nilSl _ | exact .ownSl _ _ _  | exact SV.le.ownEq (by rw [hst]) | exact SV.le.of_eq (by rw [hst])) Slots.nil)))), (by first | exact List.Sublist.refl _ | exact .cons_cons _ (.cons _ (.refl _)) | exact List.nil_sublist _ | exact .cons _ (.refl _) | exact .cons _ (.cons _ (.refl _)) | exact .cons _ (.cons _ (.cons _ (.refl _))) | exact .cons _ (.cons _ (.cons _ (.cons _ (.refl _)))) | exact .cons_cons _ (List.nil_sublist _))⟩, (by omega), ⟨k + 1, rfl, rfl, (by omega)⟩⟩
 ·
  have hge : n ≤ k := by have := of_decide_eq_false hc0; omega
  have hkl : ((bl.drop 1).take n).take k = (bl.drop 1).take n := List.take_of_length_le (by simp; omega)
  refine awp_exit ?_
  refine x_thenE ?_
  refine x_thenE ?_
  refine x_blockE ?_
  refine x_then ?_
  refine awp_seq ?_
  refine awp_region ?_
  refine r_move rfl rfl ?_
  refine r_assign rfl rfl ?_
  refine awl_nil ?_
  refine x_then ?_
  refine awp_ret ?_
  exact ⟨(.inl rfl), _, [], (.one (by first | exact .mk rfl rfl | exact .nil rfl)), ⟨rfl, by rw [hkl]; rfl⟩, (List.nil_sublist _), (by simp)⟩
set_option maxHeartbeats 4000000 in
theorem make_ok (l : List File) (hl : l.length ≤ 1000000) (hs : ∀ f ∈ l, f.name.size ≤ 1000000) (hd : ∀ f ∈ l, f.data.length ≤ 1000000) : AWC MG Tryd.prog 19 [files l] [] [] (fun r n => n = [] ∧ ((okFs l = true ∧ r = .tup [blksA (diskF l), .v (.int .i64 0)]) ∨ (okFs l = false ∧ ∃ e : Int, ¬ e = 0 ∧ r = .tup [.v (.slice none 0 0), .v (.int .i64 e)]))) := by
 refine awc_of_awpG MG (so := []) (nt := 102) (fun S r => Result1 S [2, 3] r) Tryd.func19 rfl rfl rfl rfl (result1_run rfl) (fun w0 C0 hq hcs => ?_)
 refine awp_seq ?_
 refine awp_region ?_
 refine r_assign rfl rfl ?_
 refine r_assign rfl rfl ?_
 refine awl_nil ?_
 refine x_then ?_
 refine awp_seq ?_
 refine awp_block ?_
 refine awp_seq ?_
 refine awp_region ?_
 refine r_move rfl rfl ?_
 refine r_lenS rfl rfl TG.sl24 rfl ?_
 refine r_cmp rfl rfl rfl rfl ?_
 refine r_assign rfl rfl ?_
 refine awl_nil ?_
 refine x_then ?_
 refine awp_cond rfl (fun hc0 => ?_) (fun hc0 => ?_)
 ·
  have hbad : okFs l = false := by unfold okFs; rw [decide_eq_false (by have := of_decide_eq_true hc0; simp at this; omega)]; rfl
  refine awp_seq ?_
  refine awp_region ?_
  refine r_assign rfl rfl ?_
  refine r_assign rfl rfl ?_
  refine awl_nil ?_
  refine x_then ?_
  refine awp_ret ?_
  refine x_blockR ?_
  refine x_thenR ?_
  exact ⟨(.inl rfl), _, [], (.two (by first | exact .mk rfl rfl | exact .nil rfl) (by first | exact .mk rfl rfl | exact .nil rfl)), ⟨rfl, .inr ⟨hbad, 6, by decide, rfl⟩⟩, (List.nil_sublist _), (by simp)⟩
 ·
  have hl8 : l.length ≤ 8 := by have := of_decide_eq_false hc0; simp at this; omega
  refine awp_seq ?_
  refine awp_region ?_
  refine r_move rfl rfl ?_
  refine r_call0 hq rfl rfl (.cons (.ev rfl rfl) .nil) (together_ok l hl hs) rfl TG.en41 rfl (fun r hr => ?_)
  obtain rfl := hr
  refine r_not rfl rfl ?_
  refine r_assign rfl rfl ?_
  refine awl_nil ?_
  refine x_then ?_
  refine awp_cond rfl (fun hc1 => ?_) (fun hc1 => ?_)
  ·
   have hbad : okFs l = false := by unfold okFs; rw [show togetherS l = false by simpa using hc1, Bool.and_false]
   refine awp_seq ?_
   refine awp_region ?_
   refine r_assign rfl rfl ?_
   refine r_assign rfl rfl ?_
   refine awl_nil ?_
   refine x_then ?_
   refine awp_ret ?_
   refine x_blockR ?_
   refine x_thenR ?_
   exact ⟨(.inl rfl), _, [], (.two (by first | exact .mk rfl rfl | exact .nil rfl) (by first | exact .mk rfl rfl | exact .nil rfl)), ⟨rfl, .inr ⟨hbad, 3, by decide, rfl⟩⟩, (List.nil_sublist _), (by simp)⟩
  ·
   have htog : togetherS l = true := by simpa using hc1
   have hok : okFs l = true := by unfold okFs; rw [htog, decide_eq_true hl8]; rfl
   refine awp_skip ?_
   refine x_block ?_
   refine x_then ?_
   refine awp_seq ?_
   refine awp_region ?_
   refine r_move rfl rfl ?_
   refine r_lenS rfl rfl TG.sl24 rfl ?_
   refine r_ari ((1 + l.length : Nat) : Int) rfl rfl rfl (by rw [List.length_map, wrap_id (by omega)]; omega) rfl ?_
   refine r_makeSliceZ rfl rfl TG.sl59 TG.sz33 TG.by33 TG.zraw33 rfl (by omega) (by omega) rfl (fun b22 => ?_)
   refine awl_imp (imp_boxEq 0 (boxB (mkB l 0) []) rfl (by rw [mkB_zero, boxB, List.append_nil, List.map_replicate]; rfl)) ?_
   refine r_assign rfl rfl ?_
   refine awl_nil ?_
   refine x_then ?_
   refine awp_seq ?_
   refine awp_seq ?_
   refine awp_region ?_
   refine r_move rfl rfl ?_
   refine r_lenS rfl rfl TG.sl24 rfl ?_
   refine r_move rfl rfl ?_
   refine awl_nil ?_
   refine x_then ?_
   refine awp_block ?_
   refine awp_loop (fun nn0 S => ∃ k : Nat, ∃ g : Nat, ∃ cap : Nat, ∃ ext : List AV, S = ⟨102, [(0, .a (files l)), (4, .a (.v (.slice (some ⟨g, 0, none⟩) (mkB l k).length cap))), (23, .a (files l)), (24, .a (.v (.int .i64 ((l.map File.cs).length)))), (25, .a (.v (.int .i64 ((k : Int)))))], [⟨g, true, .box (boxB (mkB l k) ext)⟩]⟩ ∧ nn0 = l.length - k ∧ (k ≤ l.length) ∧ ((mkB l k).length ≤ cap) ∧ ((mkB l k).length * 32 + ext.length = cap * 32)) (l.length - (0)) ⟨102, [(0, .a (files l)), (4, .a (.v (.slice (some ⟨(b22), 0, none⟩) (mkB l (0)).length ((1 + l.length))))), (23, .a (files l)), (24, .a (.v (.int .i64 ((l.map File.cs).length)))), (25, .a (.v (.int .i64 (((0) : Int)))))], [⟨(b22), true, .box (boxB (mkB l (0)) ([]))⟩]⟩ ⟨rfl, (Slots.cons rfl (by first | exact .refl _ | exact .nilOwn _ _ | exact .nilSl _ | exact .ownSl _ _ _  | exact SV.le.ownEq (by rw [mkB_zero, List.length_replicate]) | exact SV.le.of_eq (by rw [mkB_zero, List.length_replicate])) (Slots.cons rfl (by first | exact .refl _ | exact .nilOwn _ _ | exact .nilSl _ | exact .ownSl _ _ _  | exact SV.le.ownEq (by rw [mkB_zero, List.length_replicate]) | exact SV.le.of_eq (by rw [mkB_zero, List.length_replicate])) (Slots.cons rfl (by first | exact .refl _ | exact .nilOwn _ _ | exact .nilSl _ | exact .ownSl _ _ _  | exact SV.le.ownEq (by rw [mkB_zero, List.length_replicate]) | exact SV.le.of_eq (by rw [mkB_zero, List.length_replicate])) (Slots.cons rfl (by first | exact .refl _ | exact .nilOwn _ _ | exact .nilSl _ | exact .ownSl _ _ _  | exact SV.le.ownEq (by rw [mkB_zero, List.length_replicate]) | exact SV.le.of_eq (by rw [mkB_zero, List.length_replicate])) (Slots.cons rfl (by first | exact .refl _ | exact .nilOwn _ _ | exact .nilSl _ | exact .ownSl _ _ _  | exact SV.le.ownEq (by rw [mkB_zero, List.length_replicate]) | exact SV.le.of_eq (by rw [mkB_zero, List.length_replicate])) Slots.nil))))), (List.Sublist.refl _)⟩ ⟨0, b22, (1 + l.length), [], rfl, rfl, Nat.zero_le _, (by rw [mkB_zero, List.length_replicate]; exact Nat.le_refl _), (by rw [mkB_zero, List.length_replicate]; rfl)⟩ ?_
   rintro nn0 _ ⟨k, g, cap, ext, rfl, rfl, hk, hcap, hext⟩
   refine awp_seq ?_
   refine awp_region ?_
   refine r_cmp rfl rfl rfl rfl ?_
   refine awl_nil ?_
   refine x_then ?_
   refine awp_seq ?_
   refine awp_cond rfl (fun hc2 => ?_) (fun hc2 => ?_)
   ·
    have hltx : k < l.length := by have := of_decide_eq_true hc2; simpa using this
    obtain ⟨x, hx⟩ := get_lt hltx
    have hmem := List.mem_of_getElem? hx
    obtain ⟨hn1, hn12, hd256⟩ := right_bnd (tog_right htog hmem)
    have hrow := mkB_row hx
    have hml := mkB_small hok (show k ≤ l.length by omega)
    have hgel := mkB_len (l := l) (k := k) (by omega)
    obtain ⟨bl, hbl⟩ : ∃ bl, bl = mkB l k := ⟨_, rfl⟩
    rw [← hbl] at hcap hext hrow hml hgel ⊢
    have hr1 : 1 + k < bl.length := by omega
    refine awp_skip ?_
    refine x_then ?_
    refine awp_seq ?_
    refine awp_block ?_
    refine awp_seq ?_
    refine awp_region ?_
    refine r_move rfl rfl ?_
    refine r_index rfl rfl rfl TG.sl24 TG.sz26 (by omega) (get_map hx) rfl ?_
    refine r_loadA rfl TG.agg26 TG.sz26 rfl rfl ?_
    refine r_alloc TG.zero26 rfl (fun b6 => ?_)
    refine r_assign rfl rfl ?_
    refine r_store 0 rfl rfl rfl TG.sz26 rfl rfl rfl ?_
    refine awl_nil ?_
    refine x_then ?_
    refine awp_seq ?_
    refine awp_region ?_
    refine r_move rfl rfl ?_
    refine r_move rfl rfl ?_
    refine r_ari ((1 + k : Nat) : Int) rfl rfl rfl (by rw [wrap_id (by omega)]; omega) rfl ?_
    refine r_indexV rfl rfl TG.sl59 TG.sz33 (by omega) (by omega) rfl ?_
    refine r_assign rfl rfl ?_
    refine awl_nil ?_
    refine x_then ?_
    refine awp_seq ?_
    refine awp_drawS [34, 35, 36, 37, 38] [_, _, _, _, _] [] [] TG.mixed rfl rfl rfl ⟨⟨⟨⟨⟨trivial
     , ⟨_, rfl, fun sl hd hr ho => by
       refine r_move (hr 7 _ rfl rfl rfl) rfl ?_
       exact awl_nil ⟨rfl, post_put⟩⟩⟩
     , ⟨_, rfl, fun sl hd hr ho => by
       refine r_nilCheck (hd 0 _ rfl rfl rfl) (by first | exact .pt _ _ | exact .v _ | exact .cp _) rfl ?_
       exact awl_nil ⟨rfl, post_put⟩⟩⟩
     , ⟨_, rfl, fun sl hd hr ho => by
       refine r_arrB (l := 0) (h := 32) (hd 1 _ rfl rfl rfl) TG.un33 TG.sz5 .none .none (by omega) (by omega) (by omega) rfl ?_
       exact awl_nil ⟨rfl, post_put⟩⟩⟩
     , ⟨_, rfl, fun sl hd hr ho => by
       refine r_fieldb (hr 6 _ rfl rfl rfl) TG.f26_0 TG.sz9 rfl ?_
       exact awl_nil ⟨rfl, post_put⟩⟩⟩
     , ⟨_, rfl, fun sl hd hr ho => by
       refine r_load1b 0 (hd 3 _ rfl rfl rfl) rfl rfl TG.agg9 rfl ?_
       exact awl_nil ⟨rfl, post_put⟩⟩⟩
     (by rfl) ?_
    refine r_copyStr 1 x.name.size (boxB (bl.set (1 + k) (putAt [] 0 x.name.data.toList)) ext) rfl rfl (by omega) rfl TG.sl22 TG.sz5 (by rw [boxB_len]; omega) (by rw [show 0 + (((1 + k : Nat) : Int)).toNat * 32 + 0 = (1 + k) * 32 + 0 by omega]; exact name_put hrow (by omega)) rfl ?_
    refine awl_nil ?_
    refine x_then ?_
    refine awp_seq ?_
    refine awp_drawS [40, 41, 42, 43, 44, 45, 46, 47] [_, _, _, _, _, _, _, _] [] [] TG.mixed rfl rfl rfl ⟨⟨⟨⟨⟨⟨⟨⟨trivial
     , ⟨_, rfl, fun sl hd hr ho => by
       refine r_move (hr 7 _ rfl rfl rfl) rfl ?_
       exact awl_nil ⟨rfl, post_put⟩⟩⟩
     , ⟨_, rfl, fun sl hd hr ho => by
       refine r_nilCheck (hd 0 _ rfl rfl rfl) (by first | exact .pt _ _ | exact .v _ | exact .cp _) rfl ?_
       exact awl_nil ⟨rfl, post_put⟩⟩⟩
     , ⟨_, rfl, fun sl hd hr ho => by
       refine r_arrB (l := 12) (h := 32) (hd 1 _ rfl rfl rfl) TG.un33 TG.sz5 (.some rfl) .none (by omega) (by omega) (by omega) rfl ?_
       exact awl_nil ⟨rfl, post_put⟩⟩⟩
     , ⟨_, rfl, fun sl hd hr ho => by
       refine r_fieldb (hr 6 _ rfl rfl rfl) TG.f26_1 TG.sz22 rfl ?_
       exact awl_nil ⟨rfl, post_put⟩⟩⟩
     , ⟨_, rfl, fun sl hd hr ho => by
       refine r_load1b 0 (hd 3 _ rfl rfl rfl) rfl rfl TG.agg22 rfl ?_
       exact awl_nil ⟨rfl, post_put⟩⟩⟩
     , ⟨_, rfl, fun sl hd hr ho => by
       refine r_lenS (hd 4 _ rfl rfl rfl) rfl TG.sl22 rfl ?_
       exact awl_nil ⟨rfl, post_put⟩⟩⟩
     , ⟨_, rfl, fun sl hd hr ho => by
       refine r_conv ((x.data.length : Nat) : Int) (hd 5 _ rfl rfl rfl) TG.un3 TG.un47 (by rw [u8sL]; exact wrap_u64 (by omega)) rfl ?_
       exact awl_nil ⟨rfl, post_put⟩⟩⟩
     , ⟨_, rfl, fun sl hd hr ho => by
       refine r_call0 hq rfl rfl (.cons (.ev (hd 6 _ rfl rfl rfl) rfl) (.cons (.ev rfl rfl) .nil)) (put2_ok x.data.length (by omega)) rfl TG.en60 rfl (fun r hr => ?_)
       obtain rfl := hr
       exact awl_nil ⟨rfl, post_put⟩⟩⟩
     (by rfl) ?_
    refine r_copyE 1 2 (boxB (bl.set (1 + k) (putAt (putAt [] 0 x.name.data.toList) 12 (be2 x.data.length))) ext) rfl rfl (by omega) (srcOk_all rfl rfl) rfl rfl TG.sl22 TG.sz5 (by decide) rfl (by rw [boxB_len]; try rw [List.length_set]; omega) ((num_put (c := 12) (set_at hrow) (by rw [be2_len]; omega) (by omega) rfl).trans (by rw [List.set_set])) rfl ?_
    refine awl_nil ?_
    refine x_then ?_
    refine awp_cut (fun S => S = ⟨102, [(0, .a (files l)), (4, .a (.v (.slice (some ⟨g, 0, none⟩) bl.length cap))), (6, .a (.v (.pointer (some ⟨b6, 0, none⟩)))), (23, .a (files l)), (24, .a (.v (.int .i64 ((l.map File.cs).length)))), (25, .a (.v (.int .i64 ((k : Int)))))], [⟨b6, true, .box (File.cs x)⟩, ⟨g, true, .box (boxB (bl.set (1 + k) (tabF x bl.length)) ext)⟩]⟩) ?_ ?_
    ·
     refine awp_seq ?_
     refine awp_region ?_
     refine r_fieldb rfl TG.f26_1 TG.sz22 rfl ?_
     refine r_load1b 0 rfl rfl rfl TG.agg22 rfl ?_
     refine r_lenS rfl rfl TG.sl22 rfl ?_
     refine r_cmp rfl rfl rfl rfl ?_
     refine awl_nil ?_
     refine x_then ?_
     refine awp_cond rfl (fun hc3 => ?_) (fun hc3 => ?_)
     ·
      have hne : ¬ x.data = [] := by intro h; rw [h] at hc3; simp [u8s] at hc3
      refine awp_drawS [53, 54, 55, 56, 57, 58, 59] [_, _, _, _, _, _, _] [] [] TG.mixed rfl rfl rfl ⟨⟨⟨⟨⟨⟨⟨trivial
       , ⟨_, rfl, fun sl hd hr ho => by
         refine r_move (hr 7 _ rfl rfl rfl) rfl ?_
         exact awl_nil ⟨rfl, post_put⟩⟩⟩
       , ⟨_, rfl, fun sl hd hr ho => by
         refine r_nilCheck (hd 0 _ rfl rfl rfl) (by first | exact .pt _ _ | exact .v _ | exact .cp _) rfl ?_
         exact awl_nil ⟨rfl, post_put⟩⟩⟩
       , ⟨_, rfl, fun sl hd hr ho => by
         refine r_arrB (l := 14) (h := 32) (hd 1 _ rfl rfl rfl) TG.un33 TG.sz5 (.some rfl) .none (by omega) (by omega) (by omega) rfl ?_
         exact awl_nil ⟨rfl, post_put⟩⟩⟩
       , ⟨_, rfl, fun sl hd hr ho => by
         refine r_move (hr 4 _ rfl rfl rfl) rfl ?_
         exact awl_nil ⟨rfl, post_put⟩⟩⟩
       , ⟨_, rfl, fun sl hd hr ho => by
         refine r_lenV (hd 3 _ rfl rfl rfl) TG.sl59 rfl ?_
         exact awl_nil ⟨rfl, post_put⟩⟩⟩
       , ⟨_, rfl, fun sl hd hr ho => by
         refine r_conv ((bl.length : Nat) : Int) (hd 4 _ rfl rfl rfl) TG.un3 TG.un47 (wrap_u64 (by omega)) rfl ?_
         exact awl_nil ⟨rfl, post_put⟩⟩⟩
       , ⟨_, rfl, fun sl hd hr ho => by
         refine r_call0 hq rfl rfl (.cons (.ev (hd 5 _ rfl rfl rfl) rfl) (.cons (.ev rfl rfl) .nil)) (put2_ok bl.length (by omega)) rfl TG.en60 rfl (fun r hr => ?_)
         obtain rfl := hr
         exact awl_nil ⟨rfl, post_put⟩⟩⟩
       (by rfl) ?_
      refine r_copyE 1 2 (boxB (bl.set (1 + k) (putAt (putAt (putAt [] 0 x.name.data.toList) 12 (be2 x.data.length)) 14 (be2 bl.length))) ext) rfl rfl (by omega) (srcOk_all rfl rfl) rfl rfl TG.sl22 TG.sz5 (by decide) rfl (by rw [boxB_len]; try rw [List.length_set]; omega) ((num_put (c := 14) (set_at hrow) (by rw [be2_len]; omega) (by omega) rfl).trans (by rw [List.set_set])) rfl ?_
      refine awl_nil ?_
      refine x_then ?_
      refine ⟨⟨102, [(0, .a (files l)), (4, .a (.v (.slice (some ⟨g, 0, none⟩) bl.length cap))), (6, .a (.v (.pointer (some ⟨b6, 0, none⟩)))), (23, .a (files l)), (24, .a (.v (.int .i64 ((l.map File.cs).length)))), (25, .a (.v (.int .i64 ((k : Int)))))], [⟨b6, true, .box (File.cs x)⟩, ⟨g, true, .box (boxB (bl.set (1 + k) (tabF x bl.length)) ext)⟩]⟩, ⟨rfl, (Slots.cons rfl (by first | exact .refl _ | exact .nilOwn _ _ | exact .nilSl _ | exact .ownSl _ _ _  | exact SV.le.of_eq (by simp)) (Slots.cons rfl (by first | exact .refl _ | exact .nilOwn _ _ | exact .nilSl _ | exact .ownSl _ _ _  | exact SV.le.of_eq (by simp)) (Slots.cons rfl (by first | exact .refl _ | exact .nilOwn _ _ | exact .nilSl _ | exact .ownSl _ _ _  | exact SV.le.of_eq (by simp)) (Slots.cons rfl (by first | exact .refl _ | exact .nilOwn _ _ | exact .nilSl _ | exact .ownSl _ _ _  | exact SV.le.of_eq (by simp)) (Slots.cons rfl (by first | exact .refl _ | exact .nilOwn _ _ | exact .nilSl _ | exact .ownSl _ _ _  | exact SV.le.of_eq (by simp)) (Slots.cons rfl (by first | exact .refl _ | exact .nilOwn _ _ | exact .nilSl _ | exact .ownSl _ _ _  | exact SV.le.of_eq (by simp)) Slots.nil)))))), (by first | (rw [← tab_puts x bl.length hne]; exact List.Sublist.refl _) | (rw [← tab_puts0 x bl.length he0]; exact List.Sublist.refl _))⟩, rfl⟩
     ·
      have he0 : x.data = [] := by have := of_decide_eq_false hc3; rw [u8sL] at this; exact List.eq_nil_of_length_eq_zero (by omega)
      refine awp_skip ?_
      refine x_then ?_
      refine ⟨⟨102, [(0, .a (files l)), (4, .a (.v (.slice (some ⟨g, 0, none⟩) bl.length cap))), (6, .a (.v (.pointer (some ⟨b6, 0, none⟩)))), (23, .a (files l)), (24, .a (.v (.int .i64 ((l.map File.cs).length)))), (25, .a (.v (.int .i64 ((k : Int)))))], [⟨b6, true, .box (File.cs x)⟩, ⟨g, true, .box (boxB (bl.set (1 + k) (tabF x bl.length)) ext)⟩]⟩, ⟨rfl, (Slots.cons rfl (by first | exact .refl _ | exact .nilOwn _ _ | exact .nilSl _ | exact .ownSl _ _ _  | exact SV.le.of_eq (by simp)) (Slots.cons rfl (by first | exact .refl _ | exact .nilOwn _ _ | exact .nilSl _ | exact .ownSl _ _ _  | exact SV.le.of_eq (by simp)) (Slots.cons rfl (by first | exact .refl _ | exact .nilOwn _ _ | exact .nilSl _ | exact .ownSl _ _ _  | exact SV.le.of_eq (by simp)) (Slots.cons rfl (by first | exact .refl _ | exact .nilOwn _ _ | exact .nilSl _ | exact .ownSl _ _ _  | exact SV.le.of_eq (by simp)) (Slots.cons rfl (by first | exact .refl _ | exact .nilOwn _ _ | exact .nilSl _ | exact .ownSl _ _ _  | exact SV.le.of_eq (by simp)) (Slots.cons rfl (by first | exact .refl _ | exact .nilOwn _ _ | exact .nilSl _ | exact .ownSl _ _ _  | exact SV.le.of_eq (by simp)) Slots.nil)))))), (by first | (rw [← tab_puts x bl.length hne]; exact List.Sublist.refl _) | (rw [← tab_puts0 x bl.length he0]; exact List.Sublist.refl _))⟩, rfl⟩
    ·
     rintro _ ⟨rfl⟩
     refine awp_seq ?_
     refine awp_region ?_
     refine r_fieldb rfl TG.f26_1 TG.sz22 rfl ?_
     refine r_load1b 0 rfl rfl rfl TG.agg22 rfl ?_
     refine r_call0 hq rfl rfl (.cons (.ev rfl rfl) (.cons (.ev rfl rfl) .nil)) (chunk_ok x.data) rfl TG.en62 rfl (fun r hr => ?_)
     obtain rfl := hr
     refine r_call0 hq rfl rfl (.cons (.ev rfl rfl) .nil) (collectB_ok x.data (by omega)) rfl TG.en61 rfl (fun r hr => ?_)
     obtain rfl := hr
     refine r_lenS rfl rfl TG.sl119 rfl ?_
     refine r_move rfl rfl ?_
     refine awl_nil ?_
     refine x_then ?_
     refine awp_block ?_
     refine awp_loop (fun nn0 S => ∃ j : Nat, ∃ g2 : Nat, ∃ cap2 : Nat, ∃ ext2 : List AV, S = ⟨102, [(0, .a (files l)), (4, .a (.v (.slice (some ⟨g2, 0, none⟩) (bl.length + j) cap2))), (23, .a (files l)), (24, .a (.v (.int .i64 ((l.map File.cs).length)))), (25, .a (.v (.int .i64 ((k : Int))))), (64, .a (.sl 1 ((datF x).map rowB))), (65, .a (.v (.int .i64 (((datF x).map rowB).length)))), (66, .a (.v (.int .i64 ((j : Int)))))], [⟨g2, true, .box (boxB ((bl.set (1 + k) (tabF x bl.length)) ++ (datF x).take j) ext2)⟩]⟩ ∧ nn0 = (datF x).length - j ∧ (j ≤ (datF x).length) ∧ (bl.length + j ≤ cap2) ∧ ((bl.length + j) * 32 + ext2.length = cap2 * 32)) ((datF x).length - (0)) ⟨102, [(0, .a (files l)), (4, .a (.v (.slice (some ⟨(g), 0, none⟩) (bl.length + (0)) (cap)))), (23, .a (files l)), (24, .a (.v (.int .i64 ((l.map File.cs).length)))), (25, .a (.v (.int .i64 ((k : Int))))), (64, .a (.sl 1 ((datF x).map rowB))), (65, .a (.v (.int .i64 (((datF x).map rowB).length)))), (66, .a (.v (.int .i64 (((0) : Int)))))], [⟨(g), true, .box (boxB ((bl.set (1 + k) (tabF x bl.length)) ++ (datF x).take (0)) (ext))⟩]⟩ ⟨rfl, (Slots.cons rfl (by first | exact .refl _ | exact .nilOwn _ _ | exact .nilSl _ | exact .ownSl _ _ _  | exact SV.le.of_eq (by simp)) (Slots.cons rfl (by first | exact .refl _ | exact .nilOwn _ _ | exact .nilSl _ | exact .ownSl _ _ _  | exact SV.le.of_eq (by simp)) (Slots.cons rfl (by first | exact .refl _ | exact .nilOwn _ _ | exact .nilSl _ | exact .ownSl _ _ _  | exact SV.le.of_eq (by simp)) (Slots.cons rfl (by first | exact .refl _ | exact .nilOwn _ _ | exact .nilSl _ | exact .ownSl _ _ _  | exact SV.le.of_eq (by simp)) (Slots.cons rfl (by first | exact .refl _ | exact .nilOwn _ _ | exact .nilSl _ | exact .ownSl _ _ _  | exact SV.le.of_eq (by simp)) (Slots.cons rfl (by first | exact .refl _ | exact .nilOwn _ _ | exact .nilSl _ | exact .ownSl _ _ _  | exact SV.le.of_eq (by simp)) (Slots.cons rfl (by first | exact .refl _ | exact .nilOwn _ _ | exact .nilSl _ | exact .ownSl _ _ _  | exact SV.le.of_eq (by simp)) (Slots.cons rfl (by first | exact .refl _ | exact .nilOwn _ _ | exact .nilSl _ | exact .ownSl _ _ _  | exact SV.le.of_eq (by simp)) Slots.nil)))))))), (by rw [List.take_zero, List.append_nil]; exact .cons _ (.refl _))⟩ ⟨0, g, cap, ext, rfl, rfl, Nat.zero_le _, hcap, hext⟩ ?_
     rintro nn0 _ ⟨j, g2, cap2, ext2, rfl, rfl, hj, hcap2, hext2⟩
     refine awp_seq ?_
     refine awp_region ?_
     refine r_cmp rfl rfl rfl rfl ?_
     refine awl_nil ?_
     refine x_then ?_
     refine awp_seq ?_
     refine awp_cond rfl (fun hc4 => ?_) (fun hc4 => ?_)
     ·
      have hltp : j < (datF x).length := by have := of_decide_eq_true hc4; simpa using this
      obtain ⟨p, hp⟩ := get_lt hltp
      obtain ⟨hp0, hp32⟩ := dat_part hp
      have hdl : (datF x).length ≤ 8 := by rw [dat_len]; exact many_le hd256
      have hbt : ((bl.set (1 + k) (tabF x bl.length)) ++ (datF x).take j).length = bl.length + j := by rw [List.length_append, List.length_set, List.length_take]; omega
      have htj : (bl.set (1 + k) (tabF x bl.length)) ++ (datF x).take (j + 1) = ((bl.set (1 + k) (tabF x bl.length)) ++ (datF x).take j) ++ [p] := by rw [takeS hp, List.append_assoc]
      refine awp_skip ?_
      refine x_then ?_
      refine awp_seq ?_
      refine awp_block ?_
      refine awp_seq ?_
      refine awp_region ?_
      refine r_index rfl rfl rfl TG.sl119 TG.sz22 (by omega) (get_map hp) rfl ?_
      refine r_load1 rfl TG.agg22 rfl ?_
      refine r_assign rfl rfl ?_
      refine awl_nil ?_
      refine x_then ?_
      refine awp_seq ?_
      refine awp_region ?_
      refine r_alloc TG.zero33 rfl (fun b10 => ?_)
      refine awl_nil ?_
      refine x_then ?_
      refine awp_seq ?_
      refine awp_region ?_
      refine r_arrB (l := 0) (h := 32) rfl TG.un33 TG.sz5 .none .none (by omega) (by omega) (by omega) rfl ?_
      refine r_move rfl rfl ?_
      refine r_copyE 0 p.length (blkC p) rfl (by rw [u8sL]; omega) hp0 (srcOk_all rfl rfl) rfl rfl TG.sl22 TG.sz5 (by decide) (by rw [u8c_flat, u8c_len]; omega) (by show 0 + 0 + p.length * 1 ≤ 32; omega) (pad_put hp32 rfl rfl) rfl ?_
      refine awl_nil ?_
      refine x_then ?_
      refine awp_region ?_
      refine r_move rfl rfl ?_
      rcases Nat.lt_or_ge (bl.length + j) cap2 with hroom | hroom
      ·
       refine r_loadAbe 0 (blkC p) rfl rfl rfl TG.agg33 TG.sz33 rfl rfl ?_
       refine r_lit 75 (parts := [(0, .tmp 74)]) rfl TG.sl59 TG.sz33 TG.zraw33 rfl rfl rfl rfl rfl rfl rfl ?_
       refine r_appendE 1 (boxB (((bl.set (1 + k) (tabF x bl.length)) ++ (datF x).take j) ++ [p]) (ext2.drop 32)) rfl (srcOk_all rfl rfl) rfl rfl TG.sl59 TG.sz33 (by decide) (by show bl.length + j + 1 ≤ cap2; omega) (by rw [boxB_len, hbt]; show (bl.length + j + 1) * 32 ≤ _; omega) (app_room hbt.symm (by omega) rfl) rfl ?_
       refine r_assign rfl rfl ?_
       refine awl_nil ?_
       refine x_block ?_
       refine x_then ?_
       refine awp_region ?_
       refine r_ari _ rfl rfl rfl (wrap_id (by first | omega | (simp; omega))) rfl ?_
       refine r_move rfl rfl ?_
       refine awl_nil ?_
       refine x_then ?_
       refine ⟨(datF x).length - (j + 1), ⟨102, [(0, .a (files l)), (4, .a (.v (.slice (some ⟨(g2), 0, none⟩) (bl.length + (j + 1)) (cap2)))), (23, .a (files l)), (24, .a (.v (.int .i64 ((l.map File.cs).length)))), (25, .a (.v (.int .i64 ((k : Int))))), (64, .a (.sl 1 ((datF x).map rowB))), (65, .a (.v (.int .i64 (((datF x).map rowB).length)))), (66, .a (.v (.int .i64 (((j + 1) : Int)))))], [⟨(g2), true, .box (boxB ((bl.set (1 + k) (tabF x bl.length)) ++ (datF x).take (j + 1)) ((ext2.drop 32)))⟩]⟩, ⟨rfl, (Slots.cons rfl (by first | exact .refl _ | exact .nilOwn _ _ | exact .nilSl _ | exact .ownSl _ _ _  | exact SV.le.of_eq (by simp)) (Slots.cons rfl (by first | exact .refl _ | exact .nilOwn _ _ | exact .nilSl _ | exact .ownSl _ _ _  | exact SV.le.of_eq (by simp)) (Slots.cons rfl (by first | exact .refl _ | exact .nilOwn _ _ | exact .nilSl _ | exact .ownSl _ _ _  | exact SV.le.of_eq (by simp)) (Slots.cons rfl (by first | exact .refl _ | exact .nilOwn _ _ | exact .nilSl _ | exact .ownSl _ _ _  | exact SV.le.of_eq (by simp)) (Slots.cons rfl (by first | exact .refl _ | exact .nilOwn _ _ | exact .nilSl _ | exact .ownSl _ _ _  | exact SV.le.of_eq (by simp)) (Slots.cons rfl (by first | exact .refl _ | exact .nilOwn _ _ | exact .nilSl _ | exact .ownSl _ _ _  | exact SV.le.of_eq (by simp)) (Slots.cons rfl (by first | exact .refl _ | exact .nilOwn _ _ | exact .nilSl _ | exact .ownSl _ _ _  | exact SV.le.of_eq (by simp)) (Slots.cons rfl (by first | exact .refl _ | exact .nilOwn _ _ | exact .nilSl _ | exact .ownSl _ _ _  | exact SV.le.of_eq (by simp)) Slots.nil)))))))), (by rw [htj]; exact .cons _ (.refl _))⟩, (by omega), ⟨j + 1, g2, cap2, (ext2.drop 32), rfl, rfl, (by omega), (by omega), (by rw [List.length_drop]; omega)⟩⟩
      ·
       refine r_loadAbe 0 (blkC p) rfl rfl rfl TG.agg33 TG.sz33 rfl rfl ?_
       refine r_lit 75 (parts := [(0, .tmp 74)]) rfl TG.sl59 TG.sz33 TG.zraw33 rfl rfl rfl rfl rfl rfl rfl ?_
       refine r_appendG (srcOk_boxP (k := 0) 1 0 ((bl.length + j) * 32) (xs := (((bl.set (1 + k) (tabF x bl.length)) ++ (datF x).take j).map blkC).flatten) rfl (fun _ => rfl) rfl (app_take hbt.symm) (rows_one _) (by rw [boxB_len, hbt]; omega)) (fun C T a w hs => ⟨_, hs.evv rfl⟩) (by rw [rows_flat, hbt]) (srcOk_all rfl rfl) rfl TG.sl59 TG.sz33 TG.by33 TG.zlen33 (by decide) (by show cap2 < bl.length + j + 1; omega) (by show (bl.length + j + 1) * 2 * 32 ≤ _; omega) (by show bl.length + j + 1 ≤ _; omega) rfl (fun gb gcap gext hgc hgl => ?_)
       refine r_assign rfl rfl ?_
       refine awl_nil ?_
       refine x_block ?_
       refine x_then ?_
       refine awp_region ?_
       refine r_ari _ rfl rfl rfl (wrap_id (by first | omega | (simp; omega))) rfl ?_
       refine r_move rfl rfl ?_
       refine awl_nil ?_
       refine x_then ?_
       refine ⟨(datF x).length - (j + 1), ⟨102, [(0, .a (files l)), (4, .a (.v (.slice (some ⟨(gb), 0, none⟩) (bl.length + (j + 1)) (gcap)))), (23, .a (files l)), (24, .a (.v (.int .i64 ((l.map File.cs).length)))), (25, .a (.v (.int .i64 ((k : Int))))), (64, .a (.sl 1 ((datF x).map rowB))), (65, .a (.v (.int .i64 (((datF x).map rowB).length)))), (66, .a (.v (.int .i64 (((j + 1) : Int)))))], [⟨(gb), true, .box (boxB ((bl.set (1 + k) (tabF x bl.length)) ++ (datF x).take (j + 1)) (gext))⟩]⟩, ⟨rfl, (Slots.cons rfl (by first | exact .refl _ | exact .nilOwn _ _ | exact .nilSl _ | exact .ownSl _ _ _  | exact SV.le.of_eq (by simp)) (Slots.cons rfl (by first | exact .refl _ | exact .nilOwn _ _ | exact .nilSl _ | exact .ownSl _ _ _  | exact SV.le.of_eq (by simp)) (Slots.cons rfl (by first | exact .refl _ | exact .nilOwn _ _ | exact .nilSl _ | exact .ownSl _ _ _  | exact SV.le.of_eq (by simp)) (Slots.cons rfl (by first | exact .refl _ | exact .nilOwn _ _ | exact .nilSl _ | exact .ownSl _ _ _  | exact SV.le.of_eq (by simp)) (Slots.cons rfl (by first | exact .refl _ | exact .nilOwn _ _ | exact .nilSl _ | exact .ownSl _ _ _  | exact SV.le.of_eq (by simp)) (Slots.cons rfl (by first | exact .refl _ | exact .nilOwn _ _ | exact .nilSl _ | exact .ownSl _ _ _  | exact SV.le.of_eq (by simp)) (Slots.cons rfl (by first | exact .refl _ | exact .nilOwn _ _ | exact .nilSl _ | exact .ownSl _ _ _  | exact SV.le.of_eq (by simp)) (Slots.cons rfl (by first | exact .refl _ | exact .nilOwn _ _ | exact .nilSl _ | exact .ownSl _ _ _  | exact SV.le.of_eq (by simp)) Slots.nil)))))))), (by rw [htj, ← app_grow (p := p) rfl]; exact .cons_cons _ (List.nil_sublist _))⟩, (by omega), ⟨j + 1, gb, gcap, gext, rfl, rfl, (by omega), hgc, hgl⟩⟩
     ·
      have hge : (datF x).length ≤ j := by have := of_decide_eq_false hc4; simp at this; omega
      obtain rfl : j = (datF x).length := by omega
      rw [List.take_of_length_le (Nat.le_refl _)]
      refine awp_exit ?_
      refine x_thenE ?_
      refine x_thenE ?_
      refine x_blockE ?_
      refine x_block ?_
      refine x_then ?_
      refine awp_region ?_
      refine r_ari _ rfl rfl rfl (wrap_id (by first | omega | (simp; omega))) rfl ?_
      refine r_move rfl rfl ?_
      refine awl_nil ?_
      refine x_then ?_
      have hstep : (bl.set (1 + k) (tabF x bl.length)) ++ datF x = mkB l (k + 1) := by rw [hbl]; exact mkB_step hx
      have hlen2 : (mkB l (k + 1)).length = bl.length + (datF x).length := by rw [← hstep, List.length_append, List.length_set]
      refine ⟨l.length - (k + 1), ⟨102, [(0, .a (files l)), (4, .a (.v (.slice (some ⟨(g2), 0, none⟩) (mkB l (k + 1)).length (cap2)))), (23, .a (files l)), (24, .a (.v (.int .i64 ((l.map File.cs).length)))), (25, .a (.v (.int .i64 (((k + 1) : Int)))))], [⟨(g2), true, .box (boxB (mkB l (k + 1)) (ext2))⟩]⟩, ⟨rfl, (Slots.cons rfl (by first | exact .refl _ | exact .nilOwn _ _ | exact .nilSl _ | exact .ownSl _ _ _  | exact SV.le.ownEq (by rw [hlen2]) | exact SV.le.of_eq (by rw [hlen2])) (Slots.cons rfl (by first | exact .refl _ | exact .nilOwn _ _ | exact .nilSl _ | exact .ownSl _ _ _  | exact SV.le.ownEq (by rw [hlen2]) | exact SV.le.of_eq (by rw [hlen2])) (Slots.cons rfl (by first | exact .refl _ | exact .nilOwn _ _ | exact .nilSl _ | exact .ownSl _ _ _  | exact SV.le.ownEq (by rw [hlen2]) | exact SV.le.of_eq (by rw [hlen2])) (Slots.cons rfl (by first | exact .refl _ | exact .nilOwn _ _ | exact .nilSl _ | exact .ownSl _ _ _  | exact SV.le.ownEq (by rw [hlen2]) | exact SV.le.of_eq (by rw [hlen2])) (Slots.cons rfl (by first | exact .refl _ | exact .nilOwn _ _ | exact .nilSl _ | exact .ownSl _ _ _  | exact SV.le.ownEq (by rw [hlen2]) | exact SV.le.of_eq (by rw [hlen2])) Slots.nil))))), (by rw [← hstep]; exact List.Sublist.refl _)⟩, (by omega), ⟨k + 1, g2, cap2, ext2, rfl, rfl, (by omega), (by rw [hlen2]; omega), (by rw [hlen2]; exact hext2)⟩⟩
   ·
    have hge : l.length ≤ k := by have := of_decide_eq_false hc2; simp at this; omega
    obtain rfl : k = l.length := by omega
    have hml := mkB_small hok (Nat.le_refl l.length)
    have hgel := mkB_len (l := l) (k := l.length) (Nat.le_refl _)
    have hsum := mkB_sum l
    have hdk := mkB_disk l
    obtain ⟨bl, hbl⟩ : ∃ bl, bl = mkB l l.length := ⟨_, rfl⟩
    rw [← hbl] at hcap hext hml hgel hsum hdk ⊢
    have hrow : bl[0]? = some [] := by rw [hbl, mkB_end]; rfl
    refine awp_exit ?_
    refine x_thenE ?_
    refine x_thenE ?_
    refine x_blockE ?_
    refine x_then ?_
    refine awp_seq ?_
    refine awp_drawS [79, 80, 81, 82] [_, _, _, _] [] [] TG.mixed rfl rfl rfl ⟨⟨⟨⟨trivial
     , ⟨_, rfl, fun sl hd hr ho => by
       refine r_move (hr 4 _ rfl rfl rfl) rfl ?_
       exact awl_nil ⟨rfl, post_put⟩⟩⟩
     , ⟨_, rfl, fun sl hd hr ho => by
       refine r_indexV (hd 0 _ rfl rfl rfl) rfl TG.sl59 TG.sz33 (by decide) (by omega) rfl ?_
       exact awl_nil ⟨rfl, post_put⟩⟩⟩
     , ⟨_, rfl, fun sl hd hr ho => by
       refine r_arrB (l := 0) (h := 32) (hd 1 _ rfl rfl rfl) TG.un33 TG.sz5 .none .none (by omega) (by omega) (by omega) rfl ?_
       exact awl_nil ⟨rfl, post_put⟩⟩⟩
     , ⟨_, rfl, fun sl hd hr ho => by
       refine r_arrG hcs mg_at TG.un83 TG.sz5 rfl ?_
       exact awl_nil ⟨rfl, post_put⟩⟩⟩
     (by rfl) ?_
    refine r_copyE 0 5 (boxB (bl.set 0 (putAt [] 0 magicL)) ext) rfl rfl (by omega) (srcOk_all rfl rfl) rfl rfl TG.sl22 TG.sz5 (by decide) rfl (by rw [boxB_len]; show 0 + 0 * 32 + 0 + 5 * 1 ≤ _; omega) (num_put hrow (by decide) (by decide) rfl) rfl ?_
    refine awl_nil ?_
    refine x_then ?_
    refine awp_seq ?_
    refine awp_region ?_
    refine r_move rfl rfl ?_
    refine r_move rfl rfl ?_
    refine r_lenS rfl rfl TG.sl24 rfl ?_
    refine r_conv ((l.length.toUInt8.toNat : Nat) : Int) rfl TG.un3 TG.un5 (by rw [List.length_map]; exact byte_wrap hl8) rfl ?_
    refine r_indexV rfl rfl TG.sl59 TG.sz33 (by decide) (by omega) rfl ?_
    refine r_indexArrB rfl rfl TG.un33 TG.sz5 (by decide) (by decide) rfl ?_
    refine r_store 0 rfl rfl rfl TG.sz5 rfl (Nat.ble_eq_true_of_le (by rw [boxB_len, List.length_set]; show 0 + 0 * 32 + 5 * 1 + 1 ≤ _; omega)) rfl ?_
    refine awl_imp (imp_boxEq 0 (boxB (bl.set 0 (putAt (putAt [] 0 magicL) 5 [l.length.toUInt8])) ext) rfl ((num_put (xs := [l.length.toUInt8]) (c := 5) (r := 0) (m := 1) (set_at hrow) (by simp) (by decide) rfl).trans (by rw [List.set_set]))) ?_
    refine awl_nil ?_
    refine x_then ?_
    refine awp_seq ?_
    refine awp_drawS [90, 91, 92, 93, 94, 95, 96, 97, 98, 99] [_, _, _, _, _, _, _, _, _, _] [] [] TG.mixed rfl rfl rfl ⟨⟨⟨⟨⟨⟨⟨⟨⟨⟨trivial
     , ⟨_, rfl, fun sl hd hr ho => by
       refine r_move (hr 4 _ rfl rfl rfl) rfl ?_
       exact awl_nil ⟨rfl, post_put⟩⟩⟩
     , ⟨_, rfl, fun sl hd hr ho => by
       refine r_indexV (hd 0 _ rfl rfl rfl) rfl TG.sl59 TG.sz33 (by decide) (by omega) rfl ?_
       exact awl_nil ⟨rfl, post_put⟩⟩⟩
     , ⟨_, rfl, fun sl hd hr ho => by
       refine r_arrB (l := 6) (h := 32) (hd 1 _ rfl rfl rfl) TG.un33 TG.sz5 (.some rfl) .none (by omega) (by omega) (by omega) rfl ?_
       exact awl_nil ⟨rfl, post_put⟩⟩⟩
     , ⟨_, rfl, fun sl hd hr ho => by
       refine r_move (hr 4 _ rfl rfl rfl) rfl ?_
       exact awl_nil ⟨rfl, post_put⟩⟩⟩
     , ⟨_, rfl, fun sl hd hr ho => by
       refine r_move (hr 0 _ rfl rfl rfl) rfl ?_
       exact awl_nil ⟨rfl, post_put⟩⟩⟩
     , ⟨_, rfl, fun sl hd hr ho => by
       refine r_lenS (hd 4 _ rfl rfl rfl) rfl TG.sl24 rfl ?_
       exact awl_nil ⟨rfl, post_put⟩⟩⟩
     , ⟨_, rfl, fun sl hd hr ho => by
       refine r_ari ((1 + l.length : Nat) : Int) rfl (hd 5 _ rfl rfl rfl) rfl (by rw [List.length_map, wrap_id (by omega)]; omega) rfl ?_
       exact awl_nil ⟨rfl, post_put⟩⟩⟩
     , ⟨_, rfl, fun sl hd hr ho => by
       refine r_sliceVx (lo := 1) (m := l.length) (hd 3 _ rfl rfl rfl) rfl (hd 6 _ rfl rfl rfl) TG.sl59 TG.sz33 (by omega) rfl ?_
       exact awl_nil ⟨rfl, post_put⟩⟩⟩
     , ⟨_, rfl, fun sl hd hr ho => by
       refine r_callO hq rfl rfl (.cons (.ev (hd 7 _ rfl rfl rfl) rfl) .nil) (sumO_ok (bl.set 0 (putAt (putAt [] 0 magicL) 5 [l.length.toUInt8])) ext l.length (by rw [List.length_set]; omega) (by rw [List.length_set]; omega) (fun h => by rw [if_neg (by omega), Nat.zero_add])) rfl TG.en38 (List.Sublist.refl _) rfl (fun r nobjs hr => ?_)
       obtain ⟨rfl, rfl⟩ := hr
       rw [hsum]
       exact awl_nil ⟨rfl, post_put⟩⟩⟩
     , ⟨_, rfl, fun sl hd hr ho => by
       refine r_call0 hq rfl rfl (.cons (.ev (hd 8 _ rfl rfl rfl) rfl) (.cons (.ev rfl rfl) .nil)) (put2_ok (sumF (tabs l (1 + l.length))) (sum_lt _)) rfl TG.en60 rfl (fun r hr => ?_)
       obtain rfl := hr
       exact awl_nil ⟨rfl, post_put⟩⟩⟩
     (by rfl) ?_
    refine r_copyE 0 2 (boxB (bl.set 0 (putAt (putAt (putAt [] 0 magicL) 5 [l.length.toUInt8]) 6 (be2 (sumF (tabs l (1 + l.length)))))) ext) rfl rfl (by omega) (srcOk_all rfl rfl) rfl rfl TG.sl22 TG.sz5 (by decide) rfl (by rw [boxB_len, List.length_set]; show 0 + 0 * 32 + 6 + 2 * 1 ≤ _; omega) ((num_put (c := 6) (set_at hrow) (by rw [be2_len]; omega) (by decide) rfl).trans (by rw [List.set_set])) rfl ?_
    refine awl_nil ?_
    refine x_then ?_
    refine awp_seq ?_
    refine awp_region ?_
    have hdk3 : bl.set 0 (putAt (putAt (putAt [] 0 magicL) 5 [l.length.toUInt8]) 6 (be2 (sumF (tabs l (1 + l.length))))) = diskF l := hdk
    have hdl3 : (diskF l).length = bl.length := by rw [← hdk3, List.length_set]
    rw [hdk3]
    refine awl_imp (imp_commitS 0 4 (l := (diskF l).map blkC) (ext := ext) rfl rfl rfl (by rw [List.length_map, hdl3]) hcap (rows_len _) (by rw [boxB_len, hdl3]; exact hext) (rows_one _)) ?_
    refine r_move rfl rfl ?_
    refine r_assign rfl rfl ?_
    refine r_assign rfl rfl ?_
    refine awl_nil ?_
    refine x_then ?_
    refine awp_ret ?_
    exact ⟨(.inl rfl), _, [], (.two (by first | exact .mk rfl rfl | exact .nil rfl) (by first | exact .mk rfl rfl | exact .nil rfl)), ⟨rfl, .inl ⟨hok, rfl⟩⟩, (List.nil_sublist _), (by simp)⟩
end Go.Proofs.YtcbhhjahjnlfhaaDoor.A
namespace Go.Proofs.YtcbhhjahjnlfhaaDoor.A
open Go Go.RowKit Go.Maps Go.Sort
set_option linter.unusedVariables false
set_option linter.unusedSimpArgs false
set_option linter.unusedSectionVars false
theorem gl {l : List UInt8} {i : Nat} (h : i < l.length) : l.getD i 0 = l[i] := by simp [List.getD, List.getElem?_eq_getElem h]
theorem gn {l : List UInt8} {i : Nat} (h : l.length ≤ i) : l.getD i 0 = 0 := by simp [List.getD, List.getElem?_eq_none h]
theorem head_get {n : Nat} {t : List Blk} {i : Nat} (hi : i < 32) : (headF n t).getD i 0 = if i = 6 ∨ i = 7 then (be2 (sumF t)).getD (i - 6) 0 else if i = 5 then n.toUInt8 else if i < 5 then magicL.getD i 0 else 0 := by
  unfold headF
  rw [putAt_get hi, be2_len]
  by_cases h1 : 6 ≤ i ∧ i < 6 + 2
  · rw [if_pos h1, if_pos (by omega)]
  · rw [if_neg h1, if_neg (by omega), putAt_get hi]
    by_cases h2 : i = 5
    · subst h2; rfl
    · rw [if_neg (by simp; omega), if_neg h2, putAt_get hi]
      have hm : magicL.length = 5 := rfl
      rw [hm]
      by_cases h3 : i < 5
      · rw [if_pos (by omega), if_pos h3]; rfl
      · rw [if_neg (by omega), if_neg h3]; rfl
theorem head_magic (n : Nat) (t : List Blk) : bpart (headF n t) 0 5 = magicL := by
  apply List.ext_getElem?
  intro i
  by_cases hi : i < 5
  · rw [bpart_get (by omega) (by omega), Nat.zero_add, head_get (by omega), if_neg (by omega), if_neg (by omega), if_pos hi]
    have hm : magicL.length = 5 := rfl
    rw [gl (by omega), List.getElem?_eq_getElem (by omega)]
  · rw [List.getElem?_eq_none (by rw [bpart_len _ (by omega)]; omega), List.getElem?_eq_none (by show 5 ≤ i; omega)]
theorem head_n {n : Nat} (t : List Blk) (h : n ≤ 8) : (headF n t).getD 5 0 = n.toUInt8 := by
  rw [head_get (by omega), if_neg (by omega), if_pos rfl]
theorem u8_small {n : Nat} (h : n ≤ 8) : n.toUInt8.toNat = n := by simp; omega
theorem head_sum (n : Nat) (t : List Blk) : bpart (headF n t) 6 8 = [(sumF t / 256).toUInt8, (sumF t).toUInt8] := by
  apply List.ext_getElem?
  intro i
  by_cases hi : i < 2
  · rw [bpart_get (by omega) (by omega), head_get (by omega), if_pos (by omega)]
    rcases (show i = 0 ∨ i = 1 by omega) with rfl | rfl <;> rfl
  · rw [List.getElem?_eq_none (by rw [bpart_len _ (by omega)]; omega), List.getElem?_eq_none (by simp; omega)]
theorem nought_of {l : List UInt8} (h : ∀ i, i < l.length → l.getD i 0 = 0) : noughtS l = true := by
  unfold noughtS
  rw [List.all_eq_true]
  intro x hx
  obtain ⟨i, hi, rfl⟩ := List.getElem_of_mem hx
  have := h i hi
  rw [gl hi] at this
  simpa using this
theorem head_rest (n : Nat) (t : List Blk) : noughtS (bpart (headF n t) 8 32) = true := by
  apply nought_of
  intro i hi
  rw [bpart_len _ (by omega)] at hi
  rw [bpart_getD (by omega) (by omega), head_get (by omega), if_neg (by omega), if_neg (by omega), if_neg (by omega)]
theorem tab_get {f : File} {a i : Nat} (hi : i < 32) (hn : f.name.size ≤ 12) : (tabF f a).getD i 0 = if i < 12 then f.name.data.toList.getD i 0 else if i < 14 then (be2 f.data.length).getD (i - 12) 0 else if i < 16 then (be2 (if f.data = [] then 0 else a)).getD (i - 14) 0 else 0 := by
  have h1 : (putAt (putAt [] 0 f.name.data.toList) 12 (be2 f.data.length)).getD i 0 = if i < 12 then f.name.data.toList.getD i 0 else if i < 14 then (be2 f.data.length).getD (i - 12) 0 else 0 := by
    rw [putAt_get hi, be2_len]
    by_cases h12 : i < 12
    · rw [if_neg (by omega), putAt_get hi, if_pos h12, ba_len]
      by_cases h : i < f.name.size
      · rw [if_pos (by omega)]; rfl
      · rw [if_neg (by omega), gn (l := f.name.data.toList) (by rw [ba_len]; omega)]; rfl
    · rw [if_neg h12]
      by_cases h14 : i < 14
      · rw [if_pos (by omega), if_pos h14]
      · rw [if_neg (by omega), if_neg h14, putAt_get hi, if_neg (by rw [ba_len]; omega)]; rfl
  unfold tabF
  by_cases hd : f.data = []
  · simp only [hd, if_true]
    simp only [hd] at h1
    rw [h1]
    by_cases h12 : i < 12
    · rw [if_pos h12, if_pos h12]
    · rw [if_neg h12, if_neg h12]
      by_cases h14 : i < 14
      · rw [if_pos h14, if_pos h14]
      · rw [if_neg h14, if_neg h14]
        by_cases h16 : i < 16
        · rw [if_pos h16]
          rcases (show i = 14 ∨ i = 15 by omega) with rfl | rfl <;> rfl
        · rw [if_neg h16]
  · simp only [hd, if_false]
    rw [putAt_get hi, be2_len]
    by_cases h14 : 14 ≤ i ∧ i < 14 + 2
    · rw [if_pos h14, if_neg (by omega), if_neg (by omega), if_pos (by omega)]
    · rw [if_neg h14, h1]
      by_cases h12 : i < 12
      · rw [if_pos h12, if_pos h12]
      · rw [if_neg h12, if_neg h12]
        by_cases h13 : i < 14
        · rw [if_pos h13, if_pos h13]
        · rw [if_neg h13, if_neg h13, if_neg (by omega)]
theorem tab_name {f : File} {a : Nat} (hn : f.name.size ≤ 12) : bpart (tabF f a) 0 f.name.size = f.name.data.toList := by
  apply List.ext_getElem?
  intro i
  by_cases hi : i < f.name.size
  · rw [bpart_get (by omega) (by omega), Nat.zero_add, tab_get (by omega) hn, if_pos (by omega), gl (by rw [ba_len]; exact hi), List.getElem?_eq_getElem (by rw [ba_len]; exact hi)]
  · rw [List.getElem?_eq_none (by rw [bpart_len _ (by omega)]; omega), List.getElem?_eq_none (by rw [ba_len]; omega)]
theorem tab_nm {f : File} {a : Nat} (hn : f.name.size ≤ 12) : (⟨(bpart (tabF f a) 0 f.name.size).toArray⟩ : ByteArray) = f.name := by
  rw [tab_name hn]
theorem tab_size {f : File} {a : Nat} (hn : f.name.size ≤ 12) : bpart (tabF f a) 12 14 = be2 f.data.length := by
  apply List.ext_getElem?
  intro i
  by_cases hi : i < 2
  · rw [bpart_get (by omega) (by omega), tab_get (by omega) hn, if_neg (by omega), if_pos (by omega), show 12 + i - 12 = i by omega, gl (by rw [be2_len]; exact hi), List.getElem?_eq_getElem (by rw [be2_len]; exact hi)]
  · rw [List.getElem?_eq_none (by rw [bpart_len _ (by omega)]; omega), List.getElem?_eq_none (by rw [be2_len]; omega)]
theorem tab_at {f : File} {a : Nat} (hn : f.name.size ≤ 12) : bpart (tabF f a) 14 16 = be2 (if f.data = [] then 0 else a) := by
  apply List.ext_getElem?
  intro i
  by_cases hi : i < 2
  · rw [bpart_get (by omega) (by omega), tab_get (by omega) hn, if_neg (by omega), if_neg (by omega), if_pos (by omega), show 14 + i - 14 = i by omega, gl (by rw [be2_len]; exact hi), List.getElem?_eq_getElem (by rw [be2_len]; exact hi)]
  · rw [List.getElem?_eq_none (by rw [bpart_len _ (by omega)]; omega), List.getElem?_eq_none (by rw [be2_len]; omega)]
theorem tab_z1 {f : File} {a : Nat} (hn : f.name.size ≤ 12) : noughtS (bpart (tabF f a) f.name.size 12) = true := by
  apply nought_of
  intro i hi
  rw [bpart_len _ (by omega)] at hi
  rw [bpart_getD (by omega) (by omega), tab_get (by omega) hn, if_pos (by omega), gn (by rw [ba_len]; omega)]
theorem tab_z2 {f : File} {a : Nat} (hn : f.name.size ≤ 12) : noughtS (bpart (tabF f a) 16 32) = true := by
  apply nought_of
  intro i hi
  rw [bpart_len _ (by omega)] at hi
  rw [bpart_getD (by omega) (by omega), tab_get (by omega) hn, if_neg (by omega), if_neg (by omega), if_neg (by omega)]
theorem index_hit : ∀ (l : List UInt8) (n : Nat), n < l.length → (∀ i, i < n → ¬ l.getD i 0 = 0) → l.getD n 0 = 0 → Lib.indexByte l 0 = (n : Int)
  | [], n, h, _, _ => by simp at h
  | x :: r, 0, _, _, h => by
    have : x = 0 := by simpa using h
    subst this; rfl
  | x :: r, n + 1, h, h1, h2 => by
    have hx : ¬ x = 0 := by have := h1 0 (by omega); simpa using this
    have ih := index_hit r n (by simpa using h) (fun i hi => by have := h1 (i + 1) (by omega); simpa using this) (by simpa using h2)
    unfold Lib.indexByte
    rw [if_neg (by simpa using hx), ih, if_neg (by simp)]
    omega
theorem index_miss : ∀ (l : List UInt8), (∀ i, i < l.length → ¬ l.getD i 0 = 0) → Lib.indexByte l 0 = -1
  | [], _ => rfl
  | x :: r, h1 => by
    have hx : ¬ x = 0 := by have := h1 0 (by simp); simpa using this
    have ih := index_miss r (fun i hi => by have := h1 (i + 1) (by simpa using hi); simpa using this)
    unfold Lib.indexByte
    rw [if_neg (by simpa using hx), ih]; rfl
theorem named_nz {s : ByteArray} (h : namedS s = true) {i : Nat} (hi : i < s.size) : ¬ s.data.toList.getD i 0 = 0 := by
  unfold namedS at h
  rw [Bool.and_eq_true] at h
  have hl : i < s.data.toList.length := by rw [ba_len]; exact hi
  have := List.all_eq_true.1 h.1 _ (List.getElem_mem hl)
  rw [gl hl]
  intro e
  rw [e] at this
  have h0 : okCh 0 = false := by decide
  rw [h0] at this; cases this
theorem tab_idx {f : File} {a : Nat} (h : rightS f = true) : Lib.indexByte (bpart (tabF f a) 0 12) 0 = if f.name.size < 12 then (f.name.size : Int) else -1 := by
  obtain ⟨h1, h12, _⟩ := right_bnd h
  have hnm : namedS f.name = true := by unfold rightS at h; rw [Bool.and_eq_true] at h; exact h.1
  have hlen : (bpart (tabF f a) 0 12).length = 12 := bpart_len _ (by omega)
  have hget : ∀ i, i < 12 → (bpart (tabF f a) 0 12).getD i 0 = f.name.data.toList.getD i 0 := fun i hi => by
    rw [bpart_getD (by omega) (by omega), Nat.zero_add, tab_get (by omega) h12, if_pos hi]
  by_cases hn : f.name.size < 12
  · rw [if_pos hn]
    exact index_hit _ _ (by omega) (fun i hi => by rw [hget i (by omega)]; exact named_nz hnm hi) (by rw [hget _ hn]; exact gn (by rw [ba_len]; exact Nat.le_refl _))
  · rw [if_neg hn]
    exact index_miss _ (fun i hi => by rw [hget i (by omega)]; exact named_nz hnm (by omega))
def atF (l : List File) (k : Nat) : Nat := 1 + l.length + ((l.take k).flatMap datF).length
theorem atF_zero (l : List File) : atF l 0 = 1 + l.length := by simp [atF]
theorem atF_step {l : List File} {k : Nat} {x : File} (hx : l[k]? = some x) : atF l (k + 1) = atF l k + manyF x.data.length := by
  unfold atF
  rw [takeS hx, List.flatMap_append, List.length_append]
  simp [dat_len]; omega
theorem tabs_get {l : List File} {k : Nat} {x : File} (hx : l[k]? = some x) : (tabs l (1 + l.length))[k]? = some (tabF x (atF l k)) := by
  have hk := (List.getElem?_eq_some_iff.1 hx).1
  have e : l = l.take k ++ x :: l.drop (k + 1) := by
    have h3 : l.drop k = x :: l.drop (k + 1) := by rw [List.drop_eq_getElem_cons hk, (List.getElem?_eq_some_iff.1 hx).2]
    rw [← h3, List.take_append_drop]
  have key : ∀ (l1 l2 : List File) (x : File) (a : Nat), (tabs (l1 ++ x :: l2) a)[l1.length]? = some (tabF x (a + (l1.flatMap datF).length)) := by
    intro l1
    induction l1 with
    | nil => intro l2 x a; simp [tabs]
    | cons f r ih =>
      intro l2 x a
      rw [List.cons_append, tabs, List.length_cons, List.getElem?_cons_succ, ih, List.flatMap_cons, List.length_append, dat_len, Nat.add_assoc]
  have h := key (l.take k) (l.drop (k + 1)) x (1 + l.length)
  rw [← e, List.length_take, Nat.min_eq_left (by omega)] at h
  exact h
theorem disk_head (l : List File) : (diskF l)[0]? = some (headF l.length (tabs l (1 + l.length))) := rfl
theorem disk_tab {l : List File} {k : Nat} {x : File} (hx : l[k]? = some x) : (diskF l)[1 + k]? = some (tabF x (atF l k)) := by
  have hk := (List.getElem?_eq_some_iff.1 hx).1
  unfold diskF
  rw [Nat.add_comm 1 k, List.cons_append, List.getElem?_cons_succ, List.getElem?_append_left (by rw [tabs_len]; exact hk), tabs_get hx]
theorem disk_dat {l : List File} {k j : Nat} {x : File} {p : Blk} (hx : l[k]? = some x) (hp : (datF x)[j]? = some p) : (diskF l)[atF l k + j]? = some p := by
  have hk := (List.getElem?_eq_some_iff.1 hx).1
  have hj := (List.getElem?_eq_some_iff.1 hp).1
  have e : l = l.take k ++ x :: l.drop (k + 1) := by
    have h3 : l.drop k = x :: l.drop (k + 1) := by rw [List.drop_eq_getElem_cons hk, (List.getElem?_eq_some_iff.1 hx).2]
    rw [← h3, List.take_append_drop]
  unfold diskF atF
  rw [show 1 + l.length + ((l.take k).flatMap datF).length + j = (l.length + (((l.take k).flatMap datF).length + j)) + 1 by omega, List.cons_append, List.getElem?_cons_succ, List.getElem?_append_right (by rw [tabs_len]; omega), tabs_len, show l.length + (((l.take k).flatMap datF).length + j) - l.length = ((l.take k).flatMap datF).length + j by omega]
  have h2 : l.flatMap datF = (l.take k).flatMap datF ++ (datF x ++ (l.drop (k + 1)).flatMap datF) := by
    conv => lhs; rw [e]
    rw [List.flatMap_append, List.flatMap_cons]
  rw [h2, List.getElem?_append_right (by omega), Nat.add_sub_cancel_left, List.getElem?_append_left hj, hp]
theorem atF_small {l : List File} (hok : okFs l = true) {k : Nat} (hk : k ≤ l.length) : atF l k ≤ 100 := by
  have := mkB_small hok hk
  rw [mkB_len hk] at this; exact this
theorem diskF_len {l : List File} (hok : okFs l = true) : (diskF l).length ≤ 100 := by
  have h1 := mkB_disk l
  have h2 := mkB_small hok (Nat.le_refl l.length)
  rw [← h1, List.length_set]; exact h2
def gath (d : List Blk) : List UInt8 := d.flatMap fun p => bpart p 0 32
theorem gath_snoc (d : List Blk) (p : Blk) : gath (d ++ [p]) = gath d ++ bpart p 0 32 := by simp [gath]
theorem gath_len (d : List Blk) : (gath d).length = 32 * d.length := by
  induction d with
  | nil => rfl
  | cons p r ih =>
    have : gath (p :: r) = bpart p 0 32 ++ gath r := rfl
    rw [this, List.length_append, ih, bpart_len _ (Nat.le_refl _), List.length_cons]; omega
theorem cut_gath : ∀ (n : Nat) (l : List UInt8), l.length ≤ 32 * n → gath (cut32 n l) = l ++ List.replicate (32 * n - l.length) 0
  | 0, l, h => by have : l = [] := List.eq_nil_of_length_eq_zero (by omega); subst this; rfl
  | n + 1, l, h => by
    have hg : gath (cut32 (n + 1) l) = bpart (l.take 32) 0 32 ++ gath (cut32 n (l.drop 32)) := rfl
    rw [hg, cut_gath n (l.drop 32) (by rw [List.length_drop]; omega)]
    have hb : bpart (l.take 32) 0 32 = l.take 32 ++ List.replicate (32 - l.length) 0 := by
      apply List.ext_getElem?
      intro i
      by_cases hi : i < 32
      · rw [bpart_get (Nat.le_refl _) (by omega), Nat.zero_add]
        by_cases h1 : i < l.length
        · rw [List.getElem?_append_left (by simp; omega), gl (by simp; omega), List.getElem?_eq_getElem (by simp; omega)]
        · rw [gn (by simp; omega), List.getElem?_append_right (by simp; omega), List.getElem?_replicate, if_pos (by simp; omega)]
      · rw [List.getElem?_eq_none (by rw [bpart_len _ (Nat.le_refl _)]; omega), List.getElem?_eq_none (by simp; omega)]
    rw [hb]
    by_cases h32 : l.length ≤ 32
    · rw [List.take_of_length_le h32, List.drop_eq_nil_of_le h32, List.nil_append, List.append_assoc, List.length_nil, List.replicate_append_replicate]
      congr 2; omega
    · rw [show 32 - l.length = 0 by omega, List.replicate_zero, List.append_nil, ← List.append_assoc, List.take_append_drop, List.length_drop]
      congr 2; omega
theorem dat_gath (f : File) : gath (datF f) = f.data ++ List.replicate (32 * manyF f.data.length - f.data.length) 0 := cut_gath _ _ (by unfold manyF; omega)
theorem dat_take (f : File) : (gath (datF f)).take f.data.length = f.data := by rw [dat_gath, List.take_left]
theorem dat_nought (f : File) : noughtS ((gath (datF f)).drop f.data.length) = true := by
  rw [dat_gath, List.drop_left]
  exact nought_of (fun i hi => by rw [List.length_replicate] at hi; simp [List.getD, List.getElem?_replicate, hi])
theorem dat_fits (f : File) : f.data.length ≤ (gath (datF f)).length := by rw [dat_gath, List.length_append]; omega
theorem drop_u8s (l : List UInt8) (n : Nat) : (u8s l).drop n = u8s (l.drop n) := by simp [u8s, List.map_drop]
theorem take_u8s (l : List UInt8) (n : Nat) : (u8s l).take n = u8s (l.take n) := by simp [u8s, List.map_take]
end Go.Proofs.YtcbhhjahjnlfhaaDoor.A
namespace Go.Proofs.YtcbhhjahjnlfhaaDoor.A
open Go Go.RowKit
set_option linter.unusedVariables false
set_option linter.unusedSimpArgs false
set_option maxRecDepth 100000
theorem TF.zavS : ZeroAV Tryd.prog 22 (bts []) := ⟨.v (.slice none 0 0), by kernel_rfl, .one (.nil 1)⟩
theorem TF.sl54 : sliceT Tryd.prog 54 = some 9 := by kernel_rfl
theorem TF.sz9 : szT Tryd.prog 9 = some 1 := by kernel_rfl
theorem TF.agg9 : aggT Tryd.prog 9 = some false := by kernel_rfl
theorem TF.en56 : entersT Tryd.prog 56 := enters_of Tryd.func56 (by kernel_rfl) (by kernel_rfl)
theorem TF.zraw9 : zeroT Tryd.prog 9 = some [(.string ⟨#[]⟩)] := by kernel_rfl
theorem TF.mixed : Tryd.prog.follows .mixedOrders = true := by kernel_rfl
theorem take_setS {α : Type} {l : List α} {i : Nat} {x : α} (h : i < l.length) : (l.set i x).take (i + 1) = l.take i ++ [x] := by
  rw [takeS (l := l.set i x) (k := i) (x := x) (by simp [h])]
  congr 1
  apply List.ext_getElem?
  intro j
  rw [List.getElem?_take, List.getElem?_take]
  by_cases hj : j < i
  · rw [if_pos hj, if_pos hj, List.getElem?_set_ne (by omega)]
  · rw [if_neg hj, if_neg hj]
theorem ro_ro (os : List OE) : ro (ro os) = ro os := by simp [ro]
theorem filt_take {p : ByteArray → Bool} {l : List ByteArray} {k : Nat} {x : ByteArray} (h : l[k]? = some x) : (l.take (k + 1)).filter p = (l.take k).filter p ++ (if p x = true then [x] else []) := by
  rw [takeS h, List.filter_append]
  by_cases hp : p x = true <;> simp [hp]
theorem filt_first {p : ByteArray → Bool} {l : List ByteArray} {k : Nat} (h : l.findIdx? p = some k) : k < l.length ∧ (l.take (k + 1)).filter (fun s => !p s) = l.take k := by
  obtain ⟨x, hx, hp⟩ := fidx_get h
  refine ⟨(List.getElem?_eq_some_iff.1 hx).1, ?_⟩
  rw [filt_take hx]
  simp only [hp, Bool.not_true, Bool.false_eq_true, if_false, List.append_nil]
  rw [List.filter_eq_self]
  intro a ha
  obtain ⟨j, hj⟩ := List.getElem?_of_mem ha
  rw [List.getElem?_take] at hj
  split at hj
  · rename_i hjk
    have := (List.findIdx?_eq_some_iff_getElem.1 h).2.2 j hjk
    obtain ⟨hjl, rfl⟩ := List.getElem?_eq_some_iff.1 hj
    simpa using this
  · cases hj
theorem filt_all {p : ByteArray → Bool} {l : List ByteArray} (h : l.findIdx? p = none) : l.filter (fun s => !p s) = l := by
  rw [List.filter_eq_self]
  intro a ha
  rw [List.findIdx?_eq_none_iff] at h
  simp [h a ha]
theorem idxV_ok {f : FuncId} {caps : List AV} (p : ByteArray → Bool) (hen : entersT Tryd.prog f) {os : List OE} (hf : ∀ s, AC Tryd.prog f (.v (.string s) :: caps) (ro os) (fun r n => n = [] ∧ r = boolA (p s))) (l : List ByteArray) (hl : l.length ≤ 1000000) {g cap : Nat} {ext : List AV} {fl : Bool} : AC Tryd.prog 56 [.v (.slice (some ⟨g, 0, none⟩) l.length cap), .fn f caps] (⟨g, fl, .box (strsC l ++ ext)⟩ :: os) (fun r n => n = [] ∧ r = .v (.int .i64 (optI (l.findIdx? p)))) := by
 refine ac_of_awp (rs := [4]) (nt := 19) Tryd.func56 rfl rfl rfl rfl (fun w0 C0 hq => ?_)
 refine awp_seq ?_
 refine awp_region ?_
 refine r_assign rfl rfl ?_
 refine awl_nil ?_
 refine x_then ?_
 refine awp_seq ?_
 refine awp_seq ?_
 refine awp_region ?_
 refine r_move rfl rfl ?_
 refine r_lenV rfl TF.sl54 rfl ?_
 refine r_move rfl rfl ?_
 refine awl_nil ?_
 refine x_then ?_
 refine awp_block ?_
 refine awp_loop (fun nn0 S => ∃ k : Nat, S = ⟨19, [(0, .a (.v (.slice (some ⟨g, 0, none⟩) l.length cap))), (1, .a (.fn f caps)), (7, .a (.v (.int .i64 (l.length)))), (8, .a (.v (.int .i64 ((k : Int)))))], ⟨g, false, .box (strsC l ++ ext)⟩ :: ro os⟩ ∧ nn0 = l.length - k ∧ (k ≤ l.length) ∧ ((l.take k).findIdx? p = none)) (l.length - (0)) ⟨19, [(0, .a (.v (.slice (some ⟨g, 0, none⟩) l.length cap))), (1, .a (.fn f caps)), (7, .a (.v (.int .i64 (l.length)))), (8, .a (.v (.int .i64 (((0) : Int)))))], ⟨g, false, .box (strsC l ++ ext)⟩ :: ro os⟩ ⟨rfl, (Slots.cons rfl (by first | exact .refl _ | exact .nilOwn _ _ | exact .nilSl _ | exact .ownSl _ _ _  | exact SV.le.of_eq (by simp)) (Slots.cons rfl (by first | exact .refl _ | exact .nilOwn _ _ | exact .nilSl _ | exact .ownSl _ _ _  | exact SV.le.of_eq (by simp)) (Slots.cons rfl (by first | exact .refl _ | exact .nilOwn _ _ | exact .nilSl _ | exact .ownSl _ _ _  | exact SV.le.of_eq (by simp)) (Slots.cons rfl (by first | exact .refl _ | exact .nilOwn _ _ | exact .nilSl _ | exact .ownSl _ _ _  | exact SV.le.of_eq (by simp)) Slots.nil)))), (by first | exact List.Sublist.refl _ | exact .cons_cons _ (.cons _ (.refl _)) | exact List.nil_sublist _ | exact .cons _ (.refl _) | exact .cons _ (.cons _ (.refl _)) | exact .cons _ (.cons _ (.cons _ (.refl _))) | exact .cons _ (.cons _ (.cons _ (.cons _ (.refl _)))) | exact .cons_cons _ (List.nil_sublist _))⟩ ⟨0, rfl, rfl, Nat.zero_le _, rfl⟩ ?_
 rintro nn0 _ ⟨k, rfl, rfl, hk, hno⟩
 refine awp_seq ?_
 refine awp_region ?_
 refine r_cmp rfl rfl rfl rfl ?_
 refine awl_nil ?_
 refine x_then ?_
 refine awp_seq ?_
 refine awp_cond rfl (fun hc0 => ?_) (fun hc0 => ?_)
 ·
  have hltx : k < l.length := by have := of_decide_eq_true hc0; simpa using this
  obtain ⟨x, hx⟩ := get_lt hltx
  refine awp_skip ?_
  refine x_then ?_
  refine awp_seq ?_
  refine awp_block ?_
  refine awp_seq ?_
  refine awp_region ?_
  refine r_move rfl rfl ?_
  refine r_assign rfl rfl ?_
  refine awl_nil ?_
  refine x_then ?_
  refine awp_seq ?_
  refine awp_region ?_
  refine r_move rfl rfl ?_
  refine r_move rfl rfl ?_
  refine r_move rfl rfl ?_
  refine r_indexV rfl rfl TF.sl54 TF.sz9 (by omega) (by omega) rfl ?_
  refine r_load1b 0 rfl rfl (str_at hx) TF.agg9 rfl ?_
  refine r_callO hq rfl rfl (.cons (.ev rfl rfl) .nil) (hf x) rfl hen (.cons _ (.refl _)) rfl (fun r nobjs hr => ?_)
  obtain ⟨rfl, rfl⟩ := hr
  refine awl_nil ?_
  refine x_then ?_
  refine awp_cond rfl (fun hc1 => ?_) (fun hc1 => ?_)
  ·
   refine awp_seq ?_
   refine awp_region ?_
   refine r_move rfl rfl ?_
   refine r_assign rfl rfl ?_
   refine awl_nil ?_
   refine x_then ?_
   refine awp_ret ?_
   refine x_blockR ?_
   refine x_thenR ?_
   refine x_thenR ?_
   refine x_blockR ?_
   refine x_thenR ?_
   exact ⟨(.inl rfl), _, [], (.one (by first | exact .mk rfl rfl | exact .nil rfl)), ⟨rfl, by rw [fidx_hit hx hc1 hno]; rfl⟩, (List.nil_sublist _), (by simp)⟩
  ·
   refine awp_skip ?_
   refine x_block ?_
   refine x_then ?_
   refine awp_region ?_
   refine r_ari _ rfl rfl rfl (wrap_id (by first | omega | (simp; omega))) rfl ?_
   refine r_move rfl rfl ?_
   refine awl_nil ?_
   refine x_then ?_
   refine ⟨l.length - (k + 1), ⟨19, [(0, .a (.v (.slice (some ⟨g, 0, none⟩) l.length cap))), (1, .a (.fn f caps)), (7, .a (.v (.int .i64 (l.length)))), (8, .a (.v (.int .i64 (((k + 1) : Int)))))], ⟨g, false, .box (strsC l ++ ext)⟩ :: ro os⟩, ⟨rfl, (Slots.cons rfl (by first | exact .refl _ | exact .nilOwn _ _ | exact .nilSl _ | exact .ownSl _ _ _  | exact SV.le.of_eq (by simp)) (Slots.cons rfl (by first | exact .refl _ | exact .nilOwn _ _ | exact .nilSl _ | exact .ownSl _ _ _  | exact SV.le.of_eq (by simp)) (Slots.cons rfl (by first | exact .refl _ | exact .nilOwn _ _ | exact .nilSl _ | exact .ownSl _ _ _  | exact SV.le.of_eq (by simp)) (Slots.cons rfl (by first | exact .refl _ | exact .nilOwn _ _ | exact .nilSl _ | exact .ownSl _ _ _  | exact SV.le.of_eq (by simp)) Slots.nil)))), (by first | exact List.Sublist.refl _ | exact .cons_cons _ (.cons _ (.refl _)) | exact List.nil_sublist _ | exact .cons _ (.refl _) | exact .cons _ (.cons _ (.refl _)) | exact .cons _ (.cons _ (.cons _ (.refl _))) | exact .cons _ (.cons _ (.cons _ (.cons _ (.refl _)))) | exact .cons_cons _ (List.nil_sublist _))⟩, (by omega), ⟨k + 1, rfl, rfl, (by omega), (fidx_step hx hc1 hno)⟩⟩
 ·
  have hge : l.length ≤ k := by have := of_decide_eq_false hc0; simp at this; omega
  refine awp_exit ?_
  refine x_thenE ?_
  refine x_thenE ?_
  refine x_blockE ?_
  refine x_then ?_
  refine awp_seq ?_
  refine awp_region ?_
  refine r_assign rfl rfl ?_
  refine awl_nil ?_
  refine x_then ?_
  refine awp_ret ?_
  exact ⟨(.inl rfl), _, [], (.one (by first | exact .mk rfl rfl | exact .nil rfl)), ⟨rfl, by rw [fidx_end hge hno]; rfl⟩, (List.nil_sublist _), (by simp)⟩
theorem idxN_ok {f : FuncId} {caps : List AV} : AC Tryd.prog 56 [.v (.slice none 0 0), .fn f caps] [] (fun r n => n = [] ∧ r = .v (.int .i64 (-1))) := by
 refine ac_of_awp (rs := [4]) (nt := 19) Tryd.func56 rfl rfl rfl rfl (fun w0 C0 hq => ?_)
 refine awp_seq ?_
 refine awp_region ?_
 refine r_assign rfl rfl ?_
 refine awl_nil ?_
 refine x_then ?_
 refine awp_seq ?_
 refine awp_seq ?_
 refine awp_region ?_
 refine r_move rfl rfl ?_
 refine r_lenNil rfl TF.sl54 rfl ?_
 refine r_move rfl rfl ?_
 refine awl_nil ?_
 refine x_then ?_
 refine awp_block ?_
 refine awp_loop (fun nn0 S => S = ⟨19, [(7, .a (.v (.int .i64 (0)))), (8, .a (.v (.int .i64 (0))))], []⟩ ∧ nn0 = 0) (0) ⟨19, [(7, .a (.v (.int .i64 (0)))), (8, .a (.v (.int .i64 (0))))], []⟩ ⟨rfl, (Slots.cons rfl (by first | exact .refl _ | exact .nilOwn _ _ | exact .nilSl _ | exact .ownSl _ _ _  | exact SV.le.of_eq (by simp)) (Slots.cons rfl (by first | exact .refl _ | exact .nilOwn _ _ | exact .nilSl _ | exact .ownSl _ _ _  | exact SV.le.of_eq (by simp)) Slots.nil)), (by first | exact List.Sublist.refl _ | exact .cons_cons _ (.cons _ (.refl _)) | exact List.nil_sublist _ | exact .cons _ (.refl _) | exact .cons _ (.cons _ (.refl _)) | exact .cons _ (.cons _ (.cons _ (.refl _))) | exact .cons _ (.cons _ (.cons _ (.cons _ (.refl _)))) | exact .cons_cons _ (List.nil_sublist _))⟩ ⟨rfl, rfl⟩ ?_
 rintro nn0 _ ⟨rfl, rfl⟩
 refine awp_seq ?_
 refine awp_region ?_
 refine r_cmp rfl rfl rfl rfl ?_
 refine awl_nil ?_
 refine x_then ?_
 refine awp_seq ?_
 refine awp_cond rfl (fun hc0 => ?_) (fun hc0 => ?_)
 ·
  exfalso; exact absurd hc0 (by decide)
 ·
  refine awp_exit ?_
  refine x_thenE ?_
  refine x_thenE ?_
  refine x_blockE ?_
  refine x_then ?_
  refine awp_seq ?_
  refine awp_region ?_
  refine r_assign rfl rfl ?_
  refine awl_nil ?_
  refine x_then ?_
  refine awp_ret ?_
  exact ⟨(.inl rfl), _, [], (.one (by first | exact .mk rfl rfl | exact .nil rfl)), ⟨rfl, rfl⟩, (List.nil_sublist _), (by simp)⟩
set_option maxHeartbeats 1000000 in
theorem delV_ok {f : FuncId} {caps : List AV} (p : ByteArray → Bool) (hen : entersT Tryd.prog f) {os : List OE} (hf : ∀ s, AC Tryd.prog f (.v (.string s) :: caps) (ro os) (fun r n => n = [] ∧ r = boolA (p s))) (l : List ByteArray) (hl : l.length ≤ 1000000) {g cap : Nat} {ext : List AV} (hcap : cap = l.length + ext.length) {fl : Bool} : AW Tryd.prog 84 [.v (.slice (some ⟨g, 0, none⟩) l.length cap), .fn f caps] os [⟨g, fl, .box (strsC l ++ ext)⟩] (fun r n => ∃ ext', cap = (l.filter (fun s => !p s)).length + ext'.length ∧ r = .v (.slice (some ⟨g, 0, none⟩) (l.filter (fun s => !p s)).length cap) ∧ n = [⟨g, true, .box (strsC (l.filter (fun s => !p s)) ++ ext')⟩]) := by
 refine aw_of_awp (rs := [4]) (nt := 42) (so := (ro os ++ [⟨g, true, .box (strsC l ++ ext)⟩])) Tryd.func84 rfl rfl rfl rfl rfl (fun w0 C0 hq => ?_)
 refine awp_imp (imp_perm List.perm_append_comm) ?_
 refine awp_seq ?_
 refine awp_region ?_
 refine r_assign rfl rfl ?_
 refine awl_nil ?_
 refine x_then ?_
 refine awp_seq ?_
 refine awp_region ?_
 refine r_move rfl rfl ?_
 refine r_move rfl rfl ?_
 refine r_callO hq rfl rfl (.cons (.ev rfl rfl) (.cons (.ev rfl rfl) .nil)) (idxV_ok (os := ro os) p hen (fun s => by rw [ro_ro]; exact hf s) l hl) rfl TF.en56 (List.Sublist.refl _) rfl (fun r nobjs hr => ?_)
 obtain ⟨rfl, rfl⟩ := hr
 refine r_assign rfl rfl ?_
 refine awl_nil ?_
 refine x_then ?_
 refine awp_seq ?_
 refine awp_seq ?_
 refine awp_region ?_
 refine r_move rfl rfl ?_
 refine r_cmp rfl rfl rfl rfl ?_
 refine awl_nil ?_
 refine x_then ?_
 refine awp_cond rfl (fun hc0 => ?_) (fun hc0 => ?_)
 ·
  have hnone : l.findIdx? p = none := optI_none (by have := eq_of_beq hc0; omega)
  refine awp_seq ?_
  refine awp_region ?_
  refine r_move rfl rfl ?_
  refine r_assign rfl rfl ?_
  refine awl_nil ?_
  refine x_then ?_
  refine awp_ret ?_
  refine x_thenR ?_
  exact ⟨(.inl rfl), _, [⟨g, true, .box (strsC l ++ ext)⟩], (.one (by first | exact .mk rfl rfl | exact .nil rfl)), ⟨ext, by rw [filt_all hnone]; exact hcap, by rw [filt_all hnone]; rfl, by rw [filt_all hnone]⟩, (.cons_cons _ (List.nil_sublist _)), (by simp)⟩
 ·
  obtain ⟨k0, hk0⟩ : ∃ k, l.findIdx? p = some k := by
   cases h : l.findIdx? p with
   | none => rw [h] at hc0; exact absurd hc0 (by decide)
   | some k => exact ⟨k, rfl⟩
  rw [hk0]
  obtain ⟨hk1, hk2⟩ := filt_first hk0
  have hoi : optI (some k0) = (k0 : Int) := rfl
  rw [hoi]
  refine awp_skip ?_
  refine x_then ?_
  refine awp_seq ?_
  refine awp_seq ?_
  refine awp_region ?_
  refine r_move rfl rfl ?_
  refine r_ari _ rfl rfl rfl (wrap_id (by first | omega | (simp; omega))) rfl ?_
  refine r_assign rfl rfl ?_
  refine awl_nil ?_
  refine x_then ?_
  refine awp_block ?_
  refine awp_loop (fun nn0 S => ∃ j : Nat, ∃ i : Nat, ∃ cur : List ByteArray, S = ⟨42, [(0, .a (.v (.slice (some ⟨g, 0, none⟩) l.length cap))), (1, .a (.fn f caps)), (5, .a (.v (.int .i64 ((i : Int))))), (6, .a (.v (.int .i64 ((j : Int)))))], ⟨g, true, .box (strsC cur ++ ext)⟩ :: ro os⟩ ∧ nn0 = l.length - j ∧ (j ≤ l.length) ∧ (i < j) ∧ (cur.length = l.length) ∧ (cur.take i = (l.take j).filter (fun s => !p s)) ∧ (cur.drop j = l.drop j)) (l.length - (k0 + 1)) ⟨42, [(0, .a (.v (.slice (some ⟨g, 0, none⟩) l.length cap))), (1, .a (.fn f caps)), (5, .a (.v (.int .i64 (((k0) : Int))))), (6, .a (.v (.int .i64 (((k0 + 1) : Int)))))], ⟨g, true, .box (strsC (l) ++ ext)⟩ :: ro os⟩ ⟨rfl, (Slots.cons rfl (by first | exact .refl _ | exact .nilOwn _ _ | exact .nilSl _ | exact .ownSl _ _ _  | exact SV.le.ownEq (by simp) | exact SV.le.of_eq (by simp)) (Slots.cons rfl (by first | exact .refl _ | exact .nilOwn _ _ | exact .nilSl _ | exact .ownSl _ _ _  | exact SV.le.ownEq (by simp) | exact SV.le.of_eq (by simp)) (Slots.cons rfl (by first | exact .refl _ | exact .nilOwn _ _ | exact .nilSl _ | exact .ownSl _ _ _  | exact SV.le.ownEq (by simp) | exact SV.le.of_eq (by simp)) (Slots.cons rfl (by first | exact .refl _ | exact .nilOwn _ _ | exact .nilSl _ | exact .ownSl _ _ _  | exact SV.le.ownEq (by simp) | exact SV.le.of_eq (by simp)) Slots.nil)))), (by first | exact List.Sublist.refl _ | exact .cons_cons _ (.cons _ (.refl _)) | exact List.nil_sublist _ | exact .cons _ (.refl _) | exact .cons _ (.cons _ (.refl _)) | exact .cons _ (.cons _ (.cons _ (.refl _))) | exact .cons _ (.cons _ (.cons _ (.cons _ (.refl _)))) | exact .cons_cons _ (List.nil_sublist _))⟩ ⟨k0 + 1, k0, l, rfl, rfl, (by omega), (by omega), rfl, hk2.symm, rfl⟩ ?_
  rintro nn0 _ ⟨j, i, cur, rfl, rfl, hj, hij, hcl, hct, hcd⟩
  refine awp_seq ?_
  refine awp_seq ?_
  refine awp_region ?_
  refine r_move rfl rfl ?_
  refine r_move rfl rfl ?_
  refine r_lenV rfl TF.sl54 rfl ?_
  refine r_cmp rfl rfl rfl rfl ?_
  refine awl_nil ?_
  refine x_then ?_
  refine awp_cond rfl (fun hc1 => ?_) (fun hc1 => ?_)
  ·
   have hltj : j < l.length := by have := of_decide_eq_true hc1; omega
   obtain ⟨x, hx⟩ := get_lt hltj
   have hcx : cur[j]? = some x := by have h1 := congrArg (·[0]?) hcd; simpa [hx] using h1
   have hilt : i < cur.length := by omega
   refine awp_skip ?_
   refine x_then ?_
   refine awp_seq ?_
   refine awp_block ?_
   refine awp_seq ?_
   refine awp_region ?_
   refine r_move rfl rfl ?_
   refine r_move rfl rfl ?_
   refine r_indexV rfl rfl TF.sl54 TF.sz9 (by omega) (by omega) rfl ?_
   refine r_load1b 0 rfl rfl (str_at hcx) TF.agg9 rfl ?_
   refine r_assign rfl rfl ?_
   refine awl_nil ?_
   refine x_then ?_
   refine awp_seq ?_
   refine awp_region ?_
   refine r_move rfl rfl ?_
   refine r_move rfl rfl ?_
   refine r_callO hq rfl rfl (.cons (.ev rfl rfl) .nil) (hf x) rfl hen (.cons _ (.refl _)) rfl (fun r nobjs hr => ?_)
   obtain ⟨rfl, rfl⟩ := hr
   refine r_not rfl rfl ?_
   refine awl_nil ?_
   refine x_then ?_
   refine awp_cond rfl (fun hc2 => ?_) (fun hc2 => ?_)
   ·
    have hpx : p x = false := by simpa using hc2
    refine awp_seq ?_
    refine awp_region ?_
    refine r_move rfl rfl ?_
    refine r_move rfl rfl ?_
    refine r_move rfl rfl ?_
    refine r_indexV rfl rfl TF.sl54 TF.sz9 (by omega) (by omega) rfl ?_
    refine r_store 0 rfl rfl rfl TF.sz9 rfl (Nat.ble_eq_true_of_le (by simp [strsC_len]; omega)) rfl ?_
    refine awl_nil ?_
    refine x_then ?_
    refine awp_region ?_
    refine r_move rfl rfl ?_
    refine r_ari _ rfl rfl rfl (wrap_id (by first | omega | (simp; omega))) rfl ?_
    refine r_assign rfl rfl ?_
    refine awl_nil ?_
    refine x_block ?_
    refine x_then ?_
    refine awp_region ?_
    refine r_move rfl rfl ?_
    refine r_ari _ rfl rfl rfl (wrap_id (by first | omega | (simp; omega))) rfl ?_
    refine r_assign rfl rfl ?_
    refine awl_nil ?_
    refine x_then ?_
    refine ⟨l.length - (j + 1), ⟨42, [(0, .a (.v (.slice (some ⟨g, 0, none⟩) l.length cap))), (1, .a (.fn f caps)), (5, .a (.v (.int .i64 (((i + 1) : Int))))), (6, .a (.v (.int .i64 (((j + 1) : Int)))))], ⟨g, true, .box (strsC (cur.set i x) ++ ext)⟩ :: ro os⟩, ⟨rfl, (Slots.cons rfl (by first | exact .refl _ | exact .nilOwn _ _ | exact .nilSl _ | exact .ownSl _ _ _  | exact SV.le.of_eq (by simp)) (Slots.cons rfl (by first | exact .refl _ | exact .nilOwn _ _ | exact .nilSl _ | exact .ownSl _ _ _  | exact SV.le.of_eq (by simp)) (Slots.cons rfl (by first | exact .refl _ | exact .nilOwn _ _ | exact .nilSl _ | exact .ownSl _ _ _  | exact SV.le.of_eq (by simp)) (Slots.cons rfl (by first | exact .refl _ | exact .nilOwn _ _ | exact .nilSl _ | exact .ownSl _ _ _  | exact SV.le.of_eq (by simp)) Slots.nil)))), (by rw [← str_set (ext := ext) (x := x) hilt]; exact List.Sublist.refl _)⟩, (by omega), ⟨j + 1, i + 1, cur.set i x, rfl, rfl, (by omega), (by omega), (by simpa using hcl), (by rw [filt_take hx, ← hct, take_setS hilt]; simp [hpx]), (by rw [List.drop_set]; simp [show i < j + 1 by omega]; rw [← List.drop_drop, ← List.drop_drop, hcd])⟩⟩
   ·
    have hpx : p x = true := by simpa using hc2
    refine awp_skip ?_
    refine x_block ?_
    refine x_then ?_
    refine awp_region ?_
    refine r_move rfl rfl ?_
    refine r_ari _ rfl rfl rfl (wrap_id (by first | omega | (simp; omega))) rfl ?_
    refine r_assign rfl rfl ?_
    refine awl_nil ?_
    refine x_then ?_
    refine ⟨l.length - (j + 1), ⟨42, [(0, .a (.v (.slice (some ⟨g, 0, none⟩) l.length cap))), (1, .a (.fn f caps)), (5, .a (.v (.int .i64 (((i) : Int))))), (6, .a (.v (.int .i64 (((j + 1) : Int)))))], ⟨g, true, .box (strsC (cur) ++ ext)⟩ :: ro os⟩, ⟨rfl, (Slots.cons rfl (by first | exact .refl _ | exact .nilOwn _ _ | exact .nilSl _ | exact .ownSl _ _ _  | exact SV.le.of_eq (by simp)) (Slots.cons rfl (by first | exact .refl _ | exact .nilOwn _ _ | exact .nilSl _ | exact .ownSl _ _ _  | exact SV.le.of_eq (by simp)) (Slots.cons rfl (by first | exact .refl _ | exact .nilOwn _ _ | exact .nilSl _ | exact .ownSl _ _ _  | exact SV.le.of_eq (by simp)) (Slots.cons rfl (by first | exact .refl _ | exact .nilOwn _ _ | exact .nilSl _ | exact .ownSl _ _ _  | exact SV.le.of_eq (by simp)) Slots.nil)))), (by first | exact List.Sublist.refl _ | exact .cons_cons _ (.cons _ (.refl _)) | exact List.nil_sublist _ | exact .cons _ (.refl _) | exact .cons _ (.cons _ (.refl _)) | exact .cons _ (.cons _ (.cons _ (.refl _))) | exact .cons _ (.cons _ (.cons _ (.cons _ (.refl _)))) | exact .cons_cons _ (List.nil_sublist _))⟩, (by omega), ⟨j + 1, i, cur, rfl, rfl, (by omega), (by omega), hcl, (by rw [filt_take hx, hct]; simp [hpx]), (by rw [← List.drop_drop, ← List.drop_drop, hcd])⟩⟩
  ·
   have hge : l.length ≤ j := by have := of_decide_eq_false hc1; omega
   rw [List.take_of_length_le hge] at hct
   have hil : i = (l.filter (fun s => !p s)).length := by rw [← hct, List.length_take]; omega
   refine awp_exit ?_
   refine x_thenE ?_
   refine x_thenE ?_
   refine x_blockE ?_
   refine x_then ?_
   refine awp_seq ?_
   refine awp_region ?_
   refine r_move rfl rfl ?_
   refine r_move rfl rfl ?_
   refine r_sliceVL rfl rfl TF.sl54 TF.sz9 (by omega) (by omega) (by omega) rfl (fun A38 hA38 => ?_)
   refine r_clear 0 rfl (fun h => hA38 (by omega)) rfl TF.sl54 TF.zraw9 rfl (by simp [Value.oneCell']) (by simp [strsC_len]; omega) (fun xc hxc => ?_)
   refine awl_nil ?_
   refine x_then ?_
   refine awp_seq ?_
   refine awp_region ?_
   refine r_move rfl rfl ?_
   refine r_move rfl rfl ?_
   refine r_sliceVH rfl rfl TF.sl54 TF.sz9 (by omega) (by omega) rfl ?_
   refine r_assign rfl rfl ?_
   refine awl_nil ?_
   refine x_then ?_
   refine awp_ret ?_
   have hdone : (strsC cur ++ ext).take (0 + i * 1) = strsC (l.filter (fun s => !p s)) := by rw [Nat.zero_add, Nat.mul_one, List.take_append_of_le_length (by rw [strsC_len]; omega), ← hct]; simp [strsC, List.map_take]
   exact ⟨(.inl rfl), _, [⟨g, true, .box (strsC (l.filter (fun s => !p s)) ++ (xc ++ (strsC cur ++ ext).drop (0 + i * 1 + (l.length - i))))⟩], (.one (by first | exact .mk rfl rfl | exact .nil rfl)), ⟨xc ++ (strsC cur ++ ext).drop (0 + i * 1 + (l.length - i)), by simp [hxc, strsC_len]; omega, by rw [← hil]; rfl, rfl⟩, (by rw [← hdone, ← List.append_assoc]; exact .cons_cons _ (List.nil_sublist _)), (by simp)⟩
theorem delN_ok {f : FuncId} {caps : List AV} : AC Tryd.prog 84 [.v (.slice none 0 0), .fn f caps] [] (fun r n => n = [] ∧ r = .v (.slice none 0 0)) := by
 refine ac_of_awp (rs := [4]) (nt := 42) Tryd.func84 rfl rfl rfl rfl (fun w0 C0 hq => ?_)
 refine awp_seq ?_
 refine awp_region ?_
 refine r_assign rfl rfl ?_
 refine awl_nil ?_
 refine x_then ?_
 refine awp_seq ?_
 refine awp_region ?_
 refine r_move rfl rfl ?_
 refine r_move rfl rfl ?_
 refine r_call0 hq rfl rfl (.cons (.ev rfl rfl) (.cons (.ev rfl rfl) .nil)) (idxN_ok) rfl TF.en56 rfl (fun r hr => ?_)
 obtain rfl := hr
 refine r_assign rfl rfl ?_
 refine awl_nil ?_
 refine x_then ?_
 refine awp_seq ?_
 refine awp_seq ?_
 refine awp_region ?_
 refine r_move rfl rfl ?_
 refine r_cmp rfl rfl rfl rfl ?_
 refine awl_nil ?_
 refine x_then ?_
 refine awp_cond rfl (fun hc0 => ?_) (fun hc0 => ?_)
 ·
  refine awp_seq ?_
  refine awp_region ?_
  refine r_move rfl rfl ?_
  refine r_assign rfl rfl ?_
  refine awl_nil ?_
  refine x_then ?_
  refine awp_ret ?_
  refine x_thenR ?_
  exact ⟨(.inl rfl), _, [], (.one (by first | exact .mk rfl rfl | exact .nil rfl)), ⟨rfl, rfl⟩, (List.nil_sublist _), (by simp)⟩
 ·
  exfalso; exact absurd hc0 (by decide)
theorem strs_one (l : List ByteArray) : (strsC l).all AV.one = true := by
  rw [List.all_eq_true]
  intro x hx
  obtain ⟨s, _, rfl⟩ := List.mem_map.1 hx
  rfl
theorem str_drop {l : List ByteArray} {ext : List AV} {k : Nat} (h : k ≤ l.length) : ((strsC l ++ ext).drop k).take (l.length - k) = strsC (l.drop k) := by
  rw [List.drop_append_of_le_length (by rw [strsC_len]; exact h), List.take_append_of_le_length (by simp [strsC_len]), List.take_of_length_le (by simp [strsC_len])]
  simp [strsC, List.map_drop]
theorem del_box {l : List ByteArray} {ext : List AV} {i : Nat} (h : i < l.length) : (strsC l ++ ext).take i ++ ((strsC l ++ ext).drop (0 + (i + 1) * 1)).take (l.length - (i + 1)) ++ (strsC l ++ ext).drop (i + (l.length - (i + 1))) = strsC (l.eraseIdx i) ++ (strsC l ++ ext).drop (i + (l.length - (i + 1))) := by
  rw [Nat.zero_add, Nat.mul_one, str_drop (by omega), List.take_append_of_le_length (by rw [strsC_len]; omega), List.eraseIdx_eq_take_drop_succ]
  simp [strsC, List.map_take, List.map_drop]
theorem erase_len {l : List ByteArray} {i : Nat} (h : i < l.length) : (l.eraseIdx i).length = i + (l.length - (i + 1)) := by rw [List.length_eraseIdx, if_pos h]; omega
set_option maxHeartbeats 1000000 in
theorem delete_ok (l : List ByteArray) (i : Nat) (hi : i < l.length) (hl : l.length ≤ 1000000) {g cap : Nat} {ext : List AV} (hcap : cap = l.length + ext.length) {fl : Bool} : AW Tryd.prog 58 [.v (.slice (some ⟨g, 0, none⟩) l.length cap), .v (.int .i64 (i : Int)), .v (.int .i64 ((i : Int) + 1))] [] [⟨g, fl, .box (strsC l ++ ext)⟩] (fun r n => ∃ ext', cap = (l.eraseIdx i).length + ext'.length ∧ r = .v (.slice (some ⟨g, 0, none⟩) (l.eraseIdx i).length cap) ∧ n = [⟨g, true, .box (strsC (l.eraseIdx i) ++ ext')⟩]) := by
 refine aw_of_awp (rs := [6]) (nt := 33) (so := [⟨g, true, .box (strsC l ++ ext)⟩]) Tryd.func58 rfl rfl rfl rfl rfl (fun w0 C0 hq => ?_)
 refine awp_seq ?_
 refine awp_region ?_
 refine r_assign rfl rfl ?_
 refine awl_nil ?_
 refine x_then ?_
 refine awp_seq ?_
 refine awp_region ?_
 refine r_move rfl rfl ?_
 refine r_move rfl rfl ?_
 refine r_move rfl rfl ?_
 refine r_move rfl rfl ?_
 refine r_lenV rfl TF.sl54 rfl ?_
 refine r_sliceV3 rfl rfl rfl rfl TF.sl54 TF.sz9 (by omega) (by omega) (by omega) (by omega) rfl (fun v13 => ?_)
 refine awl_nil ?_
 refine x_then ?_
 refine awp_seq ?_
 refine awp_seq ?_
 refine awp_region ?_
 refine r_move rfl rfl ?_
 refine r_move rfl rfl ?_
 refine r_cmp rfl rfl rfl rfl ?_
 refine awl_nil ?_
 refine x_then ?_
 refine awp_cond rfl (fun hc0 => ?_) (fun hc0 => ?_)
 ·
  exfalso; have := eq_of_beq hc0; omega
 ·
  refine awp_skip ?_
  refine x_then ?_
  refine awp_seq ?_
  refine awp_region ?_
  refine r_move rfl rfl ?_
  refine r_lenV rfl TF.sl54 rfl ?_
  refine r_assign rfl rfl ?_
  refine awl_nil ?_
  refine x_then ?_
  refine awp_seq ?_
  refine awp_drawS [20, 21, 22, 23, 24, 25] [_, _, _, _, _, _] [] [] TF.mixed rfl rfl rfl ⟨⟨⟨⟨⟨⟨trivial
   , ⟨_, rfl, fun sl hd hr ho => by
     refine r_move (hr 0 _ rfl rfl rfl) rfl ?_
     exact awl_nil ⟨rfl, post_put⟩⟩⟩
   , ⟨_, rfl, fun sl hd hr ho => by
     refine r_move (hr 1 _ rfl rfl rfl) rfl ?_
     exact awl_nil ⟨rfl, post_put⟩⟩⟩
   , ⟨_, rfl, fun sl hd hr ho => by
     refine r_sliceVH (hd 0 _ rfl rfl rfl) (hd 1 _ rfl rfl rfl) TF.sl54 TF.sz9 (by omega) (by omega) rfl ?_
     exact awl_nil ⟨rfl, post_put⟩⟩⟩
   , ⟨_, rfl, fun sl hd hr ho => by
     refine r_move (hr 0 _ rfl rfl rfl) rfl ?_
     exact awl_nil ⟨rfl, post_put⟩⟩⟩
   , ⟨_, rfl, fun sl hd hr ho => by
     refine r_move (hr 2 _ rfl rfl rfl) rfl ?_
     exact awl_nil ⟨rfl, post_put⟩⟩⟩
   , ⟨_, rfl, fun sl hd hr ho => by
     refine r_sliceVLd (hd 3 _ rfl rfl rfl) (hd 4 _ rfl rfl rfl) TF.sl54 TF.sz9 (by omega) (by omega) (by omega) rfl ?_
     exact awl_nil ⟨rfl, post_put⟩⟩⟩
   (by rfl) ?_
  refine r_appendV 0 rfl rfl (fun h => if_neg (by omega)) rfl TF.sl54 TF.sz9 (by rw [show (0 + ((i : Int) + 1).toNat * 1) = i + 1 from by omega, show l.length - ((i : Int) + 1).toNat = l.length - (i + 1) from by omega, str_drop (by omega)]; exact strs_one _) (by omega) (by simp [strsC_len]; omega) (by simp [strsC_len]; omega) rfl ?_
  refine r_assign rfl rfl ?_
  refine awl_nil ?_
  refine x_then ?_
  refine awp_seq ?_
  refine awp_region ?_
  refine awl_imp (imp_boxEq 0 (strsC (l.eraseIdx i) ++ (strsC l ++ ext).drop (i + (l.length - (i + 1)))) rfl (del_box hi)) ?_
  refine r_move rfl rfl ?_
  refine r_move rfl rfl ?_
  refine r_lenV rfl TF.sl54 rfl ?_
  refine r_move rfl rfl ?_
  refine r_sliceVLH rfl rfl rfl TF.sl54 TF.sz9 (by omega) (by omega) (by omega) rfl (fun A31 hA31 => ?_)
  refine r_clear 0 rfl (fun h => hA31 (by omega)) rfl TF.sl54 TF.zraw9 rfl (by simp [Value.oneCell']) (by simp [strsC_len, erase_len hi]; omega) (fun xc hxc => ?_)
  refine awl_nil ?_
  refine x_then ?_
  refine awp_seq ?_
  refine awp_region ?_
  refine r_move rfl rfl ?_
  refine r_assign rfl rfl ?_
  refine awl_nil ?_
  refine x_then ?_
  refine awp_ret ?_
  have he := erase_len hi
  have htk : (strsC (l.eraseIdx i) ++ (strsC l ++ ext).drop (i + (l.length - (i + 1)))).take (0 + (i + (l.length - (i + 1))) * 1) = strsC (l.eraseIdx i) := by rw [Nat.zero_add, Nat.mul_one, ← he, ← strsC_len (l.eraseIdx i), List.take_left]
  exact ⟨(.inl rfl), _, [⟨g, true, .box (strsC (l.eraseIdx i) ++ (xc ++ (strsC (l.eraseIdx i) ++ (strsC l ++ ext).drop (i + (l.length - (i + 1)))).drop (0 + (i + (l.length - (i + 1))) * 1 + (l.length - (i + (l.length - (i + 1)))))))⟩], (.one (by first | exact .mk rfl rfl | exact .nil rfl)), ⟨_, by simp [strsC_len, hxc, he]; omega, by rw [he]; rfl, rfl⟩, (by rw [show strsC (l.eraseIdx i) ++ (xc ++ (strsC (l.eraseIdx i) ++ (strsC l ++ ext).drop (i + (l.length - (i + 1)))).drop (0 + (i + (l.length - (i + 1))) * 1 + (l.length - (i + (l.length - (i + 1)))))) = (strsC (l.eraseIdx i) ++ (strsC l ++ ext).drop (i + (l.length - (i + 1)))).take (0 + (i + (l.length - (i + 1))) * 1) ++ xc ++ (strsC (l.eraseIdx i) ++ (strsC l ++ ext).drop (i + (l.length - (i + 1)))).drop (0 + (i + (l.length - (i + 1))) * 1 + (l.length - (i + (l.length - (i + 1))))) from by rw [htk, List.append_assoc]]; exact List.Sublist.refl _), (by simp)⟩
end Go.Proofs.YtcbhhjahjnlfhaaDoor.A

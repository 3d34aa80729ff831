import Derived.WalkKit
import Derived.Below
import Derived.Laws.Rows
import Derived.Laws.CopyRow
import Derived.Laws.AppendOwn
import Derived.RangeFuncLeaves
import Derived.RangeFuncSeq
import Derived.RangeFuncCalls
import Derived.MapKept
import Derived.Orders
import Derived.Laws.IdiomStrings
import Derived.Laws.BytesArg
import Derived.Shelf.SlIter.Nil
import Derived.RangeFuncBound
import Derived.Maps.RangeRun
import Derived.DeepKeys3
import Derived.Laws.StructEq
import Derived.Shelf.SlSortCmp.NoneTotal
import Derived.ChangeKeysEq
import Derived.Laws.MakeOwn
import Derived.ChangeArms
import Derived.ChangeOld
import Derived.Laws.DeepStrings4
import Derived.OpenShut
import Derived.Test.YtljgdbgcleibjaaProg
import Derived.KernelRfl
import Derived.OrdersIn
import Derived.Lib.AppendZeros
import Derived.Lib.AppendZerosOnto
import Derived.Lib.Overlaps
import Derived.Deep.AppendSrc
import Derived.Shelf.SlGeneric
import Derived.Ground.SlsfProg
import Derived.Test.YtljgdbgcleibjaaM7
namespace Go.Proofs.Ytljgdbgcleibjaa.A
open Go Go.RowKit
set_option linter.unusedVariables false
set_option linter.unusedSimpArgs false
variable {P : Program} {w0 : Base} {C0 C : CS} {T : TS} {S S' : AState} {a : Act} {w : World} {ops : Array Oper} {rest : List Oper} {o : Oper} {Q : Exit → AState → Prop}
section
variable {t : Nat} {ty : TypeId} {pos : String} {aft : Array Edge}
theorem r_conv {src dst : TypeId} {x : Operand} {k k' : IntKind} {i : Int} (m : Int) {d : TypeDesc} (hx : S.ev x = some (.a (.v (.int k' i)))) (hs' : P.underlying src = some d) (hd : P.underlying dst = some (.int k)) (hm : k.wrap i = m)
    (ht : Nat.blt t S.nt = true) (hr : AWL P w0 C0 ops rest Q (S.put t (.a (.v (.int k m))))) :
    AWL P w0 C0 ops (⟨some t, .convert src dst x, ty, pos, aft, none⟩ :: rest) Q S :=
  awl_pure ht (fun C T a w hs => ⟨.int k m, by
    subst hm
    simp [execOp, hs.evv hx, convert, Sem.run_bind, run_underlying hs', run_underlying hd, Conv.intToInt], srel_v _⟩) hr
end
end Go.Proofs.Ytljgdbgcleibjaa.A
namespace Go.Proofs.Ytljgdbgcleibjaa.A
open Go Go.RowKit
set_option linter.unusedVariables false
set_option linter.unusedSimpArgs false
set_option linter.unusedSectionVars false
variable {P : Program} {w0 : Base} {C0 C : CS} {T : TS} {S S' : AState} {a : Act} {w : World} {ops : Array Oper} {rest : List Oper} {o : Oper} {Q : Exit → AState → Prop}
variable {t : Nat} {ty ty' : TypeId} {pos : String} {aft : Array Edge}
theorem g_skipU {t : Nat} {op : Op} {j t' : Nat} {want : Bool} (hj : (ops[j]?).bind (·.dst) = some t') (hs : S.get t' = some (.a (.v undef))) (ht : Nat.blt t S.nt = true)
    (h : AWL P w0 C0 ops rest Q (S.put t (.a (.v undef)))) : AWL P w0 C0 ops (⟨some t, op, ty, pos, aft, some (j, want)⟩ :: rest) Q S := by
  rintro a w ⟨C, T, hs'⟩
  have hv := hs'.slots _ _ hs
  have hv' : a.tmps.getD t' undef = undef := by generalize a.tmps.getD t' undef = u at hv; cases hv; rfl
  have e2 : Region.wanted (⟨some t, op, ty, pos, aft, some (j, want)⟩ : Oper) (yielded ops a.tmps) = false := by
    simp only [Region.wanted, yielded, hj]
    cases hc : a.tmps[t']? with
    | none => simp [hc]
    | some v =>
      have : v = undef := by rw [Array.getD_eq_getD_getElem?, hc] at hv'; simpa using hv'
      subst this; simp [hc, undef]
  exact wpList_skip e2 (h _ _ ⟨C, T, hs'.put ht (srel_v _)⟩)
end Go.Proofs.Ytljgdbgcleibjaa.A
namespace Go.Proofs.Ytljgdbgcleibjaa.A
open Go Go.RowKit
set_option linter.unusedVariables false
set_option linter.unusedSimpArgs false
set_option linter.unusedSectionVars false
variable {P : Program} {w0 : Base} {C0 C : CS} {T : TS} {S S' : AState} {a : Act} {w : World} {ops : Array Oper} {rest : List Oper} {o : Oper} {Q : Exit → AState → Prop}
variable {t : Nat} {ty ty' : TypeId} {pos : String} {aft : Array Edge}
theorem rem_some {k : IntKind} {i j : Int} (h : j ≠ 0) : divI .rem k i j = some (i.tmod j) := if_neg h
end Go.Proofs.Ytljgdbgcleibjaa.A
namespace Go.Proofs.Ytljgdbgcleibjaa.A
open Go Go.RowKit
set_option linter.unusedVariables false
set_option linter.unusedSimpArgs false
def itV (x : It) : List Value := x.1.vs ++ [.int .u64 x.2]
theorem isVal_it (x : It) : IsVal (.agg (itC x)) (.agg (itV x).toArray) := isVal_agg (areVals_v (itV x))
def itK : List VK := spK ++ [.int .u64]
theorem itV_kn (x : It) : Kn itK (itV x) := ⟨⟨_, rfl⟩, ⟨_, rfl⟩, ⟨_, rfl⟩, ⟨_, rfl⟩, ⟨_, rfl⟩, trivial⟩
theorem itV_inj {x y : It} (h : itV x = itV y) : x = y := by
  obtain ⟨a, v⟩ := x; obtain ⟨b, w⟩ := y
  simp [itV, Sp.vs] at h
  obtain ⟨h1, h2, h3, h4, rfl⟩ := h
  rw [Sp.ext' h1 h2 h3 h4]
theorem btw_a {A B : List It} {i k : Nat} {x : It} (hx : A[i]? = some x) (hf : B.length ≤ k ∨ ∃ y, B[k]? = some y ∧ ¬ y.1.lt x.1) : btwGo A B (A.drop i) (B.drop k) = mis B x false ++ btwGo A B (A.drop (i + 1)) (B.drop k) := by
  rw [drop_get hx]
  rcases hf with hf | ⟨y, hy, hlt⟩
  · rw [List.drop_of_length_le hf, btwGo]
  · rw [drop_get hy, btwGo, if_pos hlt]
theorem btw_b {A B : List It} {i k : Nat} {y : It} (hy : B[k]? = some y) (hf : A.length ≤ i ∨ ∃ x, A[i]? = some x ∧ y.1.lt x.1) : btwGo A B (A.drop i) (B.drop k) = mis A y true ++ btwGo A B (A.drop i) (B.drop (k + 1)) := by
  rw [drop_get hy]
  rcases hf with hf | ⟨x, hx, hlt⟩
  · rw [List.drop_of_length_le hf, btwGo]
  · rw [drop_get hx, btwGo, if_neg (by simpa using hlt)]
theorem btw_end {A B : List It} {i k : Nat} (h1 : A.length ≤ i) (h2 : B.length ≤ k) : btwGo A B (A.drop i) (B.drop k) = [] := by
  rw [List.drop_of_length_le h1, List.drop_of_length_le h2, btwGo]
end Go.Proofs.Ytljgdbgcleibjaa.A
namespace Go.Proofs.Ytljgdbgcleibjaa.A
open Go Go.RowKit
set_option linter.unusedVariables false
set_option linter.unusedSimpArgs false
set_option maxRecDepth 100000
theorem flat57 : FlatT Try.prog 57 itK := ⟨by kernel_rfl, by kernel_rfl, by kernel_rfl, by kernel_rfl⟩
theorem has_ok (l : List It) (x : It) (hl : l.length ≤ 1000) : AC Try.prog 35 [.sl 5 (l.map itC), .agg (itC x)] [] (fun r n => n = [] ∧ r = boolA (decide (x ∈ l))) := by
 refine ac_of_awp (rs := [4]) (nt := 18) Try.func35 rfl rfl rfl rfl (fun w0 C0 hq => ?_)
 refine awp_seq ?_
 refine awp_region ?_
 refine r_box rfl rfl rfl (fun b3 => ?_)
 refine r_assign rfl rfl ?_
 refine awl_nil ?_
 refine x_then ?_
 refine awp_seq ?_
 refine awp_seq ?_
 refine awp_region ?_
 refine r_assign rfl rfl ?_
 refine awl_nil ?_
 refine x_then ?_
 refine awp_block ?_
 refine awp_loop (fun nn0 S => ∃ i : Nat, S = ⟨18, [(0, .a (.sl 5 (l.map itC))), (3, .a (.v (.pointer (some ⟨b3, 0, none⟩)))), (5, .a (.v (.int .i64 ((i : Int)))))], [⟨b3, true, .box (itC x)⟩]⟩ ∧ nn0 = l.length - i ∧ (i ≤ l.length) ∧ (∀ j, j < i → ∀ y, l[j]? = some y → y ≠ x)) (l.length - (0)) ⟨18, [(0, .a (.sl 5 (l.map itC))), (3, .a (.v (.pointer (some ⟨b3, 0, none⟩)))), (5, .a (.v (.int .i64 (((0) : Int)))))], [⟨b3, true, .box (itC x)⟩]⟩ ⟨rfl, (Slots.cons rfl (by first | exact .refl _ | exact .nilOwn _ _ | exact .nilSl _ | exact .ownSl _ _ _  | exact SV.le.of_eq (by simp)) (Slots.cons rfl (by first | exact .refl _ | exact .nilOwn _ _ | exact .nilSl _ | exact .ownSl _ _ _  | exact SV.le.of_eq (by simp)) (Slots.cons rfl (by first | exact .refl _ | exact .nilOwn _ _ | exact .nilSl _ | exact .ownSl _ _ _  | exact SV.le.of_eq (by simp)) Slots.nil))), (by first | exact List.Sublist.refl _ | exact .cons_cons _ (.cons _ (.refl _)) | exact List.nil_sublist _ | exact .cons _ (.refl _) | exact .cons _ (.cons _ (.refl _)) | exact .cons _ (.cons _ (.cons _ (.refl _))) | exact .cons _ (.cons _ (.cons _ (.cons _ (.refl _)))) | exact .cons_cons _ (List.nil_sublist _))⟩ ⟨0, rfl, rfl, Nat.zero_le _, (fun j h => by omega)⟩ ?_
 rintro nn0 _ ⟨i, rfl, rfl, hi, hno⟩
 refine awp_seq ?_
 refine awp_seq ?_
 refine awp_region ?_
 refine r_move rfl rfl ?_
 refine r_move rfl rfl ?_
 first | (refine r_lenS rfl rfl TF.sl25 rfl ?_) | (refine r_lenNil rfl TF.sl25 rfl ?_) | (refine r_lenV rfl TF.sl25 rfl ?_)
 refine r_cmp rfl rfl rfl rfl ?_
 refine awl_nil ?_
 refine x_then ?_
 refine awp_cond rfl (fun hc0 => ?_) (fun hc0 => ?_)
 ·
  have hlty : i < l.length := by have := of_decide_eq_true hc0; simpa using this
  obtain ⟨y, hy⟩ := get_lt hlty
  refine awp_skip ?_
  refine x_then ?_
  refine awp_seq ?_
  refine awp_block ?_
  refine awp_seq ?_
  refine awp_drawS [12, 13, 14, 15, 16] [_, _, _, _, _] [] [] TF.mixed rfl rfl rfl ⟨⟨⟨⟨⟨trivial
   , ⟨_, rfl, fun sl hd hr ho => by
     refine r_move (hr 0 _ rfl rfl rfl) rfl ?_
     exact awl_nil ⟨rfl, post_put⟩⟩⟩
   , ⟨_, rfl, fun sl hd hr ho => by
     refine r_move (hr 5 _ rfl rfl rfl) rfl ?_
     exact awl_nil ⟨rfl, post_put⟩⟩⟩
   , ⟨_, rfl, fun sl hd hr ho => by
     refine r_index (hd 0 _ rfl rfl rfl) rfl (hd 1 _ rfl rfl rfl) TF.sl25 TF.sz57 (by omega) (get_map hy) rfl ?_
     exact awl_nil ⟨rfl, post_put⟩⟩⟩
   , ⟨_, rfl, fun sl hd hr ho => by
     first | (refine r_loadAb 0 (hd 2 _ rfl rfl rfl) rfl TF.agg57 TF.sz57 rfl rfl ?_) | (refine r_loadA (hd 2 _ rfl rfl rfl) TF.agg57 TF.sz57 rfl rfl ?_)
     exact awl_nil ⟨rfl, post_put⟩⟩⟩
   , ⟨_, rfl, fun sl hd hr ho => by
     first | (refine r_loadAb 0 (hr 3 _ rfl rfl rfl) rfl TF.agg57 TF.sz57 rfl rfl ?_) | (refine r_loadA (hr 3 _ rfl rfl rfl) TF.agg57 TF.sz57 rfl rfl ?_)
     exact awl_nil ⟨rfl, post_put⟩⟩⟩
   (by rfl) ?_
  refine r_feq rfl rfl flat57 (isVal_it y) (isVal_it x) (itV_kn _) (itV_kn _) (decide (y = x)) (by rw [decide_eq_true_eq]; exact ⟨fun h => by rw [h], itV_inj⟩) rfl ?_
  refine awl_nil ?_
  refine x_then ?_
  refine awp_cond rfl (fun hc1 => ?_) (fun hc1 => ?_)
  ·
   have he : y = x := of_decide_eq_true hc1
   subst he
   have hnm : y ∈ l := List.mem_of_getElem? hy
   refine awp_seq ?_
   refine awp_region ?_
   refine r_assign rfl rfl ?_
   refine awl_nil ?_
   refine x_then ?_
   refine awp_ret ?_
   refine x_blockR ?_
   refine x_thenR ?_
   refine x_thenR ?_
   refine x_blockR ?_
   refine x_thenR ?_
   exact ⟨(.inl rfl), _, [], (.one (by first | exact .mk rfl rfl | exact .nil rfl)), ⟨rfl, by rw [decide_eq_true hnm]; rfl⟩, (List.nil_sublist _), (by simp)⟩
  ·
   have hne : y ≠ x := of_decide_eq_false hc1
   refine awp_skip ?_
   refine x_block ?_
   refine x_then ?_
   refine awp_region ?_
   refine r_move rfl rfl ?_
   refine r_ari _ rfl rfl rfl (wrap_id (by first | omega | (simp; omega))) rfl ?_
   refine r_assign rfl rfl ?_
   refine awl_nil ?_
   refine x_then ?_
   refine ⟨l.length - (i + 1), ⟨18, [(0, .a (.sl 5 (l.map itC))), (3, .a (.v (.pointer (some ⟨b3, 0, none⟩)))), (5, .a (.v (.int .i64 (((i + 1) : Int)))))], [⟨b3, true, .box (itC x)⟩]⟩, ⟨rfl, (Slots.cons rfl (by first | exact .refl _ | exact .nilOwn _ _ | exact .nilSl _ | exact .ownSl _ _ _  | exact SV.le.of_eq (by simp)) (Slots.cons rfl (by first | exact .refl _ | exact .nilOwn _ _ | exact .nilSl _ | exact .ownSl _ _ _  | exact SV.le.of_eq (by simp)) (Slots.cons rfl (by first | exact .refl _ | exact .nilOwn _ _ | exact .nilSl _ | exact .ownSl _ _ _  | exact SV.le.of_eq (by simp)) Slots.nil))), (by first | exact List.Sublist.refl _ | exact .cons_cons _ (.cons _ (.refl _)) | exact List.nil_sublist _ | exact .cons _ (.refl _) | exact .cons _ (.cons _ (.refl _)) | exact .cons _ (.cons _ (.cons _ (.refl _))) | exact .cons _ (.cons _ (.cons _ (.cons _ (.refl _)))) | exact .cons_cons _ (List.nil_sublist _))⟩, (by omega), ⟨i + 1, rfl, rfl, (by omega), (fun j hj z hz => by rcases Nat.lt_succ_iff_lt_or_eq.1 hj with h | h; exact hno j h z hz; subst h; rw [hy] at hz; cases hz; exact hne)⟩⟩
 ·
  have hge : l.length ≤ i := by have := of_decide_eq_false hc0; simp at this; omega
  have hnm : x ∉ l := fun h => by obtain ⟨j, hj⟩ := List.getElem?_of_mem h; exact hno j (by have := (List.getElem?_eq_some_iff.1 hj).1; omega) x hj rfl
  refine awp_exit ?_
  refine x_thenE ?_
  refine x_thenE ?_
  refine x_blockE ?_
  refine x_then ?_
  refine awp_seq ?_
  refine awp_region ?_
  refine r_assign rfl rfl ?_
  refine awl_nil ?_
  refine x_then ?_
  refine awp_ret ?_
  exact ⟨(.inl rfl), _, [], (.one (by first | exact .mk rfl rfl | exact .nil rfl)), ⟨rfl, by rw [decide_eq_false hnm]; rfl⟩, (List.nil_sublist _), (by simp)⟩
end Go.Proofs.Ytljgdbgcleibjaa.A
namespace Go.Proofs.Ytljgdbgcleibjaa.A
open Go Go.RowKit
set_option linter.unusedVariables false
set_option linter.unusedSimpArgs false
set_option maxRecDepth 100000
theorem TF.en35 : entersT Try.prog 35 := enters_of Try.func35 (by kernel_rfl) (by kernel_rfl)
set_option maxHeartbeats 1000000 in
theorem refBtw_ok (A B : List It) (hA : A.length ≤ 1000) (hB : B.length ≤ 1000) : AC Try.prog 14 [.sl 5 (A.map itC), .sl 5 (B.map itC)] [] (fun r n => n = [] ∧ r = .sl 5 ((refBtw A B).map chC)) := by
 refine ac_of_awp (rs := [4]) (nt := 82) Try.func14 rfl rfl rfl rfl (fun w0 C0 hq => ?_)
 refine awp_seq ?_
 refine awp_region ?_
 refine r_assign rfl rfl ?_
 refine awl_nil ?_
 refine x_then ?_
 refine awp_seq ?_
 refine awp_region ?_
 refine r_lit 9 (parts := []) rfl TF.sl29 TF.sz55 TF.zraw55 rfl rfl rfl rfl rfl rfl rfl ?_
 refine r_assign rfl rfl ?_
 refine awl_nil ?_
 refine x_then ?_
 refine awp_seq ?_
 refine awp_region ?_
 refine r_assign rfl rfl ?_
 refine awl_nil ?_
 refine x_then ?_
 refine awp_seq ?_
 refine awp_region ?_
 refine r_assign rfl rfl ?_
 refine awl_nil ?_
 refine x_then ?_
 refine awp_seq ?_
 refine awp_block ?_
 refine awp_loop (fun nn0 S => ∃ i : Nat, ∃ k : Nat, ∃ o : List (Sp × Bool), S = ⟨82, [(0, .a (.sl 5 (A.map itC))), (1, .a (.sl 5 (B.map itC))), (5, .own 9 5 (o.map chC)), (6, .a (.v (.int .i64 ((i : Int))))), (7, .a (.v (.int .i64 ((k : Int)))))], []⟩ ∧ nn0 = A.length + B.length - (i + k) ∧ (i ≤ A.length) ∧ (k ≤ B.length) ∧ (o ++ btwGo A B (A.drop i) (B.drop k) = refBtw A B)) (A.length + B.length - ((0) + (0))) ⟨82, [(0, .a (.sl 5 (A.map itC))), (1, .a (.sl 5 (B.map itC))), (5, .own 9 5 (([]).map chC)), (6, .a (.v (.int .i64 (((0) : Int))))), (7, .a (.v (.int .i64 (((0) : Int)))))], []⟩ ⟨rfl, (Slots.cons rfl (by first | exact .refl _ | exact .nilOwn _ _ | exact .nilSl _ | exact .ownSl _ _ _  | exact SV.le.of_eq (by simp)) (Slots.cons rfl (by first | exact .refl _ | exact .nilOwn _ _ | exact .nilSl _ | exact .ownSl _ _ _  | exact SV.le.of_eq (by simp)) (Slots.cons rfl (by first | exact .refl _ | exact .nilOwn _ _ | exact .nilSl _ | exact .ownSl _ _ _  | exact SV.le.of_eq (by simp)) (Slots.cons rfl (by first | exact .refl _ | exact .nilOwn _ _ | exact .nilSl _ | exact .ownSl _ _ _  | exact SV.le.of_eq (by simp)) (Slots.cons rfl (by first | exact .refl _ | exact .nilOwn _ _ | exact .nilSl _ | exact .ownSl _ _ _  | exact SV.le.of_eq (by simp)) Slots.nil))))), (by first | exact List.Sublist.refl _ | exact .cons_cons _ (.cons _ (.refl _)) | exact List.nil_sublist _ | exact .cons _ (.refl _) | exact .cons _ (.cons _ (.refl _)) | exact .cons _ (.cons _ (.cons _ (.refl _))) | exact .cons _ (.cons _ (.cons _ (.cons _ (.refl _)))) | exact .cons_cons _ (List.nil_sublist _))⟩ ⟨0, 0, [], rfl, rfl, Nat.zero_le _, Nat.zero_le _, rfl⟩ ?_
 rintro nn0 _ ⟨i, k, o, rfl, rfl, hi, hk, hgo⟩
 refine awp_seq ?_
 refine awp_seq ?_
 refine awp_region ?_
 refine r_move rfl rfl ?_
 refine r_move rfl rfl ?_
 first | (refine r_lenS rfl rfl TF.sl25 rfl ?_) | (refine r_lenNil rfl TF.sl25 rfl ?_) | (refine r_lenV rfl TF.sl25 rfl ?_)
 refine r_cmp rfl rfl rfl rfl ?_
 refine r_move rfl rfl ?_
 refine g_cases (t' := 14) rfl (fun hg14 => ?_) (fun hg14 => ?_)
 ·
  have hia : i < A.length := by have := of_decide_eq_true hg14; rw [List.length_map] at this; omega
  refine g_skip rfl rfl hg14 rfl ?_
  refine g_skip rfl rfl hg14 rfl ?_
  refine g_skip rfl rfl hg14 rfl ?_
  refine g_skip rfl rfl hg14 rfl ?_
  refine r_pickT rfl hg14 rfl rfl ?_
  refine awl_nil ?_
  refine x_then ?_
  refine awp_condT rfl ?_
  have hor : i < A.length ∨ k < B.length := by first | exact .inl hia | (right; have := of_decide_eq_true hc0; rw [List.length_map] at this; omega)
  have hol : o.length ≤ 2000 := by have h1 := congrArg List.length hgo; have h2 := btwLen A B A B; rw [List.length_append] at h1; unfold refBtw at h1; omega
  refine awp_skip ?_
  refine x_then ?_
  refine awp_block ?_
  refine awp_seq ?_
  rcases Bool.eq_false_or_eq_true (decide (((k : Nat) : Int) ≥ (((B.map itC).length : Nat) : Int))) with hg24 | hg24
  ·
   have hkb : B.length ≤ k := by have := of_decide_eq_true hg24; rw [List.length_map] at this; omega
   have hia' : i < A.length := by omega
   obtain ⟨x, hx⟩ := get_lt hia'
   have hstep := btw_a hx (.inl hkb)
   refine awp_drawS [20, 21, 22, 23, 24, 25, 26, 27, 28, 29, 30, 31, 32, 33, 34, 35, 36, 37, 38, 39] [_, _, _, _, _, _, _, _, _, _, _, _, _, _, _, _, _, _, _, _] [] [] TF.mixed rfl rfl rfl ⟨⟨⟨⟨⟨⟨⟨⟨⟨⟨⟨⟨⟨⟨⟨⟨⟨⟨⟨⟨trivial
    , ⟨_, rfl, fun sl hd hr ho => by
      refine r_move (hr 7 _ rfl rfl rfl) rfl ?_
      exact awl_nil ⟨rfl, post_put⟩⟩⟩
    , ⟨_, rfl, fun sl hd hr ho => by
      refine r_move (hr 1 _ rfl rfl rfl) rfl ?_
      exact awl_nil ⟨rfl, post_put⟩⟩⟩
    , ⟨_, rfl, fun sl hd hr ho => by
      first | (refine r_lenS (hd 1 _ rfl rfl rfl) rfl TF.sl25 rfl ?_) | (refine r_lenNil (hd 1 _ rfl rfl rfl) TF.sl25 rfl ?_) | (refine r_lenV (hd 1 _ rfl rfl rfl) TF.sl25 rfl ?_)
      exact awl_nil ⟨rfl, post_put⟩⟩⟩
    , ⟨_, rfl, fun sl hd hr ho => by
      refine r_cmp (hd 0 _ rfl rfl rfl) (hd 2 _ rfl rfl rfl) rfl rfl ?_
      exact awl_nil ⟨rfl, post_put⟩⟩⟩
    , ⟨_, rfl, fun sl hd hr ho => by
      refine r_move (hd 3 _ rfl rfl rfl) rfl ?_
      exact awl_nil ⟨rfl, post_put⟩⟩⟩
    , ⟨_, rfl, fun sl hd hr ho => by
      refine g_skip rfl (hd 4 _ rfl rfl rfl) hg24 rfl ?_
      exact awl_nil ⟨rfl, post_put⟩⟩⟩
    , ⟨_, rfl, fun sl hd hr ho => by
      refine g_skip rfl (hd 4 _ rfl rfl rfl) hg24 rfl ?_
      exact awl_nil ⟨rfl, post_put⟩⟩⟩
    , ⟨_, rfl, fun sl hd hr ho => by
      refine g_skip rfl (hd 4 _ rfl rfl rfl) hg24 rfl ?_
      exact awl_nil ⟨rfl, post_put⟩⟩⟩
    , ⟨_, rfl, fun sl hd hr ho => by
      refine g_skip rfl (hd 4 _ rfl rfl rfl) hg24 rfl ?_
      exact awl_nil ⟨rfl, post_put⟩⟩⟩
    , ⟨_, rfl, fun sl hd hr ho => by
      refine g_skip rfl (hd 4 _ rfl rfl rfl) hg24 rfl ?_
      exact awl_nil ⟨rfl, post_put⟩⟩⟩
    , ⟨_, rfl, fun sl hd hr ho => by
      refine g_skipU rfl (hd 9 _ rfl rfl rfl) rfl ?_
      exact awl_nil ⟨rfl, post_put⟩⟩⟩
    , ⟨_, rfl, fun sl hd hr ho => by
      refine g_skipU rfl (hd 9 _ rfl rfl rfl) rfl ?_
      exact awl_nil ⟨rfl, post_put⟩⟩⟩
    , ⟨_, rfl, fun sl hd hr ho => by
      refine g_skipU rfl (hd 9 _ rfl rfl rfl) rfl ?_
      exact awl_nil ⟨rfl, post_put⟩⟩⟩
    , ⟨_, rfl, fun sl hd hr ho => by
      refine g_skipU rfl (hd 9 _ rfl rfl rfl) rfl ?_
      exact awl_nil ⟨rfl, post_put⟩⟩⟩
    , ⟨_, rfl, fun sl hd hr ho => by
      refine g_skipU rfl (hd 9 _ rfl rfl rfl) rfl ?_
      exact awl_nil ⟨rfl, post_put⟩⟩⟩
    , ⟨_, rfl, fun sl hd hr ho => by
      refine g_skipU rfl (hd 9 _ rfl rfl rfl) rfl ?_
      exact awl_nil ⟨rfl, post_put⟩⟩⟩
    , ⟨_, rfl, fun sl hd hr ho => by
      refine g_skipU rfl (hd 9 _ rfl rfl rfl) rfl ?_
      exact awl_nil ⟨rfl, post_put⟩⟩⟩
    , ⟨_, rfl, fun sl hd hr ho => by
      refine g_skipU rfl (hd 9 _ rfl rfl rfl) rfl ?_
      exact awl_nil ⟨rfl, post_put⟩⟩⟩
    , ⟨_, rfl, fun sl hd hr ho => by
      refine g_skipU rfl (hd 9 _ rfl rfl rfl) rfl ?_
      exact awl_nil ⟨rfl, post_put⟩⟩⟩
    , ⟨_, rfl, fun sl hd hr ho => by
      refine g_skipU rfl (hd 9 _ rfl rfl rfl) rfl ?_
      exact awl_nil ⟨rfl, post_put⟩⟩⟩
    (by rfl) ?_
   refine g_skipU rfl rfl rfl ?_
   refine g_skipU rfl rfl rfl ?_
   refine g_skip rfl rfl hg24 rfl ?_
   refine r_pickT rfl hg24 rfl rfl ?_
   refine r_assign rfl rfl ?_
   refine awl_nil ?_
   refine x_then ?_
   refine awp_seq ?_
   refine awp_region ?_
   refine r_move rfl rfl ?_
   refine awl_nil ?_
   refine x_then ?_
   refine awp_condT rfl ?_
   refine awp_seq ?_
   refine awp_seq ?_
   refine awp_region ?_
   refine r_move rfl rfl ?_
   refine r_move rfl rfl ?_
   refine r_move rfl rfl ?_
   refine r_index rfl rfl rfl TF.sl25 TF.sz57 (by omega) (get_map hx) rfl ?_
   refine r_loadA rfl TF.agg57 TF.sz57 rfl rfl ?_
   refine r_call0 hq rfl rfl (.cons (.ev rfl rfl) (.cons (.ev rfl rfl) .nil)) (has_ok B x hB) rfl TF.en35 rfl (fun r hr => ?_)
   obtain rfl := hr
   refine r_not rfl rfl ?_
   refine awl_nil ?_
   refine x_then ?_
   refine awp_cond rfl (fun hc2 => ?_) (fun hc2 => ?_)
   ·
    have hm : mis B x false = [(x.1, false)] := if_neg (by have := hc2; simp at this; exact this)
    rw [hm] at hstep
    refine awp_region ?_
    refine r_move rfl rfl ?_
    refine r_move rfl rfl ?_
    refine r_move rfl rfl ?_
    refine r_index rfl rfl rfl TF.sl25 TF.sz57 (by omega) (get_map hx) rfl ?_
    first | (refine r_fieldcp rfl TF.f57_0 TF.sz47 rfl ?_) | (refine r_fieldpt rfl TF.f57_0 TF.sz47 rfl ?_) | (refine r_fieldb rfl TF.f57_0 TF.sz47 rfl ?_)
    refine r_loadA rfl TF.agg47 TF.sz47 rfl rfl ?_
    refine r_build (parts := [(0, .tmp 57), (1, .const ((Go.Value.bool false)))]) rfl TF.pl55 TF.zero55 rfl rfl rfl ?_
    refine r_lit 59 (parts := [(0, .tmp 58)]) rfl TF.sl29 TF.sz55 TF.zraw55 rfl rfl rfl rfl rfl rfl rfl ?_
    refine r_append 9 rfl (by first | exact .own _ | exact .nil) rfl (by first | exact .sl _ | exact .own _ _ | exact .nil) TF.sl29 TF.sz55 (by decide) TF.by55 TF.zlen55 (by simp [chunks]; omega) (by simp [chunks]; omega) rfl ?_
    refine r_assign rfl rfl ?_
    refine awl_nil ?_
    refine x_then ?_
    refine awp_region ?_
    refine r_move rfl rfl ?_
    refine r_ari _ rfl rfl rfl (wrap_id (by first | omega | (simp; omega))) rfl ?_
    refine r_assign rfl rfl ?_
    refine awl_nil ?_
    refine x_block ?_
    refine x_then ?_
    refine ⟨A.length + B.length - ((i + 1) + (k)), ⟨82, [(0, .a (.sl 5 (A.map itC))), (1, .a (.sl 5 (B.map itC))), (5, .own 9 5 ((o ++ [(x.1, false)]).map chC)), (6, .a (.v (.int .i64 (((i + 1) : Int))))), (7, .a (.v (.int .i64 (((k) : Int)))))], []⟩, ⟨rfl, (Slots.cons rfl (by first | exact .refl _ | exact .nilOwn _ _ | exact .nilSl _ | exact .ownSl _ _ _  | exact SV.le.ownEq (by first | rfl | (simp; done) | (simp; rfl)) | exact SV.le.of_eq (by first | rfl | (simp; done) | (simp; rfl))) (Slots.cons rfl (by first | exact .refl _ | exact .nilOwn _ _ | exact .nilSl _ | exact .ownSl _ _ _  | exact SV.le.ownEq (by first | rfl | (simp; done) | (simp; rfl)) | exact SV.le.of_eq (by first | rfl | (simp; done) | (simp; rfl))) (Slots.cons rfl (by first | exact .refl _ | exact .nilOwn _ _ | exact .nilSl _ | exact .ownSl _ _ _  | exact SV.le.ownEq (by first | rfl | (simp; done) | (simp; rfl)) | exact SV.le.of_eq (by first | rfl | (simp; done) | (simp; rfl))) (Slots.cons rfl (by first | exact .refl _ | exact .nilOwn _ _ | exact .nilSl _ | exact .ownSl _ _ _  | exact SV.le.ownEq (by first | rfl | (simp; done) | (simp; rfl)) | exact SV.le.of_eq (by first | rfl | (simp; done) | (simp; rfl))) (Slots.cons rfl (by first | exact .refl _ | exact .nilOwn _ _ | exact .nilSl _ | exact .ownSl _ _ _  | exact SV.le.ownEq (by first | rfl | (simp; done) | (simp; rfl)) | exact SV.le.of_eq (by first | rfl | (simp; done) | (simp; rfl))) Slots.nil))))), (by first | exact List.Sublist.refl _ | exact .cons_cons _ (.cons _ (.refl _)) | exact List.nil_sublist _ | exact .cons _ (.refl _) | exact .cons _ (.cons _ (.refl _)) | exact .cons _ (.cons _ (.cons _ (.refl _))) | exact .cons _ (.cons _ (.cons _ (.cons _ (.refl _)))) | exact .cons_cons _ (List.nil_sublist _))⟩, (by omega), ⟨i + 1, k, o ++ [(x.1, false)], rfl, rfl, (by omega), (by omega), (by rw [← hgo, hstep]; simp)⟩⟩
   ·
    have hm : mis B x false = [] := if_pos (by have := hc2; simp at this; exact this)
    rw [hm] at hstep
    refine awp_skip ?_
    refine x_then ?_
    refine awp_region ?_
    refine r_move rfl rfl ?_
    refine r_ari _ rfl rfl rfl (wrap_id (by first | omega | (simp; omega))) rfl ?_
    refine r_assign rfl rfl ?_
    refine awl_nil ?_
    refine x_block ?_
    refine x_then ?_
    refine ⟨A.length + B.length - ((i + 1) + (k)), ⟨82, [(0, .a (.sl 5 (A.map itC))), (1, .a (.sl 5 (B.map itC))), (5, .own 9 5 ((o).map chC)), (6, .a (.v (.int .i64 (((i + 1) : Int))))), (7, .a (.v (.int .i64 (((k) : Int)))))], []⟩, ⟨rfl, (Slots.cons rfl (by first | exact .refl _ | exact .nilOwn _ _ | exact .nilSl _ | exact .ownSl _ _ _  | exact SV.le.ownEq (by first | rfl | (simp; done) | (simp; rfl)) | exact SV.le.of_eq (by first | rfl | (simp; done) | (simp; rfl))) (Slots.cons rfl (by first | exact .refl _ | exact .nilOwn _ _ | exact .nilSl _ | exact .ownSl _ _ _  | exact SV.le.ownEq (by first | rfl | (simp; done) | (simp; rfl)) | exact SV.le.of_eq (by first | rfl | (simp; done) | (simp; rfl))) (Slots.cons rfl (by first | exact .refl _ | exact .nilOwn _ _ | exact .nilSl _ | exact .ownSl _ _ _  | exact SV.le.ownEq (by first | rfl | (simp; done) | (simp; rfl)) | exact SV.le.of_eq (by first | rfl | (simp; done) | (simp; rfl))) (Slots.cons rfl (by first | exact .refl _ | exact .nilOwn _ _ | exact .nilSl _ | exact .ownSl _ _ _  | exact SV.le.ownEq (by first | rfl | (simp; done) | (simp; rfl)) | exact SV.le.of_eq (by first | rfl | (simp; done) | (simp; rfl))) (Slots.cons rfl (by first | exact .refl _ | exact .nilOwn _ _ | exact .nilSl _ | exact .ownSl _ _ _  | exact SV.le.ownEq (by first | rfl | (simp; done) | (simp; rfl)) | exact SV.le.of_eq (by first | rfl | (simp; done) | (simp; rfl))) Slots.nil))))), (by first | exact List.Sublist.refl _ | exact .cons_cons _ (.cons _ (.refl _)) | exact List.nil_sublist _ | exact .cons _ (.refl _) | exact .cons _ (.cons _ (.refl _)) | exact .cons _ (.cons _ (.cons _ (.refl _))) | exact .cons _ (.cons _ (.cons _ (.cons _ (.refl _)))) | exact .cons_cons _ (List.nil_sublist _))⟩, (by omega), ⟨i + 1, k, o, rfl, rfl, (by omega), (by omega), (by rw [← hgo, hstep]; simp)⟩⟩
  ·
   have hkb : k < B.length := by have := of_decide_eq_false hg24; rw [List.length_map] at this; omega
   obtain ⟨y, hy⟩ := get_lt hkb
   rcases Bool.eq_false_or_eq_true (decide (((i : Nat) : Int) < (((A.map itC).length : Nat) : Int))) with hg29 | hg29
   ·
    have hia' : i < A.length := by have := of_decide_eq_true hg29; rw [List.length_map] at this; omega
    obtain ⟨x, hx⟩ := get_lt hia'
    refine awp_drawS [20, 21, 22, 23, 24, 25, 26, 27, 28, 29, 30, 31, 32, 33, 34, 35, 36, 37, 38, 39] [_, _, _, _, _, _, _, _, _, _, _, _, _, _, _, _, _, _, _, _] [] [] TF.mixed rfl rfl rfl ⟨⟨⟨⟨⟨⟨⟨⟨⟨⟨⟨⟨⟨⟨⟨⟨⟨⟨⟨⟨trivial
     , ⟨_, rfl, fun sl hd hr ho => by
       refine r_move (hr 7 _ rfl rfl rfl) rfl ?_
       exact awl_nil ⟨rfl, post_put⟩⟩⟩
     , ⟨_, rfl, fun sl hd hr ho => by
       refine r_move (hr 1 _ rfl rfl rfl) rfl ?_
       exact awl_nil ⟨rfl, post_put⟩⟩⟩
     , ⟨_, rfl, fun sl hd hr ho => by
       first | (refine r_lenS (hd 1 _ rfl rfl rfl) rfl TF.sl25 rfl ?_) | (refine r_lenNil (hd 1 _ rfl rfl rfl) TF.sl25 rfl ?_) | (refine r_lenV (hd 1 _ rfl rfl rfl) TF.sl25 rfl ?_)
       exact awl_nil ⟨rfl, post_put⟩⟩⟩
     , ⟨_, rfl, fun sl hd hr ho => by
       refine r_cmp (hd 0 _ rfl rfl rfl) (hd 2 _ rfl rfl rfl) rfl rfl ?_
       exact awl_nil ⟨rfl, post_put⟩⟩⟩
     , ⟨_, rfl, fun sl hd hr ho => by
       refine r_move (hd 3 _ rfl rfl rfl) rfl ?_
       exact awl_nil ⟨rfl, post_put⟩⟩⟩
     , ⟨_, rfl, fun sl hd hr ho => by
       refine g_run rfl (hd 4 _ rfl rfl rfl) hg24 ?_
       refine r_move (hr 6 _ rfl rfl rfl) rfl ?_
       exact awl_nil ⟨rfl, post_put⟩⟩⟩
     , ⟨_, rfl, fun sl hd hr ho => by
       refine g_run rfl (hd 4 _ rfl rfl rfl) hg24 ?_
       refine r_move (hr 0 _ rfl rfl rfl) rfl ?_
       exact awl_nil ⟨rfl, post_put⟩⟩⟩
     , ⟨_, rfl, fun sl hd hr ho => by
       refine g_run rfl (hd 4 _ rfl rfl rfl) hg24 ?_
       first | (refine r_lenS (hd 6 _ rfl rfl rfl) rfl TF.sl25 rfl ?_) | (refine r_lenNil (hd 6 _ rfl rfl rfl) TF.sl25 rfl ?_) | (refine r_lenV (hd 6 _ rfl rfl rfl) TF.sl25 rfl ?_)
       exact awl_nil ⟨rfl, post_put⟩⟩⟩
     , ⟨_, rfl, fun sl hd hr ho => by
       refine g_run rfl (hd 4 _ rfl rfl rfl) hg24 ?_
       refine r_cmp (hd 5 _ rfl rfl rfl) (hd 7 _ rfl rfl rfl) rfl rfl ?_
       exact awl_nil ⟨rfl, post_put⟩⟩⟩
     , ⟨_, rfl, fun sl hd hr ho => by
       refine g_run rfl (hd 4 _ rfl rfl rfl) hg24 ?_
       refine r_move (hd 8 _ rfl rfl rfl) rfl ?_
       exact awl_nil ⟨rfl, post_put⟩⟩⟩
     , ⟨_, rfl, fun sl hd hr ho => by
       refine g_run rfl (hd 9 _ rfl rfl rfl) hg29 ?_
       refine r_move (hr 1 _ rfl rfl rfl) rfl ?_
       exact awl_nil ⟨rfl, post_put⟩⟩⟩
     , ⟨_, rfl, fun sl hd hr ho => by
       refine g_run rfl (hd 9 _ rfl rfl rfl) hg29 ?_
       refine r_move (hr 7 _ rfl rfl rfl) rfl ?_
       exact awl_nil ⟨rfl, post_put⟩⟩⟩
     , ⟨_, rfl, fun sl hd hr ho => by
       refine g_run rfl (hd 9 _ rfl rfl rfl) hg29 ?_
       refine r_index (hd 10 _ rfl rfl rfl) rfl (hd 11 _ rfl rfl rfl) TF.sl25 TF.sz57 (by omega) (get_map hy) rfl ?_
       exact awl_nil ⟨rfl, post_put⟩⟩⟩
     , ⟨_, rfl, fun sl hd hr ho => by
       refine g_run rfl (hd 9 _ rfl rfl rfl) hg29 ?_
       first | (refine r_fieldcp (hd 12 _ rfl rfl rfl) TF.f57_0 TF.sz47 rfl ?_) | (refine r_fieldpt (hd 12 _ rfl rfl rfl) TF.f57_0 TF.sz47 rfl ?_) | (refine r_fieldb (hd 12 _ rfl rfl rfl) TF.f57_0 TF.sz47 rfl ?_)
       exact awl_nil ⟨rfl, post_put⟩⟩⟩
     , ⟨_, rfl, fun sl hd hr ho => by
       refine g_run rfl (hd 9 _ rfl rfl rfl) hg29 ?_
       refine r_loadA (hd 13 _ rfl rfl rfl) TF.agg47 TF.sz47 rfl rfl ?_
       exact awl_nil ⟨rfl, post_put⟩⟩⟩
     , ⟨_, rfl, fun sl hd hr ho => by
       refine g_run rfl (hd 9 _ rfl rfl rfl) hg29 ?_
       refine r_move (hr 0 _ rfl rfl rfl) rfl ?_
       exact awl_nil ⟨rfl, post_put⟩⟩⟩
     , ⟨_, rfl, fun sl hd hr ho => by
       refine g_run rfl (hd 9 _ rfl rfl rfl) hg29 ?_
       refine r_move (hr 6 _ rfl rfl rfl) rfl ?_
       exact awl_nil ⟨rfl, post_put⟩⟩⟩
     , ⟨_, rfl, fun sl hd hr ho => by
       refine g_run rfl (hd 9 _ rfl rfl rfl) hg29 ?_
       refine r_index (hd 15 _ rfl rfl rfl) rfl (hd 16 _ rfl rfl rfl) TF.sl25 TF.sz57 (by omega) (get_map hx) rfl ?_
       exact awl_nil ⟨rfl, post_put⟩⟩⟩
     , ⟨_, rfl, fun sl hd hr ho => by
       refine g_run rfl (hd 9 _ rfl rfl rfl) hg29 ?_
       first | (refine r_fieldcp (hd 17 _ rfl rfl rfl) TF.f57_0 TF.sz47 rfl ?_) | (refine r_fieldpt (hd 17 _ rfl rfl rfl) TF.f57_0 TF.sz47 rfl ?_) | (refine r_fieldb (hd 17 _ rfl rfl rfl) TF.f57_0 TF.sz47 rfl ?_)
       exact awl_nil ⟨rfl, post_put⟩⟩⟩
     , ⟨_, rfl, fun sl hd hr ho => by
       refine g_run rfl (hd 9 _ rfl rfl rfl) hg29 ?_
       refine r_loadA (hd 18 _ rfl rfl rfl) TF.agg47 TF.sz47 rfl rfl ?_
       exact awl_nil ⟨rfl, post_put⟩⟩⟩
     (by rfl) ?_
    refine g_run rfl rfl hg29 ?_
    refine r_call0 hq rfl rfl (.cons (.ev rfl rfl) (.cons (.ev rfl rfl) .nil)) (before34 y.1 x.1) rfl TF.en34 rfl (fun r hr => ?_)
    obtain rfl := hr
    refine g_run rfl rfl hg29 ?_
    refine r_not rfl rfl ?_
    refine g_run rfl rfl hg24 ?_
    refine r_pickT rfl hg29 rfl rfl ?_
    refine r_pickF rfl hg24 rfl rfl ?_
    refine r_assign rfl rfl ?_
    refine awl_nil ?_
    refine x_then ?_
    refine awp_seq ?_
    refine awp_region ?_
    refine r_move rfl rfl ?_
    refine awl_nil ?_
    refine x_then ?_
    refine awp_cond rfl (fun hc1 => ?_) (fun hc1 => ?_)
    ·
     have hlt : ¬ y.1.lt x.1 := by have := hc1; simp at this; exact this
     have hstep := btw_a hx (.inr ⟨y, hy, hlt⟩)
     refine awp_seq ?_
     refine awp_seq ?_
     refine awp_region ?_
     refine r_move rfl rfl ?_
     refine r_move rfl rfl ?_
     refine r_move rfl rfl ?_
     refine r_index rfl rfl rfl TF.sl25 TF.sz57 (by omega) (get_map hx) rfl ?_
     refine r_loadA rfl TF.agg57 TF.sz57 rfl rfl ?_
     refine r_call0 hq rfl rfl (.cons (.ev rfl rfl) (.cons (.ev rfl rfl) .nil)) (has_ok B x hB) rfl TF.en35 rfl (fun r hr => ?_)
     obtain rfl := hr
     refine r_not rfl rfl ?_
     refine awl_nil ?_
     refine x_then ?_
     refine awp_cond rfl (fun hc2 => ?_) (fun hc2 => ?_)
     ·
      have hm : mis B x false = [(x.1, false)] := if_neg (by have := hc2; simp at this; exact this)
      rw [hm] at hstep
      refine awp_region ?_
      refine r_move rfl rfl ?_
      refine r_move rfl rfl ?_
      refine r_move rfl rfl ?_
      refine r_index rfl rfl rfl TF.sl25 TF.sz57 (by omega) (get_map hx) rfl ?_
      first | (refine r_fieldcp rfl TF.f57_0 TF.sz47 rfl ?_) | (refine r_fieldpt rfl TF.f57_0 TF.sz47 rfl ?_) | (refine r_fieldb rfl TF.f57_0 TF.sz47 rfl ?_)
      refine r_loadA rfl TF.agg47 TF.sz47 rfl rfl ?_
      refine r_build (parts := [(0, .tmp 57), (1, .const ((Go.Value.bool false)))]) rfl TF.pl55 TF.zero55 rfl rfl rfl ?_
      refine r_lit 59 (parts := [(0, .tmp 58)]) rfl TF.sl29 TF.sz55 TF.zraw55 rfl rfl rfl rfl rfl rfl rfl ?_
      refine r_append 9 rfl (by first | exact .own _ | exact .nil) rfl (by first | exact .sl _ | exact .own _ _ | exact .nil) TF.sl29 TF.sz55 (by decide) TF.by55 TF.zlen55 (by simp [chunks]; omega) (by simp [chunks]; omega) rfl ?_
      refine r_assign rfl rfl ?_
      refine awl_nil ?_
      refine x_then ?_
      refine awp_region ?_
      refine r_move rfl rfl ?_
      refine r_ari _ rfl rfl rfl (wrap_id (by first | omega | (simp; omega))) rfl ?_
      refine r_assign rfl rfl ?_
      refine awl_nil ?_
      refine x_block ?_
      refine x_then ?_
      refine ⟨A.length + B.length - ((i + 1) + (k)), ⟨82, [(0, .a (.sl 5 (A.map itC))), (1, .a (.sl 5 (B.map itC))), (5, .own 9 5 ((o ++ [(x.1, false)]).map chC)), (6, .a (.v (.int .i64 (((i + 1) : Int))))), (7, .a (.v (.int .i64 (((k) : Int)))))], []⟩, ⟨rfl, (Slots.cons rfl (by first | exact .refl _ | exact .nilOwn _ _ | exact .nilSl _ | exact .ownSl _ _ _  | exact SV.le.ownEq (by first | rfl | (simp; done) | (simp; rfl)) | exact SV.le.of_eq (by first | rfl | (simp; done) | (simp; rfl))) (Slots.cons rfl (by first | exact .refl _ | exact .nilOwn _ _ | exact .nilSl _ | exact .ownSl _ _ _  | exact SV.le.ownEq (by first | rfl | (simp; done) | (simp; rfl)) | exact SV.le.of_eq (by first | rfl | (simp; done) | (simp; rfl))) (Slots.cons rfl (by first | exact .refl _ | exact .nilOwn _ _ | exact .nilSl _ | exact .ownSl _ _ _  | exact SV.le.ownEq (by first | rfl | (simp; done) | (simp; rfl)) | exact SV.le.of_eq (by first | rfl | (simp; done) | (simp; rfl))) (Slots.cons rfl (by first | exact .refl _ | exact .nilOwn _ _ | exact .nilSl _ | exact .ownSl _ _ _  | exact SV.le.ownEq (by first | rfl | (simp; done) | (simp; rfl)) | exact SV.le.of_eq (by first | rfl | (simp; done) | (simp; rfl))) (Slots.cons rfl (by first | exact .refl _ | exact .nilOwn _ _ | exact .nilSl _ | exact .ownSl _ _ _  | exact SV.le.ownEq (by first | rfl | (simp; done) | (simp; rfl)) | exact SV.le.of_eq (by first | rfl | (simp; done) | (simp; rfl))) Slots.nil))))), (by first | exact List.Sublist.refl _ | exact .cons_cons _ (.cons _ (.refl _)) | exact List.nil_sublist _ | exact .cons _ (.refl _) | exact .cons _ (.cons _ (.refl _)) | exact .cons _ (.cons _ (.cons _ (.refl _))) | exact .cons _ (.cons _ (.cons _ (.cons _ (.refl _)))) | exact .cons_cons _ (List.nil_sublist _))⟩, (by omega), ⟨i + 1, k, o ++ [(x.1, false)], rfl, rfl, (by omega), (by omega), (by rw [← hgo, hstep]; simp)⟩⟩
     ·
      have hm : mis B x false = [] := if_pos (by have := hc2; simp at this; exact this)
      rw [hm] at hstep
      refine awp_skip ?_
      refine x_then ?_
      refine awp_region ?_
      refine r_move rfl rfl ?_
      refine r_ari _ rfl rfl rfl (wrap_id (by first | omega | (simp; omega))) rfl ?_
      refine r_assign rfl rfl ?_
      refine awl_nil ?_
      refine x_block ?_
      refine x_then ?_
      refine ⟨A.length + B.length - ((i + 1) + (k)), ⟨82, [(0, .a (.sl 5 (A.map itC))), (1, .a (.sl 5 (B.map itC))), (5, .own 9 5 ((o).map chC)), (6, .a (.v (.int .i64 (((i + 1) : Int))))), (7, .a (.v (.int .i64 (((k) : Int)))))], []⟩, ⟨rfl, (Slots.cons rfl (by first | exact .refl _ | exact .nilOwn _ _ | exact .nilSl _ | exact .ownSl _ _ _  | exact SV.le.ownEq (by first | rfl | (simp; done) | (simp; rfl)) | exact SV.le.of_eq (by first | rfl | (simp; done) | (simp; rfl))) (Slots.cons rfl (by first | exact .refl _ | exact .nilOwn _ _ | exact .nilSl _ | exact .ownSl _ _ _  | exact SV.le.ownEq (by first | rfl | (simp; done) | (simp; rfl)) | exact SV.le.of_eq (by first | rfl | (simp; done) | (simp; rfl))) (Slots.cons rfl (by first | exact .refl _ | exact .nilOwn _ _ | exact .nilSl _ | exact .ownSl _ _ _  | exact SV.le.ownEq (by first | rfl | (simp; done) | (simp; rfl)) | exact SV.le.of_eq (by first | rfl | (simp; done) | (simp; rfl))) (Slots.cons rfl (by first | exact .refl _ | exact .nilOwn _ _ | exact .nilSl _ | exact .ownSl _ _ _  | exact SV.le.ownEq (by first | rfl | (simp; done) | (simp; rfl)) | exact SV.le.of_eq (by first | rfl | (simp; done) | (simp; rfl))) (Slots.cons rfl (by first | exact .refl _ | exact .nilOwn _ _ | exact .nilSl _ | exact .ownSl _ _ _  | exact SV.le.ownEq (by first | rfl | (simp; done) | (simp; rfl)) | exact SV.le.of_eq (by first | rfl | (simp; done) | (simp; rfl))) Slots.nil))))), (by first | exact List.Sublist.refl _ | exact .cons_cons _ (.cons _ (.refl _)) | exact List.nil_sublist _ | exact .cons _ (.refl _) | exact .cons _ (.cons _ (.refl _)) | exact .cons _ (.cons _ (.cons _ (.refl _))) | exact .cons _ (.cons _ (.cons _ (.cons _ (.refl _)))) | exact .cons_cons _ (List.nil_sublist _))⟩, (by omega), ⟨i + 1, k, o, rfl, rfl, (by omega), (by omega), (by rw [← hgo, hstep]; simp)⟩⟩
    ·
     have hlt : y.1.lt x.1 := by have := hc1; simp at this; exact this
     have hstep := btw_b hy (.inr ⟨x, hx, hlt⟩)
     refine awp_seq ?_
     refine awp_seq ?_
     refine awp_region ?_
     refine r_move rfl rfl ?_
     refine r_move rfl rfl ?_
     refine r_move rfl rfl ?_
     refine r_index rfl rfl rfl TF.sl25 TF.sz57 (by omega) (get_map hy) rfl ?_
     refine r_loadA rfl TF.agg57 TF.sz57 rfl rfl ?_
     refine r_call0 hq rfl rfl (.cons (.ev rfl rfl) (.cons (.ev rfl rfl) .nil)) (has_ok A y hA) rfl TF.en35 rfl (fun r hr => ?_)
     obtain rfl := hr
     refine r_not rfl rfl ?_
     refine awl_nil ?_
     refine x_then ?_
     refine awp_cond rfl (fun hc3 => ?_) (fun hc3 => ?_)
     ·
      have hm : mis A y true = [(y.1, true)] := if_neg (by have := hc3; simp at this; exact this)
      rw [hm] at hstep
      refine awp_region ?_
      refine r_move rfl rfl ?_
      refine r_move rfl rfl ?_
      refine r_move rfl rfl ?_
      refine r_index rfl rfl rfl TF.sl25 TF.sz57 (by omega) (get_map hy) rfl ?_
      first | (refine r_fieldcp rfl TF.f57_0 TF.sz47 rfl ?_) | (refine r_fieldpt rfl TF.f57_0 TF.sz47 rfl ?_) | (refine r_fieldb rfl TF.f57_0 TF.sz47 rfl ?_)
      refine r_loadA rfl TF.agg47 TF.sz47 rfl rfl ?_
      refine r_build (parts := [(0, .tmp 75), (1, .const ((Go.Value.bool true)))]) rfl TF.pl55 TF.zero55 rfl rfl rfl ?_
      refine r_lit 77 (parts := [(0, .tmp 76)]) rfl TF.sl29 TF.sz55 TF.zraw55 rfl rfl rfl rfl rfl rfl rfl ?_
      refine r_append 9 rfl (by first | exact .own _ | exact .nil) rfl (by first | exact .sl _ | exact .own _ _ | exact .nil) TF.sl29 TF.sz55 (by decide) TF.by55 TF.zlen55 (by simp [chunks]; omega) (by simp [chunks]; omega) rfl ?_
      refine r_assign rfl rfl ?_
      refine awl_nil ?_
      refine x_then ?_
      refine awp_region ?_
      refine r_move rfl rfl ?_
      refine r_ari _ rfl rfl rfl (wrap_id (by first | omega | (simp; omega))) rfl ?_
      refine r_assign rfl rfl ?_
      refine awl_nil ?_
      refine x_block ?_
      refine x_then ?_
      refine ⟨A.length + B.length - ((i) + (k + 1)), ⟨82, [(0, .a (.sl 5 (A.map itC))), (1, .a (.sl 5 (B.map itC))), (5, .own 9 5 ((o ++ [(y.1, true)]).map chC)), (6, .a (.v (.int .i64 (((i) : Int))))), (7, .a (.v (.int .i64 (((k + 1) : Int)))))], []⟩, ⟨rfl, (Slots.cons rfl (by first | exact .refl _ | exact .nilOwn _ _ | exact .nilSl _ | exact .ownSl _ _ _  | exact SV.le.ownEq (by first | rfl | (simp; done) | (simp; rfl)) | exact SV.le.of_eq (by first | rfl | (simp; done) | (simp; rfl))) (Slots.cons rfl (by first | exact .refl _ | exact .nilOwn _ _ | exact .nilSl _ | exact .ownSl _ _ _  | exact SV.le.ownEq (by first | rfl | (simp; done) | (simp; rfl)) | exact SV.le.of_eq (by first | rfl | (simp; done) | (simp; rfl))) (Slots.cons rfl (by first | exact .refl _ | exact .nilOwn _ _ | exact .nilSl _ | exact .ownSl _ _ _  | exact SV.le.ownEq (by first | rfl | (simp; done) | (simp; rfl)) | exact SV.le.of_eq (by first | rfl | (simp; done) | (simp; rfl))) (Slots.cons rfl (by first | exact .refl _ | exact .nilOwn _ _ | exact .nilSl _ | exact .ownSl _ _ _  | exact SV.le.ownEq (by first | rfl | (simp; done) | (simp; rfl)) | exact SV.le.of_eq (by first | rfl | (simp; done) | (simp; rfl))) (Slots.cons rfl (by first | exact .refl _ | exact .nilOwn _ _ | exact .nilSl _ | exact .ownSl _ _ _  | exact SV.le.ownEq (by first | rfl | (simp; done) | (simp; rfl)) | exact SV.le.of_eq (by first | rfl | (simp; done) | (simp; rfl))) Slots.nil))))), (by first | exact List.Sublist.refl _ | exact .cons_cons _ (.cons _ (.refl _)) | exact List.nil_sublist _ | exact .cons _ (.refl _) | exact .cons _ (.cons _ (.refl _)) | exact .cons _ (.cons _ (.cons _ (.refl _))) | exact .cons _ (.cons _ (.cons _ (.cons _ (.refl _)))) | exact .cons_cons _ (List.nil_sublist _))⟩, (by omega), ⟨i, k + 1, o ++ [(y.1, true)], rfl, rfl, (by omega), (by omega), (by rw [← hgo, hstep]; simp)⟩⟩
     ·
      have hm : mis A y true = [] := if_pos (by have := hc3; simp at this; exact this)
      rw [hm] at hstep
      refine awp_skip ?_
      refine x_then ?_
      refine awp_region ?_
      refine r_move rfl rfl ?_
      refine r_ari _ rfl rfl rfl (wrap_id (by first | omega | (simp; omega))) rfl ?_
      refine r_assign rfl rfl ?_
      refine awl_nil ?_
      refine x_block ?_
      refine x_then ?_
      refine ⟨A.length + B.length - ((i) + (k + 1)), ⟨82, [(0, .a (.sl 5 (A.map itC))), (1, .a (.sl 5 (B.map itC))), (5, .own 9 5 ((o).map chC)), (6, .a (.v (.int .i64 (((i) : Int))))), (7, .a (.v (.int .i64 (((k + 1) : Int)))))], []⟩, ⟨rfl, (Slots.cons rfl (by first | exact .refl _ | exact .nilOwn _ _ | exact .nilSl _ | exact .ownSl _ _ _  | exact SV.le.ownEq (by first | rfl | (simp; done) | (simp; rfl)) | exact SV.le.of_eq (by first | rfl | (simp; done) | (simp; rfl))) (Slots.cons rfl (by first | exact .refl _ | exact .nilOwn _ _ | exact .nilSl _ | exact .ownSl _ _ _  | exact SV.le.ownEq (by first | rfl | (simp; done) | (simp; rfl)) | exact SV.le.of_eq (by first | rfl | (simp; done) | (simp; rfl))) (Slots.cons rfl (by first | exact .refl _ | exact .nilOwn _ _ | exact .nilSl _ | exact .ownSl _ _ _  | exact SV.le.ownEq (by first | rfl | (simp; done) | (simp; rfl)) | exact SV.le.of_eq (by first | rfl | (simp; done) | (simp; rfl))) (Slots.cons rfl (by first | exact .refl _ | exact .nilOwn _ _ | exact .nilSl _ | exact .ownSl _ _ _  | exact SV.le.ownEq (by first | rfl | (simp; done) | (simp; rfl)) | exact SV.le.of_eq (by first | rfl | (simp; done) | (simp; rfl))) (Slots.cons rfl (by first | exact .refl _ | exact .nilOwn _ _ | exact .nilSl _ | exact .ownSl _ _ _  | exact SV.le.ownEq (by first | rfl | (simp; done) | (simp; rfl)) | exact SV.le.of_eq (by first | rfl | (simp; done) | (simp; rfl))) Slots.nil))))), (by first | exact List.Sublist.refl _ | exact .cons_cons _ (.cons _ (.refl _)) | exact List.nil_sublist _ | exact .cons _ (.refl _) | exact .cons _ (.cons _ (.refl _)) | exact .cons _ (.cons _ (.cons _ (.refl _))) | exact .cons _ (.cons _ (.cons _ (.cons _ (.refl _)))) | exact .cons_cons _ (List.nil_sublist _))⟩, (by omega), ⟨i, k + 1, o, rfl, rfl, (by omega), (by omega), (by rw [← hgo, hstep]; simp)⟩⟩
   ·
    have hia2 : A.length ≤ i := by have := of_decide_eq_false hg29; rw [List.length_map] at this; omega
    have hstep := btw_b hy (.inl hia2)
    refine awp_drawS [20, 21, 22, 23, 24, 25, 26, 27, 28, 29, 30, 31, 32, 33, 34, 35, 36, 37, 38, 39] [_, _, _, _, _, _, _, _, _, _, _, _, _, _, _, _, _, _, _, _] [] [] TF.mixed rfl rfl rfl ⟨⟨⟨⟨⟨⟨⟨⟨⟨⟨⟨⟨⟨⟨⟨⟨⟨⟨⟨⟨trivial
     , ⟨_, rfl, fun sl hd hr ho => by
       refine r_move (hr 7 _ rfl rfl rfl) rfl ?_
       exact awl_nil ⟨rfl, post_put⟩⟩⟩
     , ⟨_, rfl, fun sl hd hr ho => by
       refine r_move (hr 1 _ rfl rfl rfl) rfl ?_
       exact awl_nil ⟨rfl, post_put⟩⟩⟩
     , ⟨_, rfl, fun sl hd hr ho => by
       first | (refine r_lenS (hd 1 _ rfl rfl rfl) rfl TF.sl25 rfl ?_) | (refine r_lenNil (hd 1 _ rfl rfl rfl) TF.sl25 rfl ?_) | (refine r_lenV (hd 1 _ rfl rfl rfl) TF.sl25 rfl ?_)
       exact awl_nil ⟨rfl, post_put⟩⟩⟩
     , ⟨_, rfl, fun sl hd hr ho => by
       refine r_cmp (hd 0 _ rfl rfl rfl) (hd 2 _ rfl rfl rfl) rfl rfl ?_
       exact awl_nil ⟨rfl, post_put⟩⟩⟩
     , ⟨_, rfl, fun sl hd hr ho => by
       refine r_move (hd 3 _ rfl rfl rfl) rfl ?_
       exact awl_nil ⟨rfl, post_put⟩⟩⟩
     , ⟨_, rfl, fun sl hd hr ho => by
       refine g_run rfl (hd 4 _ rfl rfl rfl) hg24 ?_
       refine r_move (hr 6 _ rfl rfl rfl) rfl ?_
       exact awl_nil ⟨rfl, post_put⟩⟩⟩
     , ⟨_, rfl, fun sl hd hr ho => by
       refine g_run rfl (hd 4 _ rfl rfl rfl) hg24 ?_
       refine r_move (hr 0 _ rfl rfl rfl) rfl ?_
       exact awl_nil ⟨rfl, post_put⟩⟩⟩
     , ⟨_, rfl, fun sl hd hr ho => by
       refine g_run rfl (hd 4 _ rfl rfl rfl) hg24 ?_
       first | (refine r_lenS (hd 6 _ rfl rfl rfl) rfl TF.sl25 rfl ?_) | (refine r_lenNil (hd 6 _ rfl rfl rfl) TF.sl25 rfl ?_) | (refine r_lenV (hd 6 _ rfl rfl rfl) TF.sl25 rfl ?_)
       exact awl_nil ⟨rfl, post_put⟩⟩⟩
     , ⟨_, rfl, fun sl hd hr ho => by
       refine g_run rfl (hd 4 _ rfl rfl rfl) hg24 ?_
       refine r_cmp (hd 5 _ rfl rfl rfl) (hd 7 _ rfl rfl rfl) rfl rfl ?_
       exact awl_nil ⟨rfl, post_put⟩⟩⟩
     , ⟨_, rfl, fun sl hd hr ho => by
       refine g_run rfl (hd 4 _ rfl rfl rfl) hg24 ?_
       refine r_move (hd 8 _ rfl rfl rfl) rfl ?_
       exact awl_nil ⟨rfl, post_put⟩⟩⟩
     , ⟨_, rfl, fun sl hd hr ho => by
       refine g_skip rfl (hd 9 _ rfl rfl rfl) hg29 rfl ?_
       exact awl_nil ⟨rfl, post_put⟩⟩⟩
     , ⟨_, rfl, fun sl hd hr ho => by
       refine g_skip rfl (hd 9 _ rfl rfl rfl) hg29 rfl ?_
       exact awl_nil ⟨rfl, post_put⟩⟩⟩
     , ⟨_, rfl, fun sl hd hr ho => by
       refine g_skip rfl (hd 9 _ rfl rfl rfl) hg29 rfl ?_
       exact awl_nil ⟨rfl, post_put⟩⟩⟩
     , ⟨_, rfl, fun sl hd hr ho => by
       refine g_skip rfl (hd 9 _ rfl rfl rfl) hg29 rfl ?_
       exact awl_nil ⟨rfl, post_put⟩⟩⟩
     , ⟨_, rfl, fun sl hd hr ho => by
       refine g_skip rfl (hd 9 _ rfl rfl rfl) hg29 rfl ?_
       exact awl_nil ⟨rfl, post_put⟩⟩⟩
     , ⟨_, rfl, fun sl hd hr ho => by
       refine g_skip rfl (hd 9 _ rfl rfl rfl) hg29 rfl ?_
       exact awl_nil ⟨rfl, post_put⟩⟩⟩
     , ⟨_, rfl, fun sl hd hr ho => by
       refine g_skip rfl (hd 9 _ rfl rfl rfl) hg29 rfl ?_
       exact awl_nil ⟨rfl, post_put⟩⟩⟩
     , ⟨_, rfl, fun sl hd hr ho => by
       refine g_skip rfl (hd 9 _ rfl rfl rfl) hg29 rfl ?_
       exact awl_nil ⟨rfl, post_put⟩⟩⟩
     , ⟨_, rfl, fun sl hd hr ho => by
       refine g_skip rfl (hd 9 _ rfl rfl rfl) hg29 rfl ?_
       exact awl_nil ⟨rfl, post_put⟩⟩⟩
     , ⟨_, rfl, fun sl hd hr ho => by
       refine g_skip rfl (hd 9 _ rfl rfl rfl) hg29 rfl ?_
       exact awl_nil ⟨rfl, post_put⟩⟩⟩
     (by rfl) ?_
    refine g_skip rfl rfl hg29 rfl ?_
    refine g_skip rfl rfl hg29 rfl ?_
    refine g_run rfl rfl hg24 ?_
    refine r_pickF rfl hg29 rfl rfl ?_
    refine r_pickF rfl hg24 rfl rfl ?_
    refine r_assign rfl rfl ?_
    refine awl_nil ?_
    refine x_then ?_
    refine awp_seq ?_
    refine awp_region ?_
    refine r_move rfl rfl ?_
    refine awl_nil ?_
    refine x_then ?_
    refine awp_condF rfl ?_
    refine awp_seq ?_
    refine awp_seq ?_
    refine awp_region ?_
    refine r_move rfl rfl ?_
    refine r_move rfl rfl ?_
    refine r_move rfl rfl ?_
    refine r_index rfl rfl rfl TF.sl25 TF.sz57 (by omega) (get_map hy) rfl ?_
    refine r_loadA rfl TF.agg57 TF.sz57 rfl rfl ?_
    refine r_call0 hq rfl rfl (.cons (.ev rfl rfl) (.cons (.ev rfl rfl) .nil)) (has_ok A y hA) rfl TF.en35 rfl (fun r hr => ?_)
    obtain rfl := hr
    refine r_not rfl rfl ?_
    refine awl_nil ?_
    refine x_then ?_
    refine awp_cond rfl (fun hc3 => ?_) (fun hc3 => ?_)
    ·
     have hm : mis A y true = [(y.1, true)] := if_neg (by have := hc3; simp at this; exact this)
     rw [hm] at hstep
     refine awp_region ?_
     refine r_move rfl rfl ?_
     refine r_move rfl rfl ?_
     refine r_move rfl rfl ?_
     refine r_index rfl rfl rfl TF.sl25 TF.sz57 (by omega) (get_map hy) rfl ?_
     first | (refine r_fieldcp rfl TF.f57_0 TF.sz47 rfl ?_) | (refine r_fieldpt rfl TF.f57_0 TF.sz47 rfl ?_) | (refine r_fieldb rfl TF.f57_0 TF.sz47 rfl ?_)
     refine r_loadA rfl TF.agg47 TF.sz47 rfl rfl ?_
     refine r_build (parts := [(0, .tmp 75), (1, .const ((Go.Value.bool true)))]) rfl TF.pl55 TF.zero55 rfl rfl rfl ?_
     refine r_lit 77 (parts := [(0, .tmp 76)]) rfl TF.sl29 TF.sz55 TF.zraw55 rfl rfl rfl rfl rfl rfl rfl ?_
     refine r_append 9 rfl (by first | exact .own _ | exact .nil) rfl (by first | exact .sl _ | exact .own _ _ | exact .nil) TF.sl29 TF.sz55 (by decide) TF.by55 TF.zlen55 (by simp [chunks]; omega) (by simp [chunks]; omega) rfl ?_
     refine r_assign rfl rfl ?_
     refine awl_nil ?_
     refine x_then ?_
     refine awp_region ?_
     refine r_move rfl rfl ?_
     refine r_ari _ rfl rfl rfl (wrap_id (by first | omega | (simp; omega))) rfl ?_
     refine r_assign rfl rfl ?_
     refine awl_nil ?_
     refine x_block ?_
     refine x_then ?_
     refine ⟨A.length + B.length - ((i) + (k + 1)), ⟨82, [(0, .a (.sl 5 (A.map itC))), (1, .a (.sl 5 (B.map itC))), (5, .own 9 5 ((o ++ [(y.1, true)]).map chC)), (6, .a (.v (.int .i64 (((i) : Int))))), (7, .a (.v (.int .i64 (((k + 1) : Int)))))], []⟩, ⟨rfl, (Slots.cons rfl (by first | exact .refl _ | exact .nilOwn _ _ | exact .nilSl _ | exact .ownSl _ _ _  | exact SV.le.ownEq (by first | rfl | (simp; done) | (simp; rfl)) | exact SV.le.of_eq (by first | rfl | (simp; done) | (simp; rfl))) (Slots.cons rfl (by first | exact .refl _ | exact .nilOwn _ _ | exact .nilSl _ | exact .ownSl _ _ _  | exact SV.le.ownEq (by first | rfl | (simp; done) | (simp; rfl)) | exact SV.le.of_eq (by first | rfl | (simp; done) | (simp; rfl))) (Slots.cons rfl (by first | exact .refl _ | exact .nilOwn _ _ | exact .nilSl _ | exact .ownSl _ _ _  | exact SV.le.ownEq (by first | rfl | (simp; done) | (simp; rfl)) | exact SV.le.of_eq (by first | rfl | (simp; done) | (simp; rfl))) (Slots.cons rfl (by first | exact .refl _ | exact .nilOwn _ _ | exact .nilSl _ | exact .ownSl _ _ _  | exact SV.le.ownEq (by first | rfl | (simp; done) | (simp; rfl)) | exact SV.le.of_eq (by first | rfl | (simp; done) | (simp; rfl))) (Slots.cons rfl (by first | exact .refl _ | exact .nilOwn _ _ | exact .nilSl _ | exact .ownSl _ _ _  | exact SV.le.ownEq (by first | rfl | (simp; done) | (simp; rfl)) | exact SV.le.of_eq (by first | rfl | (simp; done) | (simp; rfl))) Slots.nil))))), (by first | exact List.Sublist.refl _ | exact .cons_cons _ (.cons _ (.refl _)) | exact List.nil_sublist _ | exact .cons _ (.refl _) | exact .cons _ (.cons _ (.refl _)) | exact .cons _ (.cons _ (.cons _ (.refl _))) | exact .cons _ (.cons _ (.cons _ (.cons _ (.refl _)))) | exact .cons_cons _ (List.nil_sublist _))⟩, (by omega), ⟨i, k + 1, o ++ [(y.1, true)], rfl, rfl, (by omega), (by omega), (by rw [← hgo, hstep]; simp)⟩⟩
    ·
     have hm : mis A y true = [] := if_pos (by have := hc3; simp at this; exact this)
     rw [hm] at hstep
     refine awp_skip ?_
     refine x_then ?_
     refine awp_region ?_
     refine r_move rfl rfl ?_
     refine r_ari _ rfl rfl rfl (wrap_id (by first | omega | (simp; omega))) rfl ?_
     refine r_assign rfl rfl ?_
     refine awl_nil ?_
     refine x_block ?_
     refine x_then ?_
     refine ⟨A.length + B.length - ((i) + (k + 1)), ⟨82, [(0, .a (.sl 5 (A.map itC))), (1, .a (.sl 5 (B.map itC))), (5, .own 9 5 ((o).map chC)), (6, .a (.v (.int .i64 (((i) : Int))))), (7, .a (.v (.int .i64 (((k + 1) : Int)))))], []⟩, ⟨rfl, (Slots.cons rfl (by first | exact .refl _ | exact .nilOwn _ _ | exact .nilSl _ | exact .ownSl _ _ _  | exact SV.le.ownEq (by first | rfl | (simp; done) | (simp; rfl)) | exact SV.le.of_eq (by first | rfl | (simp; done) | (simp; rfl))) (Slots.cons rfl (by first | exact .refl _ | exact .nilOwn _ _ | exact .nilSl _ | exact .ownSl _ _ _  | exact SV.le.ownEq (by first | rfl | (simp; done) | (simp; rfl)) | exact SV.le.of_eq (by first | rfl | (simp; done) | (simp; rfl))) (Slots.cons rfl (by first | exact .refl _ | exact .nilOwn _ _ | exact .nilSl _ | exact .ownSl _ _ _  | exact SV.le.ownEq (by first | rfl | (simp; done) | (simp; rfl)) | exact SV.le.of_eq (by first | rfl | (simp; done) | (simp; rfl))) (Slots.cons rfl (by first | exact .refl _ | exact .nilOwn _ _ | exact .nilSl _ | exact .ownSl _ _ _  | exact SV.le.ownEq (by first | rfl | (simp; done) | (simp; rfl)) | exact SV.le.of_eq (by first | rfl | (simp; done) | (simp; rfl))) (Slots.cons rfl (by first | exact .refl _ | exact .nilOwn _ _ | exact .nilSl _ | exact .ownSl _ _ _  | exact SV.le.ownEq (by first | rfl | (simp; done) | (simp; rfl)) | exact SV.le.of_eq (by first | rfl | (simp; done) | (simp; rfl))) Slots.nil))))), (by first | exact List.Sublist.refl _ | exact .cons_cons _ (.cons _ (.refl _)) | exact List.nil_sublist _ | exact .cons _ (.refl _) | exact .cons _ (.cons _ (.refl _)) | exact .cons _ (.cons _ (.cons _ (.refl _))) | exact .cons _ (.cons _ (.cons _ (.cons _ (.refl _)))) | exact .cons_cons _ (List.nil_sublist _))⟩, (by omega), ⟨i, k + 1, o, rfl, rfl, (by omega), (by omega), (by rw [← hgo, hstep]; simp)⟩⟩
 ·
  have hia : A.length ≤ i := by have := of_decide_eq_false hg14; rw [List.length_map] at this; omega
  refine g_run rfl rfl hg14 ?_
  refine r_move rfl rfl ?_
  refine g_run rfl rfl hg14 ?_
  refine r_move rfl rfl ?_
  refine g_run rfl rfl hg14 ?_
  first | (refine r_lenS rfl rfl TF.sl25 rfl ?_) | (refine r_lenNil rfl TF.sl25 rfl ?_) | (refine r_lenV rfl TF.sl25 rfl ?_)
  refine g_run rfl rfl hg14 ?_
  refine r_cmp rfl rfl rfl rfl ?_
  refine r_pickF rfl hg14 rfl rfl ?_
  refine awl_nil ?_
  refine x_then ?_
  refine awp_cond rfl (fun hc0 => ?_) (fun hc0 => ?_)
  ·
   have hor : i < A.length ∨ k < B.length := by first | exact .inl hia | (right; have := of_decide_eq_true hc0; rw [List.length_map] at this; omega)
   have hol : o.length ≤ 2000 := by have h1 := congrArg List.length hgo; have h2 := btwLen A B A B; rw [List.length_append] at h1; unfold refBtw at h1; omega
   refine awp_skip ?_
   refine x_then ?_
   refine awp_block ?_
   refine awp_seq ?_
   rcases Bool.eq_false_or_eq_true (decide (((k : Nat) : Int) ≥ (((B.map itC).length : Nat) : Int))) with hg24 | hg24
   ·
    have hkb : B.length ≤ k := by have := of_decide_eq_true hg24; rw [List.length_map] at this; omega
    have hia' : i < A.length := by omega
    obtain ⟨x, hx⟩ := get_lt hia'
    have hstep := btw_a hx (.inl hkb)
    refine awp_drawS [20, 21, 22, 23, 24, 25, 26, 27, 28, 29, 30, 31, 32, 33, 34, 35, 36, 37, 38, 39] [_, _, _, _, _, _, _, _, _, _, _, _, _, _, _, _, _, _, _, _] [] [] TF.mixed rfl rfl rfl ⟨⟨⟨⟨⟨⟨⟨⟨⟨⟨⟨⟨⟨⟨⟨⟨⟨⟨⟨⟨trivial
     , ⟨_, rfl, fun sl hd hr ho => by
       refine r_move (hr 7 _ rfl rfl rfl) rfl ?_
       exact awl_nil ⟨rfl, post_put⟩⟩⟩
     , ⟨_, rfl, fun sl hd hr ho => by
       refine r_move (hr 1 _ rfl rfl rfl) rfl ?_
       exact awl_nil ⟨rfl, post_put⟩⟩⟩
     , ⟨_, rfl, fun sl hd hr ho => by
       first | (refine r_lenS (hd 1 _ rfl rfl rfl) rfl TF.sl25 rfl ?_) | (refine r_lenNil (hd 1 _ rfl rfl rfl) TF.sl25 rfl ?_) | (refine r_lenV (hd 1 _ rfl rfl rfl) TF.sl25 rfl ?_)
       exact awl_nil ⟨rfl, post_put⟩⟩⟩
     , ⟨_, rfl, fun sl hd hr ho => by
       refine r_cmp (hd 0 _ rfl rfl rfl) (hd 2 _ rfl rfl rfl) rfl rfl ?_
       exact awl_nil ⟨rfl, post_put⟩⟩⟩
     , ⟨_, rfl, fun sl hd hr ho => by
       refine r_move (hd 3 _ rfl rfl rfl) rfl ?_
       exact awl_nil ⟨rfl, post_put⟩⟩⟩
     , ⟨_, rfl, fun sl hd hr ho => by
       refine g_skip rfl (hd 4 _ rfl rfl rfl) hg24 rfl ?_
       exact awl_nil ⟨rfl, post_put⟩⟩⟩
     , ⟨_, rfl, fun sl hd hr ho => by
       refine g_skip rfl (hd 4 _ rfl rfl rfl) hg24 rfl ?_
       exact awl_nil ⟨rfl, post_put⟩⟩⟩
     , ⟨_, rfl, fun sl hd hr ho => by
       refine g_skip rfl (hd 4 _ rfl rfl rfl) hg24 rfl ?_
       exact awl_nil ⟨rfl, post_put⟩⟩⟩
     , ⟨_, rfl, fun sl hd hr ho => by
       refine g_skip rfl (hd 4 _ rfl rfl rfl) hg24 rfl ?_
       exact awl_nil ⟨rfl, post_put⟩⟩⟩
     , ⟨_, rfl, fun sl hd hr ho => by
       refine g_skip rfl (hd 4 _ rfl rfl rfl) hg24 rfl ?_
       exact awl_nil ⟨rfl, post_put⟩⟩⟩
     , ⟨_, rfl, fun sl hd hr ho => by
       refine g_skipU rfl (hd 9 _ rfl rfl rfl) rfl ?_
       exact awl_nil ⟨rfl, post_put⟩⟩⟩
     , ⟨_, rfl, fun sl hd hr ho => by
       refine g_skipU rfl (hd 9 _ rfl rfl rfl) rfl ?_
       exact awl_nil ⟨rfl, post_put⟩⟩⟩
     , ⟨_, rfl, fun sl hd hr ho => by
       refine g_skipU rfl (hd 9 _ rfl rfl rfl) rfl ?_
       exact awl_nil ⟨rfl, post_put⟩⟩⟩
     , ⟨_, rfl, fun sl hd hr ho => by
       refine g_skipU rfl (hd 9 _ rfl rfl rfl) rfl ?_
       exact awl_nil ⟨rfl, post_put⟩⟩⟩
     , ⟨_, rfl, fun sl hd hr ho => by
       refine g_skipU rfl (hd 9 _ rfl rfl rfl) rfl ?_
       exact awl_nil ⟨rfl, post_put⟩⟩⟩
     , ⟨_, rfl, fun sl hd hr ho => by
       refine g_skipU rfl (hd 9 _ rfl rfl rfl) rfl ?_
       exact awl_nil ⟨rfl, post_put⟩⟩⟩
     , ⟨_, rfl, fun sl hd hr ho => by
       refine g_skipU rfl (hd 9 _ rfl rfl rfl) rfl ?_
       exact awl_nil ⟨rfl, post_put⟩⟩⟩
     , ⟨_, rfl, fun sl hd hr ho => by
       refine g_skipU rfl (hd 9 _ rfl rfl rfl) rfl ?_
       exact awl_nil ⟨rfl, post_put⟩⟩⟩
     , ⟨_, rfl, fun sl hd hr ho => by
       refine g_skipU rfl (hd 9 _ rfl rfl rfl) rfl ?_
       exact awl_nil ⟨rfl, post_put⟩⟩⟩
     , ⟨_, rfl, fun sl hd hr ho => by
       refine g_skipU rfl (hd 9 _ rfl rfl rfl) rfl ?_
       exact awl_nil ⟨rfl, post_put⟩⟩⟩
     (by rfl) ?_
    refine g_skipU rfl rfl rfl ?_
    refine g_skipU rfl rfl rfl ?_
    refine g_skip rfl rfl hg24 rfl ?_
    refine r_pickT rfl hg24 rfl rfl ?_
    refine r_assign rfl rfl ?_
    refine awl_nil ?_
    refine x_then ?_
    refine awp_seq ?_
    refine awp_region ?_
    refine r_move rfl rfl ?_
    refine awl_nil ?_
    refine x_then ?_
    refine awp_condT rfl ?_
    refine awp_seq ?_
    refine awp_seq ?_
    refine awp_region ?_
    refine r_move rfl rfl ?_
    refine r_move rfl rfl ?_
    refine r_move rfl rfl ?_
    refine r_index rfl rfl rfl TF.sl25 TF.sz57 (by omega) (get_map hx) rfl ?_
    refine r_loadA rfl TF.agg57 TF.sz57 rfl rfl ?_
    refine r_call0 hq rfl rfl (.cons (.ev rfl rfl) (.cons (.ev rfl rfl) .nil)) (has_ok B x hB) rfl TF.en35 rfl (fun r hr => ?_)
    obtain rfl := hr
    refine r_not rfl rfl ?_
    refine awl_nil ?_
    refine x_then ?_
    refine awp_cond rfl (fun hc2 => ?_) (fun hc2 => ?_)
    ·
     have hm : mis B x false = [(x.1, false)] := if_neg (by have := hc2; simp at this; exact this)
     rw [hm] at hstep
     refine awp_region ?_
     refine r_move rfl rfl ?_
     refine r_move rfl rfl ?_
     refine r_move rfl rfl ?_
     refine r_index rfl rfl rfl TF.sl25 TF.sz57 (by omega) (get_map hx) rfl ?_
     first | (refine r_fieldcp rfl TF.f57_0 TF.sz47 rfl ?_) | (refine r_fieldpt rfl TF.f57_0 TF.sz47 rfl ?_) | (refine r_fieldb rfl TF.f57_0 TF.sz47 rfl ?_)
     refine r_loadA rfl TF.agg47 TF.sz47 rfl rfl ?_
     refine r_build (parts := [(0, .tmp 57), (1, .const ((Go.Value.bool false)))]) rfl TF.pl55 TF.zero55 rfl rfl rfl ?_
     refine r_lit 59 (parts := [(0, .tmp 58)]) rfl TF.sl29 TF.sz55 TF.zraw55 rfl rfl rfl rfl rfl rfl rfl ?_
     refine r_append 9 rfl (by first | exact .own _ | exact .nil) rfl (by first | exact .sl _ | exact .own _ _ | exact .nil) TF.sl29 TF.sz55 (by decide) TF.by55 TF.zlen55 (by simp [chunks]; omega) (by simp [chunks]; omega) rfl ?_
     refine r_assign rfl rfl ?_
     refine awl_nil ?_
     refine x_then ?_
     refine awp_region ?_
     refine r_move rfl rfl ?_
     refine r_ari _ rfl rfl rfl (wrap_id (by first | omega | (simp; omega))) rfl ?_
     refine r_assign rfl rfl ?_
     refine awl_nil ?_
     refine x_block ?_
     refine x_then ?_
     refine ⟨A.length + B.length - ((i + 1) + (k)), ⟨82, [(0, .a (.sl 5 (A.map itC))), (1, .a (.sl 5 (B.map itC))), (5, .own 9 5 ((o ++ [(x.1, false)]).map chC)), (6, .a (.v (.int .i64 (((i + 1) : Int))))), (7, .a (.v (.int .i64 (((k) : Int)))))], []⟩, ⟨rfl, (Slots.cons rfl (by first | exact .refl _ | exact .nilOwn _ _ | exact .nilSl _ | exact .ownSl _ _ _  | exact SV.le.ownEq (by first | rfl | (simp; done) | (simp; rfl)) | exact SV.le.of_eq (by first | rfl | (simp; done) | (simp; rfl))) (Slots.cons rfl (by first | exact .refl _ | exact .nilOwn _ _ | exact .nilSl _ | exact .ownSl _ _ _  | exact SV.le.ownEq (by first | rfl | (simp; done) | (simp; rfl)) | exact SV.le.of_eq (by first | rfl | (simp; done) | (simp; rfl))) (Slots.cons rfl (by first | exact .refl _ | exact .nilOwn _ _ | exact .nilSl _ | exact .ownSl _ _ _  | exact SV.le.ownEq (by first | rfl | (simp; done) | (simp; rfl)) | exact SV.le.of_eq (by first | rfl | (simp; done) | (simp; rfl))) (Slots.cons rfl (by first | exact .refl _ | exact .nilOwn _ _ | exact .nilSl _ | exact .ownSl _ _ _  | exact SV.le.ownEq (by first | rfl | (simp; done) | (simp; rfl)) | exact SV.le.of_eq (by first | rfl | (simp; done) | (simp; rfl))) (Slots.cons rfl (by first | exact .refl _ | exact .nilOwn _ _ | exact .nilSl _ | exact .ownSl _ _ _  | exact SV.le.ownEq (by first | rfl | (simp; done) | (simp; rfl)) | exact SV.le.of_eq (by first | rfl | (simp; done) | (simp; rfl))) Slots.nil))))), (by first | exact List.Sublist.refl _ | exact .cons_cons _ (.cons _ (.refl _)) | exact List.nil_sublist _ | exact .cons _ (.refl _) | exact .cons _ (.cons _ (.refl _)) | exact .cons _ (.cons _ (.cons _ (.refl _))) | exact .cons _ (.cons _ (.cons _ (.cons _ (.refl _)))) | exact .cons_cons _ (List.nil_sublist _))⟩, (by omega), ⟨i + 1, k, o ++ [(x.1, false)], rfl, rfl, (by omega), (by omega), (by rw [← hgo, hstep]; simp)⟩⟩
    ·
     have hm : mis B x false = [] := if_pos (by have := hc2; simp at this; exact this)
     rw [hm] at hstep
     refine awp_skip ?_
     refine x_then ?_
     refine awp_region ?_
     refine r_move rfl rfl ?_
     refine r_ari _ rfl rfl rfl (wrap_id (by first | omega | (simp; omega))) rfl ?_
     refine r_assign rfl rfl ?_
     refine awl_nil ?_
     refine x_block ?_
     refine x_then ?_
     refine ⟨A.length + B.length - ((i + 1) + (k)), ⟨82, [(0, .a (.sl 5 (A.map itC))), (1, .a (.sl 5 (B.map itC))), (5, .own 9 5 ((o).map chC)), (6, .a (.v (.int .i64 (((i + 1) : Int))))), (7, .a (.v (.int .i64 (((k) : Int)))))], []⟩, ⟨rfl, (Slots.cons rfl (by first | exact .refl _ | exact .nilOwn _ _ | exact .nilSl _ | exact .ownSl _ _ _  | exact SV.le.ownEq (by first | rfl | (simp; done) | (simp; rfl)) | exact SV.le.of_eq (by first | rfl | (simp; done) | (simp; rfl))) (Slots.cons rfl (by first | exact .refl _ | exact .nilOwn _ _ | exact .nilSl _ | exact .ownSl _ _ _  | exact SV.le.ownEq (by first | rfl | (simp; done) | (simp; rfl)) | exact SV.le.of_eq (by first | rfl | (simp; done) | (simp; rfl))) (Slots.cons rfl (by first | exact .refl _ | exact .nilOwn _ _ | exact .nilSl _ | exact .ownSl _ _ _  | exact SV.le.ownEq (by first | rfl | (simp; done) | (simp; rfl)) | exact SV.le.of_eq (by first | rfl | (simp; done) | (simp; rfl))) (Slots.cons rfl (by first | exact .refl _ | exact .nilOwn _ _ | exact .nilSl _ | exact .ownSl _ _ _  | exact SV.le.ownEq (by first | rfl | (simp; done) | (simp; rfl)) | exact SV.le.of_eq (by first | rfl | (simp; done) | (simp; rfl))) (Slots.cons rfl (by first | exact .refl _ | exact .nilOwn _ _ | exact .nilSl _ | exact .ownSl _ _ _  | exact SV.le.ownEq (by first | rfl | (simp; done) | (simp; rfl)) | exact SV.le.of_eq (by first | rfl | (simp; done) | (simp; rfl))) Slots.nil))))), (by first | exact List.Sublist.refl _ | exact .cons_cons _ (.cons _ (.refl _)) | exact List.nil_sublist _ | exact .cons _ (.refl _) | exact .cons _ (.cons _ (.refl _)) | exact .cons _ (.cons _ (.cons _ (.refl _))) | exact .cons _ (.cons _ (.cons _ (.cons _ (.refl _)))) | exact .cons_cons _ (List.nil_sublist _))⟩, (by omega), ⟨i + 1, k, o, rfl, rfl, (by omega), (by omega), (by rw [← hgo, hstep]; simp)⟩⟩
   ·
    have hkb : k < B.length := by have := of_decide_eq_false hg24; rw [List.length_map] at this; omega
    obtain ⟨y, hy⟩ := get_lt hkb
    rcases Bool.eq_false_or_eq_true (decide (((i : Nat) : Int) < (((A.map itC).length : Nat) : Int))) with hg29 | hg29
    ·
     have hia' : i < A.length := by have := of_decide_eq_true hg29; rw [List.length_map] at this; omega
     obtain ⟨x, hx⟩ := get_lt hia'
     refine awp_drawS [20, 21, 22, 23, 24, 25, 26, 27, 28, 29, 30, 31, 32, 33, 34, 35, 36, 37, 38, 39] [_, _, _, _, _, _, _, _, _, _, _, _, _, _, _, _, _, _, _, _] [] [] TF.mixed rfl rfl rfl ⟨⟨⟨⟨⟨⟨⟨⟨⟨⟨⟨⟨⟨⟨⟨⟨⟨⟨⟨⟨trivial
      , ⟨_, rfl, fun sl hd hr ho => by
        refine r_move (hr 7 _ rfl rfl rfl) rfl ?_
        exact awl_nil ⟨rfl, post_put⟩⟩⟩
      , ⟨_, rfl, fun sl hd hr ho => by
        refine r_move (hr 1 _ rfl rfl rfl) rfl ?_
        exact awl_nil ⟨rfl, post_put⟩⟩⟩
      , ⟨_, rfl, fun sl hd hr ho => by
        first | (refine r_lenS (hd 1 _ rfl rfl rfl) rfl TF.sl25 rfl ?_) | (refine r_lenNil (hd 1 _ rfl rfl rfl) TF.sl25 rfl ?_) | (refine r_lenV (hd 1 _ rfl rfl rfl) TF.sl25 rfl ?_)
        exact awl_nil ⟨rfl, post_put⟩⟩⟩
      , ⟨_, rfl, fun sl hd hr ho => by
        refine r_cmp (hd 0 _ rfl rfl rfl) (hd 2 _ rfl rfl rfl) rfl rfl ?_
        exact awl_nil ⟨rfl, post_put⟩⟩⟩
      , ⟨_, rfl, fun sl hd hr ho => by
        refine r_move (hd 3 _ rfl rfl rfl) rfl ?_
        exact awl_nil ⟨rfl, post_put⟩⟩⟩
      , ⟨_, rfl, fun sl hd hr ho => by
        refine g_run rfl (hd 4 _ rfl rfl rfl) hg24 ?_
        refine r_move (hr 6 _ rfl rfl rfl) rfl ?_
        exact awl_nil ⟨rfl, post_put⟩⟩⟩
      , ⟨_, rfl, fun sl hd hr ho => by
        refine g_run rfl (hd 4 _ rfl rfl rfl) hg24 ?_
        refine r_move (hr 0 _ rfl rfl rfl) rfl ?_
        exact awl_nil ⟨rfl, post_put⟩⟩⟩
      , ⟨_, rfl, fun sl hd hr ho => by
        refine g_run rfl (hd 4 _ rfl rfl rfl) hg24 ?_
        first | (refine r_lenS (hd 6 _ rfl rfl rfl) rfl TF.sl25 rfl ?_) | (refine r_lenNil (hd 6 _ rfl rfl rfl) TF.sl25 rfl ?_) | (refine r_lenV (hd 6 _ rfl rfl rfl) TF.sl25 rfl ?_)
        exact awl_nil ⟨rfl, post_put⟩⟩⟩
      , ⟨_, rfl, fun sl hd hr ho => by
        refine g_run rfl (hd 4 _ rfl rfl rfl) hg24 ?_
        refine r_cmp (hd 5 _ rfl rfl rfl) (hd 7 _ rfl rfl rfl) rfl rfl ?_
        exact awl_nil ⟨rfl, post_put⟩⟩⟩
      , ⟨_, rfl, fun sl hd hr ho => by
        refine g_run rfl (hd 4 _ rfl rfl rfl) hg24 ?_
        refine r_move (hd 8 _ rfl rfl rfl) rfl ?_
        exact awl_nil ⟨rfl, post_put⟩⟩⟩
      , ⟨_, rfl, fun sl hd hr ho => by
        refine g_run rfl (hd 9 _ rfl rfl rfl) hg29 ?_
        refine r_move (hr 1 _ rfl rfl rfl) rfl ?_
        exact awl_nil ⟨rfl, post_put⟩⟩⟩
      , ⟨_, rfl, fun sl hd hr ho => by
        refine g_run rfl (hd 9 _ rfl rfl rfl) hg29 ?_
        refine r_move (hr 7 _ rfl rfl rfl) rfl ?_
        exact awl_nil ⟨rfl, post_put⟩⟩⟩
      , ⟨_, rfl, fun sl hd hr ho => by
        refine g_run rfl (hd 9 _ rfl rfl rfl) hg29 ?_
        refine r_index (hd 10 _ rfl rfl rfl) rfl (hd 11 _ rfl rfl rfl) TF.sl25 TF.sz57 (by omega) (get_map hy) rfl ?_
        exact awl_nil ⟨rfl, post_put⟩⟩⟩
      , ⟨_, rfl, fun sl hd hr ho => by
        refine g_run rfl (hd 9 _ rfl rfl rfl) hg29 ?_
        first | (refine r_fieldcp (hd 12 _ rfl rfl rfl) TF.f57_0 TF.sz47 rfl ?_) | (refine r_fieldpt (hd 12 _ rfl rfl rfl) TF.f57_0 TF.sz47 rfl ?_) | (refine r_fieldb (hd 12 _ rfl rfl rfl) TF.f57_0 TF.sz47 rfl ?_)
        exact awl_nil ⟨rfl, post_put⟩⟩⟩
      , ⟨_, rfl, fun sl hd hr ho => by
        refine g_run rfl (hd 9 _ rfl rfl rfl) hg29 ?_
        refine r_loadA (hd 13 _ rfl rfl rfl) TF.agg47 TF.sz47 rfl rfl ?_
        exact awl_nil ⟨rfl, post_put⟩⟩⟩
      , ⟨_, rfl, fun sl hd hr ho => by
        refine g_run rfl (hd 9 _ rfl rfl rfl) hg29 ?_
        refine r_move (hr 0 _ rfl rfl rfl) rfl ?_
        exact awl_nil ⟨rfl, post_put⟩⟩⟩
      , ⟨_, rfl, fun sl hd hr ho => by
        refine g_run rfl (hd 9 _ rfl rfl rfl) hg29 ?_
        refine r_move (hr 6 _ rfl rfl rfl) rfl ?_
        exact awl_nil ⟨rfl, post_put⟩⟩⟩
      , ⟨_, rfl, fun sl hd hr ho => by
        refine g_run rfl (hd 9 _ rfl rfl rfl) hg29 ?_
        refine r_index (hd 15 _ rfl rfl rfl) rfl (hd 16 _ rfl rfl rfl) TF.sl25 TF.sz57 (by omega) (get_map hx) rfl ?_
        exact awl_nil ⟨rfl, post_put⟩⟩⟩
      , ⟨_, rfl, fun sl hd hr ho => by
        refine g_run rfl (hd 9 _ rfl rfl rfl) hg29 ?_
        first | (refine r_fieldcp (hd 17 _ rfl rfl rfl) TF.f57_0 TF.sz47 rfl ?_) | (refine r_fieldpt (hd 17 _ rfl rfl rfl) TF.f57_0 TF.sz47 rfl ?_) | (refine r_fieldb (hd 17 _ rfl rfl rfl) TF.f57_0 TF.sz47 rfl ?_)
        exact awl_nil ⟨rfl, post_put⟩⟩⟩
      , ⟨_, rfl, fun sl hd hr ho => by
        refine g_run rfl (hd 9 _ rfl rfl rfl) hg29 ?_
        refine r_loadA (hd 18 _ rfl rfl rfl) TF.agg47 TF.sz47 rfl rfl ?_
        exact awl_nil ⟨rfl, post_put⟩⟩⟩
      (by rfl) ?_
     refine g_run rfl rfl hg29 ?_
     refine r_call0 hq rfl rfl (.cons (.ev rfl rfl) (.cons (.ev rfl rfl) .nil)) (before34 y.1 x.1) rfl TF.en34 rfl (fun r hr => ?_)
     obtain rfl := hr
     refine g_run rfl rfl hg29 ?_
     refine r_not rfl rfl ?_
     refine g_run rfl rfl hg24 ?_
     refine r_pickT rfl hg29 rfl rfl ?_
     refine r_pickF rfl hg24 rfl rfl ?_
     refine r_assign rfl rfl ?_
     refine awl_nil ?_
     refine x_then ?_
     refine awp_seq ?_
     refine awp_region ?_
     refine r_move rfl rfl ?_
     refine awl_nil ?_
     refine x_then ?_
     refine awp_cond rfl (fun hc1 => ?_) (fun hc1 => ?_)
     ·
      have hlt : ¬ y.1.lt x.1 := by have := hc1; simp at this; exact this
      have hstep := btw_a hx (.inr ⟨y, hy, hlt⟩)
      refine awp_seq ?_
      refine awp_seq ?_
      refine awp_region ?_
      refine r_move rfl rfl ?_
      refine r_move rfl rfl ?_
      refine r_move rfl rfl ?_
      refine r_index rfl rfl rfl TF.sl25 TF.sz57 (by omega) (get_map hx) rfl ?_
      refine r_loadA rfl TF.agg57 TF.sz57 rfl rfl ?_
      refine r_call0 hq rfl rfl (.cons (.ev rfl rfl) (.cons (.ev rfl rfl) .nil)) (has_ok B x hB) rfl TF.en35 rfl (fun r hr => ?_)
      obtain rfl := hr
      refine r_not rfl rfl ?_
      refine awl_nil ?_
      refine x_then ?_
      refine awp_cond rfl (fun hc2 => ?_) (fun hc2 => ?_)
      ·
       have hm : mis B x false = [(x.1, false)] := if_neg (by have := hc2; simp at this; exact this)
       rw [hm] at hstep
       refine awp_region ?_
       refine r_move rfl rfl ?_
       refine r_move rfl rfl ?_
       refine r_move rfl rfl ?_
       refine r_index rfl rfl rfl TF.sl25 TF.sz57 (by omega) (get_map hx) rfl ?_
       first | (refine r_fieldcp rfl TF.f57_0 TF.sz47 rfl ?_) | (refine r_fieldpt rfl TF.f57_0 TF.sz47 rfl ?_) | (refine r_fieldb rfl TF.f57_0 TF.sz47 rfl ?_)
       refine r_loadA rfl TF.agg47 TF.sz47 rfl rfl ?_
       refine r_build (parts := [(0, .tmp 57), (1, .const ((Go.Value.bool false)))]) rfl TF.pl55 TF.zero55 rfl rfl rfl ?_
       refine r_lit 59 (parts := [(0, .tmp 58)]) rfl TF.sl29 TF.sz55 TF.zraw55 rfl rfl rfl rfl rfl rfl rfl ?_
       refine r_append 9 rfl (by first | exact .own _ | exact .nil) rfl (by first | exact .sl _ | exact .own _ _ | exact .nil) TF.sl29 TF.sz55 (by decide) TF.by55 TF.zlen55 (by simp [chunks]; omega) (by simp [chunks]; omega) rfl ?_
       refine r_assign rfl rfl ?_
       refine awl_nil ?_
       refine x_then ?_
       refine awp_region ?_
       refine r_move rfl rfl ?_
       refine r_ari _ rfl rfl rfl (wrap_id (by first | omega | (simp; omega))) rfl ?_
       refine r_assign rfl rfl ?_
       refine awl_nil ?_
       refine x_block ?_
       refine x_then ?_
       refine ⟨A.length + B.length - ((i + 1) + (k)), ⟨82, [(0, .a (.sl 5 (A.map itC))), (1, .a (.sl 5 (B.map itC))), (5, .own 9 5 ((o ++ [(x.1, false)]).map chC)), (6, .a (.v (.int .i64 (((i + 1) : Int))))), (7, .a (.v (.int .i64 (((k) : Int)))))], []⟩, ⟨rfl, (Slots.cons rfl (by first | exact .refl _ | exact .nilOwn _ _ | exact .nilSl _ | exact .ownSl _ _ _  | exact SV.le.ownEq (by first | rfl | (simp; done) | (simp; rfl)) | exact SV.le.of_eq (by first | rfl | (simp; done) | (simp; rfl))) (Slots.cons rfl (by first | exact .refl _ | exact .nilOwn _ _ | exact .nilSl _ | exact .ownSl _ _ _  | exact SV.le.ownEq (by first | rfl | (simp; done) | (simp; rfl)) | exact SV.le.of_eq (by first | rfl | (simp; done) | (simp; rfl))) (Slots.cons rfl (by first | exact .refl _ | exact .nilOwn _ _ | exact .nilSl _ | exact .ownSl _ _ _  | exact SV.le.ownEq (by first | rfl | (simp; done) | (simp; rfl)) | exact SV.le.of_eq (by first | rfl | (simp; done) | (simp; rfl))) (Slots.cons rfl (by first | exact .refl _ | exact .nilOwn _ _ | exact .nilSl _ | exact .ownSl _ _ _  | exact SV.le.ownEq (by first | rfl | (simp; done) | (simp; rfl)) | exact SV.le.of_eq (by first | rfl | (simp; done) | (simp; rfl))) (Slots.cons rfl (by first | exact .refl _ | exact .nilOwn _ _ | exact .nilSl _ | exact .ownSl _ _ _  | exact SV.le.ownEq (by first | rfl | (simp; done) | (simp; rfl)) | exact SV.le.of_eq (by first | rfl | (simp; done) | (simp; rfl))) Slots.nil))))), (by first | exact List.Sublist.refl _ | exact .cons_cons _ (.cons _ (.refl _)) | exact List.nil_sublist _ | exact .cons _ (.refl _) | exact .cons _ (.cons _ (.refl _)) | exact .cons _ (.cons _ (.cons _ (.refl _))) | exact .cons _ (.cons _ (.cons _ (.cons _ (.refl _)))) | exact .cons_cons _ (List.nil_sublist _))⟩, (by omega), ⟨i + 1, k, o ++ [(x.1, false)], rfl, rfl, (by omega), (by omega), (by rw [← hgo, hstep]; simp)⟩⟩
      ·
       have hm : mis B x false = [] := if_pos (by have := hc2; simp at this; exact this)
       rw [hm] at hstep
       refine awp_skip ?_
       refine x_then ?_
       refine awp_region ?_
       refine r_move rfl rfl ?_
       refine r_ari _ rfl rfl rfl (wrap_id (by first | omega | (simp; omega))) rfl ?_
       refine r_assign rfl rfl ?_
       refine awl_nil ?_
       refine x_block ?_
       refine x_then ?_
       refine ⟨A.length + B.length - ((i + 1) + (k)), ⟨82, [(0, .a (.sl 5 (A.map itC))), (1, .a (.sl 5 (B.map itC))), (5, .own 9 5 ((o).map chC)), (6, .a (.v (.int .i64 (((i + 1) : Int))))), (7, .a (.v (.int .i64 (((k) : Int)))))], []⟩, ⟨rfl, (Slots.cons rfl (by first | exact .refl _ | exact .nilOwn _ _ | exact .nilSl _ | exact .ownSl _ _ _  | exact SV.le.ownEq (by first | rfl | (simp; done) | (simp; rfl)) | exact SV.le.of_eq (by first | rfl | (simp; done) | (simp; rfl))) (Slots.cons rfl (by first | exact .refl _ | exact .nilOwn _ _ | exact .nilSl _ | exact .ownSl _ _ _  | exact SV.le.ownEq (by first | rfl | (simp; done) | (simp; rfl)) | exact SV.le.of_eq (by first | rfl | (simp; done) | (simp; rfl))) (Slots.cons rfl (by first | exact .refl _ | exact .nilOwn _ _ | exact .nilSl _ | exact .ownSl _ _ _  | exact SV.le.ownEq (by first | rfl | (simp; done) | (simp; rfl)) | exact SV.le.of_eq (by first | rfl | (simp; done) | (simp; rfl))) (Slots.cons rfl (by first | exact .refl _ | exact .nilOwn _ _ | exact .nilSl _ | exact .ownSl _ _ _  | exact SV.le.ownEq (by first | rfl | (simp; done) | (simp; rfl)) | exact SV.le.of_eq (by first | rfl | (simp; done) | (simp; rfl))) (Slots.cons rfl (by first | exact .refl _ | exact .nilOwn _ _ | exact .nilSl _ | exact .ownSl _ _ _  | exact SV.le.ownEq (by first | rfl | (simp; done) | (simp; rfl)) | exact SV.le.of_eq (by first | rfl | (simp; done) | (simp; rfl))) Slots.nil))))), (by first | exact List.Sublist.refl _ | exact .cons_cons _ (.cons _ (.refl _)) | exact List.nil_sublist _ | exact .cons _ (.refl _) | exact .cons _ (.cons _ (.refl _)) | exact .cons _ (.cons _ (.cons _ (.refl _))) | exact .cons _ (.cons _ (.cons _ (.cons _ (.refl _)))) | exact .cons_cons _ (List.nil_sublist _))⟩, (by omega), ⟨i + 1, k, o, rfl, rfl, (by omega), (by omega), (by rw [← hgo, hstep]; simp)⟩⟩
     ·
      have hlt : y.1.lt x.1 := by have := hc1; simp at this; exact this
      have hstep := btw_b hy (.inr ⟨x, hx, hlt⟩)
      refine awp_seq ?_
      refine awp_seq ?_
      refine awp_region ?_
      refine r_move rfl rfl ?_
      refine r_move rfl rfl ?_
      refine r_move rfl rfl ?_
      refine r_index rfl rfl rfl TF.sl25 TF.sz57 (by omega) (get_map hy) rfl ?_
      refine r_loadA rfl TF.agg57 TF.sz57 rfl rfl ?_
      refine r_call0 hq rfl rfl (.cons (.ev rfl rfl) (.cons (.ev rfl rfl) .nil)) (has_ok A y hA) rfl TF.en35 rfl (fun r hr => ?_)
      obtain rfl := hr
      refine r_not rfl rfl ?_
      refine awl_nil ?_
      refine x_then ?_
      refine awp_cond rfl (fun hc3 => ?_) (fun hc3 => ?_)
      ·
       have hm : mis A y true = [(y.1, true)] := if_neg (by have := hc3; simp at this; exact this)
       rw [hm] at hstep
       refine awp_region ?_
       refine r_move rfl rfl ?_
       refine r_move rfl rfl ?_
       refine r_move rfl rfl ?_
       refine r_index rfl rfl rfl TF.sl25 TF.sz57 (by omega) (get_map hy) rfl ?_
       first | (refine r_fieldcp rfl TF.f57_0 TF.sz47 rfl ?_) | (refine r_fieldpt rfl TF.f57_0 TF.sz47 rfl ?_) | (refine r_fieldb rfl TF.f57_0 TF.sz47 rfl ?_)
       refine r_loadA rfl TF.agg47 TF.sz47 rfl rfl ?_
       refine r_build (parts := [(0, .tmp 75), (1, .const ((Go.Value.bool true)))]) rfl TF.pl55 TF.zero55 rfl rfl rfl ?_
       refine r_lit 77 (parts := [(0, .tmp 76)]) rfl TF.sl29 TF.sz55 TF.zraw55 rfl rfl rfl rfl rfl rfl rfl ?_
       refine r_append 9 rfl (by first | exact .own _ | exact .nil) rfl (by first | exact .sl _ | exact .own _ _ | exact .nil) TF.sl29 TF.sz55 (by decide) TF.by55 TF.zlen55 (by simp [chunks]; omega) (by simp [chunks]; omega) rfl ?_
       refine r_assign rfl rfl ?_
       refine awl_nil ?_
       refine x_then ?_
       refine awp_region ?_
       refine r_move rfl rfl ?_
       refine r_ari _ rfl rfl rfl (wrap_id (by first | omega | (simp; omega))) rfl ?_
       refine r_assign rfl rfl ?_
       refine awl_nil ?_
       refine x_block ?_
       refine x_then ?_
       refine ⟨A.length + B.length - ((i) + (k + 1)), ⟨82, [(0, .a (.sl 5 (A.map itC))), (1, .a (.sl 5 (B.map itC))), (5, .own 9 5 ((o ++ [(y.1, true)]).map chC)), (6, .a (.v (.int .i64 (((i) : Int))))), (7, .a (.v (.int .i64 (((k + 1) : Int)))))], []⟩, ⟨rfl, (Slots.cons rfl (by first | exact .refl _ | exact .nilOwn _ _ | exact .nilSl _ | exact .ownSl _ _ _  | exact SV.le.ownEq (by first | rfl | (simp; done) | (simp; rfl)) | exact SV.le.of_eq (by first | rfl | (simp; done) | (simp; rfl))) (Slots.cons rfl (by first | exact .refl _ | exact .nilOwn _ _ | exact .nilSl _ | exact .ownSl _ _ _  | exact SV.le.ownEq (by first | rfl | (simp; done) | (simp; rfl)) | exact SV.le.of_eq (by first | rfl | (simp; done) | (simp; rfl))) (Slots.cons rfl (by first | exact .refl _ | exact .nilOwn _ _ | exact .nilSl _ | exact .ownSl _ _ _  | exact SV.le.ownEq (by first | rfl | (simp; done) | (simp; rfl)) | exact SV.le.of_eq (by first | rfl | (simp; done) | (simp; rfl))) (Slots.cons rfl (by first | exact .refl _ | exact .nilOwn _ _ | exact .nilSl _ | exact .ownSl _ _ _  | exact SV.le.ownEq (by first | rfl | (simp; done) | (simp; rfl)) | exact SV.le.of_eq (by first | rfl | (simp; done) | (simp; rfl))) (Slots.cons rfl (by first | exact .refl _ | exact .nilOwn _ _ | exact .nilSl _ | exact .ownSl _ _ _  | exact SV.le.ownEq (by first | rfl | (simp; done) | (simp; rfl)) | exact SV.le.of_eq (by first | rfl | (simp; done) | (simp; rfl))) Slots.nil))))), (by first | exact List.Sublist.refl _ | exact .cons_cons _ (.cons _ (.refl _)) | exact List.nil_sublist _ | exact .cons _ (.refl _) | exact .cons _ (.cons _ (.refl _)) | exact .cons _ (.cons _ (.cons _ (.refl _))) | exact .cons _ (.cons _ (.cons _ (.cons _ (.refl _)))) | exact .cons_cons _ (List.nil_sublist _))⟩, (by omega), ⟨i, k + 1, o ++ [(y.1, true)], rfl, rfl, (by omega), (by omega), (by rw [← hgo, hstep]; simp)⟩⟩
      ·
       have hm : mis A y true = [] := if_pos (by have := hc3; simp at this; exact this)
       rw [hm] at hstep
       refine awp_skip ?_
       refine x_then ?_
       refine awp_region ?_
       refine r_move rfl rfl ?_
       refine r_ari _ rfl rfl rfl (wrap_id (by first | omega | (simp; omega))) rfl ?_
       refine r_assign rfl rfl ?_
       refine awl_nil ?_
       refine x_block ?_
       refine x_then ?_
       refine ⟨A.length + B.length - ((i) + (k + 1)), ⟨82, [(0, .a (.sl 5 (A.map itC))), (1, .a (.sl 5 (B.map itC))), (5, .own 9 5 ((o).map chC)), (6, .a (.v (.int .i64 (((i) : Int))))), (7, .a (.v (.int .i64 (((k + 1) : Int)))))], []⟩, ⟨rfl, (Slots.cons rfl (by first | exact .refl _ | exact .nilOwn _ _ | exact .nilSl _ | exact .ownSl _ _ _  | exact SV.le.ownEq (by first | rfl | (simp; done) | (simp; rfl)) | exact SV.le.of_eq (by first | rfl | (simp; done) | (simp; rfl))) (Slots.cons rfl (by first | exact .refl _ | exact .nilOwn _ _ | exact .nilSl _ | exact .ownSl _ _ _  | exact SV.le.ownEq (by first | rfl | (simp; done) | (simp; rfl)) | exact SV.le.of_eq (by first | rfl | (simp; done) | (simp; rfl))) (Slots.cons rfl (by first | exact .refl _ | exact .nilOwn _ _ | exact .nilSl _ | exact .ownSl _ _ _  | exact SV.le.ownEq (by first | rfl | (simp; done) | (simp; rfl)) | exact SV.le.of_eq (by first | rfl | (simp; done) | (simp; rfl))) (Slots.cons rfl (by first | exact .refl _ | exact .nilOwn _ _ | exact .nilSl _ | exact .ownSl _ _ _  | exact SV.le.ownEq (by first | rfl | (simp; done) | (simp; rfl)) | exact SV.le.of_eq (by first | rfl | (simp; done) | (simp; rfl))) (Slots.cons rfl (by first | exact .refl _ | exact .nilOwn _ _ | exact .nilSl _ | exact .ownSl _ _ _  | exact SV.le.ownEq (by first | rfl | (simp; done) | (simp; rfl)) | exact SV.le.of_eq (by first | rfl | (simp; done) | (simp; rfl))) Slots.nil))))), (by first | exact List.Sublist.refl _ | exact .cons_cons _ (.cons _ (.refl _)) | exact List.nil_sublist _ | exact .cons _ (.refl _) | exact .cons _ (.cons _ (.refl _)) | exact .cons _ (.cons _ (.cons _ (.refl _))) | exact .cons _ (.cons _ (.cons _ (.cons _ (.refl _)))) | exact .cons_cons _ (List.nil_sublist _))⟩, (by omega), ⟨i, k + 1, o, rfl, rfl, (by omega), (by omega), (by rw [← hgo, hstep]; simp)⟩⟩
    ·
     have hia2 : A.length ≤ i := by have := of_decide_eq_false hg29; rw [List.length_map] at this; omega
     have hstep := btw_b hy (.inl hia2)
     refine awp_drawS [20, 21, 22, 23, 24, 25, 26, 27, 28, 29, 30, 31, 32, 33, 34, 35, 36, 37, 38, 39] [_, _, _, _, _, _, _, _, _, _, _, _, _, _, _, _, _, _, _, _] [] [] TF.mixed rfl rfl rfl ⟨⟨⟨⟨⟨⟨⟨⟨⟨⟨⟨⟨⟨⟨⟨⟨⟨⟨⟨⟨trivial
      , ⟨_, rfl, fun sl hd hr ho => by
        refine r_move (hr 7 _ rfl rfl rfl) rfl ?_
        exact awl_nil ⟨rfl, post_put⟩⟩⟩
      , ⟨_, rfl, fun sl hd hr ho => by
        refine r_move (hr 1 _ rfl rfl rfl) rfl ?_
        exact awl_nil ⟨rfl, post_put⟩⟩⟩
      , ⟨_, rfl, fun sl hd hr ho => by
        first | (refine r_lenS (hd 1 _ rfl rfl rfl) rfl TF.sl25 rfl ?_) | (refine r_lenNil (hd 1 _ rfl rfl rfl) TF.sl25 rfl ?_) | (refine r_lenV (hd 1 _ rfl rfl rfl) TF.sl25 rfl ?_)
        exact awl_nil ⟨rfl, post_put⟩⟩⟩
      , ⟨_, rfl, fun sl hd hr ho => by
        refine r_cmp (hd 0 _ rfl rfl rfl) (hd 2 _ rfl rfl rfl) rfl rfl ?_
        exact awl_nil ⟨rfl, post_put⟩⟩⟩
      , ⟨_, rfl, fun sl hd hr ho => by
        refine r_move (hd 3 _ rfl rfl rfl) rfl ?_
        exact awl_nil ⟨rfl, post_put⟩⟩⟩
      , ⟨_, rfl, fun sl hd hr ho => by
        refine g_run rfl (hd 4 _ rfl rfl rfl) hg24 ?_
        refine r_move (hr 6 _ rfl rfl rfl) rfl ?_
        exact awl_nil ⟨rfl, post_put⟩⟩⟩
      , ⟨_, rfl, fun sl hd hr ho => by
        refine g_run rfl (hd 4 _ rfl rfl rfl) hg24 ?_
        refine r_move (hr 0 _ rfl rfl rfl) rfl ?_
        exact awl_nil ⟨rfl, post_put⟩⟩⟩
      , ⟨_, rfl, fun sl hd hr ho => by
        refine g_run rfl (hd 4 _ rfl rfl rfl) hg24 ?_
        first | (refine r_lenS (hd 6 _ rfl rfl rfl) rfl TF.sl25 rfl ?_) | (refine r_lenNil (hd 6 _ rfl rfl rfl) TF.sl25 rfl ?_) | (refine r_lenV (hd 6 _ rfl rfl rfl) TF.sl25 rfl ?_)
        exact awl_nil ⟨rfl, post_put⟩⟩⟩
      , ⟨_, rfl, fun sl hd hr ho => by
        refine g_run rfl (hd 4 _ rfl rfl rfl) hg24 ?_
        refine r_cmp (hd 5 _ rfl rfl rfl) (hd 7 _ rfl rfl rfl) rfl rfl ?_
        exact awl_nil ⟨rfl, post_put⟩⟩⟩
      , ⟨_, rfl, fun sl hd hr ho => by
        refine g_run rfl (hd 4 _ rfl rfl rfl) hg24 ?_
        refine r_move (hd 8 _ rfl rfl rfl) rfl ?_
        exact awl_nil ⟨rfl, post_put⟩⟩⟩
      , ⟨_, rfl, fun sl hd hr ho => by
        refine g_skip rfl (hd 9 _ rfl rfl rfl) hg29 rfl ?_
        exact awl_nil ⟨rfl, post_put⟩⟩⟩
      , ⟨_, rfl, fun sl hd hr ho => by
        refine g_skip rfl (hd 9 _ rfl rfl rfl) hg29 rfl ?_
        exact awl_nil ⟨rfl, post_put⟩⟩⟩
      , ⟨_, rfl, fun sl hd hr ho => by
        refine g_skip rfl (hd 9 _ rfl rfl rfl) hg29 rfl ?_
        exact awl_nil ⟨rfl, post_put⟩⟩⟩
      , ⟨_, rfl, fun sl hd hr ho => by
        refine g_skip rfl (hd 9 _ rfl rfl rfl) hg29 rfl ?_
        exact awl_nil ⟨rfl, post_put⟩⟩⟩
      , ⟨_, rfl, fun sl hd hr ho => by
        refine g_skip rfl (hd 9 _ rfl rfl rfl) hg29 rfl ?_
        exact awl_nil ⟨rfl, post_put⟩⟩⟩
      , ⟨_, rfl, fun sl hd hr ho => by
        refine g_skip rfl (hd 9 _ rfl rfl rfl) hg29 rfl ?_
        exact awl_nil ⟨rfl, post_put⟩⟩⟩
      , ⟨_, rfl, fun sl hd hr ho => by
        refine g_skip rfl (hd 9 _ rfl rfl rfl) hg29 rfl ?_
        exact awl_nil ⟨rfl, post_put⟩⟩⟩
      , ⟨_, rfl, fun sl hd hr ho => by
        refine g_skip rfl (hd 9 _ rfl rfl rfl) hg29 rfl ?_
        exact awl_nil ⟨rfl, post_put⟩⟩⟩
      , ⟨_, rfl, fun sl hd hr ho => by
        refine g_skip rfl (hd 9 _ rfl rfl rfl) hg29 rfl ?_
        exact awl_nil ⟨rfl, post_put⟩⟩⟩
      , ⟨_, rfl, fun sl hd hr ho => by
        refine g_skip rfl (hd 9 _ rfl rfl rfl) hg29 rfl ?_
        exact awl_nil ⟨rfl, post_put⟩⟩⟩
      (by rfl) ?_
     refine g_skip rfl rfl hg29 rfl ?_
     refine g_skip rfl rfl hg29 rfl ?_
     refine g_run rfl rfl hg24 ?_
     refine r_pickF rfl hg29 rfl rfl ?_
     refine r_pickF rfl hg24 rfl rfl ?_
     refine r_assign rfl rfl ?_
     refine awl_nil ?_
     refine x_then ?_
     refine awp_seq ?_
     refine awp_region ?_
     refine r_move rfl rfl ?_
     refine awl_nil ?_
     refine x_then ?_
     refine awp_condF rfl ?_
     refine awp_seq ?_
     refine awp_seq ?_
     refine awp_region ?_
     refine r_move rfl rfl ?_
     refine r_move rfl rfl ?_
     refine r_move rfl rfl ?_
     refine r_index rfl rfl rfl TF.sl25 TF.sz57 (by omega) (get_map hy) rfl ?_
     refine r_loadA rfl TF.agg57 TF.sz57 rfl rfl ?_
     refine r_call0 hq rfl rfl (.cons (.ev rfl rfl) (.cons (.ev rfl rfl) .nil)) (has_ok A y hA) rfl TF.en35 rfl (fun r hr => ?_)
     obtain rfl := hr
     refine r_not rfl rfl ?_
     refine awl_nil ?_
     refine x_then ?_
     refine awp_cond rfl (fun hc3 => ?_) (fun hc3 => ?_)
     ·
      have hm : mis A y true = [(y.1, true)] := if_neg (by have := hc3; simp at this; exact this)
      rw [hm] at hstep
      refine awp_region ?_
      refine r_move rfl rfl ?_
      refine r_move rfl rfl ?_
      refine r_move rfl rfl ?_
      refine r_index rfl rfl rfl TF.sl25 TF.sz57 (by omega) (get_map hy) rfl ?_
      first | (refine r_fieldcp rfl TF.f57_0 TF.sz47 rfl ?_) | (refine r_fieldpt rfl TF.f57_0 TF.sz47 rfl ?_) | (refine r_fieldb rfl TF.f57_0 TF.sz47 rfl ?_)
      refine r_loadA rfl TF.agg47 TF.sz47 rfl rfl ?_
      refine r_build (parts := [(0, .tmp 75), (1, .const ((Go.Value.bool true)))]) rfl TF.pl55 TF.zero55 rfl rfl rfl ?_
      refine r_lit 77 (parts := [(0, .tmp 76)]) rfl TF.sl29 TF.sz55 TF.zraw55 rfl rfl rfl rfl rfl rfl rfl ?_
      refine r_append 9 rfl (by first | exact .own _ | exact .nil) rfl (by first | exact .sl _ | exact .own _ _ | exact .nil) TF.sl29 TF.sz55 (by decide) TF.by55 TF.zlen55 (by simp [chunks]; omega) (by simp [chunks]; omega) rfl ?_
      refine r_assign rfl rfl ?_
      refine awl_nil ?_
      refine x_then ?_
      refine awp_region ?_
      refine r_move rfl rfl ?_
      refine r_ari _ rfl rfl rfl (wrap_id (by first | omega | (simp; omega))) rfl ?_
      refine r_assign rfl rfl ?_
      refine awl_nil ?_
      refine x_block ?_
      refine x_then ?_
      refine ⟨A.length + B.length - ((i) + (k + 1)), ⟨82, [(0, .a (.sl 5 (A.map itC))), (1, .a (.sl 5 (B.map itC))), (5, .own 9 5 ((o ++ [(y.1, true)]).map chC)), (6, .a (.v (.int .i64 (((i) : Int))))), (7, .a (.v (.int .i64 (((k + 1) : Int)))))], []⟩, ⟨rfl, (Slots.cons rfl (by first | exact .refl _ | exact .nilOwn _ _ | exact .nilSl _ | exact .ownSl _ _ _  | exact SV.le.ownEq (by first | rfl | (simp; done) | (simp; rfl)) | exact SV.le.of_eq (by first | rfl | (simp; done) | (simp; rfl))) (Slots.cons rfl (by first | exact .refl _ | exact .nilOwn _ _ | exact .nilSl _ | exact .ownSl _ _ _  | exact SV.le.ownEq (by first | rfl | (simp; done) | (simp; rfl)) | exact SV.le.of_eq (by first | rfl | (simp; done) | (simp; rfl))) (Slots.cons rfl (by first | exact .refl _ | exact .nilOwn _ _ | exact .nilSl _ | exact .ownSl _ _ _  | exact SV.le.ownEq (by first | rfl | (simp; done) | (simp; rfl)) | exact SV.le.of_eq (by first | rfl | (simp; done) | (simp; rfl))) (Slots.cons rfl (by first | exact .refl _ | exact .nilOwn _ _ | exact .nilSl _ | exact .ownSl _ _ _  | exact SV.le.ownEq (by first | rfl | (simp; done) | (simp; rfl)) | exact SV.le.of_eq (by first | rfl | (simp; done) | (simp; rfl))) (Slots.cons rfl (by first | exact .refl _ | exact .nilOwn _ _ | exact .nilSl _ | exact .ownSl _ _ _  | exact SV.le.ownEq (by first | rfl | (simp; done) | (simp; rfl)) | exact SV.le.of_eq (by first | rfl | (simp; done) | (simp; rfl))) Slots.nil))))), (by first | exact List.Sublist.refl _ | exact .cons_cons _ (.cons _ (.refl _)) | exact List.nil_sublist _ | exact .cons _ (.refl _) | exact .cons _ (.cons _ (.refl _)) | exact .cons _ (.cons _ (.cons _ (.refl _))) | exact .cons _ (.cons _ (.cons _ (.cons _ (.refl _)))) | exact .cons_cons _ (List.nil_sublist _))⟩, (by omega), ⟨i, k + 1, o ++ [(y.1, true)], rfl, rfl, (by omega), (by omega), (by rw [← hgo, hstep]; simp)⟩⟩
     ·
      have hm : mis A y true = [] := if_pos (by have := hc3; simp at this; exact this)
      rw [hm] at hstep
      refine awp_skip ?_
      refine x_then ?_
      refine awp_region ?_
      refine r_move rfl rfl ?_
      refine r_ari _ rfl rfl rfl (wrap_id (by first | omega | (simp; omega))) rfl ?_
      refine r_assign rfl rfl ?_
      refine awl_nil ?_
      refine x_block ?_
      refine x_then ?_
      refine ⟨A.length + B.length - ((i) + (k + 1)), ⟨82, [(0, .a (.sl 5 (A.map itC))), (1, .a (.sl 5 (B.map itC))), (5, .own 9 5 ((o).map chC)), (6, .a (.v (.int .i64 (((i) : Int))))), (7, .a (.v (.int .i64 (((k + 1) : Int)))))], []⟩, ⟨rfl, (Slots.cons rfl (by first | exact .refl _ | exact .nilOwn _ _ | exact .nilSl _ | exact .ownSl _ _ _  | exact SV.le.ownEq (by first | rfl | (simp; done) | (simp; rfl)) | exact SV.le.of_eq (by first | rfl | (simp; done) | (simp; rfl))) (Slots.cons rfl (by first | exact .refl _ | exact .nilOwn _ _ | exact .nilSl _ | exact .ownSl _ _ _  | exact SV.le.ownEq (by first | rfl | (simp; done) | (simp; rfl)) | exact SV.le.of_eq (by first | rfl | (simp; done) | (simp; rfl))) (Slots.cons rfl (by first | exact .refl _ | exact .nilOwn _ _ | exact .nilSl _ | exact .ownSl _ _ _  | exact SV.le.ownEq (by first | rfl | (simp; done) | (simp; rfl)) | exact SV.le.of_eq (by first | rfl | (simp; done) | (simp; rfl))) (Slots.cons rfl (by first | exact .refl _ | exact .nilOwn _ _ | exact .nilSl _ | exact .ownSl _ _ _  | exact SV.le.ownEq (by first | rfl | (simp; done) | (simp; rfl)) | exact SV.le.of_eq (by first | rfl | (simp; done) | (simp; rfl))) (Slots.cons rfl (by first | exact .refl _ | exact .nilOwn _ _ | exact .nilSl _ | exact .ownSl _ _ _  | exact SV.le.ownEq (by first | rfl | (simp; done) | (simp; rfl)) | exact SV.le.of_eq (by first | rfl | (simp; done) | (simp; rfl))) Slots.nil))))), (by first | exact List.Sublist.refl _ | exact .cons_cons _ (.cons _ (.refl _)) | exact List.nil_sublist _ | exact .cons _ (.refl _) | exact .cons _ (.cons _ (.refl _)) | exact .cons _ (.cons _ (.cons _ (.refl _))) | exact .cons _ (.cons _ (.cons _ (.cons _ (.refl _)))) | exact .cons_cons _ (List.nil_sublist _))⟩, (by omega), ⟨i, k + 1, o, rfl, rfl, (by omega), (by omega), (by rw [← hgo, hstep]; simp)⟩⟩
  ·
   have hkb : B.length ≤ k := by have := of_decide_eq_false hc0; rw [List.length_map] at this; omega
   have hfin : o = refBtw A B := by rw [← hgo, btw_end hia hkb]; simp
   refine awp_exit ?_
   refine x_thenE ?_
   refine x_thenE ?_
   refine x_blockE ?_
   refine x_then ?_
   refine awp_seq ?_
   refine awp_region ?_
   refine r_move rfl rfl ?_
   refine r_assign rfl rfl ?_
   refine awl_nil ?_
   refine x_then ?_
   refine awp_ret ?_
   exact ⟨(.inl rfl), _, [], (.one (by first | exact .mk rfl rfl | exact .nil rfl)), ⟨rfl, by rw [← hfin]; rfl⟩, (List.nil_sublist _), (by simp)⟩
theorem same_ok (l m : List (Sp × Bool)) (hl : l.length ≤ 1000000) : AC Try.prog 15 [.sl 5 (l.map chC), .sl 5 (m.map chC)] [] (fun r n => n = [] ∧ r = boolA (decide (l = m))) := by
 refine ac_of_awp (rs := [4]) (nt := 26) Try.func15 rfl rfl rfl rfl (fun w0 C0 hq => ?_)
 refine awp_seq ?_
 refine awp_region ?_
 refine r_assign rfl rfl ?_
 refine awl_nil ?_
 refine x_then ?_
 refine awp_seq ?_
 refine awp_seq ?_
 refine awp_region ?_
 refine r_move rfl rfl ?_
 first | (refine r_lenS rfl rfl TF.sl29 rfl ?_) | (refine r_lenNil rfl TF.sl29 rfl ?_) | (refine r_lenV rfl TF.sl29 rfl ?_)
 refine r_move rfl rfl ?_
 first | (refine r_lenS rfl rfl TF.sl29 rfl ?_) | (refine r_lenNil rfl TF.sl29 rfl ?_) | (refine r_lenV rfl TF.sl29 rfl ?_)
 refine r_cmp rfl rfl rfl rfl ?_
 refine awl_nil ?_
 refine x_then ?_
 refine awp_cond rfl (fun hc0 => ?_) (fun hc0 => ?_)
 ·
  have hne : l ≠ m := fun h => by rw [h] at hc0; simp at hc0
  refine awp_seq ?_
  refine awp_region ?_
  refine r_assign rfl rfl ?_
  refine awl_nil ?_
  refine x_then ?_
  refine awp_ret ?_
  refine x_thenR ?_
  exact ⟨(.inl rfl), _, [], (.one (by first | exact .mk rfl rfl | exact .nil rfl)), ⟨rfl, by rw [decide_eq_false hne]; rfl⟩, (List.nil_sublist _), (by simp)⟩
 ·
  have hll : l.length = m.length := by have := hc0; simp at this; omega
  refine awp_skip ?_
  refine x_then ?_
  refine awp_seq ?_
  refine awp_seq ?_
  refine awp_region ?_
  refine r_move rfl rfl ?_
  first | (refine r_lenS rfl rfl TF.sl29 rfl ?_) | (refine r_lenNil rfl TF.sl29 rfl ?_) | (refine r_lenV rfl TF.sl29 rfl ?_)
  refine r_move rfl rfl ?_
  refine awl_nil ?_
  refine x_then ?_
  refine awp_block ?_
  refine awp_loop (fun nn0 S => ∃ i : Nat, S = ⟨26, [(0, .a (.sl 5 (l.map chC))), (1, .a (.sl 5 (m.map chC))), (12, .a (.v (.int .i64 (((l.map chC).length : Nat))))), (13, .a (.v (.int .i64 ((i : Int)))))], []⟩ ∧ nn0 = l.length - i ∧ (i ≤ l.length) ∧ (l.take i = m.take i)) (l.length - (0)) ⟨26, [(0, .a (.sl 5 (l.map chC))), (1, .a (.sl 5 (m.map chC))), (12, .a (.v (.int .i64 (((l.map chC).length : Nat))))), (13, .a (.v (.int .i64 (((0) : Int)))))], []⟩ ⟨rfl, (Slots.cons rfl (by first | exact .refl _ | exact .nilOwn _ _ | exact .nilSl _ | exact .ownSl _ _ _  | exact SV.le.of_eq (by simp)) (Slots.cons rfl (by first | exact .refl _ | exact .nilOwn _ _ | exact .nilSl _ | exact .ownSl _ _ _  | exact SV.le.of_eq (by simp)) (Slots.cons rfl (by first | exact .refl _ | exact .nilOwn _ _ | exact .nilSl _ | exact .ownSl _ _ _  | exact SV.le.of_eq (by simp)) (Slots.cons rfl (by first | exact .refl _ | exact .nilOwn _ _ | exact .nilSl _ | exact .ownSl _ _ _  | exact SV.le.of_eq (by simp)) Slots.nil)))), (by first | exact List.Sublist.refl _ | exact .cons_cons _ (.cons _ (.refl _)) | exact List.nil_sublist _ | exact .cons _ (.refl _) | exact .cons _ (.cons _ (.refl _)) | exact .cons _ (.cons _ (.cons _ (.refl _))) | exact .cons _ (.cons _ (.cons _ (.cons _ (.refl _)))) | exact .cons_cons _ (List.nil_sublist _))⟩ ⟨0, rfl, rfl, Nat.zero_le _, rfl⟩ ?_
  rintro nn0 _ ⟨i, rfl, rfl, hi, heq⟩
  refine awp_seq ?_
  refine awp_region ?_
  refine r_cmp rfl rfl rfl rfl ?_
  refine awl_nil ?_
  refine x_then ?_
  refine awp_seq ?_
  refine awp_cond rfl (fun hc1 => ?_) (fun hc1 => ?_)
  ·
   have hltx : i < l.length := by have := of_decide_eq_true hc1; simpa using this
   obtain ⟨x, hx⟩ := get_lt hltx
   obtain ⟨y, hy⟩ : ∃ y, m[i]? = some y := get_lt (by omega)
   refine awp_skip ?_
   refine x_then ?_
   refine awp_seq ?_
   refine awp_block ?_
   refine awp_seq ?_
   refine awp_region ?_
   refine r_move rfl rfl ?_
   refine r_assign rfl rfl ?_
   refine awl_nil ?_
   refine x_then ?_
   refine awp_seq ?_
   refine awp_drawS [16, 17, 18, 19, 20, 21, 22, 23] [_, _, _, _, _, _, _, _] [] [] TF.mixed rfl rfl rfl ⟨⟨⟨⟨⟨⟨⟨⟨trivial
    , ⟨_, rfl, fun sl hd hr ho => by
      refine r_move (hr 0 _ rfl rfl rfl) rfl ?_
      exact awl_nil ⟨rfl, post_put⟩⟩⟩
    , ⟨_, rfl, fun sl hd hr ho => by
      refine r_move (hr 5 _ rfl rfl rfl) rfl ?_
      exact awl_nil ⟨rfl, post_put⟩⟩⟩
    , ⟨_, rfl, fun sl hd hr ho => by
      refine r_index (hd 0 _ rfl rfl rfl) rfl (hd 1 _ rfl rfl rfl) TF.sl29 TF.sz55 (by omega) (get_map hx) rfl ?_
      exact awl_nil ⟨rfl, post_put⟩⟩⟩
    , ⟨_, rfl, fun sl hd hr ho => by
      refine r_loadA (hd 2 _ rfl rfl rfl) TF.agg55 TF.sz55 rfl rfl ?_
      exact awl_nil ⟨rfl, post_put⟩⟩⟩
    , ⟨_, rfl, fun sl hd hr ho => by
      refine r_move (hr 1 _ rfl rfl rfl) rfl ?_
      exact awl_nil ⟨rfl, post_put⟩⟩⟩
    , ⟨_, rfl, fun sl hd hr ho => by
      refine r_move (hr 5 _ rfl rfl rfl) rfl ?_
      exact awl_nil ⟨rfl, post_put⟩⟩⟩
    , ⟨_, rfl, fun sl hd hr ho => by
      refine r_index (hd 4 _ rfl rfl rfl) rfl (hd 5 _ rfl rfl rfl) TF.sl29 TF.sz55 (by omega) (get_map hy) rfl ?_
      exact awl_nil ⟨rfl, post_put⟩⟩⟩
    , ⟨_, rfl, fun sl hd hr ho => by
      refine r_loadA (hd 6 _ rfl rfl rfl) TF.agg55 TF.sz55 rfl rfl ?_
      exact awl_nil ⟨rfl, post_put⟩⟩⟩
    (by rfl) ?_
   refine r_fne rfl rfl flat55 (isVal_ch x) (isVal_ch y) (chV_kn _) (chV_kn _) (decide (x = y)) (by rw [decide_eq_true_eq]; exact ⟨fun h => by rw [h], chV_inj⟩) rfl ?_
   refine awl_nil ?_
   refine x_then ?_
   refine awp_cond rfl (fun hc2 => ?_) (fun hc2 => ?_)
   ·
    have hxy : x ≠ y := by have := hc2; simp at this; exact this
    have hne : l ≠ m := fun h => by rw [h, hy] at hx; cases hx; exact hxy rfl
    refine awp_seq ?_
    refine awp_region ?_
    refine r_assign rfl rfl ?_
    refine awl_nil ?_
    refine x_then ?_
    refine awp_ret ?_
    refine x_blockR ?_
    refine x_thenR ?_
    refine x_thenR ?_
    refine x_blockR ?_
    refine x_thenR ?_
    exact ⟨(.inl rfl), _, [], (.one (by first | exact .mk rfl rfl | exact .nil rfl)), ⟨rfl, by rw [decide_eq_false hne]; rfl⟩, (List.nil_sublist _), (by simp)⟩
   ·
    have hxy : x = y := by have := hc2; simp at this; exact this
    refine awp_skip ?_
    refine x_block ?_
    refine x_then ?_
    refine awp_region ?_
    refine r_ari _ rfl rfl rfl (wrap_id (by first | omega | (simp; omega))) rfl ?_
    refine r_move rfl rfl ?_
    refine awl_nil ?_
    refine x_then ?_
    refine ⟨l.length - (i + 1), ⟨26, [(0, .a (.sl 5 (l.map chC))), (1, .a (.sl 5 (m.map chC))), (12, .a (.v (.int .i64 (((l.map chC).length : Nat))))), (13, .a (.v (.int .i64 (((i + 1) : Int)))))], []⟩, ⟨rfl, (Slots.cons rfl (by first | exact .refl _ | exact .nilOwn _ _ | exact .nilSl _ | exact .ownSl _ _ _  | exact SV.le.of_eq (by simp)) (Slots.cons rfl (by first | exact .refl _ | exact .nilOwn _ _ | exact .nilSl _ | exact .ownSl _ _ _  | exact SV.le.of_eq (by simp)) (Slots.cons rfl (by first | exact .refl _ | exact .nilOwn _ _ | exact .nilSl _ | exact .ownSl _ _ _  | exact SV.le.of_eq (by simp)) (Slots.cons rfl (by first | exact .refl _ | exact .nilOwn _ _ | exact .nilSl _ | exact .ownSl _ _ _  | exact SV.le.of_eq (by simp)) Slots.nil)))), (by first | exact List.Sublist.refl _ | exact .cons_cons _ (.cons _ (.refl _)) | exact List.nil_sublist _ | exact .cons _ (.refl _) | exact .cons _ (.cons _ (.refl _)) | exact .cons _ (.cons _ (.cons _ (.refl _))) | exact .cons _ (.cons _ (.cons _ (.cons _ (.refl _)))) | exact .cons_cons _ (List.nil_sublist _))⟩, (by omega), ⟨i + 1, rfl, rfl, (by omega), (by rw [List.take_add_one, List.take_add_one, heq, hx, hy, hxy])⟩⟩
  ·
   have hge : l.length ≤ i := by have := of_decide_eq_false hc1; simp at this; omega
   have hlm : l = m := by rw [List.take_of_length_le hge, List.take_of_length_le (by omega)] at heq; exact heq
   refine awp_exit ?_
   refine x_thenE ?_
   refine x_thenE ?_
   refine x_blockE ?_
   refine x_then ?_
   refine awp_seq ?_
   refine awp_region ?_
   refine r_assign rfl rfl ?_
   refine awl_nil ?_
   refine x_then ?_
   refine awp_ret ?_
   exact ⟨(.inl rfl), _, [], (.one (by first | exact .mk rfl rfl | exact .nil rfl)), ⟨rfl, by rw [decide_eq_true hlm]; rfl⟩, (List.nil_sublist _), (by simp)⟩
end Go.Proofs.Ytljgdbgcleibjaa.A
namespace Go.Proofs.Ytljgdbgcleibjaa.A
open Go Go.RowKit
set_option linter.unusedVariables false
set_option linter.unusedSimpArgs false
set_option maxRecDepth 100000
theorem TF.en15 : entersT Try.prog 15 := enters_of Try.func15 (by kernel_rfl) (by kernel_rfl)
end Go.Proofs.Ytljgdbgcleibjaa.A
namespace Go.Proofs.Ytljgdbgcleibjaa.A
open Go Go.RowKit
set_option linter.unusedVariables false
set_option linter.unusedSimpArgs false
set_option maxRecDepth 100000
theorem TF.en14 : entersT Try.prog 14 := enters_of Try.func14 (by kernel_rfl) (by kernel_rfl)
theorem TF.un5 : Try.prog.underlying 5 = some (.int .u8) := by kernel_rfl
theorem same_ok' (l m : List (Sp × Bool)) (hl : l.length ≤ 1000000) {L M : List (List AV)} (hL : L = l.map chC) (hM : M = m.map chC) : AC Try.prog 15 [.sl 5 L, .sl 5 M] [] (fun r n => n = [] ∧ r = boolA (decide (l = m))) := by subst hL hM; exact same_ok l m hl
theorem btw_cut (l : List (Sp × Bool)) (k : Nat) : l.take (((1 : Int) + ((k % 9 : Nat) : Int)).toNat) = l.take (min ((1 : Int) + ((k % 9 : Nat) : Int)) ((l.map chC).length : Nat)).toNat := by
  rw [List.take_eq_take_iff, List.length_map]; omega
set_option maxHeartbeats 1000000 in
theorem between_walk (l m u : List Ac) (w : Nat) (hw : w < 256) : AC Try.prog 3 [.sl 6 (l.map Ac.cs), .sl 6 (m.map Ac.cs), .sl 6 (u.map Ac.cs), .v (.int .u8 (w : Int))] [] (fun r n => n = [] ∧ r = boolA true) := by
 refine ac_of_awp (rs := [8]) (nt := 76) Try.func3 rfl rfl rfl rfl (fun w0 C0 hq => ?_)
 refine awp_seq ?_
 refine awp_region ?_
 refine r_assign rfl rfl ?_
 refine awl_nil ?_
 refine x_then ?_
 refine awp_seq ?_
 refine awp_seq ?_
 refine awp_region ?_
 refine r_call0 hq rfl rfl .nil (awake_ok) rfl TF.en11 rfl (fun r hr => ?_)
 obtain rfl := hr
 refine r_not rfl rfl ?_
 refine awl_nil ?_
 refine x_then ?_
 refine awp_cond rfl (fun hc0 => ?_) (fun hc0 => ?_)
 ·
  exfalso; cases hc0
 ·
  refine awp_skip ?_
  refine x_then ?_
  refine awp_seq ?_
  refine awp_seq ?_
  refine awp_region ?_
  refine r_move rfl rfl ?_
  first | (refine r_lenS rfl rfl TF.sl22 rfl ?_) | (refine r_lenNil rfl TF.sl22 rfl ?_) | (refine r_lenV rfl TF.sl22 rfl ?_)
  refine r_cmp rfl rfl rfl rfl ?_
  refine r_move rfl rfl ?_
  refine g_cases (t' := 22) rfl (fun hg22 => ?_) (fun hg22 => ?_)
  ·
   refine g_skip rfl rfl hg22 rfl ?_
   refine g_skip rfl rfl hg22 rfl ?_
   refine g_skip rfl rfl hg22 rfl ?_
   refine r_pickT rfl hg22 rfl rfl ?_
   refine r_move rfl rfl ?_
   refine g_skip rfl rfl rfl rfl ?_
   refine g_skip rfl rfl rfl rfl ?_
   refine g_skip rfl rfl rfl rfl ?_
   refine r_pickT rfl rfl rfl rfl ?_
   refine awl_nil ?_
   refine x_then ?_
   refine awp_condT rfl ?_
   refine awp_seq ?_
   refine awp_region ?_
   refine r_assign rfl rfl ?_
   refine awl_nil ?_
   refine x_then ?_
   refine awp_ret ?_
   refine x_thenR ?_
   exact ⟨(.inl rfl), _, [], (.one (by first | exact .mk rfl rfl | exact .nil rfl)), ⟨rfl, by first | rfl | (rw [hch, btw_cut, decide_eq_true rfl]; rfl)⟩, (List.nil_sublist _), (by simp)⟩
  ·
   have hl_l : l.length ≤ 50 := by have := of_decide_eq_false hg22; simp at this; omega
   refine g_run rfl rfl hg22 ?_
   refine r_move rfl rfl ?_
   refine g_run rfl rfl hg22 ?_
   first | (refine r_lenS rfl rfl TF.sl22 rfl ?_) | (refine r_lenNil rfl TF.sl22 rfl ?_) | (refine r_lenV rfl TF.sl22 rfl ?_)
   refine g_run rfl rfl hg22 ?_
   refine r_cmp rfl rfl rfl rfl ?_
   refine r_pickF rfl hg22 rfl rfl ?_
   refine r_move rfl rfl ?_
   refine g_cases (t' := 27) rfl (fun hg27 => ?_) (fun hg27 => ?_)
   ·
    refine g_skip rfl rfl hg27 rfl ?_
    refine g_skip rfl rfl hg27 rfl ?_
    refine g_skip rfl rfl hg27 rfl ?_
    refine r_pickT rfl hg27 rfl rfl ?_
    refine awl_nil ?_
    refine x_then ?_
    refine awp_condT rfl ?_
    refine awp_seq ?_
    refine awp_region ?_
    refine r_assign rfl rfl ?_
    refine awl_nil ?_
    refine x_then ?_
    refine awp_ret ?_
    refine x_thenR ?_
    exact ⟨(.inl rfl), _, [], (.one (by first | exact .mk rfl rfl | exact .nil rfl)), ⟨rfl, by first | rfl | (rw [hch, btw_cut, decide_eq_true rfl]; rfl)⟩, (List.nil_sublist _), (by simp)⟩
   ·
    have hl_m : m.length ≤ 30 := by have := of_decide_eq_false hg27; simp at this; omega
    refine g_run rfl rfl hg27 ?_
    refine r_move rfl rfl ?_
    refine g_run rfl rfl hg27 ?_
    first | (refine r_lenS rfl rfl TF.sl22 rfl ?_) | (refine r_lenNil rfl TF.sl22 rfl ?_) | (refine r_lenV rfl TF.sl22 rfl ?_)
    refine g_run rfl rfl hg27 ?_
    refine r_cmp rfl rfl rfl rfl ?_
    refine r_pickF rfl hg27 rfl rfl ?_
    refine awl_nil ?_
    refine x_then ?_
    refine awp_cond rfl (fun hc1 => ?_) (fun hc1 => ?_)
    ·
     refine awp_seq ?_
     refine awp_region ?_
     refine r_assign rfl rfl ?_
     refine awl_nil ?_
     refine x_then ?_
     refine awp_ret ?_
     refine x_thenR ?_
     exact ⟨(.inl rfl), _, [], (.one (by first | exact .mk rfl rfl | exact .nil rfl)), ⟨rfl, by first | rfl | (rw [hch, btw_cut, decide_eq_true rfl]; rfl)⟩, (List.nil_sublist _), (by simp)⟩
    ·
     have hl_u : u.length ≤ 30 := by have := of_decide_eq_false hc1; simp at this; omega
     refine awp_skip ?_
     refine x_then ?_
     refine awp_seq ?_
     refine awp_region ?_
     refine r_call0 hq rfl rfl .nil (New_ok) rfl TF.en13 rfl (fun r hr => ?_)
     obtain rfl := hr
     refine r_move rfl rfl ?_
     refine r_call0 hq rfl rfl (.cons (.ev rfl rfl) (.cons (.nil rfl) (.cons (.ev rfl rfl) .nil))) (play_ok (some (none, 0)) [] good_new l (by simp; omega)) rfl TF.en12 rfl (fun r hr => ?_)
     obtain ⟨tt, hgtt, rfl⟩ := hr
     have hp_X := refPlay_len [] l
     try simp only [List.length_nil, Nat.zero_add] at hp_X
     generalize refPlay [] l = X at hgtt hp_X ⊢
     refine r_move rfl rfl ?_
     refine r_extract rfl rfl rfl ?_
     refine r_extract rfl rfl rfl ?_
     refine r_assign rfl rfl ?_
     refine r_assign rfl rfl ?_
     refine awl_nil ?_
     refine x_then ?_
     refine awp_seq ?_
     refine awp_region ?_
     refine r_move rfl rfl ?_
     refine r_move rfl rfl ?_
     refine r_move rfl rfl ?_
     refine r_call0 hq rfl rfl (.cons (.ev rfl rfl) (.cons (.ev rfl rfl) (.cons (.ev rfl rfl) .nil))) (play_ok tt X hgtt m (by omega)) rfl TF.en12 rfl (fun r hr => ?_)
     obtain ⟨ta, hgta, rfl⟩ := hr
     have hp_Y := refPlay_len X m
     try simp only [List.length_nil, Nat.zero_add] at hp_Y
     generalize refPlay X m = Y at hgta hp_Y ⊢
     refine r_move rfl rfl ?_
     refine r_extract rfl rfl rfl ?_
     refine r_extract rfl rfl rfl ?_
     refine r_assign rfl rfl ?_
     refine r_assign rfl rfl ?_
     refine awl_nil ?_
     refine x_then ?_
     refine awp_seq ?_
     refine awp_region ?_
     refine r_move rfl rfl ?_
     refine r_move rfl rfl ?_
     refine r_move rfl rfl ?_
     refine r_call0 hq rfl rfl (.cons (.ev rfl rfl) (.cons (.ev rfl rfl) (.cons (.ev rfl rfl) .nil))) (play_ok tt X hgtt u (by omega)) rfl TF.en12 rfl (fun r hr => ?_)
     obtain ⟨tb, hgtb, rfl⟩ := hr
     have hp_Z := refPlay_len X u
     try simp only [List.length_nil, Nat.zero_add] at hp_Z
     generalize refPlay X u = Z at hgtb hp_Z ⊢
     refine r_move rfl rfl ?_
     refine r_extract rfl rfl rfl ?_
     refine r_extract rfl rfl rfl ?_
     refine r_assign rfl rfl ?_
     refine r_assign rfl rfl ?_
     refine awl_nil ?_
     refine x_then ?_
     refine awp_seq ?_
     refine awp_region ?_
     refine r_move rfl rfl ?_
     refine r_move rfl rfl ?_
     refine r_call0 hq rfl rfl (.cons (.ev rfl rfl) (.cons (.ev rfl rfl) .nil)) (refBtw_ok Y Z (by omega) (by omega)) rfl TF.en14 rfl (fun r hr => ?_)
     obtain rfl := hr
     refine r_assign rfl rfl ?_
     refine awl_nil ?_
     refine x_then ?_
     refine awp_seq ?_
     refine awp_seq ?_
     refine awp_region ?_
     refine r_move rfl rfl ?_
     refine r_move rfl rfl ?_
     refine awl_fact (φ := Coh ta tb) (fun C T a w hs => coh_of hgta.wf hgtb.wf (hs.slots 11 (.a (encT ta)) rfl) (hs.slots 13 (.a (encT tb)) rfl)) (fun hcoh => ?_)
     have hch := chg_ref hcoh hgta hgtb
     have hbl := refBtw_len Y Z
     refine r_call0 hq rfl rfl (.cons (.ev rfl rfl) (.cons (.ev rfl rfl) (.cons (.ev rfl rfl) .nil))) (told_ok ta tb hgta.wf hgtb.wf (good_ids hgta (x := Y) (by omega)) (good_ids hgtb (x := Z) (by omega)) (two_keys hgta hgtb) 1000 (by omega) (by omega)) rfl TF.en16 rfl (fun r hr => ?_)
     obtain rfl := hr
     rw [hch, show ((1000 : Int).toNat) = 1000 from rfl, List.take_of_length_le (by omega)]
     refine r_move rfl rfl ?_
     refine r_call0 hq rfl rfl (.cons (.ev rfl rfl) (.cons (.ev rfl rfl) .nil)) (same_ok (refBtw Y Z) (refBtw Y Z) (by omega)) rfl TF.en15 rfl (fun r hr => ?_)
     obtain rfl := hr
     rw [decide_eq_true rfl]
     refine r_not rfl rfl ?_
     refine awl_nil ?_
     refine x_then ?_
     refine awp_cond rfl (fun hc2 => ?_) (fun hc2 => ?_)
     ·
      exfalso; cases hc2
     ·
      refine awp_skip ?_
      refine x_then ?_
      refine awp_seq ?_
      refine awp_region ?_
      refine r_move rfl rfl ?_
      refine r_conv (w : Int) rfl TF.un5 TF.un3 (wrap_id (by omega)) rfl ?_
      refine r_div ((w % 9 : Nat) : Int) rfl rfl (rem_some (by decide)) (by rw [← show ((w : Int) % 9) = ((w % 9 : Nat) : Int) by omega, Int.tmod_eq_emod_of_nonneg (by omega)]) rfl ?_
      refine r_ari ((1 : Int) + ((w % 9 : Nat) : Int)) rfl rfl rfl (wrap_id (by omega)) rfl ?_
      refine r_assign rfl rfl ?_
      refine awl_nil ?_
      refine x_then ?_
      refine awp_seq ?_
      refine awp_drawS [65, 66, 67, 68, 69, 70, 71, 72, 73, 74] [_, _, _, _, _, _, _, _, _, _] [] [] TF.mixed rfl rfl rfl ⟨⟨⟨⟨⟨⟨⟨⟨⟨⟨trivial
       , ⟨_, rfl, fun sl hd hr ho => by
         refine r_move (hr 11 _ rfl rfl rfl) rfl ?_
         exact awl_nil ⟨rfl, post_put⟩⟩⟩
       , ⟨_, rfl, fun sl hd hr ho => by
         refine r_move (hr 13 _ rfl rfl rfl) rfl ?_
         exact awl_nil ⟨rfl, post_put⟩⟩⟩
       , ⟨_, rfl, fun sl hd hr ho => by
         refine r_move (hr 16 _ rfl rfl rfl) rfl ?_
         exact awl_nil ⟨rfl, post_put⟩⟩⟩
       , ⟨_, rfl, fun sl hd hr ho => by
         refine r_call0 hq rfl rfl (.cons (.ev (hd 0 _ rfl rfl rfl) rfl) (.cons (.ev (hd 1 _ rfl rfl rfl) rfl) (.cons (.ev (hd 2 _ rfl rfl rfl) rfl) .nil))) (told_ok ta tb hgta.wf hgtb.wf (good_ids hgta (x := Y) (by omega)) (good_ids hgtb (x := Z) (by omega)) (two_keys hgta hgtb) ((1 : Int) + ((w % 9 : Nat) : Int)) (by omega) (by omega)) rfl TF.en16 rfl (fun r hr => ?_)
         obtain rfl := hr
         exact awl_nil ⟨rfl, post_put⟩⟩⟩
       , ⟨_, rfl, fun sl hd hr ho => by
         refine r_move (hr 15 _ rfl rfl rfl) rfl ?_
         exact awl_nil ⟨rfl, post_put⟩⟩⟩
       , ⟨_, rfl, fun sl hd hr ho => by
         refine r_move (hr 16 _ rfl rfl rfl) rfl ?_
         exact awl_nil ⟨rfl, post_put⟩⟩⟩
       , ⟨_, rfl, fun sl hd hr ho => by
         refine r_move (hr 15 _ rfl rfl rfl) rfl ?_
         exact awl_nil ⟨rfl, post_put⟩⟩⟩
       , ⟨_, rfl, fun sl hd hr ho => by
         first | (refine r_lenS (hd 6 _ rfl rfl rfl) rfl TF.sl29 rfl ?_) | (refine r_lenNil (hd 6 _ rfl rfl rfl) TF.sl29 rfl ?_) | (refine r_lenV (hd 6 _ rfl rfl rfl) TF.sl29 rfl ?_)
         exact awl_nil ⟨rfl, post_put⟩⟩⟩
       , ⟨_, rfl, fun sl hd hr ho => by
         refine r_min (hd 5 _ rfl rfl rfl) (hd 7 _ rfl rfl rfl) rfl ?_
         exact awl_nil ⟨rfl, post_put⟩⟩⟩
       , ⟨_, rfl, fun sl hd hr ho => by
         refine r_sliceH (hd 4 _ rfl rfl rfl) rfl (hd 8 _ rfl rfl rfl) TF.sl29 TF.sz55 (by omega) (by omega) rfl ?_
         exact awl_nil ⟨rfl, post_put⟩⟩⟩
       (by rfl) ?_
      refine r_call0 hq rfl rfl (.cons (.ev rfl rfl) (.cons (.ev rfl rfl) .nil)) (same_ok' ((chg ta tb).take ((1 : Int) + ((w % 9 : Nat) : Int)).toNat) ((refBtw Y Z).take (min ((1 : Int) + ((w % 9 : Nat) : Int)) (((refBtw Y Z).map chC).length : Nat)).toNat) (by rw [List.length_take, hch]; omega) rfl (by rw [List.map_take])) rfl TF.en15 rfl (fun r hr => ?_)
      obtain rfl := hr
      refine r_assign rfl rfl ?_
      refine awl_nil ?_
      refine x_then ?_
      refine awp_ret ?_
      exact ⟨(.inl rfl), _, [], (.one (by first | exact .mk rfl rfl | exact .nil rfl)), ⟨rfl, by first | rfl | (rw [hch, btw_cut, decide_eq_true rfl]; rfl)⟩, (List.nil_sublist _), (by simp)⟩
theorem between_law (l m u : List Ac) (x : Int) (h : (Lit.int .u8 x).wf = true) : AC Try.prog 3 [.sl 6 (l.map Ac.cs), .sl 6 (m.map Ac.cs), .sl 6 (u.map Ac.cs), .v (.int .u8 x)] [] (fun r n => n = [] ∧ r = boolA true) := by
  obtain ⟨n, rfl, hn⟩ : ∃ n : Nat, x = (n : Int) ∧ n < 256 := by
    simp only [Lit.wf, Bool.and_eq_true, decide_eq_true_eq] at h
    have h1 : 0 ≤ x := h.1
    have h2 : x ≤ 255 := h.2
    exact ⟨x.toNat, by omega, by omega⟩
  exact between_walk l m u n hn
end Go.Proofs.Ytljgdbgcleibjaa.A

import Derived.WalkKit
import Derived.Below
import Derived.Laws.Rows
import Derived.Laws.CopyRow
import Derived.Laws.AppendOwn
import Derived.RangeFuncLeaves
import Derived.RangeFuncSeq
import Derived.RangeFuncCalls
import Derived.MapKept
import Derived.Orders
import Derived.Laws.IdiomStrings
import Derived.Laws.BytesArg
import Derived.Shelf.SlIter.Nil
import Derived.RangeFuncBound
import Derived.Maps.RangeRun
import Derived.DeepKeys3
import Derived.Laws.StructEq
import Derived.Shelf.SlSortCmp.NoneTotal
import Derived.ChangeKeysEq
import Derived.Laws.MakeOwn
import Derived.ChangeArms
import Derived.ChangeOld
import Derived.Laws.DeepStrings4
import Derived.OpenShut
import Derived.Test.YtljgdbgcleibjaaProg
import Derived.KernelRfl
import Derived.OrdersIn
import Derived.Lib.AppendZeros
import Derived.Lib.AppendZerosOnto
import Derived.Lib.Overlaps
import Derived.Deep.AppendSrc
import Derived.Shelf.SlGeneric
import Derived.Ground.SlsfProg
import Derived.Test.YtljgdbgcleibjaaM7
namespace Go.Proofs.Ytljgdbgcleibjaa.A
open Go Go.RowKit
set_option linter.unusedVariables false
set_option linter.unusedSimpArgs false
theorem miss_tri {A B C : List Nat} (hA : A.Nodup) (hB : B.Nodup) : missL A C ≤ missL A B + missL B C := by
  unfold missL
  have h1 : (A.filter (fun p => decide (p ∉ C))).length ≤ (A.filter (fun p => decide (p ∉ B)) ++ B.filter (fun p => decide (p ∉ C))).length := by
    obtain ⟨r, hr⟩ := nodup_sub (hA.filter (fun p => decide (p ∉ C))) (l := A.filter (fun p => decide (p ∉ B)) ++ B.filter (fun p => decide (p ∉ C))) (fun i hi => by
      simp only [List.mem_filter, List.mem_append, decide_eq_true_eq] at hi ⊢
      by_cases h : i ∈ B
      · exact .inr ⟨h, hi.2⟩
      · exact .inl ⟨hi.1, h⟩)
    have := hr.length_eq
    rw [List.length_append] at this; omega
  rw [List.length_append] at h1; exact h1
theorem look_tri (a b c : TreeV) : lookN a c ≤ lookN a b + lookN b c := by
  have h1 := miss_tri (A := idl a) (B := idl b) (C := idl c) (idl_nodup a) (idl_nodup b)
  have h2 := miss_tri (A := idl c) (B := idl b) (C := idl a) (idl_nodup c) (idl_nodup b)
  unfold lookN; omega
end Go.Proofs.Ytljgdbgcleibjaa.A
namespace Go.Proofs.Ytljgdbgcleibjaa.A
open Go Go.RowKit
set_option linter.unusedVariables false
set_option linter.unusedSimpArgs false
set_option maxRecDepth 100000
set_option maxHeartbeats 1000000 in
theorem far_walk (l m u : List Ac) : AC Try.prog 8 [.sl 6 (l.map Ac.cs), .sl 6 (m.map Ac.cs), .sl 6 (u.map Ac.cs)] [] (fun r n => n = [] ∧ r = boolA true) := by
 refine ac_of_awp (rs := [6]) (nt := 104) Try.func8 rfl rfl rfl rfl (fun w0 C0 hq => ?_)
 refine awp_seq ?_
 refine awp_region ?_
 refine r_assign rfl rfl ?_
 refine awl_nil ?_
 refine x_then ?_
 refine awp_seq ?_
 refine awp_seq ?_
 refine awp_region ?_
 refine r_call0 hq rfl rfl .nil (awake_ok) rfl TF.en11 rfl (fun r hr => ?_)
 obtain rfl := hr
 refine r_not rfl rfl ?_
 refine awl_nil ?_
 refine x_then ?_
 refine awp_cond rfl (fun hc0 => ?_) (fun hc0 => ?_)
 ·
  exfalso; cases hc0
 ·
  refine awp_skip ?_
  refine x_then ?_
  refine awp_seq ?_
  refine awp_seq ?_
  refine awp_region ?_
  refine r_move rfl rfl ?_
  first | (refine r_lenS rfl rfl TF.sl22 rfl ?_) | (refine r_lenNil rfl TF.sl22 rfl ?_) | (refine r_lenV rfl TF.sl22 rfl ?_)
  refine r_cmp rfl rfl rfl rfl ?_
  refine r_move rfl rfl ?_
  refine g_cases (t' := 21) rfl (fun hg21 => ?_) (fun hg21 => ?_)
  ·
   refine g_skip rfl rfl hg21 rfl ?_
   refine g_skip rfl rfl hg21 rfl ?_
   refine g_skip rfl rfl hg21 rfl ?_
   refine r_pickT rfl hg21 rfl rfl ?_
   refine r_move rfl rfl ?_
   refine g_skip rfl rfl rfl rfl ?_
   refine g_skip rfl rfl rfl rfl ?_
   refine g_skip rfl rfl rfl rfl ?_
   refine r_pickT rfl rfl rfl rfl ?_
   refine awl_nil ?_
   refine x_then ?_
   refine awp_condT rfl ?_
   refine awp_seq ?_
   refine awp_region ?_
   refine r_assign rfl rfl ?_
   refine awl_nil ?_
   refine x_then ?_
   refine awp_ret ?_
   refine x_thenR ?_
   exact ⟨(.inl rfl), _, [], (.one (by first | exact .mk rfl rfl | exact .nil rfl)), ⟨rfl, rfl⟩, (List.nil_sublist _), (by simp)⟩
  ·
   have hl_l : l.length ≤ 50 := by have := of_decide_eq_false hg21; simp at this; omega
   refine g_run rfl rfl hg21 ?_
   refine r_move rfl rfl ?_
   refine g_run rfl rfl hg21 ?_
   first | (refine r_lenS rfl rfl TF.sl22 rfl ?_) | (refine r_lenNil rfl TF.sl22 rfl ?_) | (refine r_lenV rfl TF.sl22 rfl ?_)
   refine g_run rfl rfl hg21 ?_
   refine r_cmp rfl rfl rfl rfl ?_
   refine r_pickF rfl hg21 rfl rfl ?_
   refine r_move rfl rfl ?_
   refine g_cases (t' := 26) rfl (fun hg26 => ?_) (fun hg26 => ?_)
   ·
    refine g_skip rfl rfl hg26 rfl ?_
    refine g_skip rfl rfl hg26 rfl ?_
    refine g_skip rfl rfl hg26 rfl ?_
    refine r_pickT rfl hg26 rfl rfl ?_
    refine awl_nil ?_
    refine x_then ?_
    refine awp_condT rfl ?_
    refine awp_seq ?_
    refine awp_region ?_
    refine r_assign rfl rfl ?_
    refine awl_nil ?_
    refine x_then ?_
    refine awp_ret ?_
    refine x_thenR ?_
    exact ⟨(.inl rfl), _, [], (.one (by first | exact .mk rfl rfl | exact .nil rfl)), ⟨rfl, rfl⟩, (List.nil_sublist _), (by simp)⟩
   ·
    have hl_m : m.length ≤ 30 := by have := of_decide_eq_false hg26; simp at this; omega
    refine g_run rfl rfl hg26 ?_
    refine r_move rfl rfl ?_
    refine g_run rfl rfl hg26 ?_
    first | (refine r_lenS rfl rfl TF.sl22 rfl ?_) | (refine r_lenNil rfl TF.sl22 rfl ?_) | (refine r_lenV rfl TF.sl22 rfl ?_)
    refine g_run rfl rfl hg26 ?_
    refine r_cmp rfl rfl rfl rfl ?_
    refine r_pickF rfl hg26 rfl rfl ?_
    refine awl_nil ?_
    refine x_then ?_
    refine awp_cond rfl (fun hc1 => ?_) (fun hc1 => ?_)
    ·
     refine awp_seq ?_
     refine awp_region ?_
     refine r_assign rfl rfl ?_
     refine awl_nil ?_
     refine x_then ?_
     refine awp_ret ?_
     refine x_thenR ?_
     exact ⟨(.inl rfl), _, [], (.one (by first | exact .mk rfl rfl | exact .nil rfl)), ⟨rfl, rfl⟩, (List.nil_sublist _), (by simp)⟩
    ·
     have hl_u : u.length ≤ 30 := by have := of_decide_eq_false hc1; simp at this; omega
     refine awp_skip ?_
     refine x_then ?_
     refine awp_seq ?_
     refine awp_region ?_
     refine r_call0 hq rfl rfl .nil (New_ok) rfl TF.en13 rfl (fun r hr => ?_)
     obtain rfl := hr
     refine r_move rfl rfl ?_
     refine r_call0 hq rfl rfl (.cons (.ev rfl rfl) (.cons (.nil rfl) (.cons (.ev rfl rfl) .nil))) (play_ok (some (none, 0)) [] good_new l (by simp; omega)) rfl TF.en12 rfl (fun r hr => ?_)
     obtain ⟨ta, hgta, rfl⟩ := hr
     have hp_X := refPlay_len [] l
     try simp only [List.length_nil, Nat.zero_add] at hp_X
     generalize refPlay [] l = X at hgta hp_X ⊢
     refine r_move rfl rfl ?_
     refine r_extract rfl rfl rfl ?_
     refine r_extract rfl rfl rfl ?_
     refine r_assign rfl rfl ?_
     refine r_assign rfl rfl ?_
     refine awl_nil ?_
     refine x_then ?_
     refine awp_seq ?_
     refine awp_region ?_
     refine r_move rfl rfl ?_
     refine r_move rfl rfl ?_
     refine r_move rfl rfl ?_
     refine r_call0 hq rfl rfl (.cons (.ev rfl rfl) (.cons (.ev rfl rfl) (.cons (.ev rfl rfl) .nil))) (play_ok ta X hgta m (by omega)) rfl TF.en12 rfl (fun r hr => ?_)
     obtain ⟨tb, hgtb, rfl⟩ := hr
     have hp_Y := refPlay_len X m
     try simp only [List.length_nil, Nat.zero_add] at hp_Y
     generalize refPlay X m = Y at hgtb hp_Y ⊢
     refine r_move rfl rfl ?_
     refine r_extract rfl rfl rfl ?_
     refine r_extract rfl rfl rfl ?_
     refine r_assign rfl rfl ?_
     refine r_assign rfl rfl ?_
     refine awl_nil ?_
     refine x_then ?_
     refine awp_seq ?_
     refine awp_region ?_
     refine r_move rfl rfl ?_
     refine r_move rfl rfl ?_
     refine r_move rfl rfl ?_
     refine r_call0 hq rfl rfl (.cons (.ev rfl rfl) (.cons (.ev rfl rfl) (.cons (.ev rfl rfl) .nil))) (play_ok tb Y hgtb u (by omega)) rfl TF.en12 rfl (fun r hr => ?_)
     obtain ⟨tc, hgtc, rfl⟩ := hr
     have hp_Z := refPlay_len Y u
     try simp only [List.length_nil, Nat.zero_add] at hp_Z
     generalize refPlay Y u = Z at hgtc hp_Z ⊢
     refine r_move rfl rfl ?_
     refine r_extract rfl rfl rfl ?_
     refine r_extract rfl rfl rfl ?_
     refine r_assign rfl rfl ?_
     refine r_assign rfl rfl ?_
     refine awl_nil ?_
     refine x_then ?_
     refine awp_seq ?_
     refine awp_region ?_
     have htri := look_tri ta tb tc
     have hl1 : lookN ta tb ≤ 1000000 := look_small (good_ids hgta (x := X) (by omega)) (good_ids hgtb (x := Y) (by omega))
     have hl2 : lookN tb tc ≤ 1000000 := look_small (good_ids hgtb (x := Y) (by omega)) (good_ids hgtc (x := Z) (by omega))
     refine r_move rfl rfl ?_
     refine r_move rfl rfl ?_
     refine r_call0 hq rfl rfl (.cons (.ev rfl rfl) (.cons (.ev rfl rfl) .nil)) (Looked_ok ta tb hgta.wf hgtb.wf (good_ids hgta (x := X) (by omega)) (good_ids hgtb (x := Y) (by omega))) rfl TF.en19 rfl (fun r hr => ?_)
     obtain rfl := hr
     refine r_move rfl rfl ?_
     refine r_move rfl rfl ?_
     refine r_call0 hq rfl rfl (.cons (.ev rfl rfl) (.cons (.ev rfl rfl) .nil)) (Looked_ok tb tc hgtb.wf hgtc.wf (good_ids hgtb (x := Y) (by omega)) (good_ids hgtc (x := Z) (by omega))) rfl TF.en19 rfl (fun r hr => ?_)
     obtain rfl := hr
     refine r_move rfl rfl ?_
     refine r_move rfl rfl ?_
     refine r_call0 hq rfl rfl (.cons (.ev rfl rfl) (.cons (.ev rfl rfl) .nil)) (Looked_ok ta tc hgta.wf hgtc.wf (good_ids hgta (x := X) (by omega)) (good_ids hgtc (x := Z) (by omega))) rfl TF.en19 rfl (fun r hr => ?_)
     obtain rfl := hr
     refine r_assign rfl rfl ?_
     refine r_assign rfl rfl ?_
     refine r_assign rfl rfl ?_
     refine awl_nil ?_
     refine x_then ?_
     refine awp_seq ?_
     refine awp_seq ?_
     refine awp_region ?_
     refine r_move rfl rfl ?_
     refine r_cmp rfl rfl rfl rfl ?_
     refine r_move rfl rfl ?_
     refine g_cases (t' := 62) rfl (fun hg62 => ?_) (fun hg62 => ?_)
     ·
      exfalso; simp at hg62 <;> omega
     ·
      refine g_run rfl rfl hg62 ?_
      refine r_move rfl rfl ?_
      refine g_run rfl rfl hg62 ?_
      refine r_cmp rfl rfl rfl rfl ?_
      refine r_pickF rfl hg62 rfl rfl ?_
      refine r_move rfl rfl ?_
      refine g_cases (t' := 66) rfl (fun hg66 => ?_) (fun hg66 => ?_)
      ·
       exfalso; simp at hg66 <;> omega
      ·
       refine g_run rfl rfl hg66 ?_
       refine r_move rfl rfl ?_
       refine g_run rfl rfl hg66 ?_
       refine r_cmp rfl rfl rfl rfl ?_
       refine r_pickF rfl hg66 rfl rfl ?_
       refine r_move rfl rfl ?_
       refine g_cases (t' := 70) rfl (fun hg70 => ?_) (fun hg70 => ?_)
       ·
        exfalso; simp at hg70 <;> omega
       ·
        refine g_run rfl rfl hg70 ?_
        refine r_move rfl rfl ?_
        refine g_run rfl rfl hg70 ?_
        refine r_move rfl rfl ?_
        refine g_run rfl rfl hg70 ?_
        refine r_move rfl rfl ?_
        refine g_run rfl rfl hg70 ?_
        refine r_call0 hq rfl rfl (.cons (.ev rfl rfl) (.cons (.ev rfl rfl) .nil)) (Looked_ok tb ta hgtb.wf hgta.wf (good_ids hgtb (x := Y) (by omega)) (good_ids hgta (x := X) (by omega))) rfl TF.en19 rfl (fun r hr => ?_)
        obtain rfl := hr
        rw [look_comm tb ta]
        refine g_run rfl rfl hg70 ?_
        refine r_cmp rfl rfl rfl rfl ?_
        refine r_pickF rfl hg70 rfl rfl ?_
        refine r_move rfl rfl ?_
        refine g_cases (t' := 77) rfl (fun hg77 => ?_) (fun hg77 => ?_)
        ·
         exfalso; simp at hg77 <;> omega
        ·
         refine g_run rfl rfl hg77 ?_
         refine r_move rfl rfl ?_
         refine g_run rfl rfl hg77 ?_
         refine r_move rfl rfl ?_
         refine g_run rfl rfl hg77 ?_
         refine r_move rfl rfl ?_
         refine g_run rfl rfl hg77 ?_
         refine r_ari _ rfl rfl rfl (wrap_id (by first | omega | (simp; omega))) rfl ?_
         refine g_run rfl rfl hg77 ?_
         refine r_cmp rfl rfl rfl rfl ?_
         refine r_pickF rfl hg77 rfl rfl ?_
         refine awl_nil ?_
         refine x_then ?_
         refine awp_cond rfl (fun hc2 => ?_) (fun hc2 => ?_)
         ·
          exfalso; simp at hc2 <;> omega
         ·
          refine awp_skip ?_
          refine x_then ?_
          refine awp_seq ?_
          refine awp_region ?_
          refine r_move rfl rfl ?_
          refine r_cmp rfl rfl rfl rfl ?_
          refine r_move rfl rfl ?_
          refine g_cases (t' := 86) rfl (fun hg86 => ?_) (fun hg86 => ?_)
          ·
           refine g_skip rfl rfl hg86 rfl ?_
           refine g_skip rfl rfl hg86 rfl ?_
           refine g_skip rfl rfl hg86 rfl ?_
           refine g_skip rfl rfl hg86 rfl ?_
           refine g_skip rfl rfl hg86 rfl ?_
           refine r_pickT rfl hg86 rfl rfl ?_
           refine r_move rfl rfl ?_
           refine g_run rfl rfl rfl ?_
           refine r_move rfl rfl ?_
           refine g_run rfl rfl rfl ?_
           refine r_cmp rfl rfl rfl rfl ?_
           refine g_run rfl rfl rfl ?_
           refine r_move rfl rfl ?_
           refine g_cases (t' := 96) rfl (fun hg96 => ?_) (fun hg96 => ?_)
           ·
            refine g_skip rfl rfl hg96 rfl ?_
            refine g_skip rfl rfl hg96 rfl ?_
            refine g_skip rfl rfl hg96 rfl ?_
            refine g_skip rfl rfl hg96 rfl ?_
            refine g_skip rfl rfl hg96 rfl ?_
            refine g_run rfl rfl rfl ?_
            refine r_pickT rfl hg96 rfl rfl ?_
            refine r_pickT rfl rfl rfl rfl ?_
            refine r_assign rfl rfl ?_
            refine awl_nil ?_
            refine x_then ?_
            refine awp_ret ?_
            exact ⟨(.inl rfl), _, [], (.one (by first | exact .mk rfl rfl | exact .nil rfl)), ⟨rfl, rfl⟩, (List.nil_sublist _), (by simp)⟩
           ·
            refine g_run rfl rfl hg96 ?_
            refine r_move rfl rfl ?_
            refine g_run rfl rfl hg96 ?_
            refine r_move rfl rfl ?_
            refine g_run rfl rfl hg96 ?_
            refine r_call0 hq rfl rfl (.cons (.ev rfl rfl) (.cons (.ev rfl rfl) (.cons (.ev rfl rfl) .nil))) (told_ok ta tc hgta.wf hgtc.wf (good_ids hgta (x := X) (by omega)) (good_ids hgtc (x := Z) (by omega)) (two_keys hgta hgtc) 1 (by omega) (by omega)) rfl TF.en16 rfl (fun r hr => ?_)
            obtain rfl := hr
            rw [chg_shared (by have := hg96; simp at this; omega)]
            refine g_run rfl rfl hg96 ?_
            first | (refine r_lenS rfl rfl TF.sl29 rfl ?_) | (refine r_lenNil rfl TF.sl29 rfl ?_) | (refine r_lenV rfl TF.sl29 rfl ?_)
            refine g_run rfl rfl hg96 ?_
            refine r_cmp rfl rfl rfl rfl ?_
            refine g_run rfl rfl rfl ?_
            refine r_pickF rfl hg96 rfl rfl ?_
            refine r_pickT rfl rfl rfl rfl ?_
            refine r_assign rfl rfl ?_
            refine awl_nil ?_
            refine x_then ?_
            refine awp_ret ?_
            exact ⟨(.inl rfl), _, [], (.one (by first | exact .mk rfl rfl | exact .nil rfl)), ⟨rfl, rfl⟩, (List.nil_sublist _), (by simp)⟩
          ·
           refine g_run rfl rfl hg86 ?_
           refine r_move rfl rfl ?_
           refine g_run rfl rfl hg86 ?_
           refine r_move rfl rfl ?_
           refine g_run rfl rfl hg86 ?_
           refine r_call0 hq rfl rfl (.cons (.ev rfl rfl) (.cons (.ev rfl rfl) (.cons (.ev rfl rfl) .nil))) (told_ok ta tb hgta.wf hgtb.wf (good_ids hgta (x := X) (by omega)) (good_ids hgtb (x := Y) (by omega)) (two_keys hgta hgtb) 1 (by omega) (by omega)) rfl TF.en16 rfl (fun r hr => ?_)
           obtain rfl := hr
           rw [chg_shared (by have := hg86; simp at this; omega)]
           refine g_run rfl rfl hg86 ?_
           first | (refine r_lenS rfl rfl TF.sl29 rfl ?_) | (refine r_lenNil rfl TF.sl29 rfl ?_) | (refine r_lenV rfl TF.sl29 rfl ?_)
           refine g_run rfl rfl hg86 ?_
           refine r_cmp rfl rfl rfl rfl ?_
           refine r_pickF rfl hg86 rfl rfl ?_
           refine r_move rfl rfl ?_
           refine g_cases (t' := 93) rfl (fun hg93 => ?_) (fun hg93 => ?_)
           ·
            refine g_run rfl rfl hg93 ?_
            refine r_move rfl rfl ?_
            refine g_run rfl rfl hg93 ?_
            refine r_cmp rfl rfl rfl rfl ?_
            refine g_run rfl rfl hg93 ?_
            refine r_move rfl rfl ?_
            refine g_cases (t' := 96) rfl (fun hg96 => ?_) (fun hg96 => ?_)
            ·
             refine g_skip rfl rfl hg96 rfl ?_
             refine g_skip rfl rfl hg96 rfl ?_
             refine g_skip rfl rfl hg96 rfl ?_
             refine g_skip rfl rfl hg96 rfl ?_
             refine g_skip rfl rfl hg96 rfl ?_
             refine g_run rfl rfl hg93 ?_
             refine r_pickT rfl hg96 rfl rfl ?_
             refine r_pickT rfl hg93 rfl rfl ?_
             refine r_assign rfl rfl ?_
             refine awl_nil ?_
             refine x_then ?_
             refine awp_ret ?_
             exact ⟨(.inl rfl), _, [], (.one (by first | exact .mk rfl rfl | exact .nil rfl)), ⟨rfl, rfl⟩, (List.nil_sublist _), (by simp)⟩
            ·
             refine g_run rfl rfl hg96 ?_
             refine r_move rfl rfl ?_
             refine g_run rfl rfl hg96 ?_
             refine r_move rfl rfl ?_
             refine g_run rfl rfl hg96 ?_
             refine r_call0 hq rfl rfl (.cons (.ev rfl rfl) (.cons (.ev rfl rfl) (.cons (.ev rfl rfl) .nil))) (told_ok ta tc hgta.wf hgtc.wf (good_ids hgta (x := X) (by omega)) (good_ids hgtc (x := Z) (by omega)) (two_keys hgta hgtc) 1 (by omega) (by omega)) rfl TF.en16 rfl (fun r hr => ?_)
             obtain rfl := hr
             rw [chg_shared (by have := hg96; simp at this; omega)]
             refine g_run rfl rfl hg96 ?_
             first | (refine r_lenS rfl rfl TF.sl29 rfl ?_) | (refine r_lenNil rfl TF.sl29 rfl ?_) | (refine r_lenV rfl TF.sl29 rfl ?_)
             refine g_run rfl rfl hg96 ?_
             refine r_cmp rfl rfl rfl rfl ?_
             refine g_run rfl rfl hg93 ?_
             refine r_pickF rfl hg96 rfl rfl ?_
             refine r_pickT rfl hg93 rfl rfl ?_
             refine r_assign rfl rfl ?_
             refine awl_nil ?_
             refine x_then ?_
             refine awp_ret ?_
             exact ⟨(.inl rfl), _, [], (.one (by first | exact .mk rfl rfl | exact .nil rfl)), ⟨rfl, rfl⟩, (List.nil_sublist _), (by simp)⟩
           ·
            exfalso; simp at hg93
end Go.Proofs.Ytljgdbgcleibjaa.A

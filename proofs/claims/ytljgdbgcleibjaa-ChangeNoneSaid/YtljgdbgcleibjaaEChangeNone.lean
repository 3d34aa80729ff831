import Derived.WalkKit
import Derived.Below
import Derived.Laws.Rows
import Derived.Laws.CopyRow
import Derived.Laws.AppendOwn
import Derived.RangeFuncLeaves
import Derived.RangeFuncSeq
import Derived.RangeFuncCalls
import Derived.MapKept
import Derived.Orders
import Derived.Laws.IdiomStrings
import Derived.Laws.BytesArg
import Derived.Shelf.SlIter.Nil
import Derived.RangeFuncBound
import Derived.Maps.RangeRun
import Derived.DeepKeys3
import Derived.Laws.StructEq
import Derived.Shelf.SlSortCmp.NoneTotal
import Derived.ChangeKeysEq
import Derived.Laws.MakeOwn
import Derived.ChangeArms
import Derived.ChangeOld
import Derived.Laws.DeepStrings4
import Derived.OpenShut
import Derived.Test.YtljgdbgcleibjaaProg
import Derived.KernelRfl
import Derived.OrdersIn
import Derived.Lib.AppendZeros
import Derived.Lib.AppendZerosOnto
import Derived.Lib.Overlaps
import Derived.Deep.AppendSrc
import Derived.Shelf.SlGeneric
import Derived.Ground.SlsfProg
import Derived.Test.YtljgdbgcleibjaaM7
namespace Go.Proofs.Ytljgdbgcleibjaa.A
open Go Go.RowKit
set_option linter.unusedVariables false
set_option linter.unusedSimpArgs false
theorem good_none : Good none [] := ⟨trivial, rfl, List.Pairwise.nil, rfl⟩
theorem coh_left {t : TreeV} (h : Coh t t) : Coh none t := fun s hs s' hs' e => by
  have l : ∀ {s}, s ∈ subT none ++ subT t → s ∈ subT t ++ subT t := fun hs => by
    rcases List.mem_append.1 hs with h | h
    · cases h
    · exact List.mem_append.2 (.inl h)
  exact h s (l hs) s' (l hs') e
theorem coh_right {t : TreeV} (h : Coh t t) : Coh t none := fun s hs s' hs' e => by
  have l : ∀ {s}, s ∈ subT t ++ subT none → s ∈ subT t ++ subT t := fun hs => by
    rcases List.mem_append.1 hs with h | h
    · exact List.mem_append.2 (.inl h)
    · cases h
  exact h s (l hs) s' (l hs') e
theorem srt_chg {X : List It} (h : Srt X) (c : Bool) : (X.map fun x => (x.1, c)).Pairwise ltC := List.pairwise_map.2 (List.Pairwise.imp (fun h => .inl h) h)
theorem btw_fresh {X : List It} (h : Srt X) : refBtw [] X = X.map fun x => (x.1, true) := by
  refine srtC_ext (btw_srt [] X [] X List.Pairwise.nil h) (srt_chg h true) (fun p => ?_)
  unfold refBtw
  rw [btw_mem, List.mem_map]
  refine ⟨?_, ?_⟩
  · rintro (⟨_, z, hz, _⟩ | ⟨h1, z, hz, hk, _⟩)
    · cases hz
    · exact ⟨z, hz, by rw [← h1, hk]⟩
  · rintro ⟨z, hz, rfl⟩; exact .inr ⟨rfl, z, hz, rfl, by simp⟩
theorem btw_gone {X : List It} (h : Srt X) : refBtw X [] = X.map fun x => (x.1, false) := by
  refine srtC_ext (btw_srt X [] X [] h List.Pairwise.nil) (srt_chg h false) (fun p => ?_)
  unfold refBtw
  rw [btw_mem, List.mem_map]
  refine ⟨?_, ?_⟩
  · rintro (⟨h1, z, hz, hk, _⟩ | ⟨_, z, hz, _⟩)
    · exact ⟨z, hz, by rw [← h1, hk]⟩
    · cases hz
  · rintro ⟨z, hz, rfl⟩; exact .inl ⟨rfl, z, hz, rfl, by simp⟩
end Go.Proofs.Ytljgdbgcleibjaa.A
namespace Go.Proofs.Ytljgdbgcleibjaa.A
open Go Go.RowKit
set_option linter.unusedVariables false
set_option linter.unusedSimpArgs false
set_option maxRecDepth 100000
theorem TF.f55_0 : fieldT Try.prog 55 0 = some (0, 47) := by kernel_rfl
theorem TF.f55_1 : fieldT Try.prog 55 1 = some (4, 4) := by kernel_rfl
set_option maxHeartbeats 1000000 in
theorem none_walk (l : List Ac) : AC Try.prog 7 [.sl 6 (l.map Ac.cs)] [] (fun r n => n = [] ∧ r = boolA true) := by
 refine ac_of_awp (rs := [2]) (nt := 101) Try.func7 rfl rfl rfl rfl (fun w0 C0 hq => ?_)
 refine awp_seq ?_
 refine awp_region ?_
 refine r_assign rfl rfl ?_
 refine awl_nil ?_
 refine x_then ?_
 refine awp_seq ?_
 refine awp_seq ?_
 refine awp_region ?_
 refine r_call0 hq rfl rfl .nil (awake_ok) rfl TF.en11 rfl (fun r hr => ?_)
 obtain rfl := hr
 refine r_not rfl rfl ?_
 refine awl_nil ?_
 refine x_then ?_
 refine awp_cond rfl (fun hc0 => ?_) (fun hc0 => ?_)
 ·
  exfalso; cases hc0
 ·
  refine awp_skip ?_
  refine x_then ?_
  refine awp_seq ?_
  refine awp_seq ?_
  refine awp_region ?_
  refine r_move rfl rfl ?_
  first | (refine r_lenS rfl rfl TF.sl22 rfl ?_) | (refine r_lenNil rfl TF.sl22 rfl ?_) | (refine r_lenV rfl TF.sl22 rfl ?_)
  refine r_cmp rfl rfl rfl rfl ?_
  refine awl_nil ?_
  refine x_then ?_
  refine awp_cond rfl (fun hc1 => ?_) (fun hc1 => ?_)
  ·
   refine awp_seq ?_
   refine awp_region ?_
   refine r_assign rfl rfl ?_
   refine awl_nil ?_
   refine x_then ?_
   refine awp_ret ?_
   refine x_thenR ?_
   exact ⟨(.inl rfl), _, [], (.one (by first | exact .mk rfl rfl | exact .nil rfl)), ⟨rfl, rfl⟩, (List.nil_sublist _), (by simp)⟩
  ·
   have hl_l : l.length ≤ 50 := by have := of_decide_eq_false hc1; simp at this; omega
   refine awp_skip ?_
   refine x_then ?_
   refine awp_seq ?_
   refine awp_region ?_
   refine r_call0 hq rfl rfl .nil (New_ok) rfl TF.en13 rfl (fun r hr => ?_)
   obtain rfl := hr
   refine r_move rfl rfl ?_
   refine r_call0 hq rfl rfl (.cons (.ev rfl rfl) (.cons (.nil rfl) (.cons (.ev rfl rfl) .nil))) (play_ok (some (none, 0)) [] good_new l (by simp; omega)) rfl TF.en12 rfl (fun r hr => ?_)
   obtain ⟨tt, hgtt, rfl⟩ := hr
   have hp_X := refPlay_len [] l
   try simp only [List.length_nil, Nat.zero_add] at hp_X
   generalize refPlay [] l = X at hgtt hp_X ⊢
   refine r_move rfl rfl ?_
   refine r_extract rfl rfl rfl ?_
   refine r_extract rfl rfl rfl ?_
   refine r_assign rfl rfl ?_
   refine r_assign rfl rfl ?_
   refine awl_nil ?_
   refine x_then ?_
   refine awp_seq ?_
   refine awp_seq ?_
   refine awp_region ?_
   refine awl_fact (φ := Coh tt tt) (fun C T a w hs => coh_of hgtt.wf hgtt.wf (hs.slots 3 (.a (encT tt)) rfl) (hs.slots 3 (.a (encT tt)) rfl)) (fun hcoh => ?_)
   have hs0 : chg tt tt = [] := chg_shared (look_self tt)
   have hf1 := chg_ref (coh_left hcoh) good_none hgtt
   have hf2 := chg_ref (coh_right hcoh) hgtt good_none
   rw [btw_fresh hgtt.st] at hf1
   rw [btw_gone hgtt.st] at hf2
   have hmk : ∀ c : Bool, (X.map fun x => (x.1, c)).take (1000 : Int).toNat = X.map fun x => (x.1, c) := fun c => List.take_of_length_le (by rw [List.length_map]; show _ ≤ 1000; omega)
   refine r_move rfl rfl ?_
   refine r_move rfl rfl ?_
   refine r_call0 hq rfl rfl (.cons (.ev rfl rfl) (.cons (.ev rfl rfl) (.cons (.ev rfl rfl) .nil))) (told_ok tt tt hgtt.wf hgtt.wf (good_ids hgtt (x := X) (by omega)) (good_ids hgtt (x := X) (by omega)) (two_keys hgtt hgtt) 5 (by omega) (by omega)) rfl TF.en16 rfl (fun r hr => ?_)
   obtain rfl := hr
   rw [hs0]
   first | (refine r_lenS rfl rfl TF.sl29 rfl ?_) | (refine r_lenNil rfl TF.sl29 rfl ?_) | (refine r_lenV rfl TF.sl29 rfl ?_)
   refine r_cmp rfl rfl rfl rfl ?_
   refine r_move rfl rfl ?_
   refine g_cases (t' := 24) rfl (fun hg24 => ?_) (fun hg24 => ?_)
   ·
    cases hg24
   ·
    refine g_run rfl rfl hg24 ?_
    refine r_move rfl rfl ?_
    refine g_run rfl rfl hg24 ?_
    refine r_move rfl rfl ?_
    refine g_run rfl rfl hg24 ?_
    refine r_call0 hq rfl rfl (.cons (.ev rfl rfl) (.cons (.ev rfl rfl) .nil)) (Looked_ok tt tt hgtt.wf hgtt.wf (good_ids hgtt (x := X) (by omega)) (good_ids hgtt (x := X) (by omega))) rfl TF.en19 rfl (fun r hr => ?_)
    obtain rfl := hr
    rw [look_self]
    refine g_run rfl rfl hg24 ?_
    refine r_cmp rfl rfl rfl rfl ?_
    refine r_pickF rfl hg24 rfl rfl ?_
    refine r_move rfl rfl ?_
    refine g_cases (t' := 30) rfl (fun hg30 => ?_) (fun hg30 => ?_)
    ·
     cases hg30
    ·
     refine g_run rfl rfl hg30 ?_
     refine r_call0 hq rfl rfl .nil (New_ok) rfl TF.en13 rfl (fun r hr => ?_)
     obtain rfl := hr
     refine g_run rfl rfl hg30 ?_
     refine r_call0 hq rfl rfl (.cons (.ev rfl rfl) (.cons (.ev rfl rfl) (.cons (.ev rfl rfl) .nil))) (told_ok none (some (none, 0)) trivial trivial (by decide) (by decide) (two_keys good_none good_new) 5 (by omega) (by omega)) rfl TF.en16 rfl (fun r hr => ?_)
     obtain rfl := hr
     rw [(show chg none (some (none, 0)) = [] from chg_shared (by decide))]
     refine g_run rfl rfl hg30 ?_
     first | (refine r_lenS rfl rfl TF.sl29 rfl ?_) | (refine r_lenNil rfl TF.sl29 rfl ?_) | (refine r_lenV rfl TF.sl29 rfl ?_)
     refine g_run rfl rfl hg30 ?_
     refine r_cmp rfl rfl rfl rfl ?_
     refine r_pickF rfl hg30 rfl rfl ?_
     refine r_move rfl rfl ?_
     refine g_cases (t' := 36) rfl (fun hg36 => ?_) (fun hg36 => ?_)
     ·
      cases hg36
     ·
      refine g_run rfl rfl hg36 ?_
      refine r_call0 hq rfl rfl (.cons (.ev rfl rfl) (.cons (.ev rfl rfl) .nil)) (Looked_ok none none trivial trivial (by decide) (by decide)) rfl TF.en19 rfl (fun r hr => ?_)
      obtain rfl := hr
      rw [look_self]
      refine g_run rfl rfl hg36 ?_
      refine r_cmp rfl rfl rfl rfl ?_
      refine r_pickF rfl hg36 rfl rfl ?_
      refine awl_nil ?_
      refine x_then ?_
      refine awp_cond rfl (fun hc2 => ?_) (fun hc2 => ?_)
      ·
       cases hc2
      ·
       refine awp_skip ?_
       refine x_then ?_
       refine awp_seq ?_
       refine awp_region ?_
       refine r_move rfl rfl ?_
       refine r_call0 hq rfl rfl (.cons (.ev rfl rfl) (.cons (.ev rfl rfl) (.cons (.ev rfl rfl) .nil))) (told_ok none tt trivial hgtt.wf (by decide) (good_ids hgtt (x := X) (by omega)) (two_keys good_none hgtt) 1000 (by omega) (by omega)) rfl TF.en16 rfl (fun r hr => ?_)
       obtain rfl := hr
       rw [hf1, hmk]
       refine r_move rfl rfl ?_
       refine r_call0 hq rfl rfl (.cons (.ev rfl rfl) (.cons (.ev rfl rfl) (.cons (.ev rfl rfl) .nil))) (told_ok tt none hgtt.wf trivial (good_ids hgtt (x := X) (by omega)) (by decide) (two_keys hgtt good_none) 1000 (by omega) (by omega)) rfl TF.en16 rfl (fun r hr => ?_)
       obtain rfl := hr
       rw [hf2, hmk]
       refine r_assign rfl rfl ?_
       refine r_assign rfl rfl ?_
       refine awl_nil ?_
       refine x_then ?_
       refine awp_seq ?_
       refine awp_seq ?_
       refine awp_region ?_
       refine r_move rfl rfl ?_
       first | (refine r_lenS rfl rfl TF.sl29 rfl ?_) | (refine r_lenNil rfl TF.sl29 rfl ?_) | (refine r_lenV rfl TF.sl29 rfl ?_)
       refine r_move rfl rfl ?_
       first | (refine r_lenS rfl rfl TF.sl25 rfl ?_) | (refine r_lenNil rfl TF.sl25 rfl ?_) | (refine r_lenV rfl TF.sl25 rfl ?_)
       refine r_cmp rfl rfl rfl rfl ?_
       refine r_move rfl rfl ?_
       refine g_cases (t' := 49) rfl (fun hg49 => ?_) (fun hg49 => ?_)
       ·
        exfalso; simp at hg49
       ·
        refine g_run rfl rfl hg49 ?_
        refine r_move rfl rfl ?_
        refine g_run rfl rfl hg49 ?_
        first | (refine r_lenS rfl rfl TF.sl29 rfl ?_) | (refine r_lenNil rfl TF.sl29 rfl ?_) | (refine r_lenV rfl TF.sl29 rfl ?_)
        refine g_run rfl rfl hg49 ?_
        refine r_move rfl rfl ?_
        refine g_run rfl rfl hg49 ?_
        first | (refine r_lenS rfl rfl TF.sl25 rfl ?_) | (refine r_lenNil rfl TF.sl25 rfl ?_) | (refine r_lenV rfl TF.sl25 rfl ?_)
        refine g_run rfl rfl hg49 ?_
        refine r_cmp rfl rfl rfl rfl ?_
        refine r_pickF rfl hg49 rfl rfl ?_
        refine awl_nil ?_
        refine x_then ?_
        refine awp_cond rfl (fun hc3 => ?_) (fun hc3 => ?_)
        ·
         exfalso; simp at hc3
        ·
         refine awp_skip ?_
         refine x_then ?_
         refine awp_seq ?_
         refine awp_seq ?_
         refine awp_region ?_
         refine r_move rfl rfl ?_
         first | (refine r_lenS rfl rfl TF.sl25 rfl ?_) | (refine r_lenNil rfl TF.sl25 rfl ?_) | (refine r_lenV rfl TF.sl25 rfl ?_)
         refine r_move rfl rfl ?_
         refine awl_nil ?_
         refine x_then ?_
         refine awp_block ?_
         refine awp_loop (fun nn0 S => ∃ i : Nat, S = ⟨101, [(4, .a (.sl 5 (X.map itC))), (5, .a (.sl 5 ((X.map fun x => (x.1, true)).map chC))), (6, .a (.sl 5 ((X.map fun x => (x.1, false)).map chC))), (57, .a (.v (.int .i64 (((X.map itC).length : Nat))))), (58, .a (.v (.int .i64 ((i : Int)))))], []⟩ ∧ nn0 = X.length - i ∧ (i ≤ X.length)) (X.length - (0)) ⟨101, [(4, .a (.sl 5 (X.map itC))), (5, .a (.sl 5 ((X.map fun x => (x.1, true)).map chC))), (6, .a (.sl 5 ((X.map fun x => (x.1, false)).map chC))), (57, .a (.v (.int .i64 (((X.map itC).length : Nat))))), (58, .a (.v (.int .i64 (((0) : Int)))))], []⟩ ⟨rfl, (Slots.cons rfl (by first | exact .refl _ | exact .nilOwn _ _ | exact .nilSl _ | exact .ownSl _ _ _  | exact SV.le.of_eq (by simp)) (Slots.cons rfl (by first | exact .refl _ | exact .nilOwn _ _ | exact .nilSl _ | exact .ownSl _ _ _  | exact SV.le.of_eq (by simp)) (Slots.cons rfl (by first | exact .refl _ | exact .nilOwn _ _ | exact .nilSl _ | exact .ownSl _ _ _  | exact SV.le.of_eq (by simp)) (Slots.cons rfl (by first | exact .refl _ | exact .nilOwn _ _ | exact .nilSl _ | exact .ownSl _ _ _  | exact SV.le.of_eq (by simp)) (Slots.cons rfl (by first | exact .refl _ | exact .nilOwn _ _ | exact .nilSl _ | exact .ownSl _ _ _  | exact SV.le.of_eq (by simp)) Slots.nil))))), (by first | exact List.Sublist.refl _ | exact .cons_cons _ (.cons _ (.refl _)) | exact List.nil_sublist _ | exact .cons _ (.refl _) | exact .cons _ (.cons _ (.refl _)) | exact .cons _ (.cons _ (.cons _ (.refl _))) | exact .cons _ (.cons _ (.cons _ (.cons _ (.refl _)))) | exact .cons_cons _ (List.nil_sublist _))⟩ ⟨0, rfl, rfl, Nat.zero_le _⟩ ?_
         rintro nn0 _ ⟨i, rfl, rfl, hi⟩
         refine awp_seq ?_
         refine awp_region ?_
         refine r_cmp rfl rfl rfl rfl ?_
         refine awl_nil ?_
         refine x_then ?_
         refine awp_seq ?_
         refine awp_cond rfl (fun hc4 => ?_) (fun hc4 => ?_)
         ·
          have hltx : i < X.length := by have := of_decide_eq_true hc4; simpa using this
          obtain ⟨x, hx⟩ := get_lt hltx
          refine awp_skip ?_
          refine x_then ?_
          refine awp_seq ?_
          refine awp_block ?_
          refine awp_seq ?_
          refine awp_region ?_
          refine r_move rfl rfl ?_
          refine r_assign rfl rfl ?_
          refine awl_nil ?_
          refine x_then ?_
          refine awp_seq ?_
          refine awp_drawS [61, 62, 63, 64, 65, 66, 67, 68, 69, 70, 71, 72, 73, 74, 75, 76, 77, 78, 79, 80, 81, 82, 83, 84, 85, 86, 87, 88, 89, 90, 91, 92, 93, 94, 95] [_, _, _, _, _, _, _, _, _, _, _, _, _, _, _, _, _, _, _, _, _, _, _, _, _, _, _, _, _, _, _, _, _, _, _] [] [] TF.mixed rfl rfl rfl ⟨⟨⟨⟨⟨⟨⟨⟨⟨⟨⟨⟨⟨⟨⟨⟨⟨⟨⟨⟨⟨⟨⟨⟨⟨⟨⟨⟨⟨⟨⟨⟨⟨⟨⟨trivial
           , ⟨_, rfl, fun sl hd hr ho => by
             refine r_move (hr 5 _ rfl rfl rfl) rfl ?_
             exact awl_nil ⟨rfl, post_put⟩⟩⟩
           , ⟨_, rfl, fun sl hd hr ho => by
             refine r_move (hr 7 _ rfl rfl rfl) rfl ?_
             exact awl_nil ⟨rfl, post_put⟩⟩⟩
           , ⟨_, rfl, fun sl hd hr ho => by
             refine r_index (hd 0 _ rfl rfl rfl) rfl (hd 1 _ rfl rfl rfl) TF.sl29 TF.sz55 (by omega) (get_map (get_map hx)) rfl ?_
             exact awl_nil ⟨rfl, post_put⟩⟩⟩
           , ⟨_, rfl, fun sl hd hr ho => by
             first | (refine r_fieldcp (hd 2 _ rfl rfl rfl) TF.f55_0 TF.sz47 rfl ?_) | (refine r_fieldpt (hd 2 _ rfl rfl rfl) TF.f55_0 TF.sz47 rfl ?_) | (refine r_fieldb (hd 2 _ rfl rfl rfl) TF.f55_0 TF.sz47 rfl ?_)
             exact awl_nil ⟨rfl, post_put⟩⟩⟩
           , ⟨_, rfl, fun sl hd hr ho => by
             refine r_loadA (hd 3 _ rfl rfl rfl) TF.agg47 TF.sz47 rfl rfl ?_
             exact awl_nil ⟨rfl, post_put⟩⟩⟩
           , ⟨_, rfl, fun sl hd hr ho => by
             refine r_move (hr 4 _ rfl rfl rfl) rfl ?_
             exact awl_nil ⟨rfl, post_put⟩⟩⟩
           , ⟨_, rfl, fun sl hd hr ho => by
             refine r_move (hr 7 _ rfl rfl rfl) rfl ?_
             exact awl_nil ⟨rfl, post_put⟩⟩⟩
           , ⟨_, rfl, fun sl hd hr ho => by
             refine r_index (hd 5 _ rfl rfl rfl) rfl (hd 6 _ rfl rfl rfl) TF.sl25 TF.sz57 (by omega) (get_map hx) rfl ?_
             exact awl_nil ⟨rfl, post_put⟩⟩⟩
           , ⟨_, rfl, fun sl hd hr ho => by
             first | (refine r_fieldcp (hd 7 _ rfl rfl rfl) TF.f57_0 TF.sz47 rfl ?_) | (refine r_fieldpt (hd 7 _ rfl rfl rfl) TF.f57_0 TF.sz47 rfl ?_) | (refine r_fieldb (hd 7 _ rfl rfl rfl) TF.f57_0 TF.sz47 rfl ?_)
             exact awl_nil ⟨rfl, post_put⟩⟩⟩
           , ⟨_, rfl, fun sl hd hr ho => by
             refine r_loadA (hd 8 _ rfl rfl rfl) TF.agg47 TF.sz47 rfl rfl ?_
             exact awl_nil ⟨rfl, post_put⟩⟩⟩
           , ⟨_, rfl, fun sl hd hr ho => by
             refine r_fne (hd 4 _ rfl rfl rfl) (hd 9 _ rfl rfl rfl) flat47 (isVal_sp x.1) (isVal_sp x.1) (Sp.kn _) (Sp.kn _) true (by simp) rfl ?_
             exact awl_nil ⟨rfl, post_put⟩⟩⟩
           , ⟨_, rfl, fun sl hd hr ho => by
             refine r_move (hd 10 _ rfl rfl rfl) rfl ?_
             exact awl_nil ⟨rfl, post_put⟩⟩⟩
           , ⟨_, rfl, fun sl hd hr ho => by
             refine g_run rfl (hd 11 _ rfl rfl rfl) rfl ?_
             refine r_move (hr 5 _ rfl rfl rfl) rfl ?_
             exact awl_nil ⟨rfl, post_put⟩⟩⟩
           , ⟨_, rfl, fun sl hd hr ho => by
             refine g_run rfl (hd 11 _ rfl rfl rfl) rfl ?_
             refine r_move (hr 7 _ rfl rfl rfl) rfl ?_
             exact awl_nil ⟨rfl, post_put⟩⟩⟩
           , ⟨_, rfl, fun sl hd hr ho => by
             refine g_run rfl (hd 11 _ rfl rfl rfl) rfl ?_
             refine r_index (hd 12 _ rfl rfl rfl) rfl (hd 13 _ rfl rfl rfl) TF.sl29 TF.sz55 (by omega) (get_map (get_map hx)) rfl ?_
             exact awl_nil ⟨rfl, post_put⟩⟩⟩
           , ⟨_, rfl, fun sl hd hr ho => by
             refine g_run rfl (hd 11 _ rfl rfl rfl) rfl ?_
             first | (refine r_fieldcp (hd 14 _ rfl rfl rfl) TF.f55_1 TF.sz4 rfl ?_) | (refine r_fieldpt (hd 14 _ rfl rfl rfl) TF.f55_1 TF.sz4 rfl ?_) | (refine r_fieldb (hd 14 _ rfl rfl rfl) TF.f55_1 TF.sz4 rfl ?_)
             exact awl_nil ⟨rfl, post_put⟩⟩⟩
           , ⟨_, rfl, fun sl hd hr ho => by
             refine g_run rfl (hd 11 _ rfl rfl rfl) rfl ?_
             refine r_load1 (hd 15 _ rfl rfl rfl) TF.agg4 rfl ?_
             exact awl_nil ⟨rfl, post_put⟩⟩⟩
           , ⟨_, rfl, fun sl hd hr ho => by
             refine g_run rfl (hd 11 _ rfl rfl rfl) rfl ?_
             refine r_not (hd 16 _ rfl rfl rfl) rfl ?_
             exact awl_nil ⟨rfl, post_put⟩⟩⟩
           , ⟨_, rfl, fun sl hd hr ho => by
             refine r_pickF (hd 11 _ rfl rfl rfl) rfl (hd 17 _ rfl rfl rfl) rfl ?_
             exact awl_nil ⟨rfl, post_put⟩⟩⟩
           , ⟨_, rfl, fun sl hd hr ho => by
             refine r_move (hd 18 _ rfl rfl rfl) rfl ?_
             exact awl_nil ⟨rfl, post_put⟩⟩⟩
           , ⟨_, rfl, fun sl hd hr ho => by
             refine g_run rfl (hd 19 _ rfl rfl rfl) rfl ?_
             refine r_move (hr 6 _ rfl rfl rfl) rfl ?_
             exact awl_nil ⟨rfl, post_put⟩⟩⟩
           , ⟨_, rfl, fun sl hd hr ho => by
             refine g_run rfl (hd 19 _ rfl rfl rfl) rfl ?_
             refine r_move (hr 7 _ rfl rfl rfl) rfl ?_
             exact awl_nil ⟨rfl, post_put⟩⟩⟩
           , ⟨_, rfl, fun sl hd hr ho => by
             refine g_run rfl (hd 19 _ rfl rfl rfl) rfl ?_
             refine r_index (hd 20 _ rfl rfl rfl) rfl (hd 21 _ rfl rfl rfl) TF.sl29 TF.sz55 (by omega) (get_map (get_map hx)) rfl ?_
             exact awl_nil ⟨rfl, post_put⟩⟩⟩
           , ⟨_, rfl, fun sl hd hr ho => by
             refine g_run rfl (hd 19 _ rfl rfl rfl) rfl ?_
             first | (refine r_fieldcp (hd 22 _ rfl rfl rfl) TF.f55_0 TF.sz47 rfl ?_) | (refine r_fieldpt (hd 22 _ rfl rfl rfl) TF.f55_0 TF.sz47 rfl ?_) | (refine r_fieldb (hd 22 _ rfl rfl rfl) TF.f55_0 TF.sz47 rfl ?_)
             exact awl_nil ⟨rfl, post_put⟩⟩⟩
           , ⟨_, rfl, fun sl hd hr ho => by
             refine g_run rfl (hd 19 _ rfl rfl rfl) rfl ?_
             refine r_loadA (hd 23 _ rfl rfl rfl) TF.agg47 TF.sz47 rfl rfl ?_
             exact awl_nil ⟨rfl, post_put⟩⟩⟩
           , ⟨_, rfl, fun sl hd hr ho => by
             refine g_run rfl (hd 19 _ rfl rfl rfl) rfl ?_
             refine r_move (hr 4 _ rfl rfl rfl) rfl ?_
             exact awl_nil ⟨rfl, post_put⟩⟩⟩
           , ⟨_, rfl, fun sl hd hr ho => by
             refine g_run rfl (hd 19 _ rfl rfl rfl) rfl ?_
             refine r_move (hr 7 _ rfl rfl rfl) rfl ?_
             exact awl_nil ⟨rfl, post_put⟩⟩⟩
           , ⟨_, rfl, fun sl hd hr ho => by
             refine g_run rfl (hd 19 _ rfl rfl rfl) rfl ?_
             refine r_index (hd 25 _ rfl rfl rfl) rfl (hd 26 _ rfl rfl rfl) TF.sl25 TF.sz57 (by omega) (get_map hx) rfl ?_
             exact awl_nil ⟨rfl, post_put⟩⟩⟩
           , ⟨_, rfl, fun sl hd hr ho => by
             refine g_run rfl (hd 19 _ rfl rfl rfl) rfl ?_
             first | (refine r_fieldcp (hd 27 _ rfl rfl rfl) TF.f57_0 TF.sz47 rfl ?_) | (refine r_fieldpt (hd 27 _ rfl rfl rfl) TF.f57_0 TF.sz47 rfl ?_) | (refine r_fieldb (hd 27 _ rfl rfl rfl) TF.f57_0 TF.sz47 rfl ?_)
             exact awl_nil ⟨rfl, post_put⟩⟩⟩
           , ⟨_, rfl, fun sl hd hr ho => by
             refine g_run rfl (hd 19 _ rfl rfl rfl) rfl ?_
             refine r_loadA (hd 28 _ rfl rfl rfl) TF.agg47 TF.sz47 rfl rfl ?_
             exact awl_nil ⟨rfl, post_put⟩⟩⟩
           , ⟨_, rfl, fun sl hd hr ho => by
             refine g_run rfl (hd 19 _ rfl rfl rfl) rfl ?_
             refine r_fne (hd 24 _ rfl rfl rfl) (hd 29 _ rfl rfl rfl) flat47 (isVal_sp x.1) (isVal_sp x.1) (Sp.kn _) (Sp.kn _) true (by simp) rfl ?_
             exact awl_nil ⟨rfl, post_put⟩⟩⟩
           , ⟨_, rfl, fun sl hd hr ho => by
             refine r_pickF (hd 19 _ rfl rfl rfl) rfl (hd 30 _ rfl rfl rfl) rfl ?_
             exact awl_nil ⟨rfl, post_put⟩⟩⟩
           , ⟨_, rfl, fun sl hd hr ho => by
             refine r_move (hd 31 _ rfl rfl rfl) rfl ?_
             exact awl_nil ⟨rfl, post_put⟩⟩⟩
           , ⟨_, rfl, fun sl hd hr ho => by
             refine g_run rfl (hd 32 _ rfl rfl rfl) rfl ?_
             refine r_move (hr 6 _ rfl rfl rfl) rfl ?_
             exact awl_nil ⟨rfl, post_put⟩⟩⟩
           , ⟨_, rfl, fun sl hd hr ho => by
             refine g_run rfl (hd 32 _ rfl rfl rfl) rfl ?_
             refine r_move (hr 7 _ rfl rfl rfl) rfl ?_
             exact awl_nil ⟨rfl, post_put⟩⟩⟩
           (by rfl) ?_
          refine g_run rfl rfl rfl ?_
          refine r_index rfl rfl rfl TF.sl29 TF.sz55 (by omega) (get_map (get_map hx)) rfl ?_
          refine g_run rfl rfl rfl ?_
          first | (refine r_fieldcp rfl TF.f55_1 TF.sz4 rfl ?_) | (refine r_fieldpt rfl TF.f55_1 TF.sz4 rfl ?_) | (refine r_fieldb rfl TF.f55_1 TF.sz4 rfl ?_)
          refine g_run rfl rfl rfl ?_
          refine r_load1 rfl TF.agg4 rfl ?_
          refine r_pickF rfl rfl rfl rfl ?_
          refine awl_nil ?_
          refine x_then ?_
          refine awp_cond rfl (fun hc5 => ?_) (fun hc5 => ?_)
          ·
           exfalso; cases hc5
          ·
           refine awp_skip ?_
           refine x_block ?_
           refine x_then ?_
           refine awp_region ?_
           refine r_ari _ rfl rfl rfl (wrap_id (by first | omega | (simp; omega))) rfl ?_
           refine r_move rfl rfl ?_
           refine awl_nil ?_
           refine x_then ?_
           refine ⟨X.length - (i + 1), ⟨101, [(4, .a (.sl 5 (X.map itC))), (5, .a (.sl 5 ((X.map fun x => (x.1, true)).map chC))), (6, .a (.sl 5 ((X.map fun x => (x.1, false)).map chC))), (57, .a (.v (.int .i64 (((X.map itC).length : Nat))))), (58, .a (.v (.int .i64 (((i + 1) : Int)))))], []⟩, ⟨rfl, (Slots.cons rfl (by first | exact .refl _ | exact .nilOwn _ _ | exact .nilSl _ | exact .ownSl _ _ _  | exact SV.le.of_eq (by simp)) (Slots.cons rfl (by first | exact .refl _ | exact .nilOwn _ _ | exact .nilSl _ | exact .ownSl _ _ _  | exact SV.le.of_eq (by simp)) (Slots.cons rfl (by first | exact .refl _ | exact .nilOwn _ _ | exact .nilSl _ | exact .ownSl _ _ _  | exact SV.le.of_eq (by simp)) (Slots.cons rfl (by first | exact .refl _ | exact .nilOwn _ _ | exact .nilSl _ | exact .ownSl _ _ _  | exact SV.le.of_eq (by simp)) (Slots.cons rfl (by first | exact .refl _ | exact .nilOwn _ _ | exact .nilSl _ | exact .ownSl _ _ _  | exact SV.le.of_eq (by simp)) Slots.nil))))), (by first | exact List.Sublist.refl _ | exact .cons_cons _ (.cons _ (.refl _)) | exact List.nil_sublist _ | exact .cons _ (.refl _) | exact .cons _ (.cons _ (.refl _)) | exact .cons _ (.cons _ (.cons _ (.refl _))) | exact .cons _ (.cons _ (.cons _ (.cons _ (.refl _)))) | exact .cons_cons _ (List.nil_sublist _))⟩, (by omega), ⟨i + 1, rfl, rfl, (by omega)⟩⟩
         ·
          refine awp_exit ?_
          refine x_thenE ?_
          refine x_thenE ?_
          refine x_blockE ?_
          refine x_then ?_
          refine awp_seq ?_
          refine awp_region ?_
          refine r_assign rfl rfl ?_
          refine awl_nil ?_
          refine x_then ?_
          refine awp_ret ?_
          exact ⟨(.inl rfl), _, [], (.one (by first | exact .mk rfl rfl | exact .nil rfl)), ⟨rfl, rfl⟩, (List.nil_sublist _), (by simp)⟩
end Go.Proofs.Ytljgdbgcleibjaa.A

/- Layer 63: the statement TimelineOf's walk. -/
import Derived.Test.YtmbfmnhcahhciaaProg
import Derived.KernelRfl
import Derived.Test.YtmbfmnhcahhciaaX63C
namespace Go.Proofs.Ytmbfmnhcahhciaa.A
open Go Go.RowKit
set_option linter.unusedVariables false
set_option linter.unusedSimpArgs false
set_option maxRecDepth 100000

theorem TF.by30 : bytesT Try.prog 30 = some 8 := by kernel_rfl
theorem TF.zlen30 : (zeroT Try.prog 30).map (·.length) = some 1 := by kernel_rfl
theorem TF.sz22 : szT Try.prog 22 = some 1 := by kernel_rfl
theorem TF.agg26 : aggT Try.prog 26 = some false := by kernel_rfl
theorem TF.en15 : entersT Try.prog 15 := enters_of Try.func15 (by kernel_rfl) (by kernel_rfl)
theorem TF.en11 : entersT Try.prog 11 := enters_of Try.func11 (by kernel_rfl) (by kernel_rfl)
theorem TF.en12 : entersT Try.prog 12 := enters_of Try.func12 (by kernel_rfl) (by kernel_rfl)
theorem TF.zero22 : ZeroT Try.prog 22 [.v (.slice none 0 0)] := ⟨[(.slice none 0 0)], by kernel_rfl, (LeCells.refl _)⟩
theorem TF.zero26 : ZeroT Try.prog 26 [.v .nilFunc] := ⟨[.nilFunc], by kernel_rfl, (LeCells.refl _)⟩
theorem TF.sz26 : szT Try.prog 26 = some 1 := by kernel_rfl
theorem TF.en16 : entersT Try.prog 16 := enters_of Try.func16 (by kernel_rfl) (by kernel_rfl)
theorem TF.en19 : entersT Try.prog 19 := enters_of Try.func19 (by kernel_rfl) (by kernel_rfl)

/-- what was asked -/
def AskO (bx : Nat) (a : List Int) (os : List OE) : Prop :=
  (a = [] ∧ os = [⟨bx, true, .box [.v (.slice none 0 0)]⟩]) ∨ ∃ g cap e, os = [⟨g, true, .buf 1 (a.map fun m => [AV.v (.int .u64 m)]) cap e⟩, ⟨bx, true, .box [.v (.slice (some ⟨g, 0, none⟩) a.length cap)]⟩]
theorem imp_ask {w0 : Base} {C0 : CS} {nt : Nat} {sl : List (Nat × SV)} {bx : Nat} {a : List Int} {os : List OE} (h : AskO bx a os) : Imp w0 C0 ⟨nt, sl, Tr os⟩ ⟨nt, sl, [⟨bx, true, .box [.sl 1 (a.map fun m => [AV.v (.int .u64 m)])]⟩]⟩ := by
  rcases h with ⟨rfl, rfl⟩ | ⟨g, cap, e, rfl⟩
  · exact imp_boxLe 0 rfl (.cons (.nil 1) .nil)
  · exact imp_commitBx 0 0 (by simp) rfl rfl

theorem ask0_ok (ms : List Int) (ds : List Disk) (hml : ms.length ≤ 1000000) (hok : ∀ d ∈ ds, OkD d) (m : Int) {bx : Nat} {fl : Bool} : AW Try.prog 15 [.v (.int .u64 m), .v (.pointer (some ⟨bx, 0, none⟩)), .cp [.fn 30 [.cp [numsA ms], .cp [disksA ds]]]] [] [⟨bx, fl, .box [.v (.slice none 0 0)]⟩] (fun r n => r = .tup [files (atF ms ds m).1, boolA (atF ms ds m).2] ∧ ∃ g cap e, n = [⟨g, true, .buf 1 ([[AV.v (.int .u64 m)]]) cap e⟩, ⟨bx, true, .box [.v (.slice (some ⟨g, 0, none⟩) ([[AV.v (.int .u64 m)]]).length cap)]⟩]) := by
  refine aw_of_awp (rs := [4, 5]) (nt := 15) (so := [⟨bx, true, .box [.v (.slice none 0 0)]⟩]) Try.func15 rfl rfl rfl rfl rfl (fun w0 C0 hq => ?_)
  refine awp_seq ?_
  refine awp_region ?_
  refine r_assign rfl rfl ?_
  refine r_assign rfl rfl ?_
  refine awl_nil ?_
  refine x_then ?_
  refine awp_seq ?_
  refine awp_region ?_
  refine r_load1b 0 rfl rfl rfl TF.agg22 rfl ?_
  refine r_move rfl rfl ?_
  refine r_lit 8 (parts := [(0, .tmp 7)]) rfl TF.sl22 TF.sz30 TF.zraw30 rfl rfl rfl rfl rfl rfl rfl ?_
  refine r_appendBN rfl rfl (by first | exact .sl _ | exact .own _ _) (by simp [chunks]) TF.sl22 TF.sz30 TF.by30 TF.zlen30 (by simp [chunks]) (by simp [chunks]) rfl (fun gb gc => ?_)
  refine r_store 1 rfl rfl rfl TF.sz22 rfl rfl rfl ?_
  refine awl_nil ?_
  refine x_then ?_
  refine awp_seq ?_
  refine awp_region ?_
  first | (refine r_load1 rfl TF.agg26 rfl ?_) | (refine r_load1b 0 rfl rfl rfl TF.agg26 rfl ?_) | (refine r_load1b 1 rfl rfl rfl TF.agg26 rfl ?_)
  refine r_move rfl rfl ?_
  refine r_call0 hq rfl rfl (.cons (.ev rfl rfl) .nil) (atc_ok ms ds hml hok m) rfl TF.en30 rfl (fun r hr => ?_)
  obtain rfl := hr
  refine r_extract rfl rfl rfl ?_
  refine r_extract rfl rfl rfl ?_
  refine r_assign rfl rfl ?_
  refine r_assign rfl rfl ?_
  refine awl_nil ?_
  refine x_then ?_
  refine awp_ret ?_
  exact ⟨(.inl rfl), _, _, (.two (by first | exact .mk rfl rfl | exact .nil rfl) (by first | exact .mk rfl rfl | exact .nil rfl)), ⟨rfl, gb, gc, _, rfl⟩, (List.Sublist.refl _), (fun e he => by rcases List.mem_cons.1 he with rfl | he; rfl; obtain rfl := List.mem_singleton.1 he; rfl)⟩

theorem ask1_ok (ms : List Int) (ds : List Disk) (hml : ms.length ≤ 1000000) (hok : ∀ d ∈ ds, OkD d) (m : Int) {bx : Nat} {fl : Bool} (a : List Int) (ha : a.length < 1000) {g cap e : Nat} {fl2 : Bool} : AW Try.prog 15 [.v (.int .u64 m), .v (.pointer (some ⟨bx, 0, none⟩)), .cp [.fn 30 [.cp [numsA ms], .cp [disksA ds]]]] [] [⟨g, fl2, .buf 1 (a.map fun m => [AV.v (.int .u64 m)]) cap e⟩, ⟨bx, fl, .box [.v (.slice (some ⟨g, 0, none⟩) a.length cap)]⟩] (fun r n => r = .tup [files (atF ms ds m).1, boolA (atF ms ds m).2] ∧ ∃ g cap e, n = [⟨g, true, .buf 1 ((a.map fun m => [AV.v (.int .u64 m)]) ++ [[AV.v (.int .u64 m)]]) cap e⟩, ⟨bx, true, .box [.v (.slice (some ⟨g, 0, none⟩) ((a.map fun m => [AV.v (.int .u64 m)]) ++ [[AV.v (.int .u64 m)]]).length cap)]⟩]) := by
  refine aw_of_awp (rs := [4, 5]) (nt := 15) (so := [⟨g, true, .buf 1 (a.map fun m => [AV.v (.int .u64 m)]) cap e⟩, ⟨bx, true, .box [.v (.slice (some ⟨g, 0, none⟩) a.length cap)]⟩]) Try.func15 rfl rfl rfl rfl rfl (fun w0 C0 hq => ?_)
  refine awp_seq ?_
  refine awp_region ?_
  refine r_assign rfl rfl ?_
  refine r_assign rfl rfl ?_
  refine awl_nil ?_
  refine x_then ?_
  refine awp_seq ?_
  refine awp_region ?_
  refine r_load1b 1 rfl rfl rfl TF.agg22 rfl ?_
  refine r_move rfl rfl ?_
  refine r_lit 8 (parts := [(0, .tmp 7)]) rfl TF.sl22 TF.sz30 TF.zraw30 rfl rfl rfl rfl rfl rfl rfl ?_
  refine r_appendBGx 0 rfl (by simp) rfl rfl (.own _ _) (by simp [chunks]) TF.sl22 TF.sz30 TF.by30 TF.zlen30 (by simp [chunks]; omega) (by simp [chunks]; omega) rfl (fun gb gc ge => ?_)
  refine r_store 1 rfl rfl rfl TF.sz22 rfl rfl rfl ?_
  refine awl_nil ?_
  refine x_then ?_
  refine awp_seq ?_
  refine awp_region ?_
  first | (refine r_load1 rfl TF.agg26 rfl ?_) | (refine r_load1b 0 rfl rfl rfl TF.agg26 rfl ?_) | (refine r_load1b 1 rfl rfl rfl TF.agg26 rfl ?_)
  refine r_move rfl rfl ?_
  refine r_call0 hq rfl rfl (.cons (.ev rfl rfl) .nil) (atc_ok ms ds hml hok m) rfl TF.en30 rfl (fun r hr => ?_)
  obtain rfl := hr
  refine r_extract rfl rfl rfl ?_
  refine r_extract rfl rfl rfl ?_
  refine r_assign rfl rfl ?_
  refine r_assign rfl rfl ?_
  refine awl_nil ?_
  refine x_then ?_
  refine awp_ret ?_
  exact ⟨(.inl rfl), _, _, (.two (by first | exact .mk rfl rfl | exact .nil rfl) (by first | exact .mk rfl rfl | exact .nil rfl)), ⟨rfl, gb, gc, _, rfl⟩, (List.Sublist.refl _), (fun e he => by rcases List.mem_cons.1 he with rfl | he; rfl; obtain rfl := List.mem_singleton.1 he; rfl)⟩

theorem ask_rw {bx : Nat} {a : List Int} {os : List OE} (h : AskO bx a os) : os.all (·.rw) = true := by
  rcases h with ⟨_, rfl⟩ | ⟨g, cap, e, rfl⟩ <;> rfl
theorem ask_ok (ms : List Int) (ds : List Disk) (hml : ms.length ≤ 1000000) (hok : ∀ d ∈ ds, OkD d) (m : Int) {bx : Nat} {a : List Int} {os : List OE} (h : AskO bx a os) (ha : a.length < 1000) : AW Try.prog 15 [.v (.int .u64 m), .v (.pointer (some ⟨bx, 0, none⟩)), .cp [.fn 30 [.cp [numsA ms], .cp [disksA ds]]]] [] os (fun r n => r = .tup [files (atF ms ds m).1, boolA (atF ms ds m).2] ∧ AskO bx (a ++ [m]) (Tr n)) := by
  rcases h with ⟨rfl, rfl⟩ | ⟨g, cap, e, rfl⟩
  · exact (ask0_ok ms ds hml hok m).mono fun r n ⟨h1, g, cap, e, h2⟩ => ⟨h1, .inr ⟨g, cap, e, by rw [h2]; rfl⟩⟩
  · exact (ask1_ok ms ds hml hok m a ha).mono fun r n ⟨h1, g, cap, e, h2⟩ => ⟨h1, .inr ⟨g, cap, e, by rw [h2]; simp [Tr]⟩⟩
theorem ask_en : entersT Try.prog 15 := TF.en15
theorem len_num {ms : List Int} : (ms.map fun m => [AV.v (.int .u64 m)]).length = ms.length := by simp

set_option maxHeartbeats 2000000 in
theorem of_law (ms : List Int) (ds : List Disk) (hok : ∀ d ∈ ds, OkD d) : AC Try.prog 3 [numsA ms, disksA ds] [] (fun r n => n = [] ∧ r = boolA true) := by
  refine ac_of_awp (rs := [4]) (nt := 113) Try.func3 rfl rfl rfl rfl (fun w0 C0 hq => ?_)
  refine awp_seq ?_
  refine awp_region ?_
  refine r_assign rfl rfl ?_
  refine awl_nil ?_
  refine x_then ?_
  refine awp_seq ?_
  refine awp_seq ?_
  refine awp_region ?_
  refine r_call0 hq rfl rfl .nil (awake_ok) rfl TF.en11 rfl (fun r hr => ?_)
  obtain rfl := hr
  refine r_not rfl rfl ?_
  refine awl_nil ?_
  refine x_then ?_
  refine awp_cond rfl (fun hc0 => ?_) (fun hc0 => ?_)
  ·
    exfalso; exact absurd hc0 (by decide)
  ·
    refine awp_skip ?_
    refine x_then ?_
    refine awp_seq ?_
    refine awp_seq ?_
    refine awp_region ?_
    refine r_move rfl rfl ?_
    refine r_move rfl rfl ?_
    refine r_call0 hq rfl rfl (.cons (.ev rfl rfl) (.cons (.ev rfl rfl) .nil)) (great_ok ms ds) rfl TF.en12 rfl (fun r hr => ?_)
    rcases hr with rfl | ⟨rfl, hm12, hd12⟩
    
    ·
      refine r_cmp rfl rfl rfl rfl ?_
      refine awl_nil ?_
      refine x_then ?_
      refine awp_cond rfl (fun hc1 => ?_) (fun hc1 => ?_)
      ·
        refine awp_seq ?_
        refine awp_region ?_
        refine r_assign rfl rfl ?_
        refine awl_nil ?_
        refine x_then ?_
        refine awp_ret ?_
        refine x_thenR ?_
        exact ⟨(.inl rfl), _, [], (.one (by first | exact .mk rfl rfl | exact .nil rfl)), ⟨rfl, rfl⟩, (List.nil_sublist _), (by simp)⟩
      ·
        exfalso; exact absurd hc1 (by decide)
    ·
      refine r_cmp rfl rfl rfl rfl ?_
      refine awl_nil ?_
      refine x_then ?_
      refine awp_cond rfl (fun hc1 => ?_) (fun hc1 => ?_)
      ·
        exfalso; exact absurd hc1 (by decide)
      ·
        refine awp_skip ?_
        refine x_then ?_
        refine awp_seq ?_
        refine awp_region ?_
        refine r_alloc TF.zero22 rfl (fun b5 => ?_)
        refine awl_nil ?_
        refine x_then ?_
        refine awp_seq ?_
        refine awp_region ?_
        refine r_move rfl rfl ?_
        refine r_move rfl rfl ?_
        refine r_call0 hq rfl rfl (.cons (.ev rfl rfl) (.cons (.ev rfl rfl) .nil)) (at_ok ms ds) rfl TF.en13 rfl (fun r hr => ?_)
        obtain rfl := hr
        refine r_alloc TF.zero26 rfl (fun b6 => ?_)
        first | (refine r_store 0 rfl rfl rfl TF.sz26 rfl rfl rfl ?_) | (refine r_store 1 rfl rfl rfl TF.sz26 rfl rfl rfl ?_)
        refine awl_nil ?_
        refine x_then ?_
        refine awp_seq ?_
        refine awp_region ?_
        refine awl_imp (imp_commit 0 6 rfl rfl rfl rfl) ?_
        refine r_move rfl rfl ?_
        refine r_makeFunc rfl (.cons (.ev rfl rfl) (.cons (.ev rfl rfl) .nil)) rfl ?_
        refine r_callP hq (wo := [⟨b5, true, .box [.v (.slice none 0 0)]⟩]) (un := []) rfl rfl (.cons (.ev rfl rfl) (.cons (.ev rfl rfl) .nil)) (tl_ok (atF ms ds) ask_en (AskO b5) (fun _ _ h => ask_rw h) (fun a os m h ha => ask_ok ms ds (by omega) hok m h ha) (good_at ms ds) ms (by omega) (os0 := [⟨b5, true, .box [.v (.slice none 0 0)]⟩]) (.inl ⟨rfl, rfl⟩)) rfl TF.en14 (List.Perm.refl _) (rfl) (List.nil_sublist _) rfl (fun r nobjs hr => ?_)
        obtain ⟨rfl, hA1, hA2⟩ := hr
        rw [List.append_nil]
        rcases Bool.eq_false_or_eq_true (riseF ms) with hrf | hrf
        ·
          have hp := rise_pw hrf
          refine awl_imp (imp_ask (hA1 hrf)) ?_
          refine r_assign rfl rfl ?_
          refine awl_nil ?_
          refine x_then ?_
          refine awp_seq ?_
          refine awp_seq ?_
          refine awp_region ?_
          refine r_move rfl rfl ?_
          refine r_call0 hq rfl rfl (.cons (.ev rfl rfl) .nil) (rrise_ok ms (by omega)) rfl TF.en16 rfl (fun r hr => ?_)
          obtain rfl := hr
          refine r_not rfl rfl ?_
          refine awl_nil ?_
          refine x_then ?_
          refine awp_cond rfl (fun hc2 => ?_) (fun hc2 => ?_)
          ·
            exfalso; rw [hrf] at hc2; cases hc2
          ·
            refine awp_skip ?_
            refine x_then ?_
            refine awp_seq ?_
            refine awp_seq ?_
            refine awp_region ?_
            refine r_load1b 0 rfl rfl rfl TF.agg22 rfl ?_
            first | (refine r_lenS rfl rfl TF.sl22 rfl ?_) | (refine r_lenNil rfl TF.sl22 rfl ?_) | (refine r_lenV rfl TF.sl22 rfl ?_)
            refine r_move rfl rfl ?_
            first | (refine r_lenS rfl rfl TF.sl22 rfl ?_) | (refine r_lenNil rfl TF.sl22 rfl ?_) | (refine r_lenV rfl TF.sl22 rfl ?_)
            refine r_cmp rfl rfl rfl rfl ?_
            refine awl_nil ?_
            refine x_then ?_
            refine awp_cond rfl (fun hc3 => ?_) (fun hc3 => ?_)
            ·
              exfalso; simp at hc3
            ·
              refine awp_skip ?_
              refine x_then ?_
              refine awp_seq ?_
              refine awp_region ?_
              refine r_assign rfl rfl ?_
              refine awl_nil ?_
              refine x_then ?_
              refine awp_seq ?_
              refine awp_region ?_
              refine r_assign rfl rfl ?_
              refine awl_nil ?_
              refine x_then ?_
              refine awp_seq ?_
              refine awp_seq ?_
              refine awp_region ?_
              refine r_assign rfl rfl ?_
              refine awl_nil ?_
              refine x_then ?_
              refine awp_block ?_
              refine awp_loop (fun nn0 S => ∃ i : Nat, ∃ was : List File, ∃ want : List Ev, S = ⟨113, [(0, .a (numsA ms)), (1, .a (disksA ds)), (5, .a (.v (.pointer (some ⟨b5, 0, none⟩)))), (7, .a (evsA (tlF ms (atF ms ds)))), (8, .own 8 5 (want.map Ev.cs)), (9, .a (files was)), (10, .a (.v (.int .i64 ((i : Int)))))], [⟨b5, true, .box [.sl 1 (ms.map fun m => [AV.v (.int .u64 m)])]⟩]⟩ ∧ nn0 = ms.length - i ∧ (i ≤ ms.length) ∧ (tlG (ms.take i) (atF ms ds) = (was, want)) ∧ (GoodF was) ∧ (want.length ≤ 12 * i)) (ms.length - (0)) ⟨113, [(0, .a (numsA ms)), (1, .a (disksA ds)), (5, .a (.v (.pointer (some ⟨b5, 0, none⟩)))), (7, .a (evsA (tlF ms (atF ms ds)))), (8, .own 8 5 (([]).map Ev.cs)), (9, .a (files ([]))), (10, .a (.v (.int .i64 (((0) : Int)))))], [⟨b5, true, .box [.sl 1 (ms.map fun m => [AV.v (.int .u64 m)])]⟩]⟩ ⟨rfl, (Slots.cons rfl (by first | exact .refl _ | exact .nilOwn _ _ | exact .nilSl _ | exact .ownSl _ _ _  | exact SV.le.of_eq (by simp)) (Slots.cons rfl (by first | exact .refl _ | exact .nilOwn _ _ | exact .nilSl _ | exact .ownSl _ _ _  | exact SV.le.of_eq (by simp)) (Slots.cons rfl (by first | exact .refl _ | exact .nilOwn _ _ | exact .nilSl _ | exact .ownSl _ _ _  | exact SV.le.of_eq (by simp)) (Slots.cons rfl (by first | exact .refl _ | exact .nilOwn _ _ | exact .nilSl _ | exact .ownSl _ _ _  | exact SV.le.of_eq (by simp)) (Slots.cons rfl (by first | exact .refl _ | exact .nilOwn _ _ | exact .nilSl _ | exact .ownSl _ _ _  | exact SV.le.of_eq (by simp)) (Slots.cons rfl (by first | exact .refl _ | exact .nilOwn _ _ | exact .nilSl _ | exact .ownSl _ _ _  | exact SV.le.of_eq (by simp)) (Slots.cons rfl (by first | exact .refl _ | exact .nilOwn _ _ | exact .nilSl _ | exact .ownSl _ _ _  | exact SV.le.of_eq (by simp)) Slots.nil))))))), (by first | exact List.Sublist.refl _ | exact .cons_cons _ (.cons _ (.refl _)) | exact List.nil_sublist _ | exact .cons _ (.refl _) | exact .cons _ (.cons _ (.refl _)) | exact .cons _ (.cons _ (.cons _ (.refl _))) | exact .cons _ (.cons _ (.cons _ (.cons _ (.refl _)))) | exact .cons_cons _ (List.nil_sublist _))⟩ ⟨0, [], [], rfl, rfl, Nat.zero_le _, rfl, goodF_nil, (by simp)⟩ ?_
              rintro nn0 _ ⟨i, was, want, rfl, rfl, hi, hst, hwas, hwl⟩
              refine awp_seq ?_
              refine awp_seq ?_
              refine awp_region ?_
              refine r_move rfl rfl ?_
              refine r_move rfl rfl ?_
              first | (refine r_lenS rfl rfl TF.sl22 rfl ?_) | (refine r_lenNil rfl TF.sl22 rfl ?_) | (refine r_lenV rfl TF.sl22 rfl ?_)
              refine r_cmp rfl rfl rfl rfl ?_
              refine awl_nil ?_
              refine x_then ?_
              refine awp_cond rfl (fun hc4 => ?_) (fun hc4 => ?_)
              ·
                have hltm : i < ms.length := by have := of_decide_eq_true hc4; simpa using this
                obtain ⟨m, hm⟩ := get_lt hltm
                refine awp_skip ?_
                refine x_then ?_
                refine awp_seq ?_
                refine awp_block ?_
                refine awp_seq ?_
                refine awp_seq ?_
                refine awp_drawS [48, 49, 50, 51, 52, 53, 54, 55] [_, _, _, _, _, _, _, _] [] [] TF.mixed rfl rfl rfl ⟨⟨⟨⟨⟨⟨⟨⟨trivial
                  , ⟨_, rfl, fun sl hd hr ho => by
                      refine r_load1b 0 (hr 5 _ rfl rfl rfl) rfl rfl TF.agg22 rfl ?_
                      exact awl_nil ⟨rfl, post_put⟩⟩⟩
                  , ⟨_, rfl, fun sl hd hr ho => by
                      refine r_move (hr 10 _ rfl rfl rfl) rfl ?_
                      exact awl_nil ⟨rfl, post_put⟩⟩⟩
                  , ⟨_, rfl, fun sl hd hr ho => by
                      refine r_index (hd 0 _ rfl rfl rfl) rfl (hd 1 _ rfl rfl rfl) TF.sl22 TF.sz30 (by omega) (get_map hm) rfl ?_
                      exact awl_nil ⟨rfl, post_put⟩⟩⟩
                  , ⟨_, rfl, fun sl hd hr ho => by
                      first | (refine r_load1 (hd 2 _ rfl rfl rfl) TF.agg30 rfl ?_) | (refine r_load1b 0 (hd 2 _ rfl rfl rfl) rfl rfl TF.agg30 rfl ?_)
                      exact awl_nil ⟨rfl, post_put⟩⟩⟩
                  , ⟨_, rfl, fun sl hd hr ho => by
                      refine r_move (hr 0 _ rfl rfl rfl) rfl ?_
                      exact awl_nil ⟨rfl, post_put⟩⟩⟩
                  , ⟨_, rfl, fun sl hd hr ho => by
                      refine r_move (hr 10 _ rfl rfl rfl) rfl ?_
                      exact awl_nil ⟨rfl, post_put⟩⟩⟩
                  , ⟨_, rfl, fun sl hd hr ho => by
                      refine r_index (hd 4 _ rfl rfl rfl) rfl (hd 5 _ rfl rfl rfl) TF.sl22 TF.sz30 (by omega) (get_map hm) rfl ?_
                      exact awl_nil ⟨rfl, post_put⟩⟩⟩
                  , ⟨_, rfl, fun sl hd hr ho => by
                      first | (refine r_load1 (hd 6 _ rfl rfl rfl) TF.agg30 rfl ?_) | (refine r_load1b 0 (hd 6 _ rfl rfl rfl) rfl rfl TF.agg30 rfl ?_)
                      exact awl_nil ⟨rfl, post_put⟩⟩⟩
                  (by rfl) ?_
                refine r_cmp rfl rfl rfl rfl ?_
                refine awl_nil ?_
                refine x_then ?_
                refine awp_cond rfl (fun hc5 => ?_) (fun hc5 => ?_)
                ·
                  exfalso; simp at hc5
                ·
                  refine awp_skip ?_
                  refine x_then ?_
                  refine awp_seq ?_
                  refine awp_seq ?_
                  refine awp_region ?_
                  refine r_move rfl rfl ?_
                  refine r_move rfl rfl ?_
                  first | (refine r_lenS rfl rfl TF.sl23 rfl ?_) | (refine r_lenNil rfl TF.sl23 rfl ?_) | (refine r_lenV rfl TF.sl23 rfl ?_)
                  refine r_cmp rfl rfl rfl rfl ?_
                  refine r_move rfl rfl ?_
                  refine g_cases (t' := 61) rfl (fun hg61 => ?_) (fun hg61 => ?_)
                  ·
                    have hat := at_past (ds := ds) hp hm (by have := of_decide_eq_true hg61; simp at this; omega)
                    refine g_skip rfl rfl hg61 rfl ?_
                    refine g_skip rfl rfl hg61 rfl ?_
                    refine g_skip rfl rfl hg61 rfl ?_
                    refine g_skip rfl rfl hg61 rfl ?_
                    refine g_skip rfl rfl hg61 rfl ?_
                    refine g_skip rfl rfl hg61 rfl ?_
                    refine r_pickT rfl hg61 rfl rfl ?_
                    refine awl_nil ?_
                    refine x_then ?_
                    refine awp_condT rfl ?_
                    have hst2 : (tlG (ms.take (i + 1)) (atF ms ds)) = (was, want) := by rw [tlG_step hm, hst, tlStep, hat]; first | rfl | (rw [show d.told = false from by simpa using hc6]; rfl)
                    refine awp_exit ?_
                    refine x_thenE ?_
                    refine x_blockE ?_
                    refine x_then ?_
                    refine awp_region ?_
                    refine r_move rfl rfl ?_
                    refine r_ari _ rfl rfl rfl (wrap_id (by first | omega | (simp; omega))) rfl ?_
                    refine r_assign rfl rfl ?_
                    refine awl_nil ?_
                    refine x_then ?_
                    refine ⟨ms.length - (i + 1), ⟨113, [(0, .a (numsA ms)), (1, .a (disksA ds)), (5, .a (.v (.pointer (some ⟨b5, 0, none⟩)))), (7, .a (evsA (tlF ms (atF ms ds)))), (8, .own 8 5 ((want).map Ev.cs)), (9, .a (files (was))), (10, .a (.v (.int .i64 (((i + 1) : Int)))))], [⟨b5, true, .box [.sl 1 (ms.map fun m => [AV.v (.int .u64 m)])]⟩]⟩, ⟨rfl, (Slots.cons rfl (by first | exact .refl _ | exact .nilOwn _ _ | exact .nilSl _ | exact .ownSl _ _ _  | exact SV.le.of_eq (by simp)) (Slots.cons rfl (by first | exact .refl _ | exact .nilOwn _ _ | exact .nilSl _ | exact .ownSl _ _ _  | exact SV.le.of_eq (by simp)) (Slots.cons rfl (by first | exact .refl _ | exact .nilOwn _ _ | exact .nilSl _ | exact .ownSl _ _ _  | exact SV.le.of_eq (by simp)) (Slots.cons rfl (by first | exact .refl _ | exact .nilOwn _ _ | exact .nilSl _ | exact .ownSl _ _ _  | exact SV.le.of_eq (by simp)) (Slots.cons rfl (by first | exact .refl _ | exact .nilOwn _ _ | exact .nilSl _ | exact .ownSl _ _ _  | exact SV.le.of_eq (by simp)) (Slots.cons rfl (by first | exact .refl _ | exact .nilOwn _ _ | exact .nilSl _ | exact .ownSl _ _ _  | exact SV.le.of_eq (by simp)) (Slots.cons rfl (by first | exact .refl _ | exact .nilOwn _ _ | exact .nilSl _ | exact .ownSl _ _ _  | exact SV.le.of_eq (by simp)) Slots.nil))))))), (by first | exact List.Sublist.refl _ | exact .cons_cons _ (.cons _ (.refl _)) | exact List.nil_sublist _ | exact .cons _ (.refl _) | exact .cons _ (.cons _ (.refl _)) | exact .cons _ (.cons _ (.cons _ (.refl _))) | exact .cons _ (.cons _ (.cons _ (.cons _ (.refl _)))) | exact .cons_cons _ (List.nil_sublist _))⟩, (by omega), ⟨i + 1, was, want, rfl, rfl, (by omega), hst2, hwas, (by omega)⟩⟩
                  ·
                    have hltd : i < ds.length := by have := of_decide_eq_false hg61; simp at this; omega
                    obtain ⟨d, hdk⟩ := get_lt hltd
                    have hat := at_idx hp hm hdk
                    refine g_run rfl rfl hg61 ?_
                    refine r_move rfl rfl ?_
                    refine g_run rfl rfl hg61 ?_
                    refine r_move rfl rfl ?_
                    refine g_run rfl rfl hg61 ?_
                    refine r_index rfl rfl rfl TF.sl23 TF.sz38 (by omega) (get_map hdk) rfl ?_
                    refine g_run rfl rfl hg61 ?_
                    first | (refine r_fieldb rfl TF.f38_0 TF.sz4 rfl ?_) | (refine r_fieldcp rfl TF.f38_0 TF.sz4 rfl ?_)
                    refine g_run rfl rfl hg61 ?_
                    first | (refine r_load1 rfl TF.agg4 rfl ?_) | (refine r_load1b 0 rfl rfl rfl TF.agg4 rfl ?_)
                    refine g_run rfl rfl hg61 ?_
                    refine r_not rfl rfl ?_
                    refine r_pickF rfl hg61 rfl rfl ?_
                    refine awl_nil ?_
                    refine x_then ?_
                    refine awp_cond rfl (fun hc6 => ?_) (fun hc6 => ?_)
                    ·
                      have hst2 : (tlG (ms.take (i + 1)) (atF ms ds)) = (was, want) := by rw [tlG_step hm, hst, tlStep, hat]; first | rfl | (rw [show d.told = false from by simpa using hc6]; rfl)
                      refine awp_exit ?_
                      refine x_thenE ?_
                      refine x_blockE ?_
                      refine x_then ?_
                      refine awp_region ?_
                      refine r_move rfl rfl ?_
                      refine r_ari _ rfl rfl rfl (wrap_id (by first | omega | (simp; omega))) rfl ?_
                      refine r_assign rfl rfl ?_
                      refine awl_nil ?_
                      refine x_then ?_
                      refine ⟨ms.length - (i + 1), ⟨113, [(0, .a (numsA ms)), (1, .a (disksA ds)), (5, .a (.v (.pointer (some ⟨b5, 0, none⟩)))), (7, .a (evsA (tlF ms (atF ms ds)))), (8, .own 8 5 ((want).map Ev.cs)), (9, .a (files (was))), (10, .a (.v (.int .i64 (((i + 1) : Int)))))], [⟨b5, true, .box [.sl 1 (ms.map fun m => [AV.v (.int .u64 m)])]⟩]⟩, ⟨rfl, (Slots.cons rfl (by first | exact .refl _ | exact .nilOwn _ _ | exact .nilSl _ | exact .ownSl _ _ _  | exact SV.le.of_eq (by simp)) (Slots.cons rfl (by first | exact .refl _ | exact .nilOwn _ _ | exact .nilSl _ | exact .ownSl _ _ _  | exact SV.le.of_eq (by simp)) (Slots.cons rfl (by first | exact .refl _ | exact .nilOwn _ _ | exact .nilSl _ | exact .ownSl _ _ _  | exact SV.le.of_eq (by simp)) (Slots.cons rfl (by first | exact .refl _ | exact .nilOwn _ _ | exact .nilSl _ | exact .ownSl _ _ _  | exact SV.le.of_eq (by simp)) (Slots.cons rfl (by first | exact .refl _ | exact .nilOwn _ _ | exact .nilSl _ | exact .ownSl _ _ _  | exact SV.le.of_eq (by simp)) (Slots.cons rfl (by first | exact .refl _ | exact .nilOwn _ _ | exact .nilSl _ | exact .ownSl _ _ _  | exact SV.le.of_eq (by simp)) (Slots.cons rfl (by first | exact .refl _ | exact .nilOwn _ _ | exact .nilSl _ | exact .ownSl _ _ _  | exact SV.le.of_eq (by simp)) Slots.nil))))))), (by first | exact List.Sublist.refl _ | exact .cons_cons _ (.cons _ (.refl _)) | exact List.nil_sublist _ | exact .cons _ (.refl _) | exact .cons _ (.cons _ (.refl _)) | exact .cons _ (.cons _ (.cons _ (.refl _))) | exact .cons _ (.cons _ (.cons _ (.cons _ (.refl _)))) | exact .cons_cons _ (List.nil_sublist _))⟩, (by omega), ⟨i + 1, was, want, rfl, rfl, (by omega), hst2, hwas, (by omega)⟩⟩
                    ·
                      have hst2 : (tlG (ms.take (i + 1)) (atF ms ds)) = (filesD d, want ++ (OfF was (filesD d)).map (Ev.mk m)) := by rw [tlG_step hm, hst, tlStep, hat, show d.told = true from by simpa using hc6]; rfl
                      have hofl := good_of hwas (goodD d)
                      refine awp_skip ?_
                      refine x_then ?_
                      refine awp_seq ?_
                      refine awp_region ?_
                      refine r_move rfl rfl ?_
                      refine r_move rfl rfl ?_
                      refine r_move rfl rfl ?_
                      refine r_index rfl rfl rfl TF.sl23 TF.sz38 (by omega) (get_map hdk) rfl ?_
                      first | (refine r_loadA rfl TF.agg38 TF.sz38 rfl rfl ?_) | (refine r_loadAb 0 rfl rfl TF.agg38 TF.sz38 rfl rfl ?_)
                      refine r_call0 hq rfl rfl (.cons (.ev rfl rfl) .nil) (files_ok d (hok d (List.mem_of_getElem? hdk))) rfl TF.en18 rfl (fun r hr => ?_)
                      obtain rfl := hr
                      refine r_call0 hq rfl rfl (.cons (.ev rfl rfl) (.cons (.ev rfl rfl) .nil)) (of_ok was (filesD d) (by have := hwas.1; omega) (by have := (goodD d).1; omega) (fun f hf => (hwas.2 f hf).1) (fun f hf => ((goodD d).2 f hf).1) (fun f hf => (hwas.2 f hf).2) (fun f hf => ((goodD d).2 f hf).2)) rfl TF.en17 rfl (fun r hr => ?_)
                      obtain rfl := hr
                      refine r_assign rfl rfl ?_
                      refine awl_nil ?_
                      refine x_then ?_
                      refine awp_seq ?_
                      refine awp_seq ?_
                      refine awp_region ?_
                      refine r_assign rfl rfl ?_
                      refine awl_nil ?_
                      refine x_then ?_
                      refine awp_block ?_
                      refine awp_loop (fun nn0 S => ∃ k : Nat, S = ⟨113, [(0, .a (numsA ms)), (1, .a (disksA ds)), (5, .a (.v (.pointer (some ⟨b5, 0, none⟩)))), (7, .a (evsA (tlF ms (atF ms ds)))), (8, .own 8 5 ((want ++ ((OfF was (filesD d)).take k).map (Ev.mk m)).map Ev.cs)), (10, .a (.v (.int .i64 ((i : Int))))), (11, .a (fcsA (OfF was (filesD d)))), (12, .a (.v (.int .i64 ((k : Int)))))], [⟨b5, true, .box [.sl 1 (ms.map fun m => [AV.v (.int .u64 m)])]⟩]⟩ ∧ nn0 = (OfF was (filesD d)).length - k ∧ (k ≤ (OfF was (filesD d)).length)) ((OfF was (filesD d)).length - (0)) ⟨113, [(0, .a (numsA ms)), (1, .a (disksA ds)), (5, .a (.v (.pointer (some ⟨b5, 0, none⟩)))), (7, .a (evsA (tlF ms (atF ms ds)))), (8, .own 8 5 ((want ++ ((OfF was (filesD d)).take (0)).map (Ev.mk m)).map Ev.cs)), (10, .a (.v (.int .i64 ((i : Int))))), (11, .a (fcsA (OfF was (filesD d)))), (12, .a (.v (.int .i64 (((0) : Int)))))], [⟨b5, true, .box [.sl 1 (ms.map fun m => [AV.v (.int .u64 m)])]⟩]⟩ ⟨rfl, (Slots.cons rfl (by first | exact .refl _ | exact .nilOwn _ _ | exact .nilSl _ | exact .ownSl _ _ _  | exact SV.le.ownEq (by simp) | exact SV.le.of_eq (by simp)) (Slots.cons rfl (by first | exact .refl _ | exact .nilOwn _ _ | exact .nilSl _ | exact .ownSl _ _ _  | exact SV.le.ownEq (by simp) | exact SV.le.of_eq (by simp)) (Slots.cons rfl (by first | exact .refl _ | exact .nilOwn _ _ | exact .nilSl _ | exact .ownSl _ _ _  | exact SV.le.ownEq (by simp) | exact SV.le.of_eq (by simp)) (Slots.cons rfl (by first | exact .refl _ | exact .nilOwn _ _ | exact .nilSl _ | exact .ownSl _ _ _  | exact SV.le.ownEq (by simp) | exact SV.le.of_eq (by simp)) (Slots.cons rfl (by first | exact .refl _ | exact .nilOwn _ _ | exact .nilSl _ | exact .ownSl _ _ _  | exact SV.le.ownEq (by simp) | exact SV.le.of_eq (by simp)) (Slots.cons rfl (by first | exact .refl _ | exact .nilOwn _ _ | exact .nilSl _ | exact .ownSl _ _ _  | exact SV.le.ownEq (by simp) | exact SV.le.of_eq (by simp)) (Slots.cons rfl (by first | exact .refl _ | exact .nilOwn _ _ | exact .nilSl _ | exact .ownSl _ _ _  | exact SV.le.ownEq (by simp) | exact SV.le.of_eq (by simp)) (Slots.cons rfl (by first | exact .refl _ | exact .nilOwn _ _ | exact .nilSl _ | exact .ownSl _ _ _  | exact SV.le.ownEq (by simp) | exact SV.le.of_eq (by simp)) Slots.nil)))))))), (by first | exact List.Sublist.refl _ | exact .cons_cons _ (.cons _ (.refl _)) | exact List.nil_sublist _ | exact .cons _ (.refl _) | exact .cons _ (.cons _ (.refl _)) | exact .cons _ (.cons _ (.cons _ (.refl _))) | exact .cons _ (.cons _ (.cons _ (.cons _ (.refl _)))) | exact .cons_cons _ (List.nil_sublist _))⟩ ⟨0, rfl, rfl, Nat.zero_le _⟩ ?_
                      rintro nn0 _ ⟨k, rfl, rfl, hk⟩
                      refine awp_seq ?_
                      refine awp_seq ?_
                      refine awp_region ?_
                      refine r_move rfl rfl ?_
                      refine r_move rfl rfl ?_
                      first | (refine r_lenS rfl rfl TF.sl39 rfl ?_) | (refine r_lenNil rfl TF.sl39 rfl ?_) | (refine r_lenV rfl TF.sl39 rfl ?_)
                      refine r_cmp rfl rfl rfl rfl ?_
                      refine r_move rfl rfl ?_
                      refine g_cases (t' := 80) rfl (fun hg80 => ?_) (fun hg80 => ?_)
                      ·
                        have hltx : k < (OfF was (filesD d)).length := by have := of_decide_eq_true hg80; simpa using this
                        obtain ⟨x, hx⟩ := get_lt hltx
                        refine g_run rfl rfl hg80 ?_
                        refine r_move rfl rfl ?_
                        refine g_run rfl rfl hg80 ?_
                        refine r_cmp rfl rfl rfl rfl ?_
                        refine r_pickT rfl hg80 rfl rfl ?_
                        refine awl_nil ?_
                        refine x_then ?_
                        refine awp_cond rfl (fun hc7 => ?_) (fun hc7 => ?_)
                        ·
                          skip
                          refine awp_skip ?_
                          refine x_then ?_
                          refine awp_seq ?_
                          refine awp_block ?_
                          refine awp_drawS [86, 87, 88, 89, 90, 91, 92, 93, 94, 95, 96] [_, _, _, _, _, _, _, _, _, _, _] [] [(10, 96)] TF.mixed rfl rfl rfl ⟨⟨⟨⟨⟨⟨⟨⟨⟨⟨⟨trivial
                            , ⟨_, rfl, fun sl hd hr ho => by
                                refine r_move (hr 8 _ rfl rfl rfl) rfl ?_
                                exact awl_nil ⟨rfl, post_put⟩⟩⟩
                            , ⟨_, rfl, fun sl hd hr ho => by
                                refine r_move (hr 0 _ rfl rfl rfl) rfl ?_
                                exact awl_nil ⟨rfl, post_put⟩⟩⟩
                            , ⟨_, rfl, fun sl hd hr ho => by
                                refine r_move (hr 10 _ rfl rfl rfl) rfl ?_
                                exact awl_nil ⟨rfl, post_put⟩⟩⟩
                            , ⟨_, rfl, fun sl hd hr ho => by
                                refine r_index (hd 1 _ rfl rfl rfl) rfl (hd 2 _ rfl rfl rfl) TF.sl22 TF.sz30 (by omega) (get_map hm) rfl ?_
                                exact awl_nil ⟨rfl, post_put⟩⟩⟩
                            , ⟨_, rfl, fun sl hd hr ho => by
                                first | (refine r_load1 (hd 3 _ rfl rfl rfl) TF.agg30 rfl ?_) | (refine r_load1b 0 (hd 3 _ rfl rfl rfl) rfl rfl TF.agg30 rfl ?_)
                                exact awl_nil ⟨rfl, post_put⟩⟩⟩
                            , ⟨_, rfl, fun sl hd hr ho => by
                                refine r_move (hr 11 _ rfl rfl rfl) rfl ?_
                                exact awl_nil ⟨rfl, post_put⟩⟩⟩
                            , ⟨_, rfl, fun sl hd hr ho => by
                                refine r_move (hr 12 _ rfl rfl rfl) rfl ?_
                                exact awl_nil ⟨rfl, post_put⟩⟩⟩
                            , ⟨_, rfl, fun sl hd hr ho => by
                                refine r_index (hd 5 _ rfl rfl rfl) rfl (hd 6 _ rfl rfl rfl) TF.sl39 TF.sz44 (by omega) (get_map hx) rfl ?_
                                exact awl_nil ⟨rfl, post_put⟩⟩⟩
                            , ⟨_, rfl, fun sl hd hr ho => by
                                first | (refine r_loadA (hd 7 _ rfl rfl rfl) TF.agg44 TF.sz44 rfl rfl ?_) | (refine r_loadAb 0 (hd 7 _ rfl rfl rfl) rfl TF.agg44 TF.sz44 rfl rfl ?_)
                                exact awl_nil ⟨rfl, post_put⟩⟩⟩
                            , ⟨_, rfl, fun sl hd hr ho => by
                                refine r_build (parts := [(0, .tmp 90), (1, .tmp 94)]) rfl TF.pl46 TF.zero46 (parts_cons (hd 4 _ rfl rfl rfl) (parts_cons (hd 8 _ rfl rfl rfl) parts_nil)) rfl rfl ?_
                                exact awl_nil ⟨rfl, post_put⟩⟩⟩
                            , ⟨_, rfl, fun sl hd hr ho => by
                                refine r_lit 96 (parts := [(0, .tmp 95)]) rfl TF.sl28 TF.sz46 TF.zraw46 rfl rfl (parts_cons (hd 9 _ rfl rfl rfl) parts_nil) rfl rfl rfl rfl ?_
                                exact awl_nil ⟨rfl, (post_dem (ho 96 (List.mem_of_elem_eq_true rfl)))⟩⟩⟩
                            (by rfl) ?_
                          refine r_append 8 rfl (by first | exact .own _ | exact .nil) rfl (by first | exact .sl _ | exact .own _ _ | exact .nil) TF.sl28 TF.sz46 (by decide) TF.by46 TF.zlen46 (by simp [chunks] <;> omega) (by simp [chunks] <;> omega) rfl ?_
                          refine r_assign rfl rfl ?_
                          refine awl_nil ?_
                          refine x_block ?_
                          refine x_then ?_
                          refine awp_region ?_
                          refine r_move rfl rfl ?_
                          refine r_ari _ rfl rfl rfl (wrap_id (by first | omega | (simp; omega))) rfl ?_
                          refine r_assign rfl rfl ?_
                          refine awl_nil ?_
                          refine x_then ?_
                          have et : (want ++ ((OfF was (filesD d)).take (k + 1)).map (Ev.mk m)).map Ev.cs = (want ++ ((OfF was (filesD d)).take k).map (Ev.mk m)).map Ev.cs ++ [Ev.cs ⟨m, x⟩] := by rw [map_take hx, ← List.append_assoc, List.map_append]; rfl
                          refine ⟨(OfF was (filesD d)).length - (k + 1), ⟨113, [(0, .a (numsA ms)), (1, .a (disksA ds)), (5, .a (.v (.pointer (some ⟨b5, 0, none⟩)))), (7, .a (evsA (tlF ms (atF ms ds)))), (8, .own 8 5 ((want ++ ((OfF was (filesD d)).take (k + 1)).map (Ev.mk m)).map Ev.cs)), (10, .a (.v (.int .i64 ((i : Int))))), (11, .a (fcsA (OfF was (filesD d)))), (12, .a (.v (.int .i64 (((k + 1) : Int)))))], [⟨b5, true, .box [.sl 1 (ms.map fun m => [AV.v (.int .u64 m)])]⟩]⟩, ⟨rfl, (Slots.cons rfl (by first | exact .refl _ | exact .nilOwn _ _ | exact .nilSl _ | exact .ownSl _ _ _  | exact SV.le.ownEq (by first | rfl | (rw [et]; rfl)) | exact SV.le.of_eq (by first | rfl | (rw [et]; rfl))) (Slots.cons rfl (by first | exact .refl _ | exact .nilOwn _ _ | exact .nilSl _ | exact .ownSl _ _ _  | exact SV.le.ownEq (by first | rfl | (rw [et]; rfl)) | exact SV.le.of_eq (by first | rfl | (rw [et]; rfl))) (Slots.cons rfl (by first | exact .refl _ | exact .nilOwn _ _ | exact .nilSl _ | exact .ownSl _ _ _  | exact SV.le.ownEq (by first | rfl | (rw [et]; rfl)) | exact SV.le.of_eq (by first | rfl | (rw [et]; rfl))) (Slots.cons rfl (by first | exact .refl _ | exact .nilOwn _ _ | exact .nilSl _ | exact .ownSl _ _ _  | exact SV.le.ownEq (by first | rfl | (rw [et]; rfl)) | exact SV.le.of_eq (by first | rfl | (rw [et]; rfl))) (Slots.cons rfl (by first | exact .refl _ | exact .nilOwn _ _ | exact .nilSl _ | exact .ownSl _ _ _  | exact SV.le.ownEq (by first | rfl | (rw [et]; rfl)) | exact SV.le.of_eq (by first | rfl | (rw [et]; rfl))) (Slots.cons rfl (by first | exact .refl _ | exact .nilOwn _ _ | exact .nilSl _ | exact .ownSl _ _ _  | exact SV.le.ownEq (by first | rfl | (rw [et]; rfl)) | exact SV.le.of_eq (by first | rfl | (rw [et]; rfl))) (Slots.cons rfl (by first | exact .refl _ | exact .nilOwn _ _ | exact .nilSl _ | exact .ownSl _ _ _  | exact SV.le.ownEq (by first | rfl | (rw [et]; rfl)) | exact SV.le.of_eq (by first | rfl | (rw [et]; rfl))) (Slots.cons rfl (by first | exact .refl _ | exact .nilOwn _ _ | exact .nilSl _ | exact .ownSl _ _ _  | exact SV.le.ownEq (by first | rfl | (rw [et]; rfl)) | exact SV.le.of_eq (by first | rfl | (rw [et]; rfl))) Slots.nil)))))))), (by first | exact List.Sublist.refl _ | exact .cons_cons _ (.cons _ (.refl _)) | exact List.nil_sublist _ | exact .cons _ (.refl _) | exact .cons _ (.cons _ (.refl _)) | exact .cons _ (.cons _ (.cons _ (.refl _))) | exact .cons _ (.cons _ (.cons _ (.cons _ (.refl _)))) | exact .cons_cons _ (List.nil_sublist _))⟩, (by omega), ⟨k + 1, rfl, rfl, (by omega)⟩⟩
                        ·
                          have hge2 : (OfF was (filesD d)).length ≤ k := by first | exact hge | (have := of_decide_eq_false hc7; omega)
                          have hkt : (OfF was (filesD d)).take k = (OfF was (filesD d)) := List.take_of_length_le hge2
                          rw [hkt]
                          refine awp_exit ?_
                          refine x_thenE ?_
                          refine x_thenE ?_
                          refine x_blockE ?_
                          refine x_then ?_
                          refine awp_region ?_
                          refine r_move rfl rfl ?_
                          refine r_move rfl rfl ?_
                          refine r_index rfl rfl rfl TF.sl23 TF.sz38 (by omega) (get_map hdk) rfl ?_
                          first | (refine r_loadA rfl TF.agg38 TF.sz38 rfl rfl ?_) | (refine r_loadAb 0 rfl rfl TF.agg38 TF.sz38 rfl rfl ?_)
                          refine r_call0 hq rfl rfl (.cons (.ev rfl rfl) .nil) (files_ok d (hok d (List.mem_of_getElem? hdk))) rfl TF.en18 rfl (fun r hr => ?_)
                          obtain rfl := hr
                          refine r_assign rfl rfl ?_
                          refine awl_nil ?_
                          refine x_block ?_
                          refine x_then ?_
                          refine awp_region ?_
                          refine r_move rfl rfl ?_
                          refine r_ari _ rfl rfl rfl (wrap_id (by first | omega | (simp; omega))) rfl ?_
                          refine r_assign rfl rfl ?_
                          refine awl_nil ?_
                          refine x_then ?_
                          refine ⟨ms.length - (i + 1), ⟨113, [(0, .a (numsA ms)), (1, .a (disksA ds)), (5, .a (.v (.pointer (some ⟨b5, 0, none⟩)))), (7, .a (evsA (tlF ms (atF ms ds)))), (8, .own 8 5 (((want ++ (OfF was (filesD d)).map (Ev.mk m))).map Ev.cs)), (9, .a (files ((filesD d)))), (10, .a (.v (.int .i64 (((i + 1) : Int)))))], [⟨b5, true, .box [.sl 1 (ms.map fun m => [AV.v (.int .u64 m)])]⟩]⟩, ⟨rfl, (Slots.cons rfl (by first | exact .refl _ | exact .nilOwn _ _ | exact .nilSl _ | exact .ownSl _ _ _  | exact SV.le.of_eq (by simp)) (Slots.cons rfl (by first | exact .refl _ | exact .nilOwn _ _ | exact .nilSl _ | exact .ownSl _ _ _  | exact SV.le.of_eq (by simp)) (Slots.cons rfl (by first | exact .refl _ | exact .nilOwn _ _ | exact .nilSl _ | exact .ownSl _ _ _  | exact SV.le.of_eq (by simp)) (Slots.cons rfl (by first | exact .refl _ | exact .nilOwn _ _ | exact .nilSl _ | exact .ownSl _ _ _  | exact SV.le.of_eq (by simp)) (Slots.cons rfl (by first | exact .refl _ | exact .nilOwn _ _ | exact .nilSl _ | exact .ownSl _ _ _  | exact SV.le.of_eq (by simp)) (Slots.cons rfl (by first | exact .refl _ | exact .nilOwn _ _ | exact .nilSl _ | exact .ownSl _ _ _  | exact SV.le.of_eq (by simp)) (Slots.cons rfl (by first | exact .refl _ | exact .nilOwn _ _ | exact .nilSl _ | exact .ownSl _ _ _  | exact SV.le.of_eq (by simp)) Slots.nil))))))), (by first | exact List.Sublist.refl _ | exact .cons_cons _ (.cons _ (.refl _)) | exact List.nil_sublist _ | exact .cons _ (.refl _) | exact .cons _ (.cons _ (.refl _)) | exact .cons _ (.cons _ (.cons _ (.refl _))) | exact .cons _ (.cons _ (.cons _ (.cons _ (.refl _)))) | exact .cons_cons _ (List.nil_sublist _))⟩, (by omega), ⟨i + 1, (filesD d), (want ++ (OfF was (filesD d)).map (Ev.mk m)), rfl, rfl, (by omega), hst2, (goodD d), (by simp; omega)⟩⟩
                      ·
                        have hge : (OfF was (filesD d)).length ≤ k := by have := of_decide_eq_false hg80; simp at this; omega
                        refine g_skip rfl rfl hg80 rfl ?_
                        refine g_skip rfl rfl hg80 rfl ?_
                        refine r_pickF rfl hg80 rfl rfl ?_
                        refine awl_nil ?_
                        refine x_then ?_
                        refine awp_condF rfl ?_
                        have hge2 : (OfF was (filesD d)).length ≤ k := by first | exact hge | (have := of_decide_eq_false hc7; omega)
                        have hkt : (OfF was (filesD d)).take k = (OfF was (filesD d)) := List.take_of_length_le hge2
                        rw [hkt]
                        refine awp_exit ?_
                        refine x_thenE ?_
                        refine x_thenE ?_
                        refine x_blockE ?_
                        refine x_then ?_
                        refine awp_region ?_
                        refine r_move rfl rfl ?_
                        refine r_move rfl rfl ?_
                        refine r_index rfl rfl rfl TF.sl23 TF.sz38 (by omega) (get_map hdk) rfl ?_
                        first | (refine r_loadA rfl TF.agg38 TF.sz38 rfl rfl ?_) | (refine r_loadAb 0 rfl rfl TF.agg38 TF.sz38 rfl rfl ?_)
                        refine r_call0 hq rfl rfl (.cons (.ev rfl rfl) .nil) (files_ok d (hok d (List.mem_of_getElem? hdk))) rfl TF.en18 rfl (fun r hr => ?_)
                        obtain rfl := hr
                        refine r_assign rfl rfl ?_
                        refine awl_nil ?_
                        refine x_block ?_
                        refine x_then ?_
                        refine awp_region ?_
                        refine r_move rfl rfl ?_
                        refine r_ari _ rfl rfl rfl (wrap_id (by first | omega | (simp; omega))) rfl ?_
                        refine r_assign rfl rfl ?_
                        refine awl_nil ?_
                        refine x_then ?_
                        refine ⟨ms.length - (i + 1), ⟨113, [(0, .a (numsA ms)), (1, .a (disksA ds)), (5, .a (.v (.pointer (some ⟨b5, 0, none⟩)))), (7, .a (evsA (tlF ms (atF ms ds)))), (8, .own 8 5 (((want ++ (OfF was (filesD d)).map (Ev.mk m))).map Ev.cs)), (9, .a (files ((filesD d)))), (10, .a (.v (.int .i64 (((i + 1) : Int)))))], [⟨b5, true, .box [.sl 1 (ms.map fun m => [AV.v (.int .u64 m)])]⟩]⟩, ⟨rfl, (Slots.cons rfl (by first | exact .refl _ | exact .nilOwn _ _ | exact .nilSl _ | exact .ownSl _ _ _  | exact SV.le.of_eq (by simp)) (Slots.cons rfl (by first | exact .refl _ | exact .nilOwn _ _ | exact .nilSl _ | exact .ownSl _ _ _  | exact SV.le.of_eq (by simp)) (Slots.cons rfl (by first | exact .refl _ | exact .nilOwn _ _ | exact .nilSl _ | exact .ownSl _ _ _  | exact SV.le.of_eq (by simp)) (Slots.cons rfl (by first | exact .refl _ | exact .nilOwn _ _ | exact .nilSl _ | exact .ownSl _ _ _  | exact SV.le.of_eq (by simp)) (Slots.cons rfl (by first | exact .refl _ | exact .nilOwn _ _ | exact .nilSl _ | exact .ownSl _ _ _  | exact SV.le.of_eq (by simp)) (Slots.cons rfl (by first | exact .refl _ | exact .nilOwn _ _ | exact .nilSl _ | exact .ownSl _ _ _  | exact SV.le.of_eq (by simp)) (Slots.cons rfl (by first | exact .refl _ | exact .nilOwn _ _ | exact .nilSl _ | exact .ownSl _ _ _  | exact SV.le.of_eq (by simp)) Slots.nil))))))), (by first | exact List.Sublist.refl _ | exact .cons_cons _ (.cons _ (.refl _)) | exact List.nil_sublist _ | exact .cons _ (.refl _) | exact .cons _ (.cons _ (.refl _)) | exact .cons _ (.cons _ (.cons _ (.refl _))) | exact .cons _ (.cons _ (.cons _ (.cons _ (.refl _)))) | exact .cons_cons _ (List.nil_sublist _))⟩, (by omega), ⟨i + 1, (filesD d), (want ++ (OfF was (filesD d)).map (Ev.mk m)), rfl, rfl, (by omega), hst2, (goodD d), (by simp; omega)⟩⟩
              ·
                have hge : ms.length ≤ i := by have := of_decide_eq_false hc4; simp at this; omega
                obtain rfl : i = ms.length := by omega
                rw [List.take_length] at hst
                have htl : tlF ms (atF ms ds) = want := by unfold tlF; rw [hrf, hst]; rfl
                rw [htl]
                refine awp_exit ?_
                refine x_thenE ?_
                refine x_thenE ?_
                refine x_blockE ?_
                refine x_then ?_
                refine awp_seq ?_
                refine awp_region ?_
                refine r_move rfl rfl ?_
                refine r_move rfl rfl ?_
                refine r_call0 hq rfl rfl (.cons (.ev rfl rfl) (.cons (.ev rfl rfl) .nil)) (same_ok want (by omega)) rfl TF.en19 rfl (fun r hr => ?_)
                obtain rfl := hr
                refine r_cmp rfl rfl rfl rfl ?_
                refine r_move rfl rfl ?_
                refine g_run rfl rfl rfl ?_
                refine r_move rfl rfl ?_
                refine g_run rfl rfl rfl ?_
                refine r_call0 hq rfl rfl (.cons (.ev rfl rfl) (.cons (.ev rfl rfl) .nil)) (tlnil_ok ms) rfl TF.en14 rfl (fun r hr => ?_)
                obtain rfl := hr
                refine g_run rfl rfl rfl ?_
                first | (refine r_lenS rfl rfl TF.sl28 rfl ?_) | (refine r_lenNil rfl TF.sl28 rfl ?_) | (refine r_lenV rfl TF.sl28 rfl ?_)
                refine g_run rfl rfl rfl ?_
                refine r_cmp rfl rfl rfl rfl ?_
                refine r_pickT rfl rfl rfl rfl ?_
                refine r_assign rfl rfl ?_
                refine awl_nil ?_
                refine x_then ?_
                refine awp_ret ?_
                exact ⟨(.inl rfl), _, [], (.one (by first | exact .mk rfl rfl | exact .nil rfl)), ⟨rfl, rfl⟩, (List.nil_sublist _), (by simp)⟩
        ·
          obtain rfl := hA2 hrf
          rw [show tlF ms (atF ms ds) = [] from by unfold tlF; rw [hrf]; rfl]
          refine r_assign rfl rfl ?_
          refine awl_nil ?_
          refine x_then ?_
          refine awp_seq ?_
          refine awp_seq ?_
          refine awp_region ?_
          refine r_move rfl rfl ?_
          refine r_call0 hq rfl rfl (.cons (.ev rfl rfl) .nil) (rrise_ok ms (by omega)) rfl TF.en16 rfl (fun r hr => ?_)
          obtain rfl := hr
          refine r_not rfl rfl ?_
          refine awl_nil ?_
          refine x_then ?_
          refine awp_cond rfl (fun hc2 => ?_) (fun hc2 => ?_)
          ·
            refine awp_seq ?_
            refine awp_region ?_
            refine r_move rfl rfl ?_
            first | (refine r_lenS rfl rfl TF.sl28 rfl ?_) | (refine r_lenNil rfl TF.sl28 rfl ?_) | (refine r_lenV rfl TF.sl28 rfl ?_)
            refine r_cmp rfl rfl rfl rfl ?_
            refine r_move rfl rfl ?_
            refine g_run rfl rfl rfl ?_
            refine r_move rfl rfl ?_
            refine g_run rfl rfl rfl ?_
            refine r_call0 hq rfl rfl (.cons (.ev rfl rfl) (.cons (.ev rfl rfl) .nil)) (tlnil_ok ms) rfl TF.en14 rfl (fun r hr => ?_)
            obtain rfl := hr
            refine g_run rfl rfl rfl ?_
            first | (refine r_lenS rfl rfl TF.sl28 rfl ?_) | (refine r_lenNil rfl TF.sl28 rfl ?_) | (refine r_lenV rfl TF.sl28 rfl ?_)
            refine g_run rfl rfl rfl ?_
            refine r_cmp rfl rfl rfl rfl ?_
            refine r_pickT rfl rfl rfl rfl ?_
            refine r_assign rfl rfl ?_
            refine awl_nil ?_
            refine x_then ?_
            refine awp_ret ?_
            refine x_thenR ?_
            exact ⟨(.inl rfl), _, [], (.one (by first | exact .mk rfl rfl | exact .nil rfl)), ⟨rfl, rfl⟩, (List.nil_sublist _), (by simp)⟩
          ·
            exfalso; rw [hrf] at hc2; cases hc2

end Go.Proofs.Ytmbfmnhcahhciaa.A

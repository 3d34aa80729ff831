/- Layer 32: walks of places, Three and Same. -/
import Derived.Test.YtcgjgnkpebpimaaProg
import Derived.KernelRfl
import Derived.Test.YtcgjgnkpebpimaaX32B
import Derived.Test.YtcgjgnkpebpimaaX32P
namespace Go.Proofs.Ytcgjgnkpebpimaa.A
open Go Go.RowKit
set_option linter.unusedVariables false
set_option linter.unusedSimpArgs false
set_option maxRecDepth 100000

theorem T.sl76 : sliceT Try.prog 76 = some 55 := by kernel_rfl
theorem T.en39 : entersT Try.prog 39 := enters_of Try.func39 (by kernel_rfl) (by kernel_rfl)
theorem T.en41 : entersT Try.prog 41 := enters_of Try.func41 (by kernel_rfl) (by kernel_rfl)
theorem T.en40 : entersT Try.prog 40 := enters_of Try.func40 (by kernel_rfl) (by kernel_rfl)
theorem T.un29 : Try.prog.underlying 29 = some (.func #[23, 23] #[4] false) := by kernel_rfl
theorem T.en25 : entersT Try.prog 25 := enters_of Try.func25 (by kernel_rfl) (by kernel_rfl)
theorem T.zraw55 : zeroT Try.prog 55 = some [(.map none)] := by kernel_rfl
theorem T.en26 : entersT Try.prog 26 := enters_of Try.func26 (by kernel_rfl) (by kernel_rfl)
theorem T.zav23 : ZeroAV Try.prog 23 (.v (.int .u64 0)) := ⟨.v (.int .u64 0), by kernel_rfl, .one (.refl _)⟩
theorem T.en27 : entersT Try.prog 27 := enters_of Try.func27 (by kernel_rfl) (by kernel_rfl)
theorem T.pl35 : placesT Try.prog 35 = some [(0, 1), (1, 1), (2, 1)] := by kernel_rfl
theorem T.zraw35 : zeroT Try.prog 35 = some [(.int .i64 0), (.int .i64 0), (.int .u64 0)] := by kernel_rfl
theorem T.by35 : bytesT Try.prog 35 = some 24 := by kernel_rfl
theorem T.zlen35 : (zeroT Try.prog 35).map (·.length) = some 3 := by kernel_rfl
theorem T.pl37 : placesT Try.prog 37 = some [(0, 1), (1, 1), (2, 1), (3, 1), (4, 1)] := by kernel_rfl
theorem T.zero37 : ZeroT Try.prog 37 [.v (.int .i64 0), .v (.int .i64 0), .v (.int .u64 0), .v (.int .u64 0), .v (.int .u64 0)] := ⟨[(.int .i64 0), (.int .i64 0), (.int .u64 0), (.int .u64 0), (.int .u64 0)], by kernel_rfl, (LeCells.refl _)⟩
theorem T.sl26 : sliceT Try.prog 26 = some 37 := by kernel_rfl
theorem T.sz37 : szT Try.prog 37 = some 5 := by kernel_rfl
theorem T.zraw37 : zeroT Try.prog 37 = some [(.int .i64 0), (.int .i64 0), (.int .u64 0), (.int .u64 0), (.int .u64 0)] := by kernel_rfl
theorem T.by37 : bytesT Try.prog 37 = some 40 := by kernel_rfl
theorem T.zlen37 : (zeroT Try.prog 37).map (·.length) = some 5 := by kernel_rfl

theorem ro_ob {bl : List (Nat × List Ent)} {fl : Bool} : ro (bl.map fun p => (⟨p.1, fl, .map (encM ekP numA (shownM p.2))⟩ : OE)) = (bl.map fun p => (⟨p.1, false, .map (encM ekP numA (shownM p.2))⟩ : OE)) := by simp [ro]
theorem in_ob {bl : List (Nat × List Ent)} {k : Nat} {x : Nat × List Ent} (h : bl[k]? = some x) : [(⟨x.1, false, .map (encM ekP numA (shownM x.2))⟩ : OE)].Sublist (bl.map fun p => (⟨p.1, false, .map (encM ekP numA (shownM p.2))⟩ : OE)) :=
  List.singleton_sublist.2 (List.mem_map.2 ⟨x, List.mem_of_getElem? h, rfl⟩)

theorem places_ok (bl : List (Nat × List Ent)) (hbl : bl.length ≤ 3) (hll : ∀ p ∈ bl, p.2.length ≤ 1000) {fl : Bool} : AC Try.prog 26 [.sl 1 (bl.map fun p => [AV.v (.map (some p.1))])] (bl.map fun p => (⟨p.1, fl, .map (encM ekP numA (shownM p.2))⟩ : OE)) (fun r n => n = [] ∧ r = plsA (placesF (bl.map (·.2)))) := by
  refine ac_of_awp (rs := [2]) (nt := 20) Try.func26 rfl rfl rfl rfl (fun w0 C0 hq => ?_)
  refine awp_seq ?_
  refine awp_region ?_
  refine r_assign rfl rfl ?_
  refine awl_nil ?_
  refine x_then ?_
  refine awp_seq ?_
  refine awp_region ?_
  refine r_makeMap (ek := ekP) (ev := numA) [] rfl rfl (fun b6 => ?_)
  refine r_assign rfl rfl ?_
  refine awl_nil ?_
  refine x_then ?_
  refine awp_seq ?_
  refine awp_seq ?_
  refine awp_region ?_
  refine r_move rfl rfl ?_
  first | (refine r_lenS rfl rfl T.sl76 rfl ?_) | (refine r_lenNil rfl T.sl76 rfl ?_)
  refine r_move rfl rfl ?_
  refine awl_nil ?_
  refine x_then ?_
  refine awp_block ?_
  refine awp_loop (fun nn0 S => ∃ k : Nat, ∃ m : List (PL × Int), S = ⟨20, [(3, .a (.v (.map (some b6)))), (7, .a (.sl 1 (bl.map fun p => [AV.v (.map (some p.1))]))), (8, .a (.v (.int .i64 ((bl.map fun p => [AV.v (.map (some p.1))]).length)))), (9, .a (.v (.int .i64 ((k : Int)))))], ⟨b6, true, .map (encM ekP numA m)⟩ :: ro (bl.map fun p => (⟨p.1, fl, .map (encM ekP numA (shownM p.2))⟩ : OE))⟩ ∧ nn0 = bl.length - k ∧ (k ≤ bl.length) ∧ (AllOf m ((bl.take k).map (·.2)))) (bl.length - (0)) ⟨20, [(3, .a (.v (.map (some b6)))), (7, .a (.sl 1 (bl.map fun p => [AV.v (.map (some p.1))]))), (8, .a (.v (.int .i64 ((bl.map fun p => [AV.v (.map (some p.1))]).length)))), (9, .a (.v (.int .i64 (((0) : Int)))))], ⟨b6, true, .map (encM ekP numA ([]))⟩ :: ro (bl.map fun p => (⟨p.1, fl, .map (encM ekP numA (shownM p.2))⟩ : OE))⟩ ⟨rfl, (Slots.cons rfl (by first | exact .refl _ | exact .nilOwn _ _ | exact .nilSl _ | exact .ownSl _ _ _  | exact SV.le.of_eq (by simp)) (Slots.cons rfl (by first | exact .refl _ | exact .nilOwn _ _ | exact .nilSl _ | exact .ownSl _ _ _  | exact SV.le.of_eq (by simp)) (Slots.cons rfl (by first | exact .refl _ | exact .nilOwn _ _ | exact .nilSl _ | exact .ownSl _ _ _  | exact SV.le.of_eq (by simp)) (Slots.cons rfl (by first | exact .refl _ | exact .nilOwn _ _ | exact .nilSl _ | exact .ownSl _ _ _  | exact SV.le.of_eq (by simp)) Slots.nil)))), (by first | exact List.Sublist.refl _ | exact .cons_cons _ (.cons _ (.refl _)) | exact List.nil_sublist _ | exact .cons _ (.refl _) | exact .cons _ (.cons _ (.refl _)) | exact .cons _ (.cons _ (.cons _ (.refl _))) | exact .cons _ (.cons _ (.cons _ (.cons _ (.refl _)))) | exact .cons_cons _ (List.nil_sublist _))⟩ ⟨0, [], rfl, rfl, Nat.zero_le _, allOf_nil⟩ ?_
  rintro nn0 _ ⟨k, m, rfl, rfl, hk, hm⟩
  refine awp_seq ?_
  refine awp_region ?_
  refine r_cmp rfl rfl rfl rfl ?_
  refine awl_nil ?_
  refine x_then ?_
  refine awp_seq ?_
  refine awp_cond rfl (fun hc0 => ?_) (fun hc0 => ?_)
  ·
    have hltx : k < bl.length := by have := of_decide_eq_true hc0; simpa using this
    obtain ⟨x, hx⟩ := get_lt hltx
    refine awp_skip ?_
    refine x_then ?_
    refine awp_seq ?_
    refine awp_block ?_
    refine awp_seq ?_
    refine awp_region ?_
    refine r_index rfl rfl rfl T.sl76 T.sz55 (by omega) (get_map hx) rfl ?_
    first | (refine r_load1 rfl T.agg55 rfl ?_) | (refine r_load1b 0 rfl rfl rfl T.agg55 rfl ?_) | (refine r_load1b 1 rfl rfl rfl T.agg55 rfl ?_)
    refine r_assign rfl rfl ?_
    refine awl_nil ?_
    refine x_then ?_
    refine awp_region ?_
    refine r_move rfl rfl ?_
    refine r_move rfl rfl ?_
    refine r_callW hq [true] rfl rfl (.cons (.ev rfl rfl) (.cons (.ev rfl rfl) .nil)) (copy_ok m (shownM x.2)) rfl T.en39 rfl rfl (by rw [ro_ob]; exact in_ob hx) rfl (fun r nobjs hr => ?_)
    obtain ⟨rfl, es, hes, rfl⟩ := hr
    refine awl_nil ?_
    refine x_block ?_
    refine x_then ?_
    refine awp_region ?_
    refine r_ari _ rfl rfl rfl (wrap_id (by first | omega | (simp; omega))) rfl ?_
    refine r_move rfl rfl ?_
    refine awl_nil ?_
    refine x_then ?_
    refine ⟨bl.length - (k + 1), ⟨20, [(3, .a (.v (.map (some b6)))), (7, .a (.sl 1 (bl.map fun p => [AV.v (.map (some p.1))]))), (8, .a (.v (.int .i64 ((bl.map fun p => [AV.v (.map (some p.1))]).length)))), (9, .a (.v (.int .i64 (((k + 1) : Int)))))], ⟨b6, true, .map (encM ekP numA (List.foldl (fun (m : List (PL × Int)) (e : PL × Int) => mset m e.1 e.2) m es))⟩ :: ro (bl.map fun p => (⟨p.1, fl, .map (encM ekP numA (shownM p.2))⟩ : OE))⟩, ⟨rfl, (Slots.cons rfl (by first | exact .refl _ | exact .nilOwn _ _ | exact .nilSl _ | exact .ownSl _ _ _  | exact SV.le.of_eq (by simp)) (Slots.cons rfl (by first | exact .refl _ | exact .nilOwn _ _ | exact .nilSl _ | exact .ownSl _ _ _  | exact SV.le.of_eq (by simp)) (Slots.cons rfl (by first | exact .refl _ | exact .nilOwn _ _ | exact .nilSl _ | exact .ownSl _ _ _  | exact SV.le.of_eq (by simp)) (Slots.cons rfl (by first | exact .refl _ | exact .nilOwn _ _ | exact .nilSl _ | exact .ownSl _ _ _  | exact SV.le.of_eq (by simp)) Slots.nil)))), (by first | exact List.Sublist.refl _ | exact .cons_cons _ (.cons _ (.refl _)) | exact List.nil_sublist _ | exact .cons _ (.refl _) | exact .cons _ (.cons _ (.refl _)) | exact .cons _ (.cons _ (.cons _ (.refl _))) | exact .cons _ (.cons _ (.cons _ (.cons _ (.refl _)))) | exact .cons_cons _ (List.nil_sublist _))⟩, (by omega), ⟨k + 1, List.foldl (fun (m : List (PL × Int)) (e : PL × Int) => mset m e.1 e.2) m es, rfl, rfl, (by have := (List.getElem?_eq_some_iff.1 hx).1; omega), (by rw [map_take hx]; exact allOf_step hm hes (hll x (List.mem_of_getElem? hx)))⟩⟩
  ·
    have hge : bl.length ≤ k := by have := of_decide_eq_false hc0; simp at this; omega
    rw [List.take_of_length_le hge] at hm
    have hml : m.length ≤ 1000000 := by have := hm.len; simp at this; omega
    refine awp_exit ?_
    refine x_thenE ?_
    refine x_thenE ?_
    refine x_blockE ?_
    refine x_then ?_
    refine awp_seq ?_
    refine awp_region ?_
    refine r_move rfl rfl ?_
    refine r_call0 hq rfl rfl (.cons (.ev rfl rfl) .nil) (keys_ok b6) rfl T.en41 rfl (fun r hr => ?_)
    obtain rfl := hr
    refine r_callO hq rfl rfl (.cons (.ev rfl rfl) (.cons (.ev rfl rfl) .nil)) (sortedFunc_ok m hml) rfl T.en40 (.cons_cons _ (List.nil_sublist _)) rfl (fun r nobjs hr => ?_)
    obtain ⟨rfl, kl, hkl, rfl⟩ := hr
    refine r_assign rfl rfl ?_
    refine awl_nil ?_
    refine x_then ?_
    refine awp_ret ?_
    exact ⟨(.inl rfl), _, [], (.one (by first | exact .mk rfl rfl | exact .nil rfl)), ⟨rfl, by rw [allOf_places hm hkl]; rfl⟩, (List.nil_sublist _), (by simp)⟩

theorem alikeN_ok (a b : Int) (ha : 0 ≤ a) (hb : 0 ≤ b) : AC Try.prog 27 [numA a, numA b, .v .nilFunc] [] (fun r n => n = [] ∧ r = bA (alikeF (fun _ _ => false) a b)) := by
  refine ac_of_awp (rs := [6]) (nt := 28) Try.func27 rfl rfl rfl rfl (fun w0 C0 hq => ?_)
  refine awp_seq ?_
  refine awp_region ?_
  refine r_assign rfl rfl ?_
  refine awl_nil ?_
  refine x_then ?_
  refine awp_seq ?_
  refine awp_region ?_
  refine r_move rfl rfl ?_
  refine r_move rfl rfl ?_
  refine r_cmp rfl rfl rfl rfl ?_
  refine r_move rfl rfl ?_
  refine g_cases (t' := 10) rfl (fun hg10 => ?_) (fun hg10 => ?_)
  ·
    have h1 : a = b := eq_of_beq hg10
    refine g_skip rfl rfl hg10 rfl ?_
    refine g_skip rfl rfl hg10 rfl ?_
    refine g_skip rfl rfl hg10 rfl ?_
    refine g_skipU rfl rfl rfl ?_
    refine g_skipU rfl rfl rfl ?_
    refine g_skip rfl rfl hg10 rfl ?_
    refine g_skip rfl rfl hg10 rfl ?_
    refine g_skipU rfl rfl rfl ?_
    refine g_skipU rfl rfl rfl ?_
    refine g_skip rfl rfl hg10 rfl ?_
    refine g_skip rfl rfl hg10 rfl ?_
    refine g_skipU rfl rfl rfl ?_
    refine g_skipU rfl rfl rfl ?_
    refine g_skipU rfl rfl rfl ?_
    refine g_skipU rfl rfl rfl ?_
    refine g_skip rfl rfl hg10 rfl ?_
    refine r_pickT rfl hg10 rfl rfl ?_
    refine r_assign rfl rfl ?_
    refine awl_nil ?_
    refine x_then ?_
    refine awp_ret ?_
    exact ⟨(.inl rfl), _, [], (.one (by first | exact .mk rfl rfl | exact .nil rfl)), ⟨rfl, by first | (simp [alikeF, bA, SV.av, *]; done) | (simp [alikeF, bA, SV.av, *]; omega)⟩, (List.nil_sublist _), (by simp)⟩
  ·
    have h1 : ¬ a = b := by simpa using hg10
    refine g_run rfl rfl hg10 ?_
    refine r_move rfl rfl ?_
    refine g_run rfl rfl hg10 ?_
    refine r_cmp rfl rfl rfl rfl ?_
    refine g_run rfl rfl hg10 ?_
    refine r_move rfl rfl ?_
    refine g_cases (t' := 13) rfl (fun hg13 => ?_) (fun hg13 => ?_)
    ·
      have h2 : ¬ a = 0 := by simpa using hg13
      refine g_run rfl rfl hg13 ?_
      refine r_move rfl rfl ?_
      refine g_run rfl rfl hg13 ?_
      refine r_cmp rfl rfl rfl rfl ?_
      refine g_run rfl rfl hg10 ?_
      refine r_pickT rfl hg13 rfl rfl ?_
      refine g_run rfl rfl hg10 ?_
      refine r_move rfl rfl ?_
      refine g_cases (t' := 17) rfl (fun hg17 => ?_) (fun hg17 => ?_)
      ·
        have h3 : ¬ b = 0 := by simpa using hg17
        refine g_run rfl rfl hg17 ?_
        refine r_move rfl rfl ?_
        refine g_run rfl rfl hg17 ?_
        first | (refine r_fn_ne rfl T.un29 rfl ?_) | (refine r_nofn_ne rfl T.un29 rfl ?_)
        refine g_run rfl rfl hg10 ?_
        refine r_pickT rfl hg17 rfl rfl ?_
        refine g_run rfl rfl hg10 ?_
        refine r_move rfl rfl ?_
        refine g_cases (t' := 21) rfl (fun hg21 => ?_) (fun hg21 => ?_)
        ·
          simp at hg21
        ·
          refine g_skip rfl rfl hg21 rfl ?_
          refine g_skip rfl rfl hg21 rfl ?_
          refine g_skip rfl rfl hg21 rfl ?_
          refine g_skip rfl rfl hg21 rfl ?_
          refine g_run rfl rfl hg10 ?_
          refine r_pickF rfl hg21 rfl rfl ?_
          refine r_pickF rfl hg10 rfl rfl ?_
          refine r_assign rfl rfl ?_
          refine awl_nil ?_
          refine x_then ?_
          refine awp_ret ?_
          exact ⟨(.inl rfl), _, [], (.one (by first | exact .mk rfl rfl | exact .nil rfl)), ⟨rfl, by first | (simp [alikeF, bA, SV.av, *]; done) | (simp [alikeF, bA, SV.av, *]; omega)⟩, (List.nil_sublist _), (by simp)⟩
      ·
        have h3 : b = 0 := by simpa using hg17
        refine g_skip rfl rfl hg17 rfl ?_
        refine g_skip rfl rfl hg17 rfl ?_
        refine g_run rfl rfl hg10 ?_
        refine r_pickF rfl hg17 rfl rfl ?_
        refine g_run rfl rfl hg10 ?_
        refine r_move rfl rfl ?_
        refine g_skip rfl rfl rfl rfl ?_
        refine g_skip rfl rfl rfl rfl ?_
        refine g_skip rfl rfl rfl rfl ?_
        refine g_skip rfl rfl rfl rfl ?_
        refine g_run rfl rfl hg10 ?_
        refine r_pickF rfl rfl rfl rfl ?_
        refine r_pickF rfl hg10 rfl rfl ?_
        refine r_assign rfl rfl ?_
        refine awl_nil ?_
        refine x_then ?_
        refine awp_ret ?_
        exact ⟨(.inl rfl), _, [], (.one (by first | exact .mk rfl rfl | exact .nil rfl)), ⟨rfl, by first | (simp [alikeF, bA, SV.av, *]; done) | (simp [alikeF, bA, SV.av, *]; omega)⟩, (List.nil_sublist _), (by simp)⟩
    ·
      have h2 : a = 0 := by simpa using hg13
      refine g_skip rfl rfl hg13 rfl ?_
      refine g_skip rfl rfl hg13 rfl ?_
      refine g_run rfl rfl hg10 ?_
      refine r_pickF rfl hg13 rfl rfl ?_
      refine g_run rfl rfl hg10 ?_
      refine r_move rfl rfl ?_
      refine g_skip rfl rfl rfl rfl ?_
      refine g_skip rfl rfl rfl rfl ?_
      refine g_run rfl rfl hg10 ?_
      refine r_pickF rfl rfl rfl rfl ?_
      refine g_run rfl rfl hg10 ?_
      refine r_move rfl rfl ?_
      refine g_skip rfl rfl rfl rfl ?_
      refine g_skip rfl rfl rfl rfl ?_
      refine g_skip rfl rfl rfl rfl ?_
      refine g_skip rfl rfl rfl rfl ?_
      refine g_run rfl rfl hg10 ?_
      refine r_pickF rfl rfl rfl rfl ?_
      refine r_pickF rfl hg10 rfl rfl ?_
      refine r_assign rfl rfl ?_
      refine awl_nil ?_
      refine x_then ?_
      refine awp_ret ?_
      exact ⟨(.inl rfl), _, [], (.one (by first | exact .mk rfl rfl | exact .nil rfl)), ⟨rfl, by first | (simp [alikeF, bA, SV.av, *]; done) | (simp [alikeF, bA, SV.av, *]; omega)⟩, (List.nil_sublist _), (by simp)⟩

theorem alikeF_ok {f : FuncId} {caps : List AV} {told : Int → Int → Bool} (hen : entersT Try.prog f) (h : ∀ a b, 0 ≤ a → 0 ≤ b → AC Try.prog f ([.v (.int .u64 a), .v (.int .u64 b)] ++ caps) [] (fun r n => n = [] ∧ r = .v (.bool (told a b)))) (a b : Int) (ha : 0 ≤ a) (hb : 0 ≤ b) : AC Try.prog 27 [numA a, numA b, .fn f caps] [] (fun r n => n = [] ∧ r = bA (alikeF told a b)) := by
  refine ac_of_awp (rs := [6]) (nt := 28) Try.func27 rfl rfl rfl rfl (fun w0 C0 hq => ?_)
  refine awp_seq ?_
  refine awp_region ?_
  refine r_assign rfl rfl ?_
  refine awl_nil ?_
  refine x_then ?_
  refine awp_seq ?_
  refine awp_region ?_
  refine r_move rfl rfl ?_
  refine r_move rfl rfl ?_
  refine r_cmp rfl rfl rfl rfl ?_
  refine r_move rfl rfl ?_
  refine g_cases (t' := 10) rfl (fun hg10 => ?_) (fun hg10 => ?_)
  ·
    have h1 : a = b := eq_of_beq hg10
    refine g_skip rfl rfl hg10 rfl ?_
    refine g_skip rfl rfl hg10 rfl ?_
    refine g_skip rfl rfl hg10 rfl ?_
    refine g_skipU rfl rfl rfl ?_
    refine g_skipU rfl rfl rfl ?_
    refine g_skip rfl rfl hg10 rfl ?_
    refine g_skip rfl rfl hg10 rfl ?_
    refine g_skipU rfl rfl rfl ?_
    refine g_skipU rfl rfl rfl ?_
    refine g_skip rfl rfl hg10 rfl ?_
    refine g_skip rfl rfl hg10 rfl ?_
    refine g_skipU rfl rfl rfl ?_
    refine g_skipU rfl rfl rfl ?_
    refine g_skipU rfl rfl rfl ?_
    refine g_skipU rfl rfl rfl ?_
    refine g_skip rfl rfl hg10 rfl ?_
    refine r_pickT rfl hg10 rfl rfl ?_
    refine r_assign rfl rfl ?_
    refine awl_nil ?_
    refine x_then ?_
    refine awp_ret ?_
    exact ⟨(.inl rfl), _, [], (.one (by first | exact .mk rfl rfl | exact .nil rfl)), ⟨rfl, by first | (simp [alikeF, bA, SV.av, *]; done) | (simp [alikeF, bA, SV.av, *]; omega)⟩, (List.nil_sublist _), (by simp)⟩
  ·
    have h1 : ¬ a = b := by simpa using hg10
    refine g_run rfl rfl hg10 ?_
    refine r_move rfl rfl ?_
    refine g_run rfl rfl hg10 ?_
    refine r_cmp rfl rfl rfl rfl ?_
    refine g_run rfl rfl hg10 ?_
    refine r_move rfl rfl ?_
    refine g_cases (t' := 13) rfl (fun hg13 => ?_) (fun hg13 => ?_)
    ·
      have h2 : ¬ a = 0 := by simpa using hg13
      refine g_run rfl rfl hg13 ?_
      refine r_move rfl rfl ?_
      refine g_run rfl rfl hg13 ?_
      refine r_cmp rfl rfl rfl rfl ?_
      refine g_run rfl rfl hg10 ?_
      refine r_pickT rfl hg13 rfl rfl ?_
      refine g_run rfl rfl hg10 ?_
      refine r_move rfl rfl ?_
      refine g_cases (t' := 17) rfl (fun hg17 => ?_) (fun hg17 => ?_)
      ·
        have h3 : ¬ b = 0 := by simpa using hg17
        refine g_run rfl rfl hg17 ?_
        refine r_move rfl rfl ?_
        refine g_run rfl rfl hg17 ?_
        first | (refine r_fn_ne rfl T.un29 rfl ?_) | (refine r_nofn_ne rfl T.un29 rfl ?_)
        refine g_run rfl rfl hg10 ?_
        refine r_pickT rfl hg17 rfl rfl ?_
        refine g_run rfl rfl hg10 ?_
        refine r_move rfl rfl ?_
        refine g_cases (t' := 21) rfl (fun hg21 => ?_) (fun hg21 => ?_)
        ·
          refine g_run rfl rfl hg21 ?_
          refine r_move rfl rfl ?_
          refine g_run rfl rfl hg21 ?_
          refine r_move rfl rfl ?_
          refine g_run rfl rfl hg21 ?_
          refine r_move rfl rfl ?_
          refine g_run rfl rfl hg21 ?_
          refine r_call0 hq rfl rfl (.cons (.ev rfl rfl) (.cons (.ev rfl rfl) .nil)) (h a b ha hb) rfl hen rfl (fun r hr => ?_)
          obtain rfl := hr
          refine g_run rfl rfl hg10 ?_
          refine r_pickT rfl hg21 rfl rfl ?_
          refine r_pickF rfl hg10 rfl rfl ?_
          refine r_assign rfl rfl ?_
          refine awl_nil ?_
          refine x_then ?_
          refine awp_ret ?_
          exact ⟨(.inl rfl), _, [], (.one (by first | exact .mk rfl rfl | exact .nil rfl)), ⟨rfl, by first | (simp [alikeF, bA, SV.av, *]; done) | (simp [alikeF, bA, SV.av, *]; omega)⟩, (List.nil_sublist _), (by simp)⟩
        ·
          refine g_skip rfl rfl hg21 rfl ?_
          refine g_skip rfl rfl hg21 rfl ?_
          refine g_skip rfl rfl hg21 rfl ?_
          refine g_skip rfl rfl hg21 rfl ?_
          refine g_run rfl rfl hg10 ?_
          refine r_pickF rfl hg21 rfl rfl ?_
          refine r_pickF rfl hg10 rfl rfl ?_
          refine r_assign rfl rfl ?_
          refine awl_nil ?_
          refine x_then ?_
          refine awp_ret ?_
          exact ⟨(.inl rfl), _, [], (.one (by first | exact .mk rfl rfl | exact .nil rfl)), ⟨rfl, by first | (simp [alikeF, bA, SV.av, *]; done) | (simp [alikeF, bA, SV.av, *]; omega)⟩, (List.nil_sublist _), (by simp)⟩
      ·
        have h3 : b = 0 := by simpa using hg17
        refine g_skip rfl rfl hg17 rfl ?_
        refine g_skip rfl rfl hg17 rfl ?_
        refine g_run rfl rfl hg10 ?_
        refine r_pickF rfl hg17 rfl rfl ?_
        refine g_run rfl rfl hg10 ?_
        refine r_move rfl rfl ?_
        refine g_skip rfl rfl rfl rfl ?_
        refine g_skip rfl rfl rfl rfl ?_
        refine g_skip rfl rfl rfl rfl ?_
        refine g_skip rfl rfl rfl rfl ?_
        refine g_run rfl rfl hg10 ?_
        refine r_pickF rfl rfl rfl rfl ?_
        refine r_pickF rfl hg10 rfl rfl ?_
        refine r_assign rfl rfl ?_
        refine awl_nil ?_
        refine x_then ?_
        refine awp_ret ?_
        exact ⟨(.inl rfl), _, [], (.one (by first | exact .mk rfl rfl | exact .nil rfl)), ⟨rfl, by first | (simp [alikeF, bA, SV.av, *]; done) | (simp [alikeF, bA, SV.av, *]; omega)⟩, (List.nil_sublist _), (by simp)⟩
    ·
      have h2 : a = 0 := by simpa using hg13
      refine g_skip rfl rfl hg13 rfl ?_
      refine g_skip rfl rfl hg13 rfl ?_
      refine g_run rfl rfl hg10 ?_
      refine r_pickF rfl hg13 rfl rfl ?_
      refine g_run rfl rfl hg10 ?_
      refine r_move rfl rfl ?_
      refine g_skip rfl rfl rfl rfl ?_
      refine g_skip rfl rfl rfl rfl ?_
      refine g_run rfl rfl hg10 ?_
      refine r_pickF rfl rfl rfl rfl ?_
      refine g_run rfl rfl hg10 ?_
      refine r_move rfl rfl ?_
      refine g_skip rfl rfl rfl rfl ?_
      refine g_skip rfl rfl rfl rfl ?_
      refine g_skip rfl rfl rfl rfl ?_
      refine g_skip rfl rfl rfl rfl ?_
      refine g_run rfl rfl hg10 ?_
      refine r_pickF rfl rfl rfl rfl ?_
      refine r_pickF rfl hg10 rfl rfl ?_
      refine r_assign rfl rfl ?_
      refine awl_nil ?_
      refine x_then ?_
      refine awp_ret ?_
      exact ⟨(.inl rfl), _, [], (.one (by first | exact .mk rfl rfl | exact .nil rfl)), ⟨rfl, by first | (simp [alikeF, bA, SV.av, *]; done) | (simp [alikeF, bA, SV.av, *]; omega)⟩, (List.nil_sublist _), (by simp)⟩

theorem alike_ok {sv : AV} {told : Int → Int → Bool} (h : Told Try.prog sv told) (a b : Int) (ha : 0 ≤ a) (hb : 0 ≤ b) : AC Try.prog 27 [numA a, numA b, sv] [] (fun r n => n = [] ∧ r = bA (alikeF told a b)) := by
  cases h with
  | nil => exact alikeN_ok a b ha hb
  | fn hen h => exact alikeF_ok hen h a b ha hb
theorem got_good {l : List Ent} (h : Good l) (p : PL) : 0 ≤ (mget (shownM l) p).getD 0 := by rw [shown_get]; exact (shows_good h p).1

theorem alikeB_ok {sv : AV} {told : Int → Int → Bool} (h : Told Try.prog sv told) (a b : Int) (ha : 0 ≤ a) (hb : 0 ≤ b) {r : Bool} (hr : r = alikeF told a b) : AC Try.prog 27 [numA a, numA b, sv] [] (fun x n => n = [] ∧ x = bA r) := by
  rw [hr]; exact alike_ok h a b ha hb
theorem takeAt_get (told : Int → Int → Bool) (x y z : List Ent) (p : PL) : takeAt told x y z p = cond (!alikeF told ((mget (shownM x) p).getD 0) ((mget (shownM z) p).getD 0) && alikeF told ((mget (shownM x) p).getD 0) ((mget (shownM y) p).getD 0)) (some ⟨p.1, p.2, ((mget (shownM z) p).getD 0)⟩) none := by simp only [takeAt, shown_get]
theorem clashAt_get (told : Int → Int → Bool) (x y z : List Ent) (p : PL) : clashAt told x y z p = cond (!alikeF told ((mget (shownM x) p).getD 0) ((mget (shownM z) p).getD 0) && (!alikeF told ((mget (shownM x) p).getD 0) ((mget (shownM y) p).getD 0) && !alikeF told ((mget (shownM y) p).getD 0) ((mget (shownM z) p).getD 0))) (some ⟨p.1, p.2, ((mget (shownM x) p).getD 0), ((mget (shownM y) p).getD 0), ((mget (shownM z) p).getD 0)⟩) none := by simp only [clashAt, shown_get]

set_option maxHeartbeats 1000000 in
theorem three_ok {sv : AV} {told : Int → Int → Bool} (hs : Told Try.prog sv told) (base ours theirs : List Ent) (hlb : base.length ≤ 1000) (hlo : ours.length ≤ 1000) (hlt0 : theirs.length ≤ 1000) (hgb : Good base) (hgo : Good ours) (hgt : Good theirs) :
    AC Try.prog 13 [entsA base, entsA ours, entsA theirs, sv] [] (fun r n => n = [] ∧ r = .tup [entsA (takeF told base ours theirs), clasA (clashF told base ours theirs)]) := by
  refine ac_of_awp (rs := [8, 9]) (nt := 101) Try.func13 rfl rfl rfl rfl (fun w0 C0 hq => ?_)
  refine awp_seq ?_
  refine awp_region ?_
  refine r_assign rfl rfl ?_
  refine r_assign rfl rfl ?_
  refine awl_nil ?_
  refine x_then ?_
  refine awp_seq ?_
  refine awp_region ?_
  refine r_move rfl rfl ?_
  refine r_callO hq rfl rfl (.cons (.ev rfl rfl) .nil) (shown_ok base (by omega)) rfl T.en25 (List.nil_sublist _) rfl (fun r nobjs hr => ?_)
  obtain ⟨bx, rfl, rfl⟩ := hr
  refine r_move rfl rfl ?_
  refine r_callO hq rfl rfl (.cons (.ev rfl rfl) .nil) (shown_ok ours (by omega)) rfl T.en25 (List.nil_sublist _) rfl (fun r nobjs hr => ?_)
  obtain ⟨by_, rfl, rfl⟩ := hr
  refine r_move rfl rfl ?_
  refine r_callO hq rfl rfl (.cons (.ev rfl rfl) .nil) (shown_ok theirs (by omega)) rfl T.en25 (List.nil_sublist _) rfl (fun r nobjs hr => ?_)
  obtain ⟨bz, rfl, rfl⟩ := hr
  refine r_assign rfl rfl ?_
  refine r_assign rfl rfl ?_
  refine r_assign rfl rfl ?_
  refine awl_nil ?_
  refine x_then ?_
  refine awp_seq ?_
  refine awp_seq ?_
  refine awp_region ?_
  refine r_move rfl rfl ?_
  refine r_move rfl rfl ?_
  refine r_move rfl rfl ?_
  refine r_lit 26 (parts := [(0, .tmp 23), (1, .tmp 24), (2, .tmp 25)]) rfl T.sl76 T.sz55 T.zraw55 rfl rfl rfl rfl rfl rfl rfl ?_
  refine awl_imp (imp_perm (List.reverse_perm _)) ?_
  refine r_callO hq rfl rfl (.cons (.ev rfl rfl) .nil) (places_ok [(bx, base), (by_, ours), (bz, theirs)] (by simp) (by simp; omega) (fl := true)) rfl T.en26 (List.Sublist.refl _) rfl (fun r nobjs hr => ?_)
  obtain ⟨pl, hpl⟩ : ∃ pl, pl = placesF [base, ours, theirs] := ⟨_, rfl⟩
  obtain ⟨rfl, hr2⟩ := hr
  have hr' : r = plsA pl := by rw [hpl]; exact hr2
  clear hr2
  obtain rfl := hr'
  have hpll : pl.length ≤ 3000 := by rw [hpl]; have := places_len [base, ours, theirs]; simp at this; omega
  first | (refine r_lenS rfl rfl T.sl57 rfl ?_) | (refine r_lenNil rfl T.sl57 rfl ?_)
  refine r_move rfl rfl ?_
  refine awl_nil ?_
  refine x_then ?_
  refine awp_block ?_
  refine awp_loop (fun nn0 S => ∃ k : Nat, S = ⟨101, [(3, .a sv), (8, .own 8 3 (((pl.take k).filterMap (takeAt told base ours theirs)).map Ent.cs)), (9, .own 9 5 (((pl.take k).filterMap (clashAt told base ours theirs)).map Cla.cs)), (10, .a (.v (.map (some bx)))), (11, .a (.v (.map (some by_)))), (12, .a (.v (.map (some bz)))), (27, .a (plsA pl)), (28, .a (.v (.int .i64 ((pl.map PL.cs).length)))), (29, .a (.v (.int .i64 ((k : Int)))))], [⟨bx, true, .map (encM ekP numA (shownM base))⟩, ⟨by_, true, .map (encM ekP numA (shownM ours))⟩, ⟨bz, true, .map (encM ekP numA (shownM theirs))⟩]⟩ ∧ nn0 = pl.length - k ∧ (k ≤ pl.length)) (pl.length - (0)) ⟨101, [(3, .a sv), (8, .own 8 3 (((pl.take (0)).filterMap (takeAt told base ours theirs)).map Ent.cs)), (9, .own 9 5 (((pl.take (0)).filterMap (clashAt told base ours theirs)).map Cla.cs)), (10, .a (.v (.map (some bx)))), (11, .a (.v (.map (some by_)))), (12, .a (.v (.map (some bz)))), (27, .a (plsA pl)), (28, .a (.v (.int .i64 ((pl.map PL.cs).length)))), (29, .a (.v (.int .i64 (((0) : Int)))))], [⟨bx, true, .map (encM ekP numA (shownM base))⟩, ⟨by_, true, .map (encM ekP numA (shownM ours))⟩, ⟨bz, true, .map (encM ekP numA (shownM theirs))⟩]⟩ ⟨rfl, (Slots.cons rfl (by first | exact .refl _ | exact .nilOwn _ _ | exact .nilSl _ | exact .ownSl _ _ _  | exact SV.le.of_eq (by simp)) (Slots.cons rfl (by first | exact .refl _ | exact .nilOwn _ _ | exact .nilSl _ | exact .ownSl _ _ _  | exact SV.le.of_eq (by simp)) (Slots.cons rfl (by first | exact .refl _ | exact .nilOwn _ _ | exact .nilSl _ | exact .ownSl _ _ _  | exact SV.le.of_eq (by simp)) (Slots.cons rfl (by first | exact .refl _ | exact .nilOwn _ _ | exact .nilSl _ | exact .ownSl _ _ _  | exact SV.le.of_eq (by simp)) (Slots.cons rfl (by first | exact .refl _ | exact .nilOwn _ _ | exact .nilSl _ | exact .ownSl _ _ _  | exact SV.le.of_eq (by simp)) (Slots.cons rfl (by first | exact .refl _ | exact .nilOwn _ _ | exact .nilSl _ | exact .ownSl _ _ _  | exact SV.le.of_eq (by simp)) (Slots.cons rfl (by first | exact .refl _ | exact .nilOwn _ _ | exact .nilSl _ | exact .ownSl _ _ _  | exact SV.le.of_eq (by simp)) (Slots.cons rfl (by first | exact .refl _ | exact .nilOwn _ _ | exact .nilSl _ | exact .ownSl _ _ _  | exact SV.le.of_eq (by simp)) (Slots.cons rfl (by first | exact .refl _ | exact .nilOwn _ _ | exact .nilSl _ | exact .ownSl _ _ _  | exact SV.le.of_eq (by simp)) Slots.nil))))))))), (by first | exact List.Sublist.refl _ | exact .cons_cons _ (.cons _ (.refl _)) | exact List.nil_sublist _ | exact .cons _ (.refl _) | exact .cons _ (.cons _ (.refl _)) | exact .cons _ (.cons _ (.cons _ (.refl _))) | exact .cons _ (.cons _ (.cons _ (.cons _ (.refl _)))) | exact .cons_cons _ (List.nil_sublist _))⟩ ⟨0, rfl, rfl, Nat.zero_le _⟩ ?_
  rintro nn0 _ ⟨k, rfl, rfl, hk⟩
  refine awp_seq ?_
  refine awp_region ?_
  refine r_cmp rfl rfl rfl rfl ?_
  refine awl_nil ?_
  refine x_then ?_
  refine awp_seq ?_
  refine awp_cond rfl (fun hc0 => ?_) (fun hc0 => ?_)
  ·
    have hlt : k < pl.length := by have := of_decide_eq_true hc0; simpa using this
    obtain ⟨p, hp⟩ := get_lt hlt
    obtain ⟨b1, hb1⟩ : ∃ b, b = alikeF told ((mget (shownM base) p).getD 0) ((mget (shownM ours) p).getD 0) := ⟨_, rfl⟩
    obtain ⟨b2, hb2⟩ : ∃ b, b = alikeF told ((mget (shownM base) p).getD 0) ((mget (shownM theirs) p).getD 0) := ⟨_, rfl⟩
    obtain ⟨b3, hb3⟩ : ∃ b, b = alikeF told ((mget (shownM ours) p).getD 0) ((mget (shownM theirs) p).getD 0) := ⟨_, rfl⟩
    have hf1 : ((pl.take k).filterMap (takeAt told base ours theirs)).length ≤ k := Nat.le_trans (List.length_filterMap_le _ _) (by simp; omega)
    have hf2 : ((pl.take k).filterMap (clashAt told base ours theirs)).length ≤ k := Nat.le_trans (List.length_filterMap_le _ _) (by simp; omega)
    refine awp_skip ?_
    refine x_then ?_
    refine awp_seq ?_
    refine awp_block ?_
    refine awp_seq ?_
    refine awp_region ?_
    refine r_index rfl rfl rfl T.sl57 T.sz60 (by omega) (get_map hp) rfl ?_
    first | (refine r_loadAb 0 rfl rfl T.agg60 T.sz60 rfl rfl ?_) | (refine r_loadA rfl T.agg60 T.sz60 rfl rfl ?_) | (refine r_loadAb 1 rfl rfl T.agg60 T.sz60 rfl rfl ?_) | (refine r_loadAb 2 rfl rfl T.agg60 T.sz60 rfl rfl ?_)
    refine r_alloc T.zero60 rfl (fun b14 => ?_)
    first | (refine r_store 0 rfl rfl rfl T.sz60 rfl rfl rfl ?_) | (refine r_store 1 rfl rfl rfl T.sz60 rfl rfl rfl ?_) | (refine r_store 2 rfl rfl rfl T.sz60 rfl rfl rfl ?_) | (refine r_store 3 rfl rfl rfl T.sz60 rfl rfl rfl ?_)
    refine awl_nil ?_
    refine x_then ?_
    refine awp_seq ?_
    refine awp_drawS [33, 34, 35, 36, 37, 38, 39] [_, _, _, _, _, _, _] [] [] T.mixed rfl rfl rfl ⟨⟨⟨⟨⟨⟨⟨trivial
      , ⟨_, rfl, fun sl hd hr ho => by
          refine r_move (hr 10 _ rfl rfl rfl) rfl ?_
          exact awl_nil ⟨rfl, post_put⟩⟩⟩
      , ⟨_, rfl, fun sl hd hr ho => by
          first | (refine r_loadAb 0 (hr 14 _ rfl rfl rfl) rfl T.agg60 T.sz60 rfl rfl ?_) | (refine r_loadA (hr 14 _ rfl rfl rfl) T.agg60 T.sz60 rfl rfl ?_) | (refine r_loadAb 1 (hr 14 _ rfl rfl rfl) rfl T.agg60 T.sz60 rfl rfl ?_) | (refine r_loadAb 2 (hr 14 _ rfl rfl rfl) rfl T.agg60 T.sz60 rfl rfl ?_) | (refine r_loadAb 3 (hr 14 _ rfl rfl rfl) rfl T.agg60 T.sz60 rfl rfl ?_)
          exact awl_nil ⟨rfl, post_put⟩⟩⟩
      , ⟨_, rfl, fun sl hd hr ho => by
          refine r_lookupK 1 keyP (ev := numA) (k := p) 0 (hd 0 _ rfl rfl rfl) rfl (hd 1 _ rfl rfl rfl) (isVal_pl p) T.map55 T.zav23 rfl ?_
          exact awl_nil ⟨rfl, post_put⟩⟩⟩
      , ⟨_, rfl, fun sl hd hr ho => by
          refine r_move (hr 11 _ rfl rfl rfl) rfl ?_
          exact awl_nil ⟨rfl, post_put⟩⟩⟩
      , ⟨_, rfl, fun sl hd hr ho => by
          first | (refine r_loadAb 0 (hr 14 _ rfl rfl rfl) rfl T.agg60 T.sz60 rfl rfl ?_) | (refine r_loadA (hr 14 _ rfl rfl rfl) T.agg60 T.sz60 rfl rfl ?_) | (refine r_loadAb 1 (hr 14 _ rfl rfl rfl) rfl T.agg60 T.sz60 rfl rfl ?_) | (refine r_loadAb 2 (hr 14 _ rfl rfl rfl) rfl T.agg60 T.sz60 rfl rfl ?_) | (refine r_loadAb 3 (hr 14 _ rfl rfl rfl) rfl T.agg60 T.sz60 rfl rfl ?_)
          exact awl_nil ⟨rfl, post_put⟩⟩⟩
      , ⟨_, rfl, fun sl hd hr ho => by
          refine r_lookupK 2 keyP (ev := numA) (k := p) 0 (hd 3 _ rfl rfl rfl) rfl (hd 4 _ rfl rfl rfl) (isVal_pl p) T.map55 T.zav23 rfl ?_
          exact awl_nil ⟨rfl, post_put⟩⟩⟩
      , ⟨_, rfl, fun sl hd hr ho => by
          refine r_move (hr 3 _ rfl rfl rfl) rfl ?_
          exact awl_nil ⟨rfl, post_put⟩⟩⟩
      (by rfl) ?_
    refine r_call0 hq rfl rfl (.cons (.ev rfl rfl) (.cons (.ev rfl rfl) (.cons (.ev rfl rfl) .nil))) (alikeB_ok hs _ _ (got_good hgb p) (got_good hgo p) hb1) rfl T.en27 rfl (fun r hr => ?_)
    obtain rfl := hr
    refine r_not rfl rfl ?_
    refine r_assign rfl rfl ?_
    refine awl_nil ?_
    refine x_then ?_
    refine awp_seq ?_
    refine awp_drawS [42, 43, 44, 45, 46, 47, 48] [_, _, _, _, _, _, _] [] [] T.mixed rfl rfl rfl ⟨⟨⟨⟨⟨⟨⟨trivial
      , ⟨_, rfl, fun sl hd hr ho => by
          refine r_move (hr 10 _ rfl rfl rfl) rfl ?_
          exact awl_nil ⟨rfl, post_put⟩⟩⟩
      , ⟨_, rfl, fun sl hd hr ho => by
          first | (refine r_loadAb 0 (hr 14 _ rfl rfl rfl) rfl T.agg60 T.sz60 rfl rfl ?_) | (refine r_loadA (hr 14 _ rfl rfl rfl) T.agg60 T.sz60 rfl rfl ?_) | (refine r_loadAb 1 (hr 14 _ rfl rfl rfl) rfl T.agg60 T.sz60 rfl rfl ?_) | (refine r_loadAb 2 (hr 14 _ rfl rfl rfl) rfl T.agg60 T.sz60 rfl rfl ?_) | (refine r_loadAb 3 (hr 14 _ rfl rfl rfl) rfl T.agg60 T.sz60 rfl rfl ?_)
          exact awl_nil ⟨rfl, post_put⟩⟩⟩
      , ⟨_, rfl, fun sl hd hr ho => by
          refine r_lookupK 1 keyP (ev := numA) (k := p) 0 (hd 0 _ rfl rfl rfl) rfl (hd 1 _ rfl rfl rfl) (isVal_pl p) T.map55 T.zav23 rfl ?_
          exact awl_nil ⟨rfl, post_put⟩⟩⟩
      , ⟨_, rfl, fun sl hd hr ho => by
          refine r_move (hr 12 _ rfl rfl rfl) rfl ?_
          exact awl_nil ⟨rfl, post_put⟩⟩⟩
      , ⟨_, rfl, fun sl hd hr ho => by
          first | (refine r_loadAb 0 (hr 14 _ rfl rfl rfl) rfl T.agg60 T.sz60 rfl rfl ?_) | (refine r_loadA (hr 14 _ rfl rfl rfl) T.agg60 T.sz60 rfl rfl ?_) | (refine r_loadAb 1 (hr 14 _ rfl rfl rfl) rfl T.agg60 T.sz60 rfl rfl ?_) | (refine r_loadAb 2 (hr 14 _ rfl rfl rfl) rfl T.agg60 T.sz60 rfl rfl ?_) | (refine r_loadAb 3 (hr 14 _ rfl rfl rfl) rfl T.agg60 T.sz60 rfl rfl ?_)
          exact awl_nil ⟨rfl, post_put⟩⟩⟩
      , ⟨_, rfl, fun sl hd hr ho => by
          refine r_lookupK 3 keyP (ev := numA) (k := p) 0 (hd 3 _ rfl rfl rfl) rfl (hd 4 _ rfl rfl rfl) (isVal_pl p) T.map55 T.zav23 rfl ?_
          exact awl_nil ⟨rfl, post_put⟩⟩⟩
      , ⟨_, rfl, fun sl hd hr ho => by
          refine r_move (hr 3 _ rfl rfl rfl) rfl ?_
          exact awl_nil ⟨rfl, post_put⟩⟩⟩
      (by rfl) ?_
    refine r_call0 hq rfl rfl (.cons (.ev rfl rfl) (.cons (.ev rfl rfl) (.cons (.ev rfl rfl) .nil))) (alikeB_ok hs _ _ (got_good hgb p) (got_good hgt p) hb2) rfl T.en27 rfl (fun r hr => ?_)
    obtain rfl := hr
    refine r_not rfl rfl ?_
    refine r_assign rfl rfl ?_
    refine awl_nil ?_
    refine x_then ?_
    refine awp_block ?_
    refine awp_seq ?_
    cases b2
    ·
      refine awp_region ?_
      refine r_move rfl rfl ?_
      refine r_move rfl rfl ?_
      refine g_run rfl rfl rfl ?_
      refine r_move rfl rfl ?_
      refine g_run rfl rfl rfl ?_
      refine r_not rfl rfl ?_
      refine r_pickT rfl rfl rfl rfl ?_
      refine r_assign rfl rfl ?_
      refine awl_nil ?_
      refine x_then ?_
      refine awp_cond rfl (fun hc1 => ?_) (fun hc1 => ?_)
      ·
        have ht : takeAt told base ours theirs p = some ⟨p.1, p.2, ((mget (shownM theirs) p).getD 0)⟩ := by rw [takeAt_get, ← hb1, ← hb2]; cases b1 <;> first | rfl | (simp at hg53; done) | (simp at hc1; done) | (simp at hg70; done) | (simp at hc2; done)
        have hcl : clashAt told base ours theirs p = none := by rw [clashAt_get, ← hb1, ← hb2, ← hb3]; cases b1 <;> cases b3 <;> first | rfl | (simp at hg53; done) | (simp at hc1; done) | (simp at hg70; done) | (simp at hc2; done)
        refine awp_drawS [57, 58, 59, 60, 61, 62, 63, 64, 65, 66] [_, _, _, _, _, _, _, _, _, _] [] [(9, 66)] T.mixed rfl rfl rfl ⟨⟨⟨⟨⟨⟨⟨⟨⟨⟨trivial
          , ⟨_, rfl, fun sl hd hr ho => by
              refine r_move (hr 8 _ rfl rfl rfl) rfl ?_
              exact awl_nil ⟨rfl, post_put⟩⟩⟩
          , ⟨_, rfl, fun sl hd hr ho => by
              first | (refine r_fieldb (hr 14 _ rfl rfl rfl) T.f60_0 T.sz3 rfl ?_) | (refine r_fieldcp (hr 14 _ rfl rfl rfl) T.f60_0 T.sz3 rfl ?_)
              exact awl_nil ⟨rfl, post_put⟩⟩⟩
          , ⟨_, rfl, fun sl hd hr ho => by
              first | (refine r_load1b 0 (hd 1 _ rfl rfl rfl) rfl rfl T.agg3 rfl ?_) | (refine r_load1 (hd 1 _ rfl rfl rfl) T.agg3 rfl ?_) | (refine r_load1b 1 (hd 1 _ rfl rfl rfl) rfl rfl T.agg3 rfl ?_) | (refine r_load1b 2 (hd 1 _ rfl rfl rfl) rfl rfl T.agg3 rfl ?_) | (refine r_load1b 3 (hd 1 _ rfl rfl rfl) rfl rfl T.agg3 rfl ?_)
              exact awl_nil ⟨rfl, post_put⟩⟩⟩
          , ⟨_, rfl, fun sl hd hr ho => by
              first | (refine r_fieldb (hr 14 _ rfl rfl rfl) T.f60_1 T.sz3 rfl ?_) | (refine r_fieldcp (hr 14 _ rfl rfl rfl) T.f60_1 T.sz3 rfl ?_)
              exact awl_nil ⟨rfl, post_put⟩⟩⟩
          , ⟨_, rfl, fun sl hd hr ho => by
              first | (refine r_load1b 0 (hd 3 _ rfl rfl rfl) rfl rfl T.agg3 rfl ?_) | (refine r_load1 (hd 3 _ rfl rfl rfl) T.agg3 rfl ?_) | (refine r_load1b 1 (hd 3 _ rfl rfl rfl) rfl rfl T.agg3 rfl ?_) | (refine r_load1b 2 (hd 3 _ rfl rfl rfl) rfl rfl T.agg3 rfl ?_) | (refine r_load1b 3 (hd 3 _ rfl rfl rfl) rfl rfl T.agg3 rfl ?_)
              exact awl_nil ⟨rfl, post_put⟩⟩⟩
          , ⟨_, rfl, fun sl hd hr ho => by
              refine r_move (hr 12 _ rfl rfl rfl) rfl ?_
              exact awl_nil ⟨rfl, post_put⟩⟩⟩
          , ⟨_, rfl, fun sl hd hr ho => by
              first | (refine r_loadAb 0 (hr 14 _ rfl rfl rfl) rfl T.agg60 T.sz60 rfl rfl ?_) | (refine r_loadA (hr 14 _ rfl rfl rfl) T.agg60 T.sz60 rfl rfl ?_) | (refine r_loadAb 1 (hr 14 _ rfl rfl rfl) rfl T.agg60 T.sz60 rfl rfl ?_) | (refine r_loadAb 2 (hr 14 _ rfl rfl rfl) rfl T.agg60 T.sz60 rfl rfl ?_) | (refine r_loadAb 3 (hr 14 _ rfl rfl rfl) rfl T.agg60 T.sz60 rfl rfl ?_)
              exact awl_nil ⟨rfl, post_put⟩⟩⟩
          , ⟨_, rfl, fun sl hd hr ho => by
              refine r_lookupK 3 keyP (ev := numA) (k := p) 0 (hd 5 _ rfl rfl rfl) rfl (hd 6 _ rfl rfl rfl) (isVal_pl p) T.map55 T.zav23 rfl ?_
              exact awl_nil ⟨rfl, post_put⟩⟩⟩
          , ⟨_, rfl, fun sl hd hr ho => by
              refine r_build (parts := [(0, .tmp 59), (1, .tmp 61), (2, .tmp 64)]) rfl T.pl35 T.zero35 (parts_cons (hd 2 _ rfl rfl rfl) (parts_cons (hd 4 _ rfl rfl rfl) (parts_cons (hd 7 _ rfl rfl rfl) parts_nil))) rfl rfl ?_
              exact awl_nil ⟨rfl, post_put⟩⟩⟩
          , ⟨_, rfl, fun sl hd hr ho => by
              refine r_lit 66 (parts := [(0, .tmp 65)]) rfl T.sl22 T.sz35 T.zraw35 rfl rfl (parts_cons (hd 8 _ rfl rfl rfl) parts_nil) rfl rfl rfl rfl ?_
              exact awl_nil ⟨rfl, (post_dem (ho 66 (List.mem_of_elem_eq_true rfl)))⟩⟩⟩
          (by rfl) ?_
        refine r_append 8 rfl (by first | exact .own _ | exact .nil) rfl (by first | exact .sl _ | exact .own _ _ | exact .nil) T.sl22 T.sz35 (by decide) T.by35 T.zlen35 (by simp [chunks] <;> omega) (by simp [chunks] <;> omega) rfl ?_
        refine r_assign rfl rfl ?_
        refine awl_nil ?_
        refine x_block ?_
        refine x_block ?_
        refine x_then ?_
        refine awp_region ?_
        refine r_ari _ rfl rfl rfl (wrap_id (by first | omega | (simp; omega))) rfl ?_
        refine r_move rfl rfl ?_
        refine awl_nil ?_
        refine x_then ?_
        have et := fm_step (f := takeAt told base ours theirs) hp
        have ec := fm_step (f := clashAt told base ours theirs) hp
        rw [ht] at et
        rw [hcl] at ec
        simp only [Option.toList_some, Option.toList_none, List.append_nil] at et ec
        refine ⟨pl.length - (k + 1), ⟨101, [(3, .a sv), (8, .own 8 3 (((pl.take (k + 1)).filterMap (takeAt told base ours theirs)).map Ent.cs)), (9, .own 9 5 (((pl.take (k + 1)).filterMap (clashAt told base ours theirs)).map Cla.cs)), (10, .a (.v (.map (some bx)))), (11, .a (.v (.map (some by_)))), (12, .a (.v (.map (some bz)))), (27, .a (plsA pl)), (28, .a (.v (.int .i64 ((pl.map PL.cs).length)))), (29, .a (.v (.int .i64 (((k + 1) : Int)))))], [⟨bx, true, .map (encM ekP numA (shownM base))⟩, ⟨by_, true, .map (encM ekP numA (shownM ours))⟩, ⟨bz, true, .map (encM ekP numA (shownM theirs))⟩]⟩, ⟨rfl, (Slots.cons rfl (by first | exact .refl _ | exact .nilOwn _ _ | exact .nilSl _ | exact .ownSl _ _ _  | exact SV.le.ownEq (by first | rfl | (rw [et, List.map_append]; rfl) | (rw [ec, List.map_append]; rfl) | (rw [et]; first | done | rfl) | (rw [ec]; first | done | rfl)) | exact SV.le.of_eq (by first | rfl | (rw [et, List.map_append]; rfl) | (rw [ec, List.map_append]; rfl) | (rw [et]; first | done | rfl) | (rw [ec]; first | done | rfl))) (Slots.cons rfl (by first | exact .refl _ | exact .nilOwn _ _ | exact .nilSl _ | exact .ownSl _ _ _  | exact SV.le.ownEq (by first | rfl | (rw [et, List.map_append]; rfl) | (rw [ec, List.map_append]; rfl) | (rw [et]; first | done | rfl) | (rw [ec]; first | done | rfl)) | exact SV.le.of_eq (by first | rfl | (rw [et, List.map_append]; rfl) | (rw [ec, List.map_append]; rfl) | (rw [et]; first | done | rfl) | (rw [ec]; first | done | rfl))) (Slots.cons rfl (by first | exact .refl _ | exact .nilOwn _ _ | exact .nilSl _ | exact .ownSl _ _ _  | exact SV.le.ownEq (by first | rfl | (rw [et, List.map_append]; rfl) | (rw [ec, List.map_append]; rfl) | (rw [et]; first | done | rfl) | (rw [ec]; first | done | rfl)) | exact SV.le.of_eq (by first | rfl | (rw [et, List.map_append]; rfl) | (rw [ec, List.map_append]; rfl) | (rw [et]; first | done | rfl) | (rw [ec]; first | done | rfl))) (Slots.cons rfl (by first | exact .refl _ | exact .nilOwn _ _ | exact .nilSl _ | exact .ownSl _ _ _  | exact SV.le.ownEq (by first | rfl | (rw [et, List.map_append]; rfl) | (rw [ec, List.map_append]; rfl) | (rw [et]; first | done | rfl) | (rw [ec]; first | done | rfl)) | exact SV.le.of_eq (by first | rfl | (rw [et, List.map_append]; rfl) | (rw [ec, List.map_append]; rfl) | (rw [et]; first | done | rfl) | (rw [ec]; first | done | rfl))) (Slots.cons rfl (by first | exact .refl _ | exact .nilOwn _ _ | exact .nilSl _ | exact .ownSl _ _ _  | exact SV.le.ownEq (by first | rfl | (rw [et, List.map_append]; rfl) | (rw [ec, List.map_append]; rfl) | (rw [et]; first | done | rfl) | (rw [ec]; first | done | rfl)) | exact SV.le.of_eq (by first | rfl | (rw [et, List.map_append]; rfl) | (rw [ec, List.map_append]; rfl) | (rw [et]; first | done | rfl) | (rw [ec]; first | done | rfl))) (Slots.cons rfl (by first | exact .refl _ | exact .nilOwn _ _ | exact .nilSl _ | exact .ownSl _ _ _  | exact SV.le.ownEq (by first | rfl | (rw [et, List.map_append]; rfl) | (rw [ec, List.map_append]; rfl) | (rw [et]; first | done | rfl) | (rw [ec]; first | done | rfl)) | exact SV.le.of_eq (by first | rfl | (rw [et, List.map_append]; rfl) | (rw [ec, List.map_append]; rfl) | (rw [et]; first | done | rfl) | (rw [ec]; first | done | rfl))) (Slots.cons rfl (by first | exact .refl _ | exact .nilOwn _ _ | exact .nilSl _ | exact .ownSl _ _ _  | exact SV.le.ownEq (by first | rfl | (rw [et, List.map_append]; rfl) | (rw [ec, List.map_append]; rfl) | (rw [et]; first | done | rfl) | (rw [ec]; first | done | rfl)) | exact SV.le.of_eq (by first | rfl | (rw [et, List.map_append]; rfl) | (rw [ec, List.map_append]; rfl) | (rw [et]; first | done | rfl) | (rw [ec]; first | done | rfl))) (Slots.cons rfl (by first | exact .refl _ | exact .nilOwn _ _ | exact .nilSl _ | exact .ownSl _ _ _  | exact SV.le.ownEq (by first | rfl | (rw [et, List.map_append]; rfl) | (rw [ec, List.map_append]; rfl) | (rw [et]; first | done | rfl) | (rw [ec]; first | done | rfl)) | exact SV.le.of_eq (by first | rfl | (rw [et, List.map_append]; rfl) | (rw [ec, List.map_append]; rfl) | (rw [et]; first | done | rfl) | (rw [ec]; first | done | rfl))) (Slots.cons rfl (by first | exact .refl _ | exact .nilOwn _ _ | exact .nilSl _ | exact .ownSl _ _ _  | exact SV.le.ownEq (by first | rfl | (rw [et, List.map_append]; rfl) | (rw [ec, List.map_append]; rfl) | (rw [et]; first | done | rfl) | (rw [ec]; first | done | rfl)) | exact SV.le.of_eq (by first | rfl | (rw [et, List.map_append]; rfl) | (rw [ec, List.map_append]; rfl) | (rw [et]; first | done | rfl) | (rw [ec]; first | done | rfl))) Slots.nil))))))))), (by first | exact List.Sublist.refl _ | exact .cons_cons _ (.cons _ (.refl _)) | exact List.nil_sublist _ | exact .cons _ (.refl _) | exact .cons _ (.cons _ (.refl _)) | exact .cons _ (.cons _ (.cons _ (.refl _))) | exact .cons _ (.cons _ (.cons _ (.cons _ (.refl _)))) | exact .cons_cons _ (List.nil_sublist _))⟩, (by omega), ⟨k + 1, rfl, rfl, (by omega)⟩⟩
      ·
        refine awp_seq ?_
        refine awp_drawS [69, 70, 71, 72, 73, 74, 75, 76, 77] [_, _, _, _, _, _, _, _, _] [] [] T.mixed rfl rfl rfl ⟨⟨⟨⟨⟨⟨⟨⟨⟨trivial
          , ⟨_, rfl, fun sl hd hr ho => by
              refine r_move (hr 16 _ rfl rfl rfl) rfl ?_
              exact awl_nil ⟨rfl, post_put⟩⟩⟩
          , ⟨_, rfl, fun sl hd hr ho => by
              refine r_move (hd 0 _ rfl rfl rfl) rfl ?_
              exact awl_nil ⟨rfl, post_put⟩⟩⟩
          , ⟨_, rfl, fun sl hd hr ho => by
              refine g_run rfl (hd 1 _ rfl rfl rfl) rfl ?_
              refine r_move (hr 11 _ rfl rfl rfl) rfl ?_
              exact awl_nil ⟨rfl, post_put⟩⟩⟩
          , ⟨_, rfl, fun sl hd hr ho => by
              refine g_run rfl (hd 1 _ rfl rfl rfl) rfl ?_
              first | (refine r_loadAb 0 (hr 14 _ rfl rfl rfl) rfl T.agg60 T.sz60 rfl rfl ?_) | (refine r_loadA (hr 14 _ rfl rfl rfl) T.agg60 T.sz60 rfl rfl ?_) | (refine r_loadAb 1 (hr 14 _ rfl rfl rfl) rfl T.agg60 T.sz60 rfl rfl ?_) | (refine r_loadAb 2 (hr 14 _ rfl rfl rfl) rfl T.agg60 T.sz60 rfl rfl ?_) | (refine r_loadAb 3 (hr 14 _ rfl rfl rfl) rfl T.agg60 T.sz60 rfl rfl ?_)
              exact awl_nil ⟨rfl, post_put⟩⟩⟩
          , ⟨_, rfl, fun sl hd hr ho => by
              refine g_run rfl (hd 1 _ rfl rfl rfl) rfl ?_
              refine r_lookupK 2 keyP (ev := numA) (k := p) 0 (hd 2 _ rfl rfl rfl) rfl (hd 3 _ rfl rfl rfl) (isVal_pl p) T.map55 T.zav23 rfl ?_
              exact awl_nil ⟨rfl, post_put⟩⟩⟩
          , ⟨_, rfl, fun sl hd hr ho => by
              refine g_run rfl (hd 1 _ rfl rfl rfl) rfl ?_
              refine r_move (hr 12 _ rfl rfl rfl) rfl ?_
              exact awl_nil ⟨rfl, post_put⟩⟩⟩
          , ⟨_, rfl, fun sl hd hr ho => by
              refine g_run rfl (hd 1 _ rfl rfl rfl) rfl ?_
              first | (refine r_loadAb 0 (hr 14 _ rfl rfl rfl) rfl T.agg60 T.sz60 rfl rfl ?_) | (refine r_loadA (hr 14 _ rfl rfl rfl) T.agg60 T.sz60 rfl rfl ?_) | (refine r_loadAb 1 (hr 14 _ rfl rfl rfl) rfl T.agg60 T.sz60 rfl rfl ?_) | (refine r_loadAb 2 (hr 14 _ rfl rfl rfl) rfl T.agg60 T.sz60 rfl rfl ?_) | (refine r_loadAb 3 (hr 14 _ rfl rfl rfl) rfl T.agg60 T.sz60 rfl rfl ?_)
              exact awl_nil ⟨rfl, post_put⟩⟩⟩
          , ⟨_, rfl, fun sl hd hr ho => by
              refine g_run rfl (hd 1 _ rfl rfl rfl) rfl ?_
              refine r_lookupK 3 keyP (ev := numA) (k := p) 0 (hd 5 _ rfl rfl rfl) rfl (hd 6 _ rfl rfl rfl) (isVal_pl p) T.map55 T.zav23 rfl ?_
              exact awl_nil ⟨rfl, post_put⟩⟩⟩
          , ⟨_, rfl, fun sl hd hr ho => by
              refine g_run rfl (hd 1 _ rfl rfl rfl) rfl ?_
              refine r_move (hr 3 _ rfl rfl rfl) rfl ?_
              exact awl_nil ⟨rfl, post_put⟩⟩⟩
          (by rfl) ?_
        refine g_run rfl rfl rfl ?_
        refine r_call0 hq rfl rfl (.cons (.ev rfl rfl) (.cons (.ev rfl rfl) (.cons (.ev rfl rfl) .nil))) (alikeB_ok hs _ _ (got_good hgo p) (got_good hgt p) hb3) rfl T.en27 rfl (fun r hr => ?_)
        obtain rfl := hr
        refine g_run rfl rfl rfl ?_
        refine r_not rfl rfl ?_
        refine r_pickT rfl rfl rfl rfl ?_
        refine r_assign rfl rfl ?_
        refine awl_nil ?_
        refine x_then ?_
        refine awp_cond rfl (fun hc2 => ?_) (fun hc2 => ?_)
        ·
          have ht : takeAt told base ours theirs p = none := by rw [takeAt_get, ← hb1, ← hb2]; cases b1 <;> first | rfl | (simp at hg53; done) | (simp at hc1; done) | (simp at hg70; done) | (simp at hc2; done)
          have hcl : clashAt told base ours theirs p = some ⟨p.1, p.2, ((mget (shownM base) p).getD 0), ((mget (shownM ours) p).getD 0), ((mget (shownM theirs) p).getD 0)⟩ := by rw [clashAt_get, ← hb1, ← hb2, ← hb3]; cases b1 <;> cases b3 <;> first | rfl | (simp at hg53; done) | (simp at hc1; done) | (simp at hg70; done) | (simp at hc2; done)
          refine awp_drawS [81, 82, 83, 84, 85, 86, 87, 88, 89, 90, 91, 92, 93, 94, 95, 96] [_, _, _, _, _, _, _, _, _, _, _, _, _, _, _, _] [] [(15, 96)] T.mixed rfl rfl rfl ⟨⟨⟨⟨⟨⟨⟨⟨⟨⟨⟨⟨⟨⟨⟨⟨trivial
            , ⟨_, rfl, fun sl hd hr ho => by
                refine r_move (hr 9 _ rfl rfl rfl) rfl ?_
                exact awl_nil ⟨rfl, post_put⟩⟩⟩
            , ⟨_, rfl, fun sl hd hr ho => by
                first | (refine r_fieldb (hr 14 _ rfl rfl rfl) T.f60_0 T.sz3 rfl ?_) | (refine r_fieldcp (hr 14 _ rfl rfl rfl) T.f60_0 T.sz3 rfl ?_)
                exact awl_nil ⟨rfl, post_put⟩⟩⟩
            , ⟨_, rfl, fun sl hd hr ho => by
                first | (refine r_load1b 0 (hd 1 _ rfl rfl rfl) rfl rfl T.agg3 rfl ?_) | (refine r_load1 (hd 1 _ rfl rfl rfl) T.agg3 rfl ?_) | (refine r_load1b 1 (hd 1 _ rfl rfl rfl) rfl rfl T.agg3 rfl ?_) | (refine r_load1b 2 (hd 1 _ rfl rfl rfl) rfl rfl T.agg3 rfl ?_) | (refine r_load1b 3 (hd 1 _ rfl rfl rfl) rfl rfl T.agg3 rfl ?_)
                exact awl_nil ⟨rfl, post_put⟩⟩⟩
            , ⟨_, rfl, fun sl hd hr ho => by
                first | (refine r_fieldb (hr 14 _ rfl rfl rfl) T.f60_1 T.sz3 rfl ?_) | (refine r_fieldcp (hr 14 _ rfl rfl rfl) T.f60_1 T.sz3 rfl ?_)
                exact awl_nil ⟨rfl, post_put⟩⟩⟩
            , ⟨_, rfl, fun sl hd hr ho => by
                first | (refine r_load1b 0 (hd 3 _ rfl rfl rfl) rfl rfl T.agg3 rfl ?_) | (refine r_load1 (hd 3 _ rfl rfl rfl) T.agg3 rfl ?_) | (refine r_load1b 1 (hd 3 _ rfl rfl rfl) rfl rfl T.agg3 rfl ?_) | (refine r_load1b 2 (hd 3 _ rfl rfl rfl) rfl rfl T.agg3 rfl ?_) | (refine r_load1b 3 (hd 3 _ rfl rfl rfl) rfl rfl T.agg3 rfl ?_)
                exact awl_nil ⟨rfl, post_put⟩⟩⟩
            , ⟨_, rfl, fun sl hd hr ho => by
                refine r_move (hr 10 _ rfl rfl rfl) rfl ?_
                exact awl_nil ⟨rfl, post_put⟩⟩⟩
            , ⟨_, rfl, fun sl hd hr ho => by
                first | (refine r_loadAb 0 (hr 14 _ rfl rfl rfl) rfl T.agg60 T.sz60 rfl rfl ?_) | (refine r_loadA (hr 14 _ rfl rfl rfl) T.agg60 T.sz60 rfl rfl ?_) | (refine r_loadAb 1 (hr 14 _ rfl rfl rfl) rfl T.agg60 T.sz60 rfl rfl ?_) | (refine r_loadAb 2 (hr 14 _ rfl rfl rfl) rfl T.agg60 T.sz60 rfl rfl ?_) | (refine r_loadAb 3 (hr 14 _ rfl rfl rfl) rfl T.agg60 T.sz60 rfl rfl ?_)
                exact awl_nil ⟨rfl, post_put⟩⟩⟩
            , ⟨_, rfl, fun sl hd hr ho => by
                refine r_lookupK 1 keyP (ev := numA) (k := p) 0 (hd 5 _ rfl rfl rfl) rfl (hd 6 _ rfl rfl rfl) (isVal_pl p) T.map55 T.zav23 rfl ?_
                exact awl_nil ⟨rfl, post_put⟩⟩⟩
            , ⟨_, rfl, fun sl hd hr ho => by
                refine r_move (hr 11 _ rfl rfl rfl) rfl ?_
                exact awl_nil ⟨rfl, post_put⟩⟩⟩
            , ⟨_, rfl, fun sl hd hr ho => by
                first | (refine r_loadAb 0 (hr 14 _ rfl rfl rfl) rfl T.agg60 T.sz60 rfl rfl ?_) | (refine r_loadA (hr 14 _ rfl rfl rfl) T.agg60 T.sz60 rfl rfl ?_) | (refine r_loadAb 1 (hr 14 _ rfl rfl rfl) rfl T.agg60 T.sz60 rfl rfl ?_) | (refine r_loadAb 2 (hr 14 _ rfl rfl rfl) rfl T.agg60 T.sz60 rfl rfl ?_) | (refine r_loadAb 3 (hr 14 _ rfl rfl rfl) rfl T.agg60 T.sz60 rfl rfl ?_)
                exact awl_nil ⟨rfl, post_put⟩⟩⟩
            , ⟨_, rfl, fun sl hd hr ho => by
                refine r_lookupK 2 keyP (ev := numA) (k := p) 0 (hd 8 _ rfl rfl rfl) rfl (hd 9 _ rfl rfl rfl) (isVal_pl p) T.map55 T.zav23 rfl ?_
                exact awl_nil ⟨rfl, post_put⟩⟩⟩
            , ⟨_, rfl, fun sl hd hr ho => by
                refine r_move (hr 12 _ rfl rfl rfl) rfl ?_
                exact awl_nil ⟨rfl, post_put⟩⟩⟩
            , ⟨_, rfl, fun sl hd hr ho => by
                first | (refine r_loadAb 0 (hr 14 _ rfl rfl rfl) rfl T.agg60 T.sz60 rfl rfl ?_) | (refine r_loadA (hr 14 _ rfl rfl rfl) T.agg60 T.sz60 rfl rfl ?_) | (refine r_loadAb 1 (hr 14 _ rfl rfl rfl) rfl T.agg60 T.sz60 rfl rfl ?_) | (refine r_loadAb 2 (hr 14 _ rfl rfl rfl) rfl T.agg60 T.sz60 rfl rfl ?_) | (refine r_loadAb 3 (hr 14 _ rfl rfl rfl) rfl T.agg60 T.sz60 rfl rfl ?_)
                exact awl_nil ⟨rfl, post_put⟩⟩⟩
            , ⟨_, rfl, fun sl hd hr ho => by
                refine r_lookupK 3 keyP (ev := numA) (k := p) 0 (hd 11 _ rfl rfl rfl) rfl (hd 12 _ rfl rfl rfl) (isVal_pl p) T.map55 T.zav23 rfl ?_
                exact awl_nil ⟨rfl, post_put⟩⟩⟩
            , ⟨_, rfl, fun sl hd hr ho => by
                refine r_build (parts := [(0, .tmp 83), (1, .tmp 85), (2, .tmp 88), (3, .tmp 91), (4, .tmp 94)]) rfl T.pl37 T.zero37 (parts_cons (hd 2 _ rfl rfl rfl) (parts_cons (hd 4 _ rfl rfl rfl) (parts_cons (hd 7 _ rfl rfl rfl) (parts_cons (hd 10 _ rfl rfl rfl) (parts_cons (hd 13 _ rfl rfl rfl) parts_nil))))) rfl rfl ?_
                exact awl_nil ⟨rfl, post_put⟩⟩⟩
            , ⟨_, rfl, fun sl hd hr ho => by
                refine r_lit 96 (parts := [(0, .tmp 95)]) rfl T.sl26 T.sz37 T.zraw37 rfl rfl (parts_cons (hd 14 _ rfl rfl rfl) parts_nil) rfl rfl rfl rfl ?_
                exact awl_nil ⟨rfl, (post_dem (ho 96 (List.mem_of_elem_eq_true rfl)))⟩⟩⟩
            (by rfl) ?_
          refine r_append 9 rfl (by first | exact .own _ | exact .nil) rfl (by first | exact .sl _ | exact .own _ _ | exact .nil) T.sl26 T.sz37 (by decide) T.by37 T.zlen37 (by simp [chunks] <;> omega) (by simp [chunks] <;> omega) rfl ?_
          refine r_assign rfl rfl ?_
          refine awl_nil ?_
          refine x_block ?_
          refine x_block ?_
          refine x_then ?_
          refine awp_region ?_
          refine r_ari _ rfl rfl rfl (wrap_id (by first | omega | (simp; omega))) rfl ?_
          refine r_move rfl rfl ?_
          refine awl_nil ?_
          refine x_then ?_
          have et := fm_step (f := takeAt told base ours theirs) hp
          have ec := fm_step (f := clashAt told base ours theirs) hp
          rw [ht] at et
          rw [hcl] at ec
          simp only [Option.toList_some, Option.toList_none, List.append_nil] at et ec
          refine ⟨pl.length - (k + 1), ⟨101, [(3, .a sv), (8, .own 8 3 (((pl.take (k + 1)).filterMap (takeAt told base ours theirs)).map Ent.cs)), (9, .own 9 5 (((pl.take (k + 1)).filterMap (clashAt told base ours theirs)).map Cla.cs)), (10, .a (.v (.map (some bx)))), (11, .a (.v (.map (some by_)))), (12, .a (.v (.map (some bz)))), (27, .a (plsA pl)), (28, .a (.v (.int .i64 ((pl.map PL.cs).length)))), (29, .a (.v (.int .i64 (((k + 1) : Int)))))], [⟨bx, true, .map (encM ekP numA (shownM base))⟩, ⟨by_, true, .map (encM ekP numA (shownM ours))⟩, ⟨bz, true, .map (encM ekP numA (shownM theirs))⟩]⟩, ⟨rfl, (Slots.cons rfl (by first | exact .refl _ | exact .nilOwn _ _ | exact .nilSl _ | exact .ownSl _ _ _  | exact SV.le.ownEq (by first | rfl | (rw [et, List.map_append]; rfl) | (rw [ec, List.map_append]; rfl) | (rw [et]; first | done | rfl) | (rw [ec]; first | done | rfl)) | exact SV.le.of_eq (by first | rfl | (rw [et, List.map_append]; rfl) | (rw [ec, List.map_append]; rfl) | (rw [et]; first | done | rfl) | (rw [ec]; first | done | rfl))) (Slots.cons rfl (by first | exact .refl _ | exact .nilOwn _ _ | exact .nilSl _ | exact .ownSl _ _ _  | exact SV.le.ownEq (by first | rfl | (rw [et, List.map_append]; rfl) | (rw [ec, List.map_append]; rfl) | (rw [et]; first | done | rfl) | (rw [ec]; first | done | rfl)) | exact SV.le.of_eq (by first | rfl | (rw [et, List.map_append]; rfl) | (rw [ec, List.map_append]; rfl) | (rw [et]; first | done | rfl) | (rw [ec]; first | done | rfl))) (Slots.cons rfl (by first | exact .refl _ | exact .nilOwn _ _ | exact .nilSl _ | exact .ownSl _ _ _  | exact SV.le.ownEq (by first | rfl | (rw [et, List.map_append]; rfl) | (rw [ec, List.map_append]; rfl) | (rw [et]; first | done | rfl) | (rw [ec]; first | done | rfl)) | exact SV.le.of_eq (by first | rfl | (rw [et, List.map_append]; rfl) | (rw [ec, List.map_append]; rfl) | (rw [et]; first | done | rfl) | (rw [ec]; first | done | rfl))) (Slots.cons rfl (by first | exact .refl _ | exact .nilOwn _ _ | exact .nilSl _ | exact .ownSl _ _ _  | exact SV.le.ownEq (by first | rfl | (rw [et, List.map_append]; rfl) | (rw [ec, List.map_append]; rfl) | (rw [et]; first | done | rfl) | (rw [ec]; first | done | rfl)) | exact SV.le.of_eq (by first | rfl | (rw [et, List.map_append]; rfl) | (rw [ec, List.map_append]; rfl) | (rw [et]; first | done | rfl) | (rw [ec]; first | done | rfl))) (Slots.cons rfl (by first | exact .refl _ | exact .nilOwn _ _ | exact .nilSl _ | exact .ownSl _ _ _  | exact SV.le.ownEq (by first | rfl | (rw [et, List.map_append]; rfl) | (rw [ec, List.map_append]; rfl) | (rw [et]; first | done | rfl) | (rw [ec]; first | done | rfl)) | exact SV.le.of_eq (by first | rfl | (rw [et, List.map_append]; rfl) | (rw [ec, List.map_append]; rfl) | (rw [et]; first | done | rfl) | (rw [ec]; first | done | rfl))) (Slots.cons rfl (by first | exact .refl _ | exact .nilOwn _ _ | exact .nilSl _ | exact .ownSl _ _ _  | exact SV.le.ownEq (by first | rfl | (rw [et, List.map_append]; rfl) | (rw [ec, List.map_append]; rfl) | (rw [et]; first | done | rfl) | (rw [ec]; first | done | rfl)) | exact SV.le.of_eq (by first | rfl | (rw [et, List.map_append]; rfl) | (rw [ec, List.map_append]; rfl) | (rw [et]; first | done | rfl) | (rw [ec]; first | done | rfl))) (Slots.cons rfl (by first | exact .refl _ | exact .nilOwn _ _ | exact .nilSl _ | exact .ownSl _ _ _  | exact SV.le.ownEq (by first | rfl | (rw [et, List.map_append]; rfl) | (rw [ec, List.map_append]; rfl) | (rw [et]; first | done | rfl) | (rw [ec]; first | done | rfl)) | exact SV.le.of_eq (by first | rfl | (rw [et, List.map_append]; rfl) | (rw [ec, List.map_append]; rfl) | (rw [et]; first | done | rfl) | (rw [ec]; first | done | rfl))) (Slots.cons rfl (by first | exact .refl _ | exact .nilOwn _ _ | exact .nilSl _ | exact .ownSl _ _ _  | exact SV.le.ownEq (by first | rfl | (rw [et, List.map_append]; rfl) | (rw [ec, List.map_append]; rfl) | (rw [et]; first | done | rfl) | (rw [ec]; first | done | rfl)) | exact SV.le.of_eq (by first | rfl | (rw [et, List.map_append]; rfl) | (rw [ec, List.map_append]; rfl) | (rw [et]; first | done | rfl) | (rw [ec]; first | done | rfl))) (Slots.cons rfl (by first | exact .refl _ | exact .nilOwn _ _ | exact .nilSl _ | exact .ownSl _ _ _  | exact SV.le.ownEq (by first | rfl | (rw [et, List.map_append]; rfl) | (rw [ec, List.map_append]; rfl) | (rw [et]; first | done | rfl) | (rw [ec]; first | done | rfl)) | exact SV.le.of_eq (by first | rfl | (rw [et, List.map_append]; rfl) | (rw [ec, List.map_append]; rfl) | (rw [et]; first | done | rfl) | (rw [ec]; first | done | rfl))) Slots.nil))))))))), (by first | exact List.Sublist.refl _ | exact .cons_cons _ (.cons _ (.refl _)) | exact List.nil_sublist _ | exact .cons _ (.refl _) | exact .cons _ (.cons _ (.refl _)) | exact .cons _ (.cons _ (.cons _ (.refl _))) | exact .cons _ (.cons _ (.cons _ (.cons _ (.refl _)))) | exact .cons_cons _ (List.nil_sublist _))⟩, (by omega), ⟨k + 1, rfl, rfl, (by omega)⟩⟩
        ·
          have ht : takeAt told base ours theirs p = none := by rw [takeAt_get, ← hb1, ← hb2]; cases b1 <;> first | rfl | (simp at hg53; done) | (simp at hc1; done) | (simp at hg70; done) | (simp at hc2; done)
          have hcl : clashAt told base ours theirs p = none := by rw [clashAt_get, ← hb1, ← hb2, ← hb3]; cases b1 <;> cases b3 <;> first | rfl | (simp at hg53; done) | (simp at hc1; done) | (simp at hg70; done) | (simp at hc2; done)
          refine awp_skip ?_
          refine x_block ?_
          refine x_block ?_
          refine x_then ?_
          refine awp_region ?_
          refine r_ari _ rfl rfl rfl (wrap_id (by first | omega | (simp; omega))) rfl ?_
          refine r_move rfl rfl ?_
          refine awl_nil ?_
          refine x_then ?_
          have et := fm_step (f := takeAt told base ours theirs) hp
          have ec := fm_step (f := clashAt told base ours theirs) hp
          rw [ht] at et
          rw [hcl] at ec
          simp only [Option.toList_some, Option.toList_none, List.append_nil] at et ec
          refine ⟨pl.length - (k + 1), ⟨101, [(3, .a sv), (8, .own 8 3 (((pl.take (k + 1)).filterMap (takeAt told base ours theirs)).map Ent.cs)), (9, .own 9 5 (((pl.take (k + 1)).filterMap (clashAt told base ours theirs)).map Cla.cs)), (10, .a (.v (.map (some bx)))), (11, .a (.v (.map (some by_)))), (12, .a (.v (.map (some bz)))), (27, .a (plsA pl)), (28, .a (.v (.int .i64 ((pl.map PL.cs).length)))), (29, .a (.v (.int .i64 (((k + 1) : Int)))))], [⟨bx, true, .map (encM ekP numA (shownM base))⟩, ⟨by_, true, .map (encM ekP numA (shownM ours))⟩, ⟨bz, true, .map (encM ekP numA (shownM theirs))⟩]⟩, ⟨rfl, (Slots.cons rfl (by first | exact .refl _ | exact .nilOwn _ _ | exact .nilSl _ | exact .ownSl _ _ _  | exact SV.le.ownEq (by first | rfl | (rw [et, List.map_append]; rfl) | (rw [ec, List.map_append]; rfl) | (rw [et]; first | done | rfl) | (rw [ec]; first | done | rfl)) | exact SV.le.of_eq (by first | rfl | (rw [et, List.map_append]; rfl) | (rw [ec, List.map_append]; rfl) | (rw [et]; first | done | rfl) | (rw [ec]; first | done | rfl))) (Slots.cons rfl (by first | exact .refl _ | exact .nilOwn _ _ | exact .nilSl _ | exact .ownSl _ _ _  | exact SV.le.ownEq (by first | rfl | (rw [et, List.map_append]; rfl) | (rw [ec, List.map_append]; rfl) | (rw [et]; first | done | rfl) | (rw [ec]; first | done | rfl)) | exact SV.le.of_eq (by first | rfl | (rw [et, List.map_append]; rfl) | (rw [ec, List.map_append]; rfl) | (rw [et]; first | done | rfl) | (rw [ec]; first | done | rfl))) (Slots.cons rfl (by first | exact .refl _ | exact .nilOwn _ _ | exact .nilSl _ | exact .ownSl _ _ _  | exact SV.le.ownEq (by first | rfl | (rw [et, List.map_append]; rfl) | (rw [ec, List.map_append]; rfl) | (rw [et]; first | done | rfl) | (rw [ec]; first | done | rfl)) | exact SV.le.of_eq (by first | rfl | (rw [et, List.map_append]; rfl) | (rw [ec, List.map_append]; rfl) | (rw [et]; first | done | rfl) | (rw [ec]; first | done | rfl))) (Slots.cons rfl (by first | exact .refl _ | exact .nilOwn _ _ | exact .nilSl _ | exact .ownSl _ _ _  | exact SV.le.ownEq (by first | rfl | (rw [et, List.map_append]; rfl) | (rw [ec, List.map_append]; rfl) | (rw [et]; first | done | rfl) | (rw [ec]; first | done | rfl)) | exact SV.le.of_eq (by first | rfl | (rw [et, List.map_append]; rfl) | (rw [ec, List.map_append]; rfl) | (rw [et]; first | done | rfl) | (rw [ec]; first | done | rfl))) (Slots.cons rfl (by first | exact .refl _ | exact .nilOwn _ _ | exact .nilSl _ | exact .ownSl _ _ _  | exact SV.le.ownEq (by first | rfl | (rw [et, List.map_append]; rfl) | (rw [ec, List.map_append]; rfl) | (rw [et]; first | done | rfl) | (rw [ec]; first | done | rfl)) | exact SV.le.of_eq (by first | rfl | (rw [et, List.map_append]; rfl) | (rw [ec, List.map_append]; rfl) | (rw [et]; first | done | rfl) | (rw [ec]; first | done | rfl))) (Slots.cons rfl (by first | exact .refl _ | exact .nilOwn _ _ | exact .nilSl _ | exact .ownSl _ _ _  | exact SV.le.ownEq (by first | rfl | (rw [et, List.map_append]; rfl) | (rw [ec, List.map_append]; rfl) | (rw [et]; first | done | rfl) | (rw [ec]; first | done | rfl)) | exact SV.le.of_eq (by first | rfl | (rw [et, List.map_append]; rfl) | (rw [ec, List.map_append]; rfl) | (rw [et]; first | done | rfl) | (rw [ec]; first | done | rfl))) (Slots.cons rfl (by first | exact .refl _ | exact .nilOwn _ _ | exact .nilSl _ | exact .ownSl _ _ _  | exact SV.le.ownEq (by first | rfl | (rw [et, List.map_append]; rfl) | (rw [ec, List.map_append]; rfl) | (rw [et]; first | done | rfl) | (rw [ec]; first | done | rfl)) | exact SV.le.of_eq (by first | rfl | (rw [et, List.map_append]; rfl) | (rw [ec, List.map_append]; rfl) | (rw [et]; first | done | rfl) | (rw [ec]; first | done | rfl))) (Slots.cons rfl (by first | exact .refl _ | exact .nilOwn _ _ | exact .nilSl _ | exact .ownSl _ _ _  | exact SV.le.ownEq (by first | rfl | (rw [et, List.map_append]; rfl) | (rw [ec, List.map_append]; rfl) | (rw [et]; first | done | rfl) | (rw [ec]; first | done | rfl)) | exact SV.le.of_eq (by first | rfl | (rw [et, List.map_append]; rfl) | (rw [ec, List.map_append]; rfl) | (rw [et]; first | done | rfl) | (rw [ec]; first | done | rfl))) (Slots.cons rfl (by first | exact .refl _ | exact .nilOwn _ _ | exact .nilSl _ | exact .ownSl _ _ _  | exact SV.le.ownEq (by first | rfl | (rw [et, List.map_append]; rfl) | (rw [ec, List.map_append]; rfl) | (rw [et]; first | done | rfl) | (rw [ec]; first | done | rfl)) | exact SV.le.of_eq (by first | rfl | (rw [et, List.map_append]; rfl) | (rw [ec, List.map_append]; rfl) | (rw [et]; first | done | rfl) | (rw [ec]; first | done | rfl))) Slots.nil))))))))), (by first | exact List.Sublist.refl _ | exact .cons_cons _ (.cons _ (.refl _)) | exact List.nil_sublist _ | exact .cons _ (.refl _) | exact .cons _ (.cons _ (.refl _)) | exact .cons _ (.cons _ (.cons _ (.refl _))) | exact .cons _ (.cons _ (.cons _ (.cons _ (.refl _)))) | exact .cons_cons _ (List.nil_sublist _))⟩, (by omega), ⟨k + 1, rfl, rfl, (by omega)⟩⟩
    ·
      refine awp_region ?_
      refine r_move rfl rfl ?_
      refine r_move rfl rfl ?_
      refine g_skip rfl rfl rfl rfl ?_
      refine g_skip rfl rfl rfl rfl ?_
      refine r_pickF rfl rfl rfl rfl ?_
      refine r_assign rfl rfl ?_
      refine awl_nil ?_
      refine x_then ?_
      refine awp_condF rfl ?_
      refine awp_seq ?_
      refine awp_drawS [69, 70, 71, 72, 73, 74, 75, 76, 77] [_, _, _, _, _, _, _, _, _] [] [] T.mixed rfl rfl rfl ⟨⟨⟨⟨⟨⟨⟨⟨⟨trivial
        , ⟨_, rfl, fun sl hd hr ho => by
            refine r_move (hr 16 _ rfl rfl rfl) rfl ?_
            exact awl_nil ⟨rfl, post_put⟩⟩⟩
        , ⟨_, rfl, fun sl hd hr ho => by
            refine r_move (hd 0 _ rfl rfl rfl) rfl ?_
            exact awl_nil ⟨rfl, post_put⟩⟩⟩
        , ⟨_, rfl, fun sl hd hr ho => by
            refine g_skip rfl (hd 1 _ rfl rfl rfl) rfl rfl ?_
            exact awl_nil ⟨rfl, post_put⟩⟩⟩
        , ⟨_, rfl, fun sl hd hr ho => by
            refine g_skip rfl (hd 1 _ rfl rfl rfl) rfl rfl ?_
            exact awl_nil ⟨rfl, post_put⟩⟩⟩
        , ⟨_, rfl, fun sl hd hr ho => by
            refine g_skip rfl (hd 1 _ rfl rfl rfl) rfl rfl ?_
            exact awl_nil ⟨rfl, post_put⟩⟩⟩
        , ⟨_, rfl, fun sl hd hr ho => by
            refine g_skip rfl (hd 1 _ rfl rfl rfl) rfl rfl ?_
            exact awl_nil ⟨rfl, post_put⟩⟩⟩
        , ⟨_, rfl, fun sl hd hr ho => by
            refine g_skip rfl (hd 1 _ rfl rfl rfl) rfl rfl ?_
            exact awl_nil ⟨rfl, post_put⟩⟩⟩
        , ⟨_, rfl, fun sl hd hr ho => by
            refine g_skip rfl (hd 1 _ rfl rfl rfl) rfl rfl ?_
            exact awl_nil ⟨rfl, post_put⟩⟩⟩
        , ⟨_, rfl, fun sl hd hr ho => by
            refine g_skip rfl (hd 1 _ rfl rfl rfl) rfl rfl ?_
            exact awl_nil ⟨rfl, post_put⟩⟩⟩
        (by rfl) ?_
      refine g_skip rfl rfl rfl rfl ?_
      refine g_skip rfl rfl rfl rfl ?_
      refine r_pickF rfl rfl rfl rfl ?_
      refine r_assign rfl rfl ?_
      refine awl_nil ?_
      refine x_then ?_
      refine awp_condF rfl ?_
      have ht : takeAt told base ours theirs p = none := by rw [takeAt_get, ← hb1, ← hb2]; cases b1 <;> first | rfl | (simp at hg53; done) | (simp at hc1; done) | (simp at hg70; done) | (simp at hc2; done)
      have hcl : clashAt told base ours theirs p = none := by rw [clashAt_get, ← hb1, ← hb2, ← hb3]; cases b1 <;> cases b3 <;> first | rfl | (simp at hg53; done) | (simp at hc1; done) | (simp at hg70; done) | (simp at hc2; done)
      refine awp_skip ?_
      refine x_block ?_
      refine x_block ?_
      refine x_then ?_
      refine awp_region ?_
      refine r_ari _ rfl rfl rfl (wrap_id (by first | omega | (simp; omega))) rfl ?_
      refine r_move rfl rfl ?_
      refine awl_nil ?_
      refine x_then ?_
      have et := fm_step (f := takeAt told base ours theirs) hp
      have ec := fm_step (f := clashAt told base ours theirs) hp
      rw [ht] at et
      rw [hcl] at ec
      simp only [Option.toList_some, Option.toList_none, List.append_nil] at et ec
      refine ⟨pl.length - (k + 1), ⟨101, [(3, .a sv), (8, .own 8 3 (((pl.take (k + 1)).filterMap (takeAt told base ours theirs)).map Ent.cs)), (9, .own 9 5 (((pl.take (k + 1)).filterMap (clashAt told base ours theirs)).map Cla.cs)), (10, .a (.v (.map (some bx)))), (11, .a (.v (.map (some by_)))), (12, .a (.v (.map (some bz)))), (27, .a (plsA pl)), (28, .a (.v (.int .i64 ((pl.map PL.cs).length)))), (29, .a (.v (.int .i64 (((k + 1) : Int)))))], [⟨bx, true, .map (encM ekP numA (shownM base))⟩, ⟨by_, true, .map (encM ekP numA (shownM ours))⟩, ⟨bz, true, .map (encM ekP numA (shownM theirs))⟩]⟩, ⟨rfl, (Slots.cons rfl (by first | exact .refl _ | exact .nilOwn _ _ | exact .nilSl _ | exact .ownSl _ _ _  | exact SV.le.ownEq (by first | rfl | (rw [et, List.map_append]; rfl) | (rw [ec, List.map_append]; rfl) | (rw [et]; first | done | rfl) | (rw [ec]; first | done | rfl)) | exact SV.le.of_eq (by first | rfl | (rw [et, List.map_append]; rfl) | (rw [ec, List.map_append]; rfl) | (rw [et]; first | done | rfl) | (rw [ec]; first | done | rfl))) (Slots.cons rfl (by first | exact .refl _ | exact .nilOwn _ _ | exact .nilSl _ | exact .ownSl _ _ _  | exact SV.le.ownEq (by first | rfl | (rw [et, List.map_append]; rfl) | (rw [ec, List.map_append]; rfl) | (rw [et]; first | done | rfl) | (rw [ec]; first | done | rfl)) | exact SV.le.of_eq (by first | rfl | (rw [et, List.map_append]; rfl) | (rw [ec, List.map_append]; rfl) | (rw [et]; first | done | rfl) | (rw [ec]; first | done | rfl))) (Slots.cons rfl (by first | exact .refl _ | exact .nilOwn _ _ | exact .nilSl _ | exact .ownSl _ _ _  | exact SV.le.ownEq (by first | rfl | (rw [et, List.map_append]; rfl) | (rw [ec, List.map_append]; rfl) | (rw [et]; first | done | rfl) | (rw [ec]; first | done | rfl)) | exact SV.le.of_eq (by first | rfl | (rw [et, List.map_append]; rfl) | (rw [ec, List.map_append]; rfl) | (rw [et]; first | done | rfl) | (rw [ec]; first | done | rfl))) (Slots.cons rfl (by first | exact .refl _ | exact .nilOwn _ _ | exact .nilSl _ | exact .ownSl _ _ _  | exact SV.le.ownEq (by first | rfl | (rw [et, List.map_append]; rfl) | (rw [ec, List.map_append]; rfl) | (rw [et]; first | done | rfl) | (rw [ec]; first | done | rfl)) | exact SV.le.of_eq (by first | rfl | (rw [et, List.map_append]; rfl) | (rw [ec, List.map_append]; rfl) | (rw [et]; first | done | rfl) | (rw [ec]; first | done | rfl))) (Slots.cons rfl (by first | exact .refl _ | exact .nilOwn _ _ | exact .nilSl _ | exact .ownSl _ _ _  | exact SV.le.ownEq (by first | rfl | (rw [et, List.map_append]; rfl) | (rw [ec, List.map_append]; rfl) | (rw [et]; first | done | rfl) | (rw [ec]; first | done | rfl)) | exact SV.le.of_eq (by first | rfl | (rw [et, List.map_append]; rfl) | (rw [ec, List.map_append]; rfl) | (rw [et]; first | done | rfl) | (rw [ec]; first | done | rfl))) (Slots.cons rfl (by first | exact .refl _ | exact .nilOwn _ _ | exact .nilSl _ | exact .ownSl _ _ _  | exact SV.le.ownEq (by first | rfl | (rw [et, List.map_append]; rfl) | (rw [ec, List.map_append]; rfl) | (rw [et]; first | done | rfl) | (rw [ec]; first | done | rfl)) | exact SV.le.of_eq (by first | rfl | (rw [et, List.map_append]; rfl) | (rw [ec, List.map_append]; rfl) | (rw [et]; first | done | rfl) | (rw [ec]; first | done | rfl))) (Slots.cons rfl (by first | exact .refl _ | exact .nilOwn _ _ | exact .nilSl _ | exact .ownSl _ _ _  | exact SV.le.ownEq (by first | rfl | (rw [et, List.map_append]; rfl) | (rw [ec, List.map_append]; rfl) | (rw [et]; first | done | rfl) | (rw [ec]; first | done | rfl)) | exact SV.le.of_eq (by first | rfl | (rw [et, List.map_append]; rfl) | (rw [ec, List.map_append]; rfl) | (rw [et]; first | done | rfl) | (rw [ec]; first | done | rfl))) (Slots.cons rfl (by first | exact .refl _ | exact .nilOwn _ _ | exact .nilSl _ | exact .ownSl _ _ _  | exact SV.le.ownEq (by first | rfl | (rw [et, List.map_append]; rfl) | (rw [ec, List.map_append]; rfl) | (rw [et]; first | done | rfl) | (rw [ec]; first | done | rfl)) | exact SV.le.of_eq (by first | rfl | (rw [et, List.map_append]; rfl) | (rw [ec, List.map_append]; rfl) | (rw [et]; first | done | rfl) | (rw [ec]; first | done | rfl))) (Slots.cons rfl (by first | exact .refl _ | exact .nilOwn _ _ | exact .nilSl _ | exact .ownSl _ _ _  | exact SV.le.ownEq (by first | rfl | (rw [et, List.map_append]; rfl) | (rw [ec, List.map_append]; rfl) | (rw [et]; first | done | rfl) | (rw [ec]; first | done | rfl)) | exact SV.le.of_eq (by first | rfl | (rw [et, List.map_append]; rfl) | (rw [ec, List.map_append]; rfl) | (rw [et]; first | done | rfl) | (rw [ec]; first | done | rfl))) Slots.nil))))))))), (by first | exact List.Sublist.refl _ | exact .cons_cons _ (.cons _ (.refl _)) | exact List.nil_sublist _ | exact .cons _ (.refl _) | exact .cons _ (.cons _ (.refl _)) | exact .cons _ (.cons _ (.cons _ (.refl _))) | exact .cons _ (.cons _ (.cons _ (.cons _ (.refl _)))) | exact .cons_cons _ (List.nil_sublist _))⟩, (by omega), ⟨k + 1, rfl, rfl, (by omega)⟩⟩
  ·
    have hge : pl.length ≤ k := by have := of_decide_eq_false hc0; simp at this; omega
    have hkl : pl.take k = pl := List.take_of_length_le hge
    refine awp_exit ?_
    refine x_thenE ?_
    refine x_thenE ?_
    refine x_blockE ?_
    refine x_then ?_
    refine awp_seq ?_
    refine awp_region ?_
    refine r_move rfl rfl ?_
    refine r_move rfl rfl ?_
    refine r_assign rfl rfl ?_
    refine r_assign rfl rfl ?_
    refine awl_nil ?_
    refine x_then ?_
    refine awp_ret ?_
    exact ⟨(.inl rfl), _, [], (.two (by first | exact .mk rfl rfl | exact .nil rfl) (by first | exact .mk rfl rfl | exact .nil rfl)), ⟨rfl, by rw [hkl, hpl]; rfl⟩, (List.nil_sublist _), (by simp)⟩

end Go.Proofs.Ytcgjgnkpebpimaa.A

/- Layer 32: walks of the document's small functions, of closures. -/
import Derived.Test.YtcgjgnkpebpimaaProg
import Derived.KernelRfl
import Derived.Test.YtcgjgnkpebpimaaX32D
namespace Go.Proofs.Ytcgjgnkpebpimaa.A
open Go Go.RowKit
set_option linter.unusedVariables false
set_option linter.unusedSimpArgs false
set_option maxRecDepth 100000

theorem T.en29 : entersT Try.prog 29 := enters_of Try.func29 (by kernel_rfl) (by kernel_rfl)
theorem T.sl44 : sliceT Try.prog 44 = some 22 := by kernel_rfl
theorem T.sz22 : szT Try.prog 22 = some 1 := by kernel_rfl


theorem show_step {l : List Ent} {k : Nat} {x : Ent} {p : PL} (h : l[k]? = some x) (hx : ¬ x.pl = p) (hn : (l.take k).find? (fun e : Ent => decide (e.pl = p)) = none) : (l.take (k + 1)).find? (fun e : Ent => decide (e.pl = p)) = none := by
  rw [takeS h, List.find?_append, hn]; simp [hx]
theorem show_hit {l : List Ent} {k : Nat} {x : Ent} {p : PL} (h : l[k]? = some x) (hx : x.pl = p) (hn : (l.take k).find? (fun e : Ent => decide (e.pl = p)) = none) : shows l p = x.num := by
  have e : l = l.take (k + 1) ++ l.drop (k + 1) := (List.take_append_drop _ _).symm
  unfold shows
  rw [e, takeS h, List.append_assoc, List.find?_append, hn]; simp [hx]
theorem show_end {l : List Ent} {k : Nat} {p : PL} (h : l.length ≤ k) (hn : (l.take k).find? (fun e : Ent => decide (e.pl = p)) = none) : shows l p = 0 := by
  rw [List.take_of_length_le h] at hn; simp [shows, hn]


def toldF (table a b : Int) : Bool := (table.fdiv (2 ^ (min (a.tmod 8 * 8 + b.tmod 8).toNat 64))).tmod 2 == 1
def evenF (table a b : Int) : Bool := toldF table (min (a.tmod 8) (b.tmod 8)) (max (a.tmod 8) (b.tmod 8))
theorem tm8 {a : Int} (h : 0 ≤ a) : 0 ≤ a.tmod 8 ∧ a.tmod 8 < 8 := ⟨Int.tmod_nonneg 8 h, Int.tmod_lt_of_pos a (by decide)⟩
theorem evenF_comm (table a b : Int) : evenF table a b = evenF table b a := by unfold evenF; rw [Int.min_comm, Int.max_comm]

theorem told_ok (a b table : Int) (ha : 0 ≤ a) (hb : 0 ≤ b) : AC Try.prog 29 [numA a, numA b, numA table] [] (fun r n => n = [] ∧ r = bA (toldF table a b)) := by
  have h1 := tm8 ha
  have h2 := tm8 hb
  refine ac_of_awp (rs := [6]) (nt := 17) Try.func29 rfl rfl rfl rfl (fun w0 C0 hq => ?_)
  refine awp_seq ?_
  refine awp_region ?_
  refine r_assign rfl rfl ?_
  refine awl_nil ?_
  refine x_then ?_
  refine awp_seq ?_
  refine awp_region ?_
  refine r_move rfl rfl ?_
  refine r_move rfl rfl ?_
  refine r_div _ rfl rfl (rem_some (by decide)) rfl rfl ?_
  refine r_ari _ rfl rfl rfl (wrapU_id (by omega)) rfl ?_
  refine r_move rfl rfl ?_
  refine r_div _ rfl rfl (rem_some (by decide)) rfl rfl ?_
  refine r_ari _ rfl rfl rfl (wrapU_id (by omega)) rfl ?_
  refine r_sh _ rfl rfl (shr_some (by omega)) rfl rfl ?_
  refine r_div _ rfl rfl (rem_some (by decide)) rfl rfl ?_
  refine r_cmp rfl rfl rfl rfl ?_
  refine r_assign rfl rfl ?_
  refine awl_nil ?_
  refine x_then ?_
  refine awp_ret ?_
  exact ⟨(.inl rfl), _, [], (.one (by first | exact .mk rfl rfl | exact .nil rfl)), ⟨rfl, rfl⟩, (List.nil_sublist _), (by simp)⟩

theorem by1_ok (a b table : Int) (ha : 0 ≤ a) (hb : 0 ≤ b) : AC Try.prog 28 [numA a, numA b, .cp [numA table]] [] (fun r n => n = [] ∧ r = bA (toldF table a b)) := by
  refine ac_of_awp (rs := [5]) (nt := 10) Try.func28 rfl rfl rfl rfl (fun w0 C0 hq => ?_)
  refine awp_seq ?_
  refine awp_region ?_
  refine r_assign rfl rfl ?_
  refine awl_nil ?_
  refine x_then ?_
  refine awp_seq ?_
  refine awp_region ?_
  refine r_move rfl rfl ?_
  refine r_move rfl rfl ?_
  refine r_load1 rfl T.agg23 rfl ?_
  refine r_call0 hq rfl rfl (.cons (.ev rfl rfl) (.cons (.ev rfl rfl) (.cons (.ev rfl rfl) .nil))) (told_ok a b table ha hb) rfl T.en29 rfl (fun r hr => ?_)
  obtain rfl := hr
  refine r_assign rfl rfl ?_
  refine awl_nil ?_
  refine x_then ?_
  refine awp_ret ?_
  exact ⟨(.inl rfl), _, [], (.one (by first | exact .mk rfl rfl | exact .nil rfl)), ⟨rfl, rfl⟩, (List.nil_sublist _), (by simp)⟩

theorem by_ok (table : Int) : AC Try.prog 14 [numA table] [] (fun r n => n = [] ∧ r = .fn 28 [.cp [numA table]]) := by
  refine ac_of_awp (rs := [2]) (nt := 4) Try.func14 rfl rfl rfl rfl (fun w0 C0 hq => ?_)
  refine awp_seq ?_
  refine awp_region ?_
  refine r_box rfl rfl rfl (fun b1 => ?_)
  refine r_assign rfl rfl ?_
  refine awl_nil ?_
  refine x_then ?_
  refine awp_seq ?_
  refine awp_region ?_
  refine awl_imp (imp_commit 0 1 rfl rfl rfl rfl) ?_
  refine r_makeFunc rfl (.cons (.ev rfl rfl) .nil) rfl ?_
  refine r_assign rfl rfl ?_
  refine awl_nil ?_
  refine x_then ?_
  refine awp_ret ?_
  exact ⟨(.inl rfl), _, [], (.one (by first | exact .mk rfl rfl | exact .nil rfl)), ⟨rfl, rfl⟩, (List.nil_sublist _), (by simp)⟩

theorem even1_ok (a b table : Int) (ha : 0 ≤ a) (hb : 0 ≤ b) : AC Try.prog 33 [numA a, numA b, .cp [numA table]] [] (fun r n => n = [] ∧ r = bA (toldF table (min (a.tmod 8) (b.tmod 8)) (max (a.tmod 8) (b.tmod 8)))) := by
  have h1 := tm8 ha
  have h2 := tm8 hb
  refine ac_of_awp (rs := [5]) (nt := 18) Try.func33 rfl rfl rfl rfl (fun w0 C0 hq => ?_)
  refine awp_seq ?_
  refine awp_region ?_
  refine r_assign rfl rfl ?_
  refine awl_nil ?_
  refine x_then ?_
  refine awp_seq ?_
  refine awp_region ?_
  refine r_move rfl rfl ?_
  refine r_div _ rfl rfl (rem_some (by decide)) rfl rfl ?_
  refine r_move rfl rfl ?_
  refine r_div _ rfl rfl (rem_some (by decide)) rfl rfl ?_
  refine r_min rfl rfl rfl ?_
  refine r_move rfl rfl ?_
  refine r_div _ rfl rfl (rem_some (by decide)) rfl rfl ?_
  refine r_move rfl rfl ?_
  refine r_div _ rfl rfl (rem_some (by decide)) rfl rfl ?_
  refine r_max rfl rfl rfl ?_
  refine r_load1 rfl T.agg23 rfl ?_
  refine r_call0 hq rfl rfl (.cons (.ev rfl rfl) (.cons (.ev rfl rfl) (.cons (.ev rfl rfl) .nil))) (told_ok _ _ table (by omega) (by omega)) rfl T.en29 rfl (fun r hr => ?_)
  obtain rfl := hr
  refine r_assign rfl rfl ?_
  refine awl_nil ?_
  refine x_then ?_
  refine awp_ret ?_
  exact ⟨(.inl rfl), _, [], (.one (by first | exact .mk rfl rfl | exact .nil rfl)), ⟨rfl, rfl⟩, (List.nil_sublist _), (by simp)⟩

theorem even_ok (table : Int) : AC Try.prog 18 [numA table] [] (fun r n => n = [] ∧ r = .fn 33 [.cp [numA table]]) := by
  refine ac_of_awp (rs := [2]) (nt := 4) Try.func18 rfl rfl rfl rfl (fun w0 C0 hq => ?_)
  refine awp_seq ?_
  refine awp_region ?_
  refine r_box rfl rfl rfl (fun b1 => ?_)
  refine r_assign rfl rfl ?_
  refine awl_nil ?_
  refine x_then ?_
  refine awp_seq ?_
  refine awp_region ?_
  refine awl_imp (imp_commit 0 1 rfl rfl rfl rfl) ?_
  refine r_makeFunc rfl (.cons (.ev rfl rfl) .nil) rfl ?_
  refine r_assign rfl rfl ?_
  refine awl_nil ?_
  refine x_then ?_
  refine awp_ret ?_
  exact ⟨(.inl rfl), _, [], (.one (by first | exact .mk rfl rfl | exact .nil rfl)), ⟨rfl, rfl⟩, (List.nil_sublist _), (by simp)⟩

theorem all_ok (a b : Int) : AC Try.prog 21 [numA a, numA b] [] (fun r n => n = [] ∧ r = bA true) := by
  refine ac_of_awp (rs := [4]) (nt := 5) Try.func21 rfl rfl rfl rfl (fun w0 C0 hq => ?_)
  refine awp_seq ?_
  refine awp_region ?_
  refine r_assign rfl rfl ?_
  refine awl_nil ?_
  refine x_then ?_
  refine awp_seq ?_
  refine awp_region ?_
  refine r_assign rfl rfl ?_
  refine awl_nil ?_
  refine x_then ?_
  refine awp_ret ?_
  exact ⟨(.inl rfl), _, [], (.one (by first | exact .mk rfl rfl | exact .nil rfl)), ⟨rfl, rfl⟩, (List.nil_sublist _), (by simp)⟩

theorem told_by (table : Int) : Told Try.prog (.fn 28 [.cp [numA table]]) (toldF table) := .fn (enters_of Try.func28 (by kernel_rfl) (by kernel_rfl)) (fun a b ha hb => by1_ok a b table ha hb)
theorem told_even (table : Int) : Told Try.prog (.fn 33 [.cp [numA table]]) (evenF table) := .fn (enters_of Try.func33 (by kernel_rfl) (by kernel_rfl)) (fun a b ha hb => even1_ok a b table ha hb)
theorem told_all : Told Try.prog (.fn 21 []) (fun _ _ => true) := .fn (enters_of Try.func21 (by kernel_rfl) (by kernel_rfl)) (fun a b ha hb => all_ok a b)

theorem one_ok (n0 : Int) : AC Try.prog 24 [numA n0] [] (fun r n => n = [] ∧ r = entsA [⟨0, 0, n0⟩]) := by
  refine ac_of_awp (rs := [2]) (nt := 6) Try.func24 rfl rfl rfl rfl (fun w0 C0 hq => ?_)
  refine awp_seq ?_
  refine awp_region ?_
  refine r_assign rfl rfl ?_
  refine awl_nil ?_
  refine x_then ?_
  refine awp_seq ?_
  refine awp_region ?_
  refine r_move rfl rfl ?_
  refine r_build (parts := [(2, .tmp 3)]) rfl T.pl35 T.zero35 rfl rfl rfl ?_
  refine r_lit 5 (parts := [(0, .tmp 4)]) rfl T.sl22 T.sz35 T.zraw35 rfl rfl rfl rfl rfl rfl rfl ?_
  refine r_assign rfl rfl ?_
  refine awl_nil ?_
  refine x_then ?_
  refine awp_ret ?_
  exact ⟨(.inl rfl), _, [], (.one (by first | exact .mk rfl rfl | exact .nil rfl)), ⟨rfl, rfl⟩, (List.nil_sublist _), (by simp)⟩

theorem great_ok (ls : List (List Ent)) (hls : ls.length ≤ 1000) : AC Try.prog 12 [.sl 1 (ls.map fun l => [entsA l])] [] (fun r n => n = [] ∧ (r = .v (.int .i64 1) ∨ (r = .v (.int .i64 0) ∧ ∀ l ∈ ls, l.length ≤ 20))) := by
  refine ac_of_awp (rs := [2]) (nt := 16) Try.func12 rfl rfl rfl rfl (fun w0 C0 hq => ?_)
  refine awp_seq ?_
  refine awp_region ?_
  refine r_assign rfl rfl ?_
  refine awl_nil ?_
  refine x_then ?_
  refine awp_seq ?_
  refine awp_seq ?_
  refine awp_region ?_
  refine r_assign rfl rfl ?_
  refine awl_nil ?_
  refine x_then ?_
  refine awp_block ?_
  refine awp_loop (fun nn0 S => ∃ k : Nat, S = ⟨16, [(0, .a (.sl 1 (ls.map fun l => [entsA l]))), (3, .a (.v (.int .i64 ((k : Int)))))], []⟩ ∧ nn0 = ls.length - k ∧ (k ≤ ls.length) ∧ (∀ l ∈ ls.take k, l.length ≤ 20)) (ls.length - (0)) ⟨16, [(0, .a (.sl 1 (ls.map fun l => [entsA l]))), (3, .a (.v (.int .i64 (((0) : Int)))))], []⟩ ⟨rfl, (Slots.cons rfl (by first | exact .refl _ | exact .nilOwn _ _ | exact .nilSl _ | exact .ownSl _ _ _  | exact SV.le.of_eq (by simp)) (Slots.cons rfl (by first | exact .refl _ | exact .nilOwn _ _ | exact .nilSl _ | exact .ownSl _ _ _  | exact SV.le.of_eq (by simp)) Slots.nil)), (by first | exact List.Sublist.refl _ | exact .cons_cons _ (.cons _ (.refl _)) | exact List.nil_sublist _ | exact .cons _ (.refl _) | exact .cons _ (.cons _ (.refl _)) | exact .cons _ (.cons _ (.cons _ (.refl _))) | exact .cons _ (.cons _ (.cons _ (.cons _ (.refl _)))) | exact .cons_cons _ (List.nil_sublist _))⟩ ⟨0, rfl, rfl, Nat.zero_le _, (fun l hl => by simp at hl)⟩ ?_
  rintro nn0 _ ⟨k, rfl, rfl, hk, hd⟩
  refine awp_seq ?_
  refine awp_seq ?_
  refine awp_region ?_
  refine r_move rfl rfl ?_
  refine r_move rfl rfl ?_
  first | (refine r_lenS rfl rfl T.sl44 rfl ?_) | (refine r_lenNil rfl T.sl44 rfl ?_)
  refine r_cmp rfl rfl rfl rfl ?_
  refine awl_nil ?_
  refine x_then ?_
  refine awp_cond rfl (fun hc0 => ?_) (fun hc0 => ?_)
  ·
    have hltx : k < ls.length := by have := of_decide_eq_true hc0; simpa using this
    obtain ⟨x, hx⟩ := get_lt hltx
    refine awp_skip ?_
    refine x_then ?_
    refine awp_seq ?_
    refine awp_block ?_
    refine awp_seq ?_
    refine awp_region ?_
    refine r_move rfl rfl ?_
    refine r_move rfl rfl ?_
    refine r_index rfl rfl rfl T.sl44 T.sz22 (by omega) (get_map hx) rfl ?_
    refine r_load1 rfl T.agg22 rfl ?_
    first | (refine r_lenS rfl rfl T.sl22 rfl ?_) | (refine r_lenNil rfl T.sl22 rfl ?_)
    refine r_cmp rfl rfl rfl rfl ?_
    refine awl_nil ?_
    refine x_then ?_
    refine awp_cond rfl (fun hc1 => ?_) (fun hc1 => ?_)
    ·
      refine awp_seq ?_
      refine awp_region ?_
      refine r_assign rfl rfl ?_
      refine awl_nil ?_
      refine x_then ?_
      refine awp_ret ?_
      refine x_blockR ?_
      refine x_thenR ?_
      refine x_thenR ?_
      refine x_blockR ?_
      refine x_thenR ?_
      exact ⟨(.inl rfl), _, [], (.one (by first | exact .mk rfl rfl | exact .nil rfl)), ⟨rfl, .inl rfl⟩, (List.nil_sublist _), (by simp)⟩
    ·
      refine awp_skip ?_
      refine x_block ?_
      refine x_then ?_
      refine awp_region ?_
      refine r_move rfl rfl ?_
      refine r_ari _ rfl rfl rfl (wrap_id (by first | omega | (simp; omega))) rfl ?_
      refine r_assign rfl rfl ?_
      refine awl_nil ?_
      refine x_then ?_
      refine ⟨ls.length - (k + 1), ⟨16, [(0, .a (.sl 1 (ls.map fun l => [entsA l]))), (3, .a (.v (.int .i64 (((k + 1) : Int)))))], []⟩, ⟨rfl, (Slots.cons rfl (by first | exact .refl _ | exact .nilOwn _ _ | exact .nilSl _ | exact .ownSl _ _ _  | exact SV.le.of_eq (by simp)) (Slots.cons rfl (by first | exact .refl _ | exact .nilOwn _ _ | exact .nilSl _ | exact .ownSl _ _ _  | exact SV.le.of_eq (by simp)) Slots.nil)), (by first | exact List.Sublist.refl _ | exact .cons_cons _ (.cons _ (.refl _)) | exact List.nil_sublist _ | exact .cons _ (.refl _) | exact .cons _ (.cons _ (.refl _)) | exact .cons _ (.cons _ (.cons _ (.refl _))) | exact .cons _ (.cons _ (.cons _ (.cons _ (.refl _)))) | exact .cons_cons _ (List.nil_sublist _))⟩, (by omega), ⟨k + 1, rfl, rfl, (by have := (List.getElem?_eq_some_iff.1 hx).1; omega), (all_takeS hx hd (by have := of_decide_eq_false hc1; simp at this; omega))⟩⟩
  ·
    have hge : ls.length ≤ k := by have := of_decide_eq_false hc0; simp at this; omega
    refine awp_exit ?_
    refine x_thenE ?_
    refine x_thenE ?_
    refine x_blockE ?_
    refine x_then ?_
    refine awp_seq ?_
    refine awp_region ?_
    refine r_assign rfl rfl ?_
    refine awl_nil ?_
    refine x_then ?_
    refine awp_ret ?_
    exact ⟨(.inl rfl), _, [], (.one (by first | exact .mk rfl rfl | exact .nil rfl)), ⟨rfl, .inr ⟨rfl, all_end hge hd⟩⟩, (List.nil_sublist _), (by simp)⟩

theorem ralike_ok (a b table : Int) (ha : 0 ≤ a) (hb : 0 ≤ b) : AC Try.prog 30 [numA a, numA b, numA table] [] (fun r n => n = [] ∧ r = bA (alikeF (toldF table) a b)) := by
  refine ac_of_awp (rs := [6]) (nt := 24) Try.func30 rfl rfl rfl rfl (fun w0 C0 hq => ?_)
  refine awp_seq ?_
  refine awp_region ?_
  refine r_assign rfl rfl ?_
  refine awl_nil ?_
  refine x_then ?_
  refine awp_seq ?_
  refine awp_region ?_
  refine r_move rfl rfl ?_
  refine r_move rfl rfl ?_
  refine r_cmp rfl rfl rfl rfl ?_
  refine r_move rfl rfl ?_
  refine g_cases (t' := 10) rfl (fun hg10 => ?_) (fun hg10 => ?_)
  ·
    have h1 : a = b := eq_of_beq hg10
    refine g_skip rfl rfl hg10 rfl ?_
    refine g_skip rfl rfl hg10 rfl ?_
    refine g_skip rfl rfl hg10 rfl ?_
    refine g_skipU rfl rfl rfl ?_
    refine g_skipU rfl rfl rfl ?_
    refine g_skip rfl rfl hg10 rfl ?_
    refine g_skip rfl rfl hg10 rfl ?_
    refine g_skipU rfl rfl rfl ?_
    refine g_skipU rfl rfl rfl ?_
    refine g_skipU rfl rfl rfl ?_
    refine g_skipU rfl rfl rfl ?_
    refine g_skip rfl rfl hg10 rfl ?_
    refine r_pickT rfl hg10 rfl rfl ?_
    refine r_assign rfl rfl ?_
    refine awl_nil ?_
    refine x_then ?_
    refine awp_ret ?_
    exact ⟨(.inl rfl), _, [], (.one (by first | exact .mk rfl rfl | exact .nil rfl)), ⟨rfl, by first | (simp [alikeF, bA, SV.av, *]; done) | (simp [alikeF, bA, SV.av, *]; omega)⟩, (List.nil_sublist _), (by simp)⟩
  ·
    have h1 : ¬ a = b := by simpa using hg10
    refine g_run rfl rfl hg10 ?_
    refine r_move rfl rfl ?_
    refine g_run rfl rfl hg10 ?_
    refine r_cmp rfl rfl rfl rfl ?_
    refine g_run rfl rfl hg10 ?_
    refine r_move rfl rfl ?_
    refine g_cases (t' := 13) rfl (fun hg13 => ?_) (fun hg13 => ?_)
    ·
      have h2 : ¬ a = 0 := by simpa using hg13
      refine g_run rfl rfl hg13 ?_
      refine r_move rfl rfl ?_
      refine g_run rfl rfl hg13 ?_
      refine r_cmp rfl rfl rfl rfl ?_
      refine g_run rfl rfl hg10 ?_
      refine r_pickT rfl hg13 rfl rfl ?_
      refine g_run rfl rfl hg10 ?_
      refine r_move rfl rfl ?_
      refine g_cases (t' := 17) rfl (fun hg17 => ?_) (fun hg17 => ?_)
      ·
        have h3 : ¬ b = 0 := by simpa using hg17
        refine g_run rfl rfl hg17 ?_
        refine r_move rfl rfl ?_
        refine g_run rfl rfl hg17 ?_
        refine r_move rfl rfl ?_
        refine g_run rfl rfl hg17 ?_
        refine r_move rfl rfl ?_
        refine g_run rfl rfl hg17 ?_
        refine r_call0 hq rfl rfl (.cons (.ev rfl rfl) (.cons (.ev rfl rfl) (.cons (.ev rfl rfl) .nil))) (told_ok a b table ha hb) rfl T.en29 rfl (fun r hr => ?_)
        obtain rfl := hr
        refine g_run rfl rfl hg10 ?_
        refine r_pickT rfl hg17 rfl rfl ?_
        refine r_pickF rfl hg10 rfl rfl ?_
        refine r_assign rfl rfl ?_
        refine awl_nil ?_
        refine x_then ?_
        refine awp_ret ?_
        exact ⟨(.inl rfl), _, [], (.one (by first | exact .mk rfl rfl | exact .nil rfl)), ⟨rfl, by first | (simp [alikeF, bA, SV.av, *]; done) | (simp [alikeF, bA, SV.av, *]; omega)⟩, (List.nil_sublist _), (by simp)⟩
      ·
        have h3 : b = 0 := by simpa using hg17
        refine g_skip rfl rfl hg17 rfl ?_
        refine g_skip rfl rfl hg17 rfl ?_
        refine g_skip rfl rfl hg17 rfl ?_
        refine g_skip rfl rfl hg17 rfl ?_
        refine g_run rfl rfl hg10 ?_
        refine r_pickF rfl hg17 rfl rfl ?_
        refine r_pickF rfl hg10 rfl rfl ?_
        refine r_assign rfl rfl ?_
        refine awl_nil ?_
        refine x_then ?_
        refine awp_ret ?_
        exact ⟨(.inl rfl), _, [], (.one (by first | exact .mk rfl rfl | exact .nil rfl)), ⟨rfl, by first | (simp [alikeF, bA, SV.av, *]; done) | (simp [alikeF, bA, SV.av, *]; omega)⟩, (List.nil_sublist _), (by simp)⟩
    ·
      have h2 : a = 0 := by simpa using hg13
      refine g_skip rfl rfl hg13 rfl ?_
      refine g_skip rfl rfl hg13 rfl ?_
      refine g_run rfl rfl hg10 ?_
      refine r_pickF rfl hg13 rfl rfl ?_
      refine g_run rfl rfl hg10 ?_
      refine r_move rfl rfl ?_
      refine g_skip rfl rfl rfl rfl ?_
      refine g_skip rfl rfl rfl rfl ?_
      refine g_skip rfl rfl rfl rfl ?_
      refine g_skip rfl rfl rfl rfl ?_
      refine g_run rfl rfl hg10 ?_
      refine r_pickF rfl rfl rfl rfl ?_
      refine r_pickF rfl hg10 rfl rfl ?_
      refine r_assign rfl rfl ?_
      refine awl_nil ?_
      refine x_then ?_
      refine awp_ret ?_
      exact ⟨(.inl rfl), _, [], (.one (by first | exact .mk rfl rfl | exact .nil rfl)), ⟨rfl, by first | (simp [alikeF, bA, SV.av, *]; done) | (simp [alikeF, bA, SV.av, *]; omega)⟩, (List.nil_sublist _), (by simp)⟩

theorem shows_ok (l : List Ent) (vol blk : Int) (hl : l.length ≤ 1000000) : AC Try.prog 20 [entsA l, .v (.int .i64 vol), .v (.int .i64 blk)] [] (fun r n => n = [] ∧ r = numA (shows l (vol, blk))) := by
  refine ac_of_awp (rs := [6]) (nt := 35) Try.func20 rfl rfl rfl rfl (fun w0 C0 hq => ?_)
  refine awp_seq ?_
  refine awp_region ?_
  refine r_assign rfl rfl ?_
  refine awl_nil ?_
  refine x_then ?_
  refine awp_seq ?_
  refine awp_seq ?_
  refine awp_region ?_
  refine r_assign rfl rfl ?_
  refine awl_nil ?_
  refine x_then ?_
  refine awp_block ?_
  refine awp_loop (fun nn0 S => ∃ k : Nat, S = ⟨35, [(0, .a (entsA l)), (1, .a (.v (.int .i64 vol))), (2, .a (.v (.int .i64 blk))), (7, .a (.v (.int .i64 ((k : Int)))))], []⟩ ∧ nn0 = l.length - k ∧ (k ≤ l.length) ∧ ((l.take k).find? (fun e : Ent => decide (e.pl = (vol, blk))) = none)) (l.length - (0)) ⟨35, [(0, .a (entsA l)), (1, .a (.v (.int .i64 vol))), (2, .a (.v (.int .i64 blk))), (7, .a (.v (.int .i64 (((0) : Int)))))], []⟩ ⟨rfl, (Slots.cons rfl (by first | exact .refl _ | exact .nilOwn _ _ | exact .nilSl _ | exact .ownSl _ _ _  | exact SV.le.of_eq (by simp)) (Slots.cons rfl (by first | exact .refl _ | exact .nilOwn _ _ | exact .nilSl _ | exact .ownSl _ _ _  | exact SV.le.of_eq (by simp)) (Slots.cons rfl (by first | exact .refl _ | exact .nilOwn _ _ | exact .nilSl _ | exact .ownSl _ _ _  | exact SV.le.of_eq (by simp)) (Slots.cons rfl (by first | exact .refl _ | exact .nilOwn _ _ | exact .nilSl _ | exact .ownSl _ _ _  | exact SV.le.of_eq (by simp)) Slots.nil)))), (by first | exact List.Sublist.refl _ | exact .cons_cons _ (.cons _ (.refl _)) | exact List.nil_sublist _ | exact .cons _ (.refl _) | exact .cons _ (.cons _ (.refl _)) | exact .cons _ (.cons _ (.cons _ (.refl _))) | exact .cons _ (.cons _ (.cons _ (.cons _ (.refl _)))) | exact .cons_cons _ (List.nil_sublist _))⟩ ⟨0, rfl, rfl, Nat.zero_le _, rfl⟩ ?_
  rintro nn0 _ ⟨k, rfl, rfl, hk, hno⟩
  refine awp_seq ?_
  refine awp_seq ?_
  refine awp_region ?_
  refine r_move rfl rfl ?_
  refine r_move rfl rfl ?_
  first | (refine r_lenS rfl rfl T.sl22 rfl ?_) | (refine r_lenNil rfl T.sl22 rfl ?_)
  refine r_cmp rfl rfl rfl rfl ?_
  refine awl_nil ?_
  refine x_then ?_
  refine awp_cond rfl (fun hc0 => ?_) (fun hc0 => ?_)
  ·
    have hltx : k < l.length := by have := of_decide_eq_true hc0; simpa using this
    obtain ⟨x, hx⟩ := get_lt hltx
    refine awp_skip ?_
    refine x_then ?_
    refine awp_seq ?_
    refine awp_block ?_
    refine awp_seq ?_
    refine awp_region ?_
    refine r_move rfl rfl ?_
    refine r_move rfl rfl ?_
    refine r_index rfl rfl rfl T.sl22 T.sz35 (by omega) (get_map hx) rfl ?_
    first | (refine r_fieldcp rfl T.f35_0 T.sz3 rfl ?_) | (refine r_fieldb rfl T.f35_0 T.sz3 rfl ?_)
    refine r_load1 rfl T.agg3 rfl ?_
    refine r_move rfl rfl ?_
    refine r_cmp rfl rfl rfl rfl ?_
    refine r_move rfl rfl ?_
    refine g_cases (t' := 21) rfl (fun hg21 => ?_) (fun hg21 => ?_)
    ·
      have hv : x.vol = vol := eq_of_beq hg21
      refine g_run rfl rfl hg21 ?_
      refine r_move rfl rfl ?_
      refine g_run rfl rfl hg21 ?_
      refine r_move rfl rfl ?_
      refine g_run rfl rfl hg21 ?_
      refine r_index rfl rfl rfl T.sl22 T.sz35 (by omega) (get_map hx) rfl ?_
      refine g_run rfl rfl hg21 ?_
      first | (refine r_fieldcp rfl T.f35_1 T.sz3 rfl ?_) | (refine r_fieldb rfl T.f35_1 T.sz3 rfl ?_)
      refine g_run rfl rfl hg21 ?_
      refine r_load1 rfl T.agg3 rfl ?_
      refine g_run rfl rfl hg21 ?_
      refine r_move rfl rfl ?_
      refine g_run rfl rfl hg21 ?_
      refine r_cmp rfl rfl rfl rfl ?_
      refine r_pickT rfl hg21 rfl rfl ?_
      refine awl_nil ?_
      refine x_then ?_
      refine awp_cond rfl (fun hc1 => ?_) (fun hc1 => ?_)
      ·
        have hb : x.blk = blk := eq_of_beq hc1
        refine awp_seq ?_
        refine awp_region ?_
        refine r_move rfl rfl ?_
        refine r_move rfl rfl ?_
        refine r_index rfl rfl rfl T.sl22 T.sz35 (by omega) (get_map hx) rfl ?_
        first | (refine r_fieldcp rfl T.f35_2 T.sz23 rfl ?_) | (refine r_fieldb rfl T.f35_2 T.sz23 rfl ?_)
        refine r_load1 rfl T.agg23 rfl ?_
        refine r_assign rfl rfl ?_
        refine awl_nil ?_
        refine x_then ?_
        refine awp_ret ?_
        refine x_blockR ?_
        refine x_thenR ?_
        refine x_thenR ?_
        refine x_blockR ?_
        refine x_thenR ?_
        exact ⟨(.inl rfl), _, [], (.one (by first | exact .mk rfl rfl | exact .nil rfl)), ⟨rfl, by rw [show_hit hx (by simp [Ent.pl, hv, hb]) hno]; rfl⟩, (List.nil_sublist _), (by simp)⟩
      ·
        have hne : ¬ x.pl = (vol, blk) := fun e => (show ¬ x.blk = blk by simpa using hc1) (congrArg Prod.snd e)
        refine awp_skip ?_
        refine x_block ?_
        refine x_then ?_
        refine awp_region ?_
        refine r_move rfl rfl ?_
        refine r_ari _ rfl rfl rfl (wrap_id (by first | omega | (simp; omega))) rfl ?_
        refine r_assign rfl rfl ?_
        refine awl_nil ?_
        refine x_then ?_
        refine ⟨l.length - (k + 1), ⟨35, [(0, .a (entsA l)), (1, .a (.v (.int .i64 vol))), (2, .a (.v (.int .i64 blk))), (7, .a (.v (.int .i64 (((k + 1) : Int)))))], []⟩, ⟨rfl, (Slots.cons rfl (by first | exact .refl _ | exact .nilOwn _ _ | exact .nilSl _ | exact .ownSl _ _ _  | exact SV.le.of_eq (by simp)) (Slots.cons rfl (by first | exact .refl _ | exact .nilOwn _ _ | exact .nilSl _ | exact .ownSl _ _ _  | exact SV.le.of_eq (by simp)) (Slots.cons rfl (by first | exact .refl _ | exact .nilOwn _ _ | exact .nilSl _ | exact .ownSl _ _ _  | exact SV.le.of_eq (by simp)) (Slots.cons rfl (by first | exact .refl _ | exact .nilOwn _ _ | exact .nilSl _ | exact .ownSl _ _ _  | exact SV.le.of_eq (by simp)) Slots.nil)))), (by first | exact List.Sublist.refl _ | exact .cons_cons _ (.cons _ (.refl _)) | exact List.nil_sublist _ | exact .cons _ (.refl _) | exact .cons _ (.cons _ (.refl _)) | exact .cons _ (.cons _ (.cons _ (.refl _))) | exact .cons _ (.cons _ (.cons _ (.cons _ (.refl _)))) | exact .cons_cons _ (List.nil_sublist _))⟩, (by omega), ⟨k + 1, rfl, rfl, (by have := (List.getElem?_eq_some_iff.1 hx).1; omega), (show_step hx hne hno)⟩⟩
    ·
      have hne : ¬ x.pl = (vol, blk) := fun e => (show ¬ x.vol = vol by simpa using hg21) (congrArg Prod.fst e)
      refine g_skip rfl rfl hg21 rfl ?_
      refine g_skip rfl rfl hg21 rfl ?_
      refine g_skip rfl rfl hg21 rfl ?_
      refine g_skip rfl rfl hg21 rfl ?_
      refine g_skip rfl rfl hg21 rfl ?_
      refine g_skip rfl rfl hg21 rfl ?_
      refine g_skip rfl rfl hg21 rfl ?_
      refine r_pickF rfl hg21 rfl rfl ?_
      refine awl_nil ?_
      refine x_then ?_
      refine awp_condF rfl ?_
      refine awp_skip ?_
      refine x_block ?_
      refine x_then ?_
      refine awp_region ?_
      refine r_move rfl rfl ?_
      refine r_ari _ rfl rfl rfl (wrap_id (by first | omega | (simp; omega))) rfl ?_
      refine r_assign rfl rfl ?_
      refine awl_nil ?_
      refine x_then ?_
      refine ⟨l.length - (k + 1), ⟨35, [(0, .a (entsA l)), (1, .a (.v (.int .i64 vol))), (2, .a (.v (.int .i64 blk))), (7, .a (.v (.int .i64 (((k + 1) : Int)))))], []⟩, ⟨rfl, (Slots.cons rfl (by first | exact .refl _ | exact .nilOwn _ _ | exact .nilSl _ | exact .ownSl _ _ _  | exact SV.le.of_eq (by simp)) (Slots.cons rfl (by first | exact .refl _ | exact .nilOwn _ _ | exact .nilSl _ | exact .ownSl _ _ _  | exact SV.le.of_eq (by simp)) (Slots.cons rfl (by first | exact .refl _ | exact .nilOwn _ _ | exact .nilSl _ | exact .ownSl _ _ _  | exact SV.le.of_eq (by simp)) (Slots.cons rfl (by first | exact .refl _ | exact .nilOwn _ _ | exact .nilSl _ | exact .ownSl _ _ _  | exact SV.le.of_eq (by simp)) Slots.nil)))), (by first | exact List.Sublist.refl _ | exact .cons_cons _ (.cons _ (.refl _)) | exact List.nil_sublist _ | exact .cons _ (.refl _) | exact .cons _ (.cons _ (.refl _)) | exact .cons _ (.cons _ (.cons _ (.refl _))) | exact .cons _ (.cons _ (.cons _ (.cons _ (.refl _)))) | exact .cons_cons _ (List.nil_sublist _))⟩, (by omega), ⟨k + 1, rfl, rfl, (by have := (List.getElem?_eq_some_iff.1 hx).1; omega), (show_step hx hne hno)⟩⟩
  ·
    have hge : l.length ≤ k := by have := of_decide_eq_false hc0; simp at this; omega
    refine awp_exit ?_
    refine x_thenE ?_
    refine x_thenE ?_
    refine x_blockE ?_
    refine x_then ?_
    refine awp_seq ?_
    refine awp_region ?_
    refine r_assign rfl rfl ?_
    refine awl_nil ?_
    refine x_then ?_
    refine awp_ret ?_
    exact ⟨(.inl rfl), _, [], (.one (by first | exact .mk rfl rfl | exact .nil rfl)), ⟨rfl, by rw [show_end hge hno]; rfl⟩, (List.nil_sublist _), (by simp)⟩

end Go.Proofs.Ytcgjgnkpebpimaa.A

/- Layer 31: walks of Turn, and of the statements' small functions. -/
import Derived.Test.YtaglbmgpdoophaaProg
import Derived.KernelRfl
import Derived.Test.YtaglbmgpdoophaaX31C
namespace Go.Proofs.Ytaglbmgpdoophaa.A
open Go Go.RowKit
set_option linter.unusedVariables false
set_option linter.unusedSimpArgs false
set_option maxRecDepth 100000

theorem TD.agg27 : aggT Try.prog 27 = some false := by kernel_rfl
theorem TD.en107 : entersT Try.prog 107 := enters_of Try.func107 (by kernel_rfl) (by kernel_rfl)
theorem TD.zero27 : ZeroT Try.prog 27 [.v (.slice none 0 0)] := ⟨[(.slice none 0 0)], by kernel_rfl, (LeCells.refl _)⟩
theorem TD.en70 : entersT Try.prog 70 := enters_of Try.func70 (by kernel_rfl) (by kernel_rfl)
theorem TD.sz27 : szT Try.prog 27 = some 1 := by kernel_rfl
theorem TD.sl25 : sliceT Try.prog 25 = some 113 := by kernel_rfl
theorem TD.sz113 : szT Try.prog 113 = some 4 := by kernel_rfl
theorem TD.zraw113 : zeroT Try.prog 113 = some [(.int .i64 0), (.int .i64 0), (.int .u64 0), (.int .u64 0)] := by kernel_rfl
theorem TD.by113 : bytesT Try.prog 113 = some 32 := by kernel_rfl
theorem TD.zlen113 : (zeroT Try.prog 113).map (·.length) = some 4 := by kernel_rfl
theorem TD.agg113 : aggT Try.prog 113 = some true := by kernel_rfl
theorem TD.zero113 : ZeroT Try.prog 113 [.v (.int .i64 0), .v (.int .i64 0), .v (.int .u64 0), .v (.int .u64 0)] := ⟨[(.int .i64 0), (.int .i64 0), (.int .u64 0), (.int .u64 0)], by kernel_rfl, (LeCells.refl _)⟩
theorem TD.mix113 : MixT Try.prog 113 [.i64, .i64, .u64, .u64] := ⟨by kernel_rfl, by kernel_rfl, by kernel_rfl, by kernel_rfl⟩
theorem TD.mix110 : MixT Try.prog 110 [.i64, .i64, .u64] := ⟨by kernel_rfl, by kernel_rfl, by kernel_rfl, by kernel_rfl⟩

theorem tr_rwB {wo : List OE} : ∀ x ∈ Tr wo, x.rw = true := fun x hx => by obtain ⟨e0, _, rfl⟩ := List.mem_map.1 hx; rfl
def backA (l : List Chg) (pre : List (List AV)) (x : List AV) : Prop := ∃ y i, l.reverse[pre.length]? = some y ∧ x = [.v (.int .i64 i), .agg (Chg.cs y)]
theorem rev_get {α : Type} {l : List α} {k : Nat} {x : α} (h : l.reverse[k]? = some x) : k < l.length ∧ l[l.length - 1 - k]? = some x := by
  have h1 := (List.getElem?_eq_some_iff.1 h).1
  simp at h1
  exact ⟨h1, by rw [List.getElem?_reverse h1] at h; exact h⟩
theorem rev_step {l : List Chg} {k : Nat} {y : Chg} (h : l.reverse[k]? = some y) : (l.reverse.take (k + 1)).map Chg.turn = (l.reverse.take k).map Chg.turn ++ [y.turn] := by
  rw [takeS h, List.map_append]; rfl
def PE (p : PL) : List AV := Ent.cs ⟨p.1, p.2, 0⟩
def plesA (l : List PL) : AV := .sl 3 (l.map PE)
theorem insP_len (acc : List PL) (p : PL) : (insP acc p).length ≤ acc.length + 1 := by
  induction acc with
  | nil => simp [insP]
  | cons x r ih => unfold insP; split; · simp; exact ih
                   · split <;> simp
theorem show_step {l : List Ent} {k : Nat} {x : Ent} {p : PL} (h : l[k]? = some x) (hx : ¬ x.pl = p) (hn : (l.take k).find? (fun e : Ent => decide (e.pl = p)) = none) : (l.take (k + 1)).find? (fun e : Ent => decide (e.pl = p)) = none := by
  rw [takeS h, List.find?_append, hn]; simp [hx]
theorem show_hit {l : List Ent} {k : Nat} {x : Ent} {p : PL} (h : l[k]? = some x) (hx : x.pl = p) (hn : (l.take k).find? (fun e : Ent => decide (e.pl = p)) = none) : shows l p = x.num := by
  have e : l = l.take (k + 1) ++ l.drop (k + 1) := (List.take_append_drop _ _).symm
  unfold shows
  rw [e, takeS h, List.append_assoc, List.find?_append, hn]; simp [hx]
theorem show_end {l : List Ent} {k : Nat} {p : PL} (h : l.length ≤ k) (hn : (l.take k).find? (fun e : Ent => decide (e.pl = p)) = none) : shows l p = 0 := by
  rw [List.take_of_length_le h] at hn; simp [shows, hn]
theorem insAll_step {acc : List PL} {l : List Ent} {k : Nat} {x : Ent} (h : l[k]? = some x) (ha : acc = insAll [] (l.take k)) : insP acc x.pl = insAll [] (l.take (k + 1)) := by
  rw [ha]; unfold insAll; rw [takeS h, List.foldl_append]; rfl

theorem back_ok (l : List Chg) : AC Try.prog 70 [chgsA l] [] (fun r n => n = [] ∧ r = .fn 107 [.cp [chgsA l]]) := by
  refine ac_of_awp (rs := [2]) (nt := 4) Try.func70 rfl rfl rfl rfl (fun w0 C0 hq => ?_)
  refine awp_seq ?_
  refine awp_region ?_
  refine r_box rfl rfl rfl (fun b1 => ?_)
  refine r_assign rfl rfl ?_
  refine awl_nil ?_
  refine x_then ?_
  refine awp_seq ?_
  refine awp_region ?_
  refine awl_imp (imp_commit 0 1 rfl rfl rfl rfl) ?_
  refine r_makeFunc rfl (.cons (.ev rfl rfl) .nil) rfl ?_
  refine r_assign rfl rfl ?_
  refine awl_nil ?_
  refine x_then ?_
  refine awp_ret ?_
  exact ⟨(.inl rfl), _, [], (.one (by first | exact .mk rfl rfl | exact .nil rfl)), ⟨rfl, rfl⟩, (List.nil_sublist _), (by simp)⟩

theorem back1_ok (l : List Chg) (hl : l.length ≤ 1000000) : IterC Try.prog 107 [.cp [chgsA l]] [] (backA l) (fun xs => xs.length = l.length) := by
  intro l0 Cs J hY wo hJ0
  refine awc_of_awpG Cs (so := Tr wo) (nt := 19) (fun S r => Result1 S [] r) Try.func107 rfl rfl rfl rfl (result1_run rfl) (fun w0 C0 hq hcs => ?_)
  refine awp_seq ?_
  refine awp_region ?_
  refine r_load1 rfl TD.agg27 rfl ?_
  first | (refine r_lenS rfl rfl TD.sl27 rfl ?_) | (refine r_lenNil rfl TD.sl27 rfl ?_)
  refine r_ari _ rfl rfl rfl (wrap_id (by first | omega | (simp; omega))) rfl ?_
  refine r_assign rfl rfl ?_
  refine awl_nil ?_
  refine x_then ?_
  refine awp_block ?_
  refine awp_loop (fun nn0 S => ∃ k : Nat, ∃ pr : List (List AV), ∃ wv : List OE, S = ⟨19, [(0, .a (.v (.func (.yield l0) #[] #[]))), (1, .a (.cp [chgsA l])), (3, .a (.v (.int .i64 ((l.length : Int) - 1 - (k : Int)))))], Tr wv⟩ ∧ nn0 = l.length - k ∧ (k ≤ l.length) ∧ (pr.length = k) ∧ (J pr wv)) (l.length - (0)) ⟨19, [(0, .a (.v (.func (.yield l0) #[] #[]))), (1, .a (.cp [chgsA l])), (3, .a (.v (.int .i64 ((l.length : Int) - 1 - ((0) : Int)))))], Tr (wo)⟩ ⟨rfl, (Slots.cons rfl (by first | exact .refl _ | exact .nilOwn _ _ | exact .nilSl _ | exact .ownSl _ _ _  | exact SV.le.ownEq (by simp) | exact SV.le.of_eq (by simp)) (Slots.cons rfl (by first | exact .refl _ | exact .nilOwn _ _ | exact .nilSl _ | exact .ownSl _ _ _  | exact SV.le.ownEq (by simp) | exact SV.le.of_eq (by simp)) (Slots.cons rfl (by first | exact .refl _ | exact .nilOwn _ _ | exact .nilSl _ | exact .ownSl _ _ _  | exact SV.le.ownEq (by simp) | exact SV.le.of_eq (by simp)) Slots.nil))), (by first | exact List.Sublist.refl _ | exact .cons_cons _ (.cons _ (.refl _)) | exact List.nil_sublist _ | exact .cons _ (.refl _) | exact .cons _ (.cons _ (.refl _)) | exact .cons _ (.cons _ (.cons _ (.refl _))) | exact .cons _ (.cons _ (.cons _ (.cons _ (.refl _)))) | exact .cons_cons _ (List.nil_sublist _))⟩ ⟨0, [], wo, rfl, rfl, Nat.zero_le _, rfl, hJ0⟩ ?_
  rintro nn0 _ ⟨k, pr, wv, rfl, rfl, hk, hpr, hJ⟩
  refine awp_seq ?_
  refine awp_seq ?_
  refine awp_region ?_
  refine r_move rfl rfl ?_
  refine r_cmp rfl rfl rfl rfl ?_
  refine awl_nil ?_
  refine x_then ?_
  refine awp_cond rfl (fun hc0 => ?_) (fun hc0 => ?_)
  ·
    have hkl : k < l.length := by have := of_decide_eq_true hc0; simp at this; omega
    obtain ⟨x, hxr⟩ : ∃ x, l.reverse[k]? = some x := get_lt (by simpa using hkl)
    have hx := (rev_get hxr).2
    refine awp_skip ?_
    refine x_then ?_
    refine awp_seq ?_
    refine awp_block ?_
    refine awp_seq ?_
    refine awp_regionI ?_
    refine awli_op (fun c h => (by cases h)) ?_
    refine r_move rfl rfl ?_
    refine awl_nil ⟨rfl, ?_⟩
    refine awli_op (fun c h => (by cases h)) ?_
    refine r_move rfl rfl ?_
    refine awl_nil ⟨rfl, ?_⟩
    refine awli_op (fun c h => (by cases h)) ?_
    refine r_load1 rfl TD.agg27 rfl ?_
    refine awl_nil ⟨rfl, ?_⟩
    refine awli_op (fun c h => (by cases h)) ?_
    refine r_move rfl rfl ?_
    refine awl_nil ⟨rfl, ?_⟩
    refine awli_op (fun c h => (by cases h)) ?_
    refine r_index rfl rfl rfl TD.sl27 TD.sz112 (by omega) (by rw [show ((l.length : Int) - 1 - (k : Int)).toNat = l.length - 1 - k by omega]; exact get_map hx) rfl ?_
    refine awl_nil ⟨rfl, ?_⟩
    refine awli_op (fun c h => (by cases h)) ?_
    refine r_loadA rfl TD.agg112 TD.sz112 rfl rfl ?_
    refine awl_nil ⟨rfl, ?_⟩
    refine r_yield hq (un := []) (fun n => Tr n) rfl rfl (.cons (.ev rfl rfl) (.cons (.ev rfl rfl) .nil)) Cs hcs (hY pr [.v (.int .i64 ((l.length : Int) - 1 - (k : Int))), .agg (Chg.cs x)] wv hJ ⟨x, _, by rw [hpr]; exact hxr, rfl⟩) (by rw [List.append_nil]; exact List.Perm.refl _) (fun n => by rw [List.append_nil]) rfl (fun nobjs hJ' => ?_)
    refine awli_op (fun c h => (by cases h)) ?_
    refine r_not rfl rfl ?_
    refine awl_nil ⟨rfl, ?_⟩
    refine awli_nil ?_
    refine x_then ?_
    refine awp_cond rfl (fun hc1 => ?_) (fun hc1 => ?_)
    ·
      exfalso; simp at hc1
    ·
      refine awp_skip ?_
      refine x_block ?_
      refine x_then ?_
      refine awp_region ?_
      refine r_move rfl rfl ?_
      refine r_ari _ rfl rfl rfl (wrap_id (by first | omega | (simp; omega))) rfl ?_
      refine r_assign rfl rfl ?_
      refine awl_nil ?_
      refine x_then ?_
      refine ⟨l.length - (k + 1), ⟨19, [(0, .a (.v (.func (.yield l0) #[] #[]))), (1, .a (.cp [chgsA l])), (3, .a (.v (.int .i64 ((l.length : Int) - 1 - ((k + 1) : Int)))))], Tr (nobjs)⟩, ⟨rfl, (Slots.cons rfl (by first | exact .refl _ | exact .nilOwn _ _ | exact .nilSl _ | exact .ownSl _ _ _  | exact SV.le.ownEq (by simp <;> omega) | exact SV.le.of_eq (by simp <;> omega)) (Slots.cons rfl (by first | exact .refl _ | exact .nilOwn _ _ | exact .nilSl _ | exact .ownSl _ _ _  | exact SV.le.ownEq (by simp <;> omega) | exact SV.le.of_eq (by simp <;> omega)) (Slots.cons rfl (by first | exact .refl _ | exact .nilOwn _ _ | exact .nilSl _ | exact .ownSl _ _ _  | exact SV.le.ownEq (by simp <;> omega) | exact SV.le.of_eq (by simp <;> omega)) Slots.nil))), (by first | exact List.Sublist.refl _ | exact .cons_cons _ (.cons _ (.refl _)) | exact List.nil_sublist _ | exact .cons _ (.refl _) | exact .cons _ (.cons _ (.refl _)) | exact .cons _ (.cons _ (.cons _ (.refl _))) | exact .cons _ (.cons _ (.cons _ (.cons _ (.refl _)))) | exact .cons_cons _ (List.nil_sublist _))⟩, (by omega), ⟨k + 1, pr ++ [[.v (.int .i64 ((l.length : Int) - 1 - (k : Int))), .agg (Chg.cs x)]], nobjs, rfl, rfl, (by omega), (by simp [hpr]), hJ'⟩⟩
  ·
    have hkl : l.length ≤ k := by have := of_decide_eq_false hc0; simp at this; omega
    refine awp_exit ?_
    refine x_thenE ?_
    refine x_thenE ?_
    refine x_blockE ?_
    exact ⟨(.inr rfl), _, Tr wv, .none, ⟨pr, wv, by omega, hJ, rfl⟩, (List.Sublist.refl _), tr_rwB⟩

theorem turn_ok (d : List Chg) (hd : d.length ≤ 1000000) : AC Try.prog 30 [chgsA d] [] (fun r n => n = [] ∧ r = chgsA (turnF d)) := by
  refine ac_of_awp (rs := [2]) (nt := 23) Try.func30 rfl rfl rfl rfl (fun w0 C0 hq => ?_)
  refine awp_seq ?_
  refine awp_region ?_
  refine r_assign rfl rfl ?_
  refine awl_nil ?_
  refine x_then ?_
  refine awp_seq ?_
  refine awp_region ?_
  refine r_alloc TD.zero27 rfl (fun b3 => ?_)
  refine awl_nil ?_
  refine x_then ?_
  refine awp_seq ?_
  refine awp_seq ?_
  refine awp_region ?_
  refine r_move rfl rfl ?_
  refine r_call0 hq rfl rfl (.cons (.ev rfl rfl) .nil) (back_ok d) rfl TD.en70 rfl (fun r hr => ?_)
  obtain rfl := hr
  refine awl_nil ?_
  refine x_then ?_
  refine awp_block ?_
  refine awp_rangeFunc (fun pre wo => GrowB b3 4 112 (((d.reverse.take pre.length).map Chg.turn).map Chg.cs) wo) [(3, .a (.v (.pointer (some ⟨b3, 0, none⟩))))] [true] hq rfl (back1_ok d hd) TD.en107 (fun pre x h => by obtain ⟨_, _, _, rfl⟩ := h; rfl) rfl rfl rfl (by first | exact List.Sublist.refl _ | exact .cons_cons _ (.cons _ (.refl _)) | exact List.nil_sublist _ | exact .cons _ (.refl _) | exact .cons _ (.cons _ (.refl _)) | exact .cons _ (.cons _ (.cons _ (.refl _))) | exact .cons _ (.cons _ (.cons _ (.cons _ (.refl _)))) | exact .cons_cons _ (List.nil_sublist _)) (Slots.cons rfl (by first | exact .refl _ | exact .nilOwn _ _ | exact .nilSl _ | exact .ownSl _ _ _  | exact SV.le.of_eq (by simp)) Slots.nil) rfl rfl (.inl ⟨rfl, rfl⟩) ?_ ?_
  ·
    intro lr pre x wo rec busy w0 C0 hq hj hax
    obtain ⟨y, i, hy, rfl⟩ := hax
    have e := rev_step hy
    have hlen : pre.length < d.length := (rev_get hy).1
    rcases hj with ⟨h0, rfl⟩ | ⟨h0, g, cap, rfl⟩
    ·
      have h00 : ((d.reverse.take pre.length).map Chg.turn) = [] := by simpa using h0
      refine awpi_region ?_
      refine awli_op (fun c h => (by cases h)) ?_
      refine r_alloc TD.zero112 rfl (fun b5 => ?_)
      refine awl_nil ⟨rfl, ?_⟩
      refine awli_op (fun c h => (by cases h)) ?_
      first | (refine r_store 0 rfl rfl rfl TD.sz112 rfl rfl rfl ?_) | (refine r_store 1 rfl rfl rfl TD.sz112 rfl rfl rfl ?_) | (refine r_store 2 rfl rfl rfl TD.sz112 rfl rfl rfl ?_) | (refine r_store 3 rfl rfl rfl TD.sz112 rfl rfl rfl ?_)
      refine awl_nil ⟨rfl, ?_⟩
      refine awli_nil ?_
      refine ⟨rfl, 2, rfl, ?_⟩
      refine awpi_block ?_
      refine awpi_region ?_
      refine awli_op (fun c h => (by cases h)) ?_
      first | (refine r_load1 rfl TD.agg27 rfl ?_) | (refine r_load1b 0 rfl rfl rfl TD.agg27 rfl ?_) | (refine r_load1b 1 rfl rfl rfl TD.agg27 rfl ?_) | (refine r_load1b 2 rfl rfl rfl TD.agg27 rfl ?_) | (refine r_load1b 3 rfl rfl rfl TD.agg27 rfl ?_)
      refine awl_nil ⟨rfl, ?_⟩
      refine awli_op (fun c h => (by cases h)) ?_
      first | (refine r_fieldcp rfl TD.f112_0 TD.sz3 rfl ?_) | (refine r_fieldb rfl TD.f112_0 TD.sz3 rfl ?_)
      refine awl_nil ⟨rfl, ?_⟩
      refine awli_op (fun c h => (by cases h)) ?_
      first | (refine r_load1 rfl TD.agg3 rfl ?_) | (refine r_load1b 0 rfl rfl rfl TD.agg3 rfl ?_) | (refine r_load1b 1 rfl rfl rfl TD.agg3 rfl ?_) | (refine r_load1b 2 rfl rfl rfl TD.agg3 rfl ?_) | (refine r_load1b 3 rfl rfl rfl TD.agg3 rfl ?_)
      refine awl_nil ⟨rfl, ?_⟩
      refine awli_op (fun c h => (by cases h)) ?_
      first | (refine r_fieldcp rfl TD.f112_1 TD.sz3 rfl ?_) | (refine r_fieldb rfl TD.f112_1 TD.sz3 rfl ?_)
      refine awl_nil ⟨rfl, ?_⟩
      refine awli_op (fun c h => (by cases h)) ?_
      first | (refine r_load1 rfl TD.agg3 rfl ?_) | (refine r_load1b 0 rfl rfl rfl TD.agg3 rfl ?_) | (refine r_load1b 1 rfl rfl rfl TD.agg3 rfl ?_) | (refine r_load1b 2 rfl rfl rfl TD.agg3 rfl ?_) | (refine r_load1b 3 rfl rfl rfl TD.agg3 rfl ?_)
      refine awl_nil ⟨rfl, ?_⟩
      refine awli_op (fun c h => (by cases h)) ?_
      first | (refine r_fieldcp rfl TD.f112_3 TD.sz79 rfl ?_) | (refine r_fieldb rfl TD.f112_3 TD.sz79 rfl ?_)
      refine awl_nil ⟨rfl, ?_⟩
      refine awli_op (fun c h => (by cases h)) ?_
      first | (refine r_load1 rfl TD.agg79 rfl ?_) | (refine r_load1b 0 rfl rfl rfl TD.agg79 rfl ?_) | (refine r_load1b 1 rfl rfl rfl TD.agg79 rfl ?_) | (refine r_load1b 2 rfl rfl rfl TD.agg79 rfl ?_) | (refine r_load1b 3 rfl rfl rfl TD.agg79 rfl ?_)
      refine awl_nil ⟨rfl, ?_⟩
      refine awli_op (fun c h => (by cases h)) ?_
      first | (refine r_fieldcp rfl TD.f112_2 TD.sz79 rfl ?_) | (refine r_fieldb rfl TD.f112_2 TD.sz79 rfl ?_)
      refine awl_nil ⟨rfl, ?_⟩
      refine awli_op (fun c h => (by cases h)) ?_
      first | (refine r_load1 rfl TD.agg79 rfl ?_) | (refine r_load1b 0 rfl rfl rfl TD.agg79 rfl ?_) | (refine r_load1b 1 rfl rfl rfl TD.agg79 rfl ?_) | (refine r_load1b 2 rfl rfl rfl TD.agg79 rfl ?_) | (refine r_load1b 3 rfl rfl rfl TD.agg79 rfl ?_)
      refine awl_nil ⟨rfl, ?_⟩
      refine awli_op (fun c h => (by cases h)) ?_
      refine r_build (parts := [(0, .tmp 12), (1, .tmp 14), (2, .tmp 16), (3, .tmp 18)]) rfl TD.pl112 TD.zero112 rfl rfl rfl ?_
      refine awl_nil ⟨rfl, ?_⟩
      refine awli_op (fun c h => (by cases h)) ?_
      refine r_lit 20 (parts := [(0, .tmp 19)]) rfl TD.sl27 TD.sz112 TD.zraw112 rfl rfl rfl rfl rfl rfl rfl ?_
      refine awl_nil ⟨rfl, ?_⟩
      refine awli_op (fun c h => (by cases h)) ?_
      refine r_appendBN rfl rfl (by first | exact .sl _ | exact .own _ _) (by simp [chunks]) TD.sl27 TD.sz112 TD.by112 TD.zlen112 (by simp [chunks] <;> omega) (by simp [chunks] <;> omega) rfl (fun gb gc => ?_)
      refine awl_nil ⟨rfl, ?_⟩
      refine awli_op (fun c h => (by cases h)) ?_
      first | (refine r_store 0 rfl rfl rfl TD.sz27 rfl rfl rfl ?_) | (refine r_store 1 rfl rfl rfl TD.sz27 rfl rfl rfl ?_) | (refine r_store 2 rfl rfl rfl TD.sz27 rfl rfl rfl ?_) | (refine r_store 3 rfl rfl rfl TD.sz27 rfl rfl rfl ?_) | (refine r_store 4 rfl rfl rfl TD.sz27 rfl rfl rfl ?_)
      refine awl_nil ⟨rfl, ?_⟩
      refine awli_nil ?_
      refine x_block ?_
      refine ⟨rfl, _, .inr ⟨by simp [e], gb, gc, rfl⟩, ?_, by simp⟩
      simp only [List.length_append, List.length_singleton]
      rw [e, h00]
      first | exact List.Sublist.refl _ | exact .cons_cons _ (.cons _ (.refl _)) | exact List.nil_sublist _ | exact .cons _ (.refl _) | exact .cons _ (.cons _ (.refl _)) | exact .cons _ (.cons _ (.cons _ (.refl _))) | exact .cons _ (.cons _ (.cons _ (.cons _ (.refl _)))) | exact .cons_cons _ (List.nil_sublist _)
    ·
      refine awpi_region ?_
      refine awli_op (fun c h => (by cases h)) ?_
      refine r_alloc TD.zero112 rfl (fun b5 => ?_)
      refine awl_nil ⟨rfl, ?_⟩
      refine awli_op (fun c h => (by cases h)) ?_
      first | (refine r_store 0 rfl rfl rfl TD.sz112 rfl rfl rfl ?_) | (refine r_store 1 rfl rfl rfl TD.sz112 rfl rfl rfl ?_) | (refine r_store 2 rfl rfl rfl TD.sz112 rfl rfl rfl ?_) | (refine r_store 3 rfl rfl rfl TD.sz112 rfl rfl rfl ?_) | (refine r_store 4 rfl rfl rfl TD.sz112 rfl rfl rfl ?_)
      refine awl_nil ⟨rfl, ?_⟩
      refine awli_nil ?_
      refine ⟨rfl, 3, rfl, ?_⟩
      refine awpi_block ?_
      refine awpi_region ?_
      refine awli_op (fun c h => (by cases h)) ?_
      first | (refine r_load1 rfl TD.agg27 rfl ?_) | (refine r_load1b 0 rfl rfl rfl TD.agg27 rfl ?_) | (refine r_load1b 1 rfl rfl rfl TD.agg27 rfl ?_) | (refine r_load1b 2 rfl rfl rfl TD.agg27 rfl ?_) | (refine r_load1b 3 rfl rfl rfl TD.agg27 rfl ?_) | (refine r_load1b 4 rfl rfl rfl TD.agg27 rfl ?_)
      refine awl_nil ⟨rfl, ?_⟩
      refine awli_op (fun c h => (by cases h)) ?_
      first | (refine r_fieldcp rfl TD.f112_0 TD.sz3 rfl ?_) | (refine r_fieldb rfl TD.f112_0 TD.sz3 rfl ?_)
      refine awl_nil ⟨rfl, ?_⟩
      refine awli_op (fun c h => (by cases h)) ?_
      first | (refine r_load1 rfl TD.agg3 rfl ?_) | (refine r_load1b 0 rfl rfl rfl TD.agg3 rfl ?_) | (refine r_load1b 1 rfl rfl rfl TD.agg3 rfl ?_) | (refine r_load1b 2 rfl rfl rfl TD.agg3 rfl ?_) | (refine r_load1b 3 rfl rfl rfl TD.agg3 rfl ?_) | (refine r_load1b 4 rfl rfl rfl TD.agg3 rfl ?_)
      refine awl_nil ⟨rfl, ?_⟩
      refine awli_op (fun c h => (by cases h)) ?_
      first | (refine r_fieldcp rfl TD.f112_1 TD.sz3 rfl ?_) | (refine r_fieldb rfl TD.f112_1 TD.sz3 rfl ?_)
      refine awl_nil ⟨rfl, ?_⟩
      refine awli_op (fun c h => (by cases h)) ?_
      first | (refine r_load1 rfl TD.agg3 rfl ?_) | (refine r_load1b 0 rfl rfl rfl TD.agg3 rfl ?_) | (refine r_load1b 1 rfl rfl rfl TD.agg3 rfl ?_) | (refine r_load1b 2 rfl rfl rfl TD.agg3 rfl ?_) | (refine r_load1b 3 rfl rfl rfl TD.agg3 rfl ?_) | (refine r_load1b 4 rfl rfl rfl TD.agg3 rfl ?_)
      refine awl_nil ⟨rfl, ?_⟩
      refine awli_op (fun c h => (by cases h)) ?_
      first | (refine r_fieldcp rfl TD.f112_3 TD.sz79 rfl ?_) | (refine r_fieldb rfl TD.f112_3 TD.sz79 rfl ?_)
      refine awl_nil ⟨rfl, ?_⟩
      refine awli_op (fun c h => (by cases h)) ?_
      first | (refine r_load1 rfl TD.agg79 rfl ?_) | (refine r_load1b 0 rfl rfl rfl TD.agg79 rfl ?_) | (refine r_load1b 1 rfl rfl rfl TD.agg79 rfl ?_) | (refine r_load1b 2 rfl rfl rfl TD.agg79 rfl ?_) | (refine r_load1b 3 rfl rfl rfl TD.agg79 rfl ?_) | (refine r_load1b 4 rfl rfl rfl TD.agg79 rfl ?_)
      refine awl_nil ⟨rfl, ?_⟩
      refine awli_op (fun c h => (by cases h)) ?_
      first | (refine r_fieldcp rfl TD.f112_2 TD.sz79 rfl ?_) | (refine r_fieldb rfl TD.f112_2 TD.sz79 rfl ?_)
      refine awl_nil ⟨rfl, ?_⟩
      refine awli_op (fun c h => (by cases h)) ?_
      first | (refine r_load1 rfl TD.agg79 rfl ?_) | (refine r_load1b 0 rfl rfl rfl TD.agg79 rfl ?_) | (refine r_load1b 1 rfl rfl rfl TD.agg79 rfl ?_) | (refine r_load1b 2 rfl rfl rfl TD.agg79 rfl ?_) | (refine r_load1b 3 rfl rfl rfl TD.agg79 rfl ?_) | (refine r_load1b 4 rfl rfl rfl TD.agg79 rfl ?_)
      refine awl_nil ⟨rfl, ?_⟩
      refine awli_op (fun c h => (by cases h)) ?_
      refine r_build (parts := [(0, .tmp 12), (1, .tmp 14), (2, .tmp 16), (3, .tmp 18)]) rfl TD.pl112 TD.zero112 rfl rfl rfl ?_
      refine awl_nil ⟨rfl, ?_⟩
      refine awli_op (fun c h => (by cases h)) ?_
      refine r_lit 20 (parts := [(0, .tmp 19)]) rfl TD.sl27 TD.sz112 TD.zraw112 rfl rfl rfl rfl rfl rfl rfl ?_
      refine awl_nil ⟨rfl, ?_⟩
      refine awli_op (fun c h => (by cases h)) ?_
      refine r_appendBG 1 rfl rfl rfl rfl (by first | exact .sl _ | exact .own _ _) (by simp [chunks]) TD.sl27 TD.sz112 TD.by112 TD.zlen112 (by simp [chunks] <;> omega) (by simp [chunks] <;> omega) rfl (fun gb gc => ?_)
      refine awl_nil ⟨rfl, ?_⟩
      refine awli_op (fun c h => (by cases h)) ?_
      first | (refine r_store 0 rfl rfl rfl TD.sz27 rfl rfl rfl ?_) | (refine r_store 1 rfl rfl rfl TD.sz27 rfl rfl rfl ?_) | (refine r_store 2 rfl rfl rfl TD.sz27 rfl rfl rfl ?_) | (refine r_store 3 rfl rfl rfl TD.sz27 rfl rfl rfl ?_) | (refine r_store 4 rfl rfl rfl TD.sz27 rfl rfl rfl ?_)
      refine awl_nil ⟨rfl, ?_⟩
      refine awli_nil ?_
      refine x_block ?_
      have e1 : List.map Chg.cs (List.map Chg.turn (List.take (pre.length + 1) d.reverse)) = List.map Chg.cs (List.map Chg.turn (List.take pre.length d.reverse)) ++ [y.turn.cs] := by rw [e, List.map_append]; rfl
      refine ⟨rfl, _, .inr ⟨by simp [e], gb, gc, rfl⟩, ?_, by simp⟩
      rw [show (pre ++ [[AV.v (.int .i64 i), .agg (Chg.cs y)]]).length = pre.length + 1 from by simp, e1]
      first | exact List.Sublist.refl _ | exact .cons_cons _ (.cons _ (.refl _)) | exact List.nil_sublist _ | exact .cons _ (.refl _) | exact .cons _ (.cons _ (.refl _)) | exact .cons _ (.cons _ (.cons _ (.refl _))) | exact .cons _ (.cons _ (.cons _ (.cons _ (.refl _)))) | exact .cons_cons _ (List.nil_sublist _)
  ·
    intro xs wo' hG hJ
    rw [hG, List.take_of_length_le (l := d.reverse) (i := d.length) (by simp)] at hJ
    rcases hJ with ⟨h0, rfl⟩ | ⟨h0, g, cap, rfl⟩
    ·
      refine x_block ?_
      refine x_then ?_
      refine awp_seq ?_
      refine awp_region ?_
      first | (refine r_load1 rfl TD.agg27 rfl ?_) | (refine r_load1b 0 rfl rfl rfl TD.agg27 rfl ?_) | (refine r_load1b 1 rfl rfl rfl TD.agg27 rfl ?_)
      refine r_assign rfl rfl ?_
      refine awl_nil ?_
      refine x_then ?_
      refine awp_ret ?_
      exact ⟨(.inl rfl), _, [], (.one (.nil (sz := 4) rfl)), ⟨rfl, by rw [turnF, chgsA, h0]⟩, (List.nil_sublist _), (by simp)⟩
    ·
      refine x_block ?_
      refine x_then ?_
      refine awp_seq ?_
      refine awp_region ?_
      first | (refine r_load1 rfl TD.agg27 rfl ?_) | (refine r_load1b 0 rfl rfl rfl TD.agg27 rfl ?_) | (refine r_load1b 1 rfl rfl rfl TD.agg27 rfl ?_)
      refine awl_imp (imp_commitB 0 22 rfl (by simp) rfl) ?_
      ·
        refine r_assign rfl rfl ?_
        refine awl_nil ?_
        refine x_then ?_
        refine awp_ret ?_
        exact ⟨(.inl rfl), _, [], (.one (by first | exact .mk rfl rfl | exact .nil rfl)), ⟨rfl, rfl⟩, (List.nil_sublist _), (by simp)⟩

theorem plain_ok (l : List Chg) (hl : l.length ≤ 1000000) : AC Try.prog 23 [chgsA l] [] (fun r n => n = [] ∧ r = chgsA l) := by
  refine ac_of_awp (rs := [2]) (nt := 18) Try.func23 rfl rfl rfl rfl (fun w0 C0 hq => ?_)
  refine awp_seq ?_
  refine awp_region ?_
  refine r_assign rfl rfl ?_
  refine awl_nil ?_
  refine x_then ?_
  refine awp_seq ?_
  refine awp_region ?_
  refine r_assign rfl rfl ?_
  refine awl_nil ?_
  refine x_then ?_
  refine awp_seq ?_
  refine awp_seq ?_
  refine awp_region ?_
  refine r_move rfl rfl ?_
  first | (refine r_lenS rfl rfl TD.sl27 rfl ?_) | (refine r_lenNil rfl TD.sl27 rfl ?_)
  refine r_move rfl rfl ?_
  refine awl_nil ?_
  refine x_then ?_
  refine awp_block ?_
  refine awp_loop (fun nn0 S => ∃ k : Nat, S = ⟨18, [(3, .own 3 4 ((l.take k).map Chg.cs)), (6, .a (chgsA l)), (7, .a (.v (.int .i64 ((l.map Chg.cs).length)))), (8, .a (.v (.int .i64 ((k : Int)))))], []⟩ ∧ nn0 = l.length - k ∧ (k ≤ l.length)) (l.length - (0)) ⟨18, [(3, .own 3 4 ((l.take (0)).map Chg.cs)), (6, .a (chgsA l)), (7, .a (.v (.int .i64 ((l.map Chg.cs).length)))), (8, .a (.v (.int .i64 (((0) : Int)))))], []⟩ ⟨rfl, (Slots.cons rfl (by first | exact .refl _ | exact .nilOwn _ _ | exact .nilSl _ | exact .ownSl _ _ _  | exact SV.le.of_eq (by simp)) (Slots.cons rfl (by first | exact .refl _ | exact .nilOwn _ _ | exact .nilSl _ | exact .ownSl _ _ _  | exact SV.le.of_eq (by simp)) (Slots.cons rfl (by first | exact .refl _ | exact .nilOwn _ _ | exact .nilSl _ | exact .ownSl _ _ _  | exact SV.le.of_eq (by simp)) (Slots.cons rfl (by first | exact .refl _ | exact .nilOwn _ _ | exact .nilSl _ | exact .ownSl _ _ _  | exact SV.le.of_eq (by simp)) Slots.nil)))), (by first | exact List.Sublist.refl _ | exact .cons_cons _ (.cons _ (.refl _)) | exact List.nil_sublist _ | exact .cons _ (.refl _) | exact .cons _ (.cons _ (.refl _)) | exact .cons _ (.cons _ (.cons _ (.refl _))) | exact .cons _ (.cons _ (.cons _ (.cons _ (.refl _)))) | exact .cons_cons _ (List.nil_sublist _))⟩ ⟨0, rfl, rfl, Nat.zero_le _⟩ ?_
  rintro nn0 _ ⟨k, rfl, rfl, hk⟩
  refine awp_seq ?_
  refine awp_region ?_
  refine r_cmp rfl rfl rfl rfl ?_
  refine awl_nil ?_
  refine x_then ?_
  refine awp_seq ?_
  refine awp_cond rfl (fun hc0 => ?_) (fun hc0 => ?_)
  ·
    have hltx : k < l.length := by have := of_decide_eq_true hc0; simpa using this
    obtain ⟨x, hx⟩ := get_lt hltx
    refine awp_skip ?_
    refine x_then ?_
    refine awp_seq ?_
    refine awp_block ?_
    refine awp_seq ?_
    refine awp_region ?_
    refine r_index rfl rfl rfl TD.sl27 TD.sz112 (by omega) (get_map hx) rfl ?_
    refine r_loadA rfl TD.agg112 TD.sz112 rfl rfl ?_
    refine r_alloc TD.zero112 rfl (fun b5 => ?_)
    refine r_store 0 rfl rfl rfl TD.sz112 rfl rfl rfl ?_
    refine awl_nil ?_
    refine x_then ?_
    refine awp_region ?_
    refine r_move rfl rfl ?_
    first | (refine r_loadAb 0 rfl rfl TD.agg112 TD.sz112 rfl rfl ?_) | (refine r_loadA rfl TD.agg112 TD.sz112 rfl rfl ?_)
    refine r_lit 14 (parts := [(0, .tmp 13)]) rfl TD.sl25 TD.sz113 TD.zraw113 rfl rfl rfl rfl rfl rfl rfl ?_
    refine r_append 3 rfl (by first | exact .own _ | exact .nil) rfl (by first | exact .sl _ | exact .own _ _ | exact .nil) TD.sl25 TD.sz113 (by decide) TD.by113 TD.zlen113 (by simp [chunks] <;> omega) (by simp [chunks] <;> omega) rfl ?_
    refine r_assign rfl rfl ?_
    refine awl_nil ?_
    refine x_block ?_
    refine x_then ?_
    refine awp_region ?_
    refine r_ari _ rfl rfl rfl (wrap_id (by first | omega | (simp; omega))) rfl ?_
    refine r_move rfl rfl ?_
    refine awl_nil ?_
    refine x_then ?_
    refine ⟨l.length - (k + 1), ⟨18, [(3, .own 3 4 ((l.take (k + 1)).map Chg.cs)), (6, .a (chgsA l)), (7, .a (.v (.int .i64 ((l.map Chg.cs).length)))), (8, .a (.v (.int .i64 (((k + 1) : Int)))))], []⟩, ⟨rfl, (Slots.cons rfl (by first | exact .refl _ | exact .nilOwn _ _ | exact .nilSl _ | exact .ownSl _ _ _  | exact SV.le.ownEq (by first | rfl | (rw [takeS hx, List.map_append]; rfl)) | exact SV.le.of_eq (by first | rfl | (rw [takeS hx, List.map_append]; rfl))) (Slots.cons rfl (by first | exact .refl _ | exact .nilOwn _ _ | exact .nilSl _ | exact .ownSl _ _ _  | exact SV.le.ownEq (by first | rfl | (rw [takeS hx, List.map_append]; rfl)) | exact SV.le.of_eq (by first | rfl | (rw [takeS hx, List.map_append]; rfl))) (Slots.cons rfl (by first | exact .refl _ | exact .nilOwn _ _ | exact .nilSl _ | exact .ownSl _ _ _  | exact SV.le.ownEq (by first | rfl | (rw [takeS hx, List.map_append]; rfl)) | exact SV.le.of_eq (by first | rfl | (rw [takeS hx, List.map_append]; rfl))) (Slots.cons rfl (by first | exact .refl _ | exact .nilOwn _ _ | exact .nilSl _ | exact .ownSl _ _ _  | exact SV.le.ownEq (by first | rfl | (rw [takeS hx, List.map_append]; rfl)) | exact SV.le.of_eq (by first | rfl | (rw [takeS hx, List.map_append]; rfl))) Slots.nil)))), (by first | exact List.Sublist.refl _ | exact .cons_cons _ (.cons _ (.refl _)) | exact List.nil_sublist _ | exact .cons _ (.refl _) | exact .cons _ (.cons _ (.refl _)) | exact .cons _ (.cons _ (.cons _ (.refl _))) | exact .cons _ (.cons _ (.cons _ (.cons _ (.refl _)))) | exact .cons_cons _ (List.nil_sublist _))⟩, (by omega), ⟨k + 1, rfl, rfl, (by omega)⟩⟩
  ·
    have hge : l.length ≤ k := by have := of_decide_eq_false hc0; simp at this; omega
    have hkl : l.take k = l := List.take_of_length_le hge
    refine awp_exit ?_
    refine x_thenE ?_
    refine x_thenE ?_
    refine x_blockE ?_
    refine x_then ?_
    refine awp_seq ?_
    refine awp_region ?_
    refine r_move rfl rfl ?_
    refine r_assign rfl rfl ?_
    refine awl_nil ?_
    refine x_then ?_
    refine awp_ret ?_
    exact ⟨(.inl rfl), _, [], (.one (by first | exact .mk rfl rfl | exact .nil rfl)), ⟨rfl, by rw [hkl]; first | rfl | (simp [chgsA, Chg.turn, Chg.cs, Function.comp_def]; first | done | rfl)⟩, (List.nil_sublist _), (by simp)⟩

theorem changes_ok (l : List Chg) (hl : l.length ≤ 1000000) : AC Try.prog 27 [chgsA l] [] (fun r n => n = [] ∧ r = chgsA l) := by
  refine ac_of_awp (rs := [2]) (nt := 18) Try.func27 rfl rfl rfl rfl (fun w0 C0 hq => ?_)
  refine awp_seq ?_
  refine awp_region ?_
  refine r_assign rfl rfl ?_
  refine awl_nil ?_
  refine x_then ?_
  refine awp_seq ?_
  refine awp_region ?_
  refine r_assign rfl rfl ?_
  refine awl_nil ?_
  refine x_then ?_
  refine awp_seq ?_
  refine awp_seq ?_
  refine awp_region ?_
  refine r_move rfl rfl ?_
  first | (refine r_lenS rfl rfl TD.sl25 rfl ?_) | (refine r_lenNil rfl TD.sl25 rfl ?_)
  refine r_move rfl rfl ?_
  refine awl_nil ?_
  refine x_then ?_
  refine awp_block ?_
  refine awp_loop (fun nn0 S => ∃ k : Nat, S = ⟨18, [(3, .own 3 4 ((l.take k).map Chg.cs)), (6, .a (chgsA l)), (7, .a (.v (.int .i64 ((l.map Chg.cs).length)))), (8, .a (.v (.int .i64 ((k : Int)))))], []⟩ ∧ nn0 = l.length - k ∧ (k ≤ l.length)) (l.length - (0)) ⟨18, [(3, .own 3 4 ((l.take (0)).map Chg.cs)), (6, .a (chgsA l)), (7, .a (.v (.int .i64 ((l.map Chg.cs).length)))), (8, .a (.v (.int .i64 (((0) : Int)))))], []⟩ ⟨rfl, (Slots.cons rfl (by first | exact .refl _ | exact .nilOwn _ _ | exact .nilSl _ | exact .ownSl _ _ _  | exact SV.le.of_eq (by simp)) (Slots.cons rfl (by first | exact .refl _ | exact .nilOwn _ _ | exact .nilSl _ | exact .ownSl _ _ _  | exact SV.le.of_eq (by simp)) (Slots.cons rfl (by first | exact .refl _ | exact .nilOwn _ _ | exact .nilSl _ | exact .ownSl _ _ _  | exact SV.le.of_eq (by simp)) (Slots.cons rfl (by first | exact .refl _ | exact .nilOwn _ _ | exact .nilSl _ | exact .ownSl _ _ _  | exact SV.le.of_eq (by simp)) Slots.nil)))), (by first | exact List.Sublist.refl _ | exact .cons_cons _ (.cons _ (.refl _)) | exact List.nil_sublist _ | exact .cons _ (.refl _) | exact .cons _ (.cons _ (.refl _)) | exact .cons _ (.cons _ (.cons _ (.refl _))) | exact .cons _ (.cons _ (.cons _ (.cons _ (.refl _)))) | exact .cons_cons _ (List.nil_sublist _))⟩ ⟨0, rfl, rfl, Nat.zero_le _⟩ ?_
  rintro nn0 _ ⟨k, rfl, rfl, hk⟩
  refine awp_seq ?_
  refine awp_region ?_
  refine r_cmp rfl rfl rfl rfl ?_
  refine awl_nil ?_
  refine x_then ?_
  refine awp_seq ?_
  refine awp_cond rfl (fun hc0 => ?_) (fun hc0 => ?_)
  ·
    have hltx : k < l.length := by have := of_decide_eq_true hc0; simpa using this
    obtain ⟨x, hx⟩ := get_lt hltx
    refine awp_skip ?_
    refine x_then ?_
    refine awp_seq ?_
    refine awp_block ?_
    refine awp_seq ?_
    refine awp_region ?_
    refine r_index rfl rfl rfl TD.sl25 TD.sz113 (by omega) (get_map hx) rfl ?_
    refine r_loadA rfl TD.agg113 TD.sz113 rfl rfl ?_
    refine r_alloc TD.zero113 rfl (fun b5 => ?_)
    refine r_store 0 rfl rfl rfl TD.sz113 rfl rfl rfl ?_
    refine awl_nil ?_
    refine x_then ?_
    refine awp_region ?_
    refine r_move rfl rfl ?_
    first | (refine r_loadAb 0 rfl rfl TD.agg113 TD.sz113 rfl rfl ?_) | (refine r_loadA rfl TD.agg113 TD.sz113 rfl rfl ?_)
    refine r_lit 14 (parts := [(0, .tmp 13)]) rfl TD.sl27 TD.sz112 TD.zraw112 rfl rfl rfl rfl rfl rfl rfl ?_
    refine r_append 3 rfl (by first | exact .own _ | exact .nil) rfl (by first | exact .sl _ | exact .own _ _ | exact .nil) TD.sl27 TD.sz112 (by decide) TD.by112 TD.zlen112 (by simp [chunks] <;> omega) (by simp [chunks] <;> omega) rfl ?_
    refine r_assign rfl rfl ?_
    refine awl_nil ?_
    refine x_block ?_
    refine x_then ?_
    refine awp_region ?_
    refine r_ari _ rfl rfl rfl (wrap_id (by first | omega | (simp; omega))) rfl ?_
    refine r_move rfl rfl ?_
    refine awl_nil ?_
    refine x_then ?_
    refine ⟨l.length - (k + 1), ⟨18, [(3, .own 3 4 ((l.take (k + 1)).map Chg.cs)), (6, .a (chgsA l)), (7, .a (.v (.int .i64 ((l.map Chg.cs).length)))), (8, .a (.v (.int .i64 (((k + 1) : Int)))))], []⟩, ⟨rfl, (Slots.cons rfl (by first | exact .refl _ | exact .nilOwn _ _ | exact .nilSl _ | exact .ownSl _ _ _  | exact SV.le.ownEq (by first | rfl | (rw [takeS hx, List.map_append]; rfl)) | exact SV.le.of_eq (by first | rfl | (rw [takeS hx, List.map_append]; rfl))) (Slots.cons rfl (by first | exact .refl _ | exact .nilOwn _ _ | exact .nilSl _ | exact .ownSl _ _ _  | exact SV.le.ownEq (by first | rfl | (rw [takeS hx, List.map_append]; rfl)) | exact SV.le.of_eq (by first | rfl | (rw [takeS hx, List.map_append]; rfl))) (Slots.cons rfl (by first | exact .refl _ | exact .nilOwn _ _ | exact .nilSl _ | exact .ownSl _ _ _  | exact SV.le.ownEq (by first | rfl | (rw [takeS hx, List.map_append]; rfl)) | exact SV.le.of_eq (by first | rfl | (rw [takeS hx, List.map_append]; rfl))) (Slots.cons rfl (by first | exact .refl _ | exact .nilOwn _ _ | exact .nilSl _ | exact .ownSl _ _ _  | exact SV.le.ownEq (by first | rfl | (rw [takeS hx, List.map_append]; rfl)) | exact SV.le.of_eq (by first | rfl | (rw [takeS hx, List.map_append]; rfl))) Slots.nil)))), (by first | exact List.Sublist.refl _ | exact .cons_cons _ (.cons _ (.refl _)) | exact List.nil_sublist _ | exact .cons _ (.refl _) | exact .cons _ (.cons _ (.refl _)) | exact .cons _ (.cons _ (.cons _ (.refl _))) | exact .cons _ (.cons _ (.cons _ (.cons _ (.refl _)))) | exact .cons_cons _ (List.nil_sublist _))⟩, (by omega), ⟨k + 1, rfl, rfl, (by omega)⟩⟩
  ·
    have hge : l.length ≤ k := by have := of_decide_eq_false hc0; simp at this; omega
    have hkl : l.take k = l := List.take_of_length_le hge
    refine awp_exit ?_
    refine x_thenE ?_
    refine x_thenE ?_
    refine x_blockE ?_
    refine x_then ?_
    refine awp_seq ?_
    refine awp_region ?_
    refine r_move rfl rfl ?_
    refine r_assign rfl rfl ?_
    refine awl_nil ?_
    refine x_then ?_
    refine awp_ret ?_
    exact ⟨(.inl rfl), _, [], (.one (by first | exact .mk rfl rfl | exact .nil rfl)), ⟨rfl, by rw [hkl]; first | rfl | (simp [chgsA, Chg.turn, Chg.cs, Function.comp_def]; first | done | rfl)⟩, (List.nil_sublist _), (by simp)⟩

theorem bk_ok (l : List Chg) (hl : l.length ≤ 1000000) : AC Try.prog 33 [chgsA l] [] (fun r n => n = [] ∧ r = chgsA (l.map Chg.turn)) := by
  refine ac_of_awp (rs := [2]) (nt := 26) Try.func33 rfl rfl rfl rfl (fun w0 C0 hq => ?_)
  refine awp_seq ?_
  refine awp_region ?_
  refine r_assign rfl rfl ?_
  refine awl_nil ?_
  refine x_then ?_
  refine awp_seq ?_
  refine awp_region ?_
  refine r_assign rfl rfl ?_
  refine awl_nil ?_
  refine x_then ?_
  refine awp_seq ?_
  refine awp_seq ?_
  refine awp_region ?_
  refine r_move rfl rfl ?_
  first | (refine r_lenS rfl rfl TD.sl27 rfl ?_) | (refine r_lenNil rfl TD.sl27 rfl ?_)
  refine r_move rfl rfl ?_
  refine awl_nil ?_
  refine x_then ?_
  refine awp_block ?_
  refine awp_loop (fun nn0 S => ∃ k : Nat, S = ⟨26, [(3, .own 3 4 ((l.take k).map (fun x => Chg.cs x.turn))), (6, .a (chgsA l)), (7, .a (.v (.int .i64 ((l.map Chg.cs).length)))), (8, .a (.v (.int .i64 ((k : Int)))))], []⟩ ∧ nn0 = l.length - k ∧ (k ≤ l.length)) (l.length - (0)) ⟨26, [(3, .own 3 4 ((l.take (0)).map (fun x => Chg.cs x.turn))), (6, .a (chgsA l)), (7, .a (.v (.int .i64 ((l.map Chg.cs).length)))), (8, .a (.v (.int .i64 (((0) : Int)))))], []⟩ ⟨rfl, (Slots.cons rfl (by first | exact .refl _ | exact .nilOwn _ _ | exact .nilSl _ | exact .ownSl _ _ _  | exact SV.le.of_eq (by simp)) (Slots.cons rfl (by first | exact .refl _ | exact .nilOwn _ _ | exact .nilSl _ | exact .ownSl _ _ _  | exact SV.le.of_eq (by simp)) (Slots.cons rfl (by first | exact .refl _ | exact .nilOwn _ _ | exact .nilSl _ | exact .ownSl _ _ _  | exact SV.le.of_eq (by simp)) (Slots.cons rfl (by first | exact .refl _ | exact .nilOwn _ _ | exact .nilSl _ | exact .ownSl _ _ _  | exact SV.le.of_eq (by simp)) Slots.nil)))), (by first | exact List.Sublist.refl _ | exact .cons_cons _ (.cons _ (.refl _)) | exact List.nil_sublist _ | exact .cons _ (.refl _) | exact .cons _ (.cons _ (.refl _)) | exact .cons _ (.cons _ (.cons _ (.refl _))) | exact .cons _ (.cons _ (.cons _ (.cons _ (.refl _)))) | exact .cons_cons _ (List.nil_sublist _))⟩ ⟨0, rfl, rfl, Nat.zero_le _⟩ ?_
  rintro nn0 _ ⟨k, rfl, rfl, hk⟩
  refine awp_seq ?_
  refine awp_region ?_
  refine r_cmp rfl rfl rfl rfl ?_
  refine awl_nil ?_
  refine x_then ?_
  refine awp_seq ?_
  refine awp_cond rfl (fun hc0 => ?_) (fun hc0 => ?_)
  ·
    have hltx : k < l.length := by have := of_decide_eq_true hc0; simpa using this
    obtain ⟨x, hx⟩ := get_lt hltx
    refine awp_skip ?_
    refine x_then ?_
    refine awp_seq ?_
    refine awp_block ?_
    refine awp_seq ?_
    refine awp_region ?_
    refine r_index rfl rfl rfl TD.sl27 TD.sz112 (by omega) (get_map hx) rfl ?_
    refine r_loadA rfl TD.agg112 TD.sz112 rfl rfl ?_
    refine r_alloc TD.zero112 rfl (fun b5 => ?_)
    refine r_store 0 rfl rfl rfl TD.sz112 rfl rfl rfl ?_
    refine awl_nil ?_
    refine x_then ?_
    refine awp_region ?_
    refine r_move rfl rfl ?_
    first | (refine r_fieldb rfl TD.f112_0 TD.sz3 rfl ?_) | (refine r_fieldcp rfl TD.f112_0 TD.sz3 rfl ?_)
    first | (refine r_load1b 0 rfl rfl rfl TD.agg3 rfl ?_) | (refine r_load1 rfl TD.agg3 rfl ?_)
    first | (refine r_fieldb rfl TD.f112_1 TD.sz3 rfl ?_) | (refine r_fieldcp rfl TD.f112_1 TD.sz3 rfl ?_)
    first | (refine r_load1b 0 rfl rfl rfl TD.agg3 rfl ?_) | (refine r_load1 rfl TD.agg3 rfl ?_)
    first | (refine r_fieldb rfl TD.f112_3 TD.sz79 rfl ?_) | (refine r_fieldcp rfl TD.f112_3 TD.sz79 rfl ?_)
    first | (refine r_load1b 0 rfl rfl rfl TD.agg79 rfl ?_) | (refine r_load1 rfl TD.agg79 rfl ?_)
    first | (refine r_fieldb rfl TD.f112_2 TD.sz79 rfl ?_) | (refine r_fieldcp rfl TD.f112_2 TD.sz79 rfl ?_)
    first | (refine r_load1b 0 rfl rfl rfl TD.agg79 rfl ?_) | (refine r_load1 rfl TD.agg79 rfl ?_)
    refine r_build (parts := [(0, .tmp 14), (1, .tmp 16), (2, .tmp 18), (3, .tmp 20)]) rfl TD.pl112 TD.zero112 rfl rfl rfl ?_
    refine r_lit 22 (parts := [(0, .tmp 21)]) rfl TD.sl27 TD.sz112 TD.zraw112 rfl rfl rfl rfl rfl rfl rfl ?_
    refine r_append 3 rfl (by first | exact .own _ | exact .nil) rfl (by first | exact .sl _ | exact .own _ _ | exact .nil) TD.sl27 TD.sz112 (by decide) TD.by112 TD.zlen112 (by simp [chunks] <;> omega) (by simp [chunks] <;> omega) rfl ?_
    refine r_assign rfl rfl ?_
    refine awl_nil ?_
    refine x_block ?_
    refine x_then ?_
    refine awp_region ?_
    refine r_ari _ rfl rfl rfl (wrap_id (by first | omega | (simp; omega))) rfl ?_
    refine r_move rfl rfl ?_
    refine awl_nil ?_
    refine x_then ?_
    refine ⟨l.length - (k + 1), ⟨26, [(3, .own 3 4 ((l.take (k + 1)).map (fun x => Chg.cs x.turn))), (6, .a (chgsA l)), (7, .a (.v (.int .i64 ((l.map Chg.cs).length)))), (8, .a (.v (.int .i64 (((k + 1) : Int)))))], []⟩, ⟨rfl, (Slots.cons rfl (by first | exact .refl _ | exact .nilOwn _ _ | exact .nilSl _ | exact .ownSl _ _ _  | exact SV.le.ownEq (by first | rfl | (rw [takeS hx, List.map_append]; rfl)) | exact SV.le.of_eq (by first | rfl | (rw [takeS hx, List.map_append]; rfl))) (Slots.cons rfl (by first | exact .refl _ | exact .nilOwn _ _ | exact .nilSl _ | exact .ownSl _ _ _  | exact SV.le.ownEq (by first | rfl | (rw [takeS hx, List.map_append]; rfl)) | exact SV.le.of_eq (by first | rfl | (rw [takeS hx, List.map_append]; rfl))) (Slots.cons rfl (by first | exact .refl _ | exact .nilOwn _ _ | exact .nilSl _ | exact .ownSl _ _ _  | exact SV.le.ownEq (by first | rfl | (rw [takeS hx, List.map_append]; rfl)) | exact SV.le.of_eq (by first | rfl | (rw [takeS hx, List.map_append]; rfl))) (Slots.cons rfl (by first | exact .refl _ | exact .nilOwn _ _ | exact .nilSl _ | exact .ownSl _ _ _  | exact SV.le.ownEq (by first | rfl | (rw [takeS hx, List.map_append]; rfl)) | exact SV.le.of_eq (by first | rfl | (rw [takeS hx, List.map_append]; rfl))) Slots.nil)))), (by first | exact List.Sublist.refl _ | exact .cons_cons _ (.cons _ (.refl _)) | exact List.nil_sublist _ | exact .cons _ (.refl _) | exact .cons _ (.cons _ (.refl _)) | exact .cons _ (.cons _ (.cons _ (.refl _))) | exact .cons _ (.cons _ (.cons _ (.cons _ (.refl _)))) | exact .cons_cons _ (List.nil_sublist _))⟩, (by omega), ⟨k + 1, rfl, rfl, (by omega)⟩⟩
  ·
    have hge : l.length ≤ k := by have := of_decide_eq_false hc0; simp at this; omega
    have hkl : l.take k = l := List.take_of_length_le hge
    refine awp_exit ?_
    refine x_thenE ?_
    refine x_thenE ?_
    refine x_blockE ?_
    refine x_then ?_
    refine awp_seq ?_
    refine awp_region ?_
    refine r_move rfl rfl ?_
    refine r_assign rfl rfl ?_
    refine awl_nil ?_
    refine x_then ?_
    refine awp_ret ?_
    exact ⟨(.inl rfl), _, [], (.one (by first | exact .mk rfl rfl | exact .nil rfl)), ⟨rfl, by rw [hkl]; first | rfl | (simp [chgsA, Chg.turn, Chg.cs, Function.comp_def]; first | done | rfl)⟩, (List.nil_sublist _), (by simp)⟩

theorem same_ok (l : List Chg) (hl : l.length ≤ 1000000) : AC Try.prog 22 [chgsA l, chgsA l] [] (fun r n => n = [] ∧ r = bA true) := by
  refine ac_of_awp (rs := [4]) (nt := 26) Try.func22 rfl rfl rfl rfl (fun w0 C0 hq => ?_)
  refine awp_seq ?_
  refine awp_region ?_
  refine r_assign rfl rfl ?_
  refine awl_nil ?_
  refine x_then ?_
  refine awp_seq ?_
  refine awp_seq ?_
  refine awp_region ?_
  refine r_move rfl rfl ?_
  first | (refine r_lenS rfl rfl TD.sl25 rfl ?_) | (refine r_lenNil rfl TD.sl25 rfl ?_)
  refine r_move rfl rfl ?_
  first | (refine r_lenS rfl rfl TD.sl25 rfl ?_) | (refine r_lenNil rfl TD.sl25 rfl ?_)
  refine r_cmp rfl rfl rfl rfl ?_
  refine awl_nil ?_
  refine x_then ?_
  refine awp_cond rfl (fun hc0 => ?_) (fun hc0 => ?_)
  ·
    exfalso; simp at hc0
  ·
    refine awp_skip ?_
    refine x_then ?_
    refine awp_seq ?_
    refine awp_seq ?_
    refine awp_region ?_
    refine r_move rfl rfl ?_
    first | (refine r_lenS rfl rfl TD.sl25 rfl ?_) | (refine r_lenNil rfl TD.sl25 rfl ?_)
    refine r_move rfl rfl ?_
    refine awl_nil ?_
    refine x_then ?_
    refine awp_block ?_
    refine awp_loop (fun nn0 S => ∃ k : Nat, S = ⟨26, [(0, .a (chgsA l)), (1, .a (chgsA l)), (12, .a (.v (.int .i64 ((l.map Chg.cs).length)))), (13, .a (.v (.int .i64 ((k : Int)))))], []⟩ ∧ nn0 = l.length - k ∧ (k ≤ l.length)) (l.length - (0)) ⟨26, [(0, .a (chgsA l)), (1, .a (chgsA l)), (12, .a (.v (.int .i64 ((l.map Chg.cs).length)))), (13, .a (.v (.int .i64 (((0) : Int)))))], []⟩ ⟨rfl, (Slots.cons rfl (by first | exact .refl _ | exact .nilOwn _ _ | exact .nilSl _ | exact .ownSl _ _ _  | exact SV.le.of_eq (by simp)) (Slots.cons rfl (by first | exact .refl _ | exact .nilOwn _ _ | exact .nilSl _ | exact .ownSl _ _ _  | exact SV.le.of_eq (by simp)) (Slots.cons rfl (by first | exact .refl _ | exact .nilOwn _ _ | exact .nilSl _ | exact .ownSl _ _ _  | exact SV.le.of_eq (by simp)) (Slots.cons rfl (by first | exact .refl _ | exact .nilOwn _ _ | exact .nilSl _ | exact .ownSl _ _ _  | exact SV.le.of_eq (by simp)) Slots.nil)))), (by first | exact List.Sublist.refl _ | exact .cons_cons _ (.cons _ (.refl _)) | exact List.nil_sublist _ | exact .cons _ (.refl _) | exact .cons _ (.cons _ (.refl _)) | exact .cons _ (.cons _ (.cons _ (.refl _))) | exact .cons _ (.cons _ (.cons _ (.cons _ (.refl _)))) | exact .cons_cons _ (List.nil_sublist _))⟩ ⟨0, rfl, rfl, Nat.zero_le _⟩ ?_
    rintro nn0 _ ⟨k, rfl, rfl, hk⟩
    refine awp_seq ?_
    refine awp_region ?_
    refine r_cmp rfl rfl rfl rfl ?_
    refine awl_nil ?_
    refine x_then ?_
    refine awp_seq ?_
    refine awp_cond rfl (fun hc1 => ?_) (fun hc1 => ?_)
    ·
      have hltx : k < l.length := by have := of_decide_eq_true hc1; simpa using this
      obtain ⟨x, hx⟩ := get_lt hltx
      refine awp_skip ?_
      refine x_then ?_
      refine awp_seq ?_
      refine awp_block ?_
      refine awp_seq ?_
      refine awp_region ?_
      refine r_move rfl rfl ?_
      refine r_assign rfl rfl ?_
      refine awl_nil ?_
      refine x_then ?_
      refine awp_seq ?_
      refine awp_drawS [16, 17, 18, 19, 20, 21, 22, 23] [_, _, _, _, _, _, _, _] [] [] TD.mixed rfl rfl rfl ⟨⟨⟨⟨⟨⟨⟨⟨trivial
        , ⟨_, rfl, fun sl hd hr ho => by
            refine r_move (hr 0 _ rfl rfl rfl) rfl ?_
            exact awl_nil ⟨rfl, post_put⟩⟩⟩
        , ⟨_, rfl, fun sl hd hr ho => by
            refine r_move (hr 5 _ rfl rfl rfl) rfl ?_
            exact awl_nil ⟨rfl, post_put⟩⟩⟩
        , ⟨_, rfl, fun sl hd hr ho => by
            refine r_index (hd 0 _ rfl rfl rfl) rfl (hd 1 _ rfl rfl rfl) TD.sl25 TD.sz113 (by omega) (get_map hx) rfl ?_
            exact awl_nil ⟨rfl, post_put⟩⟩⟩
        , ⟨_, rfl, fun sl hd hr ho => by
            refine r_loadA (hd 2 _ rfl rfl rfl) TD.agg113 TD.sz113 rfl rfl ?_
            exact awl_nil ⟨rfl, post_put⟩⟩⟩
        , ⟨_, rfl, fun sl hd hr ho => by
            refine r_move (hr 1 _ rfl rfl rfl) rfl ?_
            exact awl_nil ⟨rfl, post_put⟩⟩⟩
        , ⟨_, rfl, fun sl hd hr ho => by
            refine r_move (hr 5 _ rfl rfl rfl) rfl ?_
            exact awl_nil ⟨rfl, post_put⟩⟩⟩
        , ⟨_, rfl, fun sl hd hr ho => by
            refine r_index (hd 4 _ rfl rfl rfl) rfl (hd 5 _ rfl rfl rfl) TD.sl25 TD.sz113 (by omega) (get_map hx) rfl ?_
            exact awl_nil ⟨rfl, post_put⟩⟩⟩
        , ⟨_, rfl, fun sl hd hr ho => by
            refine r_loadA (hd 6 _ rfl rfl rfl) TD.agg113 TD.sz113 rfl rfl ?_
            exact awl_nil ⟨rfl, post_put⟩⟩⟩
        (by rfl) ?_
      refine r_sne (us := (Chg.ns x)) (vs := (Chg.ns x)) rfl rfl TD.mix113 (isVal_cells rfl) (isVal_cells rfl) rfl rfl rfl ?_
      refine awl_nil ?_
      refine x_then ?_
      refine awp_cond rfl (fun hc2 => ?_) (fun hc2 => ?_)
      ·
        exfalso; simp at hc2
      ·
        refine awp_skip ?_
        refine x_block ?_
        refine x_then ?_
        refine awp_region ?_
        refine r_ari _ rfl rfl rfl (wrap_id (by first | omega | (simp; omega))) rfl ?_
        refine r_move rfl rfl ?_
        refine awl_nil ?_
        refine x_then ?_
        refine ⟨l.length - (k + 1), ⟨26, [(0, .a (chgsA l)), (1, .a (chgsA l)), (12, .a (.v (.int .i64 ((l.map Chg.cs).length)))), (13, .a (.v (.int .i64 (((k + 1) : Int)))))], []⟩, ⟨rfl, (Slots.cons rfl (by first | exact .refl _ | exact .nilOwn _ _ | exact .nilSl _ | exact .ownSl _ _ _  | exact SV.le.of_eq (by simp)) (Slots.cons rfl (by first | exact .refl _ | exact .nilOwn _ _ | exact .nilSl _ | exact .ownSl _ _ _  | exact SV.le.of_eq (by simp)) (Slots.cons rfl (by first | exact .refl _ | exact .nilOwn _ _ | exact .nilSl _ | exact .ownSl _ _ _  | exact SV.le.of_eq (by simp)) (Slots.cons rfl (by first | exact .refl _ | exact .nilOwn _ _ | exact .nilSl _ | exact .ownSl _ _ _  | exact SV.le.of_eq (by simp)) Slots.nil)))), (by first | exact List.Sublist.refl _ | exact .cons_cons _ (.cons _ (.refl _)) | exact List.nil_sublist _ | exact .cons _ (.refl _) | exact .cons _ (.cons _ (.refl _)) | exact .cons _ (.cons _ (.cons _ (.refl _))) | exact .cons _ (.cons _ (.cons _ (.cons _ (.refl _)))) | exact .cons_cons _ (List.nil_sublist _))⟩, (by omega), ⟨k + 1, rfl, rfl, (by omega)⟩⟩
    ·
      refine awp_exit ?_
      refine x_thenE ?_
      refine x_thenE ?_
      refine x_blockE ?_
      refine x_then ?_
      refine awp_seq ?_
      refine awp_region ?_
      refine r_assign rfl rfl ?_
      refine awl_nil ?_
      refine x_then ?_
      refine awp_ret ?_
      exact ⟨(.inl rfl), _, [], (.one (by first | exact .mk rfl rfl | exact .nil rfl)), ⟨rfl, rfl⟩, (List.nil_sublist _), (by simp)⟩

theorem sameE_ok (l : List Ent) (hl : l.length ≤ 1000000) : AC Try.prog 26 [entsA l, entsA l] [] (fun r n => n = [] ∧ r = bA true) := by
  refine ac_of_awp (rs := [4]) (nt := 26) Try.func26 rfl rfl rfl rfl (fun w0 C0 hq => ?_)
  refine awp_seq ?_
  refine awp_region ?_
  refine r_assign rfl rfl ?_
  refine awl_nil ?_
  refine x_then ?_
  refine awp_seq ?_
  refine awp_seq ?_
  refine awp_region ?_
  refine r_move rfl rfl ?_
  first | (refine r_lenS rfl rfl TD.sl22 rfl ?_) | (refine r_lenNil rfl TD.sl22 rfl ?_)
  refine r_move rfl rfl ?_
  first | (refine r_lenS rfl rfl TD.sl22 rfl ?_) | (refine r_lenNil rfl TD.sl22 rfl ?_)
  refine r_cmp rfl rfl rfl rfl ?_
  refine awl_nil ?_
  refine x_then ?_
  refine awp_cond rfl (fun hc0 => ?_) (fun hc0 => ?_)
  ·
    exfalso; simp at hc0
  ·
    refine awp_skip ?_
    refine x_then ?_
    refine awp_seq ?_
    refine awp_seq ?_
    refine awp_region ?_
    refine r_move rfl rfl ?_
    first | (refine r_lenS rfl rfl TD.sl22 rfl ?_) | (refine r_lenNil rfl TD.sl22 rfl ?_)
    refine r_move rfl rfl ?_
    refine awl_nil ?_
    refine x_then ?_
    refine awp_block ?_
    refine awp_loop (fun nn0 S => ∃ k : Nat, S = ⟨26, [(0, .a (entsA l)), (1, .a (entsA l)), (12, .a (.v (.int .i64 ((l.map Ent.cs).length)))), (13, .a (.v (.int .i64 ((k : Int)))))], []⟩ ∧ nn0 = l.length - k ∧ (k ≤ l.length)) (l.length - (0)) ⟨26, [(0, .a (entsA l)), (1, .a (entsA l)), (12, .a (.v (.int .i64 ((l.map Ent.cs).length)))), (13, .a (.v (.int .i64 (((0) : Int)))))], []⟩ ⟨rfl, (Slots.cons rfl (by first | exact .refl _ | exact .nilOwn _ _ | exact .nilSl _ | exact .ownSl _ _ _  | exact SV.le.of_eq (by simp)) (Slots.cons rfl (by first | exact .refl _ | exact .nilOwn _ _ | exact .nilSl _ | exact .ownSl _ _ _  | exact SV.le.of_eq (by simp)) (Slots.cons rfl (by first | exact .refl _ | exact .nilOwn _ _ | exact .nilSl _ | exact .ownSl _ _ _  | exact SV.le.of_eq (by simp)) (Slots.cons rfl (by first | exact .refl _ | exact .nilOwn _ _ | exact .nilSl _ | exact .ownSl _ _ _  | exact SV.le.of_eq (by simp)) Slots.nil)))), (by first | exact List.Sublist.refl _ | exact .cons_cons _ (.cons _ (.refl _)) | exact List.nil_sublist _ | exact .cons _ (.refl _) | exact .cons _ (.cons _ (.refl _)) | exact .cons _ (.cons _ (.cons _ (.refl _))) | exact .cons _ (.cons _ (.cons _ (.cons _ (.refl _)))) | exact .cons_cons _ (List.nil_sublist _))⟩ ⟨0, rfl, rfl, Nat.zero_le _⟩ ?_
    rintro nn0 _ ⟨k, rfl, rfl, hk⟩
    refine awp_seq ?_
    refine awp_region ?_
    refine r_cmp rfl rfl rfl rfl ?_
    refine awl_nil ?_
    refine x_then ?_
    refine awp_seq ?_
    refine awp_cond rfl (fun hc1 => ?_) (fun hc1 => ?_)
    ·
      have hltx : k < l.length := by have := of_decide_eq_true hc1; simpa using this
      obtain ⟨x, hx⟩ := get_lt hltx
      refine awp_skip ?_
      refine x_then ?_
      refine awp_seq ?_
      refine awp_block ?_
      refine awp_seq ?_
      refine awp_region ?_
      refine r_move rfl rfl ?_
      refine r_assign rfl rfl ?_
      refine awl_nil ?_
      refine x_then ?_
      refine awp_seq ?_
      refine awp_drawS [16, 17, 18, 19, 20, 21, 22, 23] [_, _, _, _, _, _, _, _] [] [] TD.mixed rfl rfl rfl ⟨⟨⟨⟨⟨⟨⟨⟨trivial
        , ⟨_, rfl, fun sl hd hr ho => by
            refine r_move (hr 0 _ rfl rfl rfl) rfl ?_
            exact awl_nil ⟨rfl, post_put⟩⟩⟩
        , ⟨_, rfl, fun sl hd hr ho => by
            refine r_move (hr 5 _ rfl rfl rfl) rfl ?_
            exact awl_nil ⟨rfl, post_put⟩⟩⟩
        , ⟨_, rfl, fun sl hd hr ho => by
            refine r_index (hd 0 _ rfl rfl rfl) rfl (hd 1 _ rfl rfl rfl) TD.sl22 TD.sz110 (by omega) (get_map hx) rfl ?_
            exact awl_nil ⟨rfl, post_put⟩⟩⟩
        , ⟨_, rfl, fun sl hd hr ho => by
            refine r_loadA (hd 2 _ rfl rfl rfl) TD.agg110 TD.sz110 rfl rfl ?_
            exact awl_nil ⟨rfl, post_put⟩⟩⟩
        , ⟨_, rfl, fun sl hd hr ho => by
            refine r_move (hr 1 _ rfl rfl rfl) rfl ?_
            exact awl_nil ⟨rfl, post_put⟩⟩⟩
        , ⟨_, rfl, fun sl hd hr ho => by
            refine r_move (hr 5 _ rfl rfl rfl) rfl ?_
            exact awl_nil ⟨rfl, post_put⟩⟩⟩
        , ⟨_, rfl, fun sl hd hr ho => by
            refine r_index (hd 4 _ rfl rfl rfl) rfl (hd 5 _ rfl rfl rfl) TD.sl22 TD.sz110 (by omega) (get_map hx) rfl ?_
            exact awl_nil ⟨rfl, post_put⟩⟩⟩
        , ⟨_, rfl, fun sl hd hr ho => by
            refine r_loadA (hd 6 _ rfl rfl rfl) TD.agg110 TD.sz110 rfl rfl ?_
            exact awl_nil ⟨rfl, post_put⟩⟩⟩
        (by rfl) ?_
      refine r_sne (us := (Ent.ns x)) (vs := (Ent.ns x)) rfl rfl TD.mix110 (isVal_cells rfl) (isVal_cells rfl) rfl rfl rfl ?_
      refine awl_nil ?_
      refine x_then ?_
      refine awp_cond rfl (fun hc2 => ?_) (fun hc2 => ?_)
      ·
        exfalso; simp at hc2
      ·
        refine awp_skip ?_
        refine x_block ?_
        refine x_then ?_
        refine awp_region ?_
        refine r_ari _ rfl rfl rfl (wrap_id (by first | omega | (simp; omega))) rfl ?_
        refine r_move rfl rfl ?_
        refine awl_nil ?_
        refine x_then ?_
        refine ⟨l.length - (k + 1), ⟨26, [(0, .a (entsA l)), (1, .a (entsA l)), (12, .a (.v (.int .i64 ((l.map Ent.cs).length)))), (13, .a (.v (.int .i64 (((k + 1) : Int)))))], []⟩, ⟨rfl, (Slots.cons rfl (by first | exact .refl _ | exact .nilOwn _ _ | exact .nilSl _ | exact .ownSl _ _ _  | exact SV.le.of_eq (by simp)) (Slots.cons rfl (by first | exact .refl _ | exact .nilOwn _ _ | exact .nilSl _ | exact .ownSl _ _ _  | exact SV.le.of_eq (by simp)) (Slots.cons rfl (by first | exact .refl _ | exact .nilOwn _ _ | exact .nilSl _ | exact .ownSl _ _ _  | exact SV.le.of_eq (by simp)) (Slots.cons rfl (by first | exact .refl _ | exact .nilOwn _ _ | exact .nilSl _ | exact .ownSl _ _ _  | exact SV.le.of_eq (by simp)) Slots.nil)))), (by first | exact List.Sublist.refl _ | exact .cons_cons _ (.cons _ (.refl _)) | exact List.nil_sublist _ | exact .cons _ (.refl _) | exact .cons _ (.cons _ (.refl _)) | exact .cons _ (.cons _ (.cons _ (.refl _))) | exact .cons _ (.cons _ (.cons _ (.cons _ (.refl _)))) | exact .cons_cons _ (List.nil_sublist _))⟩, (by omega), ⟨k + 1, rfl, rfl, (by omega)⟩⟩
    ·
      refine awp_exit ?_
      refine x_thenE ?_
      refine x_thenE ?_
      refine x_blockE ?_
      refine x_then ?_
      refine awp_seq ?_
      refine awp_region ?_
      refine r_assign rfl rfl ?_
      refine awl_nil ?_
      refine x_then ?_
      refine awp_ret ?_
      exact ⟨(.inl rfl), _, [], (.one (by first | exact .mk rfl rfl | exact .nil rfl)), ⟨rfl, rfl⟩, (List.nil_sublist _), (by simp)⟩

end Go.Proofs.Ytaglbmgpdoophaa.A

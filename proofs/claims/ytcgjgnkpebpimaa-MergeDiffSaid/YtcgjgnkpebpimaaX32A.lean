/- Layer 32: walks of iterators, of what a list shows. -/
import Derived.Test.YtcgjgnkpebpimaaProg
import Derived.KernelRfl
import Derived.Test.YtcgjgnkpebpimaaX32S
namespace Go.Proofs.Ytcgjgnkpebpimaa.A
open Go Go.RowKit
set_option linter.unusedVariables false
set_option linter.unusedSimpArgs false
set_option maxRecDepth 100000

theorem T.agg22 : aggT Try.prog 22 = some false := by kernel_rfl
theorem T.sl22 : sliceT Try.prog 22 = some 35 := by kernel_rfl
theorem T.sz35 : szT Try.prog 35 = some 3 := by kernel_rfl
theorem T.agg35 : aggT Try.prog 35 = some true := by kernel_rfl
theorem T.en51 : entersT Try.prog 51 := enters_of Try.func51 (by kernel_rfl) (by kernel_rfl)
theorem T.zero55 : ZeroT Try.prog 55 [.v (.map none)] := ⟨[(.map none)], by kernel_rfl, (LeCells.refl _)⟩
theorem T.sz55 : szT Try.prog 55 = some 1 := by kernel_rfl
theorem T.en38 : entersT Try.prog 38 := enters_of Try.func38 (by kernel_rfl) (by kernel_rfl)
theorem T.zero35 : ZeroT Try.prog 35 [.v (.int .i64 0), .v (.int .i64 0), .v (.int .u64 0)] := ⟨[(.int .i64 0), (.int .i64 0), (.int .u64 0)], by kernel_rfl, (LeCells.refl _)⟩
theorem T.agg55 : aggT Try.prog 55 = some false := by kernel_rfl
theorem T.f35_0 : fieldT Try.prog 35 0 = some (0, 3) := by kernel_rfl
theorem T.sz3 : szT Try.prog 3 = some 1 := by kernel_rfl
theorem T.agg3 : aggT Try.prog 3 = some false := by kernel_rfl
theorem T.f35_1 : fieldT Try.prog 35 1 = some (1, 3) := by kernel_rfl
theorem T.pl60 : placesT Try.prog 60 = some [(0, 1), (1, 1)] := by kernel_rfl
theorem T.zero60 : ZeroT Try.prog 60 [.v (.int .i64 0), .v (.int .i64 0)] := ⟨[(.int .i64 0), (.int .i64 0)], by kernel_rfl, (LeCells.refl _)⟩
theorem T.f35_2 : fieldT Try.prog 35 2 = some (2, 23) := by kernel_rfl
theorem T.sz23 : szT Try.prog 23 = some 1 := by kernel_rfl
theorem T.agg23 : aggT Try.prog 23 = some false := by kernel_rfl
theorem T.map55 : mapT Try.prog 55 = some (60, 23) := by kernel_rfl

theorem keyP : KeyEnc Try.prog 60 ekP := keyEnc_struct (fun p : PL => [p.1, p.2]) (fun a b h => by simp at h; exact Prod.ext h.1 h.2) (by kernel_rfl) (by kernel_rfl) (by kernel_rfl) (fun _ => (by kernel_rfl : (2 : Nat) = (Try.prog.fieldsOf 60).toList.length))
theorem tr_rw {wo : List OE} : ∀ x ∈ Tr wo, x.rw = true := fun x hx => by obtain ⟨e0, _, rfl⟩ := List.mem_map.1 hx; rfl
def backA (l : List Ent) (pre : List (List AV)) (x : List AV) : Prop := ∃ y i, l.reverse[pre.length]? = some y ∧ x = [.v (.int .i64 i), .agg (Ent.cs y)]
theorem rev_get {α : Type} {l : List α} {k : Nat} {x : α} (h : l.reverse[k]? = some x) : k < l.length ∧ l[l.length - 1 - k]? = some x := by
  have h1 := (List.getElem?_eq_some_iff.1 h).1
  simp at h1
  exact ⟨h1, by rw [List.getElem?_reverse h1] at h; exact h⟩

theorem back_ok (l : List Ent) : AC Try.prog 38 [entsA l] [] (fun r n => n = [] ∧ r = .fn 51 [.cp [entsA l]]) := by
  refine ac_of_awp (rs := [2]) (nt := 4) Try.func38 rfl rfl rfl rfl (fun w0 C0 hq => ?_)
  refine awp_seq ?_
  refine awp_region ?_
  refine r_box rfl rfl rfl (fun b1 => ?_)
  refine r_assign rfl rfl ?_
  refine awl_nil ?_
  refine x_then ?_
  refine awp_seq ?_
  refine awp_region ?_
  refine awl_imp (imp_commit 0 1 rfl rfl rfl rfl) ?_
  refine r_makeFunc rfl (.cons (.ev rfl rfl) .nil) rfl ?_
  refine r_assign rfl rfl ?_
  refine awl_nil ?_
  refine x_then ?_
  refine awp_ret ?_
  exact ⟨(.inl rfl), _, [], (.one (by first | exact .mk rfl rfl | exact .nil rfl)), ⟨rfl, rfl⟩, (List.nil_sublist _), (by simp)⟩

theorem back1_ok (l : List Ent) (hl : l.length ≤ 1000000) : IterC Try.prog 51 [.cp [entsA l]] [] (backA l) (fun xs => xs.length = l.length) := by
  intro l0 Cs J hY wo hJ0
  refine awc_of_awpG Cs (so := Tr wo) (nt := 19) (fun S r => Result1 S [] r) Try.func51 rfl rfl rfl rfl (result1_run rfl) (fun w0 C0 hq hcs => ?_)
  refine awp_seq ?_
  refine awp_region ?_
  refine r_load1 rfl T.agg22 rfl ?_
  first | (refine r_lenS rfl rfl T.sl22 rfl ?_) | (refine r_lenNil rfl T.sl22 rfl ?_)
  refine r_ari _ rfl rfl rfl (wrap_id (by first | omega | (simp; omega))) rfl ?_
  refine r_assign rfl rfl ?_
  refine awl_nil ?_
  refine x_then ?_
  refine awp_block ?_
  refine awp_loop (fun nn0 S => ∃ k : Nat, ∃ pr : List (List AV), ∃ wv : List OE, S = ⟨19, [(0, .a (.v (.func (.yield l0) #[] #[]))), (1, .a (.cp [entsA l])), (3, .a (.v (.int .i64 ((l.length : Int) - 1 - (k : Int)))))], Tr wv⟩ ∧ nn0 = l.length - k ∧ (k ≤ l.length) ∧ (pr.length = k) ∧ (J pr wv)) (l.length - (0)) ⟨19, [(0, .a (.v (.func (.yield l0) #[] #[]))), (1, .a (.cp [entsA l])), (3, .a (.v (.int .i64 ((l.length : Int) - 1 - ((0) : Int)))))], Tr (wo)⟩ ⟨rfl, (Slots.cons rfl (by first | exact .refl _ | exact .nilOwn _ _ | exact .nilSl _ | exact .ownSl _ _ _  | exact SV.le.ownEq (by simp) | exact SV.le.of_eq (by simp)) (Slots.cons rfl (by first | exact .refl _ | exact .nilOwn _ _ | exact .nilSl _ | exact .ownSl _ _ _  | exact SV.le.ownEq (by simp) | exact SV.le.of_eq (by simp)) (Slots.cons rfl (by first | exact .refl _ | exact .nilOwn _ _ | exact .nilSl _ | exact .ownSl _ _ _  | exact SV.le.ownEq (by simp) | exact SV.le.of_eq (by simp)) Slots.nil))), (by first | exact List.Sublist.refl _ | exact .cons_cons _ (.cons _ (.refl _)) | exact List.nil_sublist _ | exact .cons _ (.refl _) | exact .cons _ (.cons _ (.refl _)) | exact .cons _ (.cons _ (.cons _ (.refl _))) | exact .cons _ (.cons _ (.cons _ (.cons _ (.refl _)))) | exact .cons_cons _ (List.nil_sublist _))⟩ ⟨0, [], wo, rfl, rfl, Nat.zero_le _, rfl, hJ0⟩ ?_
  rintro nn0 _ ⟨k, pr, wv, rfl, rfl, hk, hpr, hJ⟩
  refine awp_seq ?_
  refine awp_seq ?_
  refine awp_region ?_
  refine r_move rfl rfl ?_
  refine r_cmp rfl rfl rfl rfl ?_
  refine awl_nil ?_
  refine x_then ?_
  refine awp_cond rfl (fun hc0 => ?_) (fun hc0 => ?_)
  ·
    have hkl : k < l.length := by have := of_decide_eq_true hc0; simp at this; omega
    obtain ⟨x, hxr⟩ : ∃ x, l.reverse[k]? = some x := get_lt (by simpa using hkl)
    have hx := (rev_get hxr).2
    refine awp_skip ?_
    refine x_then ?_
    refine awp_seq ?_
    refine awp_block ?_
    refine awp_seq ?_
    refine awp_regionI ?_
    refine awli_op (fun c h => (by cases h)) ?_
    refine r_move rfl rfl ?_
    refine awl_nil ⟨rfl, ?_⟩
    refine awli_op (fun c h => (by cases h)) ?_
    refine r_move rfl rfl ?_
    refine awl_nil ⟨rfl, ?_⟩
    refine awli_op (fun c h => (by cases h)) ?_
    refine r_load1 rfl T.agg22 rfl ?_
    refine awl_nil ⟨rfl, ?_⟩
    refine awli_op (fun c h => (by cases h)) ?_
    refine r_move rfl rfl ?_
    refine awl_nil ⟨rfl, ?_⟩
    refine awli_op (fun c h => (by cases h)) ?_
    refine r_index rfl rfl rfl T.sl22 T.sz35 (by omega) (by rw [show ((l.length : Int) - 1 - (k : Int)).toNat = l.length - 1 - k by omega]; exact get_map hx) rfl ?_
    refine awl_nil ⟨rfl, ?_⟩
    refine awli_op (fun c h => (by cases h)) ?_
    refine r_loadA rfl T.agg35 T.sz35 rfl rfl ?_
    refine awl_nil ⟨rfl, ?_⟩
    refine r_yield hq (un := []) (fun n => Tr n) rfl rfl (.cons (.ev rfl rfl) (.cons (.ev rfl rfl) .nil)) Cs hcs (hY pr [.v (.int .i64 ((l.length : Int) - 1 - (k : Int))), .agg (Ent.cs x)] wv hJ ⟨x, _, by rw [hpr]; exact hxr, rfl⟩) (by rw [List.append_nil]; exact List.Perm.refl _) (fun n => by rw [List.append_nil]) rfl (fun nobjs hJ' => ?_)
    refine awli_op (fun c h => (by cases h)) ?_
    refine r_not rfl rfl ?_
    refine awl_nil ⟨rfl, ?_⟩
    refine awli_nil ?_
    refine x_then ?_
    refine awp_cond rfl (fun hc1 => ?_) (fun hc1 => ?_)
    ·
      exfalso; simp at hc1
    ·
      refine awp_skip ?_
      refine x_block ?_
      refine x_then ?_
      refine awp_region ?_
      refine r_move rfl rfl ?_
      refine r_ari _ rfl rfl rfl (wrap_id (by first | omega | (simp; omega))) rfl ?_
      refine r_assign rfl rfl ?_
      refine awl_nil ?_
      refine x_then ?_
      refine ⟨l.length - (k + 1), ⟨19, [(0, .a (.v (.func (.yield l0) #[] #[]))), (1, .a (.cp [entsA l])), (3, .a (.v (.int .i64 ((l.length : Int) - 1 - ((k + 1) : Int)))))], Tr (nobjs)⟩, ⟨rfl, (Slots.cons rfl (by first | exact .refl _ | exact .nilOwn _ _ | exact .nilSl _ | exact .ownSl _ _ _  | exact SV.le.ownEq (by simp <;> omega) | exact SV.le.of_eq (by simp <;> omega)) (Slots.cons rfl (by first | exact .refl _ | exact .nilOwn _ _ | exact .nilSl _ | exact .ownSl _ _ _  | exact SV.le.ownEq (by simp <;> omega) | exact SV.le.of_eq (by simp <;> omega)) (Slots.cons rfl (by first | exact .refl _ | exact .nilOwn _ _ | exact .nilSl _ | exact .ownSl _ _ _  | exact SV.le.ownEq (by simp <;> omega) | exact SV.le.of_eq (by simp <;> omega)) Slots.nil))), (by first | exact List.Sublist.refl _ | exact .cons_cons _ (.cons _ (.refl _)) | exact List.nil_sublist _ | exact .cons _ (.refl _) | exact .cons _ (.cons _ (.refl _)) | exact .cons _ (.cons _ (.cons _ (.refl _))) | exact .cons _ (.cons _ (.cons _ (.cons _ (.refl _)))) | exact .cons_cons _ (List.nil_sublist _))⟩, (by omega), ⟨k + 1, pr ++ [[.v (.int .i64 ((l.length : Int) - 1 - (k : Int))), .agg (Ent.cs x)]], nobjs, rfl, rfl, (by omega), (by simp [hpr]), hJ'⟩⟩
  ·
    have hkl : l.length ≤ k := by have := of_decide_eq_false hc0; simp at this; omega
    refine awp_exit ?_
    refine x_thenE ?_
    refine x_thenE ?_
    refine x_blockE ?_
    exact ⟨(.inr rfl), _, Tr wv, .none, ⟨pr, wv, by omega, hJ, rfl⟩, (List.Sublist.refl _), tr_rw⟩

theorem shown_ok (l : List Ent) (hl : l.length ≤ 1000000) : AC Try.prog 25 [entsA l] [] (fun r n => ∃ b, r = .v (.map (some b)) ∧ n = [⟨b, true, .map (encM ekP numA (shownM l))⟩]) := by
  refine ac_of_awp (rs := [2]) (nt := 20) Try.func25 rfl rfl rfl rfl (fun w0 C0 hq => ?_)
  refine awp_seq ?_
  refine awp_region ?_
  refine r_assign rfl rfl ?_
  refine awl_nil ?_
  refine x_then ?_
  refine awp_seq ?_
  refine awp_region ?_
  refine r_makeMap (ek := ekP) (ev := numA) [] rfl rfl (fun b6 => ?_)
  refine r_alloc T.zero55 rfl (fun b3 => ?_)
  first | (refine r_store 0 rfl rfl rfl T.sz55 rfl rfl rfl ?_) | (refine r_store 1 rfl rfl rfl T.sz55 rfl rfl rfl ?_)
  refine awl_nil ?_
  refine x_then ?_
  refine awp_seq ?_
  refine awp_seq ?_
  refine awp_region ?_
  refine r_move rfl rfl ?_
  refine r_call0 hq rfl rfl (.cons (.ev rfl rfl) .nil) (back_ok l) rfl T.en38 rfl (fun r hr => ?_)
  obtain rfl := hr
  refine awl_nil ?_
  refine x_then ?_
  refine awp_block ?_
  refine awp_rangeFunc (fun pre wo => wo = [⟨b3, true, .box [.v (.map (some b6))]⟩, ⟨b6, true, .map (encM ekP numA ((l.reverse.take pre.length).foldl (fun m e => mset m e.pl e.num) []))⟩]) [(3, .a (.v (.pointer (some ⟨b3, 0, none⟩))))] [true, true] hq rfl (back1_ok l hl) T.en51 (fun pre x ⟨y, i, _, h⟩ => by subst h; rfl) rfl rfl rfl (by first | exact List.Sublist.refl _ | exact .cons_cons _ (.cons _ (.refl _)) | exact List.nil_sublist _ | exact .cons _ (.refl _) | exact .cons _ (.cons _ (.refl _)) | exact .cons _ (.cons _ (.cons _ (.refl _))) | exact .cons _ (.cons _ (.cons _ (.cons _ (.refl _)))) | exact .cons_cons _ (List.nil_sublist _)) (Slots.cons rfl (by first | exact .refl _ | exact .nilOwn _ _ | exact .nilSl _ | exact .ownSl _ _ _  | exact SV.le.of_eq (by simp)) Slots.nil) rfl rfl rfl ?_ ?_
  ·
    intro lr pre x wo rec busy w0 C0 hq hj hax
    obtain rfl := hj
    obtain ⟨y, i, hy, rfl⟩ := hax
    have e : (l.reverse.take (pre.length + 1)).foldl (fun m e => mset m e.pl e.num) [] = mset ((l.reverse.take pre.length).foldl (fun m e => mset m e.pl e.num) []) y.pl y.num := fold_take hy
    refine awpi_region ?_
    refine awli_op (fun c h => (by cases h)) ?_
    refine r_alloc T.zero35 rfl (fun b5 => ?_)
    refine awl_nil ⟨rfl, ?_⟩
    refine awli_op (fun c h => (by cases h)) ?_
    first | (refine r_store 0 rfl rfl rfl T.sz35 rfl rfl rfl ?_) | (refine r_store 1 rfl rfl rfl T.sz35 rfl rfl rfl ?_) | (refine r_store 2 rfl rfl rfl T.sz35 rfl rfl rfl ?_) | (refine r_store 3 rfl rfl rfl T.sz35 rfl rfl rfl ?_) | (refine r_store 4 rfl rfl rfl T.sz35 rfl rfl rfl ?_)
    refine awl_nil ⟨rfl, ?_⟩
    refine awli_nil ?_
    refine ⟨rfl, 3, rfl, ?_⟩
    refine awpi_block ?_
    refine awpi_region ?_
    refine awli_op (fun c h => (by cases h)) ?_
    first | (refine r_load1 rfl T.agg55 rfl ?_) | (refine r_load1b 0 rfl rfl rfl T.agg55 rfl ?_) | (refine r_load1b 1 rfl rfl rfl T.agg55 rfl ?_) | (refine r_load1b 2 rfl rfl rfl T.agg55 rfl ?_) | (refine r_load1b 3 rfl rfl rfl T.agg55 rfl ?_) | (refine r_load1b 4 rfl rfl rfl T.agg55 rfl ?_)
    refine awl_nil ⟨rfl, ?_⟩
    refine awli_op (fun c h => (by cases h)) ?_
    first | (refine r_fieldcp rfl T.f35_0 T.sz3 rfl ?_) | (refine r_fieldb rfl T.f35_0 T.sz3 rfl ?_)
    refine awl_nil ⟨rfl, ?_⟩
    refine awli_op (fun c h => (by cases h)) ?_
    first | (refine r_load1 rfl T.agg3 rfl ?_) | (refine r_load1b 0 rfl rfl rfl T.agg3 rfl ?_) | (refine r_load1b 1 rfl rfl rfl T.agg3 rfl ?_) | (refine r_load1b 2 rfl rfl rfl T.agg3 rfl ?_) | (refine r_load1b 3 rfl rfl rfl T.agg3 rfl ?_) | (refine r_load1b 4 rfl rfl rfl T.agg3 rfl ?_)
    refine awl_nil ⟨rfl, ?_⟩
    refine awli_op (fun c h => (by cases h)) ?_
    first | (refine r_fieldcp rfl T.f35_1 T.sz3 rfl ?_) | (refine r_fieldb rfl T.f35_1 T.sz3 rfl ?_)
    refine awl_nil ⟨rfl, ?_⟩
    refine awli_op (fun c h => (by cases h)) ?_
    first | (refine r_load1 rfl T.agg3 rfl ?_) | (refine r_load1b 0 rfl rfl rfl T.agg3 rfl ?_) | (refine r_load1b 1 rfl rfl rfl T.agg3 rfl ?_) | (refine r_load1b 2 rfl rfl rfl T.agg3 rfl ?_) | (refine r_load1b 3 rfl rfl rfl T.agg3 rfl ?_) | (refine r_load1b 4 rfl rfl rfl T.agg3 rfl ?_)
    refine awl_nil ⟨rfl, ?_⟩
    refine awli_op (fun c h => (by cases h)) ?_
    refine r_build (parts := [(0, .tmp 13), (1, .tmp 15)]) rfl T.pl60 T.zero60 rfl rfl rfl ?_
    refine awl_nil ⟨rfl, ?_⟩
    refine awli_op (fun c h => (by cases h)) ?_
    first | (refine r_fieldcp rfl T.f35_2 T.sz23 rfl ?_) | (refine r_fieldb rfl T.f35_2 T.sz23 rfl ?_)
    refine awl_nil ⟨rfl, ?_⟩
    refine awli_op (fun c h => (by cases h)) ?_
    first | (refine r_load1 rfl T.agg23 rfl ?_) | (refine r_load1b 0 rfl rfl rfl T.agg23 rfl ?_) | (refine r_load1b 1 rfl rfl rfl T.agg23 rfl ?_) | (refine r_load1b 2 rfl rfl rfl T.agg23 rfl ?_) | (refine r_load1b 3 rfl rfl rfl T.agg23 rfl ?_) | (refine r_load1b 4 rfl rfl rfl T.agg23 rfl ?_)
    refine awl_nil ⟨rfl, ?_⟩
    refine awli_op (fun c h => (by cases h)) ?_
    first | (refine r_mapUpdateK 0 keyP (ev := numA) (k := y.pl) y.num rfl rfl rfl (isVal_pl y.pl) rfl rfl T.map55 ?_) | (refine r_mapUpdateK 1 keyP (ev := numA) (k := y.pl) y.num rfl rfl rfl (isVal_pl y.pl) rfl rfl T.map55 ?_) | (refine r_mapUpdateK 2 keyP (ev := numA) (k := y.pl) y.num rfl rfl rfl (isVal_pl y.pl) rfl rfl T.map55 ?_) | (refine r_mapUpdateK 3 keyP (ev := numA) (k := y.pl) y.num rfl rfl rfl (isVal_pl y.pl) rfl rfl T.map55 ?_) | (refine r_mapUpdateK 4 keyP (ev := numA) (k := y.pl) y.num rfl rfl rfl (isVal_pl y.pl) rfl rfl T.map55 ?_)
    refine awl_nil ⟨rfl, ?_⟩
    refine awli_nil ?_
    refine x_block ?_
    refine ⟨rfl, _, rfl, ?_, by simp⟩
    simp only [List.length_append, List.length_singleton]
    rw [e]
    first | exact List.Sublist.refl _ | exact .cons_cons _ (.cons _ (.refl _)) | exact List.nil_sublist _ | exact .cons _ (.refl _) | exact .cons _ (.cons _ (.refl _)) | exact .cons _ (.cons _ (.cons _ (.refl _))) | exact .cons _ (.cons _ (.cons _ (.cons _ (.refl _)))) | exact .cons_cons _ (List.nil_sublist _)
  ·
    intro xs wo' hG hJ
    obtain rfl := hJ
    rw [hG, List.take_of_length_le (l := l.reverse) (i := l.length) (by simp)]
    refine x_block ?_
    refine x_then ?_
    refine awp_seq ?_
    refine awp_region ?_
    first | (refine r_load1 rfl T.agg55 rfl ?_) | (refine r_load1b 0 rfl rfl rfl T.agg55 rfl ?_) | (refine r_load1b 1 rfl rfl rfl T.agg55 rfl ?_)
    refine r_assign rfl rfl ?_
    refine awl_nil ?_
    refine x_then ?_
    refine awp_ret ?_
    exact ⟨(.inl rfl), _, [⟨b6, true, .map (encM ekP numA (shownM l))⟩], (.one (by first | exact .mk rfl rfl | exact .nil rfl)), ⟨b6, rfl, rfl⟩, (by first | exact List.Sublist.refl _ | exact .cons_cons _ (.cons _ (.refl _)) | exact List.nil_sublist _ | exact .cons _ (.refl _) | exact .cons _ (.cons _ (.refl _)) | exact .cons _ (.cons _ (.cons _ (.refl _))) | exact .cons _ (.cons _ (.cons _ (.cons _ (.refl _)))) | exact .cons_cons _ (List.nil_sublist _)), (by simp)⟩

end Go.Proofs.Ytcgjgnkpebpimaa.A

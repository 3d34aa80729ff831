import Derived.WalkKit
import Derived.Below
import Derived.Laws.Rows
import Derived.Laws.CopyRow
import Derived.Laws.AppendOwn
import Derived.RangeFuncLeaves
import Derived.RangeFuncSeq
import Derived.RangeFuncCalls
import Derived.MapKept
import Derived.Orders
import Derived.Laws.IdiomStrings
import Derived.Laws.BytesArg
import Derived.Shelf.SlIter.Nil
import Derived.RangeFuncBound
import Derived.Maps.RangeRun
import Derived.DeepKeys3
import Derived.Laws.StructEq
import Derived.Shelf.SlSortCmp.NoneTotal
import Derived.ChangeKeysEq
import Derived.Laws.MakeOwn
import Derived.ChangeArms
import Derived.ChangeOld
import Derived.Laws.DeepStrings4
import Derived.OpenShut
import Derived.Test.YtljgdbgcleibjaaProg
import Derived.KernelRfl
import Derived.OrdersIn
import Derived.Lib.AppendZeros
import Derived.Lib.AppendZerosOnto
import Derived.Lib.Overlaps
import Derived.Deep.AppendSrc
import Derived.Shelf.SlGeneric
import Derived.Ground.SlsfProg
import Derived.Scope
import Derived.Test.YtljgdbgcleibjaaM3
namespace Go.Proofs.Ytljgdbgcleibjaa.A
open Go Go.RowKit
set_option linter.unusedVariables false
set_option linter.unusedSimpArgs false
set_option maxRecDepth 100000
theorem TF.en57 : entersT Try.prog 57 := enters_of Try.func57 (by kernel_rfl) (by kernel_rfl)
theorem TF.en59 : entersT Try.prog 59 := enters_of Try.func59 (by kernel_rfl) (by kernel_rfl)
theorem TF.en60 : entersT Try.prog 60 := enters_of Try.func60 (by kernel_rfl) (by kernel_rfl)
theorem TF.en58 : entersT Try.prog 58 := enters_of Try.func58 (by kernel_rfl) (by kernel_rfl)
theorem TF.en61 : entersT Try.prog 61 := enters_of Try.func61 (by kernel_rfl) (by kernel_rfl)
theorem TF.en44 : entersT Try.prog 44 := enters_of Try.func44 (by kernel_rfl) (by kernel_rfl)
theorem TF.zraw80 : zeroT Try.prog 80 = some [(.slice none 0 0)] := by kernel_rfl
theorem TF.en63 : entersT Try.prog 63 := enters_of Try.func63 (by kernel_rfl) (by kernel_rfl)
theorem TF.en62 : entersT Try.prog 62 := enters_of Try.func62 (by kernel_rfl) (by kernel_rfl)
theorem put_nil (k : Sp) (v : Int) : AC Try.prog 44 [nilP, spA k, .v (.int .u64 (v))] [] (fun r n => n = [] ∧ ∃ b, r = .sl 1 [[enc 0 (b, [(k, v)])]]) := by
 refine ac_of_awp (rs := [6]) (nt := 84) Try.func44 rfl rfl rfl rfl (fun w0 C0 hq => ?_)
 unfold nilP
 refine awp_seq ?_
 refine awp_region ?_
 refine r_box rfl rfl rfl (fun b4 => ?_)
 refine r_assign rfl rfl ?_
 refine awl_nil ?_
 refine x_then ?_
 refine awp_seq ?_
 refine awp_seq ?_
 refine awp_region ?_
 refine r_move rfl rfl ?_
 refine r_pnil rfl (by first | exact .pt _ _ | exact .nil | exact .v _ | exact .cp _) TF.un36 rfl ?_
 refine awl_nil ?_
 refine x_then ?_
 refine awp_cond rfl (fun hc0 => ?_) (fun hc0 => ?_)
 ·
  skip
  refine awp_seq ?_
  refine awp_region ?_
  refine r_loadAb 0 rfl rfl TF.agg47 TF.sz47 rfl rfl ?_
  refine r_lit 15 (parts := [(0, .tmp 14)]) rfl TF.sl78 TF.sz47 TF.zraw47 rfl rfl rfl rfl rfl rfl rfl ?_
  refine r_move rfl rfl ?_
  refine r_lit 17 (parts := [(0, .tmp 16)]) rfl TF.sl79 TF.sz45 TF.zraw45 rfl rfl rfl rfl rfl rfl rfl ?_
  refine r_build (parts := [(0, .tmp 15), (1, .tmp 17)]) rfl TF.pl82 TF.zero82 rfl rfl rfl ?_
  refine r_box rfl rfl rfl (fun b19 => ?_)
  refine awl_imp (imp_commitP 0 19 rfl rfl rfl rfl) ?_
  refine r_lit 20 (parts := [(0, .tmp 19)]) rfl TF.sl80 TF.sz36 TF.zraw36 rfl rfl rfl rfl rfl rfl rfl ?_
  refine r_assign rfl rfl ?_
  refine awl_nil ?_
  refine x_then ?_
  refine awp_ret ?_
  refine x_thenR ?_
  exact ⟨(.inl rfl), _, [], (.one (by first | exact .mk rfl rfl | exact .nil rfl)), ⟨rfl, b19, rfl⟩, (List.nil_sublist _), (by simp)⟩
 ·
  exfalso; cases hc0
theorem put_leaf (b : Nat) (its : List (Sp × Int)) (hw1 : 1 ≤ its.length) (hw4 : its.length ≤ 4) (k : Sp) (v : Int) : AC Try.prog 44 [ndA b (its.map fun p : Sp × Int => p.1) (its.map fun p : Sp × Int => p.2) [], spA k, .v (.int .u64 (v))] [] (fun r n => n = [] ∧ ∃ l, PutR 0 (b, its) k v l ∧ r = .sl 1 (l.map fun x => [enc 0 x])) := by
 refine ac_of_awp (rs := [6]) (nt := 84) Try.func44 rfl rfl rfl rfl (fun w0 C0 hq => ?_)
 unfold ndA
 obtain ⟨hz4, ho4⟩ := its_one (its.map fun p : Sp × Int => p.1)
 obtain ⟨hz1, ho1⟩ := vls_one (its.map fun p : Sp × Int => p.2)
 have hkn : (its.map fun p : Sp × Int => p.1) ≠ [] := by intro e; have := congrArg List.length e; simp at this; rw [this] at hw1; simp at hw1
 have hvl1 := flat_len hz1
 rw [List.length_map] at hvl1
 refine awp_seq ?_
 refine awp_region ?_
 refine r_box rfl rfl rfl (fun b4 => ?_)
 refine r_assign rfl rfl ?_
 refine awl_nil ?_
 refine x_then ?_
 refine awp_seq ?_
 refine awp_seq ?_
 refine awp_region ?_
 refine r_move rfl rfl ?_
 refine r_pnil rfl (by first | exact .pt _ _ | exact .nil | exact .v _ | exact .cp _) TF.un36 rfl ?_
 refine awl_nil ?_
 refine x_then ?_
 refine awp_cond rfl (fun hc0 => ?_) (fun hc0 => ?_)
 ·
  exfalso; cases hc0
 ·
  refine awp_skip ?_
  refine x_then ?_
  refine awp_seq ?_
  refine awp_seq ?_
  refine awp_region ?_
  refine r_move rfl rfl ?_
  refine r_call0 hq rfl rfl (.cons (.ev rfl rfl) .nil) (leaf_ok b (its.map fun p : Sp × Int => p.1) (its.map fun p : Sp × Int => p.2) []) rfl TF.en46 rfl (fun r hr => ?_)
  obtain rfl := hr
  refine awl_nil ?_
  refine x_then ?_
  refine awp_cond rfl (fun hc1 => ?_) (fun hc1 => ?_)
  ·
   skip
   refine awp_seq ?_
   refine awp_region ?_
   refine r_move rfl rfl ?_
   refine r_loadAb 0 rfl rfl TF.agg47 TF.sz47 rfl rfl ?_
   refine r_call0 hq rfl rfl (.cons (.ev rfl rfl) (.cons (.ev rfl rfl) .nil)) (find_ok b (its.map fun p : Sp × Int => p.1) (its.map fun p : Sp × Int => p.2) [] (by simp; omega) k) rfl TF.en43 rfl (fun r hr => ?_)
   obtain rfl := hr
   refine r_move rfl rfl ?_
   refine r_extract rfl rfl rfl ?_
   refine r_extract rfl rfl rfl ?_
   refine r_assign rfl rfl ?_
   refine r_assign rfl rfl ?_
   refine awl_nil ?_
   refine x_then ?_
   refine awp_seq ?_
   refine awp_region ?_
   refine r_move rfl rfl ?_
   refine r_callO hq rfl rfl (.cons (.ev rfl rfl) .nil) (leafs_ok b (its.map fun p : Sp × Int => p.1) (its.map fun p : Sp × Int => p.2) [] hkn (by simp; omega) (by simp)) rfl TF.en57 (by first | exact List.Sublist.refl _ | exact .cons_cons _ (.cons _ (.refl _)) | exact List.nil_sublist _ | exact .cons _ (.refl _) | exact .cons _ (.cons _ (.refl _)) | exact .cons _ (.cons _ (.cons _ (.refl _))) | exact .cons _ (.cons _ (.cons _ (.cons _ (.refl _)))) | exact .cons_cons _ (List.nil_sublist _)) rfl (fun r nobjs hr => ?_)
   obtain ⟨g1, cap, ext, g2, rfl, rfl, hq1, hq2⟩ := hr
   refine r_move rfl rfl ?_
   refine r_extract rfl rfl rfl ?_
   refine r_extract rfl rfl rfl ?_
   refine r_assign rfl rfl ?_
   refine r_assign rfl rfl ?_
   refine awl_nil ?_
   refine x_then ?_
   refine awp_seq ?_
   refine awp_seq ?_
   refine awp_region ?_
   refine r_move rfl rfl ?_
   refine awl_nil ?_
   refine x_then ?_
   refine awp_cond rfl (fun hc2 => ?_) (fun hc2 => ?_)
   ·
    have hh : (findL k (its.map fun p : Sp × Int => p.1)).2 = true := hc2
    have hil := findL_had hh
    rw [List.length_map] at hil
    obtain ⟨e1, e2, e3⟩ := putL_had (v := v) hh
    refine awp_seq ?_
    refine awp_region ?_
    refine r_move rfl rfl ?_
    refine r_move rfl rfl ?_
    refine r_move rfl rfl ?_
    refine r_indexV rfl rfl TF.sl79 TF.sz45 (by simp [findN]) (by simp [findN]; omega) rfl ?_
    refine r_store 0 rfl rfl rfl TF.sz45 rfl (Nat.ble_eq_true_of_le (by rw [List.append_nil, hvl1, List.length_map]; show 0 + (findL k (its.map fun p : Sp × Int => p.1)).1 * 1 + 1 ≤ _; omega)) rfl ?_
    refine awl_nil ?_
    refine x_then ?_
    refine awp_seq ?_
    refine awp_region ?_
    refine awl_imp (imp_commitS 0 10 (sz := 1) (l := ((its.map fun p : Sp × Int => p.2).set (findL k (its.map fun p : Sp × Int => p.1)).1 v).map u64c) (ext := []) rfl rfl (flat_set (f := u64c) (n := 1) (fun _ => rfl) (l := (its.map fun p : Sp × Int => p.2)) (k := (findL k (its.map fun p : Sp × Int => p.1)).1) (x := v) (ext := []) (by rw [List.length_map]; exact hil)) (by simp) (Nat.le_refl _) (vls_one _).1 (by rw [List.append_nil]; simp only [List.length_append, List.length_take, List.length_drop, hvl1, List.length_map]; show min (0 + (findL k (its.map fun p : Sp × Int => p.1)).1 * 1) (its.length * 1) + 1 + (its.length * 1 - (0 + (findL k (its.map fun p : Sp × Int => p.1)).1 * 1 + 1)) = its.length * 1; omega) (vls_one _).2) ?_
    refine awl_imp (imp_commitS 0 9 (sz := 4) (l := (its.map fun p : Sp × Int => p.1).map Sp.cs) (ext := ext) rfl rfl rfl (by simp) hq1 hz4 hq2 ho4) ?_
    refine r_move rfl rfl ?_
    refine r_move rfl rfl ?_
    refine r_build (parts := [(0, .tmp 39), (1, .tmp 40)]) rfl TF.pl82 TF.zero82 rfl rfl rfl ?_
    refine r_box rfl rfl rfl (fun b42 => ?_)
    refine awl_imp (imp_commitP 0 42 rfl rfl rfl rfl) ?_
    refine r_lit 43 (parts := [(0, .tmp 42)]) rfl TF.sl80 TF.sz36 TF.zraw36 rfl rfl rfl rfl rfl rfl rfl ?_
    refine r_assign rfl rfl ?_
    refine awl_nil ?_
    refine x_then ?_
    refine awp_ret ?_
    refine x_thenR ?_
    refine x_thenR ?_
    exact ⟨(.inl rfl), _, [], (.one (by first | exact .mk rfl rfl | exact .nil rfl)), ⟨rfl, [(b42, putL k v its)], by show [putL k v its] = halvesG (putL k v its); unfold halvesG; rw [if_pos (by omega)], by show _ = AV.sl 1 [[ndA b42 ((putL k v its).map fun p => p.1) ((putL k v its).map fun p => p.2) []]]; rw [e1, e2]; rfl⟩, (List.nil_sublist _), (by simp)⟩
   ·
    have hh : (findL k (its.map fun p : Sp × Int => p.1)).2 = false := hc2
    have hil := findL_le (k := k) (l := (its.map fun p : Sp × Int => p.1))
    rw [List.length_map] at hil
    have hpn := putL_new (v := v) hh
    refine awp_skip ?_
    refine x_then ?_
    refine awp_seq ?_
    refine awp_region ?_
    refine r_move rfl rfl ?_
    refine r_move rfl rfl ?_
    refine r_loadAb 2 rfl rfl TF.agg47 TF.sz47 rfl rfl ?_
    refine r_lit 47 (parts := [(0, .tmp 46)]) rfl TF.sl78 TF.sz47 TF.zraw47 rfl rfl rfl rfl rfl rfl rfl ?_
    refine r_callW hq [false, true, false] rfl rfl (.cons (.ev rfl rfl) (.cons (.ev rfl rfl) (.cons (.ev rfl rfl) .nil))) (insertS_ok ((its.map fun p : Sp × Int => p.1).map Sp.cs) hz4 ho4 (by simp; omega) k.cs rfl rfl (findL k (its.map fun p : Sp × Int => p.1)).1 (by simp; exact hil) g1 cap ext (by simpa using hq1) hq2 _ (by simp)) rfl TF.en59 rfl rfl (List.nil_sublist _) rfl (fun r nobjs hr => ?_)
    obtain ⟨rfl, rfl⟩ := hr
    refine r_move rfl rfl ?_
    refine r_move rfl rfl ?_
    refine r_move rfl rfl ?_
    refine r_lit 52 (parts := [(0, .tmp 51)]) rfl TF.sl79 TF.sz45 TF.zraw45 rfl rfl rfl rfl rfl rfl rfl ?_
    refine r_callW hq [true, false] rfl rfl (.cons (.ev rfl rfl) (.cons (.ev rfl rfl) (.cons (.ev rfl rfl) .nil))) (insertU_ok ((its.map fun p : Sp × Int => p.2).map u64c) hz1 ho1 (by simp; omega) (u64c v) rfl rfl (findL k (its.map fun p : Sp × Int => p.1)).1 (by simp; exact hil) g2 (its.map fun p : Sp × Int => p.1).length [] (by simp) (by rw [List.append_nil, hvl1]; simp) _ (by simp)) rfl TF.en60 rfl rfl (List.nil_sublist _) rfl (fun r nobjs hr => ?_)
    obtain ⟨rfl, rfl⟩ := hr
    refine r_call0 hq rfl rfl (.cons (.ev rfl rfl) (.cons (.ev rfl rfl) .nil)) (halves_ok (putL k v its) (by have := (putL_len (k := k) (v := v) (l := its)).2; omega) _ _ (by rw [hpn]; simp [List.map_take, List.map_drop]) (by rw [hpn]; simp [List.map_take, List.map_drop, u64c])) rfl TF.en58 rfl (fun r hr => ?_)
    obtain ⟨l, hl1, rfl⟩ := hr
    refine r_assign rfl rfl ?_
    refine awl_nil ?_
    refine x_then ?_
    refine awp_ret ?_
    refine x_thenR ?_
    exact ⟨(.inl rfl), _, [], (.one (by first | exact .mk rfl rfl | exact .nil rfl)), ⟨rfl, l, hl1, rfl⟩, (List.nil_sublist _), (by simp)⟩
  ·
   exfalso; cases hc1
theorem three_eq {h : Nat} (l rl : List (Nd h)) (i : Nat) : [((l.map (enc h)).map fun x => [x]).take i, rl.map fun x => [enc h x], ((l.map (enc h)).map fun x => [x]).drop (i + 1)].flatten = (l.take i ++ rl ++ l.drop (i + 1)).map fun n => [enc h n] := by
  simp [List.map_take, List.map_drop]; rfl
theorem three_len {h : Nat} {l rl : List (Nd h)} {i : Nat} (hi : i < l.length) (h1 : 1 ≤ rl.length) (h2 : rl.length ≤ 2) (h4 : l.length ≤ 4) : 0 < (l.take i ++ rl ++ l.drop (i + 1)).length ∧ (l.take i ++ rl ++ l.drop (i + 1)).length ≤ 5 := by
  simp only [List.length_append, List.length_take, List.length_drop]; omega
theorem three_mem {h : Nat} {l rl : List (Nd h)} {i j : Nat} {lo : Nat} (hl : ∀ n ∈ l, wfC lo h n.2) (hr : ∀ n ∈ rl, wfC lo h n.2) : ∀ n ∈ l.take i ++ rl ++ l.drop j, wfC lo h n.2 := fun n hn => by
  rcases List.mem_append.1 hn with hn | hn
  · rcases List.mem_append.1 hn with hn | hn
    · exact hl n (List.mem_of_mem_take hn)
    · exact hr n hn
  · exact hl n (List.mem_of_mem_drop hn)
theorem put_inner (h : Nat) (ih : ∀ (n : Nd h), wfC 1 h n.2 → ∀ (k : Sp) (v : Int), AC Try.prog 44 [enc h n, spA k, .v (.int .u64 (v))] [] (fun r nb => nb = [] ∧ ∃ l, PutR h n k v l ∧ r = .sl 1 (l.map fun x => [enc h x]))) (b : Nat) (l : List (Nd h)) (h0 : 0 < l.length) (hl4 : l.length ≤ 4) (hw : ∀ n ∈ l, wfC 2 h n.2) (k : Sp) (v : Int) : AC Try.prog 44 [ndA b (kksOf h l) [] (l.map (enc h)), spA k, .v (.int .u64 (v))] [] (fun r n => n = [] ∧ ∃ m : List (Nd (h + 1)), PutR (h + 1) (b, l) k v m ∧ r = .sl 1 (m.map fun x => [enc (h + 1) x])) := by
 refine ac_of_awp (rs := [6]) (nt := 84) Try.func44 rfl rfl rfl rfl (fun w0 C0 hq => ?_)
 unfold ndA
 have hemp : (l.map (enc h)).isEmpty = false := by cases l with | nil => simp at h0 | cons => rfl
 have hil := wayI_lt (k := k) h0
 obtain ⟨kid, hkid⟩ : ∃ kid, l[wayI h k l]? = some kid := get_lt hil
 obtain ⟨i, hi⟩ : ∃ i, i = wayI h k l := ⟨_, rfl⟩
 rw [← hi] at hkid hil
 have hkw := hw kid (List.mem_of_getElem? hkid)
 refine awp_seq ?_
 refine awp_region ?_
 refine r_box rfl rfl rfl (fun b4 => ?_)
 refine r_assign rfl rfl ?_
 refine awl_nil ?_
 refine x_then ?_
 refine awp_seq ?_
 refine awp_seq ?_
 refine awp_region ?_
 refine r_move rfl rfl ?_
 refine r_pnil rfl (by first | exact .pt _ _ | exact .nil | exact .v _ | exact .cp _) TF.un36 rfl ?_
 refine awl_nil ?_
 refine x_then ?_
 refine awp_cond rfl (fun hc0 => ?_) (fun hc0 => ?_)
 ·
  exfalso; cases hc0
 ·
  refine awp_skip ?_
  refine x_then ?_
  refine awp_seq ?_
  refine awp_seq ?_
  refine awp_region ?_
  refine r_move rfl rfl ?_
  refine r_call0 hq rfl rfl (.cons (.ev rfl rfl) .nil) (leaf_ok b (kksOf h l) [] (l.map (enc h))) rfl TF.en46 rfl (fun r hr => ?_)
  obtain rfl := hr
  refine awl_nil ?_
  refine x_then ?_
  refine awp_cond rfl (fun hc1 => ?_) (fun hc1 => ?_)
  ·
   exfalso; rw [hemp] at hc1; cases hc1
  ·
   refine awp_skip ?_
   refine x_then ?_
   refine awp_seq ?_
   refine awp_region ?_
   refine r_move rfl rfl ?_
   refine r_loadAb 0 rfl rfl TF.agg47 TF.sz47 rfl rfl ?_
   refine r_call0 hq rfl rfl (.cons (.ev rfl rfl) (.cons (.ev rfl rfl) .nil)) (way_ok h b l h0 (by omega) k) rfl TF.en61 rfl (fun r hr => ?_)
   obtain rfl := hr
   rw [← hi]
   refine r_assign rfl rfl ?_
   refine awl_nil ?_
   refine x_then ?_
   refine awp_seq ?_
   refine awp_any (fun B S => ∃ rl : List (Nd h), ∃ ml : List (Nd (h + 1)), ∃ sl : List (Nat × SV), S = ⟨84, sl, [⟨b4, true, .box k.cs⟩]⟩ ∧ find 0 sl = some (.a (.pt b [.sl 4 ((kksOf h l).map Sp.cs), .sl 1 (([] : List Int).map u64c), .sl 1 ((l.map (enc h)).map fun x => [x])])) ∧ find 2 sl = some (.a (.v (.int .u64 (v)))) ∧ find 4 sl = some (.a (.v (.pointer (some ⟨b4, 0, none⟩)))) ∧ find 11 sl = some (.a (.v (.int .i64 ((i : Nat))))) ∧ (B 0 = true → find 58 sl = some (.a (.pt b [.sl 4 ((kksOf h l).map Sp.cs), .sl 1 (([] : List Int).map u64c), .sl 1 ((l.map (enc h)).map fun x => [x])]))) ∧ (B 1 = true → find 59 sl = some (.a (.pt b [.sl 4 ((kksOf h l).map Sp.cs), .sl 1 (([] : List Int).map u64c), .sl 1 ((l.map (enc h)).map fun x => [x])]))) ∧ (B 2 = true → find 60 sl = some (.a (.cp [.sl 1 ((l.map (enc h)).map fun x => [x])]))) ∧ (B 3 = true → find 61 sl = some (.a (.sl 1 ((l.map (enc h)).map fun x => [x])))) ∧ (B 4 = true → find 62 sl = some (.a (.v (.int .i64 ((i : Nat)))))) ∧ (B 5 = true → find 63 sl = some (.a (.sl 1 (((l.map (enc h)).map fun x => [x]).take i)))) ∧ (B 6 = true → find 64 sl = some (.a (.pt b [.sl 4 ((kksOf h l).map Sp.cs), .sl 1 (([] : List Int).map u64c), .sl 1 ((l.map (enc h)).map fun x => [x])]))) ∧ (B 7 = true → find 65 sl = some (.a (.pt b [.sl 4 ((kksOf h l).map Sp.cs), .sl 1 (([] : List Int).map u64c), .sl 1 ((l.map (enc h)).map fun x => [x])]))) ∧ (B 8 = true → find 66 sl = some (.a (.cp [.sl 1 ((l.map (enc h)).map fun x => [x])]))) ∧ (B 9 = true → find 67 sl = some (.a (.sl 1 ((l.map (enc h)).map fun x => [x])))) ∧ (B 10 = true → find 68 sl = some (.a (.v (.int .i64 ((i : Nat)))))) ∧ (B 11 = true → find 69 sl = some (.a (.cp [enc h kid]))) ∧ (B 12 = true → find 70 sl = some (.a (enc h kid))) ∧ (B 13 = true → find 71 sl = some (.a (spA k))) ∧ (B 14 = true → find 72 sl = some (.a (.v (.int .u64 (v))))) ∧ (B 15 = true → find 73 sl = some (.a (.sl 1 (rl.map fun x => [enc h x])))) ∧ (B 16 = true → find 74 sl = some (.a (.pt b [.sl 4 ((kksOf h l).map Sp.cs), .sl 1 (([] : List Int).map u64c), .sl 1 ((l.map (enc h)).map fun x => [x])]))) ∧ (B 17 = true → find 75 sl = some (.a (.pt b [.sl 4 ((kksOf h l).map Sp.cs), .sl 1 (([] : List Int).map u64c), .sl 1 ((l.map (enc h)).map fun x => [x])]))) ∧ (B 18 = true → find 76 sl = some (.a (.cp [.sl 1 ((l.map (enc h)).map fun x => [x])]))) ∧ (B 19 = true → find 77 sl = some (.a (.sl 1 ((l.map (enc h)).map fun x => [x])))) ∧ (B 20 = true → find 78 sl = some (.a (.v (.int .i64 ((i : Nat)))))) ∧ (B 21 = true → find 79 sl = some (.a (.v (.int .i64 (((i + 1 : Nat) : Int)))))) ∧ (B 22 = true → find 80 sl = some (.a (.sl 1 (((l.map (enc h)).map fun x => [x]).drop (i + 1))))) ∧ (B 23 = true → find 81 sl = some (.a (.sl 1 ([((l.map (enc h)).map fun x => [x]).take i, rl.map fun x => [enc h x], ((l.map (enc h)).map fun x => [x]).drop (i + 1)].map fun x => [.sl 1 x])))) ∧ (B 24 = true → find 82 sl = some (.a (.sl 1 ([((l.map (enc h)).map fun x => [x]).take i, rl.map fun x => [enc h x], ((l.map (enc h)).map fun x => [x]).drop (i + 1)].flatten)))) ∧ (B 25 = true → find 83 sl = some (.a (.sl 1 (ml.map fun x => [enc (h + 1) x])))) ∧ (B 26 = true → find 6 sl = some (.a (.sl 1 (ml.map fun x => [enc (h + 1) x])))) ∧ (B 15 = true → PutR h kid k v rl) ∧ (B 25 = true → ml.map kdsOf = halvesG (l.take i ++ rl ++ l.drop (i + 1)))) TF.mixed rfl ⟨[], [], _, rfl, rfl, rfl, rfl, rfl, (fun h => by cases h), (fun h => by cases h), (fun h => by cases h), (fun h => by cases h), (fun h => by cases h), (fun h => by cases h), (fun h => by cases h), (fun h => by cases h), (fun h => by cases h), (fun h => by cases h), (fun h => by cases h), (fun h => by cases h), (fun h => by cases h), (fun h => by cases h), (fun h => by cases h), (fun h => by cases h), (fun h => by cases h), (fun h => by cases h), (fun h => by cases h), (fun h => by cases h), (fun h => by cases h), (fun h => by cases h), (fun h => by cases h), (fun h => by cases h), (fun h => by cases h), (fun h => by cases h), (fun h => by cases h), (fun h => by cases h), (fun h => by cases h)⟩ ⟨⟨⟨⟨⟨⟨⟨⟨⟨⟨⟨⟨⟨⟨⟨⟨⟨⟨⟨⟨⟨⟨⟨⟨⟨⟨⟨trivial
    , ⟨_, rfl, fun B S hBi hdep hcl => by
      rintro ⟨rl, ml, sl, rfl, h0, h2, h4, h11, f0, f1, f2, f3, f4, f5, f6, f7, f8, f9, f10, f11, f12, f13, f14, f15, f16, f17, f18, f19, f20, f21, f22, f23, f24, f25, f26, p15, p25⟩
      refine r_move h0 rfl ?_
      exact awl_nil ⟨rfl, rl, ml, _, rfl, h0, h2, h4, h11, (fun h => rfl), f1, f2, f3, f4, f5, f6, f7, f8, f9, f10, f11, f12, f13, f14, f15, f16, f17, f18, f19, f20, f21, f22, f23, f24, f25, f26, p15, p25⟩⟩⟩
    , ⟨_, rfl, fun B S hBi hdep hcl => by
      rintro ⟨rl, ml, sl, rfl, h0, h2, h4, h11, f0, f1, f2, f3, f4, f5, f6, f7, f8, f9, f10, f11, f12, f13, f14, f15, f16, f17, f18, f19, f20, f21, f22, f23, f24, f25, f26, p15, p25⟩
      refine r_nilCheck (f0 (hdep 0 rfl)) (by first | exact .pt _ _ | exact .v _ | exact .cp _) rfl ?_
      exact awl_nil ⟨rfl, rl, ml, _, rfl, h0, h2, h4, h11, f0, (fun h => rfl), f2, f3, f4, f5, f6, f7, f8, f9, f10, f11, f12, f13, f14, f15, f16, f17, f18, f19, f20, f21, f22, f23, f24, f25, f26, p15, p25⟩⟩⟩
    , ⟨_, rfl, fun B S hBi hdep hcl => by
      rintro ⟨rl, ml, sl, rfl, h0, h2, h4, h11, f0, f1, f2, f3, f4, f5, f6, f7, f8, f9, f10, f11, f12, f13, f14, f15, f16, f17, f18, f19, f20, f21, f22, f23, f24, f25, f26, p15, p25⟩
      refine r_fieldpt (f1 (hdep 1 rfl)) TF.f82_2 TF.sz80 rfl ?_
      exact awl_nil ⟨rfl, rl, ml, _, rfl, h0, h2, h4, h11, f0, f1, (fun h => rfl), f3, f4, f5, f6, f7, f8, f9, f10, f11, f12, f13, f14, f15, f16, f17, f18, f19, f20, f21, f22, f23, f24, f25, f26, p15, p25⟩⟩⟩
    , ⟨_, rfl, fun B S hBi hdep hcl => by
      rintro ⟨rl, ml, sl, rfl, h0, h2, h4, h11, f0, f1, f2, f3, f4, f5, f6, f7, f8, f9, f10, f11, f12, f13, f14, f15, f16, f17, f18, f19, f20, f21, f22, f23, f24, f25, f26, p15, p25⟩
      refine r_load1 (f2 (hdep 2 rfl)) TF.agg80 rfl ?_
      exact awl_nil ⟨rfl, rl, ml, _, rfl, h0, h2, h4, h11, f0, f1, f2, (fun h => rfl), f4, f5, f6, f7, f8, f9, f10, f11, f12, f13, f14, f15, f16, f17, f18, f19, f20, f21, f22, f23, f24, f25, f26, p15, p25⟩⟩⟩
    , ⟨_, rfl, fun B S hBi hdep hcl => by
      rintro ⟨rl, ml, sl, rfl, h0, h2, h4, h11, f0, f1, f2, f3, f4, f5, f6, f7, f8, f9, f10, f11, f12, f13, f14, f15, f16, f17, f18, f19, f20, f21, f22, f23, f24, f25, f26, p15, p25⟩
      refine r_move h11 rfl ?_
      exact awl_nil ⟨rfl, rl, ml, _, rfl, h0, h2, h4, h11, f0, f1, f2, f3, (fun h => rfl), f5, f6, f7, f8, f9, f10, f11, f12, f13, f14, f15, f16, f17, f18, f19, f20, f21, f22, f23, f24, f25, f26, p15, p25⟩⟩⟩
    , ⟨_, rfl, fun B S hBi hdep hcl => by
      rintro ⟨rl, ml, sl, rfl, h0, h2, h4, h11, f0, f1, f2, f3, f4, f5, f6, f7, f8, f9, f10, f11, f12, f13, f14, f15, f16, f17, f18, f19, f20, f21, f22, f23, f24, f25, f26, p15, p25⟩
      refine r_sliceH (f3 (hdep 3 rfl)) rfl (f4 (hdep 4 rfl)) TF.sl80 TF.sz36 (by omega) (by simp; omega) rfl ?_
      exact awl_nil ⟨rfl, rl, ml, _, rfl, h0, h2, h4, h11, f0, f1, f2, f3, f4, (fun h => rfl), f6, f7, f8, f9, f10, f11, f12, f13, f14, f15, f16, f17, f18, f19, f20, f21, f22, f23, f24, f25, f26, p15, p25⟩⟩⟩
    , ⟨_, rfl, fun B S hBi hdep hcl => by
      rintro ⟨rl, ml, sl, rfl, h0, h2, h4, h11, f0, f1, f2, f3, f4, f5, f6, f7, f8, f9, f10, f11, f12, f13, f14, f15, f16, f17, f18, f19, f20, f21, f22, f23, f24, f25, f26, p15, p25⟩
      refine r_move h0 rfl ?_
      exact awl_nil ⟨rfl, rl, ml, _, rfl, h0, h2, h4, h11, f0, f1, f2, f3, f4, f5, (fun h => rfl), f7, f8, f9, f10, f11, f12, f13, f14, f15, f16, f17, f18, f19, f20, f21, f22, f23, f24, f25, f26, p15, p25⟩⟩⟩
    , ⟨_, rfl, fun B S hBi hdep hcl => by
      rintro ⟨rl, ml, sl, rfl, h0, h2, h4, h11, f0, f1, f2, f3, f4, f5, f6, f7, f8, f9, f10, f11, f12, f13, f14, f15, f16, f17, f18, f19, f20, f21, f22, f23, f24, f25, f26, p15, p25⟩
      refine r_nilCheck (f6 (hdep 6 rfl)) (by first | exact .pt _ _ | exact .v _ | exact .cp _) rfl ?_
      exact awl_nil ⟨rfl, rl, ml, _, rfl, h0, h2, h4, h11, f0, f1, f2, f3, f4, f5, f6, (fun h => rfl), f8, f9, f10, f11, f12, f13, f14, f15, f16, f17, f18, f19, f20, f21, f22, f23, f24, f25, f26, p15, p25⟩⟩⟩
    , ⟨_, rfl, fun B S hBi hdep hcl => by
      rintro ⟨rl, ml, sl, rfl, h0, h2, h4, h11, f0, f1, f2, f3, f4, f5, f6, f7, f8, f9, f10, f11, f12, f13, f14, f15, f16, f17, f18, f19, f20, f21, f22, f23, f24, f25, f26, p15, p25⟩
      refine r_fieldpt (f7 (hdep 7 rfl)) TF.f82_2 TF.sz80 rfl ?_
      exact awl_nil ⟨rfl, rl, ml, _, rfl, h0, h2, h4, h11, f0, f1, f2, f3, f4, f5, f6, f7, (fun h => rfl), f9, f10, f11, f12, f13, f14, f15, f16, f17, f18, f19, f20, f21, f22, f23, f24, f25, f26, p15, p25⟩⟩⟩
    , ⟨_, rfl, fun B S hBi hdep hcl => by
      rintro ⟨rl, ml, sl, rfl, h0, h2, h4, h11, f0, f1, f2, f3, f4, f5, f6, f7, f8, f9, f10, f11, f12, f13, f14, f15, f16, f17, f18, f19, f20, f21, f22, f23, f24, f25, f26, p15, p25⟩
      refine r_load1 (f8 (hdep 8 rfl)) TF.agg80 rfl ?_
      exact awl_nil ⟨rfl, rl, ml, _, rfl, h0, h2, h4, h11, f0, f1, f2, f3, f4, f5, f6, f7, f8, (fun h => rfl), f10, f11, f12, f13, f14, f15, f16, f17, f18, f19, f20, f21, f22, f23, f24, f25, f26, p15, p25⟩⟩⟩
    , ⟨_, rfl, fun B S hBi hdep hcl => by
      rintro ⟨rl, ml, sl, rfl, h0, h2, h4, h11, f0, f1, f2, f3, f4, f5, f6, f7, f8, f9, f10, f11, f12, f13, f14, f15, f16, f17, f18, f19, f20, f21, f22, f23, f24, f25, f26, p15, p25⟩
      refine r_move h11 rfl ?_
      exact awl_nil ⟨rfl, rl, ml, _, rfl, h0, h2, h4, h11, f0, f1, f2, f3, f4, f5, f6, f7, f8, f9, (fun h => rfl), f11, f12, f13, f14, f15, f16, f17, f18, f19, f20, f21, f22, f23, f24, f25, f26, p15, p25⟩⟩⟩
    , ⟨_, rfl, fun B S hBi hdep hcl => by
      rintro ⟨rl, ml, sl, rfl, h0, h2, h4, h11, f0, f1, f2, f3, f4, f5, f6, f7, f8, f9, f10, f11, f12, f13, f14, f15, f16, f17, f18, f19, f20, f21, f22, f23, f24, f25, f26, p15, p25⟩
      refine r_index (f9 (hdep 9 rfl)) rfl (f10 (hdep 10 rfl)) TF.sl80 TF.sz36 (by omega) (get_map (get_map hkid)) rfl ?_
      exact awl_nil ⟨rfl, rl, ml, _, rfl, h0, h2, h4, h11, f0, f1, f2, f3, f4, f5, f6, f7, f8, f9, f10, (fun h => rfl), f12, f13, f14, f15, f16, f17, f18, f19, f20, f21, f22, f23, f24, f25, f26, p15, p25⟩⟩⟩
    , ⟨_, rfl, fun B S hBi hdep hcl => by
      rintro ⟨rl, ml, sl, rfl, h0, h2, h4, h11, f0, f1, f2, f3, f4, f5, f6, f7, f8, f9, f10, f11, f12, f13, f14, f15, f16, f17, f18, f19, f20, f21, f22, f23, f24, f25, f26, p15, p25⟩
      refine r_load1 (f11 (hdep 11 rfl)) TF.agg36 rfl ?_
      exact awl_nil ⟨rfl, rl, ml, _, rfl, h0, h2, h4, h11, f0, f1, f2, f3, f4, f5, f6, f7, f8, f9, f10, f11, (fun h => rfl), f13, f14, f15, f16, f17, f18, f19, f20, f21, f22, f23, f24, f25, f26, p15, p25⟩⟩⟩
    , ⟨_, rfl, fun B S hBi hdep hcl => by
      rintro ⟨rl, ml, sl, rfl, h0, h2, h4, h11, f0, f1, f2, f3, f4, f5, f6, f7, f8, f9, f10, f11, f12, f13, f14, f15, f16, f17, f18, f19, f20, f21, f22, f23, f24, f25, f26, p15, p25⟩
      refine r_loadAb 0 h4 rfl TF.agg47 TF.sz47 rfl rfl ?_
      exact awl_nil ⟨rfl, rl, ml, _, rfl, h0, h2, h4, h11, f0, f1, f2, f3, f4, f5, f6, f7, f8, f9, f10, f11, f12, (fun h => rfl), f14, f15, f16, f17, f18, f19, f20, f21, f22, f23, f24, f25, f26, p15, p25⟩⟩⟩
    , ⟨_, rfl, fun B S hBi hdep hcl => by
      rintro ⟨rl, ml, sl, rfl, h0, h2, h4, h11, f0, f1, f2, f3, f4, f5, f6, f7, f8, f9, f10, f11, f12, f13, f14, f15, f16, f17, f18, f19, f20, f21, f22, f23, f24, f25, f26, p15, p25⟩
      refine r_move h2 rfl ?_
      exact awl_nil ⟨rfl, rl, ml, _, rfl, h0, h2, h4, h11, f0, f1, f2, f3, f4, f5, f6, f7, f8, f9, f10, f11, f12, f13, (fun h => rfl), f15, f16, f17, f18, f19, f20, f21, f22, f23, f24, f25, f26, p15, p25⟩⟩⟩
    , ⟨_, rfl, fun B S hBi hdep hcl => by
      rintro ⟨rl, ml, sl, rfl, h0, h2, h4, h11, f0, f1, f2, f3, f4, f5, f6, f7, f8, f9, f10, f11, f12, f13, f14, f15, f16, f17, f18, f19, f20, f21, f22, f23, f24, f25, f26, p15, p25⟩
      refine r_call0 hq rfl rfl (.cons (.ev (f12 (hdep 12 rfl)) rfl) (.cons (.ev (f13 (hdep 13 rfl)) rfl) (.cons (.ev (f14 (hdep 14 rfl)) rfl) .nil))) (ih kid (hkw.mono (by omega)) k v) rfl TF.en44 rfl (fun r hr => ?_)
      obtain ⟨rq, hrq, rfl⟩ := hr
      exact awl_nil ⟨rfl, rq, ml, _, rfl, h0, h2, h4, h11, f0, f1, f2, f3, f4, f5, f6, f7, f8, f9, f10, f11, f12, f13, f14, (fun h => rfl), f16, f17, f18, f19, f20, f21, f22, (fun h => absurd (hcl 23 15 h rfl) (by rw [hBi]; decide)), (fun h => absurd (hcl 24 15 h rfl) (by rw [hBi]; decide)), f25, f26, (fun _ => hrq), (fun h => absurd (hcl 24 15 (hcl 25 24 h rfl) rfl) (by rw [hBi]; decide))⟩⟩⟩
    , ⟨_, rfl, fun B S hBi hdep hcl => by
      rintro ⟨rl, ml, sl, rfl, h0, h2, h4, h11, f0, f1, f2, f3, f4, f5, f6, f7, f8, f9, f10, f11, f12, f13, f14, f15, f16, f17, f18, f19, f20, f21, f22, f23, f24, f25, f26, p15, p25⟩
      refine r_move h0 rfl ?_
      exact awl_nil ⟨rfl, rl, ml, _, rfl, h0, h2, h4, h11, f0, f1, f2, f3, f4, f5, f6, f7, f8, f9, f10, f11, f12, f13, f14, f15, (fun h => rfl), f17, f18, f19, f20, f21, f22, f23, f24, f25, f26, p15, p25⟩⟩⟩
    , ⟨_, rfl, fun B S hBi hdep hcl => by
      rintro ⟨rl, ml, sl, rfl, h0, h2, h4, h11, f0, f1, f2, f3, f4, f5, f6, f7, f8, f9, f10, f11, f12, f13, f14, f15, f16, f17, f18, f19, f20, f21, f22, f23, f24, f25, f26, p15, p25⟩
      refine r_nilCheck (f16 (hdep 16 rfl)) (by first | exact .pt _ _ | exact .v _ | exact .cp _) rfl ?_
      exact awl_nil ⟨rfl, rl, ml, _, rfl, h0, h2, h4, h11, f0, f1, f2, f3, f4, f5, f6, f7, f8, f9, f10, f11, f12, f13, f14, f15, f16, (fun h => rfl), f18, f19, f20, f21, f22, f23, f24, f25, f26, p15, p25⟩⟩⟩
    , ⟨_, rfl, fun B S hBi hdep hcl => by
      rintro ⟨rl, ml, sl, rfl, h0, h2, h4, h11, f0, f1, f2, f3, f4, f5, f6, f7, f8, f9, f10, f11, f12, f13, f14, f15, f16, f17, f18, f19, f20, f21, f22, f23, f24, f25, f26, p15, p25⟩
      refine r_fieldpt (f17 (hdep 17 rfl)) TF.f82_2 TF.sz80 rfl ?_
      exact awl_nil ⟨rfl, rl, ml, _, rfl, h0, h2, h4, h11, f0, f1, f2, f3, f4, f5, f6, f7, f8, f9, f10, f11, f12, f13, f14, f15, f16, f17, (fun h => rfl), f19, f20, f21, f22, f23, f24, f25, f26, p15, p25⟩⟩⟩
    , ⟨_, rfl, fun B S hBi hdep hcl => by
      rintro ⟨rl, ml, sl, rfl, h0, h2, h4, h11, f0, f1, f2, f3, f4, f5, f6, f7, f8, f9, f10, f11, f12, f13, f14, f15, f16, f17, f18, f19, f20, f21, f22, f23, f24, f25, f26, p15, p25⟩
      refine r_load1 (f18 (hdep 18 rfl)) TF.agg80 rfl ?_
      exact awl_nil ⟨rfl, rl, ml, _, rfl, h0, h2, h4, h11, f0, f1, f2, f3, f4, f5, f6, f7, f8, f9, f10, f11, f12, f13, f14, f15, f16, f17, f18, (fun h => rfl), f20, f21, f22, f23, f24, f25, f26, p15, p25⟩⟩⟩
    , ⟨_, rfl, fun B S hBi hdep hcl => by
      rintro ⟨rl, ml, sl, rfl, h0, h2, h4, h11, f0, f1, f2, f3, f4, f5, f6, f7, f8, f9, f10, f11, f12, f13, f14, f15, f16, f17, f18, f19, f20, f21, f22, f23, f24, f25, f26, p15, p25⟩
      refine r_move h11 rfl ?_
      exact awl_nil ⟨rfl, rl, ml, _, rfl, h0, h2, h4, h11, f0, f1, f2, f3, f4, f5, f6, f7, f8, f9, f10, f11, f12, f13, f14, f15, f16, f17, f18, f19, (fun h => rfl), f21, f22, f23, f24, f25, f26, p15, p25⟩⟩⟩
    , ⟨_, rfl, fun B S hBi hdep hcl => by
      rintro ⟨rl, ml, sl, rfl, h0, h2, h4, h11, f0, f1, f2, f3, f4, f5, f6, f7, f8, f9, f10, f11, f12, f13, f14, f15, f16, f17, f18, f19, f20, f21, f22, f23, f24, f25, f26, p15, p25⟩
      refine r_ari ((i + 1 : Nat) : Int) (f20 (hdep 20 rfl)) rfl rfl (wrap_id (by omega)) rfl ?_
      exact awl_nil ⟨rfl, rl, ml, _, rfl, h0, h2, h4, h11, f0, f1, f2, f3, f4, f5, f6, f7, f8, f9, f10, f11, f12, f13, f14, f15, f16, f17, f18, f19, f20, (fun h => rfl), f22, f23, f24, f25, f26, p15, p25⟩⟩⟩
    , ⟨_, rfl, fun B S hBi hdep hcl => by
      rintro ⟨rl, ml, sl, rfl, h0, h2, h4, h11, f0, f1, f2, f3, f4, f5, f6, f7, f8, f9, f10, f11, f12, f13, f14, f15, f16, f17, f18, f19, f20, f21, f22, f23, f24, f25, f26, p15, p25⟩
      refine r_sliceL (f19 (hdep 19 rfl)) rfl (f21 (hdep 21 rfl)) TF.sl80 TF.sz36 (by omega) (by simp; omega) rfl ?_
      exact awl_nil ⟨rfl, rl, ml, _, rfl, h0, h2, h4, h11, f0, f1, f2, f3, f4, f5, f6, f7, f8, f9, f10, f11, f12, f13, f14, f15, f16, f17, f18, f19, f20, f21, (fun h => rfl), f23, f24, f25, f26, p15, p25⟩⟩⟩
    , ⟨_, rfl, fun B S hBi hdep hcl => by
      rintro ⟨rl, ml, sl, rfl, h0, h2, h4, h11, f0, f1, f2, f3, f4, f5, f6, f7, f8, f9, f10, f11, f12, f13, f14, f15, f16, f17, f18, f19, f20, f21, f22, f23, f24, f25, f26, p15, p25⟩
      refine r_litC (parts := [(0, .tmp 63), (1, .tmp 73), (2, .tmp 80)]) rfl TF.sl150 TF.sz80 TF.zraw80 rfl rfl rfl (parts_cons (f5 (hdep 5 rfl)) (parts_cons (f15 (hdep 15 rfl)) (parts_cons (f22 (hdep 22 rfl)) parts_nil))) rfl rfl rfl rfl ?_
      exact awl_nil ⟨rfl, rl, ml, _, rfl, h0, h2, h4, h11, f0, f1, f2, f3, f4, f5, f6, f7, f8, f9, f10, f11, f12, f13, f14, f15, f16, f17, f18, f19, f20, f21, f22, (fun h => rfl), f24, f25, f26, p15, p25⟩⟩⟩
    , ⟨_, rfl, fun B S hBi hdep hcl => by
      rintro ⟨rl, ml, sl, rfl, h0, h2, h4, h11, f0, f1, f2, f3, f4, f5, f6, f7, f8, f9, f10, f11, f12, f13, f14, f15, f16, f17, f18, f19, f20, f21, f22, f23, f24, f25, f26, p15, p25⟩
      have hpr := putR_wf h (Nat.le_succ 1) (Nat.le_refl 2) hkw (p15 (hdep 15 rfl))
      have hfl := three_eq l rl i
      have hln := three_len hil hpr.2.1 hpr.2.2.1 hl4
      refine r_call0 hq rfl rfl (.cons (.ev (f23 (hdep 23 rfl)) rfl) .nil) (concatN_ok [((l.map (enc h)).map fun x => [x]).take i, rl.map fun x => [enc h x], ((l.map (enc h)).map fun x => [x]).drop (i + 1)] (encs_ok hfl).1 (encs_ok hfl).2 (by rw [hfl, List.length_map]; exact hln.1) (by rw [hfl, List.length_map]; omega) (by simp)) rfl TF.en63 rfl (fun r hr => ?_)
      obtain rfl := hr
      exact awl_nil ⟨rfl, rl, ml, _, rfl, h0, h2, h4, h11, f0, f1, f2, f3, f4, f5, f6, f7, f8, f9, f10, f11, f12, f13, f14, f15, f16, f17, f18, f19, f20, f21, f22, f23, (fun h => rfl), f25, f26, p15, p25⟩⟩⟩
    , ⟨_, rfl, fun B S hBi hdep hcl => by
      rintro ⟨rl, ml, sl, rfl, h0, h2, h4, h11, f0, f1, f2, f3, f4, f5, f6, f7, f8, f9, f10, f11, f12, f13, f14, f15, f16, f17, f18, f19, f20, f21, f22, f23, f24, f25, f26, p15, p25⟩
      have hpr := putR_wf h (Nat.le_succ 1) (Nat.le_refl 2) hkw (p15 (hcl 24 15 (hdep 24 rfl) rfl))
      have hfl := three_eq l rl i
      have hln := three_len hil hpr.2.1 hpr.2.2.1 hl4
      refine r_call0 hq rfl rfl (.cons (.ev (f24 (hdep 24 rfl)) rfl) .nil) (kidHalves_ok h (l.take i ++ rl ++ l.drop (i + 1)) (fun n hn => (three_mem hw hpr.1 n hn).mono (by omega)) hln.1 (by omega) _ hfl) rfl TF.en62 rfl (fun r hr => ?_)
      obtain ⟨mq, hmq, rfl⟩ := hr
      exact awl_nil ⟨rfl, rl, mq, _, rfl, h0, h2, h4, h11, f0, f1, f2, f3, f4, f5, f6, f7, f8, f9, f10, f11, f12, f13, f14, f15, f16, f17, f18, f19, f20, f21, f22, f23, f24, (fun h => rfl), (fun h => absurd (hcl 26 25 h rfl) (by rw [hBi]; decide)), p15, (fun _ => hmq)⟩⟩⟩
    , ⟨_, rfl, fun B S hBi hdep hcl => by
      rintro ⟨rl, ml, sl, rfl, h0, h2, h4, h11, f0, f1, f2, f3, f4, f5, f6, f7, f8, f9, f10, f11, f12, f13, f14, f15, f16, f17, f18, f19, f20, f21, f22, f23, f24, f25, f26, p15, p25⟩
      refine r_assign (f25 (hdep 25 rfl)) rfl ?_
      exact awl_nil ⟨rfl, rl, ml, _, rfl, h0, h2, h4, h11, f0, f1, f2, f3, f4, f5, f6, f7, f8, f9, f10, f11, f12, f13, f14, f15, f16, f17, f18, f19, f20, f21, f22, f23, f24, f25, (fun h => rfl), p15, p25⟩⟩⟩
    (fun B S hall => by
     rintro ⟨rl, ml, sl, rfl, h0, h2, h4, h11, f0, f1, f2, f3, f4, f5, f6, f7, f8, f9, f10, f11, f12, f13, f14, f15, f16, f17, f18, f19, f20, f21, f22, f23, f24, f25, f26, p15, p25⟩
     have hp15 := p15 (hall 15 (by decide))
     have hp25 := p25 (hall 25 (by decide))
     refine x_then ?_
     refine awp_weaken (S' := ⟨84, [(0, .a (.pt b [.sl 4 ((kksOf h l).map Sp.cs), .sl 1 (([] : List Int).map u64c), .sl 1 ((l.map (enc h)).map fun x => [x])])), (2, .a (.v (.int .u64 (v)))), (4, .a (.v (.pointer (some ⟨b4, 0, none⟩)))), (11, .a (.v (.int .i64 ((i : Nat))))), (6, .a (.sl 1 (ml.map fun x => [enc (h + 1) x])))], []⟩) ⟨rfl, (Slots.cons h0 (.refl _) (Slots.cons h2 (.refl _) (Slots.cons h4 (.refl _) (Slots.cons h11 (.refl _) (Slots.cons (f26 (hall 26 (by decide))) (.refl _) Slots.nil))))), (List.nil_sublist _)⟩ ?_
     refine awp_ret ?_
     exact ⟨(.inl rfl), _, [], (.one (by first | exact .mk rfl rfl | exact .nil rfl)), ⟨rfl, ml, ⟨kid, rl, by rw [← hi]; exact hkid, hp15, by rw [← hi]; exact hp25⟩, rfl⟩, (List.nil_sublist _), (by simp)⟩)
theorem put_ok : ∀ (h : Nat) (n : Nd h), wfC 1 h n.2 → ∀ (k : Sp) (v : Int), AC Try.prog 44 [enc h n, spA k, .v (.int .u64 v)] [] (fun r nb => nb = [] ∧ ∃ l, PutR h n k v l ∧ r = .sl 1 (l.map fun x => [enc h x]))
  | 0, n, hw, k, v => put_leaf n.1 (itsOf n) hw.1 hw.2 k v
  | h + 1, n, hw, k, v => put_inner h (put_ok h) n.1 (kdsOf n) (Nat.lt_of_lt_of_le Nat.zero_lt_one hw.1) hw.2.1 hw.2.2 k v
end Go.Proofs.Ytljgdbgcleibjaa.A
namespace Go.Proofs.Ytljgdbgcleibjaa.A
open Go Go.RowKit
set_option linter.unusedVariables false
set_option linter.unusedSimpArgs false
set_option maxRecDepth 100000
theorem TF.un4 : Try.prog.underlying 4 = some .bool := by kernel_rfl
theorem TF.zraw78 : zeroT Try.prog 78 = some [(.slice none 0 0)] := by kernel_rfl
theorem TF.en100 : entersT Try.prog 100 := enters_of Try.func100 (by kernel_rfl) (by kernel_rfl)
theorem TF.zraw79 : zeroT Try.prog 79 = some [(.slice none 0 0)] := by kernel_rfl
theorem TF.en101 : entersT Try.prog 101 := enters_of Try.func101 (by kernel_rfl) (by kernel_rfl)
theorem TF.en77 : entersT Try.prog 77 := enters_of Try.func77 (by kernel_rfl) (by kernel_rfl)
theorem TF.en78 : entersT Try.prog 78 := enters_of Try.func78 (by kernel_rfl) (by kernel_rfl)
theorem TF.en54 : entersT Try.prog 54 := enters_of Try.func54 (by kernel_rfl) (by kernel_rfl)
theorem TF.en79 : entersT Try.prog 79 := enters_of Try.func79 (by kernel_rfl) (by kernel_rfl)
theorem TF.en80 : entersT Try.prog 80 := enters_of Try.func80 (by kernel_rfl) (by kernel_rfl)
theorem TF.en81 : entersT Try.prog 81 := enters_of Try.func81 (by kernel_rfl) (by kernel_rfl)
theorem join_leaf (b c : Nat) (its jts : List (Sp × Int)) (hw1 : 1 ≤ its.length) (hw4 : its.length ≤ 4) (hv1 : 1 ≤ jts.length) (hv4 : jts.length ≤ 4) : AC Try.prog 81 [ndA b (its.map fun p : Sp × Int => p.1) (its.map fun p : Sp × Int => p.2) [], ndA c (jts.map fun p : Sp × Int => p.1) (jts.map fun p : Sp × Int => p.2) []] [] (fun r n => n = [] ∧ ∃ l : List (Nd 0), l.map itsOf = halvesG (its ++ jts) ∧ r = .sl 1 (l.map fun x => [enc 0 x])) := by
 refine ac_of_awp (rs := [4]) (nt := 57) Try.func81 rfl rfl rfl rfl (fun w0 C0 hq => ?_)
 unfold ndA
 obtain ⟨hz4a, ho4a⟩ := its_one (its.map fun p : Sp × Int => p.1)
 obtain ⟨hz1a, ho1a⟩ := vls_one (its.map fun p : Sp × Int => p.2)
 have hkna : (its.map fun p : Sp × Int => p.1) ≠ [] := by intro e; have := congrArg List.length e; simp at this; rw [this] at hw1; simp at hw1
 have hvla := flat_len hz1a
 rw [List.length_map] at hvla
 obtain ⟨hz4b, ho4b⟩ := its_one (jts.map fun p : Sp × Int => p.1)
 obtain ⟨hz1b, ho1b⟩ := vls_one (jts.map fun p : Sp × Int => p.2)
 have hknb : (jts.map fun p : Sp × Int => p.1) ≠ [] := by intro e; have := congrArg List.length e; simp at this; rw [this] at hv1; simp at hv1
 have hvlb := flat_len hz1b
 rw [List.length_map] at hvlb
 refine awp_seq ?_
 refine awp_region ?_
 refine r_assign rfl rfl ?_
 refine awl_nil ?_
 refine x_then ?_
 refine awp_seq ?_
 refine awp_seq ?_
 refine awp_region ?_
 refine r_move rfl rfl ?_
 refine r_pnil rfl (by first | exact .pt _ _ | exact .nil | exact .v _ | exact .cp _) TF.un36 rfl ?_
 refine r_move rfl rfl ?_
 refine g_run rfl rfl rfl ?_
 refine r_move rfl rfl ?_
 refine g_run rfl rfl rfl ?_
 refine r_pnil rfl (by first | exact .pt _ _ | exact .nil | exact .v _ | exact .cp _) TF.un36 rfl ?_
 refine r_pickF rfl rfl rfl rfl ?_
 refine r_move rfl rfl ?_
 refine g_run rfl rfl rfl ?_
 refine r_move rfl rfl ?_
 refine g_run rfl rfl rfl ?_
 refine r_call0 hq rfl rfl (.cons (.ev rfl rfl) .nil) (leaf_ok b (its.map fun p : Sp × Int => p.1) (its.map fun p : Sp × Int => p.2) []) rfl TF.en46 rfl (fun r hr => ?_)
 obtain rfl := hr
 refine g_run rfl rfl rfl ?_
 refine r_move rfl rfl ?_
 refine g_run rfl rfl rfl ?_
 refine r_call0 hq rfl rfl (.cons (.ev rfl rfl) .nil) (leaf_ok c (jts.map fun p : Sp × Int => p.1) (jts.map fun p : Sp × Int => p.2) []) rfl TF.en46 rfl (fun r hr => ?_)
 obtain rfl := hr
 refine g_run rfl rfl rfl ?_
 refine r_bne rfl rfl TF.un4 rfl ?_
 refine r_pickF rfl rfl rfl rfl ?_
 refine awl_nil ?_
 refine x_then ?_
 refine awp_cond rfl (fun hc0 => ?_) (fun hc0 => ?_)
 ·
  exfalso; simp at hc0
 ·
  refine awp_skip ?_
  refine x_then ?_
  refine awp_seq ?_
  refine awp_seq ?_
  refine awp_region ?_
  refine r_move rfl rfl ?_
  refine r_call0 hq rfl rfl (.cons (.ev rfl rfl) .nil) (leaf_ok b (its.map fun p : Sp × Int => p.1) (its.map fun p : Sp × Int => p.2) []) rfl TF.en46 rfl (fun r hr => ?_)
  obtain rfl := hr
  refine awl_nil ?_
  refine x_then ?_
  refine awp_cond rfl (fun hc1 => ?_) (fun hc1 => ?_)
  ·
   skip
   refine awp_seq ?_
   refine awp_region ?_
   refine r_move rfl rfl ?_
   refine r_callO hq rfl rfl (.cons (.ev rfl rfl) .nil) (leafs_ok b (its.map fun p : Sp × Int => p.1) (its.map fun p : Sp × Int => p.2) [] hkna (by simp; omega) (by simp)) rfl TF.en57 (by first | exact List.Sublist.refl _ | exact .cons_cons _ (.cons _ (.refl _)) | exact List.nil_sublist _ | exact .cons _ (.refl _) | exact .cons _ (.cons _ (.refl _)) | exact .cons _ (.cons _ (.cons _ (.refl _))) | exact .cons _ (.cons _ (.cons _ (.cons _ (.refl _)))) | exact .cons_cons _ (List.nil_sublist _)) rfl (fun r nobjs hr => ?_)
   obtain ⟨g1, cap, ext, g2, rfl, rfl, hq1, hq2⟩ := hr
   refine r_move rfl rfl ?_
   refine r_extract rfl rfl rfl ?_
   refine r_extract rfl rfl rfl ?_
   refine r_assign rfl rfl ?_
   refine r_assign rfl rfl ?_
   refine awl_nil ?_
   refine x_then ?_
   refine awp_seq ?_
   refine awp_region ?_
   refine r_move rfl rfl ?_
   refine r_callO hq rfl rfl (.cons (.ev rfl rfl) .nil) (leafs_ok c (jts.map fun p : Sp × Int => p.1) (jts.map fun p : Sp × Int => p.2) [] hknb (by simp; omega) (by simp)) rfl TF.en57 (by first | exact List.Sublist.refl _ | exact .cons_cons _ (.cons _ (.refl _)) | exact List.nil_sublist _ | exact .cons _ (.refl _) | exact .cons _ (.cons _ (.refl _)) | exact .cons _ (.cons _ (.cons _ (.refl _))) | exact .cons _ (.cons _ (.cons _ (.cons _ (.refl _)))) | exact .cons_cons _ (List.nil_sublist _)) rfl (fun r nobjs hr => ?_)
   obtain ⟨g3, cap', ext', g4, rfl, rfl, hq3, hq4⟩ := hr
   refine r_move rfl rfl ?_
   refine r_extract rfl rfl rfl ?_
   refine r_extract rfl rfl rfl ?_
   refine r_assign rfl rfl ?_
   refine r_assign rfl rfl ?_
   refine awl_nil ?_
   refine x_then ?_
   refine awp_seq ?_
   refine awp_region ?_
   refine awl_imp (imp_commitS 0 8 (sz := 1) (l := (jts.map fun p : Sp × Int => p.2).map u64c) (ext := []) rfl rfl rfl (by simp) (Nat.le_refl _) hz1b (by rw [List.append_nil, hvlb]; simp) ho1b) ?_
   refine awl_imp (imp_commitS 0 7 (sz := 4) (l := (jts.map fun p : Sp × Int => p.1).map Sp.cs) (ext := ext') rfl rfl rfl (by simp) (by simpa using hq3) hz4b hq4 ho4b) ?_
   refine awl_imp (imp_commitS 0 6 (sz := 1) (l := (its.map fun p : Sp × Int => p.2).map u64c) (ext := []) rfl rfl rfl (by simp) (Nat.le_refl _) hz1a (by rw [List.append_nil, hvla]; simp) ho1a) ?_
   refine awl_imp (imp_commitS 0 5 (sz := 4) (l := (its.map fun p : Sp × Int => p.1).map Sp.cs) (ext := ext) rfl rfl rfl (by simp) (by simpa using hq1) hz4a hq2 ho4a) ?_
   refine r_move rfl rfl ?_
   refine r_move rfl rfl ?_
   refine r_lit 39 (parts := [(0, .tmp 37), (1, .tmp 38)]) rfl TF.sl168 TF.sz78 TF.zraw78 rfl rfl rfl rfl rfl rfl rfl ?_
   refine r_call0 hq rfl rfl (.cons (.ev rfl rfl) .nil) (concatS_ok [(its.map fun p : Sp × Int => p.1).map Sp.cs, (jts.map fun p : Sp × Int => p.1).map Sp.cs] (by intro l hl; simp only [List.mem_cons, List.not_mem_nil, or_false] at hl; rcases hl with rfl | rfl; exact hz4a; exact hz4b) (by intro l hl; simp only [List.mem_cons, List.not_mem_nil, or_false] at hl; rcases hl with rfl | rfl; exact ho4a; exact ho4b) (by simp; omega) (by simp; omega) (by simp)) rfl TF.en100 rfl (fun r hr => ?_)
   obtain rfl := hr
   refine r_move rfl rfl ?_
   refine r_move rfl rfl ?_
   refine r_lit 43 (parts := [(0, .tmp 41), (1, .tmp 42)]) rfl TF.sl170 TF.sz79 TF.zraw79 rfl rfl rfl rfl rfl rfl rfl ?_
   refine r_call0 hq rfl rfl (.cons (.ev rfl rfl) .nil) (concatU_ok [(its.map fun p : Sp × Int => p.2).map u64c, (jts.map fun p : Sp × Int => p.2).map u64c] (by intro l hl; simp only [List.mem_cons, List.not_mem_nil, or_false] at hl; rcases hl with rfl | rfl; exact hz1a; exact hz1b) (by intro l hl; simp only [List.mem_cons, List.not_mem_nil, or_false] at hl; rcases hl with rfl | rfl; exact ho1a; exact ho1b) (by simp; omega) (by simp; omega) (by simp)) rfl TF.en101 rfl (fun r hr => ?_)
   obtain rfl := hr
   refine r_call0 hq rfl rfl (.cons (.ev rfl rfl) (.cons (.ev rfl rfl) .nil)) (halves_ok (its ++ jts) (by simp; omega) _ _ (by simp) (by simp)) rfl TF.en58 rfl (fun r hr => ?_)
   obtain ⟨l, hl1, rfl⟩ := hr
   refine r_assign rfl rfl ?_
   refine awl_nil ?_
   refine x_then ?_
   refine awp_ret ?_
   refine x_thenR ?_
   exact ⟨(.inl rfl), _, [], (.one (by first | exact .mk rfl rfl | exact .nil rfl)), ⟨rfl, l, hl1, rfl⟩, (List.nil_sublist _), (by simp)⟩
  ·
   exfalso; cases hc1
theorem join_inner (h : Nat) (b c : Nat) (l m : List (Nd h)) (hw1 : 0 < l.length) (hw4 : l.length ≤ 4) (hv1 : 0 < m.length) (hv4 : m.length ≤ 4) (hw : ∀ n ∈ l ++ m, wfC 1 h n.2) : AC Try.prog 81 [ndA b (kksOf h l) [] (l.map (enc h)), ndA c (kksOf h m) [] (m.map (enc h))] [] (fun r n => n = [] ∧ ∃ x : List (Nd (h + 1)), x.map kdsOf = halvesG (l ++ m) ∧ r = .sl 1 (x.map fun x => [enc (h + 1) x])) := by
 refine ac_of_awp (rs := [4]) (nt := 57) Try.func81 rfl rfl rfl rfl (fun w0 C0 hq => ?_)
 unfold ndA
 have hempa : (l.map (enc h)).isEmpty = false := by cases l with | nil => simp at hw1 | cons => rfl
 have hempb : (m.map (enc h)).isEmpty = false := by cases m with | nil => simp at hv1 | cons => rfl
 have hfl : [((l.map (enc h)).map fun x => [x]), ((m.map (enc h)).map fun x => [x])].flatten = (l ++ m).map fun n => [enc h n] := by simp; rfl
 refine awp_seq ?_
 refine awp_region ?_
 refine r_assign rfl rfl ?_
 refine awl_nil ?_
 refine x_then ?_
 refine awp_seq ?_
 refine awp_seq ?_
 refine awp_region ?_
 refine r_move rfl rfl ?_
 refine r_pnil rfl (by first | exact .pt _ _ | exact .nil | exact .v _ | exact .cp _) TF.un36 rfl ?_
 refine r_move rfl rfl ?_
 refine g_run rfl rfl rfl ?_
 refine r_move rfl rfl ?_
 refine g_run rfl rfl rfl ?_
 refine r_pnil rfl (by first | exact .pt _ _ | exact .nil | exact .v _ | exact .cp _) TF.un36 rfl ?_
 refine r_pickF rfl rfl rfl rfl ?_
 refine r_move rfl rfl ?_
 refine g_run rfl rfl rfl ?_
 refine r_move rfl rfl ?_
 refine g_run rfl rfl rfl ?_
 refine r_call0 hq rfl rfl (.cons (.ev rfl rfl) .nil) (leaf_ok b (kksOf h l) [] (l.map (enc h))) rfl TF.en46 rfl (fun r hr => ?_)
 obtain rfl := hr
 refine g_run rfl rfl rfl ?_
 refine r_move rfl rfl ?_
 refine g_run rfl rfl rfl ?_
 refine r_call0 hq rfl rfl (.cons (.ev rfl rfl) .nil) (leaf_ok c (kksOf h m) [] (m.map (enc h))) rfl TF.en46 rfl (fun r hr => ?_)
 obtain rfl := hr
 refine g_run rfl rfl rfl ?_
 refine r_bne rfl rfl TF.un4 rfl ?_
 refine r_pickF rfl rfl rfl rfl ?_
 refine awl_nil ?_
 refine x_then ?_
 refine awp_cond rfl (fun hc0 => ?_) (fun hc0 => ?_)
 ·
  exfalso; rw [hempa, hempb] at hc0; simp at hc0
 ·
  refine awp_skip ?_
  refine x_then ?_
  refine awp_seq ?_
  refine awp_seq ?_
  refine awp_region ?_
  refine r_move rfl rfl ?_
  refine r_call0 hq rfl rfl (.cons (.ev rfl rfl) .nil) (leaf_ok b (kksOf h l) [] (l.map (enc h))) rfl TF.en46 rfl (fun r hr => ?_)
  obtain rfl := hr
  refine awl_nil ?_
  refine x_then ?_
  refine awp_cond rfl (fun hc1 => ?_) (fun hc1 => ?_)
  ·
   exfalso; rw [hempa] at hc1; cases hc1
  ·
   refine awp_skip ?_
   refine x_then ?_
   refine awp_seq ?_
   refine awp_any (fun B S => ∃ ml : List (Nd (h + 1)), ∃ sl : List (Nat × SV), S = ⟨57, sl, []⟩ ∧ find 0 sl = some (.a (.pt b [.sl 4 ((kksOf h l).map Sp.cs), .sl 1 (([] : List Int).map u64c), .sl 1 ((l.map (enc h)).map fun x => [x])])) ∧ find 1 sl = some (.a (.pt c [.sl 4 ((kksOf h m).map Sp.cs), .sl 1 (([] : List Int).map u64c), .sl 1 ((m.map (enc h)).map fun x => [x])])) ∧ (B 0 = true → find 46 sl = some (.a (.pt b [.sl 4 ((kksOf h l).map Sp.cs), .sl 1 (([] : List Int).map u64c), .sl 1 ((l.map (enc h)).map fun x => [x])]))) ∧ (B 1 = true → find 47 sl = some (.a (.pt b [.sl 4 ((kksOf h l).map Sp.cs), .sl 1 (([] : List Int).map u64c), .sl 1 ((l.map (enc h)).map fun x => [x])]))) ∧ (B 2 = true → find 48 sl = some (.a (.cp [.sl 1 ((l.map (enc h)).map fun x => [x])]))) ∧ (B 3 = true → find 49 sl = some (.a (.sl 1 ((l.map (enc h)).map fun x => [x])))) ∧ (B 4 = true → find 50 sl = some (.a (.pt c [.sl 4 ((kksOf h m).map Sp.cs), .sl 1 (([] : List Int).map u64c), .sl 1 ((m.map (enc h)).map fun x => [x])]))) ∧ (B 5 = true → find 51 sl = some (.a (.pt c [.sl 4 ((kksOf h m).map Sp.cs), .sl 1 (([] : List Int).map u64c), .sl 1 ((m.map (enc h)).map fun x => [x])]))) ∧ (B 6 = true → find 52 sl = some (.a (.cp [.sl 1 ((m.map (enc h)).map fun x => [x])]))) ∧ (B 7 = true → find 53 sl = some (.a (.sl 1 ((m.map (enc h)).map fun x => [x])))) ∧ (B 8 = true → find 54 sl = some (.a (.sl 1 ([((l.map (enc h)).map fun x => [x]), ((m.map (enc h)).map fun x => [x])].map fun x => [.sl 1 x])))) ∧ (B 9 = true → find 55 sl = some (.a (.sl 1 ([((l.map (enc h)).map fun x => [x]), ((m.map (enc h)).map fun x => [x])].flatten)))) ∧ (B 10 = true → find 56 sl = some (.a (.sl 1 (ml.map fun x => [enc (h + 1) x])))) ∧ (B 11 = true → find 4 sl = some (.a (.sl 1 (ml.map fun x => [enc (h + 1) x])))) ∧ (B 10 = true → ml.map kdsOf = halvesG (l ++ m))) TF.mixed rfl ⟨[], _, rfl, rfl, rfl, (fun h => by cases h), (fun h => by cases h), (fun h => by cases h), (fun h => by cases h), (fun h => by cases h), (fun h => by cases h), (fun h => by cases h), (fun h => by cases h), (fun h => by cases h), (fun h => by cases h), (fun h => by cases h), (fun h => by cases h), (fun h => by cases h)⟩ ⟨⟨⟨⟨⟨⟨⟨⟨⟨⟨⟨⟨trivial
    , ⟨_, rfl, fun B S hBi hdep hcl => by
      rintro ⟨ml, sl, rfl, h0, h1, f0, f1, f2, f3, f4, f5, f6, f7, f8, f9, f10, f11, p10⟩
      refine r_move h0 rfl ?_
      exact awl_nil ⟨rfl, ml, _, rfl, h0, h1, (fun h => rfl), f1, f2, f3, f4, f5, f6, f7, f8, f9, f10, f11, p10⟩⟩⟩
    , ⟨_, rfl, fun B S hBi hdep hcl => by
      rintro ⟨ml, sl, rfl, h0, h1, f0, f1, f2, f3, f4, f5, f6, f7, f8, f9, f10, f11, p10⟩
      refine r_nilCheck (f0 (hdep 0 rfl)) (by first | exact .pt _ _ | exact .v _ | exact .cp _) rfl ?_
      exact awl_nil ⟨rfl, ml, _, rfl, h0, h1, f0, (fun h => rfl), f2, f3, f4, f5, f6, f7, f8, f9, f10, f11, p10⟩⟩⟩
    , ⟨_, rfl, fun B S hBi hdep hcl => by
      rintro ⟨ml, sl, rfl, h0, h1, f0, f1, f2, f3, f4, f5, f6, f7, f8, f9, f10, f11, p10⟩
      refine r_fieldpt (f1 (hdep 1 rfl)) TF.f82_2 TF.sz80 rfl ?_
      exact awl_nil ⟨rfl, ml, _, rfl, h0, h1, f0, f1, (fun h => rfl), f3, f4, f5, f6, f7, f8, f9, f10, f11, p10⟩⟩⟩
    , ⟨_, rfl, fun B S hBi hdep hcl => by
      rintro ⟨ml, sl, rfl, h0, h1, f0, f1, f2, f3, f4, f5, f6, f7, f8, f9, f10, f11, p10⟩
      refine r_load1 (f2 (hdep 2 rfl)) TF.agg80 rfl ?_
      exact awl_nil ⟨rfl, ml, _, rfl, h0, h1, f0, f1, f2, (fun h => rfl), f4, f5, f6, f7, f8, f9, f10, f11, p10⟩⟩⟩
    , ⟨_, rfl, fun B S hBi hdep hcl => by
      rintro ⟨ml, sl, rfl, h0, h1, f0, f1, f2, f3, f4, f5, f6, f7, f8, f9, f10, f11, p10⟩
      refine r_move h1 rfl ?_
      exact awl_nil ⟨rfl, ml, _, rfl, h0, h1, f0, f1, f2, f3, (fun h => rfl), f5, f6, f7, f8, f9, f10, f11, p10⟩⟩⟩
    , ⟨_, rfl, fun B S hBi hdep hcl => by
      rintro ⟨ml, sl, rfl, h0, h1, f0, f1, f2, f3, f4, f5, f6, f7, f8, f9, f10, f11, p10⟩
      refine r_nilCheck (f4 (hdep 4 rfl)) (by first | exact .pt _ _ | exact .v _ | exact .cp _) rfl ?_
      exact awl_nil ⟨rfl, ml, _, rfl, h0, h1, f0, f1, f2, f3, f4, (fun h => rfl), f6, f7, f8, f9, f10, f11, p10⟩⟩⟩
    , ⟨_, rfl, fun B S hBi hdep hcl => by
      rintro ⟨ml, sl, rfl, h0, h1, f0, f1, f2, f3, f4, f5, f6, f7, f8, f9, f10, f11, p10⟩
      refine r_fieldpt (f5 (hdep 5 rfl)) TF.f82_2 TF.sz80 rfl ?_
      exact awl_nil ⟨rfl, ml, _, rfl, h0, h1, f0, f1, f2, f3, f4, f5, (fun h => rfl), f7, f8, f9, f10, f11, p10⟩⟩⟩
    , ⟨_, rfl, fun B S hBi hdep hcl => by
      rintro ⟨ml, sl, rfl, h0, h1, f0, f1, f2, f3, f4, f5, f6, f7, f8, f9, f10, f11, p10⟩
      refine r_load1 (f6 (hdep 6 rfl)) TF.agg80 rfl ?_
      exact awl_nil ⟨rfl, ml, _, rfl, h0, h1, f0, f1, f2, f3, f4, f5, f6, (fun h => rfl), f8, f9, f10, f11, p10⟩⟩⟩
    , ⟨_, rfl, fun B S hBi hdep hcl => by
      rintro ⟨ml, sl, rfl, h0, h1, f0, f1, f2, f3, f4, f5, f6, f7, f8, f9, f10, f11, p10⟩
      refine r_litC (parts := [(0, .tmp 49), (1, .tmp 53)]) rfl TF.sl150 TF.sz80 TF.zraw80 rfl rfl rfl (parts_cons (f3 (hdep 3 rfl)) (parts_cons (f7 (hdep 7 rfl)) parts_nil)) rfl rfl rfl rfl ?_
      exact awl_nil ⟨rfl, ml, _, rfl, h0, h1, f0, f1, f2, f3, f4, f5, f6, f7, (fun h => rfl), f9, f10, f11, p10⟩⟩⟩
    , ⟨_, rfl, fun B S hBi hdep hcl => by
      rintro ⟨ml, sl, rfl, h0, h1, f0, f1, f2, f3, f4, f5, f6, f7, f8, f9, f10, f11, p10⟩
      refine r_call0 hq rfl rfl (.cons (.ev (f8 (hdep 8 rfl)) rfl) .nil) (concatN_ok [((l.map (enc h)).map fun x => [x]), ((m.map (enc h)).map fun x => [x])] (encs_ok hfl).1 (encs_ok hfl).2 (by rw [hfl, List.length_map, List.length_append]; omega) (by rw [hfl, List.length_map, List.length_append]; omega) (by simp)) rfl TF.en63 rfl (fun r hr => ?_)
      obtain rfl := hr
      exact awl_nil ⟨rfl, ml, _, rfl, h0, h1, f0, f1, f2, f3, f4, f5, f6, f7, f8, (fun h => rfl), f10, f11, p10⟩⟩⟩
    , ⟨_, rfl, fun B S hBi hdep hcl => by
      rintro ⟨ml, sl, rfl, h0, h1, f0, f1, f2, f3, f4, f5, f6, f7, f8, f9, f10, f11, p10⟩
      refine r_call0 hq rfl rfl (.cons (.ev (f9 (hdep 9 rfl)) rfl) .nil) (kidHalves_ok h (l ++ m) hw (by rw [List.length_append]; omega) (by rw [List.length_append]; omega) _ hfl) rfl TF.en62 rfl (fun r hr => ?_)
      obtain ⟨mq, hmq, rfl⟩ := hr
      exact awl_nil ⟨rfl, mq, _, rfl, h0, h1, f0, f1, f2, f3, f4, f5, f6, f7, f8, f9, (fun h => rfl), (fun h => absurd (hcl 11 10 h rfl) (by rw [hBi]; decide)), (fun _ => hmq)⟩⟩⟩
    , ⟨_, rfl, fun B S hBi hdep hcl => by
      rintro ⟨ml, sl, rfl, h0, h1, f0, f1, f2, f3, f4, f5, f6, f7, f8, f9, f10, f11, p10⟩
      refine r_assign (f10 (hdep 10 rfl)) rfl ?_
      exact awl_nil ⟨rfl, ml, _, rfl, h0, h1, f0, f1, f2, f3, f4, f5, f6, f7, f8, f9, f10, (fun h => rfl), p10⟩⟩⟩
    (fun B S hall => by
     rintro ⟨ml, sl, rfl, h0, h1, f0, f1, f2, f3, f4, f5, f6, f7, f8, f9, f10, f11, p10⟩
     have hp10 := p10 (hall 10 (by decide))
     refine x_then ?_
     refine awp_weaken (S' := ⟨57, [(0, .a (.pt b [.sl 4 ((kksOf h l).map Sp.cs), .sl 1 (([] : List Int).map u64c), .sl 1 ((l.map (enc h)).map fun x => [x])])), (1, .a (.pt c [.sl 4 ((kksOf h m).map Sp.cs), .sl 1 (([] : List Int).map u64c), .sl 1 ((m.map (enc h)).map fun x => [x])])), (4, .a (.sl 1 (ml.map fun x => [enc (h + 1) x])))], []⟩) ⟨rfl, (Slots.cons h0 (.refl _) (Slots.cons h1 (.refl _) (Slots.cons (f11 (hall 11 (by decide))) (.refl _) Slots.nil))), (List.Sublist.refl _)⟩ ?_
     refine awp_ret ?_
     exact ⟨(.inl rfl), _, [], (.one (by first | exact .mk rfl rfl | exact .nil rfl)), ⟨rfl, ml, hp10, rfl⟩, (List.nil_sublist _), (by simp)⟩)
theorem join_ok : ∀ (h : Nat) (a c : Nd h), wfC 1 h a.2 → wfC 1 h c.2 → AC Try.prog 81 [enc h a, enc h c] [] (fun r nb => nb = [] ∧ ∃ l, JoinR a c l ∧ r = .sl 1 (l.map fun x => [enc h x]))
  | 0, a, c, h1, h2 => join_leaf a.1 c.1 (itsOf a) (itsOf c) h1.1 h1.2 h2.1 h2.2
  | h + 1, a, c, h1, h2 => join_inner h a.1 c.1 (kdsOf a) (kdsOf c) h1.1 h1.2.1 h2.1 h2.2.1 (fun n hn => by
      rcases List.mem_append.1 hn with hn | hn
      · exact (h1.2.2 n hn).mono (by omega)
      · exact (h2.2.2 n hn).mono (by omega))
theorem map_eraseN {α β : Type} (f : α → β) : ∀ (l : List α) (i : Nat), (l.map f).eraseIdx i = (l.eraseIdx i).map f
  | [], _ => rfl
  | _ :: _, 0 => rfl
  | x :: l, i + 1 => by simp [map_eraseN f l i]
def delA (h : Nat) (n : Nd h) (cr : Option (Nd h)) : AV := .tup [enc h (cr.getD n), boolA cr.isSome]
theorem del_nil (k : Sp) : AC Try.prog 54 [nilP, spA k] [] (fun r n => n = [] ∧ r = .tup [nilP, boolA false]) := by
 refine ac_of_awp (rs := [4, 5]) (nt := 107) Try.func54 rfl rfl rfl rfl (fun w0 C0 hq => ?_)
 unfold nilP
 refine awp_seq ?_
 refine awp_region ?_
 refine r_box rfl rfl rfl (fun b3 => ?_)
 refine r_assign rfl rfl ?_
 refine r_assign rfl rfl ?_
 refine awl_nil ?_
 refine x_then ?_
 refine awp_seq ?_
 refine awp_seq ?_
 refine awp_region ?_
 refine r_move rfl rfl ?_
 refine r_pnil rfl (by first | exact .pt _ _ | exact .nil | exact .v _ | exact .cp _) TF.un36 rfl ?_
 refine awl_nil ?_
 refine x_then ?_
 refine awp_cond rfl (fun hc0 => ?_) (fun hc0 => ?_)
 ·
  skip
  refine awp_seq ?_
  refine awp_region ?_
  refine r_assign rfl rfl ?_
  refine r_assign rfl rfl ?_
  refine awl_nil ?_
  refine x_then ?_
  refine awp_ret ?_
  refine x_thenR ?_
  exact ⟨(.inl rfl), _, [], (.two (by first | exact .mk rfl rfl | exact .nil rfl) (by first | exact .mk rfl rfl | exact .nil rfl)), ⟨rfl, rfl⟩, (List.nil_sublist _), (by simp)⟩
 ·
  exfalso; cases hc0
theorem del_leaf (b : Nat) (its : List (Sp × Int)) (hw1 : 1 ≤ its.length) (hw4 : its.length ≤ 4) (k : Sp) : AC Try.prog 54 [ndA b (its.map fun p : Sp × Int => p.1) (its.map fun p : Sp × Int => p.2) [], spA k] [] (fun r n => n = [] ∧ ∃ cr, DelR 0 (b, its) k cr ∧ r = delA 0 (b, its) cr) := by
 refine ac_of_awp (rs := [4, 5]) (nt := 107) Try.func54 rfl rfl rfl rfl (fun w0 C0 hq => ?_)
 unfold ndA
 obtain ⟨hz4, ho4⟩ := its_one (its.map fun p : Sp × Int => p.1)
 obtain ⟨hz1, ho1⟩ := vls_one (its.map fun p : Sp × Int => p.2)
 have hkn : (its.map fun p : Sp × Int => p.1) ≠ [] := by intro e; have := congrArg List.length e; simp at this; rw [this] at hw1; simp at hw1
 have hvl1 := flat_len hz1
 rw [List.length_map] at hvl1
 refine awp_seq ?_
 refine awp_region ?_
 refine r_box rfl rfl rfl (fun b3 => ?_)
 refine r_assign rfl rfl ?_
 refine r_assign rfl rfl ?_
 refine awl_nil ?_
 refine x_then ?_
 refine awp_seq ?_
 refine awp_seq ?_
 refine awp_region ?_
 refine r_move rfl rfl ?_
 refine r_pnil rfl (by first | exact .pt _ _ | exact .nil | exact .v _ | exact .cp _) TF.un36 rfl ?_
 refine awl_nil ?_
 refine x_then ?_
 refine awp_cond rfl (fun hc0 => ?_) (fun hc0 => ?_)
 ·
  exfalso; cases hc0
 ·
  refine awp_skip ?_
  refine x_then ?_
  refine awp_seq ?_
  refine awp_seq ?_
  refine awp_region ?_
  refine r_move rfl rfl ?_
  refine r_call0 hq rfl rfl (.cons (.ev rfl rfl) .nil) (leaf_ok b (its.map fun p : Sp × Int => p.1) (its.map fun p : Sp × Int => p.2) []) rfl TF.en46 rfl (fun r hr => ?_)
  obtain rfl := hr
  refine awl_nil ?_
  refine x_then ?_
  refine awp_cond rfl (fun hc1 => ?_) (fun hc1 => ?_)
  ·
   skip
   refine awp_seq ?_
   refine awp_region ?_
   refine r_move rfl rfl ?_
   refine r_loadAb 0 rfl rfl TF.agg47 TF.sz47 rfl rfl ?_
   refine r_call0 hq rfl rfl (.cons (.ev rfl rfl) (.cons (.ev rfl rfl) .nil)) (find_ok b (its.map fun p : Sp × Int => p.1) (its.map fun p : Sp × Int => p.2) [] (by simp; omega) k) rfl TF.en43 rfl (fun r hr => ?_)
   obtain rfl := hr
   refine r_move rfl rfl ?_
   refine r_extract rfl rfl rfl ?_
   refine r_extract rfl rfl rfl ?_
   refine r_assign rfl rfl ?_
   refine r_assign rfl rfl ?_
   refine awl_nil ?_
   refine x_then ?_
   refine awp_seq ?_
   refine awp_seq ?_
   refine awp_region ?_
   refine r_move rfl rfl ?_
   refine r_not rfl rfl ?_
   refine awl_nil ?_
   refine x_then ?_
   refine awp_cond rfl (fun hc2 => ?_) (fun hc2 => ?_)
   ·
    have hh : (!(findL k (its.map fun p : Sp × Int => p.1)).2) = true := hc2
    have hh : (findL k (its.map fun p : Sp × Int => p.1)).2 = false := by simpa using hh
    refine awp_seq ?_
    refine awp_region ?_
    refine r_move rfl rfl ?_
    refine r_assign rfl rfl ?_
    refine r_assign rfl rfl ?_
    refine awl_nil ?_
    refine x_then ?_
    refine awp_ret ?_
    refine x_thenR ?_
    refine x_thenR ?_
    exact ⟨(.inl rfl), _, [], (.two (by first | exact .mk rfl rfl | exact .nil rfl) (by first | exact .mk rfl rfl | exact .nil rfl)), ⟨rfl, none, by unfold DelR; rw [if_neg (by rw [hh]; decide)], rfl⟩, (List.nil_sublist _), (by simp)⟩
   ·
    have hh : (!(findL k (its.map fun p : Sp × Int => p.1)).2) = false := hc2
    have hh : (findL k (its.map fun p : Sp × Int => p.1)).2 = true := by simpa using hh
    have hil := findL_had hh
    rw [List.length_map] at hil
    refine awp_skip ?_
    refine x_then ?_
    refine awp_seq ?_
    refine awp_region ?_
    refine r_move rfl rfl ?_
    refine r_callO hq rfl rfl (.cons (.ev rfl rfl) .nil) (leafs_ok b (its.map fun p : Sp × Int => p.1) (its.map fun p : Sp × Int => p.2) [] hkn (by simp; omega) (by simp)) rfl TF.en57 (by first | exact List.Sublist.refl _ | exact .cons_cons _ (.cons _ (.refl _)) | exact List.nil_sublist _ | exact .cons _ (.refl _) | exact .cons _ (.cons _ (.refl _)) | exact .cons _ (.cons _ (.cons _ (.refl _))) | exact .cons _ (.cons _ (.cons _ (.cons _ (.refl _)))) | exact .cons_cons _ (List.nil_sublist _)) rfl (fun r nobjs hr => ?_)
    obtain ⟨g1, cap, ext, g2, rfl, rfl, hq1, hq2⟩ := hr
    refine r_move rfl rfl ?_
    refine r_extract rfl rfl rfl ?_
    refine r_extract rfl rfl rfl ?_
    refine r_assign rfl rfl ?_
    refine r_assign rfl rfl ?_
    refine awl_nil ?_
    refine x_then ?_
    refine awp_seq ?_
    refine awp_region ?_
    refine r_move rfl rfl ?_
    refine r_move rfl rfl ?_
    refine r_move rfl rfl ?_
    refine r_ari ((((findL k (its.map fun p : Sp × Int => p.1)).1 : Nat) : Int) + 1) rfl rfl rfl (by show IntKind.i64.wrap ((((findL k (its.map fun p : Sp × Int => p.1)).1 : Nat) : Int) + 1) = _; exact wrap_id (by omega)) rfl ?_
    refine r_callW hq [false, true, false] rfl rfl (.cons (.ev rfl rfl) (.cons (.ev rfl rfl) (.cons (.ev rfl rfl) .nil))) (deleteS_ok ((its.map fun p : Sp × Int => p.1).map Sp.cs) hz4 ho4 (by simp; omega) (findL k (its.map fun p : Sp × Int => p.1)).1 (by simp; exact hil) g1 cap ext (by simpa using hq1) hq2 _ (by simp)) rfl TF.en77 rfl rfl (List.nil_sublist _) rfl (fun r nobjs hr => ?_)
    obtain ⟨rfl, rfl⟩ := hr
    refine r_move rfl rfl ?_
    refine r_move rfl rfl ?_
    refine r_move rfl rfl ?_
    refine r_ari ((((findL k (its.map fun p : Sp × Int => p.1)).1 : Nat) : Int) + 1) rfl rfl rfl (by show IntKind.i64.wrap ((((findL k (its.map fun p : Sp × Int => p.1)).1 : Nat) : Int) + 1) = _; exact wrap_id (by omega)) rfl ?_
    refine r_callW hq [true, false] rfl rfl (.cons (.ev rfl rfl) (.cons (.ev rfl rfl) (.cons (.ev rfl rfl) .nil))) (deleteU_ok ((its.map fun p : Sp × Int => p.2).map u64c) hz1 ho1 (by simp; omega) (findL k (its.map fun p : Sp × Int => p.1)).1 (by simp; exact hil) g2 (its.map fun p : Sp × Int => p.1).length [] (by simp) (by rw [List.append_nil, hvl1]; simp) _ (by simp)) rfl TF.en78 rfl rfl (List.nil_sublist _) rfl (fun r nobjs hr => ?_)
    obtain ⟨rfl, rfl⟩ := hr
    refine r_build (parts := [(0, .tmp 36), (1, .tmp 41)]) rfl TF.pl82 TF.zero82 rfl rfl rfl ?_
    refine r_box rfl rfl rfl (fun b43 => ?_)
    refine awl_imp (imp_commitP 0 43 rfl rfl rfl rfl) ?_
    refine r_assign rfl rfl ?_
    refine r_assign rfl rfl ?_
    refine awl_nil ?_
    refine x_then ?_
    refine awp_ret ?_
    refine x_thenR ?_
    exact ⟨(.inl rfl), _, [], (.two (by first | exact .mk rfl rfl | exact .nil rfl) (by first | exact .mk rfl rfl | exact .nil rfl)), ⟨rfl, some (b43, its.eraseIdx (findL k (its.map fun p : Sp × Int => p.1)).1), by unfold DelR; rw [if_pos hh]; exact ⟨b43, rfl⟩, by rw [map_eraseN, map_eraseN, map_eraseN, map_eraseN]; rfl⟩, (List.nil_sublist _), (by simp)⟩
  ·
   exfalso; cases hc1
theorem join_eq {h : Nat} (l jm : List (Nd h)) (j : Nat) : [(l.map fun n => [enc h n]).take j, jm.map fun x => [enc h x], (l.map fun n => [enc h n]).drop (j + 2)].flatten = (l.take j ++ jm ++ l.drop (j + 2)).map fun n => [enc h n] := by
  simp [List.map_take, List.map_drop]
theorem del_inner (h : Nat) (ih : ∀ (n : Nd h), wfC 2 h n.2 → ∀ (k : Sp), AC Try.prog 54 [enc h n, spA k] [] (fun r nb => nb = [] ∧ ∃ cr, DelR h n k cr ∧ r = delA h n cr)) (b : Nat) (l : List (Nd h)) (hl2 : 2 ≤ l.length) (hl4 : l.length ≤ 4) (hw : ∀ n ∈ l, wfC 2 h n.2) (k : Sp) : AC Try.prog 54 [ndA b (kksOf h l) [] (l.map (enc h)), spA k] [] (fun r nb => nb = [] ∧ ∃ cr, DelR (h + 1) (b, l) k cr ∧ r = delA (h + 1) (b, l) cr) := by
 refine ac_of_awp (rs := [4, 5]) (nt := 107) Try.func54 rfl rfl rfl rfl (fun w0 C0 hq => ?_)
 unfold ndA
 have hl0 : 0 < l.length := by omega
 have hemp : (l.map (enc h)).isEmpty = false := by cases l with | nil => simp at hl0 | cons => rfl
 have hil := wayI_lt (k := k) hl0
 obtain ⟨kid, hkid⟩ : ∃ kid, l[wayI h k l]? = some kid := get_lt hil
 obtain ⟨i, hi⟩ : ∃ i, i = wayI h k l := ⟨_, rfl⟩
 rw [← hi] at hkid hil
 have hkw := hw kid (List.mem_of_getElem? hkid)
 have hKL : ((l.map (enc h)).map fun x => [x]) = (l.map fun n => [enc h n]) := by rw [List.map_map]; rfl
 have hKo := encs_ok (h := h) (ls := [(l.map fun n => [enc h n])]) (L := l) (by simp)
 refine awp_seq ?_
 refine awp_region ?_
 refine r_box rfl rfl rfl (fun b3 => ?_)
 refine r_assign rfl rfl ?_
 refine r_assign rfl rfl ?_
 refine awl_nil ?_
 refine x_then ?_
 refine awp_seq ?_
 refine awp_seq ?_
 refine awp_region ?_
 refine r_move rfl rfl ?_
 refine r_pnil rfl (by first | exact .pt _ _ | exact .nil | exact .v _ | exact .cp _) TF.un36 rfl ?_
 refine awl_nil ?_
 refine x_then ?_
 refine awp_cond rfl (fun hc0 => ?_) (fun hc0 => ?_)
 ·
  exfalso; cases hc0
 ·
  refine awp_skip ?_
  refine x_then ?_
  refine awp_seq ?_
  refine awp_seq ?_
  refine awp_region ?_
  refine r_move rfl rfl ?_
  refine r_call0 hq rfl rfl (.cons (.ev rfl rfl) .nil) (leaf_ok b (kksOf h l) [] (l.map (enc h))) rfl TF.en46 rfl (fun r hr => ?_)
  obtain rfl := hr
  refine awl_nil ?_
  refine x_then ?_
  refine awp_cond rfl (fun hc1 => ?_) (fun hc1 => ?_)
  ·
   exfalso; rw [hemp] at hc1; cases hc1
  ·
   refine awp_skip ?_
   refine x_then ?_
   refine awp_seq ?_
   refine awp_region ?_
   refine r_move rfl rfl ?_
   refine r_loadAb 0 rfl rfl TF.agg47 TF.sz47 rfl rfl ?_
   refine r_call0 hq rfl rfl (.cons (.ev rfl rfl) (.cons (.ev rfl rfl) .nil)) (way_ok h b l hl0 (by omega) k) rfl TF.en61 rfl (fun r hr => ?_)
   obtain rfl := hr
   rw [← hi]
   refine r_assign rfl rfl ?_
   refine awl_nil ?_
   refine x_then ?_
   refine awp_seq ?_
   refine awp_any (fun B S => ∃ cr : Option (Nd h), ∃ sl : List (Nat × SV), S = ⟨107, sl, [⟨b3, true, .box k.cs⟩]⟩ ∧ find 0 sl = some (.a (.pt b [.sl 4 ((kksOf h l).map Sp.cs), .sl 1 (([] : List Int).map u64c), .sl 1 ((l.map (enc h)).map fun x => [x])])) ∧ find 3 sl = some (.a (.v (.pointer (some ⟨b3, 0, none⟩)))) ∧ find 10 sl = some (.a (.v (.int .i64 ((i : Nat))))) ∧ (B 0 = true → find 48 sl = some (.a (.pt b [.sl 4 ((kksOf h l).map Sp.cs), .sl 1 (([] : List Int).map u64c), .sl 1 ((l.map (enc h)).map fun x => [x])]))) ∧ (B 1 = true → find 49 sl = some (.a (.pt b [.sl 4 ((kksOf h l).map Sp.cs), .sl 1 (([] : List Int).map u64c), .sl 1 ((l.map (enc h)).map fun x => [x])]))) ∧ (B 2 = true → find 50 sl = some (.a (.cp [.sl 1 ((l.map (enc h)).map fun x => [x])]))) ∧ (B 3 = true → find 51 sl = some (.a (.sl 1 ((l.map (enc h)).map fun x => [x])))) ∧ (B 4 = true → find 52 sl = some (.a (.v (.int .i64 ((i : Nat)))))) ∧ (B 5 = true → find 53 sl = some (.a (.cp [enc h kid]))) ∧ (B 6 = true → find 54 sl = some (.a (enc h kid))) ∧ (B 7 = true → find 55 sl = some (.a (spA k))) ∧ (B 8 = true → find 56 sl = some (.a (delA h kid cr))) ∧ (B 9 = true → find 47 sl = some (.a (delA h kid cr))) ∧ (B 10 = true → find 57 sl = some (.a (enc h (cr.getD kid)))) ∧ (B 11 = true → find 58 sl = some (.a (boolA cr.isSome))) ∧ (B 12 = true → find 11 sl = some (.a (enc h (cr.getD kid)))) ∧ (B 13 = true → find 12 sl = some (.a (boolA cr.isSome))) ∧ (B 8 = true → DelR h kid k cr)) TF.mixed rfl ⟨none, _, rfl, rfl, rfl, rfl, (fun h => by cases h), (fun h => by cases h), (fun h => by cases h), (fun h => by cases h), (fun h => by cases h), (fun h => by cases h), (fun h => by cases h), (fun h => by cases h), (fun h => by cases h), (fun h => by cases h), (fun h => by cases h), (fun h => by cases h), (fun h => by cases h), (fun h => by cases h), (fun h => by cases h)⟩ ⟨⟨⟨⟨⟨⟨⟨⟨⟨⟨⟨⟨⟨⟨trivial
    , ⟨_, rfl, fun B S hBi hdep hcl => by
      rintro ⟨cr, sl, rfl, h0, h3, h10, f0, f1, f2, f3, f4, f5, f6, f7, f8, f9, f10, f11, f12, f13, p8⟩
      refine r_move h0 rfl ?_
      exact awl_nil ⟨rfl, cr, _, rfl, h0, h3, h10, (fun h => rfl), f1, f2, f3, f4, f5, f6, f7, f8, f9, f10, f11, f12, f13, p8⟩⟩⟩
    , ⟨_, rfl, fun B S hBi hdep hcl => by
      rintro ⟨cr, sl, rfl, h0, h3, h10, f0, f1, f2, f3, f4, f5, f6, f7, f8, f9, f10, f11, f12, f13, p8⟩
      refine r_nilCheck (f0 (hdep 0 rfl)) (by first | exact .pt _ _ | exact .v _ | exact .cp _) rfl ?_
      exact awl_nil ⟨rfl, cr, _, rfl, h0, h3, h10, f0, (fun h => rfl), f2, f3, f4, f5, f6, f7, f8, f9, f10, f11, f12, f13, p8⟩⟩⟩
    , ⟨_, rfl, fun B S hBi hdep hcl => by
      rintro ⟨cr, sl, rfl, h0, h3, h10, f0, f1, f2, f3, f4, f5, f6, f7, f8, f9, f10, f11, f12, f13, p8⟩
      refine r_fieldpt (f1 (hdep 1 rfl)) TF.f82_2 TF.sz80 rfl ?_
      exact awl_nil ⟨rfl, cr, _, rfl, h0, h3, h10, f0, f1, (fun h => rfl), f3, f4, f5, f6, f7, f8, f9, f10, f11, f12, f13, p8⟩⟩⟩
    , ⟨_, rfl, fun B S hBi hdep hcl => by
      rintro ⟨cr, sl, rfl, h0, h3, h10, f0, f1, f2, f3, f4, f5, f6, f7, f8, f9, f10, f11, f12, f13, p8⟩
      refine r_load1 (f2 (hdep 2 rfl)) TF.agg80 rfl ?_
      exact awl_nil ⟨rfl, cr, _, rfl, h0, h3, h10, f0, f1, f2, (fun h => rfl), f4, f5, f6, f7, f8, f9, f10, f11, f12, f13, p8⟩⟩⟩
    , ⟨_, rfl, fun B S hBi hdep hcl => by
      rintro ⟨cr, sl, rfl, h0, h3, h10, f0, f1, f2, f3, f4, f5, f6, f7, f8, f9, f10, f11, f12, f13, p8⟩
      refine r_move h10 rfl ?_
      exact awl_nil ⟨rfl, cr, _, rfl, h0, h3, h10, f0, f1, f2, f3, (fun h => rfl), f5, f6, f7, f8, f9, f10, f11, f12, f13, p8⟩⟩⟩
    , ⟨_, rfl, fun B S hBi hdep hcl => by
      rintro ⟨cr, sl, rfl, h0, h3, h10, f0, f1, f2, f3, f4, f5, f6, f7, f8, f9, f10, f11, f12, f13, p8⟩
      refine r_index (f3 (hdep 3 rfl)) rfl (f4 (hdep 4 rfl)) TF.sl80 TF.sz36 (by omega) (get_map (get_map hkid)) rfl ?_
      exact awl_nil ⟨rfl, cr, _, rfl, h0, h3, h10, f0, f1, f2, f3, f4, (fun h => rfl), f6, f7, f8, f9, f10, f11, f12, f13, p8⟩⟩⟩
    , ⟨_, rfl, fun B S hBi hdep hcl => by
      rintro ⟨cr, sl, rfl, h0, h3, h10, f0, f1, f2, f3, f4, f5, f6, f7, f8, f9, f10, f11, f12, f13, p8⟩
      refine r_load1 (f5 (hdep 5 rfl)) TF.agg36 rfl ?_
      exact awl_nil ⟨rfl, cr, _, rfl, h0, h3, h10, f0, f1, f2, f3, f4, f5, (fun h => rfl), f7, f8, f9, f10, f11, f12, f13, p8⟩⟩⟩
    , ⟨_, rfl, fun B S hBi hdep hcl => by
      rintro ⟨cr, sl, rfl, h0, h3, h10, f0, f1, f2, f3, f4, f5, f6, f7, f8, f9, f10, f11, f12, f13, p8⟩
      refine r_loadAb 0 h3 rfl TF.agg47 TF.sz47 rfl rfl ?_
      exact awl_nil ⟨rfl, cr, _, rfl, h0, h3, h10, f0, f1, f2, f3, f4, f5, f6, (fun h => rfl), f8, f9, f10, f11, f12, f13, p8⟩⟩⟩
    , ⟨_, rfl, fun B S hBi hdep hcl => by
      rintro ⟨cr, sl, rfl, h0, h3, h10, f0, f1, f2, f3, f4, f5, f6, f7, f8, f9, f10, f11, f12, f13, p8⟩
      refine r_call0 hq rfl rfl (.cons (.ev (f6 (hdep 6 rfl)) rfl) (.cons (.ev (f7 (hdep 7 rfl)) rfl) .nil)) (ih kid hkw k) rfl TF.en54 rfl (fun r hr => ?_)
      obtain ⟨cq, hcq, rfl⟩ := hr
      exact awl_nil ⟨rfl, cq, _, rfl, h0, h3, h10, f0, f1, f2, f3, f4, f5, f6, f7, (fun h => rfl), (fun h => absurd (hcl 9 8 h rfl) (by rw [hBi]; decide)), (fun h => absurd (hcl 9 8 (hcl 10 9 h rfl) rfl) (by rw [hBi]; decide)), (fun h => absurd (hcl 9 8 (hcl 11 9 h rfl) rfl) (by rw [hBi]; decide)), (fun h => absurd (hcl 12 8 h rfl) (by rw [hBi]; decide)), (fun h => absurd (hcl 13 8 h rfl) (by rw [hBi]; decide)), (fun _ => hcq)⟩⟩⟩
    , ⟨_, rfl, fun B S hBi hdep hcl => by
      rintro ⟨cr, sl, rfl, h0, h3, h10, f0, f1, f2, f3, f4, f5, f6, f7, f8, f9, f10, f11, f12, f13, p8⟩
      refine r_move (f8 (hdep 8 rfl)) rfl ?_
      exact awl_nil ⟨rfl, cr, _, rfl, h0, h3, h10, f0, f1, f2, f3, f4, f5, f6, f7, f8, (fun h => rfl), f10, f11, f12, f13, p8⟩⟩⟩
    , ⟨_, rfl, fun B S hBi hdep hcl => by
      rintro ⟨cr, sl, rfl, h0, h3, h10, f0, f1, f2, f3, f4, f5, f6, f7, f8, f9, f10, f11, f12, f13, p8⟩
      refine r_extract (f9 (hdep 9 rfl)) rfl rfl ?_
      exact awl_nil ⟨rfl, cr, _, rfl, h0, h3, h10, f0, f1, f2, f3, f4, f5, f6, f7, f8, f9, (fun h => rfl), f11, f12, f13, p8⟩⟩⟩
    , ⟨_, rfl, fun B S hBi hdep hcl => by
      rintro ⟨cr, sl, rfl, h0, h3, h10, f0, f1, f2, f3, f4, f5, f6, f7, f8, f9, f10, f11, f12, f13, p8⟩
      refine r_extract (f9 (hdep 9 rfl)) rfl rfl ?_
      exact awl_nil ⟨rfl, cr, _, rfl, h0, h3, h10, f0, f1, f2, f3, f4, f5, f6, f7, f8, f9, f10, (fun h => rfl), f12, f13, p8⟩⟩⟩
    , ⟨_, rfl, fun B S hBi hdep hcl => by
      rintro ⟨cr, sl, rfl, h0, h3, h10, f0, f1, f2, f3, f4, f5, f6, f7, f8, f9, f10, f11, f12, f13, p8⟩
      refine r_assign (f10 (hdep 10 rfl)) rfl ?_
      exact awl_nil ⟨rfl, cr, _, rfl, h0, h3, h10, f0, f1, f2, f3, f4, f5, f6, f7, f8, f9, f10, f11, (fun h => rfl), f13, p8⟩⟩⟩
    , ⟨_, rfl, fun B S hBi hdep hcl => by
      rintro ⟨cr, sl, rfl, h0, h3, h10, f0, f1, f2, f3, f4, f5, f6, f7, f8, f9, f10, f11, f12, f13, p8⟩
      refine r_assign (f11 (hdep 11 rfl)) rfl ?_
      exact awl_nil ⟨rfl, cr, _, rfl, h0, h3, h10, f0, f1, f2, f3, f4, f5, f6, f7, f8, f9, f10, f11, f12, (fun h => rfl), p8⟩⟩⟩
    (fun B S hall => by
     rintro ⟨cr, sl, rfl, h0, h3, h10, f0, f1, f2, f3, f4, f5, f6, f7, f8, f9, f10, f11, f12, f13, p8⟩
     have hp8 := p8 (hall 8 (by decide))
     refine x_then ?_
     refine awp_weaken (S' := ⟨107, [(0, .a (.pt b [.sl 4 ((kksOf h l).map Sp.cs), .sl 1 (([] : List Int).map u64c), .sl 1 ((l.map (enc h)).map fun x => [x])])), (3, .a (.v (.pointer (some ⟨b3, 0, none⟩)))), (10, .a (.v (.int .i64 ((i : Nat))))), (11, .a (enc h (cr.getD kid))), (12, .a (boolA cr.isSome))], [⟨b3, true, .box k.cs⟩]⟩) ⟨rfl, (Slots.cons h0 (.refl _) (Slots.cons h3 (.refl _) (Slots.cons h10 (.refl _) (Slots.cons (f12 (hall 12 (by decide))) (.refl _) (Slots.cons (f13 (hall 13 (by decide))) (.refl _) Slots.nil))))), (List.Sublist.refl _)⟩ ?_
     refine awp_seq ?_
     refine awp_seq ?_
     refine awp_region ?_
     refine r_move rfl rfl ?_
     refine r_not rfl rfl ?_
     refine awl_nil ?_
     refine x_then ?_
     refine awp_cond rfl (fun hc3 => ?_) (fun hc3 => ?_)
     ·
      obtain rfl : cr = none := by cases cr with | none => rfl | some c => cases hc3
      refine awp_seq ?_
      refine awp_region ?_
      refine r_move rfl rfl ?_
      refine r_assign rfl rfl ?_
      refine r_assign rfl rfl ?_
      refine awl_nil ?_
      refine x_then ?_
      refine awp_ret ?_
      refine x_thenR ?_
      exact ⟨(.inl rfl), _, [], (.two (by first | exact .mk rfl rfl | exact .nil rfl) (by first | exact .mk rfl rfl | exact .nil rfl)), ⟨rfl, none, ⟨kid, none, by rw [← hi]; exact hkid, hp8, rfl⟩, rfl⟩, (List.nil_sublist _), (by simp)⟩
     ·
      obtain ⟨c, rfl⟩ : ∃ c, cr = some c := by cases cr with | none => cases hc3 | some c => exact ⟨c, rfl⟩
      have hcw : wfC 1 h c.2 := delR_wf h (Nat.le_succ 1) hkw (fun _ => hkw.lo) hp8
      have hw1 : ∀ n ∈ l.set i c, wfC 1 h n.2 := fun n hn => by
       rcases List.mem_or_eq_of_mem_set hn with hn | rfl
       · exact (hw n hn).mono (by omega)
       · exact hcw
      refine awp_skip ?_
      refine x_then ?_
      refine awp_seq ?_
      refine awp_region ?_
      refine r_move rfl rfl ?_
      refine r_nilCheck rfl (by first | exact .pt _ _ | exact .v _ | exact .cp _) rfl ?_
      refine r_fieldpt rfl TF.f82_2 TF.sz80 rfl ?_
      refine r_load1 rfl TF.agg80 rfl ?_
      refine r_callO hq rfl rfl (.cons (.ev rfl rfl) .nil) (cloneN_ok ((l.map (enc h)).map fun x => [x]) (by rw [hKL]; exact hKo.1 _ (by simp)) (by rw [hKL]; exact hKo.2 _ (by simp)) (by rw [hKL]; intro e; rw [List.map_eq_nil_iff] at e; rw [e] at hl2; simp at hl2) (by simp; omega)) rfl TF.en79 (by first | exact List.Sublist.refl _ | exact .cons_cons _ (.cons _ (.refl _)) | exact List.nil_sublist _ | exact .cons _ (.refl _) | exact .cons _ (.cons _ (.refl _)) | exact .cons _ (.cons _ (.cons _ (.refl _))) | exact .cons _ (.cons _ (.cons _ (.cons _ (.refl _)))) | exact .cons_cons _ (List.nil_sublist _)) rfl (fun r nobjs hr => ?_)
      obtain ⟨g, cap, ext, rfl, rfl, hq1, hq2⟩ := hr
      rw [hKL] at hq1 hq2
      have hq3 : l.length + ext.length = cap := by have := hq2; rw [List.length_append, flat_len (hKo.1 _ (by simp))] at this; simpa using this
      refine r_assign rfl rfl ?_
      refine awl_nil ?_
      refine x_then ?_
      refine awp_seq ?_
      refine awp_region ?_
      refine r_move rfl rfl ?_
      refine r_move rfl rfl ?_
      refine r_move rfl rfl ?_
      refine awl_imp (imp_le 69 rfl (SV.le.avEq (enc_eq h c))) ?_
      refine r_indexV rfl rfl TF.sl80 TF.sz36 (by omega) (by simp; omega) rfl ?_
      refine r_store 0 rfl rfl rfl TF.sz36 rfl (Nat.ble_eq_true_of_le (by rw [hKL, List.length_append, flat_len (hKo.1 _ (by simp)), List.length_map]; show 0 + i * 1 + 1 ≤ _; omega)) rfl ?_
      refine awl_nil ?_
      refine x_then ?_
      refine awp_seq ?_
      refine awp_seq ?_
      refine awp_region ?_
      refine awl_imp (imp_commitS 0 13 (sz := 1) (l := ((l.set i c).map fun n => [enc h n])) (ext := ext) rfl rfl (by rw [hKL, ← flat_setN hil, enc_eq h c]; rfl) (by simp) (by simp at hq1 ⊢; omega) ((encs_ok (h := h) (ls := [((l.set i c).map fun n => [enc h n])]) (L := l.set i c) (by simp)).1 _ (by simp)) (by simp only [List.length_append, List.length_take, List.length_drop, hKL, flat_len (hKo.1 _ (List.mem_singleton.2 rfl)), List.length_map]; show min (0 + i * 1) (l.length * 1 + ext.length) + 1 + (l.length * 1 + ext.length - (0 + i * 1 + 1)) = cap * 1; omega) ((encs_ok (h := h) (ls := [((l.set i c).map fun n => [enc h n])]) (L := l.set i c) (by simp)).2 _ (by simp))) ?_
      refine r_move rfl rfl ?_
      refine awl_imp (imp_le 71 rfl (SV.le.avEq (enc_eq h c))) ?_
      refine r_call0 hq rfl rfl (.cons (.ev rfl rfl) .nil) (size_ok c.1 (keysOf h c.2) (valsOf h c.2) (kidsOf h c.2) (by rw [keysOf_len]; have := hcw.hi; omega)) rfl TF.en80 rfl (fun r hr => ?_)
      obtain rfl := hr
      rw [size_eq]
      refine r_cmp rfl rfl rfl rfl ?_
      refine r_move rfl rfl ?_
      refine g_cases (t' := 74) rfl (fun hg74 => ?_) (fun hg74 => ?_)
      ·
       have hs2 : c.2.length < 2 := by have := of_decide_eq_true hg74; omega
       refine g_run rfl rfl hg74 ?_
       refine r_move rfl rfl ?_
       refine g_run rfl rfl hg74 ?_
       refine r_lenS rfl rfl TF.sl80 rfl ?_
       refine g_run rfl rfl hg74 ?_
       refine r_cmp rfl rfl rfl rfl ?_
       refine r_pickT rfl hg74 rfl rfl ?_
       refine awl_nil ?_
       refine x_then ?_
       refine awp_cond rfl (fun hc4 => ?_) (fun hc4 => ?_)
       ·
        have h1l : 1 < l.length := by have := of_decide_eq_true hc4; simp at this; omega
        refine awp_seq ?_
        refine awp_seq ?_
        refine awp_region ?_
        refine r_move rfl rfl ?_
        refine r_move rfl rfl ?_
        refine r_lenS rfl rfl TF.sl80 rfl ?_
        refine r_ari _ rfl rfl rfl (wrap_id (by simp; omega)) rfl ?_
        refine r_cmp rfl rfl rfl rfl ?_
        refine awl_nil ?_
        refine x_then ?_
        refine awp_cond rfl (fun hc5 => ?_) (fun hc5 => ?_)
        ·
         have hij : i = l.length - 1 := by have := of_decide_eq_true hc5; simp at this; omega
         obtain ⟨ja, hja⟩ : ∃ x, (l.set i c)[(i - 1)]? = some x := get_lt (by rw [List.length_set]; omega)
         obtain ⟨jb, hjb⟩ : ∃ x, (l.set i c)[(i - 1) + 1]? = some x := get_lt (by rw [List.length_set]; omega)
         have hwa := hw1 ja (List.mem_of_getElem? hja)
         have hwb := hw1 jb (List.mem_of_getElem? hjb)
         refine awp_region ?_
         refine r_move rfl rfl ?_
         refine r_ari ((i - 1 : Nat) : Int) rfl rfl rfl (by rw [show (i : Int) - 1 = ((i - 1 : Nat) : Int) by omega]; exact wrap_id (by omega)) rfl ?_
         refine r_assign rfl rfl ?_
         refine awl_nil ?_
         refine x_then ?_
         refine awp_any (fun B S => ∃ jm : List (Nd h), ∃ sl : List (Nat × SV), S = ⟨107, sl, [⟨b3, true, .box k.cs⟩]⟩ ∧ find 10 sl = some (.a (.v (.int .i64 (((i - 1) : Nat))))) ∧ (B 0 = true → find 86 sl = some (.a (.sl 1 ((l.set i c).map fun n => [enc h n])))) ∧ (B 1 = true → find 87 sl = some (.a (.v (.int .i64 (((i - 1) : Nat)))))) ∧ (B 2 = true → find 88 sl = some (.a (.sl 1 (((l.set i c).map fun n => [enc h n]).take (i - 1))))) ∧ (B 3 = true → find 89 sl = some (.a (.sl 1 ((l.set i c).map fun n => [enc h n])))) ∧ (B 4 = true → find 90 sl = some (.a (.v (.int .i64 (((i - 1) : Nat)))))) ∧ (B 5 = true → find 91 sl = some (.a (.cp [enc h ja]))) ∧ (B 6 = true → find 92 sl = some (.a (enc h ja))) ∧ (B 7 = true → find 93 sl = some (.a (.sl 1 ((l.set i c).map fun n => [enc h n])))) ∧ (B 8 = true → find 94 sl = some (.a (.v (.int .i64 (((i - 1) : Nat)))))) ∧ (B 9 = true → find 95 sl = some (.a (.v (.int .i64 ((((i - 1) + 1 : Nat) : Int)))))) ∧ (B 10 = true → find 96 sl = some (.a (.cp [enc h jb]))) ∧ (B 11 = true → find 97 sl = some (.a (enc h jb))) ∧ (B 12 = true → find 98 sl = some (.a (.sl 1 (jm.map fun x => [enc h x])))) ∧ (B 13 = true → find 99 sl = some (.a (.sl 1 ((l.set i c).map fun n => [enc h n])))) ∧ (B 14 = true → find 100 sl = some (.a (.v (.int .i64 (((i - 1) : Nat)))))) ∧ (B 15 = true → find 101 sl = some (.a (.v (.int .i64 ((((i - 1) + 2 : Nat) : Int)))))) ∧ (B 16 = true → find 102 sl = some (.a (.sl 1 (((l.set i c).map fun n => [enc h n]).drop ((i - 1) + 2))))) ∧ (B 17 = true → find 103 sl = some (.a (.sl 1 ([((l.set i c).map fun n => [enc h n]).take (i - 1), jm.map fun x => [enc h x], ((l.set i c).map fun n => [enc h n]).drop ((i - 1) + 2)].map fun x => [.sl 1 x])))) ∧ (B 18 = true → find 104 sl = some (.a (.sl 1 ([((l.set i c).map fun n => [enc h n]).take (i - 1), jm.map fun x => [enc h x], ((l.set i c).map fun n => [enc h n]).drop ((i - 1) + 2)].flatten)))) ∧ (B 19 = true → find 13 sl = some (.a (.sl 1 ([((l.set i c).map fun n => [enc h n]).take (i - 1), jm.map fun x => [enc h x], ((l.set i c).map fun n => [enc h n]).drop ((i - 1) + 2)].flatten)))) ∧ (B 12 = true → JoinR ja jb jm) ∧ (B 19 = false → find 13 sl = some (.a (.sl 1 ((l.set i c).map fun n => [enc h n]))))) TF.mixed rfl ⟨[], _, rfl, rfl, (fun h => by cases h), (fun h => by cases h), (fun h => by cases h), (fun h => by cases h), (fun h => by cases h), (fun h => by cases h), (fun h => by cases h), (fun h => by cases h), (fun h => by cases h), (fun h => by cases h), (fun h => by cases h), (fun h => by cases h), (fun h => by cases h), (fun h => by cases h), (fun h => by cases h), (fun h => by cases h), (fun h => by cases h), (fun h => by cases h), (fun h => by cases h), (fun h => by cases h), (fun h => by cases h), (fun _ => rfl)⟩ ⟨⟨⟨⟨⟨⟨⟨⟨⟨⟨⟨⟨⟨⟨⟨⟨⟨⟨⟨⟨trivial
          , ⟨_, rfl, fun B S hBi hdep hcl => by
            rintro ⟨jm, sl, rfl, h10, f0, f1, f2, f3, f4, f5, f6, f7, f8, f9, f10, f11, f12, f13, f14, f15, f16, f17, f18, f19, p12, g13⟩
            refine r_move (g13 (by cases h : B 19 with | false => rfl | true => exact absurd (hcl 19 0 h rfl) (by rw [hBi]; decide))) rfl ?_
            exact awl_nil ⟨rfl, jm, _, rfl, h10, (fun h => rfl), f1, f2, f3, f4, f5, f6, f7, f8, f9, f10, f11, f12, f13, f14, f15, f16, f17, f18, f19, p12, g13⟩⟩⟩
          , ⟨_, rfl, fun B S hBi hdep hcl => by
            rintro ⟨jm, sl, rfl, h10, f0, f1, f2, f3, f4, f5, f6, f7, f8, f9, f10, f11, f12, f13, f14, f15, f16, f17, f18, f19, p12, g13⟩
            refine r_move h10 rfl ?_
            exact awl_nil ⟨rfl, jm, _, rfl, h10, f0, (fun h => rfl), f2, f3, f4, f5, f6, f7, f8, f9, f10, f11, f12, f13, f14, f15, f16, f17, f18, f19, p12, g13⟩⟩⟩
          , ⟨_, rfl, fun B S hBi hdep hcl => by
            rintro ⟨jm, sl, rfl, h10, f0, f1, f2, f3, f4, f5, f6, f7, f8, f9, f10, f11, f12, f13, f14, f15, f16, f17, f18, f19, p12, g13⟩
            refine r_sliceH (f0 (hdep 0 rfl)) rfl (f1 (hdep 1 rfl)) TF.sl80 TF.sz36 (by omega) (by simp; omega) rfl ?_
            exact awl_nil ⟨rfl, jm, _, rfl, h10, f0, f1, (fun h => rfl), f3, f4, f5, f6, f7, f8, f9, f10, f11, f12, f13, f14, f15, f16, f17, f18, f19, p12, g13⟩⟩⟩
          , ⟨_, rfl, fun B S hBi hdep hcl => by
            rintro ⟨jm, sl, rfl, h10, f0, f1, f2, f3, f4, f5, f6, f7, f8, f9, f10, f11, f12, f13, f14, f15, f16, f17, f18, f19, p12, g13⟩
            refine r_move (g13 (by cases h : B 19 with | false => rfl | true => exact absurd (hcl 19 3 h rfl) (by rw [hBi]; decide))) rfl ?_
            exact awl_nil ⟨rfl, jm, _, rfl, h10, f0, f1, f2, (fun h => rfl), f4, f5, f6, f7, f8, f9, f10, f11, f12, f13, f14, f15, f16, f17, f18, f19, p12, g13⟩⟩⟩
          , ⟨_, rfl, fun B S hBi hdep hcl => by
            rintro ⟨jm, sl, rfl, h10, f0, f1, f2, f3, f4, f5, f6, f7, f8, f9, f10, f11, f12, f13, f14, f15, f16, f17, f18, f19, p12, g13⟩
            refine r_move h10 rfl ?_
            exact awl_nil ⟨rfl, jm, _, rfl, h10, f0, f1, f2, f3, (fun h => rfl), f5, f6, f7, f8, f9, f10, f11, f12, f13, f14, f15, f16, f17, f18, f19, p12, g13⟩⟩⟩
          , ⟨_, rfl, fun B S hBi hdep hcl => by
            rintro ⟨jm, sl, rfl, h10, f0, f1, f2, f3, f4, f5, f6, f7, f8, f9, f10, f11, f12, f13, f14, f15, f16, f17, f18, f19, p12, g13⟩
            refine r_index (f3 (hdep 3 rfl)) rfl (f4 (hdep 4 rfl)) TF.sl80 TF.sz36 (by omega) (get_map hja) rfl ?_
            exact awl_nil ⟨rfl, jm, _, rfl, h10, f0, f1, f2, f3, f4, (fun h => rfl), f6, f7, f8, f9, f10, f11, f12, f13, f14, f15, f16, f17, f18, f19, p12, g13⟩⟩⟩
          , ⟨_, rfl, fun B S hBi hdep hcl => by
            rintro ⟨jm, sl, rfl, h10, f0, f1, f2, f3, f4, f5, f6, f7, f8, f9, f10, f11, f12, f13, f14, f15, f16, f17, f18, f19, p12, g13⟩
            refine r_load1 (f5 (hdep 5 rfl)) TF.agg36 rfl ?_
            exact awl_nil ⟨rfl, jm, _, rfl, h10, f0, f1, f2, f3, f4, f5, (fun h => rfl), f7, f8, f9, f10, f11, f12, f13, f14, f15, f16, f17, f18, f19, p12, g13⟩⟩⟩
          , ⟨_, rfl, fun B S hBi hdep hcl => by
            rintro ⟨jm, sl, rfl, h10, f0, f1, f2, f3, f4, f5, f6, f7, f8, f9, f10, f11, f12, f13, f14, f15, f16, f17, f18, f19, p12, g13⟩
            refine r_move (g13 (by cases h : B 19 with | false => rfl | true => exact absurd (hcl 19 7 h rfl) (by rw [hBi]; decide))) rfl ?_
            exact awl_nil ⟨rfl, jm, _, rfl, h10, f0, f1, f2, f3, f4, f5, f6, (fun h => rfl), f8, f9, f10, f11, f12, f13, f14, f15, f16, f17, f18, f19, p12, g13⟩⟩⟩
          , ⟨_, rfl, fun B S hBi hdep hcl => by
            rintro ⟨jm, sl, rfl, h10, f0, f1, f2, f3, f4, f5, f6, f7, f8, f9, f10, f11, f12, f13, f14, f15, f16, f17, f18, f19, p12, g13⟩
            refine r_move h10 rfl ?_
            exact awl_nil ⟨rfl, jm, _, rfl, h10, f0, f1, f2, f3, f4, f5, f6, f7, (fun h => rfl), f9, f10, f11, f12, f13, f14, f15, f16, f17, f18, f19, p12, g13⟩⟩⟩
          , ⟨_, rfl, fun B S hBi hdep hcl => by
            rintro ⟨jm, sl, rfl, h10, f0, f1, f2, f3, f4, f5, f6, f7, f8, f9, f10, f11, f12, f13, f14, f15, f16, f17, f18, f19, p12, g13⟩
            refine r_ari (((i - 1) + 1 : Nat) : Int) (f8 (hdep 8 rfl)) rfl rfl (wrap_id (by omega)) rfl ?_
            exact awl_nil ⟨rfl, jm, _, rfl, h10, f0, f1, f2, f3, f4, f5, f6, f7, f8, (fun h => rfl), f10, f11, f12, f13, f14, f15, f16, f17, f18, f19, p12, g13⟩⟩⟩
          , ⟨_, rfl, fun B S hBi hdep hcl => by
            rintro ⟨jm, sl, rfl, h10, f0, f1, f2, f3, f4, f5, f6, f7, f8, f9, f10, f11, f12, f13, f14, f15, f16, f17, f18, f19, p12, g13⟩
            refine r_index (f7 (hdep 7 rfl)) rfl (f9 (hdep 9 rfl)) TF.sl80 TF.sz36 (by omega) (get_map hjb) rfl ?_
            exact awl_nil ⟨rfl, jm, _, rfl, h10, f0, f1, f2, f3, f4, f5, f6, f7, f8, f9, (fun h => rfl), f11, f12, f13, f14, f15, f16, f17, f18, f19, p12, g13⟩⟩⟩
          , ⟨_, rfl, fun B S hBi hdep hcl => by
            rintro ⟨jm, sl, rfl, h10, f0, f1, f2, f3, f4, f5, f6, f7, f8, f9, f10, f11, f12, f13, f14, f15, f16, f17, f18, f19, p12, g13⟩
            refine r_load1 (f10 (hdep 10 rfl)) TF.agg36 rfl ?_
            exact awl_nil ⟨rfl, jm, _, rfl, h10, f0, f1, f2, f3, f4, f5, f6, f7, f8, f9, f10, (fun h => rfl), f12, f13, f14, f15, f16, f17, f18, f19, p12, g13⟩⟩⟩
          , ⟨_, rfl, fun B S hBi hdep hcl => by
            rintro ⟨jm, sl, rfl, h10, f0, f1, f2, f3, f4, f5, f6, f7, f8, f9, f10, f11, f12, f13, f14, f15, f16, f17, f18, f19, p12, g13⟩
            refine r_call0 hq rfl rfl (.cons (.ev (f6 (hdep 6 rfl)) rfl) (.cons (.ev (f11 (hdep 11 rfl)) rfl) .nil)) (join_ok h ja jb hwa hwb) rfl TF.en81 rfl (fun r hr => ?_)
            obtain ⟨jq, hjq, rfl⟩ := hr
            exact awl_nil ⟨rfl, jq, _, rfl, h10, f0, f1, f2, f3, f4, f5, f6, f7, f8, f9, f10, f11, (fun h => rfl), f13, f14, f15, f16, (fun h => absurd (hcl 17 12 h rfl) (by rw [hBi]; decide)), (fun h => absurd (hcl 18 12 h rfl) (by rw [hBi]; decide)), (fun h => absurd (hcl 19 12 h rfl) (by rw [hBi]; decide)), (fun _ => hjq), g13⟩⟩⟩
          , ⟨_, rfl, fun B S hBi hdep hcl => by
            rintro ⟨jm, sl, rfl, h10, f0, f1, f2, f3, f4, f5, f6, f7, f8, f9, f10, f11, f12, f13, f14, f15, f16, f17, f18, f19, p12, g13⟩
            refine r_move (g13 (by cases h : B 19 with | false => rfl | true => exact absurd (hcl 19 13 h rfl) (by rw [hBi]; decide))) rfl ?_
            exact awl_nil ⟨rfl, jm, _, rfl, h10, f0, f1, f2, f3, f4, f5, f6, f7, f8, f9, f10, f11, f12, (fun h => rfl), f14, f15, f16, f17, f18, f19, p12, g13⟩⟩⟩
          , ⟨_, rfl, fun B S hBi hdep hcl => by
            rintro ⟨jm, sl, rfl, h10, f0, f1, f2, f3, f4, f5, f6, f7, f8, f9, f10, f11, f12, f13, f14, f15, f16, f17, f18, f19, p12, g13⟩
            refine r_move h10 rfl ?_
            exact awl_nil ⟨rfl, jm, _, rfl, h10, f0, f1, f2, f3, f4, f5, f6, f7, f8, f9, f10, f11, f12, f13, (fun h => rfl), f15, f16, f17, f18, f19, p12, g13⟩⟩⟩
          , ⟨_, rfl, fun B S hBi hdep hcl => by
            rintro ⟨jm, sl, rfl, h10, f0, f1, f2, f3, f4, f5, f6, f7, f8, f9, f10, f11, f12, f13, f14, f15, f16, f17, f18, f19, p12, g13⟩
            refine r_ari (((i - 1) + 2 : Nat) : Int) (f14 (hdep 14 rfl)) rfl rfl (wrap_id (by omega)) rfl ?_
            exact awl_nil ⟨rfl, jm, _, rfl, h10, f0, f1, f2, f3, f4, f5, f6, f7, f8, f9, f10, f11, f12, f13, f14, (fun h => rfl), f16, f17, f18, f19, p12, g13⟩⟩⟩
          , ⟨_, rfl, fun B S hBi hdep hcl => by
            rintro ⟨jm, sl, rfl, h10, f0, f1, f2, f3, f4, f5, f6, f7, f8, f9, f10, f11, f12, f13, f14, f15, f16, f17, f18, f19, p12, g13⟩
            refine r_sliceL (f13 (hdep 13 rfl)) rfl (f15 (hdep 15 rfl)) TF.sl80 TF.sz36 (by omega) (by simp; omega) rfl ?_
            exact awl_nil ⟨rfl, jm, _, rfl, h10, f0, f1, f2, f3, f4, f5, f6, f7, f8, f9, f10, f11, f12, f13, f14, f15, (fun h => rfl), f17, f18, f19, p12, g13⟩⟩⟩
          , ⟨_, rfl, fun B S hBi hdep hcl => by
            rintro ⟨jm, sl, rfl, h10, f0, f1, f2, f3, f4, f5, f6, f7, f8, f9, f10, f11, f12, f13, f14, f15, f16, f17, f18, f19, p12, g13⟩
            refine r_litC (parts := [(0, .tmp 88), (1, .tmp 98), (2, .tmp 102)]) rfl TF.sl150 TF.sz80 TF.zraw80 rfl rfl rfl (parts_cons (f2 (hdep 2 rfl)) (parts_cons (f12 (hdep 12 rfl)) (parts_cons (f16 (hdep 16 rfl)) parts_nil))) rfl rfl rfl rfl ?_
            exact awl_nil ⟨rfl, jm, _, rfl, h10, f0, f1, f2, f3, f4, f5, f6, f7, f8, f9, f10, f11, f12, f13, f14, f15, f16, (fun h => rfl), f18, f19, p12, g13⟩⟩⟩
          , ⟨_, rfl, fun B S hBi hdep hcl => by
            rintro ⟨jm, sl, rfl, h10, f0, f1, f2, f3, f4, f5, f6, f7, f8, f9, f10, f11, f12, f13, f14, f15, f16, f17, f18, f19, p12, g13⟩
            have hjm := (joinR_wf (lo := 1) (by omega) hwa hwb (by have := hwa.lo; omega) (p12 (hcl 17 12 (hdep 17 rfl) rfl)))
            have hfl := join_eq (l.set i c) jm (i - 1)
            refine r_call0 hq rfl rfl (.cons (.ev (f17 (hdep 17 rfl)) rfl) .nil) (concatN_ok [((l.set i c).map fun n => [enc h n]).take (i - 1), jm.map fun x => [enc h x], ((l.set i c).map fun n => [enc h n]).drop ((i - 1) + 2)] (encs_ok hfl).1 (encs_ok hfl).2 (by rw [hfl, List.length_map]; simp only [List.length_append]; omega) (by rw [hfl, List.length_map]; simp only [List.length_append, List.length_take, List.length_drop, List.length_set]; omega) (by simp)) rfl TF.en63 rfl (fun r hr => ?_)
            obtain rfl := hr
            exact awl_nil ⟨rfl, jm, _, rfl, h10, f0, f1, f2, f3, f4, f5, f6, f7, f8, f9, f10, f11, f12, f13, f14, f15, f16, f17, (fun h => rfl), f19, p12, g13⟩⟩⟩
          , ⟨_, rfl, fun B S hBi hdep hcl => by
            rintro ⟨jm, sl, rfl, h10, f0, f1, f2, f3, f4, f5, f6, f7, f8, f9, f10, f11, f12, f13, f14, f15, f16, f17, f18, f19, p12, g13⟩
            refine r_assign (f18 (hdep 18 rfl)) rfl ?_
            exact awl_nil ⟨rfl, jm, _, rfl, h10, f0, f1, f2, f3, f4, f5, f6, f7, f8, f9, f10, f11, f12, f13, f14, f15, f16, f17, f18, (fun h => rfl), p12, (fun h => by cases (show true = false from h))⟩⟩⟩
          (fun B S hall => by
           rintro ⟨jm, sl, rfl, h10, f0, f1, f2, f3, f4, f5, f6, f7, f8, f9, f10, f11, f12, f13, f14, f15, f16, f17, f18, f19, p12, g13⟩
           have hp12 := p12 (hall 12 (by decide))
           refine x_then ?_
           refine awp_weaken (S' := ⟨107, [(10, .a (.v (.int .i64 (((i - 1) : Nat))))), (13, .a (.sl 1 ([((l.set i c).map fun n => [enc h n]).take (i - 1), jm.map fun x => [enc h x], ((l.set i c).map fun n => [enc h n]).drop ((i - 1) + 2)].flatten)))], [⟨b3, true, .box k.cs⟩]⟩) ⟨rfl, (Slots.cons h10 (.refl _) (Slots.cons (f19 (hall 19 (by decide))) (.refl _) Slots.nil)), (List.Sublist.refl _)⟩ ?_
           refine awp_seq ?_
           refine awp_region ?_
           refine r_move rfl rfl ?_
           have hjm := (joinR_wf (lo := 1) (by omega) hwa hwb (by have := hwa.lo; omega) hp12)
           have hfl := join_eq (l.set i c) jm (i - 1)
           refine r_call0 hq rfl rfl (.cons (.ev rfl rfl) .nil) (over_ok h ((l.set i c).take (i - 1) ++ jm ++ (l.set i c).drop ((i - 1) + 2)) (three_mem hw1 hjm.1) (by simp only [List.length_append]; omega) (by simp only [List.length_append, List.length_take, List.length_drop, List.length_set]; omega) _ hfl) rfl TF.en82 rfl (fun r hr => ?_)
           obtain ⟨b106, rfl⟩ := hr
           refine r_assign rfl rfl ?_
           refine r_assign rfl rfl ?_
           refine awl_nil ?_
           refine x_then ?_
           refine awp_ret ?_
           exact ⟨(.inl rfl), _, [], (.two (by first | exact .mk rfl rfl | exact .nil rfl) (by first | exact .mk rfl rfl | exact .nil rfl)), ⟨rfl, some (b106, ((l.set i c).take (i - 1) ++ jm ++ (l.set i c).drop ((i - 1) + 2))), ⟨kid, some c, by rw [← hi]; exact hkid, hp8, b106, ((l.set i c).take (i - 1) ++ jm ++ (l.set i c).drop ((i - 1) + 2)), by unfold FixR; rw [if_pos ⟨hs2, h1l⟩, ← hi]; exact ⟨(i - 1), ja, jb, jm, by rw [if_pos hij], hja, hjb, hp12, rfl⟩, rfl⟩, rfl⟩, (List.nil_sublist _), (by simp)⟩)
        ·
         have hij : ¬ i = l.length - 1 := by have := of_decide_eq_false hc5; simp at this; omega
         obtain ⟨ja, hja⟩ : ∃ x, (l.set i c)[i]? = some x := get_lt (by rw [List.length_set]; omega)
         obtain ⟨jb, hjb⟩ : ∃ x, (l.set i c)[i + 1]? = some x := get_lt (by rw [List.length_set]; omega)
         have hwa := hw1 ja (List.mem_of_getElem? hja)
         have hwb := hw1 jb (List.mem_of_getElem? hjb)
         refine awp_skip ?_
         refine x_then ?_
         refine awp_any (fun B S => ∃ jm : List (Nd h), ∃ sl : List (Nat × SV), S = ⟨107, sl, [⟨b3, true, .box k.cs⟩]⟩ ∧ find 10 sl = some (.a (.v (.int .i64 ((i : Nat))))) ∧ (B 0 = true → find 86 sl = some (.a (.sl 1 ((l.set i c).map fun n => [enc h n])))) ∧ (B 1 = true → find 87 sl = some (.a (.v (.int .i64 ((i : Nat)))))) ∧ (B 2 = true → find 88 sl = some (.a (.sl 1 (((l.set i c).map fun n => [enc h n]).take i)))) ∧ (B 3 = true → find 89 sl = some (.a (.sl 1 ((l.set i c).map fun n => [enc h n])))) ∧ (B 4 = true → find 90 sl = some (.a (.v (.int .i64 ((i : Nat)))))) ∧ (B 5 = true → find 91 sl = some (.a (.cp [enc h ja]))) ∧ (B 6 = true → find 92 sl = some (.a (enc h ja))) ∧ (B 7 = true → find 93 sl = some (.a (.sl 1 ((l.set i c).map fun n => [enc h n])))) ∧ (B 8 = true → find 94 sl = some (.a (.v (.int .i64 ((i : Nat)))))) ∧ (B 9 = true → find 95 sl = some (.a (.v (.int .i64 (((i + 1 : Nat) : Int)))))) ∧ (B 10 = true → find 96 sl = some (.a (.cp [enc h jb]))) ∧ (B 11 = true → find 97 sl = some (.a (enc h jb))) ∧ (B 12 = true → find 98 sl = some (.a (.sl 1 (jm.map fun x => [enc h x])))) ∧ (B 13 = true → find 99 sl = some (.a (.sl 1 ((l.set i c).map fun n => [enc h n])))) ∧ (B 14 = true → find 100 sl = some (.a (.v (.int .i64 ((i : Nat)))))) ∧ (B 15 = true → find 101 sl = some (.a (.v (.int .i64 (((i + 2 : Nat) : Int)))))) ∧ (B 16 = true → find 102 sl = some (.a (.sl 1 (((l.set i c).map fun n => [enc h n]).drop (i + 2))))) ∧ (B 17 = true → find 103 sl = some (.a (.sl 1 ([((l.set i c).map fun n => [enc h n]).take i, jm.map fun x => [enc h x], ((l.set i c).map fun n => [enc h n]).drop (i + 2)].map fun x => [.sl 1 x])))) ∧ (B 18 = true → find 104 sl = some (.a (.sl 1 ([((l.set i c).map fun n => [enc h n]).take i, jm.map fun x => [enc h x], ((l.set i c).map fun n => [enc h n]).drop (i + 2)].flatten)))) ∧ (B 19 = true → find 13 sl = some (.a (.sl 1 ([((l.set i c).map fun n => [enc h n]).take i, jm.map fun x => [enc h x], ((l.set i c).map fun n => [enc h n]).drop (i + 2)].flatten)))) ∧ (B 12 = true → JoinR ja jb jm) ∧ (B 19 = false → find 13 sl = some (.a (.sl 1 ((l.set i c).map fun n => [enc h n]))))) TF.mixed rfl ⟨[], _, rfl, rfl, (fun h => by cases h), (fun h => by cases h), (fun h => by cases h), (fun h => by cases h), (fun h => by cases h), (fun h => by cases h), (fun h => by cases h), (fun h => by cases h), (fun h => by cases h), (fun h => by cases h), (fun h => by cases h), (fun h => by cases h), (fun h => by cases h), (fun h => by cases h), (fun h => by cases h), (fun h => by cases h), (fun h => by cases h), (fun h => by cases h), (fun h => by cases h), (fun h => by cases h), (fun h => by cases h), (fun _ => rfl)⟩ ⟨⟨⟨⟨⟨⟨⟨⟨⟨⟨⟨⟨⟨⟨⟨⟨⟨⟨⟨⟨trivial
          , ⟨_, rfl, fun B S hBi hdep hcl => by
            rintro ⟨jm, sl, rfl, h10, f0, f1, f2, f3, f4, f5, f6, f7, f8, f9, f10, f11, f12, f13, f14, f15, f16, f17, f18, f19, p12, g13⟩
            refine r_move (g13 (by cases h : B 19 with | false => rfl | true => exact absurd (hcl 19 0 h rfl) (by rw [hBi]; decide))) rfl ?_
            exact awl_nil ⟨rfl, jm, _, rfl, h10, (fun h => rfl), f1, f2, f3, f4, f5, f6, f7, f8, f9, f10, f11, f12, f13, f14, f15, f16, f17, f18, f19, p12, g13⟩⟩⟩
          , ⟨_, rfl, fun B S hBi hdep hcl => by
            rintro ⟨jm, sl, rfl, h10, f0, f1, f2, f3, f4, f5, f6, f7, f8, f9, f10, f11, f12, f13, f14, f15, f16, f17, f18, f19, p12, g13⟩
            refine r_move h10 rfl ?_
            exact awl_nil ⟨rfl, jm, _, rfl, h10, f0, (fun h => rfl), f2, f3, f4, f5, f6, f7, f8, f9, f10, f11, f12, f13, f14, f15, f16, f17, f18, f19, p12, g13⟩⟩⟩
          , ⟨_, rfl, fun B S hBi hdep hcl => by
            rintro ⟨jm, sl, rfl, h10, f0, f1, f2, f3, f4, f5, f6, f7, f8, f9, f10, f11, f12, f13, f14, f15, f16, f17, f18, f19, p12, g13⟩
            refine r_sliceH (f0 (hdep 0 rfl)) rfl (f1 (hdep 1 rfl)) TF.sl80 TF.sz36 (by omega) (by simp; omega) rfl ?_
            exact awl_nil ⟨rfl, jm, _, rfl, h10, f0, f1, (fun h => rfl), f3, f4, f5, f6, f7, f8, f9, f10, f11, f12, f13, f14, f15, f16, f17, f18, f19, p12, g13⟩⟩⟩
          , ⟨_, rfl, fun B S hBi hdep hcl => by
            rintro ⟨jm, sl, rfl, h10, f0, f1, f2, f3, f4, f5, f6, f7, f8, f9, f10, f11, f12, f13, f14, f15, f16, f17, f18, f19, p12, g13⟩
            refine r_move (g13 (by cases h : B 19 with | false => rfl | true => exact absurd (hcl 19 3 h rfl) (by rw [hBi]; decide))) rfl ?_
            exact awl_nil ⟨rfl, jm, _, rfl, h10, f0, f1, f2, (fun h => rfl), f4, f5, f6, f7, f8, f9, f10, f11, f12, f13, f14, f15, f16, f17, f18, f19, p12, g13⟩⟩⟩
          , ⟨_, rfl, fun B S hBi hdep hcl => by
            rintro ⟨jm, sl, rfl, h10, f0, f1, f2, f3, f4, f5, f6, f7, f8, f9, f10, f11, f12, f13, f14, f15, f16, f17, f18, f19, p12, g13⟩
            refine r_move h10 rfl ?_
            exact awl_nil ⟨rfl, jm, _, rfl, h10, f0, f1, f2, f3, (fun h => rfl), f5, f6, f7, f8, f9, f10, f11, f12, f13, f14, f15, f16, f17, f18, f19, p12, g13⟩⟩⟩
          , ⟨_, rfl, fun B S hBi hdep hcl => by
            rintro ⟨jm, sl, rfl, h10, f0, f1, f2, f3, f4, f5, f6, f7, f8, f9, f10, f11, f12, f13, f14, f15, f16, f17, f18, f19, p12, g13⟩
            refine r_index (f3 (hdep 3 rfl)) rfl (f4 (hdep 4 rfl)) TF.sl80 TF.sz36 (by omega) (get_map hja) rfl ?_
            exact awl_nil ⟨rfl, jm, _, rfl, h10, f0, f1, f2, f3, f4, (fun h => rfl), f6, f7, f8, f9, f10, f11, f12, f13, f14, f15, f16, f17, f18, f19, p12, g13⟩⟩⟩
          , ⟨_, rfl, fun B S hBi hdep hcl => by
            rintro ⟨jm, sl, rfl, h10, f0, f1, f2, f3, f4, f5, f6, f7, f8, f9, f10, f11, f12, f13, f14, f15, f16, f17, f18, f19, p12, g13⟩
            refine r_load1 (f5 (hdep 5 rfl)) TF.agg36 rfl ?_
            exact awl_nil ⟨rfl, jm, _, rfl, h10, f0, f1, f2, f3, f4, f5, (fun h => rfl), f7, f8, f9, f10, f11, f12, f13, f14, f15, f16, f17, f18, f19, p12, g13⟩⟩⟩
          , ⟨_, rfl, fun B S hBi hdep hcl => by
            rintro ⟨jm, sl, rfl, h10, f0, f1, f2, f3, f4, f5, f6, f7, f8, f9, f10, f11, f12, f13, f14, f15, f16, f17, f18, f19, p12, g13⟩
            refine r_move (g13 (by cases h : B 19 with | false => rfl | true => exact absurd (hcl 19 7 h rfl) (by rw [hBi]; decide))) rfl ?_
            exact awl_nil ⟨rfl, jm, _, rfl, h10, f0, f1, f2, f3, f4, f5, f6, (fun h => rfl), f8, f9, f10, f11, f12, f13, f14, f15, f16, f17, f18, f19, p12, g13⟩⟩⟩
          , ⟨_, rfl, fun B S hBi hdep hcl => by
            rintro ⟨jm, sl, rfl, h10, f0, f1, f2, f3, f4, f5, f6, f7, f8, f9, f10, f11, f12, f13, f14, f15, f16, f17, f18, f19, p12, g13⟩
            refine r_move h10 rfl ?_
            exact awl_nil ⟨rfl, jm, _, rfl, h10, f0, f1, f2, f3, f4, f5, f6, f7, (fun h => rfl), f9, f10, f11, f12, f13, f14, f15, f16, f17, f18, f19, p12, g13⟩⟩⟩
          , ⟨_, rfl, fun B S hBi hdep hcl => by
            rintro ⟨jm, sl, rfl, h10, f0, f1, f2, f3, f4, f5, f6, f7, f8, f9, f10, f11, f12, f13, f14, f15, f16, f17, f18, f19, p12, g13⟩
            refine r_ari ((i + 1 : Nat) : Int) (f8 (hdep 8 rfl)) rfl rfl (wrap_id (by omega)) rfl ?_
            exact awl_nil ⟨rfl, jm, _, rfl, h10, f0, f1, f2, f3, f4, f5, f6, f7, f8, (fun h => rfl), f10, f11, f12, f13, f14, f15, f16, f17, f18, f19, p12, g13⟩⟩⟩
          , ⟨_, rfl, fun B S hBi hdep hcl => by
            rintro ⟨jm, sl, rfl, h10, f0, f1, f2, f3, f4, f5, f6, f7, f8, f9, f10, f11, f12, f13, f14, f15, f16, f17, f18, f19, p12, g13⟩
            refine r_index (f7 (hdep 7 rfl)) rfl (f9 (hdep 9 rfl)) TF.sl80 TF.sz36 (by omega) (get_map hjb) rfl ?_
            exact awl_nil ⟨rfl, jm, _, rfl, h10, f0, f1, f2, f3, f4, f5, f6, f7, f8, f9, (fun h => rfl), f11, f12, f13, f14, f15, f16, f17, f18, f19, p12, g13⟩⟩⟩
          , ⟨_, rfl, fun B S hBi hdep hcl => by
            rintro ⟨jm, sl, rfl, h10, f0, f1, f2, f3, f4, f5, f6, f7, f8, f9, f10, f11, f12, f13, f14, f15, f16, f17, f18, f19, p12, g13⟩
            refine r_load1 (f10 (hdep 10 rfl)) TF.agg36 rfl ?_
            exact awl_nil ⟨rfl, jm, _, rfl, h10, f0, f1, f2, f3, f4, f5, f6, f7, f8, f9, f10, (fun h => rfl), f12, f13, f14, f15, f16, f17, f18, f19, p12, g13⟩⟩⟩
          , ⟨_, rfl, fun B S hBi hdep hcl => by
            rintro ⟨jm, sl, rfl, h10, f0, f1, f2, f3, f4, f5, f6, f7, f8, f9, f10, f11, f12, f13, f14, f15, f16, f17, f18, f19, p12, g13⟩
            refine r_call0 hq rfl rfl (.cons (.ev (f6 (hdep 6 rfl)) rfl) (.cons (.ev (f11 (hdep 11 rfl)) rfl) .nil)) (join_ok h ja jb hwa hwb) rfl TF.en81 rfl (fun r hr => ?_)
            obtain ⟨jq, hjq, rfl⟩ := hr
            exact awl_nil ⟨rfl, jq, _, rfl, h10, f0, f1, f2, f3, f4, f5, f6, f7, f8, f9, f10, f11, (fun h => rfl), f13, f14, f15, f16, (fun h => absurd (hcl 17 12 h rfl) (by rw [hBi]; decide)), (fun h => absurd (hcl 18 12 h rfl) (by rw [hBi]; decide)), (fun h => absurd (hcl 19 12 h rfl) (by rw [hBi]; decide)), (fun _ => hjq), g13⟩⟩⟩
          , ⟨_, rfl, fun B S hBi hdep hcl => by
            rintro ⟨jm, sl, rfl, h10, f0, f1, f2, f3, f4, f5, f6, f7, f8, f9, f10, f11, f12, f13, f14, f15, f16, f17, f18, f19, p12, g13⟩
            refine r_move (g13 (by cases h : B 19 with | false => rfl | true => exact absurd (hcl 19 13 h rfl) (by rw [hBi]; decide))) rfl ?_
            exact awl_nil ⟨rfl, jm, _, rfl, h10, f0, f1, f2, f3, f4, f5, f6, f7, f8, f9, f10, f11, f12, (fun h => rfl), f14, f15, f16, f17, f18, f19, p12, g13⟩⟩⟩
          , ⟨_, rfl, fun B S hBi hdep hcl => by
            rintro ⟨jm, sl, rfl, h10, f0, f1, f2, f3, f4, f5, f6, f7, f8, f9, f10, f11, f12, f13, f14, f15, f16, f17, f18, f19, p12, g13⟩
            refine r_move h10 rfl ?_
            exact awl_nil ⟨rfl, jm, _, rfl, h10, f0, f1, f2, f3, f4, f5, f6, f7, f8, f9, f10, f11, f12, f13, (fun h => rfl), f15, f16, f17, f18, f19, p12, g13⟩⟩⟩
          , ⟨_, rfl, fun B S hBi hdep hcl => by
            rintro ⟨jm, sl, rfl, h10, f0, f1, f2, f3, f4, f5, f6, f7, f8, f9, f10, f11, f12, f13, f14, f15, f16, f17, f18, f19, p12, g13⟩
            refine r_ari ((i + 2 : Nat) : Int) (f14 (hdep 14 rfl)) rfl rfl (wrap_id (by omega)) rfl ?_
            exact awl_nil ⟨rfl, jm, _, rfl, h10, f0, f1, f2, f3, f4, f5, f6, f7, f8, f9, f10, f11, f12, f13, f14, (fun h => rfl), f16, f17, f18, f19, p12, g13⟩⟩⟩
          , ⟨_, rfl, fun B S hBi hdep hcl => by
            rintro ⟨jm, sl, rfl, h10, f0, f1, f2, f3, f4, f5, f6, f7, f8, f9, f10, f11, f12, f13, f14, f15, f16, f17, f18, f19, p12, g13⟩
            refine r_sliceL (f13 (hdep 13 rfl)) rfl (f15 (hdep 15 rfl)) TF.sl80 TF.sz36 (by omega) (by simp; omega) rfl ?_
            exact awl_nil ⟨rfl, jm, _, rfl, h10, f0, f1, f2, f3, f4, f5, f6, f7, f8, f9, f10, f11, f12, f13, f14, f15, (fun h => rfl), f17, f18, f19, p12, g13⟩⟩⟩
          , ⟨_, rfl, fun B S hBi hdep hcl => by
            rintro ⟨jm, sl, rfl, h10, f0, f1, f2, f3, f4, f5, f6, f7, f8, f9, f10, f11, f12, f13, f14, f15, f16, f17, f18, f19, p12, g13⟩
            refine r_litC (parts := [(0, .tmp 88), (1, .tmp 98), (2, .tmp 102)]) rfl TF.sl150 TF.sz80 TF.zraw80 rfl rfl rfl (parts_cons (f2 (hdep 2 rfl)) (parts_cons (f12 (hdep 12 rfl)) (parts_cons (f16 (hdep 16 rfl)) parts_nil))) rfl rfl rfl rfl ?_
            exact awl_nil ⟨rfl, jm, _, rfl, h10, f0, f1, f2, f3, f4, f5, f6, f7, f8, f9, f10, f11, f12, f13, f14, f15, f16, (fun h => rfl), f18, f19, p12, g13⟩⟩⟩
          , ⟨_, rfl, fun B S hBi hdep hcl => by
            rintro ⟨jm, sl, rfl, h10, f0, f1, f2, f3, f4, f5, f6, f7, f8, f9, f10, f11, f12, f13, f14, f15, f16, f17, f18, f19, p12, g13⟩
            have hjm := (joinR_wf (lo := 1) (by omega) hwa hwb (by have := hwa.lo; omega) (p12 (hcl 17 12 (hdep 17 rfl) rfl)))
            have hfl := join_eq (l.set i c) jm i
            refine r_call0 hq rfl rfl (.cons (.ev (f17 (hdep 17 rfl)) rfl) .nil) (concatN_ok [((l.set i c).map fun n => [enc h n]).take i, jm.map fun x => [enc h x], ((l.set i c).map fun n => [enc h n]).drop (i + 2)] (encs_ok hfl).1 (encs_ok hfl).2 (by rw [hfl, List.length_map]; simp only [List.length_append]; omega) (by rw [hfl, List.length_map]; simp only [List.length_append, List.length_take, List.length_drop, List.length_set]; omega) (by simp)) rfl TF.en63 rfl (fun r hr => ?_)
            obtain rfl := hr
            exact awl_nil ⟨rfl, jm, _, rfl, h10, f0, f1, f2, f3, f4, f5, f6, f7, f8, f9, f10, f11, f12, f13, f14, f15, f16, f17, (fun h => rfl), f19, p12, g13⟩⟩⟩
          , ⟨_, rfl, fun B S hBi hdep hcl => by
            rintro ⟨jm, sl, rfl, h10, f0, f1, f2, f3, f4, f5, f6, f7, f8, f9, f10, f11, f12, f13, f14, f15, f16, f17, f18, f19, p12, g13⟩
            refine r_assign (f18 (hdep 18 rfl)) rfl ?_
            exact awl_nil ⟨rfl, jm, _, rfl, h10, f0, f1, f2, f3, f4, f5, f6, f7, f8, f9, f10, f11, f12, f13, f14, f15, f16, f17, f18, (fun h => rfl), p12, (fun h => by cases (show true = false from h))⟩⟩⟩
          (fun B S hall => by
           rintro ⟨jm, sl, rfl, h10, f0, f1, f2, f3, f4, f5, f6, f7, f8, f9, f10, f11, f12, f13, f14, f15, f16, f17, f18, f19, p12, g13⟩
           have hp12 := p12 (hall 12 (by decide))
           refine x_then ?_
           refine awp_weaken (S' := ⟨107, [(10, .a (.v (.int .i64 ((i : Nat))))), (13, .a (.sl 1 ([((l.set i c).map fun n => [enc h n]).take i, jm.map fun x => [enc h x], ((l.set i c).map fun n => [enc h n]).drop (i + 2)].flatten)))], [⟨b3, true, .box k.cs⟩]⟩) ⟨rfl, (Slots.cons h10 (.refl _) (Slots.cons (f19 (hall 19 (by decide))) (.refl _) Slots.nil)), (List.Sublist.refl _)⟩ ?_
           refine awp_seq ?_
           refine awp_region ?_
           refine r_move rfl rfl ?_
           have hjm := (joinR_wf (lo := 1) (by omega) hwa hwb (by have := hwa.lo; omega) hp12)
           have hfl := join_eq (l.set i c) jm i
           refine r_call0 hq rfl rfl (.cons (.ev rfl rfl) .nil) (over_ok h ((l.set i c).take i ++ jm ++ (l.set i c).drop (i + 2)) (three_mem hw1 hjm.1) (by simp only [List.length_append]; omega) (by simp only [List.length_append, List.length_take, List.length_drop, List.length_set]; omega) _ hfl) rfl TF.en82 rfl (fun r hr => ?_)
           obtain ⟨b106, rfl⟩ := hr
           refine r_assign rfl rfl ?_
           refine r_assign rfl rfl ?_
           refine awl_nil ?_
           refine x_then ?_
           refine awp_ret ?_
           exact ⟨(.inl rfl), _, [], (.two (by first | exact .mk rfl rfl | exact .nil rfl) (by first | exact .mk rfl rfl | exact .nil rfl)), ⟨rfl, some (b106, ((l.set i c).take i ++ jm ++ (l.set i c).drop (i + 2))), ⟨kid, some c, by rw [← hi]; exact hkid, hp8, b106, ((l.set i c).take i ++ jm ++ (l.set i c).drop (i + 2)), by unfold FixR; rw [if_pos ⟨hs2, h1l⟩, ← hi]; exact ⟨i, ja, jb, jm, by rw [if_neg hij], hja, hjb, hp12, rfl⟩, rfl⟩, rfl⟩, (List.nil_sublist _), (by simp)⟩)
       ·
        have h1l : ¬ 1 < l.length := by have := of_decide_eq_false hc4; simp at this; omega
        refine awp_skip ?_
        refine x_then ?_
        refine awp_seq ?_
        refine awp_region ?_
        refine r_move rfl rfl ?_
        refine r_call0 hq rfl rfl (.cons (.ev rfl rfl) .nil) (over_ok h (l.set i c) hw1 (by rw [List.length_set]; exact hl0) (by rw [List.length_set]; omega) _ rfl) rfl TF.en82 rfl (fun r hr => ?_)
        obtain ⟨b106, rfl⟩ := hr
        refine r_assign rfl rfl ?_
        refine r_assign rfl rfl ?_
        refine awl_nil ?_
        refine x_then ?_
        refine awp_ret ?_
        exact ⟨(.inl rfl), _, [], (.two (by first | exact .mk rfl rfl | exact .nil rfl) (by first | exact .mk rfl rfl | exact .nil rfl)), ⟨rfl, some (b106, l.set i c), ⟨kid, some c, by rw [← hi]; exact hkid, hp8, b106, l.set i c, by unfold FixR; rw [if_neg (by show ¬(c.2.length < 2 ∧ 1 < l.length); omega), ← hi], rfl⟩, rfl⟩, (List.nil_sublist _), (by simp)⟩
      ·
       have hs2 : ¬ c.2.length < 2 := by have := of_decide_eq_false hg74; omega
       refine g_skip rfl rfl hg74 rfl ?_
       refine g_skip rfl rfl hg74 rfl ?_
       refine g_skip rfl rfl hg74 rfl ?_
       refine r_pickF rfl hg74 rfl rfl ?_
       refine awl_nil ?_
       refine x_then ?_
       refine awp_condF rfl ?_
       refine awp_skip ?_
       refine x_then ?_
       refine awp_seq ?_
       refine awp_region ?_
       refine r_move rfl rfl ?_
       refine r_call0 hq rfl rfl (.cons (.ev rfl rfl) .nil) (over_ok h (l.set i c) hw1 (by rw [List.length_set]; exact hl0) (by rw [List.length_set]; omega) _ rfl) rfl TF.en82 rfl (fun r hr => ?_)
       obtain ⟨b106, rfl⟩ := hr
       refine r_assign rfl rfl ?_
       refine r_assign rfl rfl ?_
       refine awl_nil ?_
       refine x_then ?_
       refine awp_ret ?_
       exact ⟨(.inl rfl), _, [], (.two (by first | exact .mk rfl rfl | exact .nil rfl) (by first | exact .mk rfl rfl | exact .nil rfl)), ⟨rfl, some (b106, l.set i c), ⟨kid, some c, by rw [← hi]; exact hkid, hp8, b106, l.set i c, by unfold FixR; rw [if_neg (by show ¬(c.2.length < 2 ∧ 1 < l.length); omega), ← hi], rfl⟩, rfl⟩, (List.nil_sublist _), (by simp)⟩)
end Go.Proofs.Ytljgdbgcleibjaa.A
namespace Go.Proofs.Ytljgdbgcleibjaa.A
open Go Go.RowKit
set_option linter.unusedVariables false
set_option linter.unusedSimpArgs false
set_option maxRecDepth 100000
theorem del_ok : ∀ (h : Nat) (n : Nd h), wfC 1 h n.2 → (0 < h → 2 ≤ n.2.length) → ∀ (k : Sp), AC Try.prog 54 [enc h n, spA k] [] (fun r nb => nb = [] ∧ ∃ cr, DelR h n k cr ∧ r = delA h n cr)
  | 0, n, hw, _, k => del_leaf n.1 (itsOf n) hw.1 hw.2 k
  | h + 1, n, hw, h2, k => del_inner h (fun m hm k => del_ok h m (hm.mono (by omega)) (fun _ => hm.lo) k) n.1 (kdsOf n) (h2 (Nat.succ_pos h)) hw.2.1 hw.2.2 k
theorem one_kid' {h : Nat} (b : Nat) (l : List (Nd h)) (e : (List.map (enc h) l).length = 1) : ∃ (h2 b2 : Nat) (x : Nd h2), (⟨h + 1, (b, l)⟩ : Sigma Nd) = ⟨h2 + 1, (b2, [x])⟩ := by
  rw [List.length_map] at e
  match l, e with
  | [x], _ => exact ⟨h, b, x, rfl⟩
theorem one_kid : ∀ (h : Nat) (c : Nd h), (kidsOf h c.2).length = 1 → ∃ (h2 b : Nat) (x : Nd h2), (⟨h, c⟩ : Sigma Nd) = ⟨h2 + 1, (b, [x])⟩
  | 0, c, e => by simp [kidsOf] at e
  | h + 1, c, e => one_kid' c.1 (kdsOf c) e
theorem rootOf_many' {h : Nat} (b : Nat) (l : List (Nd h)) (e : (List.map (enc h) l).length ≠ 1) : rootOf (h + 1) (b, l) = some ⟨h + 1, (b, l)⟩ := by
  rw [List.length_map] at e
  unfold rootOf
  split
  · rename_i x hx
    have hx' : l = [x] := hx
    rw [hx'] at e; simp at e
  · rfl
theorem rootOf_many : ∀ (h : Nat) (c : Nd h), 0 < h → (kidsOf h c.2).length ≠ 1 → rootOf h c = some ⟨h, c⟩
  | 0, c, h0, _ => by omega
  | h + 1, c, _, e => rootOf_many' c.1 (kdsOf c) e
theorem kids_leaf' {h : Nat} (l : List (Nd h)) (h1 : 1 ≤ l.length) (e : (List.map (enc h) l).isEmpty = true) : False := by
  cases l with
  | nil => simp at h1
  | cons x l => simp at e
theorem kids_leaf : ∀ (h : Nat) (c : Nd h), (0 < h → 1 ≤ c.2.length) → (kidsOf h c.2).isEmpty = true → h = 0
  | 0, _, _, _ => rfl
  | h + 1, c, h1, e => (kids_leaf' (kdsOf c) (h1 (Nat.succ_pos h)) e).elim
theorem kids_inner : ∀ (h : Nat) (c : Nd h), (kidsOf h c.2).isEmpty = false → 0 < h
  | 0, _, e => by simp [kidsOf] at e
  | h + 1, _, _ => Nat.succ_pos h
def delB (h : Nat) (n : Nd h) : Option (Nd h) → AV
  | none => enc h n
  | some c => encR (rootOf h c)
def wfD (h : Nat) (c : Nd h) : Prop := wfC 0 h c.2 ∧ (0 < h → 1 ≤ c.2.length)
theorem delR_wfD {h : Nat} {n c : Nd h} {k : Sp} (hw : wfC 1 h n.2) (h2 : 0 < h → 2 ≤ n.2.length) (hd : DelR h n k (some c)) : wfD h c := by
  refine ⟨delR_wf h (Nat.le_refl 1) hw h2 hd, fun h0 => ?_⟩
  exact (delR_wf h (Nat.le_succ 1) (hw.to (h2 h0)) h2 hd).lo
theorem Del_nil (k : Sp) : AC Try.prog 41 [nilP, spA k] [] (fun r n => n = [] ∧ r = .tup [nilP, boolA false]) := by
 refine ac_of_awp (rs := [4, 5]) (nt := 49) Try.func41 rfl rfl rfl rfl (fun w0 C0 hq => ?_)
 skip
 refine awp_seq ?_
 refine awp_region ?_
 refine r_box rfl rfl rfl (fun b3 => ?_)
 refine r_assign rfl rfl ?_
 refine r_assign rfl rfl ?_
 refine awl_nil ?_
 refine x_then ?_
 refine awp_seq ?_
 refine awp_region ?_
 refine r_move rfl rfl ?_
 refine r_loadAb 0 rfl rfl TF.agg47 TF.sz47 rfl rfl ?_
 refine r_call0 hq rfl rfl (.cons (.ev rfl rfl) (.cons (.ev rfl rfl) .nil)) (del_nil k) rfl TF.en54 rfl (fun r hr => ?_)
 obtain rfl := hr
 refine r_move rfl rfl ?_
 refine r_extract rfl rfl rfl ?_
 refine r_extract rfl rfl rfl ?_
 refine r_assign rfl rfl ?_
 refine r_assign rfl rfl ?_
 refine awl_nil ?_
 refine x_then ?_
 refine awp_seq ?_
 refine awp_seq ?_
 refine awp_region ?_
 refine r_move rfl rfl ?_
 refine r_not rfl rfl ?_
 refine awl_nil ?_
 refine x_then ?_
 refine awp_cond rfl (fun hc0 => ?_) (fun hc0 => ?_)
 ·
  skip
  refine awp_seq ?_
  refine awp_region ?_
  refine r_move rfl rfl ?_
  refine r_assign rfl rfl ?_
  refine r_assign rfl rfl ?_
  refine awl_nil ?_
  refine x_then ?_
  refine awp_ret ?_
  refine x_thenR ?_
  exact ⟨(.inl rfl), _, [], (.two (by first | exact .mk rfl rfl | exact .nil rfl) (by first | exact .mk rfl rfl | exact .nil rfl)), ⟨rfl, rfl⟩, (List.nil_sublist _), (by simp)⟩
 ·
  exfalso; cases hc0
theorem Del_ok (h : Nat) (n : Nd h) (hw : wfC 1 h n.2) (h2 : 0 < h → 2 ≤ n.2.length) (k : Sp) : AC Try.prog 41 [enc h n, spA k] [] (fun r nb => nb = [] ∧ ∃ cr, DelR h n k cr ∧ r = .tup [delB h n cr, boolA cr.isSome]) := by
 refine ac_of_awp (rs := [4, 5]) (nt := 49) Try.func41 rfl rfl rfl rfl (fun w0 C0 hq => ?_)
 refine awp_seq ?_
 refine awp_region ?_
 refine r_box rfl rfl rfl (fun b3 => ?_)
 refine r_assign rfl rfl ?_
 refine r_assign rfl rfl ?_
 refine awl_nil ?_
 refine x_then ?_
 refine awp_seq ?_
 refine awp_region ?_
 refine r_move rfl rfl ?_
 refine r_loadAb 0 rfl rfl TF.agg47 TF.sz47 rfl rfl ?_
 refine r_call0 hq rfl rfl (.cons (.ev rfl rfl) (.cons (.ev rfl rfl) .nil)) (del_ok h n hw h2 k) rfl TF.en54 rfl (fun r hr => ?_)
 obtain ⟨cr, hd, rfl⟩ := hr
 refine r_move rfl rfl ?_
 refine r_extract rfl rfl rfl ?_
 refine r_extract rfl rfl rfl ?_
 refine r_assign rfl rfl ?_
 refine r_assign rfl rfl ?_
 refine awl_nil ?_
 refine x_then ?_
 refine awp_seq ?_
 refine awp_seq ?_
 refine awp_region ?_
 refine r_move rfl rfl ?_
 refine r_not rfl rfl ?_
 refine awl_nil ?_
 refine x_then ?_
 refine awp_cond rfl (fun hc0 => ?_) (fun hc0 => ?_)
 ·
  obtain rfl : cr = none := by cases cr with | none => rfl | some c => cases hc0
  refine awp_seq ?_
  refine awp_region ?_
  refine r_move rfl rfl ?_
  refine r_assign rfl rfl ?_
  refine r_assign rfl rfl ?_
  refine awl_nil ?_
  refine x_then ?_
  refine awp_ret ?_
  refine x_thenR ?_
  exact ⟨(.inl rfl), _, [], (.two (by first | exact .mk rfl rfl | exact .nil rfl) (by first | exact .mk rfl rfl | exact .nil rfl)), ⟨rfl, none, hd, rfl⟩, (List.nil_sublist _), (by simp)⟩
 ·
  obtain ⟨c, rfl⟩ : ∃ c, cr = some c := by cases cr with | none => cases hc0 | some c => exact ⟨c, rfl⟩
  refine awp_skip ?_
  refine x_then ?_
  refine awp_seq ?_
  refine awp_block ?_
  refine awp_imp (imp_le 6 rfl (SV.le.avEq (enc_eq h c))) ?_
  refine awp_loop (fun nn0 S => ∃ q : Nat, ∃ e : Nd q, S = ⟨49, [(6, .a (ndA e.1 (keysOf q e.2) (valsOf q e.2) (kidsOf q e.2)))], []⟩ ∧ nn0 = 2 * q ∧ (wfD q e) ∧ (rootOf h c = rootOf q e)) (2 * (h)) ⟨49, [(6, .a (ndA (c).1 (keysOf (h) (c).2) (valsOf (h) (c).2) (kidsOf (h) (c).2)))], []⟩ ⟨rfl, (Slots.cons rfl (by first | exact .refl _ | exact .nilOwn _ _ | exact .nilSl _ | exact .ownSl _ _ _  | exact SV.le.of_eq (by simp)) Slots.nil), (by first | exact List.Sublist.refl _ | exact .cons_cons _ (.cons _ (.refl _)) | exact List.nil_sublist _ | exact .cons _ (.refl _) | exact .cons _ (.cons _ (.refl _)) | exact .cons _ (.cons _ (.cons _ (.refl _))) | exact .cons _ (.cons _ (.cons _ (.cons _ (.refl _)))) | exact .cons_cons _ (List.nil_sublist _))⟩ ⟨h, c, rfl, rfl, (delR_wfD hw h2 hd), rfl⟩ ?_
  rintro nn0 _ ⟨q, e, rfl, rfl, hwe, hro⟩
  refine awp_seq ?_
  refine awp_seq ?_
  refine awp_region ?_
  refine r_move rfl rfl ?_
  refine r_nilCheck rfl (by first | exact .pt _ _ | exact .v _ | exact .cp _) rfl ?_
  refine r_fieldpt rfl TF.f82_2 TF.sz80 rfl ?_
  refine r_load1 rfl TF.agg80 rfl ?_
  refine r_lenS rfl rfl TF.sl80 rfl ?_
  refine r_cmp rfl rfl rfl rfl ?_
  refine r_move rfl rfl ?_
  refine g_cases (t' := 23) rfl (fun hg23 => ?_) (fun hg23 => ?_)
  ·
   have hk1 : (kidsOf q e.2).length = 1 := by have := of_decide_eq_true hg23; simp at this; omega
   obtain ⟨q2, b2, x, hx⟩ := one_kid q e hk1
   cases hx
   refine g_run rfl rfl hg23 ?_
   refine r_move rfl rfl ?_
   refine g_run rfl rfl hg23 ?_
   refine r_nilCheck rfl (by first | exact .pt _ _ | exact .v _ | exact .cp _) rfl ?_
   refine g_run rfl rfl hg23 ?_
   refine r_fieldpt rfl TF.f82_2 TF.sz80 rfl ?_
   refine g_run rfl rfl hg23 ?_
   refine r_load1 rfl TF.agg80 rfl ?_
   refine g_run rfl rfl hg23 ?_
   refine r_index rfl rfl rfl TF.sl80 TF.sz36 (by decide) (congrArg (fun y => some [y]) (enc_eq q2 x)) rfl ?_
   refine g_run rfl rfl hg23 ?_
   refine r_load1 rfl TF.agg36 rfl ?_
   refine g_run rfl rfl hg23 ?_
   refine r_pnnil rfl (by first | exact .pt _ _ | exact .nil | exact .v _ | exact .cp _) TF.un36 rfl ?_
   refine r_pickT rfl hg23 rfl rfl ?_
   refine awl_nil ?_
   refine x_then ?_
   refine awp_cond rfl (fun hc1 => ?_) (fun hc1 => ?_)
   ·
    skip
    refine awp_skip ?_
    refine x_then ?_
    refine awp_block ?_
    refine awp_region ?_
    refine r_move rfl rfl ?_
    refine r_nilCheck rfl (by first | exact .pt _ _ | exact .v _ | exact .cp _) rfl ?_
    refine r_fieldpt rfl TF.f82_2 TF.sz80 rfl ?_
    refine r_load1 rfl TF.agg80 rfl ?_
    refine r_index rfl rfl rfl TF.sl80 TF.sz36 (by decide) (congrArg (fun y => some [y]) (enc_eq q2 x)) rfl ?_
    refine r_load1 rfl TF.agg36 rfl ?_
    refine r_assign rfl rfl ?_
    refine awl_nil ?_
    refine x_block ?_
    refine x_then ?_
    refine ⟨2 * (q2), ⟨49, [(6, .a (ndA (x).1 (keysOf (q2) (x).2) (valsOf (q2) (x).2) (kidsOf (q2) (x).2)))], []⟩, ⟨rfl, (Slots.cons rfl (by first | exact .refl _ | exact .nilOwn _ _ | exact .nilSl _ | exact .ownSl _ _ _  | exact SV.le.of_eq (by simp)) Slots.nil), (by first | exact List.Sublist.refl _ | exact .cons_cons _ (.cons _ (.refl _)) | exact List.nil_sublist _ | exact .cons _ (.refl _) | exact .cons _ (.cons _ (.refl _)) | exact .cons _ (.cons _ (.cons _ (.refl _))) | exact .cons _ (.cons _ (.cons _ (.cons _ (.refl _)))) | exact .cons_cons _ (List.nil_sublist _))⟩, (by omega), ⟨q2, x, rfl, rfl, ⟨(hwe.1.2.2 x List.mem_cons_self).mono (by omega), fun _ => by have := (hwe.1.2.2 x List.mem_cons_self).lo; omega⟩, hro⟩⟩
   ·
    cases hc1
  ·
   have hk1 : (kidsOf q e.2).length ≠ 1 := by have := of_decide_eq_false hg23; simp at this; omega
   refine g_skip rfl rfl hg23 rfl ?_
   refine g_skip rfl rfl hg23 rfl ?_
   refine g_skip rfl rfl hg23 rfl ?_
   refine g_skip rfl rfl hg23 rfl ?_
   refine g_skip rfl rfl hg23 rfl ?_
   refine g_skip rfl rfl hg23 rfl ?_
   refine g_skip rfl rfl hg23 rfl ?_
   refine r_pickF rfl hg23 rfl rfl ?_
   refine awl_nil ?_
   refine x_then ?_
   refine awp_condF rfl ?_
   refine awp_exit ?_
   refine x_thenE ?_
   refine x_thenE ?_
   refine x_blockE ?_
   refine x_then ?_
   refine awp_seq ?_
   refine awp_seq ?_
   refine awp_region ?_
   refine r_move rfl rfl ?_
   refine r_call0 hq rfl rfl (.cons (.ev rfl rfl) .nil) (leaf_ok e.1 (keysOf q e.2) (valsOf q e.2) (kidsOf q e.2)) rfl TF.en46 rfl (fun r hr => ?_)
   obtain rfl := hr
   refine r_move rfl rfl ?_
   refine g_cases (t' := 40) rfl (fun hg40 => ?_) (fun hg40 => ?_)
   ·
    have hl1 : (kidsOf q e.2).isEmpty = true := hg40
    obtain rfl := kids_leaf q e hwe.2 hl1
    refine g_run rfl rfl hg40 ?_
    refine r_move rfl rfl ?_
    refine g_run rfl rfl hg40 ?_
    refine r_nilCheck rfl (by first | exact .pt _ _ | exact .v _ | exact .cp _) rfl ?_
    refine g_run rfl rfl hg40 ?_
    refine r_fieldpt rfl TF.f82_0 TF.sz78 rfl ?_
    refine g_run rfl rfl hg40 ?_
    refine r_load1 rfl TF.agg78 rfl ?_
    refine g_run rfl rfl hg40 ?_
    refine r_lenS rfl rfl TF.sl78 rfl ?_
    refine g_run rfl rfl hg40 ?_
    refine r_cmp rfl rfl rfl rfl ?_
    refine r_pickT rfl hg40 rfl rfl ?_
    refine awl_nil ?_
    refine x_then ?_
    refine awp_cond rfl (fun hc2 => ?_) (fun hc2 => ?_)
    ·
     have hz : (itsOf e).isEmpty = true := by
      have := of_decide_eq_true hc2; simp only [List.length_map, keysOf_len] at this; have h0 : (itsOf e).length = 0 := by show e.2.length = 0; omega
      cases he : itsOf e with
      | nil => rfl
      | cons y r => rw [he] at h0; simp at h0
     refine awp_seq ?_
     refine awp_region ?_
     refine r_assign rfl rfl ?_
     refine r_assign rfl rfl ?_
     refine awl_nil ?_
     refine x_then ?_
     refine awp_ret ?_
     refine x_thenR ?_
     exact ⟨(.inl rfl), _, [], (.two (by first | exact .mk rfl rfl | exact .nil rfl) (by first | exact .mk rfl rfl | exact .nil rfl)), ⟨rfl, some c, hd, by show _ = AV.tup [encR (rootOf h c), _]; rw [hro]; unfold rootOf; rw [hz]; rfl⟩, (List.nil_sublist _), (by simp)⟩
    ·
     have hz : (itsOf e).isEmpty = false := by
      have := of_decide_eq_false hc2; simp only [List.length_map, keysOf_len] at this; have h0 : (itsOf e).length ≠ 0 := by show e.2.length ≠ 0; omega
      cases he : itsOf e with
      | nil => rw [he] at h0; simp at h0
      | cons y r => rfl
     refine awp_skip ?_
     refine x_then ?_
     refine awp_seq ?_
     refine awp_region ?_
     refine r_move rfl rfl ?_
     refine r_assign rfl rfl ?_
     refine r_assign rfl rfl ?_
     refine awl_nil ?_
     refine x_then ?_
     refine awp_ret ?_
     exact ⟨(.inl rfl), _, [], (.two (by first | exact .mk rfl rfl | exact .nil rfl) (by first | exact .mk rfl rfl | exact .nil rfl)), ⟨rfl, some c, hd, by show _ = AV.tup [encR (rootOf h c), _]; rw [hro]; unfold rootOf; rw [hz]; rfl⟩, (List.nil_sublist _), (by simp)⟩
   ·
    have hl1 : (kidsOf q e.2).isEmpty = false := hg40
    have hrm := rootOf_many q e (kids_inner q e hl1) hk1
    refine g_skip rfl rfl hg40 rfl ?_
    refine g_skip rfl rfl hg40 rfl ?_
    refine g_skip rfl rfl hg40 rfl ?_
    refine g_skip rfl rfl hg40 rfl ?_
    refine g_skip rfl rfl hg40 rfl ?_
    refine g_skip rfl rfl hg40 rfl ?_
    refine r_pickF rfl hg40 rfl rfl ?_
    refine awl_nil ?_
    refine x_then ?_
    refine awp_condF rfl ?_
    refine awp_skip ?_
    refine x_then ?_
    refine awp_seq ?_
    refine awp_region ?_
    refine r_move rfl rfl ?_
    refine r_assign rfl rfl ?_
    refine r_assign rfl rfl ?_
    refine awl_nil ?_
    refine x_then ?_
    refine awp_ret ?_
    exact ⟨(.inl rfl), _, [], (.two (by first | exact .mk rfl rfl | exact .nil rfl) (by first | exact .mk rfl rfl | exact .nil rfl)), ⟨rfl, some c, hd, by show _ = AV.tup [encR (rootOf h c), _]; rw [hro, hrm]; show _ = AV.tup [enc q e, _]; rw [enc_eq]; rfl⟩, (List.nil_sublist _), (by simp)⟩
end Go.Proofs.Ytljgdbgcleibjaa.A

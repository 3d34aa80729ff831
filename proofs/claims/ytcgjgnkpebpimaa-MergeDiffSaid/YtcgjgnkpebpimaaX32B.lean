/- Layer 32: walks of copies of maps, of their keys, collected and sorted. -/
import Derived.Test.YtcgjgnkpebpimaaProg
import Derived.KernelRfl
import Derived.Test.YtcgjgnkpebpimaaX32A
namespace Go.Proofs.Ytcgjgnkpebpimaa.A
open Go Go.RowKit
set_option linter.unusedVariables false
set_option linter.unusedSimpArgs false
set_option maxRecDepth 100000

theorem T.sz60 : szT Try.prog 60 = some 2 := by kernel_rfl
theorem T.agg60 : aggT Try.prog 60 = some true := by kernel_rfl
theorem T.en54 : entersT Try.prog 54 := enters_of Try.func54 (by kernel_rfl) (by kernel_rfl)
theorem T.agg57 : aggT Try.prog 57 = some false := by kernel_rfl
theorem T.sl57 : sliceT Try.prog 57 = some 60 := by kernel_rfl
theorem T.zraw60 : zeroT Try.prog 60 = some [(.int .i64 0), (.int .i64 0)] := by kernel_rfl
theorem T.by60 : bytesT Try.prog 60 = some 16 := by kernel_rfl
theorem T.zlen60 : (zeroT Try.prog 60).map (·.length) = some 2 := by kernel_rfl
theorem T.sz57 : szT Try.prog 57 = some 1 := by kernel_rfl
theorem T.en59 : entersT Try.prog 59 := enters_of Try.func59 (by kernel_rfl) (by kernel_rfl)
theorem T.en55 : entersT Try.prog 55 := enters_of Try.func55 (by kernel_rfl) (by kernel_rfl)
theorem T.sl93 : sliceT Try.prog 93 = some 3 := by kernel_rfl
theorem T.mixed : Try.prog.follows .mixedOrders = true := by kernel_rfl
theorem T.f60_0 : fieldT Try.prog 60 0 = some (0, 3) := by kernel_rfl
theorem T.en44 : entersT Try.prog 44 := enters_of Try.func44 (by kernel_rfl) (by kernel_rfl)
theorem T.f60_1 : fieldT Try.prog 60 1 = some (1, 3) := by kernel_rfl
theorem T.zraw3 : zeroT Try.prog 3 = some [(.int .i64 0)] := by kernel_rfl
theorem T.en43 : entersT Try.prog 43 := enters_of Try.func43 (by kernel_rfl) (by kernel_rfl)
theorem T.en52 : entersT Try.prog 52 := enters_of Try.func52 (by kernel_rfl) (by kernel_rfl)
theorem T.en53 : entersT Try.prog 53 := enters_of Try.func53 (by kernel_rfl) (by kernel_rfl)

theorem copy_ok (m1 m2 : List (PL × Int)) {d b : Nat} {fl fl' : Bool} : AW Try.prog 39 [.v (.map (some d)), .v (.map (some b))] [⟨b, fl, .map (encM ekP numA m2)⟩] [⟨d, fl', .map (encM ekP numA m1)⟩] (fun r n => r = .tup [] ∧ ∃ es : List (PL × Int), es.Perm m2 ∧ n = [⟨d, true, .map (encM ekP numA (List.foldl (fun (m : List (PL × Int)) (e : PL × Int) => mset m e.1 e.2) m1 es))⟩]) := by
  refine aw_of_awp (rs := []) (nt := 16) (so := [⟨b, false, .map (encM ekP numA m2)⟩, ⟨d, true, .map (encM ekP numA m1)⟩]) Try.func39 rfl rfl rfl rfl rfl (fun w0 C0 hq => ?_)
  refine awp_seq ?_
  refine awp_region ?_
  refine r_move rfl rfl ?_
  refine r_range 0 rfl rfl T.map55 rfl (fun rb bs clock hbl hbn => ?_)
  refine awl_nil ?_
  refine x_then ?_
  refine awp_block ?_
  refine awp_loop (fun nn0 S => ∃ es : List (PL × Int), ∃ seen : List Nat, S = ⟨16, [(0, .a (.v (.map (some d)))), (1, .a (.v (.map (some b)))), (7, .a (.v (.pointer (some ⟨rb, 0, none⟩))))], [⟨rb, true, .iter b clock seen clock⟩, ⟨b, false, .mapb (encM ekP numA m2) bs clock⟩, ⟨d, true, .map (encM ekP numA (List.foldl (fun (m : List (PL × Int)) (e : PL × Int) => mset m e.1 e.2) m1 es))⟩]⟩ ∧ nn0 = m2.length - es.length ∧ (Vis m2 bs es seen)) (m2.length - ([]).length) ⟨16, [(0, .a (.v (.map (some d)))), (1, .a (.v (.map (some b)))), (7, .a (.v (.pointer (some ⟨rb, 0, none⟩))))], [⟨rb, true, .iter b clock ([]) clock⟩, ⟨b, false, .mapb (encM ekP numA m2) bs clock⟩, ⟨d, true, .map (encM ekP numA (List.foldl (fun (m : List (PL × Int)) (e : PL × Int) => mset m e.1 e.2) m1 ([])))⟩]⟩ ⟨rfl, (Slots.cons rfl (by first | exact .refl _ | exact .nilOwn _ _ | exact .nilSl _ | exact .ownSl _ _ _  | exact SV.le.of_eq (by simp)) (Slots.cons rfl (by first | exact .refl _ | exact .nilOwn _ _ | exact .nilSl _ | exact .ownSl _ _ _  | exact SV.le.of_eq (by simp)) (Slots.cons rfl (by first | exact .refl _ | exact .nilOwn _ _ | exact .nilSl _ | exact .ownSl _ _ _  | exact SV.le.of_eq (by simp)) Slots.nil))), (by first | exact List.Sublist.refl _ | exact .cons_cons _ (.cons _ (.refl _)) | exact List.nil_sublist _ | exact .cons _ (.refl _) | exact .cons _ (.cons _ (.refl _)) | exact .cons _ (.cons _ (.cons _ (.refl _))) | exact .cons _ (.cons _ (.cons _ (.cons _ (.refl _)))) | exact .cons_cons _ (List.nil_sublist _))⟩ ⟨[], [], rfl, rfl, vis_start⟩ ?_
  rintro nn0 _ ⟨es, seen, rfl, rfl, hv⟩
  refine awp_seq ?_
  refine awp_region ?_
  refine r_next 0 1 rfl rfl rfl rfl (fun hend => ?_) (fun q bq pq hpq hbq hnq => ?_)
  
  ·
    refine r_extract rfl rfl rfl ?_
    refine awl_nil ?_
    refine x_then ?_
    refine awp_seq ?_
    refine awp_condF rfl ?_
    refine awp_exit ?_
    refine x_thenE ?_
    refine x_thenE ?_
    refine x_blockE ?_
    exact ⟨(.inr rfl), _, [⟨d, true, .map (encM ekP numA (List.foldl (fun (m : List (PL × Int)) (e : PL × Int) => mset m e.1 e.2) m1 es))⟩], .none, ⟨rfl, es, vis_end hv (by simpa [encM_len] using hbl) hbn hend, rfl⟩, (by first | exact List.Sublist.refl _ | exact .cons_cons _ (.cons _ (.refl _)) | exact List.nil_sublist _ | exact .cons _ (.refl _) | exact .cons _ (.cons _ (.refl _)) | exact .cons _ (.cons _ (.cons _ (.refl _))) | exact .cons _ (.cons _ (.cons _ (.cons _ (.refl _)))) | exact .cons_cons _ (List.nil_sublist _)), (by simp)⟩
  ·
    obtain ⟨e, he, rfl⟩ := encM_at hpq
    have hlt := vis_lt hv he hbq hnq
    have hv' := vis_step hv he hbq hnq
    refine r_extract rfl rfl rfl ?_
    refine awl_nil ?_
    refine x_then ?_
    refine awp_seq ?_
    refine awp_condT rfl ?_
    refine awp_skip ?_
    refine x_then ?_
    refine awp_block ?_
    refine awp_seq ?_
    refine awp_region ?_
    refine r_entry 0 1 rfl rfl rfl hpq hbq rfl ?_
    refine r_extract rfl rfl rfl ?_
    refine r_extract rfl rfl rfl ?_
    refine r_alloc T.zero60 rfl (fun b4 => ?_)
    first | (refine r_store 0 rfl rfl rfl T.sz60 rfl rfl rfl ?_) | (refine r_store 1 rfl rfl rfl T.sz60 rfl rfl rfl ?_) | (refine r_store 2 rfl rfl rfl T.sz60 rfl rfl rfl ?_) | (refine r_store 3 rfl rfl rfl T.sz60 rfl rfl rfl ?_)
    refine r_assign rfl rfl ?_
    refine awl_nil ?_
    refine x_then ?_
    refine awp_region ?_
    refine r_move rfl rfl ?_
    first | (refine r_loadA rfl T.agg60 T.sz60 rfl rfl ?_) | (refine r_loadAb 0 rfl rfl T.agg60 T.sz60 rfl rfl ?_) | (refine r_loadAb 1 rfl rfl T.agg60 T.sz60 rfl rfl ?_) | (refine r_loadAb 2 rfl rfl T.agg60 T.sz60 rfl rfl ?_) | (refine r_loadAb 3 rfl rfl T.agg60 T.sz60 rfl rfl ?_)
    refine r_move rfl rfl ?_
    first | (refine r_mapUpdateK 0 keyP (ev := numA) (k := e.1) e.2 rfl rfl rfl (isVal_pl e.1) rfl rfl T.map55 ?_) | (refine r_mapUpdateK 1 keyP (ev := numA) (k := e.1) e.2 rfl rfl rfl (isVal_pl e.1) rfl rfl T.map55 ?_) | (refine r_mapUpdateK 2 keyP (ev := numA) (k := e.1) e.2 rfl rfl rfl (isVal_pl e.1) rfl rfl T.map55 ?_) | (refine r_mapUpdateK 3 keyP (ev := numA) (k := e.1) e.2 rfl rfl rfl (isVal_pl e.1) rfl rfl T.map55 ?_)
    refine awl_nil ?_
    refine x_block ?_
    refine x_then ?_
    have e0 : List.foldl (fun (m : List (PL × Int)) (e : PL × Int) => mset m e.1 e.2) m1 (es ++ [e]) = mset (List.foldl (fun (m : List (PL × Int)) (e : PL × Int) => mset m e.1 e.2) m1 es) e.1 e.2 := by simp
    refine ⟨m2.length - (es ++ [e]).length, ⟨16, [(0, .a (.v (.map (some d)))), (1, .a (.v (.map (some b)))), (7, .a (.v (.pointer (some ⟨rb, 0, none⟩))))], [⟨rb, true, .iter b clock (seen ++ [bq]) clock⟩, ⟨b, false, .mapb (encM ekP numA m2) bs clock⟩, ⟨d, true, .map (encM ekP numA (List.foldl (fun (m : List (PL × Int)) (e : PL × Int) => mset m e.1 e.2) m1 (es ++ [e])))⟩]⟩, ⟨rfl, (Slots.cons rfl (by first | exact .refl _ | exact .nilOwn _ _ | exact .nilSl _ | exact .ownSl _ _ _  | exact SV.le.of_eq (by simp)) (Slots.cons rfl (by first | exact .refl _ | exact .nilOwn _ _ | exact .nilSl _ | exact .ownSl _ _ _  | exact SV.le.of_eq (by simp)) (Slots.cons rfl (by first | exact .refl _ | exact .nilOwn _ _ | exact .nilSl _ | exact .ownSl _ _ _  | exact SV.le.of_eq (by simp)) Slots.nil))), (by rw [e0]; first | exact List.Sublist.refl _ | exact .cons_cons _ (.cons _ (.refl _)) | exact List.nil_sublist _ | exact .cons _ (.refl _) | exact .cons _ (.cons _ (.refl _)) | exact .cons _ (.cons _ (.cons _ (.refl _))) | exact .cons _ (.cons _ (.cons _ (.cons _ (.refl _)))) | exact .cons_cons _ (List.nil_sublist _))⟩, (by simp; omega), ⟨es ++ [e], seen ++ [bq], rfl, rfl, hv'⟩⟩

theorem keys_ok (b : Nat) : AC Try.prog 41 [.v (.map (some b))] [] (fun r n => n = [] ∧ r = .fn 54 [.cp [.v (.map (some b))]]) := by
  refine ac_of_awp (rs := [2]) (nt := 4) Try.func41 rfl rfl rfl rfl (fun w0 C0 hq => ?_)
  refine awp_seq ?_
  refine awp_region ?_
  refine r_box rfl rfl rfl (fun b1 => ?_)
  refine r_assign rfl rfl ?_
  refine awl_nil ?_
  refine x_then ?_
  refine awp_seq ?_
  refine awp_region ?_
  refine awl_imp (imp_commit 0 1 rfl rfl rfl rfl) ?_
  refine r_makeFunc rfl (.cons (.ev rfl rfl) .nil) rfl ?_
  refine r_assign rfl rfl ?_
  refine awl_nil ?_
  refine x_then ?_
  refine awp_ret ?_
  exact ⟨(.inl rfl), _, [], (.one (by first | exact .mk rfl rfl | exact .nil rfl)), ⟨rfl, rfl⟩, (List.nil_sublist _), (by simp)⟩

def keysA (m : List (PL × Int)) (pre : List (List AV)) (x : List AV) : Prop := pre.length < m.length ∧ ∃ k : PL, x = [plA k]
theorem plA_inj {a b : PL} (h : plA a = plA b) : a = b := by simp [plA, PL.cs] at h; exact Prod.ext h.1 h.2
theorem pls_inj {a b : List PL} (h : a.map (fun k => [plA k]) = b.map (fun k => [plA k])) : a = b := by
  induction a generalizing b with
  | nil => cases b with | nil => rfl | cons _ _ => simp at h
  | cons x a ih =>
    cases b with
    | nil => simp at h
    | cons y b =>
      simp only [List.map_cons, List.cons.injEq, and_true] at h
      rw [plA_inj h.1, ih h.2]

theorem keys1_ok (m : List (PL × Int)) {b : Nat} {fl : Bool} : IterC Try.prog 54 [.cp [.v (.map (some b))]] [⟨b, fl, .map (encM ekP numA m)⟩] (keysA m) (fun xs => ∃ kl : List PL, kl.Perm (m.map (·.1)) ∧ xs = kl.map (fun k => [plA k])) := by
  intro l0 Cs J hY wo hJ0
  refine awc_of_awpG Cs (so := ⟨b, false, .map (encM ekP numA m)⟩ :: Tr wo) (nt := 14) (fun S r => Result1 S [] r) Try.func54 rfl rfl rfl rfl (result1_run rfl) (fun w0 C0 hq hcs => ?_)
  refine awp_seq ?_
  refine awp_region ?_
  first | (refine r_load1 rfl T.agg55 rfl ?_) | (refine r_load1b 0 rfl rfl rfl T.agg55 rfl ?_)
  refine r_range 0 rfl rfl T.map55 rfl (fun rb bs clock hbl hbn => ?_)
  refine awl_nil ?_
  refine x_then ?_
  refine awp_block ?_
  refine awp_loop (fun nn0 S => ∃ es : List (PL × Int), ∃ seen : List Nat, ∃ wv : List OE, S = ⟨14, [(0, .a (.v (.func (.yield l0) #[] #[]))), (1, .a (.cp [.v (.map (some b))])), (5, .a (.v (.pointer (some ⟨rb, 0, none⟩))))], ⟨rb, true, .iter b clock seen clock⟩ :: ⟨b, false, .mapb (encM ekP numA m) bs clock⟩ :: Tr wv⟩ ∧ nn0 = m.length - es.length ∧ (Vis m bs es seen) ∧ (J (es.map (fun e => [plA e.1])) wv)) (m.length - ([]).length) ⟨14, [(0, .a (.v (.func (.yield l0) #[] #[]))), (1, .a (.cp [.v (.map (some b))])), (5, .a (.v (.pointer (some ⟨rb, 0, none⟩))))], ⟨rb, true, .iter b clock ([]) clock⟩ :: ⟨b, false, .mapb (encM ekP numA m) bs clock⟩ :: Tr (wo)⟩ ⟨rfl, (Slots.cons rfl (by first | exact .refl _ | exact .nilOwn _ _ | exact .nilSl _ | exact .ownSl _ _ _  | exact SV.le.of_eq (by simp)) (Slots.cons rfl (by first | exact .refl _ | exact .nilOwn _ _ | exact .nilSl _ | exact .ownSl _ _ _  | exact SV.le.of_eq (by simp)) (Slots.cons rfl (by first | exact .refl _ | exact .nilOwn _ _ | exact .nilSl _ | exact .ownSl _ _ _  | exact SV.le.of_eq (by simp)) Slots.nil))), (by first | exact List.Sublist.refl _ | exact .cons_cons _ (.cons _ (.refl _)) | exact List.nil_sublist _ | exact .cons _ (.refl _) | exact .cons _ (.cons _ (.refl _)) | exact .cons _ (.cons _ (.cons _ (.refl _))) | exact .cons _ (.cons _ (.cons _ (.cons _ (.refl _)))) | exact .cons_cons _ (List.nil_sublist _))⟩ ⟨[], [], wo, rfl, rfl, vis_start, hJ0⟩ ?_
  rintro nn0 _ ⟨es, seen, wv, rfl, rfl, hv, hJ⟩
  refine awp_seq ?_
  refine awp_region ?_
  refine r_next 0 1 rfl rfl rfl rfl (fun hend => ?_) (fun q bq pq hpq hbq hnq => ?_)
  
  ·
    refine r_extract rfl rfl rfl ?_
    refine awl_nil ?_
    refine x_then ?_
    refine awp_seq ?_
    refine awp_condF rfl ?_
    refine awp_exit ?_
    refine x_thenE ?_
    refine x_thenE ?_
    refine x_blockE ?_
    exact ⟨(.inr rfl), _, Tr wv, .none, ⟨_, wv, ⟨es.map (·.1), (vis_end hv (by simpa [encM_len] using hbl) hbn hend).map _, by simp⟩, hJ, rfl⟩, (.cons _ (.cons _ (.refl _))), tr_rw⟩
  ·
    obtain ⟨e, he, rfl⟩ := encM_at hpq
    have hlt := vis_lt hv he hbq hnq
    have hv' := vis_step hv he hbq hnq
    refine r_extract rfl rfl rfl ?_
    refine awl_nil ?_
    refine x_then ?_
    refine awp_seq ?_
    refine awp_condT rfl ?_
    refine awp_skip ?_
    refine x_then ?_
    refine awp_block ?_
    refine awp_seq ?_
    refine awp_region ?_
    refine r_entry 0 1 rfl rfl rfl hpq hbq rfl ?_
    refine r_extract rfl rfl rfl ?_
    refine r_alloc T.zero60 rfl (fun b3 => ?_)
    first | (refine r_store 0 rfl rfl rfl T.sz60 rfl rfl rfl ?_) | (refine r_store 1 rfl rfl rfl T.sz60 rfl rfl rfl ?_) | (refine r_store 2 rfl rfl rfl T.sz60 rfl rfl rfl ?_)
    refine awl_nil ?_
    refine x_then ?_
    refine awp_seq ?_
    refine awp_regionI ?_
    refine awli_op (fun c h => (by cases h)) ?_
    refine r_move rfl rfl ?_
    refine awl_nil ⟨rfl, ?_⟩
    refine awli_op (fun c h => (by cases h)) ?_
    first | (refine r_loadA rfl T.agg60 T.sz60 rfl rfl ?_) | (refine r_loadAb 0 rfl rfl T.agg60 T.sz60 rfl rfl ?_) | (refine r_loadAb 1 rfl rfl T.agg60 T.sz60 rfl rfl ?_) | (refine r_loadAb 2 rfl rfl T.agg60 T.sz60 rfl rfl ?_)
    refine awl_nil ⟨rfl, ?_⟩
    refine r_yield hq (un := [⟨b3, true, .box (PL.cs e.1)⟩, ⟨rb, true, .iter b clock (seen ++ [bq]) clock⟩, ⟨b, false, .mapb (encM ekP numA m) bs clock⟩]) (fun n => [⟨b3, true, .box (PL.cs e.1)⟩, ⟨rb, true, .iter b clock (seen ++ [bq]) clock⟩, ⟨b, false, .mapb (encM ekP numA m) bs clock⟩] ++ Tr n) rfl rfl (.cons (.ev rfl rfl) .nil) Cs hcs (hY (es.map (fun e => [plA e.1])) [plA e.1] wv hJ ⟨by simpa using hlt, e.1, rfl⟩) List.perm_append_comm (fun n => List.perm_append_comm) rfl (fun nobjs hJ' => ?_)
    refine awli_op (fun c h => (by cases h)) ?_
    refine r_not rfl rfl ?_
    refine awl_nil ⟨rfl, ?_⟩
    refine awli_nil ?_
    refine x_then ?_
    refine awp_cond rfl (fun hc1 => ?_) (fun hc1 => ?_)
    ·
      exfalso; simp at hc1
    ·
      refine awp_skip ?_
      refine x_block ?_
      refine x_then ?_
      refine ⟨m.length - (es ++ [e]).length, ⟨14, [(0, .a (.v (.func (.yield l0) #[] #[]))), (1, .a (.cp [.v (.map (some b))])), (5, .a (.v (.pointer (some ⟨rb, 0, none⟩))))], ⟨rb, true, .iter b clock (seen ++ [bq]) clock⟩ :: ⟨b, false, .mapb (encM ekP numA m) bs clock⟩ :: Tr (nobjs)⟩, ⟨rfl, (Slots.cons rfl (by first | exact .refl _ | exact .nilOwn _ _ | exact .nilSl _ | exact .ownSl _ _ _  | exact SV.le.of_eq (by simp)) (Slots.cons rfl (by first | exact .refl _ | exact .nilOwn _ _ | exact .nilSl _ | exact .ownSl _ _ _  | exact SV.le.of_eq (by simp)) (Slots.cons rfl (by first | exact .refl _ | exact .nilOwn _ _ | exact .nilSl _ | exact .ownSl _ _ _  | exact SV.le.of_eq (by simp)) Slots.nil))), (.cons _ (.refl _))⟩, (by simp; omega), ⟨es ++ [e], seen ++ [bq], nobjs, rfl, rfl, hv', (by simpa using hJ')⟩⟩

theorem appendSeq_ok (m : List (PL × Int)) (hm : m.length ≤ 1000000) {b : Nat} {fl : Bool} : AC Try.prog 59 [.v (.slice none 0 0), .fn 54 [.cp [.v (.map (some b))]]] [⟨b, fl, .map (encM ekP numA m)⟩] (fun r n => ∃ kl : List PL, kl.Perm (m.map (·.1)) ∧ GrowR 2 60 (kl.map PL.cs) r n) := by
  refine ac_of_awp (rs := [4]) (nt := 13) Try.func59 rfl rfl rfl rfl (fun w0 C0 hq => ?_)
  refine awp_seq ?_
  refine awp_region ?_
  refine r_box rfl rfl rfl (fun b2 => ?_)
  refine r_assign rfl rfl ?_
  refine awl_nil ?_
  refine x_then ?_
  refine awp_seq ?_
  refine awp_seq ?_
  refine awp_region ?_
  refine r_move rfl rfl ?_
  refine awl_nil ?_
  refine x_then ?_
  refine awp_block ?_
  refine awp_rangeFunc (fun pre wo => ∃ kl : List PL, pre = kl.map (fun k => [plA k]) ∧ GrowB b2 2 60 (kl.map PL.cs) wo) [(2, .a (.v (.pointer (some ⟨b2, 0, none⟩))))] [true] hq rfl (keys1_ok m) T.en54 (fun pre x h => by obtain ⟨_, k, rfl⟩ := h; rfl) rfl rfl rfl (List.Sublist.refl _) (Slots.cons rfl (by first | exact .refl _ | exact .nilOwn _ _ | exact .nilSl _ | exact .ownSl _ _ _  | exact SV.le.of_eq (by simp)) Slots.nil) rfl rfl ⟨[], rfl, .inl ⟨rfl, rfl⟩⟩ ?_ ?_
  ·
    intro lr pre x wo rec busy w0 C0 hq hj hax
    obtain ⟨kl, rfl, hgb⟩ := hj
    obtain ⟨hlen, k, rfl⟩ := hax
    simp only [List.length_map] at hlen
    rcases hgb with ⟨h0, rfl⟩ | ⟨h0, g, cap, rfl⟩
    ·
      obtain rfl : kl = [] := by simpa using h0
      refine awpi_region ?_
      refine awli_op (fun c h => (by cases h)) ?_
      refine r_alloc T.zero60 rfl (fun b5 => ?_)
      refine awl_nil ⟨rfl, ?_⟩
      refine awli_op (fun c h => (by cases h)) ?_
      first | (refine r_store 0 rfl rfl rfl T.sz60 rfl rfl rfl ?_) | (refine r_store 1 rfl rfl rfl T.sz60 rfl rfl rfl ?_) | (refine r_store 2 rfl rfl rfl T.sz60 rfl rfl rfl ?_) | (refine r_store 3 rfl rfl rfl T.sz60 rfl rfl rfl ?_)
      refine awl_nil ⟨rfl, ?_⟩
      refine awli_nil ?_
      refine ⟨rfl, 2, rfl, ?_⟩
      refine awpi_block ?_
      refine awpi_region ?_
      refine awli_op (fun c h => (by cases h)) ?_
      first | (refine r_load1 rfl T.agg57 rfl ?_) | (refine r_load1b 0 rfl rfl rfl T.agg57 rfl ?_) | (refine r_load1b 1 rfl rfl rfl T.agg57 rfl ?_) | (refine r_load1b 2 rfl rfl rfl T.agg57 rfl ?_) | (refine r_load1b 3 rfl rfl rfl T.agg57 rfl ?_)
      refine awl_nil ⟨rfl, ?_⟩
      refine awli_op (fun c h => (by cases h)) ?_
      first | (refine r_loadA rfl T.agg60 T.sz60 rfl rfl ?_) | (refine r_loadAb 0 rfl rfl T.agg60 T.sz60 rfl rfl ?_) | (refine r_loadAb 1 rfl rfl T.agg60 T.sz60 rfl rfl ?_) | (refine r_loadAb 2 rfl rfl T.agg60 T.sz60 rfl rfl ?_) | (refine r_loadAb 3 rfl rfl T.agg60 T.sz60 rfl rfl ?_)
      refine awl_nil ⟨rfl, ?_⟩
      refine awli_op (fun c h => (by cases h)) ?_
      refine r_lit 10 (parts := [(0, .tmp 9)]) rfl T.sl57 T.sz60 T.zraw60 rfl rfl rfl rfl rfl rfl rfl ?_
      refine awl_nil ⟨rfl, ?_⟩
      refine awli_op (fun c h => (by cases h)) ?_
      refine r_appendBN rfl rfl (by first | exact .sl _ | exact .own _ _) (by simp [chunks]) T.sl57 T.sz60 T.by60 T.zlen60 (by simp [chunks] <;> omega) (by simp [chunks] <;> omega) rfl (fun gb gc => ?_)
      refine awl_nil ⟨rfl, ?_⟩
      refine awli_op (fun c h => (by cases h)) ?_
      first | (refine r_store 0 rfl rfl rfl T.sz57 rfl rfl rfl ?_) | (refine r_store 1 rfl rfl rfl T.sz57 rfl rfl rfl ?_) | (refine r_store 2 rfl rfl rfl T.sz57 rfl rfl rfl ?_) | (refine r_store 3 rfl rfl rfl T.sz57 rfl rfl rfl ?_) | (refine r_store 4 rfl rfl rfl T.sz57 rfl rfl rfl ?_)
      refine awl_nil ⟨rfl, ?_⟩
      refine awli_nil ?_
      refine x_block ?_
      refine ⟨rfl, _, ⟨[k], rfl, .inr ⟨by simp, gb, gc, rfl⟩⟩, ?_, by simp⟩
      first | exact List.Sublist.refl _ | exact .cons_cons _ (.cons _ (.refl _)) | exact List.nil_sublist _ | exact .cons _ (.refl _) | exact .cons _ (.cons _ (.refl _)) | exact .cons _ (.cons _ (.cons _ (.refl _))) | exact .cons _ (.cons _ (.cons _ (.cons _ (.refl _)))) | exact .cons_cons _ (List.nil_sublist _)
    ·
      refine awpi_region ?_
      refine awli_op (fun c h => (by cases h)) ?_
      refine r_alloc T.zero60 rfl (fun b5 => ?_)
      refine awl_nil ⟨rfl, ?_⟩
      refine awli_op (fun c h => (by cases h)) ?_
      first | (refine r_store 0 rfl rfl rfl T.sz60 rfl rfl rfl ?_) | (refine r_store 1 rfl rfl rfl T.sz60 rfl rfl rfl ?_) | (refine r_store 2 rfl rfl rfl T.sz60 rfl rfl rfl ?_) | (refine r_store 3 rfl rfl rfl T.sz60 rfl rfl rfl ?_) | (refine r_store 4 rfl rfl rfl T.sz60 rfl rfl rfl ?_)
      refine awl_nil ⟨rfl, ?_⟩
      refine awli_nil ?_
      refine ⟨rfl, 3, rfl, ?_⟩
      refine awpi_block ?_
      refine awpi_region ?_
      refine awli_op (fun c h => (by cases h)) ?_
      first | (refine r_load1 rfl T.agg57 rfl ?_) | (refine r_load1b 0 rfl rfl rfl T.agg57 rfl ?_) | (refine r_load1b 1 rfl rfl rfl T.agg57 rfl ?_) | (refine r_load1b 2 rfl rfl rfl T.agg57 rfl ?_) | (refine r_load1b 3 rfl rfl rfl T.agg57 rfl ?_) | (refine r_load1b 4 rfl rfl rfl T.agg57 rfl ?_)
      refine awl_nil ⟨rfl, ?_⟩
      refine awli_op (fun c h => (by cases h)) ?_
      first | (refine r_loadA rfl T.agg60 T.sz60 rfl rfl ?_) | (refine r_loadAb 0 rfl rfl T.agg60 T.sz60 rfl rfl ?_) | (refine r_loadAb 1 rfl rfl T.agg60 T.sz60 rfl rfl ?_) | (refine r_loadAb 2 rfl rfl T.agg60 T.sz60 rfl rfl ?_) | (refine r_loadAb 3 rfl rfl T.agg60 T.sz60 rfl rfl ?_) | (refine r_loadAb 4 rfl rfl T.agg60 T.sz60 rfl rfl ?_)
      refine awl_nil ⟨rfl, ?_⟩
      refine awli_op (fun c h => (by cases h)) ?_
      refine r_lit 10 (parts := [(0, .tmp 9)]) rfl T.sl57 T.sz60 T.zraw60 rfl rfl rfl rfl rfl rfl rfl ?_
      refine awl_nil ⟨rfl, ?_⟩
      refine awli_op (fun c h => (by cases h)) ?_
      refine r_appendBG 1 rfl rfl rfl rfl (by first | exact .sl _ | exact .own _ _) (by simp [chunks]) T.sl57 T.sz60 T.by60 T.zlen60 (by simp [chunks] <;> omega) (by simp [chunks] <;> omega) rfl (fun gb gc => ?_)
      refine awl_nil ⟨rfl, ?_⟩
      refine awli_op (fun c h => (by cases h)) ?_
      first | (refine r_store 0 rfl rfl rfl T.sz57 rfl rfl rfl ?_) | (refine r_store 1 rfl rfl rfl T.sz57 rfl rfl rfl ?_) | (refine r_store 2 rfl rfl rfl T.sz57 rfl rfl rfl ?_) | (refine r_store 3 rfl rfl rfl T.sz57 rfl rfl rfl ?_) | (refine r_store 4 rfl rfl rfl T.sz57 rfl rfl rfl ?_)
      refine awl_nil ⟨rfl, ?_⟩
      refine awli_nil ?_
      refine x_block ?_
      refine ⟨rfl, _, ⟨kl ++ [k], by simp, .inr ⟨by simp, gb, gc, rfl⟩⟩, ?_, by simp⟩
      simp only [List.map_append, List.map_cons, List.map_nil]
      first | exact List.Sublist.refl _ | exact .cons_cons _ (.cons _ (.refl _)) | exact List.nil_sublist _ | exact .cons _ (.refl _) | exact .cons _ (.cons _ (.refl _)) | exact .cons _ (.cons _ (.cons _ (.refl _))) | exact .cons _ (.cons _ (.cons _ (.cons _ (.refl _)))) | exact .cons_cons _ (List.nil_sublist _)
  ·
    intro xs wo' hG hJ
    obtain ⟨kl, rfl, hgb⟩ := hJ
    obtain ⟨kl', hk1, hk2⟩ := hG
    obtain rfl := pls_inj hk2
    rcases hgb with ⟨h0, rfl⟩ | ⟨h0, g, cap, rfl⟩
    ·
      refine x_block ?_
      refine x_then ?_
      refine awp_seq ?_
      refine awp_region ?_
      first | (refine r_load1 rfl T.agg57 rfl ?_) | (refine r_load1b 0 rfl rfl rfl T.agg57 rfl ?_) | (refine r_load1b 1 rfl rfl rfl T.agg57 rfl ?_)
      refine r_assign rfl rfl ?_
      refine awl_nil ?_
      refine x_then ?_
      refine awp_ret ?_
      exact ⟨(.inl rfl), _, [], (.one (by first | exact .mk rfl rfl | exact .nil rfl)), ⟨kl, hk1, .inl ⟨h0, rfl, rfl⟩⟩, (List.nil_sublist _), (by simp)⟩
    ·
      refine x_block ?_
      refine x_then ?_
      refine awp_seq ?_
      refine awp_region ?_
      first | (refine r_load1 rfl T.agg57 rfl ?_) | (refine r_load1b 0 rfl rfl rfl T.agg57 rfl ?_) | (refine r_load1b 1 rfl rfl rfl T.agg57 rfl ?_)
      refine r_assign rfl rfl ?_
      refine awl_nil ?_
      refine x_then ?_
      refine awp_ret ?_
      exact ⟨(.inl rfl), _, [⟨g, true, .buf 2 (kl.map PL.cs) cap 60⟩], (.one (by first | exact .mk rfl rfl | exact .nil rfl)), ⟨kl, hk1, .inr ⟨h0, g, cap, rfl, rfl⟩⟩, (by first | exact List.Sublist.refl _ | exact .cons_cons _ (.cons _ (.refl _)) | exact List.nil_sublist _ | exact .cons _ (.refl _) | exact .cons _ (.cons _ (.refl _)) | exact .cons _ (.cons _ (.cons _ (.refl _))) | exact .cons _ (.cons _ (.cons _ (.cons _ (.refl _)))) | exact .cons_cons _ (List.nil_sublist _)), (by simp)⟩

theorem collect_ok (m : List (PL × Int)) (hm : m.length ≤ 1000000) {b : Nat} {fl : Bool} : AC Try.prog 52 [.fn 54 [.cp [.v (.map (some b))]]] [⟨b, fl, .map (encM ekP numA m)⟩] (fun r n => ∃ kl : List PL, kl.Perm (m.map (·.1)) ∧ GrowR 2 60 (kl.map PL.cs) r n) := by
  refine ac_of_awp (rs := [2]) (nt := 5) Try.func52 rfl rfl rfl rfl (fun w0 C0 hq => ?_)
  refine awp_seq ?_
  refine awp_region ?_
  refine r_assign rfl rfl ?_
  refine awl_nil ?_
  refine x_then ?_
  refine awp_seq ?_
  refine awp_region ?_
  refine r_move rfl rfl ?_
  refine r_callO hq rfl rfl (.cons (.ev rfl rfl) (.cons (.ev rfl rfl) .nil)) (appendSeq_ok m hm) rfl T.en59 (List.Sublist.refl _) rfl (fun r nobjs hr => ?_)
  obtain ⟨kl, hk, ⟨h0, rfl, rfl⟩ | ⟨h0, g, cap, rfl, rfl⟩⟩ := hr
  
  ·
    refine r_assign rfl rfl ?_
    refine awl_nil ?_
    refine x_then ?_
    refine awp_ret ?_
    exact ⟨(.inl rfl), _, [], (.one (by first | exact .mk rfl rfl | exact .nil rfl)), ⟨kl, hk, .inl ⟨h0, rfl, rfl⟩⟩, (List.nil_sublist _), (by simp)⟩
  ·
    refine r_assign rfl rfl ?_
    refine awl_nil ?_
    refine x_then ?_
    refine awp_ret ?_
    exact ⟨(.inl rfl), _, [⟨g, true, .buf 2 (kl.map PL.cs) cap 60⟩], (.one (by first | exact .mk rfl rfl | exact .nil rfl)), ⟨kl, hk, .inr ⟨h0, g, cap, rfl, rfl⟩⟩, (by first | exact List.Sublist.refl _ | exact .cons_cons _ (.cons _ (.refl _)) | exact List.nil_sublist _ | exact .cons _ (.refl _) | exact .cons _ (.cons _ (.refl _)) | exact .cons _ (.cons _ (.cons _ (.refl _))) | exact .cons _ (.cons _ (.cons _ (.cons _ (.refl _)))) | exact .cons_cons _ (List.nil_sublist _)), (by simp)⟩

theorem nan_ok (x : Int) : ACq Try.prog 55 [.v (.int .i64 x)] [] (fun r n => n = [] ∧ r = bA false) := by
  refine acq_of_awp (rs := [2]) (nt := 6) Try.func55 rfl rfl rfl rfl (fun w0 C0 hq => ?_)
  refine awp_seq ?_
  refine awp_region ?_
  refine r_assign rfl rfl ?_
  refine awl_nil ?_
  refine x_then ?_
  refine awp_seq ?_
  refine awp_region ?_
  refine r_move rfl rfl ?_
  refine r_move rfl rfl ?_
  refine r_cmp rfl rfl rfl rfl ?_
  refine r_assign rfl rfl ?_
  refine awl_nil ?_
  refine x_then ?_
  refine awp_ret ?_
  exact ⟨(.inl rfl), _, [], (.one (by first | exact .mk rfl rfl | exact .nil rfl)), ⟨rfl, by simp [bA, SV.av]⟩, (List.nil_sublist _), (by simp)⟩

theorem cmp_ok (x y : Int) : ACq Try.prog 44 [.v (.int .i64 x), .v (.int .i64 y)] [] (fun r n => n = [] ∧ r = .v (.int .i64 (cmpI x y))) := by
  refine acq_of_awp (rs := [4]) (nt := 20) Try.func44 rfl rfl rfl rfl (fun w0 C0 hq => ?_)
  refine awp_seq ?_
  refine awp_region ?_
  refine r_assign rfl rfl ?_
  refine awl_nil ?_
  refine x_then ?_
  refine awp_seq ?_
  refine awp_region ?_
  refine r_move rfl rfl ?_
  refine r_callq0 rfl rfl (.cons (.ev rfl rfl) .nil) (nan_ok x) rfl T.en55 rfl (fun r hr => ?_)
  obtain rfl := hr
  refine r_assign rfl rfl ?_
  refine awl_nil ?_
  refine x_then ?_
  refine awp_seq ?_
  refine awp_region ?_
  refine r_move rfl rfl ?_
  refine r_callq0 rfl rfl (.cons (.ev rfl rfl) .nil) (nan_ok y) rfl T.en55 rfl (fun r hr => ?_)
  obtain rfl := hr
  refine r_assign rfl rfl ?_
  refine awl_nil ?_
  refine x_then ?_
  refine awp_seq ?_
  refine awp_seq ?_
  refine awp_region ?_
  refine r_move rfl rfl ?_
  refine awl_nil ?_
  refine x_then ?_
  refine awp_cond rfl (fun hc0 => ?_) (fun hc0 => ?_)
  ·
    exfalso; cases hc0
  ·
    refine awp_skip ?_
    refine x_then ?_
    refine awp_seq ?_
    refine awp_seq ?_
    refine awp_region ?_
    refine r_move rfl rfl ?_
    refine awl_nil ?_
    refine x_then ?_
    refine awp_cond rfl (fun hc2 => ?_) (fun hc2 => ?_)
    ·
      exfalso; cases hc2
    ·
      refine awp_skip ?_
      refine x_then ?_
      refine awp_seq ?_
      refine awp_seq ?_
      refine awp_region ?_
      refine r_move rfl rfl ?_
      refine r_move rfl rfl ?_
      refine r_cmp rfl rfl rfl rfl ?_
      refine awl_nil ?_
      refine x_then ?_
      refine awp_cond rfl (fun hc3 => ?_) (fun hc3 => ?_)
      ·
        have h3 := of_decide_eq_true hc3
        refine awp_seq ?_
        refine awp_region ?_
        refine r_assign rfl rfl ?_
        refine awl_nil ?_
        refine x_then ?_
        refine awp_ret ?_
        refine x_thenR ?_
        exact ⟨(.inl rfl), _, [], (.one (by first | exact .mk rfl rfl | exact .nil rfl)), ⟨rfl, by simp [cmpI, SV.av, *]⟩, (List.nil_sublist _), (by simp)⟩
      ·
        have h3 := of_decide_eq_false hc3
        refine awp_skip ?_
        refine x_then ?_
        refine awp_seq ?_
        refine awp_seq ?_
        refine awp_region ?_
        refine r_move rfl rfl ?_
        refine r_move rfl rfl ?_
        refine r_cmp rfl rfl rfl rfl ?_
        refine awl_nil ?_
        refine x_then ?_
        refine awp_cond rfl (fun hc4 => ?_) (fun hc4 => ?_)
        ·
          have h4 := of_decide_eq_true hc4
          refine awp_seq ?_
          refine awp_region ?_
          refine r_assign rfl rfl ?_
          refine awl_nil ?_
          refine x_then ?_
          refine awp_ret ?_
          refine x_thenR ?_
          exact ⟨(.inl rfl), _, [], (.one (by first | exact .mk rfl rfl | exact .nil rfl)), ⟨rfl, by simp [cmpI, SV.av, *]⟩, (List.nil_sublist _), (by simp)⟩
        ·
          have h4 := of_decide_eq_false hc4
          refine awp_skip ?_
          refine x_then ?_
          refine awp_seq ?_
          refine awp_region ?_
          refine r_assign rfl rfl ?_
          refine awl_nil ?_
          refine x_then ?_
          refine awp_ret ?_
          exact ⟨(.inl rfl), _, [], (.one (by first | exact .mk rfl rfl | exact .nil rfl)), ⟨rfl, by simp [cmpI, SV.av, *]⟩, (List.nil_sublist _), (by simp)⟩

def orF (l : List Int) : Int := (l.find? (fun x => !decide (x = 0))).getD 0
theorem or_step {l : List Int} {k : Nat} {x : Int} (h : l[k]? = some x) (hx : x = 0) (hn : (l.take k).find? (fun x => !decide (x = 0)) = none) : (l.take (k + 1)).find? (fun x => !decide (x = 0)) = none := by
  rw [takeS h, List.find?_append, hn]; simp [hx]
theorem or_hit {l : List Int} {k : Nat} {x : Int} (h : l[k]? = some x) (hx : x ≠ 0) (hn : (l.take k).find? (fun x => !decide (x = 0)) = none) : orF l = x := by
  have e : l = l.take (k + 1) ++ l.drop (k + 1) := (List.take_append_drop _ _).symm
  unfold orF
  rw [e, takeS h, List.append_assoc, List.find?_append, hn]; simp [hx]
theorem or_end {l : List Int} {k : Nat} (h : l.length ≤ k) (hn : (l.take k).find? (fun x => !decide (x = 0)) = none) : orF l = 0 := by
  rw [List.take_of_length_le h] at hn; simp [orF, hn]
theorem orF_two (x y : Int) : orF [x, y] = if x ≠ 0 then x else y := by
  by_cases h : x = 0
  · subst h
    by_cases h2 : y = 0
    · subst h2; simp [orF]
    · simp [orF, h2]
  · simp [orF, h]

theorem or_ok (l : List Int) (hl : l.length ≤ 1000000) : ACq Try.prog 43 [.sl 1 (l.map fun x => [.v (.int .i64 x)])] [] (fun r n => n = [] ∧ r = .v (.int .i64 (orF l))) := by
  refine acq_of_awp (rs := [2]) (nt := 18) Try.func43 rfl rfl rfl rfl (fun w0 C0 hq => ?_)
  refine awp_seq ?_
  refine awp_region ?_
  refine r_assign rfl rfl ?_
  refine awl_nil ?_
  refine x_then ?_
  refine awp_seq ?_
  refine awp_region ?_
  refine r_assign rfl rfl ?_
  refine awl_nil ?_
  refine x_then ?_
  refine awp_seq ?_
  refine awp_seq ?_
  refine awp_region ?_
  refine r_move rfl rfl ?_
  first | (refine r_lenS rfl rfl T.sl93 rfl ?_) | (refine r_lenNil rfl T.sl93 rfl ?_)
  refine r_move rfl rfl ?_
  refine awl_nil ?_
  refine x_then ?_
  refine awp_block ?_
  refine awp_loop (fun nn0 S => ∃ k : Nat, S = ⟨18, [(3, .a (.v (.int .i64 (0)))), (6, .a (.sl 1 (l.map fun x => [.v (.int .i64 x)]))), (7, .a (.v (.int .i64 ((l.map fun x => [AV.v (.int .i64 x)]).length)))), (8, .a (.v (.int .i64 ((k : Int)))))], []⟩ ∧ nn0 = l.length - k ∧ (k ≤ l.length) ∧ ((l.take k).find? (fun x => !decide (x = 0)) = none)) (l.length - (0)) ⟨18, [(3, .a (.v (.int .i64 (0)))), (6, .a (.sl 1 (l.map fun x => [.v (.int .i64 x)]))), (7, .a (.v (.int .i64 ((l.map fun x => [AV.v (.int .i64 x)]).length)))), (8, .a (.v (.int .i64 (((0) : Int)))))], []⟩ ⟨rfl, (Slots.cons rfl (by first | exact .refl _ | exact .nilOwn _ _ | exact .nilSl _ | exact .ownSl _ _ _  | exact SV.le.of_eq (by simp)) (Slots.cons rfl (by first | exact .refl _ | exact .nilOwn _ _ | exact .nilSl _ | exact .ownSl _ _ _  | exact SV.le.of_eq (by simp)) (Slots.cons rfl (by first | exact .refl _ | exact .nilOwn _ _ | exact .nilSl _ | exact .ownSl _ _ _  | exact SV.le.of_eq (by simp)) (Slots.cons rfl (by first | exact .refl _ | exact .nilOwn _ _ | exact .nilSl _ | exact .ownSl _ _ _  | exact SV.le.of_eq (by simp)) Slots.nil)))), (by first | exact List.Sublist.refl _ | exact .cons_cons _ (.cons _ (.refl _)) | exact List.nil_sublist _ | exact .cons _ (.refl _) | exact .cons _ (.cons _ (.refl _)) | exact .cons _ (.cons _ (.cons _ (.refl _))) | exact .cons _ (.cons _ (.cons _ (.cons _ (.refl _)))) | exact .cons_cons _ (List.nil_sublist _))⟩ ⟨0, rfl, rfl, Nat.zero_le _, rfl⟩ ?_
  rintro nn0 _ ⟨k, rfl, rfl, hk, hno⟩
  refine awp_seq ?_
  refine awp_region ?_
  refine r_cmp rfl rfl rfl rfl ?_
  refine awl_nil ?_
  refine x_then ?_
  refine awp_seq ?_
  refine awp_cond rfl (fun hc0 => ?_) (fun hc0 => ?_)
  ·
    have hltx : k < l.length := by have := of_decide_eq_true hc0; simpa using this
    obtain ⟨x, hx⟩ := get_lt hltx
    refine awp_skip ?_
    refine x_then ?_
    refine awp_seq ?_
    refine awp_block ?_
    refine awp_seq ?_
    refine awp_region ?_
    refine r_index rfl rfl rfl T.sl93 T.sz3 (by omega) (get_map hx) rfl ?_
    refine r_load1 rfl T.agg3 rfl ?_
    refine r_assign rfl rfl ?_
    refine awl_nil ?_
    refine x_then ?_
    refine awp_seq ?_
    refine awp_region ?_
    refine r_move rfl rfl ?_
    refine r_move rfl rfl ?_
    refine r_cmp rfl rfl rfl rfl ?_
    refine awl_nil ?_
    refine x_then ?_
    refine awp_cond rfl (fun hc1 => ?_) (fun hc1 => ?_)
    ·
      refine awp_seq ?_
      refine awp_region ?_
      refine r_move rfl rfl ?_
      refine r_assign rfl rfl ?_
      refine awl_nil ?_
      refine x_then ?_
      refine awp_ret ?_
      refine x_blockR ?_
      refine x_thenR ?_
      refine x_thenR ?_
      refine x_blockR ?_
      refine x_thenR ?_
      exact ⟨(.inl rfl), _, [], (.one (by first | exact .mk rfl rfl | exact .nil rfl)), ⟨rfl, by rw [or_hit hx (by simpa using hc1) hno]; rfl⟩, (List.nil_sublist _), (by simp)⟩
    ·
      refine awp_skip ?_
      refine x_block ?_
      refine x_then ?_
      refine awp_region ?_
      refine r_ari _ rfl rfl rfl (wrap_id (by first | omega | (simp; omega))) rfl ?_
      refine r_move rfl rfl ?_
      refine awl_nil ?_
      refine x_then ?_
      refine ⟨l.length - (k + 1), ⟨18, [(3, .a (.v (.int .i64 (0)))), (6, .a (.sl 1 (l.map fun x => [.v (.int .i64 x)]))), (7, .a (.v (.int .i64 ((l.map fun x => [AV.v (.int .i64 x)]).length)))), (8, .a (.v (.int .i64 (((k + 1) : Int)))))], []⟩, ⟨rfl, (Slots.cons rfl (by first | exact .refl _ | exact .nilOwn _ _ | exact .nilSl _ | exact .ownSl _ _ _  | exact SV.le.of_eq (by simp)) (Slots.cons rfl (by first | exact .refl _ | exact .nilOwn _ _ | exact .nilSl _ | exact .ownSl _ _ _  | exact SV.le.of_eq (by simp)) (Slots.cons rfl (by first | exact .refl _ | exact .nilOwn _ _ | exact .nilSl _ | exact .ownSl _ _ _  | exact SV.le.of_eq (by simp)) (Slots.cons rfl (by first | exact .refl _ | exact .nilOwn _ _ | exact .nilSl _ | exact .ownSl _ _ _  | exact SV.le.of_eq (by simp)) Slots.nil)))), (by first | exact List.Sublist.refl _ | exact .cons_cons _ (.cons _ (.refl _)) | exact List.nil_sublist _ | exact .cons _ (.refl _) | exact .cons _ (.cons _ (.refl _)) | exact .cons _ (.cons _ (.cons _ (.refl _))) | exact .cons _ (.cons _ (.cons _ (.cons _ (.refl _)))) | exact .cons_cons _ (List.nil_sublist _))⟩, (by omega), ⟨k + 1, rfl, rfl, (by have := (List.getElem?_eq_some_iff.1 hx).1; omega), (or_step hx (by simpa using hc1) hno)⟩⟩
  ·
    have hge : l.length ≤ k := by have := of_decide_eq_false hc0; simp at this; omega
    refine awp_exit ?_
    refine x_thenE ?_
    refine x_thenE ?_
    refine x_blockE ?_
    refine x_then ?_
    refine awp_seq ?_
    refine awp_region ?_
    refine r_move rfl rfl ?_
    refine r_assign rfl rfl ?_
    refine awl_nil ?_
    refine x_then ?_
    refine awp_ret ?_
    exact ⟨(.inl rfl), _, [], (.one (by first | exact .mk rfl rfl | exact .nil rfl)), ⟨rfl, by rw [or_end hge hno]; rfl⟩, (List.nil_sublist _), (by simp)⟩

theorem cmpP_ok (a b : PL) : ACq Try.prog 42 [plA a, plA b] [] (fun r n => n = [] ∧ r = .v (.int .i64 (cmpP a b))) := by
  refine acq_of_awp (rs := [4]) (nt := 17) Try.func42 rfl rfl rfl rfl (fun w0 C0 hq => ?_)
  refine awp_seq ?_
  refine awp_region ?_
  refine r_box rfl rfl rfl (fun b2 => ?_)
  refine r_box rfl rfl rfl (fun b3 => ?_)
  refine r_assign rfl rfl ?_
  refine awl_nil ?_
  refine x_then ?_
  refine awp_seq ?_
  refine awp_drawS [5, 6, 7, 8, 9, 10, 11, 12, 13] [_, _, _, _, _, _, _, _, _] [] [] T.mixed rfl rfl rfl ⟨⟨⟨⟨⟨⟨⟨⟨⟨trivial
    , ⟨_, rfl, fun sl hd hr ho => by
        first | (refine r_fieldcp (hr 2 _ rfl rfl rfl) T.f60_0 T.sz3 rfl ?_) | (refine r_fieldb (hr 2 _ rfl rfl rfl) T.f60_0 T.sz3 rfl ?_)
        exact awl_nil ⟨rfl, post_put⟩⟩⟩
    , ⟨_, rfl, fun sl hd hr ho => by
        first | (refine r_load1 (hd 0 _ rfl rfl rfl) T.agg3 rfl ?_) | (refine r_load1b 0 (hd 0 _ rfl rfl rfl) rfl rfl T.agg3 rfl ?_) | (refine r_load1b 1 (hd 0 _ rfl rfl rfl) rfl rfl T.agg3 rfl ?_)
        exact awl_nil ⟨rfl, post_put⟩⟩⟩
    , ⟨_, rfl, fun sl hd hr ho => by
        first | (refine r_fieldcp (hr 3 _ rfl rfl rfl) T.f60_0 T.sz3 rfl ?_) | (refine r_fieldb (hr 3 _ rfl rfl rfl) T.f60_0 T.sz3 rfl ?_)
        exact awl_nil ⟨rfl, post_put⟩⟩⟩
    , ⟨_, rfl, fun sl hd hr ho => by
        first | (refine r_load1 (hd 2 _ rfl rfl rfl) T.agg3 rfl ?_) | (refine r_load1b 0 (hd 2 _ rfl rfl rfl) rfl rfl T.agg3 rfl ?_) | (refine r_load1b 1 (hd 2 _ rfl rfl rfl) rfl rfl T.agg3 rfl ?_)
        exact awl_nil ⟨rfl, post_put⟩⟩⟩
    , ⟨_, rfl, fun sl hd hr ho => by
        refine r_callq0 rfl rfl (.cons (.ev (hd 1 _ rfl rfl rfl) rfl) (.cons (.ev (hd 3 _ rfl rfl rfl) rfl) .nil)) (cmp_ok a.1 b.1) rfl T.en44 rfl (fun r hr => ?_)
        obtain rfl := hr
        exact awl_nil ⟨rfl, post_put⟩⟩⟩
    , ⟨_, rfl, fun sl hd hr ho => by
        first | (refine r_fieldcp (hr 2 _ rfl rfl rfl) T.f60_1 T.sz3 rfl ?_) | (refine r_fieldb (hr 2 _ rfl rfl rfl) T.f60_1 T.sz3 rfl ?_)
        exact awl_nil ⟨rfl, post_put⟩⟩⟩
    , ⟨_, rfl, fun sl hd hr ho => by
        first | (refine r_load1 (hd 5 _ rfl rfl rfl) T.agg3 rfl ?_) | (refine r_load1b 0 (hd 5 _ rfl rfl rfl) rfl rfl T.agg3 rfl ?_) | (refine r_load1b 1 (hd 5 _ rfl rfl rfl) rfl rfl T.agg3 rfl ?_)
        exact awl_nil ⟨rfl, post_put⟩⟩⟩
    , ⟨_, rfl, fun sl hd hr ho => by
        first | (refine r_fieldcp (hr 3 _ rfl rfl rfl) T.f60_1 T.sz3 rfl ?_) | (refine r_fieldb (hr 3 _ rfl rfl rfl) T.f60_1 T.sz3 rfl ?_)
        exact awl_nil ⟨rfl, post_put⟩⟩⟩
    , ⟨_, rfl, fun sl hd hr ho => by
        first | (refine r_load1 (hd 7 _ rfl rfl rfl) T.agg3 rfl ?_) | (refine r_load1b 0 (hd 7 _ rfl rfl rfl) rfl rfl T.agg3 rfl ?_) | (refine r_load1b 1 (hd 7 _ rfl rfl rfl) rfl rfl T.agg3 rfl ?_)
        exact awl_nil ⟨rfl, post_put⟩⟩⟩
    (by rfl) ?_
  refine r_callq0 rfl rfl (.cons (.ev rfl rfl) (.cons (.ev rfl rfl) .nil)) (cmp_ok a.2 b.2) rfl T.en44 rfl (fun r hr => ?_)
  obtain rfl := hr
  refine r_lit 15 (parts := [(0, .tmp 9), (1, .tmp 14)]) rfl T.sl93 T.sz3 T.zraw3 rfl rfl rfl rfl rfl rfl rfl ?_
  refine r_callq0 rfl rfl (.cons (.ev rfl rfl) .nil) (or_ok [cmpI a.1 b.1, cmpI a.2 b.2] (by simp)) rfl T.en43 rfl (fun r hr => ?_)
  obtain rfl := hr
  refine r_assign rfl rfl ?_
  refine awl_nil ?_
  refine x_then ?_
  refine awp_ret ?_
  exact ⟨(.inl rfl), _, [], (.one (by first | exact .mk rfl rfl | exact .nil rfl)), ⟨rfl, by rw [orF_two]; rfl⟩, (List.nil_sublist _), (by simp)⟩

theorem sortNil_ok {cmp : Nat} : AC Try.prog 53 [.v (.slice none 0 0), .fn cmp []] [] (fun r n => n = [] ∧ r = .tup []) := by
  intro C w vals hcom hrels hobjs
  obtain ⟨v0, vs0, hvv, hr0, hr1⟩ := hrels.cons_inv
  obtain ⟨v1, vs1, rfl, hr2, hr3⟩ := hr1.cons_inv
  obtain rfl := hr3.nil_inv
  cases hr0
  obtain rfl : vals = #[.slice none 0 0, v1] := by apply Array.ext'; simpa using hvv
  refine (sortFunc0_53 none 0 v1 w).mono ?_
  rintro e w' ⟨rfl, rfl⟩
  exact ⟨_, C, _, [], rfl, ⟨rfl, rfl⟩, Below.refl _ _, fun _ _ _ => rfl, hcom, rel_tup.2 Rels.nil, ⟨by simp, by simp⟩, by simp⟩
theorem pl_one (x : PL) : ∀ v ∈ PL.vs x, v.oneCell' = true := by intro v hv; simp [PL.vs] at hv; rcases hv with rfl | rfl <;> rfl
theorem aw_sortP {g cap cap' n : Nat} {fl : Bool} {l : List PL} (hn : n = l.length) (hl : l.length ≤ 1000000) :
    AW Try.prog 53 [.v (.slice (some ⟨g, 0, none⟩) n cap'), .fn 42 []] [] [⟨g, fl, .buf 2 (l.map PL.cs) cap 60⟩] (fun r nobjs => r = .tup [] ∧ nobjs = [⟨g, true, .buf 2 ((l.mergeSort fun x y => !(ltOf cmpP) y x).map PL.cs) cap 60⟩]) :=
  aw_sortFunc cmpP sortFunc53 sortFunc0_53 (enters_of Try.func42 (by kernel_rfl) (by kernel_rfl)) areVals_pl (fun _ => rfl) pl_one cmpP_swo cmpP_part (fun x y => cmpP_ok x y) hn (by omega)

theorem sortedFunc_ok (m : List (PL × Int)) (hm : m.length ≤ 1000000) {b : Nat} {fl : Bool} : AC Try.prog 40 [.fn 54 [.cp [.v (.map (some b))]], .fn 42 []] [⟨b, fl, .map (encM ekP numA m)⟩] (fun r n => n = [] ∧ ∃ kl : List PL, kl.Perm (m.map (·.1)) ∧ r = plsA (kl.mergeSort fun x y => !(ltOf cmpP) y x)) := by
  refine ac_of_awp (rs := [4]) (nt := 12) Try.func40 rfl rfl rfl rfl (fun w0 C0 hq => ?_)
  refine awp_seq ?_
  refine awp_region ?_
  refine r_assign rfl rfl ?_
  refine awl_nil ?_
  refine x_then ?_
  refine awp_seq ?_
  refine awp_region ?_
  refine r_move rfl rfl ?_
  refine r_callO hq rfl rfl (.cons (.ev rfl rfl) .nil) (collect_ok m hm) rfl T.en52 (List.Sublist.refl _) rfl (fun r nobjs hr => ?_)
  obtain ⟨kl, hk, ⟨h0, rfl, rfl⟩ | ⟨h0, g, cap, rfl, rfl⟩⟩ := hr
  
  ·
    obtain rfl : kl = [] := by simpa using h0
    refine r_assign rfl rfl ?_
    refine awl_nil ?_
    refine x_then ?_
    refine awp_seq ?_
    refine awp_region ?_
    refine r_move rfl rfl ?_
    refine r_move rfl rfl ?_
    refine r_call0 hq rfl rfl (.cons (.ev rfl rfl) (.cons (.ev rfl rfl) .nil)) (sortNil_ok) rfl T.en53 rfl (fun r hr => ?_)
    obtain rfl := hr
    refine awl_nil ?_
    refine x_then ?_
    refine awp_seq ?_
    refine awp_region ?_
    refine r_move rfl rfl ?_
    refine r_assign rfl rfl ?_
    refine awl_nil ?_
    refine x_then ?_
    refine awp_ret ?_
    exact ⟨(.inl rfl), _, [], (.one (.nil (sz := 2) rfl)), ⟨rfl, [], hk, by simp [plsA]⟩, (List.nil_sublist _), (by simp)⟩
  ·
    have hkl : kl.length ≤ 1000000 := by have := hk.length_eq; simp at this; omega
    refine r_assign rfl rfl ?_
    refine awl_nil ?_
    refine x_then ?_
    refine awp_seq ?_
    refine awp_region ?_
    refine r_move rfl rfl ?_
    refine r_move rfl rfl ?_
    refine r_callW hq [true] rfl rfl (.cons (.ev rfl rfl) (.cons (.ev rfl rfl) .nil)) (aw_sortP (by simp) hkl) rfl T.en53 rfl rfl (List.nil_sublist _) rfl (fun r nobjs hr => ?_)
    obtain ⟨rfl, rfl⟩ := hr
    refine awl_nil ?_
    refine x_then ?_
    refine awp_seq ?_
    refine awp_region ?_
    refine awl_imp (imp_commitB 0 5 rfl (by simp [List.length_mergeSort]) rfl) ?_
    refine r_move rfl rfl ?_
    refine r_assign rfl rfl ?_
    refine awl_nil ?_
    refine x_then ?_
    refine awp_ret ?_
    exact ⟨(.inl rfl), _, [], (.one (by first | exact .mk rfl rfl | exact .nil rfl)), ⟨rfl, kl, hk, rfl⟩, (List.nil_sublist _), (by simp)⟩

end Go.Proofs.Ytcgjgnkpebpimaa.A

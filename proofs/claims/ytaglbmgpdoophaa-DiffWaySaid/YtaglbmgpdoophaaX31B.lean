/- Layer 31: walks of maps, of their keys in order. -/
import Derived.Test.YtaglbmgpdoophaaProg
import Derived.KernelRfl
import Derived.Test.YtaglbmgpdoophaaX31A
import Derived.Test.YtaglbmgpdoophaaIW
namespace Go.Proofs.Ytaglbmgpdoophaa.A
open Go Go.RowKit
set_option linter.unusedVariables false
set_option linter.unusedSimpArgs false
set_option maxRecDepth 100000

theorem TD.map114 : mapT Try.prog 114 = some (118, 79) := by kernel_rfl
theorem TD.zero118 : ZeroT Try.prog 118 [.v (.int .i64 0), .v (.int .i64 0)] := ⟨[(.int .i64 0), (.int .i64 0)], by kernel_rfl, (LeCells.refl _)⟩
theorem TD.sz118 : szT Try.prog 118 = some 2 := by kernel_rfl
theorem TD.agg118 : aggT Try.prog 118 = some true := by kernel_rfl
theorem TD.agg114 : aggT Try.prog 114 = some false := by kernel_rfl
theorem TD.en118 : entersT Try.prog 118 := enters_of Try.func118 (by kernel_rfl) (by kernel_rfl)
theorem TD.agg120 : aggT Try.prog 120 = some false := by kernel_rfl
theorem TD.sl120 : sliceT Try.prog 120 = some 118 := by kernel_rfl
theorem TD.zraw118 : zeroT Try.prog 118 = some [(.int .i64 0), (.int .i64 0)] := by kernel_rfl
theorem TD.by118 : bytesT Try.prog 118 = some 16 := by kernel_rfl
theorem TD.zlen118 : (zeroT Try.prog 118).map (·.length) = some 2 := by kernel_rfl
theorem TD.sz120 : szT Try.prog 120 = some 1 := by kernel_rfl
theorem TD.en123 : entersT Try.prog 123 := enters_of Try.func123 (by kernel_rfl) (by kernel_rfl)
theorem TD.en116 : entersT Try.prog 116 := enters_of Try.func116 (by kernel_rfl) (by kernel_rfl)
theorem TD.en117 : entersT Try.prog 117 := enters_of Try.func117 (by kernel_rfl) (by kernel_rfl)
theorem TD.en104 : entersT Try.prog 104 := enters_of Try.func104 (by kernel_rfl) (by kernel_rfl)
theorem TD.en103 : entersT Try.prog 103 := enters_of Try.func103 (by kernel_rfl) (by kernel_rfl)
theorem TD.sl22 : sliceT Try.prog 22 = some 110 := by kernel_rfl
theorem TD.sz110 : szT Try.prog 110 = some 3 := by kernel_rfl
theorem TD.agg110 : aggT Try.prog 110 = some true := by kernel_rfl
theorem TD.zero110 : ZeroT Try.prog 110 [.v (.int .i64 0), .v (.int .i64 0), .v (.int .u64 0)] := ⟨[(.int .i64 0), (.int .i64 0), (.int .u64 0)], by kernel_rfl, (LeCells.refl _)⟩
theorem TD.f110_0 : fieldT Try.prog 110 0 = some (0, 3) := by kernel_rfl
theorem TD.f110_1 : fieldT Try.prog 110 1 = some (1, 3) := by kernel_rfl
theorem TD.arr118 : arrT Try.prog 118 = some 3 := by kernel_rfl
theorem TD.zav79 : ZeroAV Try.prog 79 (.v (.int .u64 0)) := ⟨.v (.int .u64 0), by kernel_rfl, .one (.refl _)⟩
theorem TD.f110_2 : fieldT Try.prog 110 2 = some (2, 79) := by kernel_rfl
theorem TD.sz79 : szT Try.prog 79 = some 1 := by kernel_rfl
theorem TD.agg79 : aggT Try.prog 79 = some false := by kernel_rfl

theorem tr_rwD {wo : List OE} : ∀ x ∈ Tr wo, x.rw = true := fun x hx => by obtain ⟨e0, _, rfl⟩ := List.mem_map.1 hx; rfl

theorem copy_okD (m1 m2 : List (PL × Int)) {d b : Nat} {fl fl' : Bool} : AW Try.prog 66 [.v (.map (some d)), .v (.map (some b))] [⟨b, fl, .map (encM ekP numA m2)⟩] [⟨d, fl', .map (encM ekP numA m1)⟩] (fun r n => r = .tup [] ∧ ∃ es : List (PL × Int), es.Perm m2 ∧ n = [⟨d, true, .map (encM ekP numA (List.foldl (fun (m : List (PL × Int)) (e : PL × Int) => mset m e.1 e.2) m1 es))⟩]) := by
  refine aw_of_awp (rs := []) (nt := 16) (so := [⟨b, false, .map (encM ekP numA m2)⟩, ⟨d, true, .map (encM ekP numA m1)⟩]) Try.func66 rfl rfl rfl rfl rfl (fun w0 C0 hq => ?_)
  refine awp_seq ?_
  refine awp_region ?_
  refine r_move rfl rfl ?_
  refine r_range 0 rfl rfl TD.map114 rfl (fun rb bs clock hbl hbn => ?_)
  refine awl_nil ?_
  refine x_then ?_
  refine awp_block ?_
  refine awp_loop (fun nn0 S => ∃ es : List (PL × Int), ∃ seen : List Nat, S = ⟨16, [(0, .a (.v (.map (some d)))), (1, .a (.v (.map (some b)))), (7, .a (.v (.pointer (some ⟨rb, 0, none⟩))))], [⟨rb, true, .iter b clock seen clock⟩, ⟨b, false, .mapb (encM ekP numA m2) bs clock⟩, ⟨d, true, .map (encM ekP numA (List.foldl (fun (m : List (PL × Int)) (e : PL × Int) => mset m e.1 e.2) m1 es))⟩]⟩ ∧ nn0 = m2.length - es.length ∧ (Vis m2 bs es seen)) (m2.length - ([]).length) ⟨16, [(0, .a (.v (.map (some d)))), (1, .a (.v (.map (some b)))), (7, .a (.v (.pointer (some ⟨rb, 0, none⟩))))], [⟨rb, true, .iter b clock ([]) clock⟩, ⟨b, false, .mapb (encM ekP numA m2) bs clock⟩, ⟨d, true, .map (encM ekP numA (List.foldl (fun (m : List (PL × Int)) (e : PL × Int) => mset m e.1 e.2) m1 ([])))⟩]⟩ ⟨rfl, (Slots.cons rfl (by first | exact .refl _ | exact .nilOwn _ _ | exact .nilSl _ | exact .ownSl _ _ _  | exact SV.le.of_eq (by simp)) (Slots.cons rfl (by first | exact .refl _ | exact .nilOwn _ _ | exact .nilSl _ | exact .ownSl _ _ _  | exact SV.le.of_eq (by simp)) (Slots.cons rfl (by first | exact .refl _ | exact .nilOwn _ _ | exact .nilSl _ | exact .ownSl _ _ _  | exact SV.le.of_eq (by simp)) Slots.nil))), (by first | exact List.Sublist.refl _ | exact .cons_cons _ (.cons _ (.refl _)) | exact List.nil_sublist _ | exact .cons _ (.refl _) | exact .cons _ (.cons _ (.refl _)) | exact .cons _ (.cons _ (.cons _ (.refl _))) | exact .cons _ (.cons _ (.cons _ (.cons _ (.refl _)))) | exact .cons_cons _ (List.nil_sublist _))⟩ ⟨[], [], rfl, rfl, vis_start⟩ ?_
  rintro nn0 _ ⟨es, seen, rfl, rfl, hv⟩
  refine awp_seq ?_
  refine awp_region ?_
  refine r_next 0 1 rfl rfl rfl rfl (fun hend => ?_) (fun q bq pq hpq hbq hnq => ?_)
  
  ·
    refine r_extract rfl rfl rfl ?_
    refine awl_nil ?_
    refine x_then ?_
    refine awp_seq ?_
    refine awp_condF rfl ?_
    refine awp_exit ?_
    refine x_thenE ?_
    refine x_thenE ?_
    refine x_blockE ?_
    exact ⟨(.inr rfl), _, [⟨d, true, .map (encM ekP numA (List.foldl (fun (m : List (PL × Int)) (e : PL × Int) => mset m e.1 e.2) m1 es))⟩], .none, ⟨rfl, es, vis_end hv (by simpa [encM_len] using hbl) hbn hend, rfl⟩, (by first | exact List.Sublist.refl _ | exact .cons_cons _ (.cons _ (.refl _)) | exact List.nil_sublist _ | exact .cons _ (.refl _) | exact .cons _ (.cons _ (.refl _)) | exact .cons _ (.cons _ (.cons _ (.refl _))) | exact .cons _ (.cons _ (.cons _ (.cons _ (.refl _)))) | exact .cons_cons _ (List.nil_sublist _)), (by simp)⟩
  ·
    obtain ⟨e, he, rfl⟩ := encM_at hpq
    have hlt := vis_lt hv he hbq hnq
    have hv' := vis_step hv he hbq hnq
    refine r_extract rfl rfl rfl ?_
    refine awl_nil ?_
    refine x_then ?_
    refine awp_seq ?_
    refine awp_condT rfl ?_
    refine awp_skip ?_
    refine x_then ?_
    refine awp_block ?_
    refine awp_seq ?_
    refine awp_region ?_
    refine r_entry 0 1 rfl rfl rfl hpq hbq rfl ?_
    refine r_extract rfl rfl rfl ?_
    refine r_extract rfl rfl rfl ?_
    refine r_alloc TD.zero118 rfl (fun b4 => ?_)
    first | (refine r_store 0 rfl rfl rfl TD.sz118 rfl rfl rfl ?_) | (refine r_store 1 rfl rfl rfl TD.sz118 rfl rfl rfl ?_) | (refine r_store 2 rfl rfl rfl TD.sz118 rfl rfl rfl ?_) | (refine r_store 3 rfl rfl rfl TD.sz118 rfl rfl rfl ?_)
    refine r_assign rfl rfl ?_
    refine awl_nil ?_
    refine x_then ?_
    refine awp_region ?_
    refine r_move rfl rfl ?_
    first | (refine r_loadA rfl TD.agg118 TD.sz118 rfl rfl ?_) | (refine r_loadAb 0 rfl rfl TD.agg118 TD.sz118 rfl rfl ?_) | (refine r_loadAb 1 rfl rfl TD.agg118 TD.sz118 rfl rfl ?_) | (refine r_loadAb 2 rfl rfl TD.agg118 TD.sz118 rfl rfl ?_) | (refine r_loadAb 3 rfl rfl TD.agg118 TD.sz118 rfl rfl ?_)
    refine r_move rfl rfl ?_
    first | (refine r_mapUpdateK 0 keyPD (ev := numA) (k := e.1) e.2 rfl rfl rfl (isVal_pl e.1) rfl rfl TD.map114 ?_) | (refine r_mapUpdateK 1 keyPD (ev := numA) (k := e.1) e.2 rfl rfl rfl (isVal_pl e.1) rfl rfl TD.map114 ?_) | (refine r_mapUpdateK 2 keyPD (ev := numA) (k := e.1) e.2 rfl rfl rfl (isVal_pl e.1) rfl rfl TD.map114 ?_) | (refine r_mapUpdateK 3 keyPD (ev := numA) (k := e.1) e.2 rfl rfl rfl (isVal_pl e.1) rfl rfl TD.map114 ?_)
    refine awl_nil ?_
    refine x_block ?_
    refine x_then ?_
    have e0 : List.foldl (fun (m : List (PL × Int)) (e : PL × Int) => mset m e.1 e.2) m1 (es ++ [e]) = mset (List.foldl (fun (m : List (PL × Int)) (e : PL × Int) => mset m e.1 e.2) m1 es) e.1 e.2 := by simp
    refine ⟨m2.length - (es ++ [e]).length, ⟨16, [(0, .a (.v (.map (some d)))), (1, .a (.v (.map (some b)))), (7, .a (.v (.pointer (some ⟨rb, 0, none⟩))))], [⟨rb, true, .iter b clock (seen ++ [bq]) clock⟩, ⟨b, false, .mapb (encM ekP numA m2) bs clock⟩, ⟨d, true, .map (encM ekP numA (List.foldl (fun (m : List (PL × Int)) (e : PL × Int) => mset m e.1 e.2) m1 (es ++ [e])))⟩]⟩, ⟨rfl, (Slots.cons rfl (by first | exact .refl _ | exact .nilOwn _ _ | exact .nilSl _ | exact .ownSl _ _ _  | exact SV.le.of_eq (by simp)) (Slots.cons rfl (by first | exact .refl _ | exact .nilOwn _ _ | exact .nilSl _ | exact .ownSl _ _ _  | exact SV.le.of_eq (by simp)) (Slots.cons rfl (by first | exact .refl _ | exact .nilOwn _ _ | exact .nilSl _ | exact .ownSl _ _ _  | exact SV.le.of_eq (by simp)) Slots.nil))), (by rw [e0]; first | exact List.Sublist.refl _ | exact .cons_cons _ (.cons _ (.refl _)) | exact List.nil_sublist _ | exact .cons _ (.refl _) | exact .cons _ (.cons _ (.refl _)) | exact .cons _ (.cons _ (.cons _ (.refl _))) | exact .cons _ (.cons _ (.cons _ (.cons _ (.refl _)))) | exact .cons_cons _ (List.nil_sublist _))⟩, (by simp; omega), ⟨es ++ [e], seen ++ [bq], rfl, rfl, hv'⟩⟩

theorem keys_okD (b : Nat) : AC Try.prog 104 [.v (.map (some b))] [] (fun r n => n = [] ∧ r = .fn 118 [.cp [.v (.map (some b))]]) := by
  refine ac_of_awp (rs := [2]) (nt := 4) Try.func104 rfl rfl rfl rfl (fun w0 C0 hq => ?_)
  refine awp_seq ?_
  refine awp_region ?_
  refine r_box rfl rfl rfl (fun b1 => ?_)
  refine r_assign rfl rfl ?_
  refine awl_nil ?_
  refine x_then ?_
  refine awp_seq ?_
  refine awp_region ?_
  refine awl_imp (imp_commit 0 1 rfl rfl rfl rfl) ?_
  refine r_makeFunc rfl (.cons (.ev rfl rfl) .nil) rfl ?_
  refine r_assign rfl rfl ?_
  refine awl_nil ?_
  refine x_then ?_
  refine awp_ret ?_
  exact ⟨(.inl rfl), _, [], (.one (by first | exact .mk rfl rfl | exact .nil rfl)), ⟨rfl, rfl⟩, (List.nil_sublist _), (by simp)⟩

def keysAD (m : List (PL × Int)) (pre : List (List AV)) (x : List AV) : Prop := pre.length < m.length ∧ ∃ k : PL, x = [plA k]
theorem plA_injD {a b : PL} (h : plA a = plA b) : a = b := by simp [plA, PL.cs] at h; exact Prod.ext h.1 h.2
theorem pls_injD {a b : List PL} (h : a.map (fun k => [plA k]) = b.map (fun k => [plA k])) : a = b := by
  induction a generalizing b with
  | nil => cases b with | nil => rfl | cons _ _ => simp at h
  | cons x a ih =>
    cases b with
    | nil => simp at h
    | cons y b =>
      simp only [List.map_cons, List.cons.injEq, and_true] at h
      rw [plA_injD h.1, ih h.2]

theorem keys1_okD (m : List (PL × Int)) {b : Nat} {fl : Bool} : IterC Try.prog 118 [.cp [.v (.map (some b))]] [⟨b, fl, .map (encM ekP numA m)⟩] (keysAD m) (fun xs => ∃ kl : List PL, kl.Perm (m.map (·.1)) ∧ xs = kl.map (fun k => [plA k])) := by
  intro l0 Cs J hY wo hJ0
  refine awc_of_awpG Cs (so := ⟨b, false, .map (encM ekP numA m)⟩ :: Tr wo) (nt := 14) (fun S r => Result1 S [] r) Try.func118 rfl rfl rfl rfl (result1_run rfl) (fun w0 C0 hq hcs => ?_)
  refine awp_seq ?_
  refine awp_region ?_
  first | (refine r_load1 rfl TD.agg114 rfl ?_) | (refine r_load1b 0 rfl rfl rfl TD.agg114 rfl ?_)
  refine r_range 0 rfl rfl TD.map114 rfl (fun rb bs clock hbl hbn => ?_)
  refine awl_nil ?_
  refine x_then ?_
  refine awp_block ?_
  refine awp_loop (fun nn0 S => ∃ es : List (PL × Int), ∃ seen : List Nat, ∃ wv : List OE, S = ⟨14, [(0, .a (.v (.func (.yield l0) #[] #[]))), (1, .a (.cp [.v (.map (some b))])), (5, .a (.v (.pointer (some ⟨rb, 0, none⟩))))], ⟨rb, true, .iter b clock seen clock⟩ :: ⟨b, false, .mapb (encM ekP numA m) bs clock⟩ :: Tr wv⟩ ∧ nn0 = m.length - es.length ∧ (Vis m bs es seen) ∧ (J (es.map (fun e => [plA e.1])) wv)) (m.length - ([]).length) ⟨14, [(0, .a (.v (.func (.yield l0) #[] #[]))), (1, .a (.cp [.v (.map (some b))])), (5, .a (.v (.pointer (some ⟨rb, 0, none⟩))))], ⟨rb, true, .iter b clock ([]) clock⟩ :: ⟨b, false, .mapb (encM ekP numA m) bs clock⟩ :: Tr (wo)⟩ ⟨rfl, (Slots.cons rfl (by first | exact .refl _ | exact .nilOwn _ _ | exact .nilSl _ | exact .ownSl _ _ _  | exact SV.le.of_eq (by simp)) (Slots.cons rfl (by first | exact .refl _ | exact .nilOwn _ _ | exact .nilSl _ | exact .ownSl _ _ _  | exact SV.le.of_eq (by simp)) (Slots.cons rfl (by first | exact .refl _ | exact .nilOwn _ _ | exact .nilSl _ | exact .ownSl _ _ _  | exact SV.le.of_eq (by simp)) Slots.nil))), (by first | exact List.Sublist.refl _ | exact .cons_cons _ (.cons _ (.refl _)) | exact List.nil_sublist _ | exact .cons _ (.refl _) | exact .cons _ (.cons _ (.refl _)) | exact .cons _ (.cons _ (.cons _ (.refl _))) | exact .cons _ (.cons _ (.cons _ (.cons _ (.refl _)))) | exact .cons_cons _ (List.nil_sublist _))⟩ ⟨[], [], wo, rfl, rfl, vis_start, hJ0⟩ ?_
  rintro nn0 _ ⟨es, seen, wv, rfl, rfl, hv, hJ⟩
  refine awp_seq ?_
  refine awp_region ?_
  refine r_next 0 1 rfl rfl rfl rfl (fun hend => ?_) (fun q bq pq hpq hbq hnq => ?_)
  
  ·
    refine r_extract rfl rfl rfl ?_
    refine awl_nil ?_
    refine x_then ?_
    refine awp_seq ?_
    refine awp_condF rfl ?_
    refine awp_exit ?_
    refine x_thenE ?_
    refine x_thenE ?_
    refine x_blockE ?_
    exact ⟨(.inr rfl), _, Tr wv, .none, ⟨_, wv, ⟨es.map (·.1), (vis_end hv (by simpa [encM_len] using hbl) hbn hend).map _, by simp⟩, hJ, rfl⟩, (.cons _ (.cons _ (.refl _))), tr_rwD⟩
  ·
    obtain ⟨e, he, rfl⟩ := encM_at hpq
    have hlt := vis_lt hv he hbq hnq
    have hv' := vis_step hv he hbq hnq
    refine r_extract rfl rfl rfl ?_
    refine awl_nil ?_
    refine x_then ?_
    refine awp_seq ?_
    refine awp_condT rfl ?_
    refine awp_skip ?_
    refine x_then ?_
    refine awp_block ?_
    refine awp_seq ?_
    refine awp_region ?_
    refine r_entry 0 1 rfl rfl rfl hpq hbq rfl ?_
    refine r_extract rfl rfl rfl ?_
    refine r_alloc TD.zero118 rfl (fun b3 => ?_)
    first | (refine r_store 0 rfl rfl rfl TD.sz118 rfl rfl rfl ?_) | (refine r_store 1 rfl rfl rfl TD.sz118 rfl rfl rfl ?_) | (refine r_store 2 rfl rfl rfl TD.sz118 rfl rfl rfl ?_)
    refine awl_nil ?_
    refine x_then ?_
    refine awp_seq ?_
    refine awp_regionI ?_
    refine awli_op (fun c h => (by cases h)) ?_
    refine r_move rfl rfl ?_
    refine awl_nil ⟨rfl, ?_⟩
    refine awli_op (fun c h => (by cases h)) ?_
    first | (refine r_loadA rfl TD.agg118 TD.sz118 rfl rfl ?_) | (refine r_loadAb 0 rfl rfl TD.agg118 TD.sz118 rfl rfl ?_) | (refine r_loadAb 1 rfl rfl TD.agg118 TD.sz118 rfl rfl ?_) | (refine r_loadAb 2 rfl rfl TD.agg118 TD.sz118 rfl rfl ?_)
    refine awl_nil ⟨rfl, ?_⟩
    refine r_yield hq (un := [⟨b3, true, .box (PL.cs e.1)⟩, ⟨rb, true, .iter b clock (seen ++ [bq]) clock⟩, ⟨b, false, .mapb (encM ekP numA m) bs clock⟩]) (fun n => [⟨b3, true, .box (PL.cs e.1)⟩, ⟨rb, true, .iter b clock (seen ++ [bq]) clock⟩, ⟨b, false, .mapb (encM ekP numA m) bs clock⟩] ++ Tr n) rfl rfl (.cons (.ev rfl rfl) .nil) Cs hcs (hY (es.map (fun e => [plA e.1])) [plA e.1] wv hJ ⟨by simpa using hlt, e.1, rfl⟩) List.perm_append_comm (fun n => List.perm_append_comm) rfl (fun nobjs hJ' => ?_)
    refine awli_op (fun c h => (by cases h)) ?_
    refine r_not rfl rfl ?_
    refine awl_nil ⟨rfl, ?_⟩
    refine awli_nil ?_
    refine x_then ?_
    refine awp_cond rfl (fun hc1 => ?_) (fun hc1 => ?_)
    ·
      exfalso; simp at hc1
    ·
      refine awp_skip ?_
      refine x_block ?_
      refine x_then ?_
      refine ⟨m.length - (es ++ [e]).length, ⟨14, [(0, .a (.v (.func (.yield l0) #[] #[]))), (1, .a (.cp [.v (.map (some b))])), (5, .a (.v (.pointer (some ⟨rb, 0, none⟩))))], ⟨rb, true, .iter b clock (seen ++ [bq]) clock⟩ :: ⟨b, false, .mapb (encM ekP numA m) bs clock⟩ :: Tr (nobjs)⟩, ⟨rfl, (Slots.cons rfl (by first | exact .refl _ | exact .nilOwn _ _ | exact .nilSl _ | exact .ownSl _ _ _  | exact SV.le.of_eq (by simp)) (Slots.cons rfl (by first | exact .refl _ | exact .nilOwn _ _ | exact .nilSl _ | exact .ownSl _ _ _  | exact SV.le.of_eq (by simp)) (Slots.cons rfl (by first | exact .refl _ | exact .nilOwn _ _ | exact .nilSl _ | exact .ownSl _ _ _  | exact SV.le.of_eq (by simp)) Slots.nil))), (.cons _ (.refl _))⟩, (by simp; omega), ⟨es ++ [e], seen ++ [bq], nobjs, rfl, rfl, hv', (by simpa using hJ')⟩⟩

theorem appendSeq_okD (m : List (PL × Int)) (hm : m.length ≤ 1000000) {b : Nat} {fl : Bool} : AC Try.prog 123 [.v (.slice none 0 0), .fn 118 [.cp [.v (.map (some b))]]] [⟨b, fl, .map (encM ekP numA m)⟩] (fun r n => ∃ kl : List PL, kl.Perm (m.map (·.1)) ∧ GrowR 2 118 (kl.map PL.cs) r n) := by
  refine ac_of_awp (rs := [4]) (nt := 13) Try.func123 rfl rfl rfl rfl (fun w0 C0 hq => ?_)
  refine awp_seq ?_
  refine awp_region ?_
  refine r_box rfl rfl rfl (fun b2 => ?_)
  refine r_assign rfl rfl ?_
  refine awl_nil ?_
  refine x_then ?_
  refine awp_seq ?_
  refine awp_seq ?_
  refine awp_region ?_
  refine r_move rfl rfl ?_
  refine awl_nil ?_
  refine x_then ?_
  refine awp_block ?_
  refine awp_rangeFunc (fun pre wo => ∃ kl : List PL, pre = kl.map (fun k => [plA k]) ∧ GrowB b2 2 118 (kl.map PL.cs) wo) [(2, .a (.v (.pointer (some ⟨b2, 0, none⟩))))] [true] hq rfl (keys1_okD m) TD.en118 (fun pre x h => by obtain ⟨_, k, rfl⟩ := h; rfl) rfl rfl rfl (List.Sublist.refl _) (Slots.cons rfl (by first | exact .refl _ | exact .nilOwn _ _ | exact .nilSl _ | exact .ownSl _ _ _  | exact SV.le.of_eq (by simp)) Slots.nil) rfl rfl ⟨[], rfl, .inl ⟨rfl, rfl⟩⟩ ?_ ?_
  ·
    intro lr pre x wo rec busy w0 C0 hq hj hax
    obtain ⟨kl, rfl, hgb⟩ := hj
    obtain ⟨hlen, k, rfl⟩ := hax
    simp only [List.length_map] at hlen
    rcases hgb with ⟨h0, rfl⟩ | ⟨h0, g, cap, rfl⟩
    ·
      obtain rfl : kl = [] := by simpa using h0
      refine awpi_region ?_
      refine awli_op (fun c h => (by cases h)) ?_
      refine r_alloc TD.zero118 rfl (fun b5 => ?_)
      refine awl_nil ⟨rfl, ?_⟩
      refine awli_op (fun c h => (by cases h)) ?_
      first | (refine r_store 0 rfl rfl rfl TD.sz118 rfl rfl rfl ?_) | (refine r_store 1 rfl rfl rfl TD.sz118 rfl rfl rfl ?_) | (refine r_store 2 rfl rfl rfl TD.sz118 rfl rfl rfl ?_) | (refine r_store 3 rfl rfl rfl TD.sz118 rfl rfl rfl ?_)
      refine awl_nil ⟨rfl, ?_⟩
      refine awli_nil ?_
      refine ⟨rfl, 2, rfl, ?_⟩
      refine awpi_block ?_
      refine awpi_region ?_
      refine awli_op (fun c h => (by cases h)) ?_
      first | (refine r_load1 rfl TD.agg120 rfl ?_) | (refine r_load1b 0 rfl rfl rfl TD.agg120 rfl ?_) | (refine r_load1b 1 rfl rfl rfl TD.agg120 rfl ?_) | (refine r_load1b 2 rfl rfl rfl TD.agg120 rfl ?_) | (refine r_load1b 3 rfl rfl rfl TD.agg120 rfl ?_)
      refine awl_nil ⟨rfl, ?_⟩
      refine awli_op (fun c h => (by cases h)) ?_
      first | (refine r_loadA rfl TD.agg118 TD.sz118 rfl rfl ?_) | (refine r_loadAb 0 rfl rfl TD.agg118 TD.sz118 rfl rfl ?_) | (refine r_loadAb 1 rfl rfl TD.agg118 TD.sz118 rfl rfl ?_) | (refine r_loadAb 2 rfl rfl TD.agg118 TD.sz118 rfl rfl ?_) | (refine r_loadAb 3 rfl rfl TD.agg118 TD.sz118 rfl rfl ?_)
      refine awl_nil ⟨rfl, ?_⟩
      refine awli_op (fun c h => (by cases h)) ?_
      refine r_lit 10 (parts := [(0, .tmp 9)]) rfl TD.sl120 TD.sz118 TD.zraw118 rfl rfl rfl rfl rfl rfl rfl ?_
      refine awl_nil ⟨rfl, ?_⟩
      refine awli_op (fun c h => (by cases h)) ?_
      refine r_appendBN rfl rfl (by first | exact .sl _ | exact .own _ _) (by simp [chunks]) TD.sl120 TD.sz118 TD.by118 TD.zlen118 (by simp [chunks] <;> omega) (by simp [chunks] <;> omega) rfl (fun gb gc => ?_)
      refine awl_nil ⟨rfl, ?_⟩
      refine awli_op (fun c h => (by cases h)) ?_
      first | (refine r_store 0 rfl rfl rfl TD.sz120 rfl rfl rfl ?_) | (refine r_store 1 rfl rfl rfl TD.sz120 rfl rfl rfl ?_) | (refine r_store 2 rfl rfl rfl TD.sz120 rfl rfl rfl ?_) | (refine r_store 3 rfl rfl rfl TD.sz120 rfl rfl rfl ?_) | (refine r_store 4 rfl rfl rfl TD.sz120 rfl rfl rfl ?_)
      refine awl_nil ⟨rfl, ?_⟩
      refine awli_nil ?_
      refine x_block ?_
      refine ⟨rfl, _, ⟨[k], rfl, .inr ⟨by simp, gb, gc, rfl⟩⟩, ?_, by simp⟩
      first | exact List.Sublist.refl _ | exact .cons_cons _ (.cons _ (.refl _)) | exact List.nil_sublist _ | exact .cons _ (.refl _) | exact .cons _ (.cons _ (.refl _)) | exact .cons _ (.cons _ (.cons _ (.refl _))) | exact .cons _ (.cons _ (.cons _ (.cons _ (.refl _)))) | exact .cons_cons _ (List.nil_sublist _)
    ·
      refine awpi_region ?_
      refine awli_op (fun c h => (by cases h)) ?_
      refine r_alloc TD.zero118 rfl (fun b5 => ?_)
      refine awl_nil ⟨rfl, ?_⟩
      refine awli_op (fun c h => (by cases h)) ?_
      first | (refine r_store 0 rfl rfl rfl TD.sz118 rfl rfl rfl ?_) | (refine r_store 1 rfl rfl rfl TD.sz118 rfl rfl rfl ?_) | (refine r_store 2 rfl rfl rfl TD.sz118 rfl rfl rfl ?_) | (refine r_store 3 rfl rfl rfl TD.sz118 rfl rfl rfl ?_) | (refine r_store 4 rfl rfl rfl TD.sz118 rfl rfl rfl ?_)
      refine awl_nil ⟨rfl, ?_⟩
      refine awli_nil ?_
      refine ⟨rfl, 3, rfl, ?_⟩
      refine awpi_block ?_
      refine awpi_region ?_
      refine awli_op (fun c h => (by cases h)) ?_
      first | (refine r_load1 rfl TD.agg120 rfl ?_) | (refine r_load1b 0 rfl rfl rfl TD.agg120 rfl ?_) | (refine r_load1b 1 rfl rfl rfl TD.agg120 rfl ?_) | (refine r_load1b 2 rfl rfl rfl TD.agg120 rfl ?_) | (refine r_load1b 3 rfl rfl rfl TD.agg120 rfl ?_) | (refine r_load1b 4 rfl rfl rfl TD.agg120 rfl ?_)
      refine awl_nil ⟨rfl, ?_⟩
      refine awli_op (fun c h => (by cases h)) ?_
      first | (refine r_loadA rfl TD.agg118 TD.sz118 rfl rfl ?_) | (refine r_loadAb 0 rfl rfl TD.agg118 TD.sz118 rfl rfl ?_) | (refine r_loadAb 1 rfl rfl TD.agg118 TD.sz118 rfl rfl ?_) | (refine r_loadAb 2 rfl rfl TD.agg118 TD.sz118 rfl rfl ?_) | (refine r_loadAb 3 rfl rfl TD.agg118 TD.sz118 rfl rfl ?_) | (refine r_loadAb 4 rfl rfl TD.agg118 TD.sz118 rfl rfl ?_)
      refine awl_nil ⟨rfl, ?_⟩
      refine awli_op (fun c h => (by cases h)) ?_
      refine r_lit 10 (parts := [(0, .tmp 9)]) rfl TD.sl120 TD.sz118 TD.zraw118 rfl rfl rfl rfl rfl rfl rfl ?_
      refine awl_nil ⟨rfl, ?_⟩
      refine awli_op (fun c h => (by cases h)) ?_
      refine r_appendBG 1 rfl rfl rfl rfl (by first | exact .sl _ | exact .own _ _) (by simp [chunks]) TD.sl120 TD.sz118 TD.by118 TD.zlen118 (by simp [chunks] <;> omega) (by simp [chunks] <;> omega) rfl (fun gb gc => ?_)
      refine awl_nil ⟨rfl, ?_⟩
      refine awli_op (fun c h => (by cases h)) ?_
      first | (refine r_store 0 rfl rfl rfl TD.sz120 rfl rfl rfl ?_) | (refine r_store 1 rfl rfl rfl TD.sz120 rfl rfl rfl ?_) | (refine r_store 2 rfl rfl rfl TD.sz120 rfl rfl rfl ?_) | (refine r_store 3 rfl rfl rfl TD.sz120 rfl rfl rfl ?_) | (refine r_store 4 rfl rfl rfl TD.sz120 rfl rfl rfl ?_)
      refine awl_nil ⟨rfl, ?_⟩
      refine awli_nil ?_
      refine x_block ?_
      refine ⟨rfl, _, ⟨kl ++ [k], by simp, .inr ⟨by simp, gb, gc, rfl⟩⟩, ?_, by simp⟩
      simp only [List.map_append, List.map_cons, List.map_nil]
      first | exact List.Sublist.refl _ | exact .cons_cons _ (.cons _ (.refl _)) | exact List.nil_sublist _ | exact .cons _ (.refl _) | exact .cons _ (.cons _ (.refl _)) | exact .cons _ (.cons _ (.cons _ (.refl _))) | exact .cons _ (.cons _ (.cons _ (.cons _ (.refl _)))) | exact .cons_cons _ (List.nil_sublist _)
  ·
    intro xs wo' hG hJ
    obtain ⟨kl, rfl, hgb⟩ := hJ
    obtain ⟨kl', hk1, hk2⟩ := hG
    obtain rfl := pls_injD hk2
    rcases hgb with ⟨h0, rfl⟩ | ⟨h0, g, cap, rfl⟩
    ·
      refine x_block ?_
      refine x_then ?_
      refine awp_seq ?_
      refine awp_region ?_
      first | (refine r_load1 rfl TD.agg120 rfl ?_) | (refine r_load1b 0 rfl rfl rfl TD.agg120 rfl ?_) | (refine r_load1b 1 rfl rfl rfl TD.agg120 rfl ?_)
      refine r_assign rfl rfl ?_
      refine awl_nil ?_
      refine x_then ?_
      refine awp_ret ?_
      exact ⟨(.inl rfl), _, [], (.one (by first | exact .mk rfl rfl | exact .nil rfl)), ⟨kl, hk1, .inl ⟨h0, rfl, rfl⟩⟩, (List.nil_sublist _), (by simp)⟩
    ·
      refine x_block ?_
      refine x_then ?_
      refine awp_seq ?_
      refine awp_region ?_
      first | (refine r_load1 rfl TD.agg120 rfl ?_) | (refine r_load1b 0 rfl rfl rfl TD.agg120 rfl ?_) | (refine r_load1b 1 rfl rfl rfl TD.agg120 rfl ?_)
      refine r_assign rfl rfl ?_
      refine awl_nil ?_
      refine x_then ?_
      refine awp_ret ?_
      exact ⟨(.inl rfl), _, [⟨g, true, .buf 2 (kl.map PL.cs) cap 118⟩], (.one (by first | exact .mk rfl rfl | exact .nil rfl)), ⟨kl, hk1, .inr ⟨h0, g, cap, rfl, rfl⟩⟩, (by first | exact List.Sublist.refl _ | exact .cons_cons _ (.cons _ (.refl _)) | exact List.nil_sublist _ | exact .cons _ (.refl _) | exact .cons _ (.cons _ (.refl _)) | exact .cons _ (.cons _ (.cons _ (.refl _))) | exact .cons _ (.cons _ (.cons _ (.cons _ (.refl _)))) | exact .cons_cons _ (List.nil_sublist _)), (by simp)⟩

theorem collect_okD (m : List (PL × Int)) (hm : m.length ≤ 1000000) {b : Nat} {fl : Bool} : AC Try.prog 116 [.fn 118 [.cp [.v (.map (some b))]]] [⟨b, fl, .map (encM ekP numA m)⟩] (fun r n => ∃ kl : List PL, kl.Perm (m.map (·.1)) ∧ GrowR 2 118 (kl.map PL.cs) r n) := by
  refine ac_of_awp (rs := [2]) (nt := 5) Try.func116 rfl rfl rfl rfl (fun w0 C0 hq => ?_)
  refine awp_seq ?_
  refine awp_region ?_
  refine r_assign rfl rfl ?_
  refine awl_nil ?_
  refine x_then ?_
  refine awp_seq ?_
  refine awp_region ?_
  refine r_move rfl rfl ?_
  refine r_callO hq rfl rfl (.cons (.ev rfl rfl) (.cons (.ev rfl rfl) .nil)) (appendSeq_okD m hm) rfl TD.en123 (List.Sublist.refl _) rfl (fun r nobjs hr => ?_)
  obtain ⟨kl, hk, ⟨h0, rfl, rfl⟩ | ⟨h0, g, cap, rfl, rfl⟩⟩ := hr
  
  ·
    refine r_assign rfl rfl ?_
    refine awl_nil ?_
    refine x_then ?_
    refine awp_ret ?_
    exact ⟨(.inl rfl), _, [], (.one (by first | exact .mk rfl rfl | exact .nil rfl)), ⟨kl, hk, .inl ⟨h0, rfl, rfl⟩⟩, (List.nil_sublist _), (by simp)⟩
  ·
    refine r_assign rfl rfl ?_
    refine awl_nil ?_
    refine x_then ?_
    refine awp_ret ?_
    exact ⟨(.inl rfl), _, [⟨g, true, .buf 2 (kl.map PL.cs) cap 118⟩], (.one (by first | exact .mk rfl rfl | exact .nil rfl)), ⟨kl, hk, .inr ⟨h0, g, cap, rfl, rfl⟩⟩, (by first | exact List.Sublist.refl _ | exact .cons_cons _ (.cons _ (.refl _)) | exact List.nil_sublist _ | exact .cons _ (.refl _) | exact .cons _ (.cons _ (.refl _)) | exact .cons _ (.cons _ (.cons _ (.refl _))) | exact .cons _ (.cons _ (.cons _ (.cons _ (.refl _)))) | exact .cons_cons _ (List.nil_sublist _)), (by simp)⟩

theorem sortNil_okD {cmp : Nat} : AC Try.prog 117 [.v (.slice none 0 0), .fn cmp []] [] (fun r n => n = [] ∧ r = .tup []) := by
  intro C w vals hcom hrels hobjs
  obtain ⟨v0, vs0, hvv, hr0, hr1⟩ := hrels.cons_inv
  obtain ⟨v1, vs1, rfl, hr2, hr3⟩ := hr1.cons_inv
  obtain rfl := hr3.nil_inv
  cases hr0
  obtain rfl : vals = #[.slice none 0 0, v1] := by apply Array.ext'; simpa using hvv
  refine (sortFunc0_117 none 0 v1 w).mono ?_
  rintro e w' ⟨rfl, rfl⟩
  exact ⟨_, C, _, [], rfl, ⟨rfl, rfl⟩, Below.refl _ _, fun _ _ _ => rfl, hcom, rel_tup.2 Rels.nil, ⟨by simp, by simp⟩, by simp⟩
theorem pl_oneD (x : PL) : ∀ v ∈ PL.vs x, v.oneCell' = true := by intro v hv; simp [PL.vs] at hv; rcases hv with rfl | rfl <;> rfl
theorem aw_sortPD {g cap cap' n : Nat} {fl : Bool} {l : List PL} (hn : n = l.length) (hl : l.length ≤ 1000000) :
    AW Try.prog 117 [.v (.slice (some ⟨g, 0, none⟩) n cap'), .fn 105 []] [] [⟨g, fl, .buf 2 (l.map PL.cs) cap 118⟩] (fun r nobjs => r = .tup [] ∧ nobjs = [⟨g, true, .buf 2 ((l.mergeSort fun x y => !(ltOf cmpP) y x).map PL.cs) cap 118⟩]) :=
  aw_sortFunc cmpP sortFunc117 sortFunc0_117 (enters_of Try.func105 (by kernel_rfl) (by kernel_rfl)) areVals_pl (fun _ => rfl) pl_oneD cmpP_swo cmpP_part (fun x y => cmpP_okD x y) hn (by omega)

theorem sortedFunc_okD (m : List (PL × Int)) (hm : m.length ≤ 1000000) {b : Nat} {fl : Bool} : AC Try.prog 103 [.fn 118 [.cp [.v (.map (some b))]], .fn 105 []] [⟨b, fl, .map (encM ekP numA m)⟩] (fun r n => n = [] ∧ ∃ kl : List PL, kl.Perm (m.map (·.1)) ∧ r = plsA (kl.mergeSort fun x y => !(ltOf cmpP) y x)) := by
  refine ac_of_awp (rs := [4]) (nt := 12) Try.func103 rfl rfl rfl rfl (fun w0 C0 hq => ?_)
  refine awp_seq ?_
  refine awp_region ?_
  refine r_assign rfl rfl ?_
  refine awl_nil ?_
  refine x_then ?_
  refine awp_seq ?_
  refine awp_region ?_
  refine r_move rfl rfl ?_
  refine r_callO hq rfl rfl (.cons (.ev rfl rfl) .nil) (collect_okD m hm) rfl TD.en116 (List.Sublist.refl _) rfl (fun r nobjs hr => ?_)
  obtain ⟨kl, hk, ⟨h0, rfl, rfl⟩ | ⟨h0, g, cap, rfl, rfl⟩⟩ := hr
  
  ·
    obtain rfl : kl = [] := by simpa using h0
    refine r_assign rfl rfl ?_
    refine awl_nil ?_
    refine x_then ?_
    refine awp_seq ?_
    refine awp_region ?_
    refine r_move rfl rfl ?_
    refine r_move rfl rfl ?_
    refine r_call0 hq rfl rfl (.cons (.ev rfl rfl) (.cons (.ev rfl rfl) .nil)) (sortNil_okD) rfl TD.en117 rfl (fun r hr => ?_)
    obtain rfl := hr
    refine awl_nil ?_
    refine x_then ?_
    refine awp_seq ?_
    refine awp_region ?_
    refine r_move rfl rfl ?_
    refine r_assign rfl rfl ?_
    refine awl_nil ?_
    refine x_then ?_
    refine awp_ret ?_
    exact ⟨(.inl rfl), _, [], (.one (.nil (sz := 2) rfl)), ⟨rfl, [], hk, by simp [plsA]⟩, (List.nil_sublist _), (by simp)⟩
  ·
    have hkl : kl.length ≤ 1000000 := by have := hk.length_eq; simp at this; omega
    refine r_assign rfl rfl ?_
    refine awl_nil ?_
    refine x_then ?_
    refine awp_seq ?_
    refine awp_region ?_
    refine r_move rfl rfl ?_
    refine r_move rfl rfl ?_
    refine r_callW hq [true] rfl rfl (.cons (.ev rfl rfl) (.cons (.ev rfl rfl) .nil)) (aw_sortPD (by simp) hkl) rfl TD.en117 rfl rfl (List.nil_sublist _) rfl (fun r nobjs hr => ?_)
    obtain ⟨rfl, rfl⟩ := hr
    refine awl_nil ?_
    refine x_then ?_
    refine awp_seq ?_
    refine awp_region ?_
    refine awl_imp (imp_commitB 0 5 rfl (by simp [List.length_mergeSort]) rfl) ?_
    refine r_move rfl rfl ?_
    refine r_assign rfl rfl ?_
    refine awl_nil ?_
    refine x_then ?_
    refine awp_ret ?_
    exact ⟨(.inl rfl), _, [], (.one (by first | exact .mk rfl rfl | exact .nil rfl)), ⟨rfl, kl, hk, rfl⟩, (List.nil_sublist _), (by simp)⟩

theorem order_ok (m : List (PL × Int)) (hm : m.length ≤ 1000000) {b : Nat} {fl : Bool} : AC Try.prog 67 [.v (.map (some b))] [⟨b, fl, .map (encM ekP numA m)⟩] (fun r n => n = [] ∧ ∃ kl : List PL, kl.Perm (m.map (·.1)) ∧ r = plsA (kl.mergeSort fun x y => !(ltOf cmpP) y x)) := by
  refine ac_of_awp (rs := [2]) (nt := 6) Try.func67 rfl rfl rfl rfl (fun w0 C0 hq => ?_)
  refine awp_seq ?_
  refine awp_region ?_
  refine r_assign rfl rfl ?_
  refine awl_nil ?_
  refine x_then ?_
  refine awp_seq ?_
  refine awp_region ?_
  refine r_move rfl rfl ?_
  refine r_call0 hq rfl rfl (.cons (.ev rfl rfl) .nil) (keys_okD b) rfl TD.en104 rfl (fun r hr => ?_)
  obtain rfl := hr
  refine r_callO hq rfl rfl (.cons (.ev rfl rfl) (.cons (.ev rfl rfl) .nil)) (sortedFunc_okD m hm) rfl TD.en103 (List.Sublist.refl _) rfl (fun r nobjs hr => ?_)
  obtain ⟨rfl, kl, hkl, rfl⟩ := hr
  refine r_assign rfl rfl ?_
  refine awl_nil ?_
  refine x_then ?_
  refine awp_ret ?_
  exact ⟨(.inl rfl), _, [], (.one (by first | exact .mk rfl rfl | exact .nil rfl)), ⟨rfl, kl, hkl, rfl⟩, (List.nil_sublist _), (by simp)⟩

theorem told_map (l : List Ent) (hl : l.length ≤ 1000000) : AC Try.prog 64 [entsA l] [] (fun r n => ∃ b m, r = .v (.map (some b)) ∧ n = [⟨b, true, .map (encM ekP numA m)⟩] ∧ Tells m l) := by
  refine ac_of_awp (rs := [2]) (nt := 35) Try.func64 rfl rfl rfl rfl (fun w0 C0 hq => ?_)
  refine awp_seq ?_
  refine awp_region ?_
  refine r_assign rfl rfl ?_
  refine awl_nil ?_
  refine x_then ?_
  refine awp_seq ?_
  refine awp_region ?_
  refine r_makeMap (ek := ekP) (ev := numA) [] rfl rfl (fun b9 => ?_)
  refine r_assign rfl rfl ?_
  refine awl_nil ?_
  refine x_then ?_
  refine awp_seq ?_
  refine awp_seq ?_
  refine awp_region ?_
  refine r_move rfl rfl ?_
  first | (refine r_lenS rfl rfl TD.sl22 rfl ?_) | (refine r_lenNil rfl TD.sl22 rfl ?_)
  refine r_move rfl rfl ?_
  refine awl_nil ?_
  refine x_then ?_
  refine awp_block ?_
  refine awp_loop (fun nn0 S => ∃ k : Nat, ∃ m : List (PL × Int), S = ⟨35, [(3, .a (.v (.map (some b9)))), (10, .a (entsA l)), (11, .a (.v (.int .i64 ((l.map Ent.cs).length)))), (12, .a (.v (.int .i64 ((k : Int)))))], [⟨b9, true, .map (encM ekP numA m)⟩]⟩ ∧ nn0 = l.length - k ∧ (k ≤ l.length) ∧ (Tells m (l.take k))) (l.length - (0)) ⟨35, [(3, .a (.v (.map (some b9)))), (10, .a (entsA l)), (11, .a (.v (.int .i64 ((l.map Ent.cs).length)))), (12, .a (.v (.int .i64 (((0) : Int)))))], [⟨b9, true, .map (encM ekP numA ([]))⟩]⟩ ⟨rfl, (Slots.cons rfl (by first | exact .refl _ | exact .nilOwn _ _ | exact .nilSl _ | exact .ownSl _ _ _  | exact SV.le.of_eq (by simp)) (Slots.cons rfl (by first | exact .refl _ | exact .nilOwn _ _ | exact .nilSl _ | exact .ownSl _ _ _  | exact SV.le.of_eq (by simp)) (Slots.cons rfl (by first | exact .refl _ | exact .nilOwn _ _ | exact .nilSl _ | exact .ownSl _ _ _  | exact SV.le.of_eq (by simp)) (Slots.cons rfl (by first | exact .refl _ | exact .nilOwn _ _ | exact .nilSl _ | exact .ownSl _ _ _  | exact SV.le.of_eq (by simp)) Slots.nil)))), (by first | exact List.Sublist.refl _ | exact .cons_cons _ (.cons _ (.refl _)) | exact List.nil_sublist _ | exact .cons _ (.refl _) | exact .cons _ (.cons _ (.refl _)) | exact .cons _ (.cons _ (.cons _ (.refl _))) | exact .cons _ (.cons _ (.cons _ (.cons _ (.refl _)))) | exact .cons_cons _ (List.nil_sublist _))⟩ ⟨0, [], rfl, rfl, Nat.zero_le _, tells_nil⟩ ?_
  rintro nn0 _ ⟨k, m, rfl, rfl, hk, ht⟩
  refine awp_seq ?_
  refine awp_region ?_
  refine r_cmp rfl rfl rfl rfl ?_
  refine awl_nil ?_
  refine x_then ?_
  refine awp_seq ?_
  refine awp_cond rfl (fun hc0 => ?_) (fun hc0 => ?_)
  ·
    have hltx : k < l.length := by have := of_decide_eq_true hc0; simpa using this
    obtain ⟨x, hx⟩ := get_lt hltx
    refine awp_skip ?_
    refine x_then ?_
    refine awp_seq ?_
    refine awp_block ?_
    refine awp_seq ?_
    refine awp_region ?_
    refine r_index rfl rfl rfl TD.sl22 TD.sz110 (by omega) (get_map hx) rfl ?_
    first | (refine r_loadA rfl TD.agg110 TD.sz110 rfl rfl ?_) | (refine r_loadAb 0 rfl rfl TD.agg110 TD.sz110 rfl rfl ?_)
    refine r_alloc TD.zero110 rfl (fun b5 => ?_)
    first | (refine r_store 0 rfl rfl rfl TD.sz110 rfl rfl rfl ?_) | (refine r_store 1 rfl rfl rfl TD.sz110 rfl rfl rfl ?_)
    refine awl_nil ?_
    refine x_then ?_
    refine awp_seq ?_
    refine awp_region ?_
    first | (refine r_fieldcp rfl TD.f110_0 TD.sz3 rfl ?_) | (refine r_fieldb rfl TD.f110_0 TD.sz3 rfl ?_)
    refine r_load1b 0 rfl rfl rfl TD.agg3 rfl ?_
    first | (refine r_fieldcp rfl TD.f110_1 TD.sz3 rfl ?_) | (refine r_fieldb rfl TD.f110_1 TD.sz3 rfl ?_)
    refine r_load1b 0 rfl rfl rfl TD.agg3 rfl ?_
    refine r_buildArr (parts := [(0, .tmp 17), (1, .tmp 19)]) rfl TD.arr118 TD.sz3 TD.zero118 rfl rfl rfl ?_
    refine r_alloc TD.zero118 rfl (fun b6 => ?_)
    first | (refine r_store 0 rfl rfl rfl TD.sz118 rfl rfl rfl ?_) | (refine r_store 1 rfl rfl rfl TD.sz118 rfl rfl rfl ?_) | (refine r_store 2 rfl rfl rfl TD.sz118 rfl rfl rfl ?_)
    refine awl_nil ?_
    refine x_then ?_
    refine awp_seq ?_
    refine awp_region ?_
    refine r_move rfl rfl ?_
    refine r_loadAb 0 rfl rfl TD.agg118 TD.sz118 rfl rfl ?_
    first | (refine r_lookupOkK 0 keyPD (ev := numA) (k := x.pl) 0 rfl rfl rfl (isVal_pl x.pl) TD.map114 TD.zav79 rfl ?_) | (refine r_lookupOkK 1 keyPD (ev := numA) (k := x.pl) 0 rfl rfl rfl (isVal_pl x.pl) TD.map114 TD.zav79 rfl ?_) | (refine r_lookupOkK 2 keyPD (ev := numA) (k := x.pl) 0 rfl rfl rfl (isVal_pl x.pl) TD.map114 TD.zav79 rfl ?_)
    refine r_move rfl rfl ?_
    refine r_extract rfl rfl rfl ?_
    refine r_extract rfl rfl rfl ?_
    refine r_assign rfl rfl ?_
    refine r_assign rfl rfl ?_
    refine awl_nil ?_
    refine x_then ?_
    refine awp_seq ?_
    refine awp_region ?_
    refine r_move rfl rfl ?_
    refine r_not rfl rfl ?_
    refine awl_nil ?_
    refine x_then ?_
    refine awp_cond rfl (fun hc1 => ?_) (fun hc1 => ?_)
    ·
      have hg : (mget m x.pl).isSome = false := by simpa using hc1
      refine awp_region ?_
      refine r_move rfl rfl ?_
      refine r_loadAb 0 rfl rfl TD.agg118 TD.sz118 rfl rfl ?_
      first | (refine r_fieldb rfl TD.f110_2 TD.sz79 rfl ?_) | (refine r_fieldcp rfl TD.f110_2 TD.sz79 rfl ?_)
      refine r_load1b 1 rfl rfl rfl TD.agg79 rfl ?_
      first | (refine r_mapUpdateK 0 keyPD (ev := numA) (k := x.pl) x.num rfl rfl rfl (isVal_pl x.pl) rfl rfl TD.map114 ?_) | (refine r_mapUpdateK 1 keyPD (ev := numA) (k := x.pl) x.num rfl rfl rfl (isVal_pl x.pl) rfl rfl TD.map114 ?_) | (refine r_mapUpdateK 2 keyPD (ev := numA) (k := x.pl) x.num rfl rfl rfl (isVal_pl x.pl) rfl rfl TD.map114 ?_)
      refine awl_nil ?_
      refine x_block ?_
      refine x_then ?_
      refine awp_region ?_
      refine r_ari _ rfl rfl rfl (wrap_id (by first | omega | (simp; omega))) rfl ?_
      refine r_move rfl rfl ?_
      refine awl_nil ?_
      refine x_then ?_
      refine ⟨l.length - (k + 1), ⟨35, [(3, .a (.v (.map (some b9)))), (10, .a (entsA l)), (11, .a (.v (.int .i64 ((l.map Ent.cs).length)))), (12, .a (.v (.int .i64 (((k + 1) : Int)))))], [⟨b9, true, .map (encM ekP numA (mset m x.pl x.num))⟩]⟩, ⟨rfl, (Slots.cons rfl (by first | exact .refl _ | exact .nilOwn _ _ | exact .nilSl _ | exact .ownSl _ _ _  | exact SV.le.of_eq (by simp)) (Slots.cons rfl (by first | exact .refl _ | exact .nilOwn _ _ | exact .nilSl _ | exact .ownSl _ _ _  | exact SV.le.of_eq (by simp)) (Slots.cons rfl (by first | exact .refl _ | exact .nilOwn _ _ | exact .nilSl _ | exact .ownSl _ _ _  | exact SV.le.of_eq (by simp)) (Slots.cons rfl (by first | exact .refl _ | exact .nilOwn _ _ | exact .nilSl _ | exact .ownSl _ _ _  | exact SV.le.of_eq (by simp)) Slots.nil)))), (by first | exact List.Sublist.refl _ | exact .cons_cons _ (.cons _ (.refl _)) | exact List.nil_sublist _ | exact .cons _ (.refl _) | exact .cons _ (.cons _ (.refl _)) | exact .cons _ (.cons _ (.cons _ (.refl _))) | exact .cons _ (.cons _ (.cons _ (.cons _ (.refl _)))) | exact .cons_cons _ (List.nil_sublist _))⟩, (by omega), ⟨k + 1, mset m x.pl x.num, rfl, rfl, (by omega), (tells_new ht hx hg)⟩⟩
    ·
      have hg : (mget m x.pl).isSome = true := by simpa using hc1
      refine awp_skip ?_
      refine x_block ?_
      refine x_then ?_
      refine awp_region ?_
      refine r_ari _ rfl rfl rfl (wrap_id (by first | omega | (simp; omega))) rfl ?_
      refine r_move rfl rfl ?_
      refine awl_nil ?_
      refine x_then ?_
      refine ⟨l.length - (k + 1), ⟨35, [(3, .a (.v (.map (some b9)))), (10, .a (entsA l)), (11, .a (.v (.int .i64 ((l.map Ent.cs).length)))), (12, .a (.v (.int .i64 (((k + 1) : Int)))))], [⟨b9, true, .map (encM ekP numA (m))⟩]⟩, ⟨rfl, (Slots.cons rfl (by first | exact .refl _ | exact .nilOwn _ _ | exact .nilSl _ | exact .ownSl _ _ _  | exact SV.le.of_eq (by simp)) (Slots.cons rfl (by first | exact .refl _ | exact .nilOwn _ _ | exact .nilSl _ | exact .ownSl _ _ _  | exact SV.le.of_eq (by simp)) (Slots.cons rfl (by first | exact .refl _ | exact .nilOwn _ _ | exact .nilSl _ | exact .ownSl _ _ _  | exact SV.le.of_eq (by simp)) (Slots.cons rfl (by first | exact .refl _ | exact .nilOwn _ _ | exact .nilSl _ | exact .ownSl _ _ _  | exact SV.le.of_eq (by simp)) Slots.nil)))), (by first | exact List.Sublist.refl _ | exact .cons_cons _ (.cons _ (.refl _)) | exact List.nil_sublist _ | exact .cons _ (.refl _) | exact .cons _ (.cons _ (.refl _)) | exact .cons _ (.cons _ (.cons _ (.refl _))) | exact .cons _ (.cons _ (.cons _ (.cons _ (.refl _)))) | exact .cons_cons _ (List.nil_sublist _))⟩, (by omega), ⟨k + 1, m, rfl, rfl, (by omega), (tells_has ht hx hg)⟩⟩
  ·
    have hge : l.length ≤ k := by have := of_decide_eq_false hc0; simp at this; omega
    rw [List.take_of_length_le hge] at ht
    refine awp_exit ?_
    refine x_thenE ?_
    refine x_thenE ?_
    refine x_blockE ?_
    refine x_then ?_
    refine awp_seq ?_
    refine awp_region ?_
    refine r_move rfl rfl ?_
    refine r_assign rfl rfl ?_
    refine awl_nil ?_
    refine x_then ?_
    refine awp_ret ?_
    exact ⟨(.inl rfl), _, [⟨b9, true, .map (encM ekP numA m)⟩], (.one (by first | exact .mk rfl rfl | exact .nil rfl)), ⟨b9, m, rfl, rfl, ht⟩, (by first | exact List.Sublist.refl _ | exact .cons_cons _ (.cons _ (.refl _)) | exact List.nil_sublist _ | exact .cons _ (.refl _) | exact .cons _ (.cons _ (.refl _)) | exact .cons _ (.cons _ (.cons _ (.refl _))) | exact .cons _ (.cons _ (.cons _ (.cons _ (.refl _)))) | exact .cons_cons _ (List.nil_sublist _)), (by simp)⟩

end Go.Proofs.Ytaglbmgpdoophaa.A

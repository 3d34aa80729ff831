/- Layer 63: the walks of TimelineAt, TimelineQuiet. -/
import Derived.Test.YtmbfmnhcahhciaaProg
import Derived.KernelRfl
import Derived.Test.YtmbfmnhcahhciaaX63F
namespace Go.Proofs.Ytmbfmnhcahhciaa.A
open Go Go.RowKit
set_option linter.unusedVariables false
set_option linter.unusedSimpArgs false
set_option maxRecDepth 100000

theorem TF.en49 : entersT Try.prog 49 := enters_of Try.func49 (by kernel_rfl) (by kernel_rfl)
theorem TF.en48 : entersT Try.prog 48 := enters_of Try.func48 (by kernel_rfl) (by kernel_rfl)
theorem TF.en23 : entersT Try.prog 23 := enters_of Try.func23 (by kernel_rfl) (by kernel_rfl)
theorem TF.en26 : entersT Try.prog 26 := enters_of Try.func26 (by kernel_rfl) (by kernel_rfl)
theorem TF.en27 : entersT Try.prog 27 := enters_of Try.func27 (by kernel_rfl) (by kernel_rfl)
theorem TF.un4 : Try.prog.underlying 4 = some .bool := by kernel_rfl
theorem TF.en24 : entersT Try.prog 24 := enters_of Try.func24 (by kernel_rfl) (by kernel_rfl)

theorem fsame1_ok (x y : File) : AC Try.prog 49 [.agg (File.cs x), .agg (File.cs y)] [] (fun r n => n = [] ∧ r = boolA (decide (x.name = y.name) && decide (x.data = y.data))) := by
  refine ac_of_awp (rs := [4]) (nt := 17) Try.func49 rfl rfl rfl rfl (fun w0 C0 hq => ?_)
  refine awp_seq ?_
  refine awp_region ?_
  refine r_box rfl rfl rfl (fun b2 => ?_)
  refine r_box rfl rfl rfl (fun b3 => ?_)
  refine r_assign rfl rfl ?_
  refine awl_nil ?_
  refine x_then ?_
  refine awp_seq ?_
  refine awp_region ?_
  first | (refine r_fieldb rfl TF.f67_0 TF.sz9 rfl ?_) | (refine r_fieldcp rfl TF.f67_0 TF.sz9 rfl ?_)
  refine r_load1b 1 rfl rfl rfl TF.agg9 rfl ?_
  first | (refine r_fieldb rfl TF.f67_0 TF.sz9 rfl ?_) | (refine r_fieldcp rfl TF.f67_0 TF.sz9 rfl ?_)
  refine r_load1b 0 rfl rfl rfl TF.agg9 rfl ?_
  refine r_str2 rfl rfl rfl rfl ?_
  refine r_move rfl rfl ?_
  refine g_cases (t' := 10) rfl (fun hg10 => ?_) (fun hg10 => ?_)
  ·
    have h1 : x.name = y.name := by simpa using hg10
    refine g_run rfl rfl hg10 ?_
    first | (refine r_fieldb rfl TF.f67_1 TF.sz42 rfl ?_) | (refine r_fieldcp rfl TF.f67_1 TF.sz42 rfl ?_)
    refine g_run rfl rfl hg10 ?_
    refine r_load1b 1 rfl rfl rfl TF.agg42 rfl ?_
    refine g_run rfl rfl hg10 ?_
    first | (refine r_fieldb rfl TF.f67_1 TF.sz42 rfl ?_) | (refine r_fieldcp rfl TF.f67_1 TF.sz42 rfl ?_)
    refine g_run rfl rfl hg10 ?_
    refine r_load1b 0 rfl rfl rfl TF.agg42 rfl ?_
    refine g_run rfl rfl hg10 ?_
    refine r_call0 hq rfl rfl (.cons (.ev rfl rfl) (.cons (.ev rfl rfl) .nil)) (equal_ok x.data y.data) rfl TF.en36 rfl (fun r hr => ?_)
    obtain rfl := hr
    refine r_pickT rfl hg10 rfl rfl ?_
    refine r_assign rfl rfl ?_
    refine awl_nil ?_
    refine x_then ?_
    refine awp_ret ?_
    exact ⟨(.inl rfl), _, [], (.one (by first | exact .mk rfl rfl | exact .nil rfl)), ⟨rfl, by first | (rw [decide_eq_true h1, Bool.true_and]; rfl) | (rw [decide_eq_false h1, Bool.false_and]; rfl)⟩, (List.nil_sublist _), (by simp)⟩
  ·
    have h1 : ¬ x.name = y.name := by simpa using hg10
    refine g_skip rfl rfl hg10 rfl ?_
    refine g_skip rfl rfl hg10 rfl ?_
    refine g_skip rfl rfl hg10 rfl ?_
    refine g_skip rfl rfl hg10 rfl ?_
    refine g_skip rfl rfl hg10 rfl ?_
    refine r_pickF rfl hg10 rfl rfl ?_
    refine r_assign rfl rfl ?_
    refine awl_nil ?_
    refine x_then ?_
    refine awp_ret ?_
    exact ⟨(.inl rfl), _, [], (.one (by first | exact .mk rfl rfl | exact .nil rfl)), ⟨rfl, by first | (rw [decide_eq_true h1, Bool.true_and]; rfl) | (rw [decide_eq_false h1, Bool.false_and]; rfl)⟩, (List.nil_sublist _), (by simp)⟩

theorem eqf_ok (l : List File) (hl : l.length ≤ 1000000) : AC Try.prog 48 [files l, files l, .fn 49 []] [] (fun r n => n = [] ∧ r = boolA true) := by
  refine ac_of_awp (rs := [6]) (nt := 32) Try.func48 rfl rfl rfl rfl (fun w0 C0 hq => ?_)
  refine awp_seq ?_
  refine awp_region ?_
  refine r_assign rfl rfl ?_
  refine awl_nil ?_
  refine x_then ?_
  refine awp_seq ?_
  refine awp_seq ?_
  refine awp_region ?_
  refine r_move rfl rfl ?_
  first | (refine r_lenS rfl rfl TF.sl31 rfl ?_) | (refine r_lenNil rfl TF.sl31 rfl ?_) | (refine r_lenV rfl TF.sl31 rfl ?_)
  refine r_move rfl rfl ?_
  first | (refine r_lenS rfl rfl TF.sl31 rfl ?_) | (refine r_lenNil rfl TF.sl31 rfl ?_) | (refine r_lenV rfl TF.sl31 rfl ?_)
  refine r_cmp rfl rfl rfl rfl ?_
  refine awl_nil ?_
  refine x_then ?_
  refine awp_cond rfl (fun hc0 => ?_) (fun hc0 => ?_)
  ·
    exfalso; simp at hc0
  ·
    refine awp_skip ?_
    refine x_then ?_
    refine awp_seq ?_
    refine awp_seq ?_
    refine awp_region ?_
    refine r_move rfl rfl ?_
    first | (refine r_lenS rfl rfl TF.sl31 rfl ?_) | (refine r_lenNil rfl TF.sl31 rfl ?_) | (refine r_lenV rfl TF.sl31 rfl ?_)
    refine r_move rfl rfl ?_
    refine awl_nil ?_
    refine x_then ?_
    refine awp_block ?_
    refine awp_loop (fun nn0 S => ∃ k : Nat, S = ⟨32, [(1, .a (files l)), (2, .a (.fn 49 [])), (15, .a (files l)), (16, .a (.v (.int .i64 ((l.map File.cs).length)))), (17, .a (.v (.int .i64 ((k : Int)))))], []⟩ ∧ nn0 = l.length - k ∧ (k ≤ l.length)) (l.length - (0)) ⟨32, [(1, .a (files l)), (2, .a (.fn 49 [])), (15, .a (files l)), (16, .a (.v (.int .i64 ((l.map File.cs).length)))), (17, .a (.v (.int .i64 (((0) : Int)))))], []⟩ ⟨rfl, (Slots.cons rfl (by first | exact .refl _ | exact .nilOwn _ _ | exact .nilSl _ | exact .ownSl _ _ _  | exact SV.le.of_eq (by simp)) (Slots.cons rfl (by first | exact .refl _ | exact .nilOwn _ _ | exact .nilSl _ | exact .ownSl _ _ _  | exact SV.le.of_eq (by simp)) (Slots.cons rfl (by first | exact .refl _ | exact .nilOwn _ _ | exact .nilSl _ | exact .ownSl _ _ _  | exact SV.le.of_eq (by simp)) (Slots.cons rfl (by first | exact .refl _ | exact .nilOwn _ _ | exact .nilSl _ | exact .ownSl _ _ _  | exact SV.le.of_eq (by simp)) (Slots.cons rfl (by first | exact .refl _ | exact .nilOwn _ _ | exact .nilSl _ | exact .ownSl _ _ _  | exact SV.le.of_eq (by simp)) Slots.nil))))), (by first | exact List.Sublist.refl _ | exact .cons_cons _ (.cons _ (.refl _)) | exact List.nil_sublist _ | exact .cons _ (.refl _) | exact .cons _ (.cons _ (.refl _)) | exact .cons _ (.cons _ (.cons _ (.refl _))) | exact .cons _ (.cons _ (.cons _ (.cons _ (.refl _)))) | exact .cons_cons _ (List.nil_sublist _))⟩ ⟨0, rfl, rfl, Nat.zero_le _⟩ ?_
    rintro nn0 _ ⟨k, rfl, rfl, hk⟩
    refine awp_seq ?_
    refine awp_region ?_
    refine r_cmp rfl rfl rfl rfl ?_
    refine awl_nil ?_
    refine x_then ?_
    refine awp_seq ?_
    refine awp_cond rfl (fun hc1 => ?_) (fun hc1 => ?_)
    ·
      have hltx : k < l.length := by have := of_decide_eq_true hc1; simpa using this
      obtain ⟨x, hx⟩ := get_lt hltx
      refine awp_skip ?_
      refine x_then ?_
      refine awp_seq ?_
      refine awp_block ?_
      refine awp_seq ?_
      refine awp_region ?_
      refine r_move rfl rfl ?_
      refine r_index rfl rfl rfl TF.sl31 TF.sz67 (by omega) (get_map hx) rfl ?_
      refine r_loadA rfl TF.agg67 TF.sz67 rfl rfl ?_
      refine r_alloc TF.zero67 rfl (fun b8 => ?_)
      refine r_assign rfl rfl ?_
      refine r_store 0 rfl rfl rfl TF.sz67 rfl rfl rfl ?_
      refine awl_nil ?_
      refine x_then ?_
      refine awp_seq ?_
      refine awp_region ?_
      refine r_move rfl rfl ?_
      refine r_move rfl rfl ?_
      refine r_index rfl rfl rfl TF.sl31 TF.sz67 (by omega) (get_map hx) rfl ?_
      first | (refine r_loadA rfl TF.agg67 TF.sz67 rfl rfl ?_) | (refine r_loadAb 0 rfl rfl TF.agg67 TF.sz67 rfl rfl ?_)
      refine r_alloc TF.zero67 rfl (fun b9 => ?_)
      first | (refine r_store 0 rfl rfl rfl TF.sz67 rfl rfl rfl ?_) | (refine r_store 1 rfl rfl rfl TF.sz67 rfl rfl rfl ?_)
      refine awl_nil ?_
      refine x_then ?_
      refine awp_seq ?_
      refine awp_region ?_
      refine r_move rfl rfl ?_
      refine r_loadAb 1 rfl rfl TF.agg67 TF.sz67 rfl rfl ?_
      refine r_loadAb 0 rfl rfl TF.agg67 TF.sz67 rfl rfl ?_
      refine r_call0 hq rfl rfl (.cons (.ev rfl rfl) (.cons (.ev rfl rfl) .nil)) (fsame1_ok x x) rfl TF.en49 rfl (fun r hr => ?_)
      obtain rfl := hr
      refine r_not rfl rfl ?_
      refine awl_nil ?_
      refine x_then ?_
      refine awp_cond rfl (fun hc2 => ?_) (fun hc2 => ?_)
      ·
        exfalso; simp at hc2
      ·
        refine awp_skip ?_
        refine x_block ?_
        refine x_then ?_
        refine awp_region ?_
        refine r_ari _ rfl rfl rfl (wrap_id (by first | omega | (simp; omega))) rfl ?_
        refine r_move rfl rfl ?_
        refine awl_nil ?_
        refine x_then ?_
        refine ⟨l.length - (k + 1), ⟨32, [(1, .a (files l)), (2, .a (.fn 49 [])), (15, .a (files l)), (16, .a (.v (.int .i64 ((l.map File.cs).length)))), (17, .a (.v (.int .i64 (((k + 1) : Int)))))], []⟩, ⟨rfl, (Slots.cons rfl (by first | exact .refl _ | exact .nilOwn _ _ | exact .nilSl _ | exact .ownSl _ _ _  | exact SV.le.of_eq (by simp)) (Slots.cons rfl (by first | exact .refl _ | exact .nilOwn _ _ | exact .nilSl _ | exact .ownSl _ _ _  | exact SV.le.of_eq (by simp)) (Slots.cons rfl (by first | exact .refl _ | exact .nilOwn _ _ | exact .nilSl _ | exact .ownSl _ _ _  | exact SV.le.of_eq (by simp)) (Slots.cons rfl (by first | exact .refl _ | exact .nilOwn _ _ | exact .nilSl _ | exact .ownSl _ _ _  | exact SV.le.of_eq (by simp)) (Slots.cons rfl (by first | exact .refl _ | exact .nilOwn _ _ | exact .nilSl _ | exact .ownSl _ _ _  | exact SV.le.of_eq (by simp)) Slots.nil))))), (by first | exact List.Sublist.refl _ | exact .cons_cons _ (.cons _ (.refl _)) | exact List.nil_sublist _ | exact .cons _ (.refl _) | exact .cons _ (.cons _ (.refl _)) | exact .cons _ (.cons _ (.cons _ (.refl _))) | exact .cons _ (.cons _ (.cons _ (.cons _ (.refl _)))) | exact .cons_cons _ (List.nil_sublist _))⟩, (by omega), ⟨k + 1, rfl, rfl, (by omega)⟩⟩
    ·
      refine awp_exit ?_
      refine x_thenE ?_
      refine x_thenE ?_
      refine x_blockE ?_
      refine x_then ?_
      refine awp_seq ?_
      refine awp_region ?_
      refine r_assign rfl rfl ?_
      refine awl_nil ?_
      refine x_then ?_
      refine awp_ret ?_
      exact ⟨(.inl rfl), _, [], (.one (by first | exact .mk rfl rfl | exact .nil rfl)), ⟨rfl, rfl⟩, (List.nil_sublist _), (by simp)⟩

theorem fsame_ok (l : List File) (hl : l.length ≤ 1000000) : AC Try.prog 24 [files l, files l] [] (fun r n => n = [] ∧ r = boolA true) := by
  refine ac_of_awp (rs := [4]) (nt := 8) Try.func24 rfl rfl rfl rfl (fun w0 C0 hq => ?_)
  refine awp_seq ?_
  refine awp_region ?_
  refine r_assign rfl rfl ?_
  refine awl_nil ?_
  refine x_then ?_
  refine awp_seq ?_
  refine awp_region ?_
  refine r_move rfl rfl ?_
  refine r_move rfl rfl ?_
  refine r_call0 hq rfl rfl (.cons (.ev rfl rfl) (.cons (.ev rfl rfl) (.cons (.ev rfl rfl) .nil))) (eqf_ok l hl) rfl TF.en48 rfl (fun r hr => ?_)
  obtain rfl := hr
  refine r_assign rfl rfl ?_
  refine awl_nil ?_
  refine x_then ?_
  refine awp_ret ?_
  exact ⟨(.inl rfl), _, [], (.one (by first | exact .mk rfl rfl | exact .nil rfl)), ⟨rfl, rfl⟩, (List.nil_sublist _), (by simp)⟩

theorem goodE_bnd {e : Ev} (h : GoodE e) : BndC e.ch := by
  obtain ⟨a, ha, hn⟩ := h.name
  refine ⟨by rw [hn]; have := nm_size a; omega, ?_, h.data⟩
  rcases h.to with ⟨_, b, hb, hb2, _⟩ | ⟨_, ht⟩
  · rw [hb2]; have := nm_size b; omega
  · rw [ht]; decide
theorem last_un {at_ : AT} {mo : Int} : ∀ {b a : List Int} {was : List File}, (∀ m ∈ b, (at_ m).2 = false) → lastR at_ mo was (a ++ b) = lastR at_ mo was a
  | b, x :: a, was, h => by
    simp only [List.cons_append, lastR]
    cases (at_ x).2 && decide (x ≤ mo) <;> simp only [cond_true, cond_false] <;> exact last_un h
  | [], [], was, h => rfl
  | m :: b, [], was, h => by
    simp only [List.nil_append, lastR]
    rw [h m (by simp), Bool.false_and, cond_false]
    have := last_un (a := []) (was := was) (mo := mo) (b := b) (at_ := at_) (fun x hx => h x (by simp [hx]))
    simpa [lastR] using this
def LastOk (ms : List Int) (ds : List Disk) (mo : Int) (i : Nat) (o : Option Nat) : Prop := (o = none ∧ lastR (atF ms ds) mo [] (ms.take i) = []) ∨ ∃ k d, o = some k ∧ ds[k]? = some d ∧ lastR (atF ms ds) mo [] (ms.take i) = filesD d
theorem last_hit {ms : List Int} {ds : List Disk} {mo : Int} {i : Nat} {m : Int} {d : Disk} (hp : ms.Pairwise (· < ·)) (hm : ms[i]? = some m) (hd : ds[i]? = some d) (ht : d.told = true) (hmo : m ≤ mo) : LastOk ms ds mo (i + 1) (some i) :=
  .inr ⟨i, d, rfl, hd, by rw [takeS hm, last_snoc, at_idx hp hm hd, ht, decide_eq_true hmo]; rfl⟩
theorem last_miss {ms : List Int} {ds : List Disk} {mo : Int} {i : Nat} {m : Int} {d : Disk} {o : Option Nat} (hp : ms.Pairwise (· < ·)) (hm : ms[i]? = some m) (hd : ds[i]? = some d) (h : LastOk ms ds mo i o) (hn : (d.told && decide (m ≤ mo)) = false) : LastOk ms ds mo (i + 1) o := by
  unfold LastOk at *
  rw [takeS hm, last_snoc, at_idx hp hm hd, hn, cond_false]; exact h
theorem last_end {ms : List Int} {ds : List Disk} {mo : Int} {i : Nat} {o : Option Nat} (hp : ms.Pairwise (· < ·)) (h : LastOk ms ds mo i o) (hi : ms.length ≤ i ∨ ds.length ≤ i) : LastOk ms ds mo ms.length o := by
  unfold LastOk at *
  rw [List.take_length]
  have e : lastR (atF ms ds) mo [] ms = lastR (atF ms ds) mo [] (ms.take i) := by
    have := last_un (at_ := atF ms ds) (mo := mo) (b := ms.drop i) (a := ms.take i) (was := []) (fun m hm => by
      obtain ⟨j, hj⟩ := List.getElem?_of_mem hm
      rw [List.getElem?_drop] at hj
      have hlt := (List.getElem?_eq_some_iff.1 hj).1
      rw [at_past (ds := ds) hp hj (by omega)])
    rwa [List.take_append_drop] at this
  rw [e]; exact h
theorem at_small (ms : List Int) (ds : List Disk) (mo : Int) : (AtF (tlF ms (atF ms ds)) mo).2.length ≤ 4 := by
  cases hr : riseF ms with
  | false => rw [show tlF ms (atF ms ds) = [] from by unfold tlF; rw [hr]; rfl]; show (AtF [] mo).2.length ≤ 4; unfold AtF; split <;> simp [atLoop]
  | true =>
    rw [AtF_tl hr]
    have key : ∀ (rest : List Int) (was : List File), was.length ≤ 4 → (lastR (atF ms ds) mo was rest).length ≤ 4 := by
      intro rest
      induction rest with
      | nil => exact fun was h => h
      | cons m rest ih =>
        intro was h
        rw [lastR]
        cases (atF ms ds m).2 && decide (m ≤ mo) with
        | true => exact ih _ (good_at ms ds m).1
        | false => exact ih _ h
    exact key ms [] (by simp)
def inE (a c : Int) (e : Ev) : Bool := decide (a < e.moment) && decide (e.moment ≤ c)
theorem quiet_any (l : List Ev) (a c : Int) : quietF l a c = !(l.any (inE a c)) := rfl

theorem last_ok (ms : List Int) (ds : List Disk) (mo : Int) (hml : ms.length ≤ 1000000) (hp : ms.Pairwise (· < ·)) : AC Try.prog 26 [numsA ms, disksA ds, .v (.int .u64 mo)] [] (fun r n => n = [] ∧ ∃ o, LastOk ms ds mo ms.length o ∧ r = .v (.int .i64 (optI o))) := by
  refine ac_of_awp (rs := [6]) (nt := 36) Try.func26 rfl rfl rfl rfl (fun w0 C0 hq => ?_)
  refine awp_seq ?_
  refine awp_region ?_
  refine r_assign rfl rfl ?_
  refine awl_nil ?_
  refine x_then ?_
  refine awp_seq ?_
  refine awp_region ?_
  refine r_assign rfl rfl ?_
  refine awl_nil ?_
  refine x_then ?_
  refine awp_seq ?_
  refine awp_seq ?_
  refine awp_region ?_
  refine r_assign rfl rfl ?_
  refine awl_nil ?_
  refine x_then ?_
  refine awp_block ?_
  refine awp_loop (fun nn0 S => ∃ i : Nat, ∃ o : Option Nat, S = ⟨36, [(0, .a (numsA ms)), (1, .a (disksA ds)), (2, .a (.v (.int .u64 (mo)))), (7, .a (.v (.int .i64 (optI o)))), (8, .a (.v (.int .i64 ((i : Int)))))], []⟩ ∧ nn0 = ms.length - i ∧ (i ≤ ms.length) ∧ (LastOk ms ds mo i o)) (ms.length - (0)) ⟨36, [(0, .a (numsA ms)), (1, .a (disksA ds)), (2, .a (.v (.int .u64 (mo)))), (7, .a (.v (.int .i64 (optI (none))))), (8, .a (.v (.int .i64 (((0) : Int)))))], []⟩ ⟨rfl, (Slots.cons rfl (by first | exact .refl _ | exact .nilOwn _ _ | exact .nilSl _ | exact .ownSl _ _ _  | exact SV.le.of_eq (by simp)) (Slots.cons rfl (by first | exact .refl _ | exact .nilOwn _ _ | exact .nilSl _ | exact .ownSl _ _ _  | exact SV.le.of_eq (by simp)) (Slots.cons rfl (by first | exact .refl _ | exact .nilOwn _ _ | exact .nilSl _ | exact .ownSl _ _ _  | exact SV.le.of_eq (by simp)) (Slots.cons rfl (by first | exact .refl _ | exact .nilOwn _ _ | exact .nilSl _ | exact .ownSl _ _ _  | exact SV.le.of_eq (by simp)) (Slots.cons rfl (by first | exact .refl _ | exact .nilOwn _ _ | exact .nilSl _ | exact .ownSl _ _ _  | exact SV.le.of_eq (by simp)) Slots.nil))))), (by first | exact List.Sublist.refl _ | exact .cons_cons _ (.cons _ (.refl _)) | exact List.nil_sublist _ | exact .cons _ (.refl _) | exact .cons _ (.cons _ (.refl _)) | exact .cons _ (.cons _ (.cons _ (.refl _))) | exact .cons _ (.cons _ (.cons _ (.cons _ (.refl _)))) | exact .cons_cons _ (List.nil_sublist _))⟩ ⟨0, none, rfl, rfl, Nat.zero_le _, (.inl ⟨rfl, rfl⟩)⟩ ?_
  rintro nn0 _ ⟨i, o, rfl, rfl, hi, hlo⟩
  refine awp_seq ?_
  refine awp_seq ?_
  refine awp_region ?_
  refine r_move rfl rfl ?_
  refine r_move rfl rfl ?_
  first | (refine r_lenS rfl rfl TF.sl22 rfl ?_) | (refine r_lenNil rfl TF.sl22 rfl ?_) | (refine r_lenV rfl TF.sl22 rfl ?_)
  refine r_cmp rfl rfl rfl rfl ?_
  refine r_move rfl rfl ?_
  refine g_cases (t' := 13) rfl (fun hg13 => ?_) (fun hg13 => ?_)
  ·
    have hltm : i < ms.length := by have := of_decide_eq_true hg13; simpa using this
    obtain ⟨m, hm⟩ := get_lt hltm
    refine g_run rfl rfl hg13 ?_
    refine r_move rfl rfl ?_
    refine g_run rfl rfl hg13 ?_
    refine r_move rfl rfl ?_
    refine g_run rfl rfl hg13 ?_
    first | (refine r_lenS rfl rfl TF.sl23 rfl ?_) | (refine r_lenNil rfl TF.sl23 rfl ?_) | (refine r_lenV rfl TF.sl23 rfl ?_)
    refine g_run rfl rfl hg13 ?_
    refine r_cmp rfl rfl rfl rfl ?_
    refine r_pickT rfl hg13 rfl rfl ?_
    refine awl_nil ?_
    refine x_then ?_
    refine awp_cond rfl (fun hc0 => ?_) (fun hc0 => ?_)
    ·
      obtain ⟨d, hdk⟩ := get_lt (show i < ds.length by have := of_decide_eq_true hc0; simpa using this)
      refine awp_skip ?_
      refine x_then ?_
      refine awp_seq ?_
      refine awp_block ?_
      refine awp_seq ?_
      refine awp_region ?_
      refine r_move rfl rfl ?_
      refine r_move rfl rfl ?_
      refine r_index rfl rfl rfl TF.sl23 TF.sz38 (by omega) (get_map hdk) rfl ?_
      first | (refine r_fieldb rfl TF.f38_0 TF.sz4 rfl ?_) | (refine r_fieldcp rfl TF.f38_0 TF.sz4 rfl ?_)
      refine r_load1 rfl TF.agg4 rfl ?_
      refine r_move rfl rfl ?_
      refine g_cases (t' := 26) rfl (fun hg26 => ?_) (fun hg26 => ?_)
      ·
        refine g_run rfl rfl hg26 ?_
        refine r_move rfl rfl ?_
        refine g_run rfl rfl hg26 ?_
        refine r_move rfl rfl ?_
        refine g_run rfl rfl hg26 ?_
        refine r_index rfl rfl rfl TF.sl22 TF.sz30 (by omega) (get_map hm) rfl ?_
        refine g_run rfl rfl hg26 ?_
        refine r_load1 rfl TF.agg30 rfl ?_
        refine g_run rfl rfl hg26 ?_
        refine r_move rfl rfl ?_
        refine g_run rfl rfl hg26 ?_
        refine r_cmp rfl rfl rfl rfl ?_
        refine r_pickT rfl hg26 rfl rfl ?_
        refine awl_nil ?_
        refine x_then ?_
        refine awp_cond rfl (fun hc1 => ?_) (fun hc1 => ?_)
        ·
          have hmo := of_decide_eq_true hc1
          refine awp_region ?_
          refine r_move rfl rfl ?_
          refine r_assign rfl rfl ?_
          refine awl_nil ?_
          refine x_block ?_
          refine x_then ?_
          refine awp_region ?_
          refine r_move rfl rfl ?_
          refine r_ari _ rfl rfl rfl (wrap_id (by first | omega | (simp; omega))) rfl ?_
          refine r_assign rfl rfl ?_
          refine awl_nil ?_
          refine x_then ?_
          refine ⟨ms.length - (i + 1), ⟨36, [(0, .a (numsA ms)), (1, .a (disksA ds)), (2, .a (.v (.int .u64 (mo)))), (7, .a (.v (.int .i64 (optI ((some i)))))), (8, .a (.v (.int .i64 (((i + 1) : Int)))))], []⟩, ⟨rfl, (Slots.cons rfl (by first | exact .refl _ | exact .nilOwn _ _ | exact .nilSl _ | exact .ownSl _ _ _  | exact SV.le.of_eq (by simp)) (Slots.cons rfl (by first | exact .refl _ | exact .nilOwn _ _ | exact .nilSl _ | exact .ownSl _ _ _  | exact SV.le.of_eq (by simp)) (Slots.cons rfl (by first | exact .refl _ | exact .nilOwn _ _ | exact .nilSl _ | exact .ownSl _ _ _  | exact SV.le.of_eq (by simp)) (Slots.cons rfl (by first | exact .refl _ | exact .nilOwn _ _ | exact .nilSl _ | exact .ownSl _ _ _  | exact SV.le.of_eq (by simp)) (Slots.cons rfl (by first | exact .refl _ | exact .nilOwn _ _ | exact .nilSl _ | exact .ownSl _ _ _  | exact SV.le.of_eq (by simp)) Slots.nil))))), (by first | exact List.Sublist.refl _ | exact .cons_cons _ (.cons _ (.refl _)) | exact List.nil_sublist _ | exact .cons _ (.refl _) | exact .cons _ (.cons _ (.refl _)) | exact .cons _ (.cons _ (.cons _ (.refl _))) | exact .cons _ (.cons _ (.cons _ (.cons _ (.refl _)))) | exact .cons_cons _ (List.nil_sublist _))⟩, (by omega), ⟨i + 1, (some i), rfl, rfl, (by omega), (last_hit hp hm hdk hg26 hmo)⟩⟩
        ·
          have hno : (d.told && decide (m ≤ mo)) = false := by first | (rw [hg26]; rfl) | (rw [hg26, hc1]; rfl)
          refine awp_skip ?_
          refine x_block ?_
          refine x_then ?_
          refine awp_region ?_
          refine r_move rfl rfl ?_
          refine r_ari _ rfl rfl rfl (wrap_id (by first | omega | (simp; omega))) rfl ?_
          refine r_assign rfl rfl ?_
          refine awl_nil ?_
          refine x_then ?_
          refine ⟨ms.length - (i + 1), ⟨36, [(0, .a (numsA ms)), (1, .a (disksA ds)), (2, .a (.v (.int .u64 (mo)))), (7, .a (.v (.int .i64 (optI (o))))), (8, .a (.v (.int .i64 (((i + 1) : Int)))))], []⟩, ⟨rfl, (Slots.cons rfl (by first | exact .refl _ | exact .nilOwn _ _ | exact .nilSl _ | exact .ownSl _ _ _  | exact SV.le.of_eq (by simp)) (Slots.cons rfl (by first | exact .refl _ | exact .nilOwn _ _ | exact .nilSl _ | exact .ownSl _ _ _  | exact SV.le.of_eq (by simp)) (Slots.cons rfl (by first | exact .refl _ | exact .nilOwn _ _ | exact .nilSl _ | exact .ownSl _ _ _  | exact SV.le.of_eq (by simp)) (Slots.cons rfl (by first | exact .refl _ | exact .nilOwn _ _ | exact .nilSl _ | exact .ownSl _ _ _  | exact SV.le.of_eq (by simp)) (Slots.cons rfl (by first | exact .refl _ | exact .nilOwn _ _ | exact .nilSl _ | exact .ownSl _ _ _  | exact SV.le.of_eq (by simp)) Slots.nil))))), (by first | exact List.Sublist.refl _ | exact .cons_cons _ (.cons _ (.refl _)) | exact List.nil_sublist _ | exact .cons _ (.refl _) | exact .cons _ (.cons _ (.refl _)) | exact .cons _ (.cons _ (.cons _ (.refl _))) | exact .cons _ (.cons _ (.cons _ (.cons _ (.refl _)))) | exact .cons_cons _ (List.nil_sublist _))⟩, (by omega), ⟨i + 1, o, rfl, rfl, (by omega), (last_miss hp hm hdk hlo hno)⟩⟩
      ·
        refine g_skip rfl rfl hg26 rfl ?_
        refine g_skip rfl rfl hg26 rfl ?_
        refine g_skip rfl rfl hg26 rfl ?_
        refine g_skip rfl rfl hg26 rfl ?_
        refine g_skip rfl rfl hg26 rfl ?_
        refine g_skip rfl rfl hg26 rfl ?_
        refine r_pickF rfl hg26 rfl rfl ?_
        refine awl_nil ?_
        refine x_then ?_
        refine awp_condF rfl ?_
        have hno : (d.told && decide (m ≤ mo)) = false := by first | (rw [hg26]; rfl) | (rw [hg26, hc1]; rfl)
        refine awp_skip ?_
        refine x_block ?_
        refine x_then ?_
        refine awp_region ?_
        refine r_move rfl rfl ?_
        refine r_ari _ rfl rfl rfl (wrap_id (by first | omega | (simp; omega))) rfl ?_
        refine r_assign rfl rfl ?_
        refine awl_nil ?_
        refine x_then ?_
        refine ⟨ms.length - (i + 1), ⟨36, [(0, .a (numsA ms)), (1, .a (disksA ds)), (2, .a (.v (.int .u64 (mo)))), (7, .a (.v (.int .i64 (optI (o))))), (8, .a (.v (.int .i64 (((i + 1) : Int)))))], []⟩, ⟨rfl, (Slots.cons rfl (by first | exact .refl _ | exact .nilOwn _ _ | exact .nilSl _ | exact .ownSl _ _ _  | exact SV.le.of_eq (by simp)) (Slots.cons rfl (by first | exact .refl _ | exact .nilOwn _ _ | exact .nilSl _ | exact .ownSl _ _ _  | exact SV.le.of_eq (by simp)) (Slots.cons rfl (by first | exact .refl _ | exact .nilOwn _ _ | exact .nilSl _ | exact .ownSl _ _ _  | exact SV.le.of_eq (by simp)) (Slots.cons rfl (by first | exact .refl _ | exact .nilOwn _ _ | exact .nilSl _ | exact .ownSl _ _ _  | exact SV.le.of_eq (by simp)) (Slots.cons rfl (by first | exact .refl _ | exact .nilOwn _ _ | exact .nilSl _ | exact .ownSl _ _ _  | exact SV.le.of_eq (by simp)) Slots.nil))))), (by first | exact List.Sublist.refl _ | exact .cons_cons _ (.cons _ (.refl _)) | exact List.nil_sublist _ | exact .cons _ (.refl _) | exact .cons _ (.cons _ (.refl _)) | exact .cons _ (.cons _ (.cons _ (.refl _))) | exact .cons _ (.cons _ (.cons _ (.cons _ (.refl _)))) | exact .cons_cons _ (List.nil_sublist _))⟩, (by omega), ⟨i + 1, o, rfl, rfl, (by omega), (last_miss hp hm hdk hlo hno)⟩⟩
    ·
      try (have hend := last_end hp hlo (.inr (by have := of_decide_eq_false hc0; simp at this; omega)))
      refine awp_exit ?_
      refine x_thenE ?_
      refine x_thenE ?_
      refine x_blockE ?_
      refine x_then ?_
      refine awp_seq ?_
      refine awp_region ?_
      refine r_move rfl rfl ?_
      refine r_assign rfl rfl ?_
      refine awl_nil ?_
      refine x_then ?_
      refine awp_ret ?_
      exact ⟨(.inl rfl), _, [], (.one (by first | exact .mk rfl rfl | exact .nil rfl)), ⟨rfl, o, hend, rfl⟩, (List.nil_sublist _), (by simp)⟩
  ·
    have hge : ms.length ≤ i := by have := of_decide_eq_false hg13; simp at this; omega
    have hend := last_end hp hlo (.inl hge)
    refine g_skip rfl rfl hg13 rfl ?_
    refine g_skip rfl rfl hg13 rfl ?_
    refine g_skip rfl rfl hg13 rfl ?_
    refine g_skip rfl rfl hg13 rfl ?_
    refine r_pickF rfl hg13 rfl rfl ?_
    refine awl_nil ?_
    refine x_then ?_
    refine awp_condF rfl ?_
    try (have hend := last_end hp hlo (.inr (by have := of_decide_eq_false hc0; simp at this; omega)))
    refine awp_exit ?_
    refine x_thenE ?_
    refine x_thenE ?_
    refine x_blockE ?_
    refine x_then ?_
    refine awp_seq ?_
    refine awp_region ?_
    refine r_move rfl rfl ?_
    refine r_assign rfl rfl ?_
    refine awl_nil ?_
    refine x_then ?_
    refine awp_ret ?_
    exact ⟨(.inl rfl), _, [], (.one (by first | exact .mk rfl rfl | exact .nil rfl)), ⟨rfl, o, hend, rfl⟩, (List.nil_sublist _), (by simp)⟩

set_option maxHeartbeats 1000000 in
theorem at_walk (ms : List Int) (ds : List Disk) (hok : ∀ d ∈ ds, OkD d) (mo : Int) : AC Try.prog 9 [numsA ms, disksA ds, .v (.int .u64 mo)] [] (fun r n => n = [] ∧ r = boolA true) := by
  refine ac_of_awp (rs := [6]) (nt := 58) Try.func9 rfl rfl rfl rfl (fun w0 C0 hq => ?_)
  refine awp_seq ?_
  refine awp_region ?_
  refine r_assign rfl rfl ?_
  refine awl_nil ?_
  refine x_then ?_
  refine awp_seq ?_
  refine awp_seq ?_
  refine awp_region ?_
  refine r_call0 hq rfl rfl .nil (awake_ok) rfl TF.en11 rfl (fun r hr => ?_)
  obtain rfl := hr
  refine r_not rfl rfl ?_
  refine awl_nil ?_
  refine x_then ?_
  refine awp_cond rfl (fun hc0 => ?_) (fun hc0 => ?_)
  ·
    exfalso; exact absurd hc0 (by decide)
  ·
    refine awp_skip ?_
    refine x_then ?_
    refine awp_seq ?_
    refine awp_seq ?_
    refine awp_region ?_
    refine r_move rfl rfl ?_
    refine r_move rfl rfl ?_
    refine r_call0 hq rfl rfl (.cons (.ev rfl rfl) (.cons (.ev rfl rfl) .nil)) (great_ok ms ds) rfl TF.en12 rfl (fun r hr => ?_)
    rcases hr with rfl | ⟨rfl, hm12, hd12⟩
    
    ·
      refine r_cmp rfl rfl rfl rfl ?_
      refine r_move rfl rfl ?_
      refine g_skip rfl rfl rfl rfl ?_
      refine g_skip rfl rfl rfl rfl ?_
      refine g_skip rfl rfl rfl rfl ?_
      refine r_pickT rfl rfl rfl rfl ?_
      refine awl_nil ?_
      refine x_then ?_
      refine awp_condT rfl ?_
      refine awp_seq ?_
      refine awp_region ?_
      refine r_assign rfl rfl ?_
      refine awl_nil ?_
      refine x_then ?_
      refine awp_ret ?_
      refine x_thenR ?_
      exact ⟨(.inl rfl), _, [], (.one (by first | exact .mk rfl rfl | exact .nil rfl)), ⟨rfl, rfl⟩, (List.nil_sublist _), (by simp)⟩
    ·
      refine r_cmp rfl rfl rfl rfl ?_
      refine r_move rfl rfl ?_
      refine g_run rfl rfl rfl ?_
      refine r_move rfl rfl ?_
      refine g_run rfl rfl rfl ?_
      refine r_call0 hq rfl rfl (.cons (.ev rfl rfl) .nil) (rrise_ok ms (by omega)) rfl TF.en16 rfl (fun r hr => ?_)
      obtain rfl := hr
      refine g_run rfl rfl rfl ?_
      refine r_not rfl rfl ?_
      refine r_pickF rfl rfl rfl rfl ?_
      refine awl_nil ?_
      refine x_then ?_
      refine awp_cond rfl (fun hc1 => ?_) (fun hc1 => ?_)
      ·
        refine awp_seq ?_
        refine awp_region ?_
        refine r_assign rfl rfl ?_
        refine awl_nil ?_
        refine x_then ?_
        refine awp_ret ?_
        refine x_thenR ?_
        exact ⟨(.inl rfl), _, [], (.one (by first | exact .mk rfl rfl | exact .nil rfl)), ⟨rfl, rfl⟩, (List.nil_sublist _), (by simp)⟩
      ·
        have hrf : riseF ms = true := by simpa using hc1
        refine awp_skip ?_
        refine x_then ?_
        refine awp_seq ?_
        refine awp_region ?_
        refine r_move rfl rfl ?_
        refine r_move rfl rfl ?_
        refine r_move rfl rfl ?_
        refine r_call0 hq rfl rfl (.cons (.ev rfl rfl) (.cons (.ev rfl rfl) .nil)) (at_ok ms ds) rfl TF.en13 rfl (fun r hr => ?_)
        obtain rfl := hr
        refine r_call0 hq rfl rfl (.cons (.ev rfl rfl) (.cons (.ev rfl rfl) .nil)) (tlD_ok ms (by omega) ms ds (by omega) hok) rfl TF.en14 rfl (fun r hr => ?_)
        obtain rfl := hr
        obtain ⟨E, hE⟩ : ∃ E, E = tlF ms (atF ms ds) := ⟨_, rfl⟩
        rw [← hE]
        have hEl : E.length ≤ 48 := by rw [hE]; have := tlF_len ms ms ds; omega
        have hEg : ∀ e ∈ E, GoodE e := by rw [hE]; exact tl_good
        refine r_assign rfl rfl ?_
        refine awl_nil ?_
        refine x_then ?_
        refine awp_seq ?_
        refine awp_region ?_
        refine r_move rfl rfl ?_
        refine r_move rfl rfl ?_
        refine r_call0 hq rfl rfl (.cons (.ev rfl rfl) (.cons (.ev rfl rfl) .nil)) (tat_ok E mo (by omega) (fun e he => goodE_bnd (hEg e he))) rfl TF.en23 rfl (fun r hr => ?_)
        obtain rfl := hr
        rw [show AtF E mo = (0, lastR (atF ms ds) mo [] ms) from by rw [hE]; exact AtF_tl hrf mo]
        refine r_move rfl rfl ?_
        refine r_extract rfl rfl rfl ?_
        refine r_extract rfl rfl rfl ?_
        refine r_assign rfl rfl ?_
        refine r_assign rfl rfl ?_
        refine awl_nil ?_
        refine x_then ?_
        refine awp_seq ?_
        refine awp_region ?_
        refine r_move rfl rfl ?_
        refine r_move rfl rfl ?_
        refine r_move rfl rfl ?_
        refine r_call0 hq rfl rfl (.cons (.ev rfl rfl) (.cons (.ev rfl rfl) (.cons (.ev rfl rfl) .nil))) (last_ok ms ds mo (by omega) (rise_pw hrf)) rfl TF.en26 rfl (fun r hr => ?_)
        obtain ⟨o, ho, rfl⟩ := hr
        unfold LastOk at ho
        rw [List.take_length] at ho
        rcases ho with ⟨rfl, hlr⟩ | ⟨k, d, rfl, hdk, hlr⟩
        ·
          rw [hlr]
          refine r_assign rfl rfl ?_
          refine awl_nil ?_
          refine x_then ?_
          refine awp_seq ?_
          refine awp_seq ?_
          refine awp_region ?_
          refine r_move rfl rfl ?_
          refine r_cmp rfl rfl rfl rfl ?_
          refine awl_nil ?_
          refine x_then ?_
          refine awp_cond rfl (fun hc2 => ?_) (fun hc2 => ?_)
          ·
            refine awp_seq ?_
            refine awp_region ?_
            refine r_move rfl rfl ?_
            refine r_cmp rfl rfl rfl rfl ?_
            refine r_move rfl rfl ?_
            refine g_run rfl rfl rfl ?_
            refine r_move rfl rfl ?_
            refine g_run rfl rfl rfl ?_
            first | (refine r_lenS rfl rfl TF.sl31 rfl ?_) | (refine r_lenNil rfl TF.sl31 rfl ?_) | (refine r_lenV rfl TF.sl31 rfl ?_)
            refine g_run rfl rfl rfl ?_
            refine r_cmp rfl rfl rfl rfl ?_
            refine r_pickT rfl rfl rfl rfl ?_
            refine r_assign rfl rfl ?_
            refine awl_nil ?_
            refine x_then ?_
            refine awp_ret ?_
            refine x_thenR ?_
            exact ⟨(.inl rfl), _, [], (.one (by first | exact .mk rfl rfl | exact .nil rfl)), ⟨rfl, rfl⟩, (List.nil_sublist _), (by simp)⟩
          ·
            exfalso; exact absurd hc2 (by decide)
        ·
          rw [hlr]
          have hkl := (List.getElem?_eq_some_iff.1 hdk).1
          refine r_assign rfl rfl ?_
          refine awl_nil ?_
          refine x_then ?_
          refine awp_seq ?_
          refine awp_seq ?_
          refine awp_region ?_
          refine r_move rfl rfl ?_
          refine r_cmp rfl rfl rfl rfl ?_
          refine awl_nil ?_
          refine x_then ?_
          refine awp_cond rfl (fun hc2 => ?_) (fun hc2 => ?_)
          ·
            exfalso; have := of_decide_eq_true hc2; simp [optI] at this; omega
          ·
            refine awp_skip ?_
            refine x_then ?_
            refine awp_seq ?_
            refine awp_region ?_
            refine r_move rfl rfl ?_
            refine r_cmp rfl rfl rfl rfl ?_
            refine r_move rfl rfl ?_
            refine g_run rfl rfl rfl ?_
            refine r_move rfl rfl ?_
            refine g_run rfl rfl rfl ?_
            refine r_move rfl rfl ?_
            refine g_run rfl rfl rfl ?_
            refine r_move rfl rfl ?_
            refine g_run rfl rfl rfl ?_
            refine r_index rfl rfl rfl TF.sl23 TF.sz38 (by simp [optI]) (get_map hdk) rfl ?_
            refine g_run rfl rfl rfl ?_
            refine r_loadA rfl TF.agg38 TF.sz38 rfl rfl ?_
            refine g_run rfl rfl rfl ?_
            refine r_call0 hq rfl rfl (.cons (.ev rfl rfl) .nil) (files_ok d (hok d (List.mem_of_getElem? hdk))) rfl TF.en18 rfl (fun r hr => ?_)
            obtain rfl := hr
            refine g_run rfl rfl rfl ?_
            refine r_call0 hq rfl rfl (.cons (.ev rfl rfl) (.cons (.ev rfl rfl) .nil)) (alike_ok (filesD d) (by have := (goodD d).1; omega) (sorted_nd (files_sorted d)) (fun f hf => ((goodD d).2 f hf).2)) rfl TF.en27 rfl (fun r hr => ?_)
            obtain rfl := hr
            refine g_run rfl rfl rfl ?_
            refine r_cmp rfl rfl rfl rfl ?_
            refine r_pickT rfl rfl rfl rfl ?_
            refine r_assign rfl rfl ?_
            refine awl_nil ?_
            refine x_then ?_
            refine awp_ret ?_
            exact ⟨(.inl rfl), _, [], (.one (by first | exact .mk rfl rfl | exact .nil rfl)), ⟨rfl, rfl⟩, (List.nil_sublist _), (by simp)⟩

set_option maxHeartbeats 1000000 in
theorem quiet_walk (ms : List Int) (ds : List Disk) (hok : ∀ d ∈ ds, OkD d) (a b c : Int) : AC Try.prog 7 [numsA ms, disksA ds, .v (.int .u64 a), .v (.int .u64 b), .v (.int .u64 c)] [] (fun r n => n = [] ∧ r = boolA true) := by
  refine ac_of_awp (rs := [10]) (nt := 121) Try.func7 rfl rfl rfl rfl (fun w0 C0 hq => ?_)
  refine awp_seq ?_
  refine awp_region ?_
  refine r_assign rfl rfl ?_
  refine awl_nil ?_
  refine x_then ?_
  refine awp_seq ?_
  refine awp_seq ?_
  refine awp_region ?_
  refine r_call0 hq rfl rfl .nil (awake_ok) rfl TF.en11 rfl (fun r hr => ?_)
  obtain rfl := hr
  refine r_not rfl rfl ?_
  refine awl_nil ?_
  refine x_then ?_
  refine awp_cond rfl (fun hc0 => ?_) (fun hc0 => ?_)
  ·
    exfalso; exact absurd hc0 (by decide)
  ·
    refine awp_skip ?_
    refine x_then ?_
    refine awp_seq ?_
    refine awp_seq ?_
    refine awp_region ?_
    refine r_move rfl rfl ?_
    refine r_move rfl rfl ?_
    refine r_call0 hq rfl rfl (.cons (.ev rfl rfl) (.cons (.ev rfl rfl) .nil)) (great_ok ms ds) rfl TF.en12 rfl (fun r hr => ?_)
    rcases hr with rfl | ⟨rfl, hm12, hd12⟩
    
    ·
      refine r_cmp rfl rfl rfl rfl ?_
      refine r_move rfl rfl ?_
      refine g_skip rfl rfl rfl rfl ?_
      refine g_skip rfl rfl rfl rfl ?_
      refine g_skip rfl rfl rfl rfl ?_
      refine r_pickT rfl rfl rfl rfl ?_
      refine r_move rfl rfl ?_
      refine g_skip rfl rfl rfl rfl ?_
      refine g_skip rfl rfl rfl rfl ?_
      refine g_skip rfl rfl rfl rfl ?_
      refine r_pickT rfl rfl rfl rfl ?_
      refine awl_nil ?_
      refine x_then ?_
      refine awp_condT rfl ?_
      refine awp_seq ?_
      refine awp_region ?_
      refine r_assign rfl rfl ?_
      refine awl_nil ?_
      refine x_then ?_
      refine awp_ret ?_
      refine x_thenR ?_
      exact ⟨(.inl rfl), _, [], (.one (by first | exact .mk rfl rfl | exact .nil rfl)), ⟨rfl, rfl⟩, (List.nil_sublist _), (by simp)⟩
    ·
      refine r_cmp rfl rfl rfl rfl ?_
      refine r_move rfl rfl ?_
      refine g_run rfl rfl rfl ?_
      refine r_move rfl rfl ?_
      refine g_run rfl rfl rfl ?_
      refine r_move rfl rfl ?_
      refine g_run rfl rfl rfl ?_
      refine r_cmp rfl rfl rfl rfl ?_
      refine r_pickF rfl rfl rfl rfl ?_
      refine r_move rfl rfl ?_
      refine g_cases (t' := 30) rfl (fun hg30 => ?_) (fun hg30 => ?_)
      ·
        refine g_skip rfl rfl hg30 rfl ?_
        refine g_skip rfl rfl hg30 rfl ?_
        refine g_skip rfl rfl hg30 rfl ?_
        refine r_pickT rfl hg30 rfl rfl ?_
        refine awl_nil ?_
        refine x_then ?_
        refine awp_condT rfl ?_
        refine awp_seq ?_
        refine awp_region ?_
        refine r_assign rfl rfl ?_
        refine awl_nil ?_
        refine x_then ?_
        refine awp_ret ?_
        refine x_thenR ?_
        exact ⟨(.inl rfl), _, [], (.one (by first | exact .mk rfl rfl | exact .nil rfl)), ⟨rfl, rfl⟩, (List.nil_sublist _), (by simp)⟩
      ·
        have hab : a ≤ b := by have := of_decide_eq_false hg30; omega
        refine g_run rfl rfl hg30 ?_
        refine r_move rfl rfl ?_
        refine g_run rfl rfl hg30 ?_
        refine r_move rfl rfl ?_
        refine g_run rfl rfl hg30 ?_
        refine r_cmp rfl rfl rfl rfl ?_
        refine r_pickF rfl hg30 rfl rfl ?_
        refine awl_nil ?_
        refine x_then ?_
        refine awp_cond rfl (fun hc1 => ?_) (fun hc1 => ?_)
        ·
          refine awp_seq ?_
          refine awp_region ?_
          refine r_assign rfl rfl ?_
          refine awl_nil ?_
          refine x_then ?_
          refine awp_ret ?_
          refine x_thenR ?_
          exact ⟨(.inl rfl), _, [], (.one (by first | exact .mk rfl rfl | exact .nil rfl)), ⟨rfl, rfl⟩, (List.nil_sublist _), (by simp)⟩
        ·
          have hbc : b ≤ c := by have := of_decide_eq_false hc1; omega
          refine awp_skip ?_
          refine x_then ?_
          refine awp_seq ?_
          refine awp_region ?_
          refine r_move rfl rfl ?_
          refine r_move rfl rfl ?_
          refine r_move rfl rfl ?_
          refine r_call0 hq rfl rfl (.cons (.ev rfl rfl) (.cons (.ev rfl rfl) .nil)) (at_ok ms ds) rfl TF.en13 rfl (fun r hr => ?_)
          obtain rfl := hr
          refine r_call0 hq rfl rfl (.cons (.ev rfl rfl) (.cons (.ev rfl rfl) .nil)) (tlD_ok ms (by omega) ms ds (by omega) hok) rfl TF.en14 rfl (fun r hr => ?_)
          obtain rfl := hr
          obtain ⟨E, hE⟩ : ∃ E, E = tlF ms (atF ms ds) := ⟨_, rfl⟩
          rw [← hE]
          have hEl : E.length ≤ 48 := by rw [hE]; have := tlF_len ms ms ds; omega
          have hEg : ∀ e ∈ E, GoodE e := by rw [hE]; exact tl_good
          have hsm : ∀ mo, (AtF E mo).2.length ≤ 4 := fun mo => by rw [hE]; exact at_small ms ds mo
          refine r_assign rfl rfl ?_
          refine awl_nil ?_
          refine x_then ?_
          refine awp_seq ?_
          refine awp_region ?_
          refine r_move rfl rfl ?_
          refine r_move rfl rfl ?_
          refine r_move rfl rfl ?_
          refine r_call0 hq rfl rfl (.cons (.ev rfl rfl) (.cons (.ev rfl rfl) (.cons (.ev rfl rfl) .nil))) (quiet_ok E a c (by omega)) rfl TF.en22 rfl (fun r hr => ?_)
          obtain rfl := hr
          refine r_assign rfl rfl ?_
          refine awl_nil ?_
          refine x_then ?_
          refine awp_seq ?_
          refine awp_region ?_
          refine r_assign rfl rfl ?_
          refine awl_nil ?_
          refine x_then ?_
          refine awp_seq ?_
          refine awp_seq ?_
          refine awp_region ?_
          refine r_assign rfl rfl ?_
          refine awl_nil ?_
          refine x_then ?_
          refine awp_block ?_
          refine awp_loop (fun nn0 S => ∃ i : Nat, S = ⟨121, [(2, .a (.v (.int .u64 (a)))), (3, .a (.v (.int .u64 (b)))), (4, .a (.v (.int .u64 (c)))), (11, .a (evsA E)), (12, .a (boolA (quietF E a c))), (13, .a (boolA ((E.take i).any (inE a c)))), (14, .a (.v (.int .i64 ((i : Int)))))], []⟩ ∧ nn0 = E.length - i ∧ (i ≤ E.length)) (E.length - (0)) ⟨121, [(2, .a (.v (.int .u64 (a)))), (3, .a (.v (.int .u64 (b)))), (4, .a (.v (.int .u64 (c)))), (11, .a (evsA E)), (12, .a (boolA (quietF E a c))), (13, .a (boolA ((E.take (0)).any (inE a c)))), (14, .a (.v (.int .i64 (((0) : Int)))))], []⟩ ⟨rfl, (Slots.cons rfl (by first | exact .refl _ | exact .nilOwn _ _ | exact .nilSl _ | exact .ownSl _ _ _  | exact SV.le.of_eq (by simp)) (Slots.cons rfl (by first | exact .refl _ | exact .nilOwn _ _ | exact .nilSl _ | exact .ownSl _ _ _  | exact SV.le.of_eq (by simp)) (Slots.cons rfl (by first | exact .refl _ | exact .nilOwn _ _ | exact .nilSl _ | exact .ownSl _ _ _  | exact SV.le.of_eq (by simp)) (Slots.cons rfl (by first | exact .refl _ | exact .nilOwn _ _ | exact .nilSl _ | exact .ownSl _ _ _  | exact SV.le.of_eq (by simp)) (Slots.cons rfl (by first | exact .refl _ | exact .nilOwn _ _ | exact .nilSl _ | exact .ownSl _ _ _  | exact SV.le.of_eq (by simp)) (Slots.cons rfl (by first | exact .refl _ | exact .nilOwn _ _ | exact .nilSl _ | exact .ownSl _ _ _  | exact SV.le.of_eq (by simp)) (Slots.cons rfl (by first | exact .refl _ | exact .nilOwn _ _ | exact .nilSl _ | exact .ownSl _ _ _  | exact SV.le.of_eq (by simp)) Slots.nil))))))), (by first | exact List.Sublist.refl _ | exact .cons_cons _ (.cons _ (.refl _)) | exact List.nil_sublist _ | exact .cons _ (.refl _) | exact .cons _ (.cons _ (.refl _)) | exact .cons _ (.cons _ (.cons _ (.refl _))) | exact .cons _ (.cons _ (.cons _ (.cons _ (.refl _)))) | exact .cons_cons _ (List.nil_sublist _))⟩ ⟨0, rfl, rfl, Nat.zero_le _⟩ ?_
          rintro nn0 _ ⟨i, rfl, rfl, hi⟩
          refine awp_seq ?_
          refine awp_seq ?_
          refine awp_region ?_
          refine r_move rfl rfl ?_
          refine r_move rfl rfl ?_
          first | (refine r_lenS rfl rfl TF.sl28 rfl ?_) | (refine r_lenNil rfl TF.sl28 rfl ?_) | (refine r_lenV rfl TF.sl28 rfl ?_)
          refine r_cmp rfl rfl rfl rfl ?_
          refine r_move rfl rfl ?_
          refine g_cases (t' := 48) rfl (fun hg48 => ?_) (fun hg48 => ?_)
          ·
            have hltx : i < E.length := by have := of_decide_eq_true hg48; simpa using this
            obtain ⟨x, hx⟩ := get_lt hltx
            refine g_run rfl rfl hg48 ?_
            refine r_move rfl rfl ?_
            refine g_run rfl rfl hg48 ?_
            refine r_cmp rfl rfl rfl rfl ?_
            refine r_pickT rfl hg48 rfl rfl ?_
            refine awl_nil ?_
            refine x_then ?_
            refine awp_cond rfl (fun hc2 => ?_) (fun hc2 => ?_)
            ·
              skip
              refine awp_skip ?_
              refine x_then ?_
              refine awp_seq ?_
              refine awp_block ?_
              refine awp_region ?_
              refine r_move rfl rfl ?_
              refine r_move rfl rfl ?_
              refine g_cases (t' := 55) rfl (fun hg55 => ?_) (fun hg55 => ?_)
              ·
                refine g_skip rfl rfl hg55 rfl ?_
                refine g_skip rfl rfl hg55 rfl ?_
                refine g_skip rfl rfl hg55 rfl ?_
                refine g_skip rfl rfl hg55 rfl ?_
                refine g_skip rfl rfl hg55 rfl ?_
                refine g_skip rfl rfl hg55 rfl ?_
                refine g_skip rfl rfl hg55 rfl ?_
                refine g_skip rfl rfl hg55 rfl ?_
                refine g_skipU rfl rfl rfl ?_
                refine g_skipU rfl rfl rfl ?_
                refine g_skipU rfl rfl rfl ?_
                refine g_skipU rfl rfl rfl ?_
                refine g_skipU rfl rfl rfl ?_
                refine g_skipU rfl rfl rfl ?_
                refine g_skipU rfl rfl rfl ?_
                refine g_skip rfl rfl hg55 rfl ?_
                refine r_pickT rfl hg55 rfl rfl ?_
                refine r_assign rfl rfl ?_
                refine awl_nil ?_
                refine x_block ?_
                refine x_then ?_
                refine awp_region ?_
                refine r_move rfl rfl ?_
                refine r_ari _ rfl rfl rfl (wrap_id (by first | omega | (simp; omega))) rfl ?_
                refine r_assign rfl rfl ?_
                refine awl_nil ?_
                refine x_then ?_
                have han : (E.take (i + 1)).any (inE a c) = ((E.take i).any (inE a c) || inE a c x) := by rw [takeS hx, List.any_append]; simp
                refine ⟨E.length - (i + 1), ⟨121, [(2, .a (.v (.int .u64 (a)))), (3, .a (.v (.int .u64 (b)))), (4, .a (.v (.int .u64 (c)))), (11, .a (evsA E)), (12, .a (boolA (quietF E a c))), (13, .a (boolA ((E.take (i + 1)).any (inE a c)))), (14, .a (.v (.int .i64 (((i + 1) : Int)))))], []⟩, ⟨rfl, (Slots.cons rfl (by first | exact .refl _ | exact .nilOwn _ _ | exact .nilSl _ | exact .ownSl _ _ _  | exact SV.le.ownEq (by first | rfl | (rw [han, hg55]; rfl) | (rw [han, hg55, Bool.false_or]; unfold inE; rw [hg63]; rfl)) | exact SV.le.of_eq (by first | rfl | (rw [han, hg55]; rfl) | (rw [han, hg55, Bool.false_or]; unfold inE; rw [hg63]; rfl))) (Slots.cons rfl (by first | exact .refl _ | exact .nilOwn _ _ | exact .nilSl _ | exact .ownSl _ _ _  | exact SV.le.ownEq (by first | rfl | (rw [han, hg55]; rfl) | (rw [han, hg55, Bool.false_or]; unfold inE; rw [hg63]; rfl)) | exact SV.le.of_eq (by first | rfl | (rw [han, hg55]; rfl) | (rw [han, hg55, Bool.false_or]; unfold inE; rw [hg63]; rfl))) (Slots.cons rfl (by first | exact .refl _ | exact .nilOwn _ _ | exact .nilSl _ | exact .ownSl _ _ _  | exact SV.le.ownEq (by first | rfl | (rw [han, hg55]; rfl) | (rw [han, hg55, Bool.false_or]; unfold inE; rw [hg63]; rfl)) | exact SV.le.of_eq (by first | rfl | (rw [han, hg55]; rfl) | (rw [han, hg55, Bool.false_or]; unfold inE; rw [hg63]; rfl))) (Slots.cons rfl (by first | exact .refl _ | exact .nilOwn _ _ | exact .nilSl _ | exact .ownSl _ _ _  | exact SV.le.ownEq (by first | rfl | (rw [han, hg55]; rfl) | (rw [han, hg55, Bool.false_or]; unfold inE; rw [hg63]; rfl)) | exact SV.le.of_eq (by first | rfl | (rw [han, hg55]; rfl) | (rw [han, hg55, Bool.false_or]; unfold inE; rw [hg63]; rfl))) (Slots.cons rfl (by first | exact .refl _ | exact .nilOwn _ _ | exact .nilSl _ | exact .ownSl _ _ _  | exact SV.le.ownEq (by first | rfl | (rw [han, hg55]; rfl) | (rw [han, hg55, Bool.false_or]; unfold inE; rw [hg63]; rfl)) | exact SV.le.of_eq (by first | rfl | (rw [han, hg55]; rfl) | (rw [han, hg55, Bool.false_or]; unfold inE; rw [hg63]; rfl))) (Slots.cons rfl (by first | exact .refl _ | exact .nilOwn _ _ | exact .nilSl _ | exact .ownSl _ _ _  | exact SV.le.ownEq (by first | rfl | (rw [han, hg55]; rfl) | (rw [han, hg55, Bool.false_or]; unfold inE; rw [hg63]; rfl)) | exact SV.le.of_eq (by first | rfl | (rw [han, hg55]; rfl) | (rw [han, hg55, Bool.false_or]; unfold inE; rw [hg63]; rfl))) (Slots.cons rfl (by first | exact .refl _ | exact .nilOwn _ _ | exact .nilSl _ | exact .ownSl _ _ _  | exact SV.le.ownEq (by first | rfl | (rw [han, hg55]; rfl) | (rw [han, hg55, Bool.false_or]; unfold inE; rw [hg63]; rfl)) | exact SV.le.of_eq (by first | rfl | (rw [han, hg55]; rfl) | (rw [han, hg55, Bool.false_or]; unfold inE; rw [hg63]; rfl))) Slots.nil))))))), (by first | exact List.Sublist.refl _ | exact .cons_cons _ (.cons _ (.refl _)) | exact List.nil_sublist _ | exact .cons _ (.refl _) | exact .cons _ (.cons _ (.refl _)) | exact .cons _ (.cons _ (.cons _ (.refl _))) | exact .cons _ (.cons _ (.cons _ (.cons _ (.refl _)))) | exact .cons_cons _ (List.nil_sublist _))⟩, (by omega), ⟨i + 1, rfl, rfl, (by omega)⟩⟩
              ·
                refine g_run rfl rfl hg55 ?_
                refine r_move rfl rfl ?_
                refine g_run rfl rfl hg55 ?_
                refine r_move rfl rfl ?_
                refine g_run rfl rfl hg55 ?_
                refine r_index rfl rfl rfl TF.sl28 TF.sz46 (by omega) (get_map hx) rfl ?_
                refine g_run rfl rfl hg55 ?_
                first | (refine r_fieldb rfl TF.f46_0 TF.sz30 rfl ?_) | (refine r_fieldcp rfl TF.f46_0 TF.sz30 rfl ?_)
                refine g_run rfl rfl hg55 ?_
                refine r_load1 rfl TF.agg30 rfl ?_
                refine g_run rfl rfl hg55 ?_
                refine r_move rfl rfl ?_
                refine g_run rfl rfl hg55 ?_
                refine r_cmp rfl rfl rfl rfl ?_
                refine g_run rfl rfl hg55 ?_
                refine r_move rfl rfl ?_
                refine g_cases (t' := 63) rfl (fun hg63 => ?_) (fun hg63 => ?_)
                ·
                  refine g_run rfl rfl hg63 ?_
                  refine r_move rfl rfl ?_
                  refine g_run rfl rfl hg63 ?_
                  refine r_move rfl rfl ?_
                  refine g_run rfl rfl hg63 ?_
                  refine r_index rfl rfl rfl TF.sl28 TF.sz46 (by omega) (get_map hx) rfl ?_
                  refine g_run rfl rfl hg63 ?_
                  first | (refine r_fieldb rfl TF.f46_0 TF.sz30 rfl ?_) | (refine r_fieldcp rfl TF.f46_0 TF.sz30 rfl ?_)
                  refine g_run rfl rfl hg63 ?_
                  refine r_load1 rfl TF.agg30 rfl ?_
                  refine g_run rfl rfl hg63 ?_
                  refine r_move rfl rfl ?_
                  refine g_run rfl rfl hg63 ?_
                  refine r_cmp rfl rfl rfl rfl ?_
                  refine g_run rfl rfl hg55 ?_
                  refine r_pickT rfl hg63 rfl rfl ?_
                  refine r_pickF rfl hg55 rfl rfl ?_
                  refine r_assign rfl rfl ?_
                  refine awl_nil ?_
                  refine x_block ?_
                  refine x_then ?_
                  refine awp_region ?_
                  refine r_move rfl rfl ?_
                  refine r_ari _ rfl rfl rfl (wrap_id (by first | omega | (simp; omega))) rfl ?_
                  refine r_assign rfl rfl ?_
                  refine awl_nil ?_
                  refine x_then ?_
                  have han : (E.take (i + 1)).any (inE a c) = ((E.take i).any (inE a c) || inE a c x) := by rw [takeS hx, List.any_append]; simp
                  refine ⟨E.length - (i + 1), ⟨121, [(2, .a (.v (.int .u64 (a)))), (3, .a (.v (.int .u64 (b)))), (4, .a (.v (.int .u64 (c)))), (11, .a (evsA E)), (12, .a (boolA (quietF E a c))), (13, .a (boolA ((E.take (i + 1)).any (inE a c)))), (14, .a (.v (.int .i64 (((i + 1) : Int)))))], []⟩, ⟨rfl, (Slots.cons rfl (by first | exact .refl _ | exact .nilOwn _ _ | exact .nilSl _ | exact .ownSl _ _ _  | exact SV.le.ownEq (by first | rfl | (rw [han, hg55]; rfl) | (rw [han, hg55, Bool.false_or]; unfold inE; rw [hg63]; rfl)) | exact SV.le.of_eq (by first | rfl | (rw [han, hg55]; rfl) | (rw [han, hg55, Bool.false_or]; unfold inE; rw [hg63]; rfl))) (Slots.cons rfl (by first | exact .refl _ | exact .nilOwn _ _ | exact .nilSl _ | exact .ownSl _ _ _  | exact SV.le.ownEq (by first | rfl | (rw [han, hg55]; rfl) | (rw [han, hg55, Bool.false_or]; unfold inE; rw [hg63]; rfl)) | exact SV.le.of_eq (by first | rfl | (rw [han, hg55]; rfl) | (rw [han, hg55, Bool.false_or]; unfold inE; rw [hg63]; rfl))) (Slots.cons rfl (by first | exact .refl _ | exact .nilOwn _ _ | exact .nilSl _ | exact .ownSl _ _ _  | exact SV.le.ownEq (by first | rfl | (rw [han, hg55]; rfl) | (rw [han, hg55, Bool.false_or]; unfold inE; rw [hg63]; rfl)) | exact SV.le.of_eq (by first | rfl | (rw [han, hg55]; rfl) | (rw [han, hg55, Bool.false_or]; unfold inE; rw [hg63]; rfl))) (Slots.cons rfl (by first | exact .refl _ | exact .nilOwn _ _ | exact .nilSl _ | exact .ownSl _ _ _  | exact SV.le.ownEq (by first | rfl | (rw [han, hg55]; rfl) | (rw [han, hg55, Bool.false_or]; unfold inE; rw [hg63]; rfl)) | exact SV.le.of_eq (by first | rfl | (rw [han, hg55]; rfl) | (rw [han, hg55, Bool.false_or]; unfold inE; rw [hg63]; rfl))) (Slots.cons rfl (by first | exact .refl _ | exact .nilOwn _ _ | exact .nilSl _ | exact .ownSl _ _ _  | exact SV.le.ownEq (by first | rfl | (rw [han, hg55]; rfl) | (rw [han, hg55, Bool.false_or]; unfold inE; rw [hg63]; rfl)) | exact SV.le.of_eq (by first | rfl | (rw [han, hg55]; rfl) | (rw [han, hg55, Bool.false_or]; unfold inE; rw [hg63]; rfl))) (Slots.cons rfl (by first | exact .refl _ | exact .nilOwn _ _ | exact .nilSl _ | exact .ownSl _ _ _  | exact SV.le.ownEq (by first | rfl | (rw [han, hg55]; rfl) | (rw [han, hg55, Bool.false_or]; unfold inE; rw [hg63]; rfl)) | exact SV.le.of_eq (by first | rfl | (rw [han, hg55]; rfl) | (rw [han, hg55, Bool.false_or]; unfold inE; rw [hg63]; rfl))) (Slots.cons rfl (by first | exact .refl _ | exact .nilOwn _ _ | exact .nilSl _ | exact .ownSl _ _ _  | exact SV.le.ownEq (by first | rfl | (rw [han, hg55]; rfl) | (rw [han, hg55, Bool.false_or]; unfold inE; rw [hg63]; rfl)) | exact SV.le.of_eq (by first | rfl | (rw [han, hg55]; rfl) | (rw [han, hg55, Bool.false_or]; unfold inE; rw [hg63]; rfl))) Slots.nil))))))), (by first | exact List.Sublist.refl _ | exact .cons_cons _ (.cons _ (.refl _)) | exact List.nil_sublist _ | exact .cons _ (.refl _) | exact .cons _ (.cons _ (.refl _)) | exact .cons _ (.cons _ (.cons _ (.refl _))) | exact .cons _ (.cons _ (.cons _ (.cons _ (.refl _)))) | exact .cons_cons _ (List.nil_sublist _))⟩, (by omega), ⟨i + 1, rfl, rfl, (by omega)⟩⟩
                ·
                  refine g_skip rfl rfl hg63 rfl ?_
                  refine g_skip rfl rfl hg63 rfl ?_
                  refine g_skip rfl rfl hg63 rfl ?_
                  refine g_skip rfl rfl hg63 rfl ?_
                  refine g_skip rfl rfl hg63 rfl ?_
                  refine g_skip rfl rfl hg63 rfl ?_
                  refine g_skip rfl rfl hg63 rfl ?_
                  refine g_run rfl rfl hg55 ?_
                  refine r_pickF rfl hg63 rfl rfl ?_
                  refine r_pickF rfl hg55 rfl rfl ?_
                  refine r_assign rfl rfl ?_
                  refine awl_nil ?_
                  refine x_block ?_
                  refine x_then ?_
                  refine awp_region ?_
                  refine r_move rfl rfl ?_
                  refine r_ari _ rfl rfl rfl (wrap_id (by first | omega | (simp; omega))) rfl ?_
                  refine r_assign rfl rfl ?_
                  refine awl_nil ?_
                  refine x_then ?_
                  have han : (E.take (i + 1)).any (inE a c) = ((E.take i).any (inE a c) || inE a c x) := by rw [takeS hx, List.any_append]; simp
                  refine ⟨E.length - (i + 1), ⟨121, [(2, .a (.v (.int .u64 (a)))), (3, .a (.v (.int .u64 (b)))), (4, .a (.v (.int .u64 (c)))), (11, .a (evsA E)), (12, .a (boolA (quietF E a c))), (13, .a (boolA ((E.take (i + 1)).any (inE a c)))), (14, .a (.v (.int .i64 (((i + 1) : Int)))))], []⟩, ⟨rfl, (Slots.cons rfl (by first | exact .refl _ | exact .nilOwn _ _ | exact .nilSl _ | exact .ownSl _ _ _  | exact SV.le.ownEq (by first | rfl | (rw [han, hg55]; rfl) | (rw [han, hg55, Bool.false_or]; unfold inE; rw [hg63]; rfl)) | exact SV.le.of_eq (by first | rfl | (rw [han, hg55]; rfl) | (rw [han, hg55, Bool.false_or]; unfold inE; rw [hg63]; rfl))) (Slots.cons rfl (by first | exact .refl _ | exact .nilOwn _ _ | exact .nilSl _ | exact .ownSl _ _ _  | exact SV.le.ownEq (by first | rfl | (rw [han, hg55]; rfl) | (rw [han, hg55, Bool.false_or]; unfold inE; rw [hg63]; rfl)) | exact SV.le.of_eq (by first | rfl | (rw [han, hg55]; rfl) | (rw [han, hg55, Bool.false_or]; unfold inE; rw [hg63]; rfl))) (Slots.cons rfl (by first | exact .refl _ | exact .nilOwn _ _ | exact .nilSl _ | exact .ownSl _ _ _  | exact SV.le.ownEq (by first | rfl | (rw [han, hg55]; rfl) | (rw [han, hg55, Bool.false_or]; unfold inE; rw [hg63]; rfl)) | exact SV.le.of_eq (by first | rfl | (rw [han, hg55]; rfl) | (rw [han, hg55, Bool.false_or]; unfold inE; rw [hg63]; rfl))) (Slots.cons rfl (by first | exact .refl _ | exact .nilOwn _ _ | exact .nilSl _ | exact .ownSl _ _ _  | exact SV.le.ownEq (by first | rfl | (rw [han, hg55]; rfl) | (rw [han, hg55, Bool.false_or]; unfold inE; rw [hg63]; rfl)) | exact SV.le.of_eq (by first | rfl | (rw [han, hg55]; rfl) | (rw [han, hg55, Bool.false_or]; unfold inE; rw [hg63]; rfl))) (Slots.cons rfl (by first | exact .refl _ | exact .nilOwn _ _ | exact .nilSl _ | exact .ownSl _ _ _  | exact SV.le.ownEq (by first | rfl | (rw [han, hg55]; rfl) | (rw [han, hg55, Bool.false_or]; unfold inE; rw [hg63]; rfl)) | exact SV.le.of_eq (by first | rfl | (rw [han, hg55]; rfl) | (rw [han, hg55, Bool.false_or]; unfold inE; rw [hg63]; rfl))) (Slots.cons rfl (by first | exact .refl _ | exact .nilOwn _ _ | exact .nilSl _ | exact .ownSl _ _ _  | exact SV.le.ownEq (by first | rfl | (rw [han, hg55]; rfl) | (rw [han, hg55, Bool.false_or]; unfold inE; rw [hg63]; rfl)) | exact SV.le.of_eq (by first | rfl | (rw [han, hg55]; rfl) | (rw [han, hg55, Bool.false_or]; unfold inE; rw [hg63]; rfl))) (Slots.cons rfl (by first | exact .refl _ | exact .nilOwn _ _ | exact .nilSl _ | exact .ownSl _ _ _  | exact SV.le.ownEq (by first | rfl | (rw [han, hg55]; rfl) | (rw [han, hg55, Bool.false_or]; unfold inE; rw [hg63]; rfl)) | exact SV.le.of_eq (by first | rfl | (rw [han, hg55]; rfl) | (rw [han, hg55, Bool.false_or]; unfold inE; rw [hg63]; rfl))) Slots.nil))))))), (by first | exact List.Sublist.refl _ | exact .cons_cons _ (.cons _ (.refl _)) | exact List.nil_sublist _ | exact .cons _ (.refl _) | exact .cons _ (.cons _ (.refl _)) | exact .cons _ (.cons _ (.cons _ (.refl _))) | exact .cons _ (.cons _ (.cons _ (.cons _ (.refl _)))) | exact .cons_cons _ (List.nil_sublist _))⟩, (by omega), ⟨i + 1, rfl, rfl, (by omega)⟩⟩
            ·
              have hge2 : E.length ≤ i := by first | exact hge | (have := of_decide_eq_false hc2; omega)
              have hit : E.take i = E := List.take_of_length_le hge2
              rw [hit]
              refine awp_exit ?_
              refine x_thenE ?_
              refine x_thenE ?_
              refine x_blockE ?_
              refine x_then ?_
              refine awp_seq ?_
              refine awp_seq ?_
              refine awp_region ?_
              refine r_move rfl rfl ?_
              refine r_move rfl rfl ?_
              refine r_beq rfl rfl TF.un4 rfl ?_
              refine r_move rfl rfl ?_
              refine g_run rfl rfl (by rw [quiet_any]; cases E.any (inE a c) <;> rfl) ?_
              refine r_move rfl rfl ?_
              refine g_run rfl rfl (by rw [quiet_any]; cases E.any (inE a c) <;> rfl) ?_
              refine r_move rfl rfl ?_
              refine g_run rfl rfl (by rw [quiet_any]; cases E.any (inE a c) <;> rfl) ?_
              refine r_move rfl rfl ?_
              refine g_run rfl rfl (by rw [quiet_any]; cases E.any (inE a c) <;> rfl) ?_
              refine r_move rfl rfl ?_
              refine g_run rfl rfl (by rw [quiet_any]; cases E.any (inE a c) <;> rfl) ?_
              refine r_call0 hq rfl rfl (.cons (.ev rfl rfl) (.cons (.ev rfl rfl) (.cons (.ev rfl rfl) .nil))) (quiet_ok E a b (by omega)) rfl TF.en22 rfl (fun r hr => ?_)
              obtain rfl := hr
              refine g_run rfl rfl (by rw [quiet_any]; cases E.any (inE a c) <;> rfl) ?_
              refine r_move rfl rfl ?_
              refine g_cases (t' := 82) rfl (fun hg82 => ?_) (fun hg82 => ?_)
              ·
                refine g_run rfl rfl hg82 ?_
                refine r_move rfl rfl ?_
                refine g_run rfl rfl hg82 ?_
                refine r_move rfl rfl ?_
                refine g_run rfl rfl hg82 ?_
                refine r_move rfl rfl ?_
                refine g_run rfl rfl hg82 ?_
                refine r_call0 hq rfl rfl (.cons (.ev rfl rfl) (.cons (.ev rfl rfl) (.cons (.ev rfl rfl) .nil))) (quiet_ok E b c (by omega)) rfl TF.en22 rfl (fun r hr => ?_)
                obtain rfl := hr
                refine g_run rfl rfl (by rw [quiet_any]; cases E.any (inE a c) <;> rfl) ?_
                refine r_pickT rfl hg82 rfl rfl ?_
                refine g_run rfl rfl (by rw [quiet_any]; cases E.any (inE a c) <;> rfl) ?_
                refine r_bne rfl rfl TF.un4 rfl ?_
                refine r_pickF rfl (by rw [quiet_any]; cases E.any (inE a c) <;> rfl) rfl rfl ?_
                refine r_move rfl rfl ?_
                refine g_cases (t' := 90) rfl (fun hg90 => ?_) (fun hg90 => ?_)
                ·
                  exfalso
                  rw [quiet_parts hab hbc, hg82] at hg90
                  simp at hg90
                ·
                  refine g_run rfl rfl hg90 ?_
                  refine r_move rfl rfl ?_
                  refine g_run rfl rfl hg90 ?_
                  refine r_move rfl rfl ?_
                  refine g_run rfl rfl hg90 ?_
                  refine r_move rfl rfl ?_
                  refine g_run rfl rfl hg90 ?_
                  refine r_call0 hq rfl rfl (.cons (.ev rfl rfl) (.cons (.ev rfl rfl) (.cons (.ev rfl rfl) .nil))) (quiet_ok E a a (by omega)) rfl TF.en22 rfl (fun r hr => ?_)
                  obtain rfl := hr
                  rw [quiet_same]
                  refine g_run rfl rfl hg90 ?_
                  refine r_not rfl rfl ?_
                  refine r_pickF rfl hg90 rfl rfl ?_
                  refine awl_nil ?_
                  refine x_then ?_
                  refine awp_cond rfl (fun hc3 => ?_) (fun hc3 => ?_)
                  ·
                    exfalso; cases hc3
                  ·
                    refine awp_skip ?_
                    refine x_then ?_
                    refine awp_seq ?_
                    refine awp_region ?_
                    refine r_move rfl rfl ?_
                    refine r_move rfl rfl ?_
                    refine r_call0 hq rfl rfl (.cons (.ev rfl rfl) (.cons (.ev rfl rfl) .nil)) (tat_ok E a (by omega) (fun e he => goodE_bnd (hEg e he))) rfl TF.en23 rfl (fun r hr => ?_)
                    obtain rfl := hr
                    refine r_move rfl rfl ?_
                    refine r_extract rfl rfl rfl ?_
                    refine r_extract rfl rfl rfl ?_
                    refine r_assign rfl rfl ?_
                    refine r_assign rfl rfl ?_
                    refine awl_nil ?_
                    refine x_then ?_
                    refine awp_seq ?_
                    refine awp_region ?_
                    refine r_move rfl rfl ?_
                    refine r_move rfl rfl ?_
                    refine r_call0 hq rfl rfl (.cons (.ev rfl rfl) (.cons (.ev rfl rfl) .nil)) (tat_ok E c (by omega) (fun e he => goodE_bnd (hEg e he))) rfl TF.en23 rfl (fun r hr => ?_)
                    obtain rfl := hr
                    refine r_move rfl rfl ?_
                    refine r_extract rfl rfl rfl ?_
                    refine r_extract rfl rfl rfl ?_
                    refine r_assign rfl rfl ?_
                    refine r_assign rfl rfl ?_
                    refine awl_nil ?_
                    refine x_then ?_
                    refine awp_seq ?_
                    refine awp_region ?_
                    refine r_move rfl rfl ?_
                    refine r_not rfl rfl ?_
                    refine r_move rfl rfl ?_
                    refine g_cases (t' := 111) rfl (fun hg111 => ?_) (fun hg111 => ?_)
                    ·
                      refine g_skip rfl rfl hg111 rfl ?_
                      refine g_skip rfl rfl hg111 rfl ?_
                      refine g_skip rfl rfl hg111 rfl ?_
                      refine g_skip rfl rfl hg111 rfl ?_
                      refine g_skipU rfl rfl rfl ?_
                      refine g_skipU rfl rfl rfl ?_
                      refine g_skipU rfl rfl rfl ?_
                      refine g_skip rfl rfl hg111 rfl ?_
                      refine r_pickT rfl hg111 rfl rfl ?_
                      refine r_assign rfl rfl ?_
                      refine awl_nil ?_
                      refine x_then ?_
                      refine awp_ret ?_
                      exact ⟨(.inl rfl), _, [], (.one (by first | exact .mk rfl rfl | exact .nil rfl)), ⟨rfl, rfl⟩, (List.nil_sublist _), (by simp)⟩
                    ·
                      have hq1 : quietF E a c = true := by simpa using hg111
                      have hqa := at_quiet (l := E) (Int.le_trans hab hbc) hq1
                      rw [hqa]
                      refine g_run rfl rfl hg111 ?_
                      refine r_move rfl rfl ?_
                      refine g_run rfl rfl hg111 ?_
                      refine r_move rfl rfl ?_
                      refine g_run rfl rfl hg111 ?_
                      refine r_cmp rfl rfl rfl rfl ?_
                      refine g_run rfl rfl hg111 ?_
                      refine r_move rfl rfl ?_
                      refine g_cases (t' := 115) rfl (fun hg115 => ?_) (fun hg115 => ?_)
                      ·
                        refine g_run rfl rfl hg115 ?_
                        refine r_move rfl rfl ?_
                        refine g_run rfl rfl hg115 ?_
                        refine r_move rfl rfl ?_
                        refine g_run rfl rfl hg115 ?_
                        refine r_call0 hq rfl rfl (.cons (.ev rfl rfl) (.cons (.ev rfl rfl) .nil)) (fsame_ok (AtF E c).2 (by have := hsm c; omega)) rfl TF.en24 rfl (fun r hr => ?_)
                        obtain rfl := hr
                        refine g_run rfl rfl hg111 ?_
                        refine r_pickT rfl hg115 rfl rfl ?_
                        refine r_pickF rfl hg111 rfl rfl ?_
                        refine r_assign rfl rfl ?_
                        refine awl_nil ?_
                        refine x_then ?_
                        refine awp_ret ?_
                        exact ⟨(.inl rfl), _, [], (.one (by first | exact .mk rfl rfl | exact .nil rfl)), ⟨rfl, rfl⟩, (List.nil_sublist _), (by simp)⟩
                      ·
                        exfalso
                        simp at hg115
              ·
                refine g_skip rfl rfl hg82 rfl ?_
                refine g_skip rfl rfl hg82 rfl ?_
                refine g_skip rfl rfl hg82 rfl ?_
                refine g_skip rfl rfl hg82 rfl ?_
                refine g_run rfl rfl (by rw [quiet_any]; cases E.any (inE a c) <;> rfl) ?_
                refine r_pickF rfl hg82 rfl rfl ?_
                refine g_run rfl rfl (by rw [quiet_any]; cases E.any (inE a c) <;> rfl) ?_
                refine r_bne rfl rfl TF.un4 rfl ?_
                refine r_pickF rfl (by rw [quiet_any]; cases E.any (inE a c) <;> rfl) rfl rfl ?_
                refine r_move rfl rfl ?_
                refine g_cases (t' := 90) rfl (fun hg90 => ?_) (fun hg90 => ?_)
                ·
                  exfalso
                  rw [quiet_parts hab hbc, hg82] at hg90
                  simp at hg90
                ·
                  refine g_run rfl rfl hg90 ?_
                  refine r_move rfl rfl ?_
                  refine g_run rfl rfl hg90 ?_
                  refine r_move rfl rfl ?_
                  refine g_run rfl rfl hg90 ?_
                  refine r_move rfl rfl ?_
                  refine g_run rfl rfl hg90 ?_
                  refine r_call0 hq rfl rfl (.cons (.ev rfl rfl) (.cons (.ev rfl rfl) (.cons (.ev rfl rfl) .nil))) (quiet_ok E a a (by omega)) rfl TF.en22 rfl (fun r hr => ?_)
                  obtain rfl := hr
                  rw [quiet_same]
                  refine g_run rfl rfl hg90 ?_
                  refine r_not rfl rfl ?_
                  refine r_pickF rfl hg90 rfl rfl ?_
                  refine awl_nil ?_
                  refine x_then ?_
                  refine awp_cond rfl (fun hc3 => ?_) (fun hc3 => ?_)
                  ·
                    exfalso; cases hc3
                  ·
                    refine awp_skip ?_
                    refine x_then ?_
                    refine awp_seq ?_
                    refine awp_region ?_
                    refine r_move rfl rfl ?_
                    refine r_move rfl rfl ?_
                    refine r_call0 hq rfl rfl (.cons (.ev rfl rfl) (.cons (.ev rfl rfl) .nil)) (tat_ok E a (by omega) (fun e he => goodE_bnd (hEg e he))) rfl TF.en23 rfl (fun r hr => ?_)
                    obtain rfl := hr
                    refine r_move rfl rfl ?_
                    refine r_extract rfl rfl rfl ?_
                    refine r_extract rfl rfl rfl ?_
                    refine r_assign rfl rfl ?_
                    refine r_assign rfl rfl ?_
                    refine awl_nil ?_
                    refine x_then ?_
                    refine awp_seq ?_
                    refine awp_region ?_
                    refine r_move rfl rfl ?_
                    refine r_move rfl rfl ?_
                    refine r_call0 hq rfl rfl (.cons (.ev rfl rfl) (.cons (.ev rfl rfl) .nil)) (tat_ok E c (by omega) (fun e he => goodE_bnd (hEg e he))) rfl TF.en23 rfl (fun r hr => ?_)
                    obtain rfl := hr
                    refine r_move rfl rfl ?_
                    refine r_extract rfl rfl rfl ?_
                    refine r_extract rfl rfl rfl ?_
                    refine r_assign rfl rfl ?_
                    refine r_assign rfl rfl ?_
                    refine awl_nil ?_
                    refine x_then ?_
                    refine awp_seq ?_
                    refine awp_region ?_
                    refine r_move rfl rfl ?_
                    refine r_not rfl rfl ?_
                    refine r_move rfl rfl ?_
                    refine g_cases (t' := 111) rfl (fun hg111 => ?_) (fun hg111 => ?_)
                    ·
                      refine g_skip rfl rfl hg111 rfl ?_
                      refine g_skip rfl rfl hg111 rfl ?_
                      refine g_skip rfl rfl hg111 rfl ?_
                      refine g_skip rfl rfl hg111 rfl ?_
                      refine g_skipU rfl rfl rfl ?_
                      refine g_skipU rfl rfl rfl ?_
                      refine g_skipU rfl rfl rfl ?_
                      refine g_skip rfl rfl hg111 rfl ?_
                      refine r_pickT rfl hg111 rfl rfl ?_
                      refine r_assign rfl rfl ?_
                      refine awl_nil ?_
                      refine x_then ?_
                      refine awp_ret ?_
                      exact ⟨(.inl rfl), _, [], (.one (by first | exact .mk rfl rfl | exact .nil rfl)), ⟨rfl, rfl⟩, (List.nil_sublist _), (by simp)⟩
                    ·
                      have hq1 : quietF E a c = true := by simpa using hg111
                      have hqa := at_quiet (l := E) (Int.le_trans hab hbc) hq1
                      rw [hqa]
                      refine g_run rfl rfl hg111 ?_
                      refine r_move rfl rfl ?_
                      refine g_run rfl rfl hg111 ?_
                      refine r_move rfl rfl ?_
                      refine g_run rfl rfl hg111 ?_
                      refine r_cmp rfl rfl rfl rfl ?_
                      refine g_run rfl rfl hg111 ?_
                      refine r_move rfl rfl ?_
                      refine g_cases (t' := 115) rfl (fun hg115 => ?_) (fun hg115 => ?_)
                      ·
                        refine g_run rfl rfl hg115 ?_
                        refine r_move rfl rfl ?_
                        refine g_run rfl rfl hg115 ?_
                        refine r_move rfl rfl ?_
                        refine g_run rfl rfl hg115 ?_
                        refine r_call0 hq rfl rfl (.cons (.ev rfl rfl) (.cons (.ev rfl rfl) .nil)) (fsame_ok (AtF E c).2 (by have := hsm c; omega)) rfl TF.en24 rfl (fun r hr => ?_)
                        obtain rfl := hr
                        refine g_run rfl rfl hg111 ?_
                        refine r_pickT rfl hg115 rfl rfl ?_
                        refine r_pickF rfl hg111 rfl rfl ?_
                        refine r_assign rfl rfl ?_
                        refine awl_nil ?_
                        refine x_then ?_
                        refine awp_ret ?_
                        exact ⟨(.inl rfl), _, [], (.one (by first | exact .mk rfl rfl | exact .nil rfl)), ⟨rfl, rfl⟩, (List.nil_sublist _), (by simp)⟩
                      ·
                        exfalso
                        simp at hg115
          ·
            have hge : E.length ≤ i := by have := of_decide_eq_false hg48; simp at this; omega
            refine g_skip rfl rfl hg48 rfl ?_
            refine g_skip rfl rfl hg48 rfl ?_
            refine r_pickF rfl hg48 rfl rfl ?_
            refine awl_nil ?_
            refine x_then ?_
            refine awp_condF rfl ?_
            have hge2 : E.length ≤ i := by first | exact hge | (have := of_decide_eq_false hc2; omega)
            have hit : E.take i = E := List.take_of_length_le hge2
            rw [hit]
            refine awp_exit ?_
            refine x_thenE ?_
            refine x_thenE ?_
            refine x_blockE ?_
            refine x_then ?_
            refine awp_seq ?_
            refine awp_seq ?_
            refine awp_region ?_
            refine r_move rfl rfl ?_
            refine r_move rfl rfl ?_
            refine r_beq rfl rfl TF.un4 rfl ?_
            refine r_move rfl rfl ?_
            refine g_run rfl rfl (by rw [quiet_any]; cases E.any (inE a c) <;> rfl) ?_
            refine r_move rfl rfl ?_
            refine g_run rfl rfl (by rw [quiet_any]; cases E.any (inE a c) <;> rfl) ?_
            refine r_move rfl rfl ?_
            refine g_run rfl rfl (by rw [quiet_any]; cases E.any (inE a c) <;> rfl) ?_
            refine r_move rfl rfl ?_
            refine g_run rfl rfl (by rw [quiet_any]; cases E.any (inE a c) <;> rfl) ?_
            refine r_move rfl rfl ?_
            refine g_run rfl rfl (by rw [quiet_any]; cases E.any (inE a c) <;> rfl) ?_
            refine r_call0 hq rfl rfl (.cons (.ev rfl rfl) (.cons (.ev rfl rfl) (.cons (.ev rfl rfl) .nil))) (quiet_ok E a b (by omega)) rfl TF.en22 rfl (fun r hr => ?_)
            obtain rfl := hr
            refine g_run rfl rfl (by rw [quiet_any]; cases E.any (inE a c) <;> rfl) ?_
            refine r_move rfl rfl ?_
            refine g_cases (t' := 82) rfl (fun hg82 => ?_) (fun hg82 => ?_)
            ·
              refine g_run rfl rfl hg82 ?_
              refine r_move rfl rfl ?_
              refine g_run rfl rfl hg82 ?_
              refine r_move rfl rfl ?_
              refine g_run rfl rfl hg82 ?_
              refine r_move rfl rfl ?_
              refine g_run rfl rfl hg82 ?_
              refine r_call0 hq rfl rfl (.cons (.ev rfl rfl) (.cons (.ev rfl rfl) (.cons (.ev rfl rfl) .nil))) (quiet_ok E b c (by omega)) rfl TF.en22 rfl (fun r hr => ?_)
              obtain rfl := hr
              refine g_run rfl rfl (by rw [quiet_any]; cases E.any (inE a c) <;> rfl) ?_
              refine r_pickT rfl hg82 rfl rfl ?_
              refine g_run rfl rfl (by rw [quiet_any]; cases E.any (inE a c) <;> rfl) ?_
              refine r_bne rfl rfl TF.un4 rfl ?_
              refine r_pickF rfl (by rw [quiet_any]; cases E.any (inE a c) <;> rfl) rfl rfl ?_
              refine r_move rfl rfl ?_
              refine g_cases (t' := 90) rfl (fun hg90 => ?_) (fun hg90 => ?_)
              ·
                exfalso
                rw [quiet_parts hab hbc, hg82] at hg90
                simp at hg90
              ·
                refine g_run rfl rfl hg90 ?_
                refine r_move rfl rfl ?_
                refine g_run rfl rfl hg90 ?_
                refine r_move rfl rfl ?_
                refine g_run rfl rfl hg90 ?_
                refine r_move rfl rfl ?_
                refine g_run rfl rfl hg90 ?_
                refine r_call0 hq rfl rfl (.cons (.ev rfl rfl) (.cons (.ev rfl rfl) (.cons (.ev rfl rfl) .nil))) (quiet_ok E a a (by omega)) rfl TF.en22 rfl (fun r hr => ?_)
                obtain rfl := hr
                rw [quiet_same]
                refine g_run rfl rfl hg90 ?_
                refine r_not rfl rfl ?_
                refine r_pickF rfl hg90 rfl rfl ?_
                refine awl_nil ?_
                refine x_then ?_
                refine awp_cond rfl (fun hc3 => ?_) (fun hc3 => ?_)
                ·
                  exfalso; cases hc3
                ·
                  refine awp_skip ?_
                  refine x_then ?_
                  refine awp_seq ?_
                  refine awp_region ?_
                  refine r_move rfl rfl ?_
                  refine r_move rfl rfl ?_
                  refine r_call0 hq rfl rfl (.cons (.ev rfl rfl) (.cons (.ev rfl rfl) .nil)) (tat_ok E a (by omega) (fun e he => goodE_bnd (hEg e he))) rfl TF.en23 rfl (fun r hr => ?_)
                  obtain rfl := hr
                  refine r_move rfl rfl ?_
                  refine r_extract rfl rfl rfl ?_
                  refine r_extract rfl rfl rfl ?_
                  refine r_assign rfl rfl ?_
                  refine r_assign rfl rfl ?_
                  refine awl_nil ?_
                  refine x_then ?_
                  refine awp_seq ?_
                  refine awp_region ?_
                  refine r_move rfl rfl ?_
                  refine r_move rfl rfl ?_
                  refine r_call0 hq rfl rfl (.cons (.ev rfl rfl) (.cons (.ev rfl rfl) .nil)) (tat_ok E c (by omega) (fun e he => goodE_bnd (hEg e he))) rfl TF.en23 rfl (fun r hr => ?_)
                  obtain rfl := hr
                  refine r_move rfl rfl ?_
                  refine r_extract rfl rfl rfl ?_
                  refine r_extract rfl rfl rfl ?_
                  refine r_assign rfl rfl ?_
                  refine r_assign rfl rfl ?_
                  refine awl_nil ?_
                  refine x_then ?_
                  refine awp_seq ?_
                  refine awp_region ?_
                  refine r_move rfl rfl ?_
                  refine r_not rfl rfl ?_
                  refine r_move rfl rfl ?_
                  refine g_cases (t' := 111) rfl (fun hg111 => ?_) (fun hg111 => ?_)
                  ·
                    refine g_skip rfl rfl hg111 rfl ?_
                    refine g_skip rfl rfl hg111 rfl ?_
                    refine g_skip rfl rfl hg111 rfl ?_
                    refine g_skip rfl rfl hg111 rfl ?_
                    refine g_skipU rfl rfl rfl ?_
                    refine g_skipU rfl rfl rfl ?_
                    refine g_skipU rfl rfl rfl ?_
                    refine g_skip rfl rfl hg111 rfl ?_
                    refine r_pickT rfl hg111 rfl rfl ?_
                    refine r_assign rfl rfl ?_
                    refine awl_nil ?_
                    refine x_then ?_
                    refine awp_ret ?_
                    exact ⟨(.inl rfl), _, [], (.one (by first | exact .mk rfl rfl | exact .nil rfl)), ⟨rfl, rfl⟩, (List.nil_sublist _), (by simp)⟩
                  ·
                    have hq1 : quietF E a c = true := by simpa using hg111
                    have hqa := at_quiet (l := E) (Int.le_trans hab hbc) hq1
                    rw [hqa]
                    refine g_run rfl rfl hg111 ?_
                    refine r_move rfl rfl ?_
                    refine g_run rfl rfl hg111 ?_
                    refine r_move rfl rfl ?_
                    refine g_run rfl rfl hg111 ?_
                    refine r_cmp rfl rfl rfl rfl ?_
                    refine g_run rfl rfl hg111 ?_
                    refine r_move rfl rfl ?_
                    refine g_cases (t' := 115) rfl (fun hg115 => ?_) (fun hg115 => ?_)
                    ·
                      refine g_run rfl rfl hg115 ?_
                      refine r_move rfl rfl ?_
                      refine g_run rfl rfl hg115 ?_
                      refine r_move rfl rfl ?_
                      refine g_run rfl rfl hg115 ?_
                      refine r_call0 hq rfl rfl (.cons (.ev rfl rfl) (.cons (.ev rfl rfl) .nil)) (fsame_ok (AtF E c).2 (by have := hsm c; omega)) rfl TF.en24 rfl (fun r hr => ?_)
                      obtain rfl := hr
                      refine g_run rfl rfl hg111 ?_
                      refine r_pickT rfl hg115 rfl rfl ?_
                      refine r_pickF rfl hg111 rfl rfl ?_
                      refine r_assign rfl rfl ?_
                      refine awl_nil ?_
                      refine x_then ?_
                      refine awp_ret ?_
                      exact ⟨(.inl rfl), _, [], (.one (by first | exact .mk rfl rfl | exact .nil rfl)), ⟨rfl, rfl⟩, (List.nil_sublist _), (by simp)⟩
                    ·
                      exfalso
                      simp at hg115
            ·
              refine g_skip rfl rfl hg82 rfl ?_
              refine g_skip rfl rfl hg82 rfl ?_
              refine g_skip rfl rfl hg82 rfl ?_
              refine g_skip rfl rfl hg82 rfl ?_
              refine g_run rfl rfl (by rw [quiet_any]; cases E.any (inE a c) <;> rfl) ?_
              refine r_pickF rfl hg82 rfl rfl ?_
              refine g_run rfl rfl (by rw [quiet_any]; cases E.any (inE a c) <;> rfl) ?_
              refine r_bne rfl rfl TF.un4 rfl ?_
              refine r_pickF rfl (by rw [quiet_any]; cases E.any (inE a c) <;> rfl) rfl rfl ?_
              refine r_move rfl rfl ?_
              refine g_cases (t' := 90) rfl (fun hg90 => ?_) (fun hg90 => ?_)
              ·
                exfalso
                rw [quiet_parts hab hbc, hg82] at hg90
                simp at hg90
              ·
                refine g_run rfl rfl hg90 ?_
                refine r_move rfl rfl ?_
                refine g_run rfl rfl hg90 ?_
                refine r_move rfl rfl ?_
                refine g_run rfl rfl hg90 ?_
                refine r_move rfl rfl ?_
                refine g_run rfl rfl hg90 ?_
                refine r_call0 hq rfl rfl (.cons (.ev rfl rfl) (.cons (.ev rfl rfl) (.cons (.ev rfl rfl) .nil))) (quiet_ok E a a (by omega)) rfl TF.en22 rfl (fun r hr => ?_)
                obtain rfl := hr
                rw [quiet_same]
                refine g_run rfl rfl hg90 ?_
                refine r_not rfl rfl ?_
                refine r_pickF rfl hg90 rfl rfl ?_
                refine awl_nil ?_
                refine x_then ?_
                refine awp_cond rfl (fun hc3 => ?_) (fun hc3 => ?_)
                ·
                  exfalso; cases hc3
                ·
                  refine awp_skip ?_
                  refine x_then ?_
                  refine awp_seq ?_
                  refine awp_region ?_
                  refine r_move rfl rfl ?_
                  refine r_move rfl rfl ?_
                  refine r_call0 hq rfl rfl (.cons (.ev rfl rfl) (.cons (.ev rfl rfl) .nil)) (tat_ok E a (by omega) (fun e he => goodE_bnd (hEg e he))) rfl TF.en23 rfl (fun r hr => ?_)
                  obtain rfl := hr
                  refine r_move rfl rfl ?_
                  refine r_extract rfl rfl rfl ?_
                  refine r_extract rfl rfl rfl ?_
                  refine r_assign rfl rfl ?_
                  refine r_assign rfl rfl ?_
                  refine awl_nil ?_
                  refine x_then ?_
                  refine awp_seq ?_
                  refine awp_region ?_
                  refine r_move rfl rfl ?_
                  refine r_move rfl rfl ?_
                  refine r_call0 hq rfl rfl (.cons (.ev rfl rfl) (.cons (.ev rfl rfl) .nil)) (tat_ok E c (by omega) (fun e he => goodE_bnd (hEg e he))) rfl TF.en23 rfl (fun r hr => ?_)
                  obtain rfl := hr
                  refine r_move rfl rfl ?_
                  refine r_extract rfl rfl rfl ?_
                  refine r_extract rfl rfl rfl ?_
                  refine r_assign rfl rfl ?_
                  refine r_assign rfl rfl ?_
                  refine awl_nil ?_
                  refine x_then ?_
                  refine awp_seq ?_
                  refine awp_region ?_
                  refine r_move rfl rfl ?_
                  refine r_not rfl rfl ?_
                  refine r_move rfl rfl ?_
                  refine g_cases (t' := 111) rfl (fun hg111 => ?_) (fun hg111 => ?_)
                  ·
                    refine g_skip rfl rfl hg111 rfl ?_
                    refine g_skip rfl rfl hg111 rfl ?_
                    refine g_skip rfl rfl hg111 rfl ?_
                    refine g_skip rfl rfl hg111 rfl ?_
                    refine g_skipU rfl rfl rfl ?_
                    refine g_skipU rfl rfl rfl ?_
                    refine g_skipU rfl rfl rfl ?_
                    refine g_skip rfl rfl hg111 rfl ?_
                    refine r_pickT rfl hg111 rfl rfl ?_
                    refine r_assign rfl rfl ?_
                    refine awl_nil ?_
                    refine x_then ?_
                    refine awp_ret ?_
                    exact ⟨(.inl rfl), _, [], (.one (by first | exact .mk rfl rfl | exact .nil rfl)), ⟨rfl, rfl⟩, (List.nil_sublist _), (by simp)⟩
                  ·
                    have hq1 : quietF E a c = true := by simpa using hg111
                    have hqa := at_quiet (l := E) (Int.le_trans hab hbc) hq1
                    rw [hqa]
                    refine g_run rfl rfl hg111 ?_
                    refine r_move rfl rfl ?_
                    refine g_run rfl rfl hg111 ?_
                    refine r_move rfl rfl ?_
                    refine g_run rfl rfl hg111 ?_
                    refine r_cmp rfl rfl rfl rfl ?_
                    refine g_run rfl rfl hg111 ?_
                    refine r_move rfl rfl ?_
                    refine g_cases (t' := 115) rfl (fun hg115 => ?_) (fun hg115 => ?_)
                    ·
                      refine g_run rfl rfl hg115 ?_
                      refine r_move rfl rfl ?_
                      refine g_run rfl rfl hg115 ?_
                      refine r_move rfl rfl ?_
                      refine g_run rfl rfl hg115 ?_
                      refine r_call0 hq rfl rfl (.cons (.ev rfl rfl) (.cons (.ev rfl rfl) .nil)) (fsame_ok (AtF E c).2 (by have := hsm c; omega)) rfl TF.en24 rfl (fun r hr => ?_)
                      obtain rfl := hr
                      refine g_run rfl rfl hg111 ?_
                      refine r_pickT rfl hg115 rfl rfl ?_
                      refine r_pickF rfl hg111 rfl rfl ?_
                      refine r_assign rfl rfl ?_
                      refine awl_nil ?_
                      refine x_then ?_
                      refine awp_ret ?_
                      exact ⟨(.inl rfl), _, [], (.one (by first | exact .mk rfl rfl | exact .nil rfl)), ⟨rfl, rfl⟩, (List.nil_sublist _), (by simp)⟩
                    ·
                      exfalso
                      simp at hg115

end Go.Proofs.Ytmbfmnhcahhciaa.A

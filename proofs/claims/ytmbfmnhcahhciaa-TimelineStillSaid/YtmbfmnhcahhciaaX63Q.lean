/- Layer 63: the events of a name; the parts of moments. -/
import Derived.Test.YtmbfmnhcahhciaaX63P
namespace Go.Proofs.Ytmbfmnhcahhciaa.A
open Go Go.RowKit Go.Maps Go.Sort
set_option linter.unusedVariables false
set_option linter.unusedSimpArgs false

def hitE (name : ByteArray) (e : Ev) : Bool := decide (e.ch.name = name) || (!decide (name = E0) && decide (e.ch.to = name))
def fileF (l : List Ev) (name : ByteArray) : List Ev := l.filter (hitE name)
def renE (e : Ev) : Bool := e.ch.kind == 4
structure GoodE (e : Ev) : Prop where
  name : ∃ a, a < 4 ∧ e.ch.name = nm a
  to : (e.ch.kind = 4 ∧ ∃ b, b < 4 ∧ e.ch.to = nm b ∧ ¬ e.ch.name = e.ch.to) ∨ (¬ e.ch.kind = 4 ∧ e.ch.to = E0)
  data : e.ch.data.length ≤ 1000000
theorem let_nm {s : ByteArray} (h : s ∈ lets) : ∃ a, a < 4 ∧ s = nm a := by
  simp [lets] at h
  rcases h with h | h | h | h
  · exact ⟨0, by omega, h⟩
  · exact ⟨1, by omega, h⟩
  · exact ⟨2, by omega, h⟩
  · exact ⟨3, by omega, h⟩
theorem evR_mem2 {at_ : AT} (hg : ∀ m, InL (at_ m).1 ∧ GoodF (at_ m).1) {e : Ev} : ∀ {rest : List Int} {was : List File}, InL was → e ∈ evR at_ was rest → GoodE e
  | [], was, hw, h => by simp [evR] at h
  | m :: rest, was, hw, h => by
    rw [evR] at h
    cases hm : (at_ m).2 with
    | false => rw [hm, cond_false] at h; exact evR_mem2 hg hw h
    | true =>
      rw [hm, cond_true, List.mem_append] at h
      rcases h with h | h
      · obtain ⟨c, hc, rfl⟩ := List.mem_map.1 h
        have hwn : ∀ {a b : List File} {t : ByteArray}, InL a → t ∈ wentF a b → t ∈ lets := fun h ht => names_let h (names_in.2 (went_in.1 ht).1)
        have hdl : ∀ s, ((lookF (at_ m).1 s).getD []).length ≤ 1000000 := fun s => look_len (fun f hf => ((hg m).2.2 f hf).2) s
        rcases of_mem hc with ⟨k, k2, h3, h4⟩ | ⟨k, k2, k3, h4⟩ | ⟨k, k3, h3, h4⟩ | ⟨k, k3, h3, h4⟩
        · obtain ⟨b, hb, eb⟩ := let_nm (hwn (hg m).1 h4)
          refine ⟨let_nm (hwn hw h3), .inl ⟨k, b, hb, eb, fun e => ?_⟩, by simp only; rw [k2]; simp⟩
          have q1 := (went_in.1 h3).1
          have q2 := (went_in.1 h4).2
          rw [← e] at q2; rw [q2] at q1; cases q1
        · exact ⟨let_nm (hwn hw h4), .inr ⟨by simp only; rw [k]; decide, k3⟩, by simp only; rw [k2]; simp⟩
        · have := hdl c.name; rw [h4] at this
          exact ⟨let_nm (names_let hw h3), .inr ⟨by simp only; rw [k]; decide, k3⟩, by simpa using this⟩
        · have := hdl c.name; rw [← h4] at this
          exact ⟨let_nm (hwn (hg m).1 h3), .inr ⟨by simp only; rw [k]; decide, k3⟩, this⟩
      · exact evR_mem2 hg (hg m).1 h
theorem tl_good {ns ms : List Int} {ds : List Disk} : ∀ e ∈ tlF ns (atF ms ds), GoodE e := fun e he => by
  unfold tlF at he
  cases hr : riseF ns with
  | false => rw [hr] at he; simp at he
  | true =>
    rw [hr, cond_true, tlG_eq] at he
    exact evR_mem2 (fun m => ⟨in_at ms ds m, good_at ms ds m⟩) inL_nil he
def manyF (E : List Ev) (i : Nat) : Nat := ((List.range i).map fun j => (fileF E (nm j)).length).sum
theorem many_step (E : List Ev) (i : Nat) : manyF E (i + 1) = manyF E i + (fileF E (nm i)).length := by
  unfold manyF; rw [List.range_succ, List.map_append, List.sum_append]; simp
theorem file_len (E : List Ev) (n : ByteArray) : (fileF E n).length ≤ E.length := List.length_filter_le _ _
theorem many_le (E : List Ev) : ∀ i, manyF E i ≤ i * E.length
  | 0 => by simp [manyF]
  | i + 1 => by have := many_le E i; have := file_len E (nm i); rw [many_step, Nat.succ_mul]; omega
theorem nm_ne {a b : Nat} (ha : a < 4) (hb : b < 4) (h : a ≠ b) : decide (nm a = nm b) = false := by
  rw [decide_eq_false_iff_not]
  intro e
  rcases Nat.lt_or_gt_of_ne h with h | h
  · have := nm_lt h hb; rw [e, ltS_irrefl] at this; cases this
  · have := nm_lt h ha; rw [e, ltS_irrefl] at this; cases this
theorem nm_E0 {a : Nat} (ha : a < 4) : decide (nm a = E0) = false := by
  rw [decide_eq_false_iff_not]
  intro e
  have h1 : (nm a).size = 1 := by unfold nm; rw [ByteArray.size_extract]; show min (a + 1) 4 - a = 1; omega
  rw [e] at h1; exact absurd h1 (by decide)
theorem hit_nm {e : Ev} (h : GoodE e) {j : Nat} (hj : j < 4) : ∃ a, a < 4 ∧ ∃ b, (renE e = true → b < 4 ∧ b ≠ a) ∧ hitE (nm j) e = (decide (a = j) || (renE e && decide (b = j))) := by
  obtain ⟨a, ha, hna⟩ := h.name
  have key : ∀ x, x < 4 → decide (nm x = nm j) = decide (x = j) := fun x hx => by
    by_cases e : x = j
    · subst e; simp
    · rw [nm_ne hx hj e, decide_eq_false e]
  rcases h.to with ⟨hk, b, hb, hnb, hne⟩ | ⟨hk, ht⟩
  · refine ⟨a, ha, b, fun _ => ⟨hb, fun e => hne (by rw [hna, hnb, e])⟩, ?_⟩
    unfold hitE renE
    rw [hna, hnb, nm_E0 hj, hk, key a ha, key b hb]; rfl
  · refine ⟨a, ha, 0, fun h => by unfold renE at h; exact absurd (eq_of_beq h) hk, ?_⟩
    unfold hitE renE
    have h2 : (e.ch.kind == 4) = false := by simpa using hk
    have h3 : decide (E0 = nm j) = false := by have := nm_E0 hj; simp at this ⊢; exact fun e => this e.symm
    rw [hna, ht, h2, h3, key a ha]; simp
theorem one_hits {e : Ev} (h : GoodE e) : ((List.range 4).map fun j => cond (hitE (nm j) e) 1 0).sum = 1 + cond (renE e) 1 0 := by
  obtain ⟨a, ha, hna⟩ := h.name
  obtain ⟨b, hb, he⟩ : ∃ b, (renE e = true → b < 4 ∧ b ≠ a) ∧ ∀ j, j < 4 → hitE (nm j) e = (decide (a = j) || (renE e && decide (b = j))) := by
    have key : ∀ x j, x < 4 → j < 4 → decide (nm x = nm j) = decide (x = j) := fun x j hx hj => by
      by_cases e : x = j
      · subst e; simp
      · rw [nm_ne hx hj e, decide_eq_false e]
    rcases h.to with ⟨hk, b, hb, hnb, hne⟩ | ⟨hk, ht⟩
    · refine ⟨b, fun _ => ⟨hb, fun e => hne (by rw [hna, hnb, e])⟩, fun j hj => ?_⟩
      unfold hitE renE
      rw [hna, hnb, nm_E0 hj, hk, key a j ha hj, key b j hb hj]; rfl
    · refine ⟨0, fun h => by unfold renE at h; exact absurd (eq_of_beq h) hk, fun j hj => ?_⟩
      unfold hitE renE
      have h2 : (e.ch.kind == 4) = false := by simpa using hk
      have h3 : decide (E0 = nm j) = false := by have := nm_E0 hj; simp at this ⊢; exact fun e => this e.symm
      rw [hna, ht, h2, h3, key a j ha hj]; simp
  rw [show List.range 4 = [0, 1, 2, 3] from rfl]
  simp only [List.map_cons, List.map_nil, List.sum_cons, List.sum_nil]
  rw [he 0 (by omega), he 1 (by omega), he 2 (by omega), he 3 (by omega)]
  cases hr : renE e with
  | false =>
    match a, ha with
    | 0, _ => rfl
    | 1, _ => rfl
    | 2, _ => rfl
    | 3, _ => rfl
  | true =>
    obtain ⟨hb4, hba⟩ := hb hr
    have hall : ∀ a : Fin 4, ∀ b : Fin 4, b ≠ a → cond (decide (a.val = 0) || (true && decide (b.val = 0))) 1 0 + (cond (decide (a.val = 1) || (true && decide (b.val = 1))) 1 0 + (cond (decide (a.val = 2) || (true && decide (b.val = 2))) 1 0 + (cond (decide (a.val = 3) || (true && decide (b.val = 3))) 1 0 + 0))) = 1 + cond true 1 0 := by decide
    exact hall ⟨a, ha⟩ ⟨b, hb4⟩ (fun e => hba (by simpa using congrArg Fin.val e))
theorem sum_add {α : Type} (f g : α → Nat) : ∀ l : List α, (l.map fun x => f x + g x).sum = (l.map f).sum + (l.map g).sum
  | [] => rfl
  | x :: l => by simp only [List.map_cons, List.sum_cons]; rw [sum_add f g l]; omega
theorem many_all : ∀ {E : List Ev}, (∀ e ∈ E, GoodE e) → manyF E 4 = E.length + E.countP renE
  | [], _ => rfl
  | e :: E, h => by
    have ih := many_all (E := E) (fun x hx => h x (by simp [hx]))
    have h1 : manyF (e :: E) 4 = ((List.range 4).map fun j => cond (hitE (nm j) e) 1 0).sum + manyF E 4 := by
      unfold manyF
      rw [← sum_add]
      congr 1
      refine List.map_congr_left fun j _ => ?_
      unfold fileF
      rw [List.filter_cons]
      cases hitE (nm j) e <;> simp; omega
    rw [h1, one_hits (h e (by simp)), ih, List.countP_cons, List.length_cons]
    cases renE e <;> simp <;> omega

/-! ### parts -/
def toldAt (ds : List Disk) (i : Nat) : Prop := ∃ d, ds[i]? = some d ∧ d.told = true
theorem at_told {ms : List Int} {ds : List Disk} {i : Nat} {m : Int} (hp : ms.Pairwise (· < ·)) (hm : ms[i]? = some m) : (atF ms ds m).2 = true ↔ toldAt ds i := by
  rcases Nat.lt_or_ge i ds.length with h | h
  · obtain ⟨d, hd⟩ := get_lt h
    rw [at_idx hp hm hd]
    exact ⟨fun h => ⟨d, hd, h⟩, fun ⟨d', hd', h⟩ => by rw [hd] at hd'; cases hd'; exact h⟩
  · rw [at_past hp hm h]
    exact ⟨fun h => (by cases h), fun ⟨d', hd', _⟩ => by rw [List.getElem?_eq_none h] at hd'; cases hd'⟩
theorem un_told {at_ : AT} : ∀ {a : List Int} {was : List File}, (∀ m ∈ a, (at_ m).2 = false) → evR at_ was a = [] ∧ stR at_ was a = was
  | [], was, _ => ⟨rfl, rfl⟩
  | m :: a, was, h => by
    rw [evR, stR, h m (by simp), cond_false, cond_false]
    exact un_told fun x hx => h x (by simp [hx])
def FromOk (ds : List Disk) (i fr : Nat) : Prop := (fr < i ∧ toldAt ds fr ∧ ∀ j, fr < j → j < i → ¬ toldAt ds j) ∨ (fr = 0 ∧ ∀ j, j < i → ¬ toldAt ds j)
theorem from_step {ds : List Disk} {i fr : Nat} (h : FromOk ds i fr) : (toldAt ds i → FromOk ds (i + 1) i) ∧ (¬ toldAt ds i → FromOk ds (i + 1) fr) := by
  refine ⟨fun ht => .inl ⟨by omega, ht, fun j h1 h2 => by omega⟩, fun hn => ?_⟩
  rcases h with ⟨h1, h2, h3⟩ | ⟨h1, h2⟩
  · exact .inl ⟨by omega, h2, fun j hj1 hj2 => by rcases Nat.lt_succ_iff_lt_or_eq.1 hj2 with h | rfl; exact h3 j hj1 h; exact hn⟩
  · exact .inr ⟨h1, fun j hj => by rcases Nat.lt_succ_iff_lt_or_eq.1 hj with h | rfl; exact h2 j h; exact hn⟩
def keepE (ms : List Int) (k : Nat) (e : Ev) : Bool := (k == 0) || match ms[k - 1]? with | some p => decide (p < e.moment) | none => false
theorem filter_none {α : Type} {p : α → Bool} {l : List α} (h : ∀ x ∈ l, p x = false) : l.filter p = [] := List.filter_eq_nil_iff.2 (fun x hx => by rw [h x hx]; decide)
theorem filter_all {α : Type} {p : α → Bool} {l : List α} (h : ∀ x ∈ l, p x = true) : l.filter p = l := List.filter_eq_self.2 h
theorem stR_cons {at_ : AT} {was : List File} {m : Int} {rest : List Int} : stR at_ was (m :: rest) = cond (at_ m).2 (stR at_ (at_ m).1 rest) (stR at_ was rest) := rfl
theorem parts_law {ms : List Int} {ds : List Disk} {k fr : Nat} (hr : riseF ms = true) (hk : k < ms.length) (hf : FromOk ds k fr) :
    tlF ms (atF ms ds) = tlF (ms.take k) (atF ms ds) ++ (tlF (ms.drop fr) (atF ms ds)).filter (keepE ms k) := by
  have hp := rise_pw hr
  have hr1 : riseF (ms.take k) = true := decide_eq_true (hp.sublist (List.take_sublist _ _))
  have hr2 : riseF (ms.drop fr) = true := decide_eq_true (hp.sublist (List.drop_sublist _ _))
  unfold tlF
  rw [hr, hr1, hr2, cond_true, cond_true, cond_true, tlG_eq, tlG_eq, tlG_eq]
  simp only
  have hfk : fr ≤ k := by rcases hf with ⟨h, _⟩ | ⟨h, _⟩ <;> omega
  have e1 : ms = ms.take k ++ ms.drop k := (List.take_append_drop k ms).symm
  have e2 : ms.drop fr = (ms.take k).drop fr ++ ms.drop k := by
    have : ms.drop fr = (ms.take k ++ ms.drop k).drop fr := by rw [List.take_append_drop]
    rw [this, List.drop_append_of_le_length (by simp; omega)]
  have lhs : evR (atF ms ds) [] ms = evR (atF ms ds) [] (ms.take k) ++ evR (atF ms ds) (stR (atF ms ds) [] (ms.take k)) (ms.drop k) := by
    rw [← evR_app, List.take_append_drop]
  rw [lhs, e2, evR_app, List.filter_append]
  congr 1
  have hpast : ∀ m ∈ ms.drop k, ∀ m' ∈ ms.take k, m' < m := by
    have := hp
    rw [e1, List.pairwise_append] at this
    exact fun m hm m' hm' => this.2.2 m' hm' m hm
  -- the first part's events of the rest are left out
  have hA : (evR (atF ms ds) [] ((ms.take k).drop fr)).filter (keepE ms k) = [] := by
    refine filter_none fun e he => ?_
    have hm := evR_mem he
    have hm2 : e.moment ∈ ms.take k := List.mem_of_mem_drop hm
    obtain ⟨i, hi⟩ := List.getElem?_of_mem hm2
    rw [List.getElem?_take] at hi
    split at hi
    · rename_i hik
      obtain ⟨p, hpp⟩ := get_lt (show k - 1 < ms.length by omega)
      unfold keepE
      rw [hpp]
      have hk0 : (k == 0) = false := by simp; omega
      rw [hk0, Bool.false_or]
      simp only [decide_eq_false_iff_not]
      obtain ⟨q1, h1⟩ := List.getElem?_eq_some_iff.1 hi
      obtain ⟨q2, h2⟩ := List.getElem?_eq_some_iff.1 hpp
      rcases Nat.lt_or_ge i (k - 1) with h | h
      · have := List.pairwise_iff_getElem.1 hp i (k - 1) q1 q2 h; omega
      · have e : i = k - 1 := by omega
        subst e; omega
    · cases hi
  have hB : ∀ was, (evR (atF ms ds) was (ms.drop k)).filter (keepE ms k) = evR (atF ms ds) was (ms.drop k) := fun was => by
    refine filter_all fun e he => ?_
    have hm := evR_mem he
    unfold keepE
    by_cases hk0 : k = 0
    · simp [hk0]
    · obtain ⟨p, hpp⟩ := get_lt (show k - 1 < ms.length by omega)
      rw [hpp]
      have : p ∈ ms.take k := by
        have : (ms.take k)[k - 1]? = some p := by rw [List.getElem?_take, if_pos (by omega)]; exact hpp
        exact List.mem_of_getElem? this
      have := hpast _ hm p this
      simp [this]
  rw [hA, hB, List.nil_append]
  congr 1
  -- the files behind the first part
  have hun : ∀ j m, ms[j]? = some m → ¬ toldAt ds j → (atF ms ds m).2 = false := fun j m hm hn => by
    cases h : (atF ms ds m).2 with
    | false => rfl
    | true => exact absurd ((at_told hp hm).1 h) hn
  rcases hf with ⟨h1, h2, h3⟩ | ⟨h1, h2⟩
  · obtain ⟨m, hm⟩ := get_lt (show fr < ms.length by omega)
    have htd := (at_told hp hm).2 h2
    have e3 : (ms.take k).drop fr = m :: (ms.take k).drop (fr + 1) := by
      have hmk : (ms.take k)[fr]? = some m := by rw [List.getElem?_take, if_pos h1]; exact hm
      obtain ⟨q, rfl⟩ := List.getElem?_eq_some_iff.1 hmk
      exact List.drop_eq_getElem_cons q
    have e4 : ms.take k = (ms.take k).take fr ++ (ms.take k).drop fr := (List.take_append_drop _ _).symm
    have hrest : ∀ x ∈ (ms.take k).drop (fr + 1), (atF ms ds x).2 = false := fun x hx => by
      obtain ⟨i, hi⟩ := List.getElem?_of_mem hx
      rw [List.getElem?_drop, List.getElem?_take] at hi
      split at hi
      · exact hun _ x hi (h3 _ (by omega) (by omega))
      · cases hi
    have h5 : stR (atF ms ds) [] (ms.take k) = stR (atF ms ds) [] ((ms.take k).drop fr) := by
      conv => lhs; rw [e4]
      rw [stR_app, e3, stR_cons, stR_cons, htd]; rfl
    exact h5
  · subst h1
    have hrest : ∀ x ∈ ms.take k, (atF ms ds x).2 = false := fun x hx => by
      obtain ⟨i, hi⟩ := List.getElem?_of_mem hx
      rw [List.getElem?_take] at hi
      split at hi
      · exact hun _ x hi (h2 _ (by omega))
      · cases hi
    rw [List.drop_zero]
end Go.Proofs.Ytmbfmnhcahhciaa.A

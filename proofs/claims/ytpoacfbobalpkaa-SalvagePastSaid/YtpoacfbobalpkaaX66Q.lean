/- Layer 66, plain laws: what holds of the choices of a plan. -/
import Derived.Test.YtpoacfbobalpkaaX66H
namespace Go.Proofs.Ytpoacfbobalpkaa.A
open Go Go.RowKit
set_option linter.unusedVariables false
set_option linter.unusedSimpArgs false

/-- what holds of the choices of a plan -/
structure PlanOk (not : Int) (cs : List Choice) : Prop where
  sorted : SortedS (cs.map (·.name))
  len : cs.length ≤ 1000
  size : ∀ c ∈ cs, c.name.size ≤ 1000000 ∧ c.data.length ≤ 1000000
  whole : ∀ c ∈ cs, c.whole = true → wholeB not c.data = true
  lost : ∀ c ∈ cs, c.whole = false → c.moment = 0 ∧ c.data = []

theorem choice_name (look : Int → Option (List File)) (not : Int) (n : ByteArray) : ∀ (nums : List Int) (c : Choice), c.name = n → (nums.foldl (choiceOf look not n) c).name = n
  | [], c, h => h
  | m :: r, c, h => by
    rw [List.foldl_cons]
    refine choice_name look not n r _ ?_
    unfold choiceOf
    cases look m with
    | none => exact h
    | some fs =>
      simp only
      cases fs.find? (fun f => decide (f.name = n)) with
      | none => exact h
      | some f => simp only; cases wholeB not f.data <;> simp [h]
theorem choice_all (Q : Choice → Prop) (look : Int → Option (List File)) (not : Int) (n : ByteArray) (hQ : ∀ m fs f, look m = some fs → f ∈ fs → wholeB not f.data = true → Q ⟨n, m, true, f.data⟩) : ∀ (nums : List Int) (c : Choice), Q c → Q (nums.foldl (choiceOf look not n) c)
  | [], c, h => h
  | m :: r, c, h => by
    rw [List.foldl_cons]
    refine choice_all Q look not n hQ r _ ?_
    unfold choiceOf
    cases hl : look m with
    | none => exact h
    | some fs =>
      simp only
      cases hf : fs.find? (fun f => decide (f.name = n)) with
      | none => exact h
      | some f =>
        simp only
        cases hw : wholeB not f.data with
        | false => exact h
        | true => exact hQ m fs f hl (List.mem_of_find?_eq_some hf) hw
theorem LookOk.nlen {look : Int → Option (List File)} (h : LookOk look) {nums : List Int} (hn : nums.length ≤ 100) : (namesOf look nums).length ≤ 1000 := by
  have hk : sortB ((bestOf look (fun _ _ => false) nums).map (·.1)) = namesOf look nums := by
    refine sortedS_ext (sortB_sorted (best_nodup _ _ _)) (names_sorted look nums [] List.Pairwise.nil) (fun x => ?_)
    rw [sortB_mem]
    exact best_keys look _ x nums [] [] (by simp)
  rw [← hk, sortB_len, List.length_map]; exact h.len hn _
theorem plan_names (look : Int → Option (List File)) (not : Int) (nums : List Int) : (rplanOf look not nums).map (·.name) = namesOf look nums := by
  unfold rplanOf
  rw [List.map_map]
  have : ∀ n ∈ namesOf look nums, ((fun c : Choice => c.name) ∘ fun n => nums.foldl (choiceOf look not n) ⟨n, 0, false, []⟩) n = n := fun n _ => choice_name look not n nums _ rfl
  rw [List.map_congr_left this]; simp
theorem plan_facts {look : Int → Option (List File)} (h : LookOk look) (not : Int) {nums : List Int} (hn : nums.length ≤ 100) : PlanOk not (rplanOf look not nums) := by
  have hall : ∀ (Q : Choice → Prop), (∀ n ∈ namesOf look nums, Q ⟨n, 0, false, []⟩ ∧ ∀ m fs f, look m = some fs → f ∈ fs → wholeB not f.data = true → Q ⟨n, m, true, f.data⟩) → ∀ c ∈ rplanOf look not nums, Q c := by
    intro Q hQ c hc
    obtain ⟨n, hn, rfl⟩ := List.mem_map.1 hc
    exact choice_all Q look not n (hQ n hn).2 nums _ (hQ n hn).1
  refine ⟨by rw [plan_names]; exact names_sorted look nums [] List.Pairwise.nil, by rw [rplan_len]; exact h.nlen hn, hall _ (fun n hn => ?_), hall _ (fun n hn => ?_), hall _ (fun n hn => ?_)⟩
  · have hs := h.name n hn
    exact ⟨by simp; omega, fun m fs f hl hf _ => by have := ((h m fs hl).2 f hf).2; simp; omega⟩
  · exact ⟨fun h => (by cases h), fun m fs f hl hf hw _ => hw⟩
  · exact ⟨fun _ => ⟨rfl, rfl⟩, fun m fs f hl hf hw h => (by cases h)⟩

theorem PlanOk.one {not : Int} {cs : List Choice} (h : PlanOk not cs) {c d : Choice} (hc : c ∈ cs) (hd : d ∈ cs) (e : c.name = d.name) : c = d := by
  have hs := List.pairwise_map.1 h.sorted
  obtain ⟨i, hi⟩ := List.getElem?_of_mem hc
  obtain ⟨j, hj⟩ := List.getElem?_of_mem hd
  obtain ⟨hi1, hi2⟩ := List.getElem?_eq_some_iff.1 hi
  obtain ⟨hj1, hj2⟩ := List.getElem?_eq_some_iff.1 hj
  rw [List.pairwise_iff_getElem] at hs
  rcases Nat.lt_trichotomy i j with hl | hl | hl
  · have := hs i j hi1 hj1 hl; rw [hi2, hj2, e, ltS_irrefl] at this; cases this
  · subst hl; rw [hi] at hj; exact Option.some.inj hj
  · have := hs j i hj1 hi1 hl; rw [hi2, hj2, e, ltS_irrefl] at this; cases this
theorem PlanOk.any {not : Int} {cs : List Choice} (h : PlanOk not cs) {c : Choice} (hc : c ∈ cs) : anyW cs c.name = c.whole := by
  cases hw : c.whole with
  | true => unfold anyW; rw [List.any_eq_true]; exact ⟨c, hc, by simp [hw]⟩
  | false =>
    unfold anyW; rw [List.any_eq_false]
    intro d hd hb
    simp at hb
    have := h.one hd hc hb.2; subst this; rw [hw] at hb; cases hb.1
theorem sorted_filter {cs : List Choice} (h : SortedS (cs.map (·.name))) (p : Choice → Bool) : SortedS ((cs.filter p).map (·.name)) :=
  h.sublist (List.filter_sublist.map _)
theorem PlanOk.rnames {not : Int} {cs : List Choice} (h : PlanOk not cs) : rnamesOf cs = (cs.filter (·.whole)).map (·.name) := by
  refine sortedS_ext (rnames_sorted_aux cs [] List.Pairwise.nil) (sorted_filter h.sorted _) (fun x => ?_)
  rw [rnamesOf, rnames_mem_aux, List.mem_map]
  simp only [List.not_mem_nil, false_or, List.mem_filter]
  constructor
  · rintro ⟨c, h1, h2, h3⟩; exact ⟨c, ⟨h1, h2⟩, h3⟩
  · rintro ⟨c, ⟨h1, h2⟩, h3⟩; exact ⟨c, h1, h2, h3⟩
theorem PlanOk.rlost {not : Int} {cs : List Choice} (h : PlanOk not cs) : rlostOf cs = (cs.filter (fun c => !c.whole)).map (·.name) := by
  rw [rlost_def]
  refine sortedS_ext (rlost_sorted_aux (anyW cs) cs [] List.Pairwise.nil) (sorted_filter h.sorted _) (fun x => ?_)
  rw [rlost_mem_aux, List.mem_map]
  simp only [List.not_mem_nil, false_or, List.mem_filter]
  constructor
  · rintro ⟨c, h1, h2, h3⟩; exact ⟨c, ⟨h1, by rw [h.any h1] at h2; simp [h2]⟩, h3⟩
  · rintro ⟨c, ⟨h1, h2⟩, h3⟩; exact ⟨c, h1, by rw [h.any h1]; simpa using h2, h3⟩
theorem PlanOk.flen {not : Int} {cs : List Choice} (h : PlanOk not cs) : (rfilesOf cs).length = min 8 (cs.countP (·.whole)) := by
  unfold rfilesOf; rw [List.length_map, List.length_take, h.rnames, List.length_map, List.countP_eq_length_filter]
theorem PlanOk.llen {not : Int} {cs : List Choice} (h : PlanOk not cs) : (rlostOf cs).length + cs.countP (·.whole) = cs.length := by
  rw [h.rlost, List.length_map, ← List.countP_eq_length_filter]
  have := List.length_eq_countP_add_countP (fun c : Choice => c.whole) (l := cs)
  have e : cs.countP (fun c => decide ¬(c.whole = true)) = cs.countP (fun c => !c.whole) := by congr 1; funext c; cases c.whole <;> rfl
  rw [e] at this
  omega
theorem PlanOk.file {not : Int} {cs : List Choice} (h : PlanOk not cs) {f : File} (hf : f ∈ rfilesOf cs) : ∃ c ∈ cs, c.whole = true ∧ c.name = f.name ∧ c.data = f.data := by
  obtain ⟨n, hn, rfl⟩ := List.mem_map.1 hf
  have hn' := List.mem_of_mem_take hn
  rw [h.rnames] at hn'
  obtain ⟨c, hc, rfl⟩ := List.mem_map.1 hn'
  obtain ⟨hc1, hc2⟩ := List.mem_filter.1 hc
  have : cs.find? (fun d => d.whole && decide (d.name = c.name)) = some c := by
    cases hq : cs.find? (fun d => d.whole && decide (d.name = c.name)) with
    | none => rw [List.find?_eq_none] at hq; have := hq c hc1; simp [hc2] at this
    | some d =>
      have hd := List.find?_some hq
      simp at hd
      rw [h.one (List.mem_of_find?_eq_some hq) hc1 hd.2]
  exact ⟨c, hc1, hc2, rfl, by rw [this]; rfl⟩
theorem PlanOk.apart {not : Int} {cs : List Choice} (h : PlanOk not cs) {f : File} (hf : f ∈ rfilesOf cs) : f.name ∉ rlostOf cs := by
  intro hl
  obtain ⟨c, h1, h2, h3, _⟩ := h.file hf
  rw [h.rlost] at hl
  obtain ⟨d, hd, he⟩ := List.mem_map.1 hl
  obtain ⟨hd1, hd2⟩ := List.mem_filter.1 hd
  have := h.one h1 hd1 (h3.trans he.symm)
  subst this; rw [h2] at hd2; cases hd2
theorem setOf_keys (x : ByteArray) : ∀ (l : List ByteArray) (m : List (ByteArray × Bool)), x ∈ (l.foldl (fun m s => mset m s true) m).map (·.1) ↔ x ∈ l ∨ x ∈ m.map (·.1)
  | [], m => by simp
  | s :: r, m => by
    rw [List.foldl_cons, setOf_keys x r, mset_keys, List.mem_cons]
    constructor
    · rintro (h | h | h) <;> simp [h]
    · rintro ((h | h) | h) <;> simp [h]
theorem setOf_none {x : ByteArray} {l : List ByteArray} (h : x ∉ l) : (mget (l.foldl (fun m s => mset m s true) []) x).getD false = false := by
  rw [mget_none.2 (fun hm => by rw [setOf_keys] at hm; simp at hm; exact h hm)]; rfl
end Go.Proofs.Ytpoacfbobalpkaa.A

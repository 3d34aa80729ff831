/- Layer 66, plain laws: what comes later and is spoilt takes nothing. -/
import Derived.Test.YtpoacfbobalpkaaX66Q
namespace Go.Proofs.Ytpoacfbobalpkaa.A
open Go Go.RowKit
set_option linter.unusedVariables false
set_option linter.unusedSimpArgs false

def spoil (b : UInt8) (f : File) : File := ⟨f.name, b :: f.data⟩
abbrev big : Int := 1125899906842624
def lateM (sp : List File) : Moment := ⟨big, true, sp⟩
theorem look_more {l : List Moment} {sp : List File} (h : atM l big = none) (m : Int) : lookM (l ++ [lateM sp]) m = if m = big then some sp else lookM l m := by
  unfold lookM
  rw [List.find?_append]
  cases hf : l.find? (fun x => x.num == m) with
  | some x =>
    have hne : m ≠ big := by
      rintro rfl
      rw [find_idx_none h] at hf; cases hf
    simp [hne]
  | none =>
    by_cases hm : m = big
    · subst hm; simp [lateM]
    · have : (big == m) = false := by simp; exact fun e => hm e.symm
      simp [lateM, this, hm]
theorem late_step {l : List Moment} {sp : List File} {b : UInt8} {more : List File} (h : atM l big = none) (hsp : sp = more.map (spoil b)) (n : ByteArray) (c : Choice) (m : Int) :
    choiceOf (lookM (l ++ [lateM sp])) b.toNat n c m = choiceOf (lookM l) b.toNat n c m := by
  unfold choiceOf
  rw [look_more h]
  by_cases hm : m = big
  · rw [if_pos hm, hm, look_none h]
    simp only
    cases hf : sp.find? (fun f => decide (f.name = n)) with
    | none => rfl
    | some f =>
      have hmem := List.mem_of_find?_eq_some hf
      rw [hsp] at hmem
      obtain ⟨g, _, rfl⟩ := List.mem_map.1 hmem
      simp [spoil, wholeB]
  · rw [if_neg hm]
theorem late_fold {l : List Moment} {sp : List File} {b : UInt8} {more : List File} (h : atM l big = none) (hsp : sp = more.map (spoil b)) (n : ByteArray) (nums : List Int) (c : Choice) :
    (nums ++ [big]).foldl (choiceOf (lookM (l ++ [lateM sp])) b.toNat n) c = nums.foldl (choiceOf (lookM l) b.toNat n) c := by
  rw [List.foldl_append]
  have e : ∀ (ns : List Int) (c : Choice), ns.foldl (choiceOf (lookM (l ++ [lateM sp])) b.toNat n) c = ns.foldl (choiceOf (lookM l) b.toNat n) c := by
    intro ns
    induction ns with
    | nil => intro c; rfl
    | cons m r ih => intro c; rw [List.foldl_cons, List.foldl_cons, late_step h hsp, ih]
  simp only [List.foldl_cons, List.foldl_nil]
  rw [late_step h hsp, e]
  unfold choiceOf
  rw [look_none h]
theorem names_mem (look : Int → Option (List File)) (x : ByteArray) : ∀ (nums : List Int) (ns : List ByteArray), x ∈ nums.foldl (fun ns m => match look m with | some fs => fs.foldl (fun ns f => insS ns f.name) ns | none => ns) ns ↔ x ∈ ns ∨ ∃ m ∈ nums, ∃ fs, look m = some fs ∧ ∃ f ∈ fs, f.name = x
  | [], ns => by simp
  | m :: r, ns => by
    rw [List.foldl_cons, names_mem look x r]
    cases hl : look m with
    | none =>
      simp only [List.mem_cons, exists_eq_or_imp, hl]
      simp
    | some fs =>
      simp only [names_mem_aux, List.mem_cons, exists_eq_or_imp, hl]
      simp [or_assoc]
theorem names_memO (look : Int → Option (List File)) (x : ByteArray) (nums : List Int) : x ∈ namesOf look nums ↔ ∃ m ∈ nums, ∃ fs, look m = some fs ∧ ∃ f ∈ fs, f.name = x := by
  have h : x ∈ namesOf look nums ↔ x ∈ ([] : List ByteArray) ∨ ∃ m ∈ nums, ∃ fs, look m = some fs ∧ ∃ f ∈ fs, f.name = x := names_mem look x nums []
  rw [h]; simp
theorem choice_none (look : Int → Option (List File)) (not : Int) (n : ByteArray) : ∀ (nums : List Int) (c : Choice), (∀ m ∈ nums, ∀ fs, look m = some fs → ∀ f ∈ fs, f.name ≠ n) → nums.foldl (choiceOf look not n) c = c
  | [], c, _ => rfl
  | m :: r, c, h => by
    rw [List.foldl_cons]
    have e : choiceOf look not n c m = c := by
      unfold choiceOf
      cases hl : look m with
      | none => rfl
      | some fs =>
        simp only
        have : fs.find? (fun f => decide (f.name = n)) = none := by
          rw [List.find?_eq_none]; intro f hf; simp; exact h m (by simp) fs hl f hf
        rw [this]
    rw [e]
    exact choice_none look not n r c (fun m hm => h m (by simp [hm]))
def memB (n : ByteArray) (ns : List ByteArray) : Bool := ns.any fun m => decide (m = n)
theorem memB_iff {n : ByteArray} {ns : List ByteArray} : memB n ns = true ↔ n ∈ ns := by simp [memB]
theorem memB_not {n : ByteArray} {ns : List ByteArray} : memB n ns = false ↔ n ∉ ns := by rw [← memB_iff]; simp
/-- the two plans, by one list of names in the other -/
structure Later (xs ys : List Choice) (ns ns' : List ByteArray) (g : ByteArray → Choice) : Prop where
  fst : xs = ns.map g
  snd : ys = ns'.map g
  sub : ns = ns'.filter (fun n => memB n ns)
  lost : ∀ n ∈ ns', n ∉ ns → (g n).whole = false
  name : ∀ n, (g n).name = n
theorem later_ok {l : List Moment} {more : List File} {b : UInt8} {nums : List Int} (h : atM l big = none) :
    Later (rplanOf (lookM l) b.toNat nums) (rplanOf (lookM (l ++ [lateM (more.map (spoil b))])) b.toNat (nums ++ [big])) (namesOf (lookM l) nums) (namesOf (lookM (l ++ [lateM (more.map (spoil b))])) (nums ++ [big])) (fun n => nums.foldl (choiceOf (lookM l) b.toNat n) ⟨n, 0, false, []⟩) := by
  refine ⟨rfl, ?_, ?_, fun n _ hn => ?_, fun n => choice_name _ _ n nums _ rfl⟩
  · unfold rplanOf
    exact List.map_congr_left (fun n _ => late_fold h rfl n nums _)
  · refine sortedS_ext (names_sorted _ nums [] List.Pairwise.nil) ?_ (fun x => ?_)
    · exact (names_sorted (lookM (l ++ [lateM (more.map (spoil b))])) (nums ++ [big]) [] List.Pairwise.nil).sublist List.filter_sublist
    · rw [List.mem_filter, memB_iff]
      refine ⟨fun hx => ⟨?_, hx⟩, fun hx => hx.2⟩
      rw [names_memO] at hx ⊢
      obtain ⟨m, hm, fs, hl, f, hf, e⟩ := hx
      refine ⟨m, by simp [hm], fs, ?_, f, hf, e⟩
      rw [look_more h, if_neg]; exact hl
      rintro rfl; rw [look_none h] at hl; cases hl
  · rw [choice_none (lookM l) b.toNat n nums _ (fun m hm fs hl f hf e => ?_)]
    refine hn ?_
    rw [names_memO]; exact ⟨m, hm, fs, hl, f, hf, e⟩
theorem sub_at {ns ns' : List ByteArray} {p : ByteArray → Bool} (hs : ns = ns'.filter p) {i : Nat} {x : ByteArray} (hx : ns'[i]? = some x) :
    (p x = true → ns[((ns'.take i).filter p).length]? = some x ∧ ((ns'.take (i + 1)).filter p).length = ((ns'.take i).filter p).length + 1) ∧
    (p x = false → ((ns'.take (i + 1)).filter p).length = ((ns'.take i).filter p).length) := by
  have hi := (List.getElem?_eq_some_iff.1 hx).1
  have e : ns' = ns'.take i ++ x :: ns'.drop (i + 1) := by
    have h2 := (List.getElem?_eq_some_iff.1 hx).2
    rw [← h2, List.getElem_cons_drop, List.take_append_drop]
  refine ⟨fun hp => ⟨?_, ?_⟩, fun hp => ?_⟩
  · rw [hs]
    have : ns'.filter p = (ns'.take i).filter p ++ x :: (ns'.drop (i + 1)).filter p := by
      conv => lhs; rw [e]
      rw [List.filter_append, List.filter_cons, if_pos hp]
    rw [this, List.getElem?_append_right (Nat.le_refl _)]; simp
  · rw [takeS hx, List.filter_append]; simp [hp]
  · rw [takeS hx, List.filter_append]; simp [hp]
theorem find_nodup {cs : List Choice} (hu : ∀ c ∈ cs, ∀ d ∈ cs, c.name = d.name → c = d) {c : Choice} (hc : c ∈ cs) (hw : c.whole = true) : cs.find? (fun d => d.whole && decide (d.name = c.name)) = some c := by
  cases hq : cs.find? (fun d => d.whole && decide (d.name = c.name)) with
  | none => rw [List.find?_eq_none] at hq; have := hq c hc; simp [hw] at this
  | some d =>
    have hd := List.find?_some hq
    simp at hd
    rw [hu _ (List.mem_of_find?_eq_some hq) _ hc hd.2]
theorem PlanOk.rfiles {not : Int} {cs : List Choice} (h : PlanOk not cs) : rfilesOf cs = ((cs.filter (·.whole)).take 8).map fun c => ⟨c.name, c.data⟩ := by
  unfold rfilesOf
  rw [h.rnames, ← List.map_take, List.map_map]
  refine List.map_congr_left (fun c hc => ?_)
  obtain ⟨h1, h2⟩ := List.mem_filter.1 (List.mem_of_mem_take hc)
  simp only [Function.comp]
  rw [find_nodup (fun c hc d hd e => h.one hc hd e) h1 h2]; rfl
theorem later_files {xs ys : List Choice} {ns ns' : List ByteArray} {g : ByteArray → Choice} {not : Int} (h : Later xs ys ns ns' g) (ha : PlanOk not xs) (hb : PlanOk not ys) : rfilesOf xs = rfilesOf ys := by
  rw [ha.rfiles, hb.rfiles]
  have : xs.filter (·.whole) = ys.filter (·.whole) := by
    rw [h.fst, h.snd, List.filter_map, List.filter_map]
    congr 1
    conv => lhs; rw [h.sub]
    rw [List.filter_filter]
    refine List.filter_congr (fun n hn => ?_)
    by_cases hm : n ∈ ns
    · simp [memB_iff.2 hm]
    · simp [memB_not.2 hm, h.lost n hn hm]
  rw [this]
end Go.Proofs.Ytpoacfbobalpkaa.A

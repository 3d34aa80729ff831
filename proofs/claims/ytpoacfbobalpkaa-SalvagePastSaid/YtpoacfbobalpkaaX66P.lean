/- Layer 66, plain laws: the plan that is computed with maps is the document's. -/
import Derived.Test.YtpoacfbobalpkaaX66S
namespace Go.Proofs.Ytpoacfbobalpkaa.A
open Go Go.RowKit
set_option linter.unusedVariables false
set_option linter.unusedSimpArgs false

def valC (b : List (ByteArray × Choice)) (n : ByteArray) : Choice := (mget b n).getD ⟨n, 0, false, []⟩
def seenB (s : List (ByteArray × Bool)) (n : ByteArray) : Bool := (mget s n).getD false
theorem stepF_eq (wh : ByteArray → List UInt8 → Bool) (m : Int) (s : List (ByteArray × Bool) × List (ByteArray × Choice)) (f : File) :
    stepF wh m s f = cond (seenB s.1 f.name) s (mset s.1 f.name true, mset s.2 f.name (cond (wh f.name f.data) ⟨f.name, m, true, f.data⟩ (valC s.2 f.name))) := rfl
theorem seen_mset (s : List (ByteArray × Bool)) (k n : ByteArray) : seenB (mset s k true) n = if k = n then true else seenB s n := by
  unfold seenB; rw [mget_mset]; split <;> rfl
theorem val_mset (b : List (ByteArray × Choice)) (k n : ByteArray) (c : Choice) : valC (mset b k c) n = if k = n then c else valC b n := by
  unfold valC; rw [mget_mset]; split <;> rfl

theorem files_val (wh : ByteArray → List UInt8 → Bool) (m : Int) (n : ByteArray) : ∀ (fs : List File) (s : List (ByteArray × Bool) × List (ByteArray × Choice)),
    valC (fs.foldl (stepF wh m) s).2 n = if seenB s.1 n = true then valC s.2 n else match fs.find? (fun f => decide (f.name = n)) with | some f => cond (wh n f.data) ⟨n, m, true, f.data⟩ (valC s.2 n) | none => valC s.2 n
  | [], s => by simp
  | f :: r, s => by
    rw [List.foldl_cons, files_val wh m n r, stepF_eq]
    cases hs : seenB s.1 f.name with
    | true =>
      simp only [cond_true]
      by_cases hn : f.name = n
      · subst hn; simp [hs]
      · simp [hn]
    | false =>
      simp only [cond_false, seen_mset, val_mset]
      by_cases hn : f.name = n
      · subst hn; simp [hs]
      · simp [hn]
theorem files_keys (wh : ByteArray → List UInt8 → Bool) (m : Int) (x : ByteArray) : ∀ (fs : List File) (s : List (ByteArray × Bool) × List (ByteArray × Choice)), (∀ y, seenB s.1 y = true → y ∈ s.2.map (·.1)) →
    (x ∈ (fs.foldl (stepF wh m) s).2.map (·.1) ↔ x ∈ s.2.map (·.1) ∨ ∃ f ∈ fs, f.name = x)
  | [], s, _ => by simp
  | f :: r, s, h => by
    rw [List.foldl_cons, stepF_eq]
    cases hs : seenB s.1 f.name with
    | true =>
      rw [cond_true, files_keys wh m x r s h]
      have := h _ hs
      constructor
      · rintro (h1 | ⟨g, h1, h2⟩)
        · exact Or.inl h1
        · exact Or.inr ⟨g, List.mem_cons_of_mem _ h1, h2⟩
      · rintro (h1 | ⟨g, h1, h2⟩)
        · exact Or.inl h1
        · rcases List.mem_cons.1 h1 with rfl | h1
          · subst h2; exact Or.inl this
          · exact Or.inr ⟨g, h1, h2⟩
    | false =>
      rw [cond_false, files_keys wh m x r _ (fun y hy => ?_)]
      · simp only [mset_keys]
        constructor
        · rintro ((h1 | h1) | ⟨g, h1, h2⟩)
          · exact Or.inr ⟨f, by simp, h1.symm⟩
          · exact Or.inl h1
          · exact Or.inr ⟨g, List.mem_cons_of_mem _ h1, h2⟩
        · rintro (h1 | ⟨g, h1, h2⟩)
          · exact Or.inl (Or.inr h1)
          · rcases List.mem_cons.1 h1 with rfl | h1
            · exact Or.inl (Or.inl h2.symm)
            · exact Or.inr ⟨g, h1, h2⟩
      · simp only [seen_mset] at hy
        rw [mset_keys]
        split at hy
        · rename_i e; exact Or.inl e.symm
        · exact Or.inr (h y hy)
theorem names_mem_aux (x : ByteArray) : ∀ (fs : List File) (ns : List ByteArray), x ∈ fs.foldl (fun ns f => insS ns f.name) ns ↔ x ∈ ns ∨ ∃ f ∈ fs, f.name = x
  | [], ns => by simp
  | f :: r, ns => by
    rw [List.foldl_cons, names_mem_aux x r, insS_mem]
    constructor
    · rintro ((h | h) | ⟨g, h1, h2⟩)
      · exact Or.inr ⟨f, by simp, h.symm⟩
      · exact Or.inl h
      · exact Or.inr ⟨g, List.mem_cons_of_mem _ h1, h2⟩
    · rintro (h | ⟨g, h1, h2⟩)
      · exact Or.inl (Or.inr h)
      · rcases List.mem_cons.1 h1 with rfl | h1
        · exact Or.inl (Or.inl h2.symm)
        · exact Or.inr ⟨g, h1, h2⟩
theorem names_sorted_aux : ∀ (fs : List File) (ns : List ByteArray), SortedS ns → SortedS (fs.foldl (fun ns f => insS ns f.name) ns)
  | [], ns, h => h
  | f :: r, ns, h => names_sorted_aux r _ (insS_sorted h)
theorem best_keys (look : Int → Option (List File)) (wh : ByteArray → List UInt8 → Bool) (x : ByteArray) : ∀ (nums : List Int) (b : List (ByteArray × Choice)) (ns : List ByteArray), (x ∈ b.map (·.1) ↔ x ∈ ns) →
    (x ∈ (nums.foldl (stepM look wh) b).map (·.1) ↔ x ∈ nums.foldl (fun ns m => match look m with | some fs => fs.foldl (fun ns f => insS ns f.name) ns | none => ns) ns)
  | [], b, ns, h => h
  | m :: r, b, ns, h => by
    rw [List.foldl_cons, List.foldl_cons]
    refine best_keys look wh x r _ _ ?_
    unfold stepM
    cases look m with
    | none => exact h
    | some fs => simp only; rw [files_keys wh m x fs _ (fun y hy => by simp [seenB, mget] at hy), names_mem_aux, h]
theorem names_sorted (look : Int → Option (List File)) : ∀ (nums : List Int) (ns : List ByteArray), SortedS ns → SortedS (nums.foldl (fun ns m => match look m with | some fs => fs.foldl (fun ns f => insS ns f.name) ns | none => ns) ns)
  | [], ns, h => h
  | m :: r, ns, h => by
    rw [List.foldl_cons]
    refine names_sorted look r _ ?_
    cases look m with
    | none => exact h
    | some fs => exact names_sorted_aux fs ns h
theorem best_val (look : Int → Option (List File)) (not : Int) (n : ByteArray) : ∀ (nums : List Int) (b : List (ByteArray × Choice)),
    valC (nums.foldl (stepM look (fun _ d => wholeB not d)) b) n = nums.foldl (choiceOf look not n) (valC b n)
  | [], b => rfl
  | m :: r, b => by
    rw [List.foldl_cons, List.foldl_cons, best_val look not n r]
    congr 1
    unfold stepM choiceOf
    cases look m with
    | none => rfl
    | some fs => simp only; rw [files_val]; simp only [seenB, mget, Option.getD_none, Bool.false_eq_true, if_false]; cases fs.find? (fun f => decide (f.name = n)) <;> rfl
theorem plan_eq (look : Int → Option (List File)) (not : Int) (nums : List Int) : planOf look (fun _ d => wholeB not d) nums = rplanOf look not nums := by
  unfold planOf rplanOf
  have hk : sortB ((bestOf look (fun _ d => wholeB not d) nums).map (·.1)) = namesOf look nums := by
    refine sortedS_ext (sortB_sorted (best_nodup _ _ _)) (names_sorted look nums [] List.Pairwise.nil) (fun x => ?_)
    rw [sortB_mem]
    exact best_keys look _ x nums [] [] (by simp)
  rw [hk]
  refine List.map_congr_left (fun n hn => ?_)
  have hin : n ∈ (bestOf look (fun _ d => wholeB not d) nums).map (·.1) := (best_keys look _ n nums [] [] (by simp)).2 hn
  have hv := best_val look not n nums []
  have e : (mget (bestOf look (fun _ d => wholeB not d) nums) n).getD .zero = valC (bestOf look (fun _ d => wholeB not d) nums) n := by
    obtain ⟨c, hc⟩ := Option.isSome_iff_exists.1 (mget_some.2 hin)
    unfold valC; rw [hc]; rfl
  rw [e]; exact hv
theorem best_none (look : Int → Option (List File)) (wh : ByteArray → List UInt8 → Bool) (wh' : ByteArray → List UInt8 → Bool) (x : ByteArray) (nums : List Int) : x ∈ (bestOf look wh nums).map (·.1) ↔ x ∈ (bestOf look wh' nums).map (·.1) :=
  (best_keys look wh x nums [] [] (by simp)).trans (best_keys look wh' x nums [] [] (by simp)).symm
/-- with nothing that is whole -/
theorem none_val (look : Int → Option (List File)) (n : ByteArray) : ∀ (nums : List Int) (b : List (ByteArray × Choice)), valC b n = ⟨n, 0, false, []⟩ → valC (nums.foldl (stepM look (fun _ _ => false)) b) n = ⟨n, 0, false, []⟩
  | [], b, h => h
  | m :: r, b, h => by
    rw [List.foldl_cons]
    refine none_val look n r _ ?_
    unfold stepM
    cases look m with
    | none => exact h
    | some fs =>
      simp only; rw [files_val, h]
      simp only [cond_false]
      split
      · rfl
      · split <;> rfl
theorem planNone (look : Int → Option (List File)) (nums : List Int) : planOf look (fun _ _ => false) nums = (namesOf look nums).map fun n => ⟨n, 0, false, []⟩ := by
  unfold planOf
  have hk : sortB ((bestOf look (fun _ _ => false) nums).map (·.1)) = namesOf look nums := by
    refine sortedS_ext (sortB_sorted (best_nodup _ _ _)) (names_sorted look nums [] List.Pairwise.nil) (fun x => ?_)
    rw [sortB_mem]
    exact best_keys look _ x nums [] [] (by simp)
  rw [hk]
  refine List.map_congr_left (fun n hn => ?_)
  have hin : n ∈ (bestOf look (fun _ _ => false) nums).map (·.1) := (best_keys look _ n nums [] [] (by simp)).2 hn
  obtain ⟨c, hc⟩ := Option.isSome_iff_exists.1 (mget_some.2 hin)
  have hv := none_val look n nums [] rfl
  unfold valC at hv
  change (mget (bestOf look (fun _ _ => false) nums) n).getD _ = _ at hv
  rw [hc] at hv ⊢
  exact hv

/-! bounds -/
theorem names_all (Q : ByteArray → Prop) (look : Int → Option (List File)) (hQ : ∀ m fs, look m = some fs → ∀ f ∈ fs, Q f.name) : ∀ (nums : List Int) (ns : List ByteArray), (∀ x ∈ ns, Q x) → ∀ x ∈ nums.foldl (fun ns m => match look m with | some fs => fs.foldl (fun ns f => insS ns f.name) ns | none => ns) ns, Q x
  | [], ns, h => h
  | m :: r, ns, h => by
    rw [List.foldl_cons]
    refine names_all Q look hQ r _ ?_
    cases hl : look m with
    | none => exact h
    | some fs =>
      intro x hx
      rcases (names_mem_aux x fs ns).1 hx with hx | ⟨f, hf, rfl⟩
      · exact h x hx
      · exact hQ m fs hl f hf
theorem best_len_aux (look : Int → Option (List File)) (wh : ByteArray → List UInt8 → Bool) (K : Nat) (hK : ∀ m fs, look m = some fs → fs.length ≤ K) : ∀ (nums : List Int) (b : List (ByteArray × Choice)), (nums.foldl (stepM look wh) b).length ≤ b.length + K * nums.length
  | [], b => by simp
  | m :: r, b => by
    have := best_len_aux look wh K hK r (stepM look wh b m)
    have h2 : (stepM look wh b m).length ≤ b.length + K := by
      unfold stepM
      cases hl : look m with
      | none => simp
      | some fs =>
        have hk := hK m fs hl
        have hf : ∀ (fs : List File) (s : List (ByteArray × Bool) × List (ByteArray × Choice)), (fs.foldl (stepF wh m) s).2.length ≤ s.2.length + fs.length := by
          intro fs
          induction fs with
          | nil => intro s; simp
          | cons f fs ih =>
            intro s
            have h1 := ih (stepF wh m s f)
            have h2 : (stepF wh m s f).2.length ≤ s.2.length + 1 := by
              rw [stepF_eq]
              cases seenB s.1 f.name
              · exact mset_len
              · simp
            simp only [List.foldl_cons, List.length_cons]; omega
        have := hf fs ([], b)
        simp only at this ⊢; omega
    simp only [List.foldl_cons, List.length_cons, Nat.mul_add, Nat.mul_one]; omega
/-! files and lost names -/
theorem find_hit {α : Type} {p : α → Bool} {l : List α} {k : Nat} {x : α} (h : l[k]? = some x) (ha : ∀ f ∈ l.take k, p f = false) (hx : p x = true) : l.find? p = some x := by
  rw [find_idx (fidx_hit h hx (by rw [List.findIdx?_eq_none_iff]; exact ha)), h]
theorem chosen_get (n : ByteArray) : ∀ (l : List Choice) (m : List (ByteArray × Choice)), mget (l.foldl stepC m) n = match mget m n with | some c => some c | none => l.find? (fun c => c.whole && decide (c.name = n))
  | [], m => by simp; cases mget m n <;> rfl
  | c :: r, m => by
    rw [List.foldl_cons, chosen_get n r]
    unfold stepC
    cases hb : (!(mget m c.name).isSome && c.whole) with
    | false =>
      rw [cond_false]
      cases hm : mget m n with
      | some d => rfl
      | none =>
        simp only [List.find?_cons]
        have : (c.whole && decide (c.name = n)) = false := by
          by_cases hn : c.name = n
          · rw [hn, hm] at hb; simp at hb; simp [hb]
          · simp [hn]
        rw [this]
    | true =>
      rw [cond_true, mget_mset]
      simp only [Bool.and_eq_true, Bool.not_eq_true'] at hb
      by_cases hn : c.name = n
      · have hm : mget m n = none := by cases h : mget m n with | none => rfl | some d => rw [hn, h] at hb; simp at hb
        simp [hn, hm, hb.2]
      · simp only [if_neg hn]
        cases mget m n with
        | some d => rfl
        | none => simp [hn]
theorem chosen_find (l : List Choice) (n : ByteArray) : mget (chosen l) n = l.find? (fun c => c.whole && decide (c.name = n)) := chosen_get n l []
theorem rnames_mem_aux (x : ByteArray) : ∀ (l : List Choice) (ns : List ByteArray), x ∈ l.foldl (fun ns c => cond c.whole (insS ns c.name) ns) ns ↔ x ∈ ns ∨ ∃ c ∈ l, c.whole = true ∧ c.name = x
  | [], ns => by simp
  | c :: r, ns => by
    rw [List.foldl_cons, rnames_mem_aux x r]
    cases hc : c.whole with
    | true =>
      rw [cond_true, insS_mem]
      constructor
      · rintro ((h | h) | ⟨g, h1, h2⟩)
        · exact Or.inr ⟨c, by simp, hc, h.symm⟩
        · exact Or.inl h
        · exact Or.inr ⟨g, List.mem_cons_of_mem _ h1, h2⟩
      · rintro (h | ⟨g, h1, h2, h3⟩)
        · exact Or.inl (Or.inr h)
        · rcases List.mem_cons.1 h1 with rfl | h1
          · exact Or.inl (Or.inl h3.symm)
          · exact Or.inr ⟨g, h1, h2, h3⟩
    | false =>
      rw [cond_false]
      constructor
      · rintro (h | ⟨g, h1, h2⟩)
        · exact Or.inl h
        · exact Or.inr ⟨g, List.mem_cons_of_mem _ h1, h2⟩
      · rintro (h | ⟨g, h1, h2, h3⟩)
        · exact Or.inl h
        · rcases List.mem_cons.1 h1 with rfl | h1
          · rw [hc] at h2; cases h2
          · exact Or.inr ⟨g, h1, h2, h3⟩
theorem rnames_sorted_aux : ∀ (l : List Choice) (ns : List ByteArray), SortedS ns → SortedS (l.foldl (fun ns c => cond c.whole (insS ns c.name) ns) ns)
  | [], ns, h => h
  | c :: r, ns, h => by
    rw [List.foldl_cons]
    refine rnames_sorted_aux r _ ?_
    cases c.whole
    · exact h
    · exact insS_sorted h
theorem rnames_len_aux : ∀ (l : List Choice) (ns : List ByteArray), (l.foldl (fun ns c => cond c.whole (insS ns c.name) ns) ns).length ≤ ns.length + l.length
  | [], ns => by simp
  | c :: r, ns => by
    have := rnames_len_aux r (cond c.whole (insS ns c.name) ns)
    have h2 : (cond c.whole (insS ns c.name) ns).length ≤ ns.length + 1 := by
      cases c.whole
      · simp
      · exact insS_len
    simp only [List.foldl_cons, List.length_cons]; omega
theorem chosen_key (l : List Choice) (x : ByteArray) : x ∈ (chosen l).map (·.1) ↔ ∃ c ∈ l, c.whole = true ∧ c.name = x := by
  rw [← mget_some, chosen_find, List.find?_isSome]
  simp
theorem names_eq (l : List Choice) : sortB ((chosen l).map (·.1)) = rnamesOf l := by
  refine sortedS_ext (sortB_sorted (chosen_nodup l)) (rnames_sorted_aux l [] List.Pairwise.nil) (fun x => ?_)
  rw [sortB_mem, chosen_key, rnamesOf, rnames_mem_aux]; simp
theorem files_eq (l : List Choice) : filesOf l = rfilesOf l := by
  unfold filesOf rfilesOf
  rw [names_eq]
  refine List.map_congr_left (fun n _ => ?_)
  rw [chosen_find]
theorem rlost_mem_aux (Q : ByteArray → Bool) (x : ByteArray) : ∀ (l : List Choice) (ns : List ByteArray), x ∈ l.foldl (fun ns c => cond (Q c.name) ns (insS ns c.name)) ns ↔ x ∈ ns ∨ ∃ c ∈ l, Q c.name = false ∧ c.name = x
  | [], ns => by simp
  | c :: r, ns => by
    rw [List.foldl_cons, rlost_mem_aux Q x r]
    cases hc : Q c.name with
    | false =>
      rw [cond_false, insS_mem]
      constructor
      · rintro ((h | h) | ⟨g, h1, h2⟩)
        · exact Or.inr ⟨c, by simp, hc, h.symm⟩
        · exact Or.inl h
        · exact Or.inr ⟨g, List.mem_cons_of_mem _ h1, h2⟩
      · rintro (h | ⟨g, h1, h2, h3⟩)
        · exact Or.inl (Or.inr h)
        · rcases List.mem_cons.1 h1 with rfl | h1
          · exact Or.inl (Or.inl h3.symm)
          · exact Or.inr ⟨g, h1, h2, h3⟩
    | true =>
      rw [cond_true]
      constructor
      · rintro (h | ⟨g, h1, h2⟩)
        · exact Or.inl h
        · exact Or.inr ⟨g, List.mem_cons_of_mem _ h1, h2⟩
      · rintro (h | ⟨g, h1, h2, h3⟩)
        · exact Or.inl h
        · rcases List.mem_cons.1 h1 with rfl | h1
          · rw [hc] at h2; cases h2
          · exact Or.inr ⟨g, h1, h2, h3⟩
theorem rlost_sorted_aux (Q : ByteArray → Bool) : ∀ (l : List Choice) (ns : List ByteArray), SortedS ns → SortedS (l.foldl (fun ns c => cond (Q c.name) ns (insS ns c.name)) ns)
  | [], ns, h => h
  | c :: r, ns, h => by
    rw [List.foldl_cons]
    refine rlost_sorted_aux Q r _ ?_
    cases Q c.name
    · exact insS_sorted h
    · exact h
theorem rlost_len_aux (Q : ByteArray → Bool) : ∀ (l : List Choice) (ns : List ByteArray), (l.foldl (fun ns c => cond (Q c.name) ns (insS ns c.name)) ns).length ≤ ns.length + l.length
  | [], ns => by simp
  | c :: r, ns => by
    have := rlost_len_aux Q r (cond (Q c.name) ns (insS ns c.name))
    have h2 : (cond (Q c.name) ns (insS ns c.name)).length ≤ ns.length + 1 := by
      cases Q c.name
      · exact insS_len
      · simp
    simp only [List.foldl_cons, List.length_cons]; omega
/-- a name that is whole somewhere -/
def anyW (l : List Choice) (n : ByteArray) : Bool := l.any fun d => d.whole && decide (d.name = n)
theorem rlost_def (l : List Choice) : rlostOf l = l.foldl (fun ns c => cond (anyW l c.name) ns (insS ns c.name)) [] := rfl
theorem lost_eq (l : List Choice) : lostOf l = rlostOf l := by
  rw [rlost_def]
  refine sortedS_ext (sortB_sorted (lost_nodup_aux _ l [] (by simp))) (rlost_sorted_aux (anyW l) l [] List.Pairwise.nil) (fun x => ?_)
  rw [lostOf, sortB_mem, lost_keys_aux, rlost_mem_aux]
  have hq : ∀ x, anyW l x = false ↔ mget (chosen l) x = none := by
    intro x
    rw [mget_none, chosen_key]
    unfold anyW
    rw [List.any_eq_false]
    constructor
    · rintro h ⟨c, h1, h2, h3⟩
      have := h c h1; simp [h2, h3] at this
    · intro h c hc hcw
      simp at hcw
      exact h ⟨c, hc, hcw.1, hcw.2⟩
  simp only [List.map_nil, List.not_mem_nil, false_or]
  constructor
  · rintro ⟨c, h1, h2, h3⟩; exact ⟨c, h1, (hq _).2 (h2 ▸ h3), h2⟩
  · rintro ⟨c, h1, h2, h3⟩; exact ⟨c, h1, h3, h3 ▸ (hq _).1 h2⟩
end Go.Proofs.Ytpoacfbobalpkaa.A

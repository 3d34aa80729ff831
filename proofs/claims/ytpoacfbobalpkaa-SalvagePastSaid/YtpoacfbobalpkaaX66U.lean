/- Layer 66, plain laws: nothing newer was whole. -/
import Derived.Test.YtpoacfbobalpkaaX66T
namespace Go.Proofs.Ytpoacfbobalpkaa.A
open Go Go.RowKit
set_option linter.unusedVariables false
set_option linter.unusedSimpArgs false

theorem rise_step {l : List Int} {i : Nat} {a b : Int} (hi : 0 < i) (ha : l[i - 1]? = some a) (hb : l[i]? = some b) (h : (l.take i).Pairwise (· < ·)) (hab : a < b) : (l.take (i + 1)).Pairwise (· < ·) := by
  rw [takeS hb, List.pairwise_append]
  refine ⟨h, by simp, fun x hx y hy => ?_⟩
  simp at hy; subst hy
  obtain ⟨k, rfl⟩ : ∃ k, i = k + 1 := ⟨i - 1, by omega⟩
  rw [takeS (by simpa using ha), List.pairwise_append] at h
  rw [takeS (by simpa using ha)] at hx
  rcases List.mem_append.1 hx with hx | hx
  · have := h.2.2 x hx a (by simp); omega
  · simp at hx; subst hx; exact hab
/-- the file of a name at a moment -/
def fileAt (look : Int → Option (List File)) (n : ByteArray) (m : Int) : Option File := ((look m).getD []).find? (fun f => decide (f.name = n))
def goodAt (look : Int → Option (List File)) (not : Int) (n : ByteArray) (m : Int) : Option (List UInt8) :=
  match fileAt look n m with
  | some f => cond (wholeB not f.data) (some f.data) none
  | none => none
theorem choiceOf_eq (look : Int → Option (List File)) (not : Int) (n : ByteArray) (c : Choice) (m : Int) : choiceOf look not n c m = match goodAt look not n m with | some d => ⟨n, m, true, d⟩ | none => c := by
  unfold choiceOf goodAt fileAt
  cases look m with
  | none => rfl
  | some fs =>
    simp only [Option.getD_some]
    cases fs.find? (fun f => decide (f.name = n)) with
    | none => rfl
    | some f => simp only; cases wholeB not f.data <;> rfl
structure NewOk (look : Int → Option (List File)) (not : Int) (n : ByteArray) (p : List Int) (c : Choice) : Prop where
  last : ∀ m ∈ p, ∀ d, goodAt look not n m = some d → c.whole = true ∧ m ≤ c.moment
  here : c.whole = true → c.moment ∈ p ∧ goodAt look not n c.moment = some c.data
theorem new_aux (look : Int → Option (List File)) (not : Int) (n : ByteArray) : ∀ (r p : List Int) (c : Choice), (p ++ r).Pairwise (· < ·) → NewOk look not n p c → NewOk look not n (p ++ r) (r.foldl (choiceOf look not n) c)
  | [], p, c, _, h => by simpa using h
  | m :: r, p, c, hs, h => by
    have e : p ++ m :: r = (p ++ [m]) ++ r := by simp
    rw [List.foldl_cons, e]
    refine new_aux look not n r (p ++ [m]) _ (by rw [← e]; exact hs) ?_
    rw [choiceOf_eq]
    have hlt : ∀ x ∈ p, x < m := fun x hx => (List.pairwise_append.1 hs).2.2 x hx m (by simp)
    cases hg : goodAt look not n m with
    | none =>
      refine ⟨fun x hx d hd => ?_, fun hw => ?_⟩
      · rcases List.mem_append.1 hx with hx | hx
        · exact h.last x hx d hd
        · simp at hx; subst hx; rw [hg] at hd; cases hd
      · have := h.here hw; exact ⟨List.mem_append_left _ this.1, this.2⟩
    | some d0 =>
      refine ⟨fun x hx d hd => ⟨rfl, ?_⟩, fun _ => ⟨by simp, hg⟩⟩
      rcases List.mem_append.1 hx with hx | hx
      · have := hlt x hx; simp only; omega
      · simp at hx; subst hx; exact Int.le_refl _
theorem new_ok (look : Int → Option (List File)) (not : Int) {nums : List Int} (hs : nums.Pairwise (· < ·)) {c : Choice} (hc : c ∈ rplanOf look not nums) : NewOk look not c.name nums c := by
  obtain ⟨n, _, rfl⟩ := List.mem_map.1 hc
  rw [choice_name look not n nums _ rfl]
  have := new_aux look not n nums [] ⟨n, 0, false, []⟩ (by simpa using hs) ⟨fun m hm => by simp at hm, fun h => by cases h⟩
  simpa using this
/-- what is told of a choice at one moment -/
def hitAt (look : Int → Option (List File)) (not : Int) (c : Choice) (m : Int) : Bool :=
  match fileAt look c.name m with
  | some f => wholeB not f.data && (m == c.moment && decide ((⟨f.data.toArray⟩ : ByteArray) = ⟨c.data.toArray⟩))
  | none => false
theorem hit_all {look : Int → Option (List File)} {not : Int} {nums : List Int} {c : Choice} (h : NewOk look not c.name nums c) : nums.any (hitAt look not c) = c.whole := by
  cases hw : c.whole with
  | true =>
    obtain ⟨h1, h2⟩ := h.here hw
    rw [List.any_eq_true]
    refine ⟨c.moment, h1, ?_⟩
    unfold hitAt
    unfold goodAt at h2
    cases hf : fileAt look c.name c.moment with
    | none => rw [hf] at h2; cases h2
    | some f =>
      rw [hf] at h2
      simp only at h2 ⊢
      cases hq : wholeB not f.data with
      | false => rw [hq] at h2; cases h2
      | true => rw [hq] at h2; simp only [cond_true, Option.some.injEq] at h2; rw [h2]; simp
  | false =>
    rw [List.any_eq_false]
    intro m hm
    unfold hitAt
    cases hf : fileAt look c.name m with
    | none => simp
    | some f =>
      simp only
      cases hq : wholeB not f.data with
      | false => simp
      | true =>
        have := (h.last m hm f.data (by unfold goodAt; rw [hf]; simp [hq])).1
        rw [hw] at this; cases this
theorem atR_eq (o : Option (List File)) : atR o = .tup [files (o.getD []), boolA o.isSome] := by cases o <;> rfl
theorem setOf_some {x : ByteArray} : ∀ (l : List ByteArray) (m : List (ByteArray × Bool)), (x ∈ l ∨ (mget m x).getD false = true) → (mget (l.foldl (fun m s => mset m s true) m) x).getD false = true
  | [], m, h => by rcases h with h | h; simp at h; exact h
  | s :: r, m, h => by
    rw [List.foldl_cons]
    refine setOf_some r _ ?_
    rw [mget_mset]
    rcases h with h | h
    · rcases List.mem_cons.1 h with rfl | h
      · exact Or.inr (by simp)
      · exact Or.inl h
    · refine Or.inr ?_
      split
      · rfl
      · exact h
end Go.Proofs.Ytpoacfbobalpkaa.A

/- Layer 62: files in the order of names; what is told, bounded. -/
import Derived.Test.YtmbfmnhcahhciaaX62R
namespace Go.Proofs.Ytmbfmnhcahhciaa.A
open Go Go.RowKit Go.Maps Go.Sort
set_option linter.unusedVariables false
set_option linter.unusedSimpArgs false

def cleanS (l : List File) : List File := (namesF l).map fun s => ⟨s, (lookF l s).getD []⟩
theorem find_look {l : List File} {s : ByteArray} (h : s ∈ namesF l) : ∃ i y, l.findIdx? (fun f => decide (f.name = s)) = some i ∧ l[i]? = some y ∧ y = ⟨s, (lookF l s).getD []⟩ := by
  rw [names_in] at h
  unfold lookF at h ⊢
  cases hf : l.findIdx? (fun f => decide (f.name = s)) with
  | none =>
    rw [List.findIdx?_eq_none_iff] at hf
    simp [List.find?_isSome] at h
    obtain ⟨f, hf1, hf2⟩ := h
    have := hf f hf1
    simp [hf2] at this
  | some i =>
    obtain ⟨y, hy, hp⟩ := fidx_get hf
    refine ⟨i, y, rfl, hy, ?_⟩
    have h1 := List.findIdx?_eq_some_iff_getElem.1 hf
    obtain ⟨hi, h2, h3⟩ := h1
    have : l.find? (fun f => decide (f.name = s)) = some y := by
      have e : l = l.take i ++ y :: l.drop (i + 1) := by
        have h4 : l.drop i = y :: l.drop (i + 1) := by rw [List.drop_eq_getElem_cons hi, (List.getElem?_eq_some_iff.1 hy).2]
        rw [← h4, List.take_append_drop]
      rw [e, List.find?_append]
      have hn : (l.take i).find? (fun f => decide (f.name = s)) = none := by
        rw [List.find?_eq_none]
        intro x hx
        obtain ⟨j, hj⟩ := List.getElem?_of_mem hx
        rw [List.getElem?_take] at hj
        split at hj
        · rename_i hji
          obtain ⟨hjl, rfl⟩ := List.getElem?_eq_some_iff.1 hj
          simpa using h3 j hji
        · cases hj
      rw [hn]
      simp [hp]
    rw [this]
    simp at hp
    cases y
    simp at hp
    subst hp
    rfl
theorem clean_look (l : List File) (s : ByteArray) : lookF (cleanS l) s = lookF l s := by
  have key : ∀ (ns : List ByteArray), (s ∈ ns → ((ns.map fun s => (⟨s, (lookF l s).getD []⟩ : File)).find? (fun f => decide (f.name = s))).map (·.data) = some ((lookF l s).getD [])) ∧ (s ∉ ns → ((ns.map fun s => (⟨s, (lookF l s).getD []⟩ : File)).find? (fun f => decide (f.name = s))).map (·.data) = none) := by
    intro ns
    induction ns with
    | nil => simp
    | cons x ns ih =>
      rw [List.map_cons, List.find?_cons]
      by_cases hx : x = s
      · subst hx; simp
      · have h1 : ¬ s = x := fun e => hx e.symm
        have h2 : s ∈ x :: ns ↔ s ∈ ns := by simp [h1]
        simp only [hx, decide_false]
        exact ⟨fun h => ih.1 (h2.1 h), fun h => ih.2 (fun k => h (h2.2 k))⟩
  have := key (namesF l)
  show ((cleanS l).find? _).map _ = _
  rw [show cleanS l = (namesF l).map fun s => (⟨s, (lookF l s).getD []⟩ : File) from rfl]
  by_cases h : s ∈ namesF l
  · rw [this.1 h]
    obtain ⟨d, hd⟩ := Option.isSome_iff_exists.1 (names_in.1 h)
    rw [hd]; rfl
  · rw [this.2 h]
    cases hl : lookF l s with
    | none => rfl
    | some d => exact absurd (names_in.2 (by rw [hl]; rfl)) h
theorem names_ext {l l' : List File} (h : ∀ s, lookF l s = lookF l' s) : namesF l = namesF l' :=
  sortedS_ext (names_ok _) (names_ok _) (fun x => by rw [names_in, names_in, h])
theorem files_clean {m : SM} {l : List File} (h1 : (m.map (·.1)).Nodup) (h : ∀ s, mget m s = lookF l s) : filesM m = cleanS l := by
  unfold filesM cleanS
  have e : sortB (m.map (·.1)) = namesF l := sortedS_ext (sortB_sorted h1) (names_ok l) (fun x => by rw [sortB_mem, ← mget_some, h, names_in])
  rw [e]
  exact List.map_congr_left fun s _ => by rw [h]
theorem apply_clean (a b : List File) : ∃ m, applyM (firstM a) (OfF a b) = (0, m) ∧ (m.map (·.1)).Nodup ∧ (∀ s, mget m s = lookF b s) ∧ filesM m = cleanS b := by
  obtain ⟨m, h1, h2, h3⟩ := apply_of a b (tells_first a).nd (tells_first a).get
  exact ⟨m, h1, h2, h3, files_clean h2 h3⟩
theorem of_nil {a b : List File} (h : ∀ s, lookF a s = lookF b s) : OfF a b = [] := by
  have w1 : wentF a b = [] := by
    rw [List.eq_nil_iff_forall_not_mem]
    intro s hs
    obtain ⟨k1, k2⟩ := went_in.1 hs
    rw [h, k2] at k1; cases k1
  have w2 : wentF b a = [] := by
    rw [List.eq_nil_iff_forall_not_mem]
    intro s hs
    obtain ⟨k1, k2⟩ := went_in.1 hs
    rw [← h, k2] at k1; cases k1
  have hs : splitE a b = ([], [], []) := by unfold splitE splitF; rw [w1, w2]; rfl
  have hc : (namesF a).filterMap (chgF a b) = [] := by
    rw [List.filterMap_eq_nil_iff]
    intro s _
    unfold chgF
    rw [← h]
    cases lookF a s with
    | none => rfl
    | some d => simp
  rw [OfF, hs, hc]; rfl
theorem clean_len (l : List File) : (cleanS l).length ≤ l.length := by simp only [cleanS, List.length_map]; exact names_len l
theorem name_file {l : List File} {s : ByteArray} (h : s ∈ namesF l) : ∃ f ∈ l, f.name = s := by
  have := (namesF_mem s l []).1 h; simpa using this
theorem clean_name {l : List File} {n : Nat} (h : ∀ f ∈ l, f.name.size ≤ n) : ∀ f ∈ cleanS l, f.name.size ≤ n := fun f hf => by
  obtain ⟨s, hs, rfl⟩ := List.mem_map.1 hf
  obtain ⟨g, hg, rfl⟩ := name_file hs
  exact h g hg
theorem clean_data {l : List File} {n : Nat} (h : ∀ f ∈ l, f.data.length ≤ n) : ∀ f ∈ cleanS l, f.data.length ≤ n := fun f hf => by
  obtain ⟨s, hs, rfl⟩ := List.mem_map.1 hf
  exact look_len h s
theorem of_mem {a b : List File} {c : FC} (h : c ∈ OfF a b) :
    (c.kind = 4 ∧ c.data = [] ∧ c.name ∈ wentF a b ∧ c.to ∈ wentF b a) ∨ (c.kind = 2 ∧ c.data = [] ∧ c.to = E0 ∧ c.name ∈ wentF a b) ∨ (c.kind = 3 ∧ c.to = E0 ∧ c.name ∈ namesF a ∧ lookF b c.name = some c.data) ∨ (c.kind = 1 ∧ c.to = E0 ∧ c.name ∈ wentF b a ∧ c.data = (lookF b c.name).getD []) := by
  obtain ⟨R, G, came, h1, h2⟩ := rounds a b (wentF a b).length (Nat.le_refl _)
  have hfst := h2.fst
  rw [List.take_length] at hfst
  rw [OfF, show splitE a b = (came, R.map renF, G.map goneF) from h1] at h
  simp only [List.mem_append] at h
  rcases h with ((h | h) | h) | h
  · obtain ⟨p, hp, rfl⟩ := List.mem_map.1 h
    exact .inl ⟨rfl, rfl, hfst.mem_iff.1 (List.mem_append_left _ (List.mem_map.2 ⟨p, hp, rfl⟩)), h2.snd.mem_iff.1 (List.mem_append_left _ (List.mem_map.2 ⟨p, hp, rfl⟩))⟩
  · obtain ⟨s, hs, rfl⟩ := List.mem_map.1 h
    exact .inr (.inl ⟨rfl, rfl, rfl, hfst.mem_iff.1 (List.mem_append_right _ hs)⟩)
  · obtain ⟨s, hs, he⟩ := List.mem_filterMap.1 h
    unfold chgF at he
    cases hb : lookF b s with
    | none => rw [hb] at he; cases he
    | some d =>
      rw [hb] at he
      simp only at he
      cases hq : decide ((lookF a s).getD [] = d) <;> simp [hq] at he
      subst he
      exact .inr (.inr (.inl ⟨rfl, rfl, hs, hb⟩))
  · obtain ⟨s, hs, rfl⟩ := List.mem_map.1 h
    exact .inr (.inr (.inr ⟨rfl, rfl, h2.snd.mem_iff.1 (List.mem_append_right _ hs), rfl⟩))
theorem went_file {a b : List File} {s : ByteArray} (h : s ∈ wentF a b) : ∃ f ∈ a, f.name = s := name_file (names_in.2 (went_in.1 h).1)
theorem of_bound {a b : List File} (ha : ∀ f ∈ a, f.name.size ≤ 1000000) (hb : ∀ f ∈ b, f.name.size ≤ 1000000) (hd : ∀ f ∈ b, f.data.length ≤ 1000000) : ∀ c ∈ OfF a b, c.name.size ≤ 1000000 ∧ c.to.size ≤ 1000000 ∧ c.data.length ≤ 1000000 := fun c hc => by
  have e0 : E0.size ≤ 1000000 := by decide
  rcases of_mem hc with ⟨_, h2, h3, h4⟩ | ⟨_, h2, h3, h4⟩ | ⟨_, h2, h3, h4⟩ | ⟨_, h2, h3, h4⟩
  · obtain ⟨f, hf, e⟩ := went_file h3
    obtain ⟨g, hg, e'⟩ := went_file h4
    exact ⟨by rw [← e]; exact ha f hf, by rw [← e']; exact hb g hg, by rw [h2]; simp⟩
  · obtain ⟨f, hf, e⟩ := went_file h4
    exact ⟨by rw [← e]; exact ha f hf, by rw [h3]; exact e0, by rw [h2]; simp⟩
  · obtain ⟨f, hf, e⟩ := name_file h3
    have := look_len hd c.name
    rw [h4] at this
    exact ⟨by rw [← e]; exact ha f hf, by rw [h2]; exact e0, by simpa using this⟩
  · obtain ⟨f, hf, e⟩ := went_file h3
    exact ⟨by rw [← e]; exact hb f hf, by rw [h2]; exact e0, by rw [h4]; exact look_len hd _⟩
theorem of_len (a b : List File) : (OfF a b).length ≤ 2 * a.length + b.length := by
  obtain ⟨R, G, came, h1, h2⟩ := rounds a b (wentF a b).length (Nat.le_refl _)
  have hfst := h2.fst.length_eq
  have hsnd := h2.snd.length_eq
  have k1 := went_len a b
  have k2 := went_len b a
  have k3 := List.length_filterMap_le (chgF a b) (namesF a)
  have k4 := names_len a
  rw [OfF, show splitE a b = (came, R.map renF, G.map goneF) from h1]
  simp at hfst hsnd ⊢
  omega
end Go.Proofs.Ytmbfmnhcahhciaa.A

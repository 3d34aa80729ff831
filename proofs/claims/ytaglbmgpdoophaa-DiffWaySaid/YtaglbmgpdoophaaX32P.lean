/- Layer 32: plain laws of places, of what is taken. -/
import Derived.Test.YtaglbmgpdoophaaX32S
namespace Go.Proofs.Ytaglbmgpdoophaa.A
open Go Go.RowKit
set_option linter.unusedVariables false
set_option linter.unusedSimpArgs false

/-- all places of some maps -/
structure AllOf (m : List (PL × Int)) (ls : List (List Ent)) : Prop where
  nd : (m.map (·.1)).Nodup
  mem : ∀ p : PL, p ∈ m.map (·.1) ↔ ∃ l ∈ ls, ∃ e ∈ l, e.pl = p
  len : m.length ≤ ls.length * 1000
theorem allOf_nil : AllOf [] [] := ⟨by simp, by simp, by simp⟩
theorem shown_keys (l : List Ent) (p : PL) : p ∈ (shownM l).map (·.1) ↔ ∃ e ∈ l, e.pl = p := by
  have : ∀ (l : List Ent) (m : List (PL × Int)), p ∈ (l.foldl (fun m e => mset m e.pl e.num) m).map (·.1) ↔ p ∈ m.map (·.1) ∨ ∃ e ∈ l, e.pl = p := by
    intro l
    induction l with
    | nil => simp
    | cons e l ih =>
      intro m
      rw [List.foldl_cons, ih, mset_keys]
      constructor
      · rintro ((h | h) | ⟨x, hx, h⟩)
        · exact .inr ⟨e, by simp, h.symm⟩
        · exact .inl h
        · exact .inr ⟨x, by simp [hx], h⟩
      · rintro (h | ⟨x, hx, h⟩)
        · exact .inl (.inr h)
        · rcases List.mem_cons.1 hx with rfl | hx
          · exact .inl (.inl h.symm)
          · exact .inr ⟨x, hx, h⟩
  unfold shownM
  rw [this]; simp
theorem shown_len (l : List Ent) : (shownM l).length ≤ l.length := by
  have : ∀ (l : List Ent) (m : List (PL × Int)), (l.foldl (fun m e => mset m e.pl e.num) m).length ≤ m.length + l.length := by
    intro l
    induction l with
    | nil => simp
    | cons e l ih =>
      intro m
      rw [List.foldl_cons]
      refine Nat.le_trans (ih _) ?_
      have := mset_len (m := m) (k := e.pl) (v := e.num); simp; omega
  have := this l.reverse []; simpa [shownM] using this
theorem fold_keys (es : List (PL × Int)) : ∀ (m : List (PL × Int)), ((m.map (·.1)).Nodup → ((List.foldl (fun (m : List (PL × Int)) (e : PL × Int) => mset m e.1 e.2) m es).map (·.1)).Nodup) ∧
    (∀ p : PL, p ∈ (List.foldl (fun (m : List (PL × Int)) (e : PL × Int) => mset m e.1 e.2) m es).map (·.1) ↔ p ∈ m.map (·.1) ∨ p ∈ es.map (·.1)) ∧ (List.foldl (fun (m : List (PL × Int)) (e : PL × Int) => mset m e.1 e.2) m es).length ≤ m.length + es.length := by
  induction es with
  | nil => intro m; simp
  | cons e es ih =>
    intro m
    obtain ⟨h1, h2, h3⟩ := ih (mset m e.1 e.2)
    refine ⟨fun h => h1 (mset_nodup h), fun p => ?_, ?_⟩
    · rw [List.foldl_cons, h2, mset_keys, List.map_cons, List.mem_cons]
      constructor
      · rintro ((h | h) | h) <;> simp [h]
      · rintro (h | h | h) <;> simp [h]
    · rw [List.foldl_cons]
      refine Nat.le_trans h3 ?_
      have := mset_len (m := m) (k := e.1) (v := e.2); simp; omega
theorem allOf_step {m : List (PL × Int)} {ls : List (List Ent)} {l : List Ent} {es : List (PL × Int)} (h : AllOf m ls) (hp : es.Perm (shownM l)) (hl : l.length ≤ 1000) :
    AllOf (List.foldl (fun (m : List (PL × Int)) (e : PL × Int) => mset m e.1 e.2) m es) (ls ++ [l]) := by
  obtain ⟨h1, h2, h3⟩ := fold_keys es m
  refine ⟨h1 h.nd, fun p => ?_, ?_⟩
  · rw [h2, h.mem, (hp.map (·.1)).mem_iff, shown_keys]
    simp only [List.mem_append, List.mem_singleton]
    constructor
    · rintro (⟨l', h1, h2⟩ | h)
      · exact ⟨l', .inl h1, h2⟩
      · exact ⟨l, .inr rfl, h⟩
    · rintro ⟨l', h1 | rfl, h2⟩
      · exact .inl ⟨l', h1, h2⟩
      · exact .inr h2
  · have e1 := hp.length_eq
    have e2 := shown_len l
    have := h.len
    simp only [List.length_append, List.length_singleton, Nat.add_mul]; omega
theorem allOf_places {m : List (PL × Int)} {ls : List (List Ent)} (h : AllOf m ls) {kl : List PL} (hk : kl.Perm (m.map (·.1))) : kl.mergeSort (fun x y => !(ltOf cmpP) y x) = placesF ls :=
  sort_keys (hk.nodup_iff.2 h.nd) (places_sorted ls) (fun p => by rw [hk.mem_iff, h.mem, places_mem])
theorem fm_step {α β : Type} {f : α → Option β} {l : List α} {k : Nat} {x : α} (h : l[k]? = some x) : (l.take (k + 1)).filterMap f = (l.take k).filterMap f ++ (f x).toList := by
  rw [takeS h, List.filterMap_append]
  cases hf : f x <;> simp [hf]
theorem insAll_len (l : List Ent) : ∀ {acc : List PL}, (insAll acc l).length ≤ acc.length + l.length := by
  have hi : ∀ (acc : List PL) (p : PL), (insP acc p).length ≤ acc.length + 1 := by
    intro acc p
    induction acc with
    | nil => simp [insP]
    | cons x r ih => unfold insP; split; · simp; exact ih
                     · split <;> simp
  induction l with
  | nil => intro acc; simp [insAll]
  | cons e l ih =>
    intro acc
    have := ih (acc := insP acc e.pl)
    have h2 := hi acc e.pl
    simp only [insAll, List.foldl_cons] at this ⊢
    simp; omega
theorem places_len (ls : List (List Ent)) : (placesF ls).length ≤ (ls.map (·.length)).sum := by
  have : ∀ (ls : List (List Ent)) {acc : List PL}, (ls.foldl insAll acc).length ≤ acc.length + (ls.map (·.length)).sum := by
    intro ls
    induction ls with
    | nil => intro acc; simp
    | cons l ls ih =>
      intro acc
      rw [List.foldl_cons]
      have := ih (acc := insAll acc l)
      have h2 := insAll_len l (acc := acc)
      simp; omega
  simpa [placesF] using this ls (acc := [])
end Go.Proofs.Ytaglbmgpdoophaa.A

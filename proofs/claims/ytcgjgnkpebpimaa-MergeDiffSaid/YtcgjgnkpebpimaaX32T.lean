/- Layer 32: what the statements lean on, of lists alone. -/
import Derived.Test.YtcgjgnkpebpimaaX32G
namespace Go.Proofs.Ytcgjgnkpebpimaa.A
open Go Go.RowKit
set_option linter.unusedVariables false
set_option linter.unusedSimpArgs false

theorem alikeF_self (told : Int → Int → Bool) (a : Int) : alikeF told a a = true := by simp [alikeF]
theorem alikeF_comm {told : Int → Int → Bool} (h : ∀ a b, told a b = told b a) (a b : Int) : alikeF told a b = alikeF told b a := by
  unfold alikeF
  rw [h a b]
  by_cases e : a = b
  · subst e; rfl
  · have e' : ¬ b = a := fun x => e x.symm
    simp only [e, e', decide_false, Bool.false_or]
    cases decide (a = 0) <;> cases decide (b = 0) <;> rfl
theorem alikeN (a b : Int) : alikeF (fun _ _ => false) a b = decide (a = b) := by simp [alikeF]
theorem sameF_self (told : Int → Int → Bool) (a : List Ent) : sameF told a a = true := by simp [sameF, alikeF_self]
theorem takeAt_some {told : Int → Int → Bool} {x y z : List Ent} {p : PL} {e : Ent} (h : takeAt told x y z p = some e) :
    e = ⟨p.1, p.2, shows z p⟩ ∧ alikeF told (shows x p) (shows z p) = false ∧ alikeF told (shows x p) (shows y p) = true := by
  unfold takeAt at h
  cases h1 : alikeF told (shows x p) (shows z p) <;> cases h2 : alikeF told (shows x p) (shows y p) <;> simp [h1, h2] at h
  exact ⟨h.symm, rfl, rfl⟩
theorem clashAt_some {told : Int → Int → Bool} {x y z : List Ent} {p : PL} {c : Cla} (h : clashAt told x y z p = some c) :
    c = ⟨p.1, p.2, shows x p, shows y p, shows z p⟩ ∧ alikeF told (shows x p) (shows z p) = false ∧ alikeF told (shows x p) (shows y p) = false ∧ alikeF told (shows y p) (shows z p) = false := by
  unfold clashAt at h
  cases h1 : alikeF told (shows x p) (shows z p) <;> cases h2 : alikeF told (shows x p) (shows y p) <;> cases h3 : alikeF told (shows y p) (shows z p) <;> simp [h1, h2, h3] at h
  exact ⟨h.symm, rfl, rfl, rfl⟩
theorem takeF_mem {told : Int → Int → Bool} {x y z : List Ent} {e : Ent} (h : e ∈ takeF told x y z) : e.num = shows z e.pl ∧ alikeF told (shows x e.pl) (shows z e.pl) = false ∧ alikeF told (shows x e.pl) (shows y e.pl) = true := by
  obtain ⟨p, hp, he⟩ := List.mem_filterMap.1 h
  obtain ⟨rfl, h1, h2⟩ := takeAt_some he
  exact ⟨rfl, h1, h2⟩
theorem clashF_mem {told : Int → Int → Bool} {x y z : List Ent} {c : Cla} (h : c ∈ clashF told x y z) : alikeF told (shows x (c.vol, c.blk)) (shows y (c.vol, c.blk)) = false := by
  obtain ⟨p, hp, he⟩ := List.mem_filterMap.1 h
  obtain ⟨rfl, h1, h2, h3⟩ := clashAt_some he
  exact h2
theorem places_swap (a b c : List Ent) : placesF [a, c, b] = placesF [a, b, c] :=
  sortedP_ext (places_sorted _) (places_sorted _) (fun p => by
    rw [places_mem, places_mem]
    constructor
    · rintro ⟨l, hl, h⟩; exact ⟨l, by simp at hl ⊢; rcases hl with rfl | rfl | rfl <;> simp, h⟩
    · rintro ⟨l, hl, h⟩; exact ⟨l, by simp at hl ⊢; rcases hl with rfl | rfl | rfl <;> simp, h⟩)
def Cla.turn (c : Cla) : Cla := ⟨c.vol, c.blk, c.base, c.theirs, c.ours⟩
theorem clash_turn {told : Int → Int → Bool} (h : ∀ a b, told a b = told b a) (b o t : List Ent) : clashF told b t o = (clashF told b o t).map Cla.turn := by
  unfold clashF
  rw [places_swap, List.map_filterMap]
  congr 1
  funext p
  unfold clashAt
  rw [alikeF_comm h (shows t p) (shows o p)]
  cases alikeF told (shows b p) (shows o p) <;> cases alikeF told (shows b p) (shows t p) <;> cases alikeF told (shows o p) (shows t p) <;> rfl
theorem take_apart {told : Int → Int → Bool} {b o t : List Ent} {e f : Ent} (he : e ∈ takeF told b o t) (hf : f ∈ takeF told b t o) : ¬ e.pl = f.pl := fun h => by
  have h1 := (takeF_mem he).2.1
  have h2 := (takeF_mem hf).2.2
  rw [h, h2] at h1; cases h1
theorem clash_apart {told : Int → Int → Bool} {b o t : List Ent} {e : Ent} {c : Cla} (he : e ∈ takeF told b o t) (hc : c ∈ clashF told b o t) : ¬ e.pl = (c.vol, c.blk) := fun h => by
  have h1 := (takeF_mem he).2.2
  have h2 := clashF_mem hc
  rw [h, h2] at h1; cases h1
theorem fm3 {α β γ δ : Type} {f : α → Option β} {g : α → Option γ} {h : α → Option δ} (l : List α) (h1 : ∀ p, (f p).isSome = true → (g p).isSome = false ∧ (h p).isSome = false) (h2 : ∀ p, (g p).isSome = true → (h p).isSome = false) :
    (l.filterMap f).length + (l.filterMap g).length + (l.filterMap h).length ≤ l.length := by
  induction l with
  | nil => simp
  | cons p l ih =>
    have a1 := h1 p
    have a2 := h2 p
    simp only [List.filterMap_cons]
    cases hf : f p <;> cases hg : g p <;> cases hh : h p <;> simp [hf, hg, hh] at a1 a2 ⊢ <;> omega
theorem fm_le2 {α β γ δ : Type} {f : α → Option β} {g : α → Option γ} {h : α → Option δ} (l : List α) (h1 : ∀ p, (f p).isSome = true → (g p).isSome = true ∨ (h p).isSome = true) :
    (l.filterMap f).length ≤ (l.filterMap g).length + (l.filterMap h).length := by
  induction l with
  | nil => simp
  | cons p l ih =>
    have a1 := h1 p
    simp only [List.filterMap_cons]
    cases hf : f p <;> cases hg : g p <;> cases hh : h p <;> simp [hf, hg, hh] at a1 ⊢ <;> omega
theorem takeAt_isSome (told : Int → Int → Bool) (x y z : List Ent) (p : PL) : (takeAt told x y z p).isSome = (!alikeF told (shows x p) (shows z p) && alikeF told (shows x p) (shows y p)) := by
  unfold takeAt; cases alikeF told (shows x p) (shows z p) <;> cases alikeF told (shows x p) (shows y p) <;> rfl
theorem clashAt_isSome (told : Int → Int → Bool) (x y z : List Ent) (p : PL) : (clashAt told x y z p).isSome = (!alikeF told (shows x p) (shows z p) && (!alikeF told (shows x p) (shows y p) && !alikeF told (shows y p) (shows z p))) := by
  unfold clashAt; cases alikeF told (shows x p) (shows z p) <;> cases alikeF told (shows x p) (shows y p) <;> cases alikeF told (shows y p) (shows z p) <;> rfl
theorem turned_sum (told : Int → Int → Bool) (b o t : List Ent) : (takeF told b o t).length + (takeF told b t o).length + (clashF told b o t).length ≤ (placesF [b, o, t]).length := by
  unfold takeF clashF
  rw [places_swap b o t]
  refine fm3 _ (fun p h => ?_) (fun p h => ?_)
  · rw [takeAt_isSome] at h ⊢
    rw [clashAt_isSome]
    cases h1 : alikeF told (shows b p) (shows o p) <;> cases h2 : alikeF told (shows b p) (shows t p) <;> simp_all
  · rw [takeAt_isSome] at h
    rw [clashAt_isSome]
    cases h1 : alikeF told (shows b p) (shows o p) <;> cases h2 : alikeF told (shows b p) (shows t p) <;> simp_all
theorem take_clash_sum (told : Int → Int → Bool) (b o t : List Ent) : (takeF told b o t).length + (clashF told b o t).length ≤ b.length + o.length + t.length := by
  have h1 := turned_sum told b o t
  have h2 := places_len [b, o, t]
  simp at h2; omega

/-! ### what is shown, when what is taken is laid over -/
theorem shows_out {l : List Ent} {p : PL} (h : ∀ e ∈ l, ¬ e.pl = p) : shows l p = 0 := by
  unfold shows
  have : l.find? (fun e => decide (e.pl = p)) = none := List.find?_eq_none.2 (fun e he => by simpa using h e he)
  rw [this]; rfl
theorem find_fm {f : PL → Option Ent} (hf : ∀ p e, f p = some e → e.pl = p) (p : PL) : ∀ {pl : List PL}, pl.Nodup → (pl.filterMap f).find? (fun e => decide (e.pl = p)) = if p ∈ pl then f p else none
  | [], _ => by simp
  | q :: pl, h => by
    obtain ⟨hq, h'⟩ := List.nodup_cons.1 h
    have ih := find_fm hf p h'
    rw [List.filterMap_cons]
    by_cases e : q = p
    · subst e
      cases hfq : f q with
      | none => simp [hfq, ih, hq]
      | some x => simp [hf _ _ hfq]
    · have e' : ¬ p = q := fun x => e x.symm
      cases hfq : f q with
      | none => simp only [ih, List.mem_cons, e', false_or]
      | some x =>
        have : ¬ x.pl = p := by rw [hf _ _ hfq]; exact e
        simp only [List.find?_cons, this, decide_false, ih, List.mem_cons, e', false_or]
theorem sortedP_nodup {l : List PL} (h : SortedP l) : l.Nodup := h.imp (fun h e => by subst e; rw [ltP_irrefl] at h; cases h)
theorem shows_over (told : Int → Int → Bool) (x y z l : List Ent) (p : PL) : shows (takeF told x y z ++ l) p = if p ∈ placesF [x, y, z] ∧ (takeAt told x y z p).isSome = true then shows z p else shows l p := by
  have h := find_fm (f := takeAt told x y z) (fun p e he => by rw [(takeAt_some he).1]; rfl) p (sortedP_nodup (places_sorted [x, y, z]))
  unfold shows takeF
  rw [List.find?_append, h]
  by_cases hp : p ∈ placesF [x, y, z]
  · cases ht : takeAt told x y z p with
    | none => simp [hp]
    | some e =>
      have := (takeAt_some ht).1
      simp only [hp, if_true, Option.some_or, Option.map_some, Option.getD_some, this, Option.isSome_some, and_self]
      rfl
  · simp [hp]
theorem not_place {ls : List (List Ent)} {p : PL} (h : p ∉ placesF ls) {l : List Ent} (hl : l ∈ ls) : shows l p = 0 :=
  shows_out (fun e he hep => h ((places_mem ls).2 ⟨l, hl, e, he, hep⟩))
/-- nobody is told to be like another: what is shown with what is taken laid over -/
theorem now_eq (b o t : List Ent) (p : PL) : (shows b p = shows o p → shows (takeF (fun _ _ => false) b o t ++ o) p = shows t p) ∧ (¬ shows b p = shows o p → shows (takeF (fun _ _ => false) b o t ++ o) p = shows o p) := by
  rw [shows_over, takeAt_isSome]
  simp only [alikeN]
  by_cases hp : p ∈ placesF [b, o, t]
  · constructor
    · intro h
      by_cases hbt : shows b p = shows t p
      · simp [hp, hbt]; rw [← h]; exact hbt
      · simp [hp, hbt, h]
    · intro h; simp [h]
  · have h1 := not_place hp (l := b) (by simp)
    have h2 := not_place hp (l := o) (by simp)
    have h3 := not_place hp (l := t) (by simp)
    simp [hp, h1, h2, h3]
theorem one_same (b t : List Ent) : sameF (fun _ _ => false) (takeF (fun _ _ => false) b b t ++ b) t = true := by
  unfold sameF
  rw [List.all_eq_true]
  intro p _
  rw [alikeN, (now_eq b b t p).1 rfl]; simp
theorem one_clash (b t : List Ent) : clashF (fun _ _ => false) b b t = [] := by
  unfold clashF
  rw [List.filterMap_eq_nil_iff]
  intro p _
  simp [clashAt, alikeF_self]
theorem one_none (b t : List Ent) : takeF (fun _ _ => false) b t b = [] := by
  unfold takeF
  rw [List.filterMap_eq_nil_iff]
  intro p _
  simp [takeAt, alikeF_self]
theorem one_no (b t : List Ent) : clashF (fun _ _ => false) b t b = [] := by
  unfold clashF
  rw [List.filterMap_eq_nil_iff]
  intro p _
  simp [clashAt, alikeF_self]
theorem places_over (b o t : List Ent) : placesF [b, takeF (fun _ _ => false) b o t ++ o, t] = placesF [b, o, t] :=
  sortedP_ext (places_sorted _) (places_sorted _) (fun p => by
    rw [places_mem, places_mem]
    constructor
    · rintro ⟨l, hl, e, he, hp⟩
      simp only [List.mem_cons, List.not_mem_nil, or_false] at hl
      rcases hl with rfl | rfl | rfl
      · exact ⟨_, by simp, e, he, hp⟩
      · rcases List.mem_append.1 he with he | he
        · obtain ⟨q, hq, hs⟩ := List.mem_filterMap.1 he
          have : p = q := by rw [← hp, (takeAt_some hs).1]; rfl
          subst this
          exact (places_mem _).1 hq
        · exact ⟨o, by simp, e, he, hp⟩
      · exact ⟨_, by simp, e, he, hp⟩
    · rintro ⟨l, hl, e, he, hp⟩
      simp only [List.mem_cons, List.not_mem_nil, or_false] at hl
      rcases hl with rfl | rfl | rfl
      · exact ⟨_, by simp, e, he, hp⟩
      · exact ⟨takeF (fun _ _ => false) b l t ++ l, by simp, e, List.mem_append.2 (.inr he), hp⟩
      · exact ⟨_, by simp, e, he, hp⟩)
theorem again_nil (b o t : List Ent) : takeF (fun _ _ => false) b (takeF (fun _ _ => false) b o t ++ o) t = [] := by
  conv => lhs; unfold takeF
  rw [List.filterMap_eq_nil_iff]
  intro p _
  obtain ⟨h1, h2⟩ := now_eq b o t p
  change takeAt (fun _ _ => false) b (takeF (fun _ _ => false) b o t ++ o) t p = none
  unfold takeAt
  simp only [alikeN]
  by_cases h : shows b p = shows o p
  · rw [h1 h]
    by_cases hb : shows b p = shows t p <;> simp [hb]
  · rw [h2 h]; simp [h]
theorem still_eq (b o t : List Ent) : clashF (fun _ _ => false) b (takeF (fun _ _ => false) b o t ++ o) t = clashF (fun _ _ => false) b o t := by
  conv => lhs; unfold clashF
  rw [places_over]
  unfold clashF
  congr 1
  funext p
  obtain ⟨h1, h2⟩ := now_eq b o t p
  unfold clashAt
  simp only [alikeN]
  by_cases h : shows b p = shows o p
  · rw [h1 h]
    by_cases hb : shows b p = shows t p <;> simp [h, hb]
  · rw [h2 h]
theorem over_good {told : Int → Int → Bool} {b o t : List Ent} (ho : Good o) (ht : Good t) : Good (takeF told b o t ++ o) := fun e he => by
  rcases List.mem_append.1 he with he | he
  · rw [(takeF_mem he).1]; exact shows_good ht _
  · exact ho e he
theorem take_len (told : Int → Int → Bool) (b o t : List Ent) : (takeF told b o t).length ≤ b.length + o.length + t.length := by
  have := take_clash_sum told b o t; omega

/-! ### in order -/
theorem take_sorted (told : Int → Int → Bool) (b o t : List Ent) : (takeF told b o t).Pairwise (fun e f => ltP e.pl f.pl = true) := by
  unfold takeF
  refine List.pairwise_filterMap.2 ((places_sorted [b, o, t]).imp (fun {p q} h e he f hf => ?_))
  rw [(takeAt_some he).1, (takeAt_some hf).1]; exact h
theorem clash_sorted (told : Int → Int → Bool) (b o t : List Ent) : (clashF told b o t).Pairwise (fun e f => ltP (e.vol, e.blk) (f.vol, f.blk) = true) := by
  unfold clashF
  refine List.pairwise_filterMap.2 ((places_sorted [b, o, t]).imp (fun {p q} h e he f hf => ?_))
  rw [(clashAt_some he).1, (clashAt_some hf).1]; exact h
theorem pw_step {α : Type} {R : α → α → Prop} {l : List α} (h : l.Pairwise R) {k : Nat} {x y : α} (hx : l[k]? = some x) (hy : l[k + 1]? = some y) : R x y := by
  obtain ⟨h1, e1⟩ := List.getElem?_eq_some_iff.1 hx
  obtain ⟨h2, e2⟩ := List.getElem?_eq_some_iff.1 hy
  have := List.pairwise_iff_getElem.1 h k (k + 1) h1 h2 (by omega)
  rw [e1, e2] at this; exact this

/-! ### all are alike -/
theorem alikeT (a b : Int) : alikeF (fun _ _ => true) a b = (decide (a = b) || (!decide (a = 0) && !decide (b = 0))) := by simp [alikeF]
theorem all_clash (b o t : List Ent) : clashF (fun _ _ => true) b o t = [] := by
  unfold clashF
  rw [List.filterMap_eq_nil_iff]
  intro p _
  unfold clashAt
  simp only [alikeT]
  by_cases h1 : shows b p = 0 <;> by_cases h2 : shows o p = 0 <;> by_cases h3 : shows t p = 0 <;> simp_all
theorem all_take {b o t : List Ent} {e : Ent} (h : e ∈ takeF (fun _ _ => true) b o t) : ¬ (decide (shows b e.pl = 0) = decide (e.num = 0)) := by
  obtain ⟨h1, h2, _⟩ := takeF_mem h
  rw [h1]
  rw [alikeT] at h2
  by_cases g1 : shows b e.pl = 0 <;> by_cases g2 : shows t e.pl = 0 <;> simp_all
theorem all_less (b o t : List Ent) : (takeF (fun _ _ => true) b o t).length ≤ (takeF (fun _ _ => false) b o t).length + (clashF (fun _ _ => false) b o t).length := by
  unfold takeF clashF
  refine fm_le2 _ (fun p h => ?_)
  rw [takeAt_isSome, clashAt_isSome]
  rw [takeAt_isSome] at h
  simp only [alikeT, alikeN] at h ⊢
  by_cases h1 : shows b p = shows t p
  · simp [h1] at h
  · by_cases h2 : shows b p = shows o p
    · left; rw [← h2]; simp [h1]
    · right
      simp only [h1, h2, decide_false, Bool.not_false, Bool.true_and, Bool.false_or] at h ⊢
      by_cases h3 : shows o p = shows t p
      · rw [h3] at h
        by_cases g1 : shows b p = 0 <;> by_cases g2 : shows t p = 0 <;> simp [g1, g2] at h
      · simp [h3]
theorem all_same {a b : List Ent} (h : sameF (fun _ _ => false) a b = true) : sameF (fun _ _ => true) a b = true := by
  unfold sameF at *
  rw [List.all_eq_true] at *
  intro p hp
  have := h p hp
  rw [alikeN] at this
  rw [alikeT]; simp at this; simp [this]
end Go.Proofs.Ytcgjgnkpebpimaa.A

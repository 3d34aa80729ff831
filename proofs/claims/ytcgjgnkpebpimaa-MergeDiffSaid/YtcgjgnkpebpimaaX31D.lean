/- Layers 31 and 32: what theirs changed, as far as ours hasn't it, makes of ours what is taken. -/
import Derived.Test.YtcgjgnkpebpimaaX32T
import Derived.Test.YtcgjgnkpebpimaaX31S
namespace Go.Proofs.Ytcgjgnkpebpimaa.A
open Go Go.RowKit
set_option linter.unusedVariables false
set_option linter.unusedSimpArgs false

def selO (o : List Ent) (c : Chg) : Bool := decide (shows o c.pl = c.a)
theorem filt_step {α : Type} {p : α → Bool} {l : List α} {k : Nat} {x : α} (h : l[k]? = some x) : (l.take (k + 1)).filter p = (l.take k).filter p ++ (if p x = true then [x] else []) := by
  rw [takeS h, List.filter_append]
  by_cases hp : p x = true <;> simp [hp]
theorem sel_entries (b o t : List Ent) (pl : List PL) : (pl.filterMap (chgAt b t)).filter (selO o) = (pl.filter (fun p => decide (shows o p = shows b p))).filterMap (chgAt b t) := by
  induction pl with
  | nil => rfl
  | cons p pl ih =>
    rw [List.filterMap_cons, List.filter_cons]
    by_cases h : shows b p = shows t p
    · simp only [chgAt, h, if_true]
      split
      · rw [List.filterMap_cons]; simp only [chgAt, h, if_true]; exact ih
      · exact ih
    · have e : chgAt b t p = some ⟨p.1, p.2, shows b p, shows t p⟩ := by simp [chgAt, h]
      rw [e]
      simp only [List.filter_cons]
      by_cases h2 : shows o p = shows b p
      · have e2 : selO o ⟨p.1, p.2, shows b p, shows t p⟩ = true := decide_eq_true h2
        rw [if_pos e2, if_pos (decide_eq_true h2), List.filterMap_cons, e, ih]
      · have e2 : selO o ⟨p.1, p.2, shows b p, shows t p⟩ = false := decide_eq_false h2
        rw [if_neg (by simp [e2]), if_neg (by simp [h2]), ih]
theorem md_apply (b o t : List Ent) : ∃ l', applyF o ((entriesF b t).filter (selO o)) = some l' ∧ ∀ p, shows l' p = shows (takeF (fun _ _ => false) b o t ++ o) p := by
  unfold entriesF
  rw [sel_entries]
  obtain ⟨l', h1, h2⟩ := apply_at b t ((placesF [b, t]).filter (fun p => decide (shows o p = shows b p))) ((sorted_nodup (places_sorted _)).filter _) o (fun p hp => of_decide_eq_true (List.mem_filter.1 hp).2)
  refine ⟨l', h1, fun p => ?_⟩
  obtain ⟨g1, g2⟩ := now_eq b o t p
  rw [h2]
  by_cases he : shows b p = shows o p
  · rw [g1 he]
    by_cases hm : p ∈ placesF [b, t]
    · rw [if_pos (List.mem_filter.2 ⟨hm, decide_eq_true he.symm⟩)]
    · rw [if_neg (fun h => hm (List.mem_filter.1 h).1), ← he, places_out hm (l := b) (by simp), places_out hm (l := t) (by simp)]
  · rw [g2 he, if_neg (fun h => he (of_decide_eq_true (List.mem_filter.1 h).2).symm)]
theorem md_shows {l' x : List Ent} (h : ∀ p, shows l' p = shows x p) (p : PL) : shows (cleanF l') p = shows x p := by rw [shows_clean, h]
theorem md_same {l' x : List Ent} (h : ∀ p, shows l' p = shows x p) : sameF (fun _ _ => false) (cleanF l') x = true := by
  unfold sameF
  rw [List.all_eq_true]
  intro p _
  rw [md_shows h, alikeF_self]
theorem md_good {l' x : List Ent} (h : ∀ p, shows l' p = shows x p) (hx : Good x) : Good (cleanF l') := by
  intro e he
  obtain ⟨p, _, h2⟩ := List.mem_filterMap.1 he
  unfold cleanAt at h2
  by_cases hz : shows l' p = 0
  · rw [if_pos hz] at h2; cases h2
  · rw [if_neg hz] at h2; cases h2
    rw [h]; exact shows_good hx p
end Go.Proofs.Ytcgjgnkpebpimaa.A

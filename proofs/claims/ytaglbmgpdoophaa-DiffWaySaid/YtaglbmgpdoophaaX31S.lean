/- Layer 31: its data, what its functions compute, and laws of that. -/
import Derived.Test.YtaglbmgpdoophaaX32P
import Derived.Test.YtaglbmgpdoophaaZ
namespace Go.Proofs.Ytaglbmgpdoophaa.A
open Go Go.RowKit
set_option linter.unusedVariables false
set_option linter.unusedSimpArgs false

structure Chg where
  vol : Int
  blk : Int
  a : Int
  b : Int
  deriving DecidableEq
def Chg.cs (e : Chg) : List AV := [.v (.int .i64 e.vol), .v (.int .i64 e.blk), .v (.int .u64 e.a), .v (.int .u64 e.b)]
def Chg.ns (e : Chg) : List Int := [e.vol, e.blk, e.a, e.b]
def Chg.pl (e : Chg) : PL := (e.vol, e.blk)
def Chg.turn (e : Chg) : Chg := ⟨e.vol, e.blk, e.b, e.a⟩
def chgsA (l : List Chg) : AV := .sl 4 (l.map Chg.cs)

/-! ### maps that tell what entries tell -/
structure Tells (m : List (PL × Int)) (l : List Ent) : Prop where
  nd : (m.map (·.1)).Nodup
  get : ∀ p : PL, mget m p = (l.find? (fun e => decide (e.pl = p))).map (·.num)
  len : m.length ≤ l.length
theorem tells_nil : Tells [] [] := ⟨by simp, by simp [mget], by simp⟩
theorem tells_shows {m : List (PL × Int)} {l : List Ent} (h : Tells m l) (p : PL) : (mget m p).getD 0 = shows l p := by rw [h.get]; rfl
theorem tells_mem {m : List (PL × Int)} {l : List Ent} (h : Tells m l) (p : PL) : p ∈ m.map (·.1) ↔ ∃ e ∈ l, e.pl = p := by
  rw [← mget_some, h.get]
  simp [List.find?_isSome]
theorem tells_has {m : List (PL × Int)} {l : List Ent} {k : Nat} {x : Ent} (h : Tells m (l.take k)) (hx : l[k]? = some x) (hg : (mget m x.pl).isSome = true) : Tells m (l.take (k + 1)) := by
  refine ⟨h.nd, fun p => ?_, Nat.le_trans h.len (by simp; omega)⟩
  rw [takeS hx, List.find?_append, h.get]
  rw [h.get] at hg
  cases hf : (l.take k).find? (fun e => decide (e.pl = p)) with
  | some y => simp
  | none =>
    by_cases hp : x.pl = p
    · rw [hp, hf] at hg; simp at hg
    · simp [hp]
theorem tells_new {m : List (PL × Int)} {l : List Ent} {k : Nat} {x : Ent} (h : Tells m (l.take k)) (hx : l[k]? = some x) (hg : (mget m x.pl).isSome = false) : Tells (mset m x.pl x.num) (l.take (k + 1)) := by
  have hk := (List.getElem?_eq_some_iff.1 hx).1
  refine ⟨mset_nodup h.nd, fun p => ?_, ?_⟩
  · rw [takeS hx, List.find?_append, mget_mset, h.get]
    rw [h.get] at hg
    by_cases hp : x.pl = p
    · rw [hp] at hg
      cases hf : (l.take k).find? (fun e => decide (e.pl = p)) with
      | some y => rw [hf] at hg; simp at hg
      | none => simp [hp]
    · cases hf : (l.take k).find? (fun e => decide (e.pl = p)) <;> simp [hp]
  · have h1 := h.len
    have := mset_len (m := m) (k := x.pl) (v := x.num)
    simp at h1 ⊢; omega
theorem tells_set {m : List (PL × Int)} {l : List Ent} (h : Tells m l) (e : Ent) : Tells (mset m e.pl e.num) (e :: l) := by
  refine ⟨mset_nodup h.nd, fun p => ?_, ?_⟩
  · rw [mget_mset, h.get, List.find?_cons]
    by_cases hp : e.pl = p <;> simp [hp]
  · have h1 := h.len
    have := mset_len (m := m) (k := e.pl) (v := e.num)
    simp; omega
theorem tells_all {m : List (PL × Int)} {l : List Ent} (h : Tells m l) (hl : l.length ≤ 1000) : AllOf m [l] :=
  ⟨h.nd, fun p => by rw [tells_mem h]; simp, by have := h.len; simp; omega⟩
theorem tells_step {m my : List (PL × Int)} {ls : List (List Ent)} {l : List Ent} {es : List (PL × Int)} (h : AllOf m ls) (hp : es.Perm my) (ht : Tells my l) (hl : l.length ≤ 1000) :
    AllOf (List.foldl (fun (m : List (PL × Int)) (e : PL × Int) => mset m e.1 e.2) m es) (ls ++ [l]) := by
  obtain ⟨h1, h2, h3⟩ := fold_keys es m
  refine ⟨h1 h.nd, fun p => ?_, ?_⟩
  · rw [h2, h.mem, (hp.map (·.1)).mem_iff, tells_mem ht]
    simp only [List.mem_append, List.mem_singleton]
    constructor
    · rintro (⟨l', h1, h2⟩ | h)
      · exact ⟨l', .inl h1, h2⟩
      · exact ⟨l, .inr rfl, h⟩
    · rintro ⟨l', h1 | rfl, h2⟩
      · exact .inl ⟨l', h1, h2⟩
      · exact .inr h2
  · have e1 := hp.length_eq
    have e2 := ht.len
    have := h.len
    simp only [List.length_append, List.length_singleton, Nat.add_mul]; omega

/-! ### what the functions compute -/
def chgAt (x y : List Ent) (p : PL) : Option Chg := if shows x p = shows y p then none else some ⟨p.1, p.2, shows x p, shows y p⟩
def entriesF (x y : List Ent) : List Chg := (placesF [x, y]).filterMap (chgAt x y)
def applyS (s : Option (List Ent)) (x : Chg) : Option (List Ent) := s.bind fun l => if shows l x.pl = x.a then some (⟨x.vol, x.blk, x.b⟩ :: l) else none
def applyF (l : List Ent) (d : List Chg) : Option (List Ent) := d.foldl applyS (some l)
def cleanAt (l : List Ent) (p : PL) : Option Ent := if shows l p = 0 then none else some ⟨p.1, p.2, shows l p⟩
def cleanF (l : List Ent) : List Ent := (placesF [l]).filterMap (cleanAt l)
def turnF (d : List Chg) : List Chg := d.reverse.map Chg.turn

theorem apply_none (d : List Chg) : d.foldl applyS none = none := by
  induction d with
  | nil => rfl
  | cons x d ih => exact ih
theorem apply_step {l l' : List Ent} {d : List Chg} {k : Nat} {x : Chg} (hx : d[k]? = some x) (h : applyF l (d.take k) = some l') (he : shows l' x.pl = x.a) : applyF l (d.take (k + 1)) = some (⟨x.vol, x.blk, x.b⟩ :: l') := by
  unfold applyF at *
  rw [takeS hx, List.foldl_append, h]
  simp [applyS, he]
theorem apply_fail {l l' : List Ent} {d : List Chg} {k : Nat} {x : Chg} (hx : d[k]? = some x) (h : applyF l (d.take k) = some l') (he : ¬ shows l' x.pl = x.a) : applyF l d = none := by
  have e : d = d.take (k + 1) ++ d.drop (k + 1) := (List.take_append_drop _ _).symm
  unfold applyF at *
  rw [e, List.foldl_append, takeS hx, List.foldl_append, h]
  have h1 : List.foldl applyS (some l') [x] = none := by simp [applyS, he]
  rw [h1]; exact apply_none _
theorem apply_end {l l' : List Ent} {d : List Chg} {k : Nat} (hk : d.length ≤ k) (h : applyF l (d.take k) = some l') : applyF l d = some l' := by
  rwa [List.take_of_length_le hk] at h
theorem apply_app {l l' : List Ent} {d d' : List Chg} (h : applyF l d = some l') : applyF l (d ++ d') = applyF l' d' := by
  unfold applyF at *
  rw [List.foldl_append, h]
theorem apply_len {l l' : List Ent} {d : List Chg} (h : applyF l d = some l') : l'.length = l.length + d.length := by
  have : ∀ (d : List Chg) (l : List Ent), d.foldl applyS (some l) = some l' → l'.length = l.length + d.length := by
    intro d
    induction d with
    | nil => intro l h; simp at h; subst h; simp
    | cons x d ih =>
      intro l h
      rw [List.foldl_cons] at h
      by_cases he : shows l x.pl = x.a
      · rw [show applyS (some l) x = some (⟨x.vol, x.blk, x.b⟩ :: l) from by simp [applyS, he]] at h
        have := ih _ h
        simp at this ⊢; omega
      · rw [show applyS (some l) x = none from by simp [applyS, he], apply_none] at h; cases h
  exact this d l h
theorem entries_len (x y : List Ent) : (entriesF x y).length ≤ x.length + y.length := by
  have h1 := places_len [x, y]
  have h2 := List.length_filterMap_le (chgAt x y) (placesF [x, y])
  simp at h1; unfold entriesF; omega
theorem clean_len (l : List Ent) : (cleanF l).length ≤ l.length := by
  have h1 := places_len [l]
  have h2 := List.length_filterMap_le (cleanAt l) (placesF [l])
  simp at h1; unfold cleanF; omega

/-! ### laws -/
theorem shows_cons (e : Ent) (l : List Ent) (p : PL) : shows (e :: l) p = if e.pl = p then e.num else shows l p := by
  unfold shows
  rw [List.find?_cons]
  by_cases h : e.pl = p <;> simp [h]
theorem shows_zero {l : List Ent} {p : PL} (h : ¬ ∃ e ∈ l, e.pl = p) : shows l p = 0 := by
  unfold shows
  have : l.find? (fun e => decide (e.pl = p)) = none := List.find?_eq_none.2 fun e he => by
    simp only [decide_eq_true_eq]; exact fun hp => h ⟨e, he, hp⟩
  rw [this]; rfl
theorem places_out {ls : List (List Ent)} {p : PL} (h : p ∉ placesF ls) {l : List Ent} (hl : l ∈ ls) : shows l p = 0 :=
  shows_zero fun ⟨e, he, hp⟩ => h ((places_mem ls).2 ⟨l, hl, e, he, hp⟩)
theorem sorted_nodup {l : List PL} (h : SortedP l) : l.Nodup := List.Pairwise.imp (fun {a b} hab => by intro e; rw [e, ltP_irrefl] at hab; cases hab) h
theorem clean_eq (l : List Ent) : cleanF l = ((placesF [l]).filter (fun p => !decide (shows l p = 0))).map (fun p => ⟨p.1, p.2, shows l p⟩) := by
  unfold cleanF
  induction placesF [l] with
  | nil => rfl
  | cons p r ih =>
    rw [List.filterMap_cons, List.filter_cons]
    by_cases h : shows l p = 0
    · simp only [cleanAt, h, if_true, decide_true, Bool.not_true, Bool.false_eq_true, if_false]
      exact ih
    · simp only [cleanAt, h, if_false, decide_false, Bool.not_false, if_true, List.map_cons]
      rw [← ih]
theorem clean_ext {l l' : List Ent} (h : ∀ p, shows l p = shows l' p) : cleanF l = cleanF l' := by
  rw [clean_eq, clean_eq]
  have e : (placesF [l]).filter (fun p => !decide (shows l p = 0)) = (placesF [l']).filter (fun p => !decide (shows l' p = 0)) := by
    refine sortedP_ext (List.Pairwise.filter _ (places_sorted _)) (List.Pairwise.filter _ (places_sorted _)) (fun p => ?_)
    simp only [List.mem_filter, h p, and_congr_left_iff]
    intro hp
    simp only [Bool.not_eq_true', decide_eq_false_iff_not] at hp
    constructor
    · intro _
      by_cases hm : p ∈ placesF [l']
      · exact hm
      · exact absurd (places_out hm (by simp)) hp
    · intro _
      by_cases hm : p ∈ placesF [l]
      · exact hm
      · exact absurd ((h p).symm.trans (places_out hm (by simp))) hp
  rw [e]
  refine List.map_congr_left fun p _ => ?_
  rw [h p]
theorem find_map_pl {f : PL → Int} (p : PL) : ∀ (l : List PL), (l.map (fun p => (⟨p.1, p.2, f p⟩ : Ent))).find? (fun e => decide (e.pl = p)) = if p ∈ l then some ⟨p.1, p.2, f p⟩ else none
  | [] => by simp
  | q :: l => by
    rw [List.map_cons, List.find?_cons, find_map_pl p l]
    by_cases h : q = p
    · subst h; simp [Ent.pl]
    · have h1 : ¬ p = q := fun e => h e.symm
      have h2 : ¬ ((⟨q.1, q.2, f q⟩ : Ent).pl = p) := h
      simp [h1, h2]
theorem shows_clean (l : List Ent) (p : PL) : shows (cleanF l) p = shows l p := by
  rw [clean_eq]
  show ((List.find? (fun e : Ent => decide (e.pl = p)) (List.map _ _)).map (fun e : Ent => e.num)).getD 0 = shows l p
  rw [find_map_pl (f := shows l)]
  by_cases h : p ∈ (placesF [l]).filter (fun p => !decide (shows l p = 0))
  · rw [if_pos h]; rfl
  · rw [if_neg h]
    simp only [List.mem_filter, not_and, Bool.not_eq_true, Bool.not_eq_false', decide_eq_true_eq] at h
    by_cases hm : p ∈ placesF [l]
    · rw [h hm]; rfl
    · rw [places_out hm (l := l) (by simp)]; rfl
theorem apply_at (a b : List Ent) : ∀ (pl : List PL), pl.Nodup → ∀ l : List Ent, (∀ p ∈ pl, shows l p = shows a p) →
    ∃ l', applyF l (pl.filterMap (chgAt a b)) = some l' ∧ ∀ p, shows l' p = if p ∈ pl then shows b p else shows l p
  | [], _, l, _ => ⟨l, rfl, fun p => by simp⟩
  | q :: pl, hnd, l, hs => by
    have hq : q ∉ pl := (List.nodup_cons.1 hnd).1
    have hq0 := hs q (by simp)
    by_cases h : shows a q = shows b q
    · obtain ⟨l', h1, h2⟩ := apply_at a b pl (List.nodup_cons.1 hnd).2 l (fun p hp => hs p (by simp [hp]))
      refine ⟨l', by rw [List.filterMap_cons]; simp only [chgAt, h, if_true]; exact h1, fun p => ?_⟩
      rw [h2]
      by_cases hp : p ∈ pl
      · simp [hp]
      · by_cases hpq : p = q
        · subst hpq; simp [hp, hq0, h]
        · simp [hp, hpq]
    · obtain ⟨l', h1, h2⟩ := apply_at a b pl (List.nodup_cons.1 hnd).2 (⟨q.1, q.2, shows b q⟩ :: l) (fun p hp => by
        rw [shows_cons, if_neg (fun e => hq (by rw [show q = p from e]; exact hp))]; exact hs p (by simp [hp]))
      refine ⟨l', ?_, fun p => ?_⟩
      · rw [List.filterMap_cons]
        simp only [chgAt, h, if_false]
        have : applyF l (⟨q.1, q.2, shows a q, shows b q⟩ :: List.filterMap (chgAt a b) pl) = applyF (⟨q.1, q.2, shows b q⟩ :: l) (List.filterMap (chgAt a b) pl) := by
          unfold applyF
          rw [List.foldl_cons]
          have : applyS (some l) ⟨q.1, q.2, shows a q, shows b q⟩ = some (⟨q.1, q.2, shows b q⟩ :: l) := by simp [applyS, Chg.pl, hq0]
          rw [this]
        exact this.trans h1
      · rw [h2, shows_cons]
        by_cases hp : p ∈ pl
        · simp [hp]
        · by_cases hpq : q = p
          · subst hpq; simp [Ent.pl]
          · have h3 : ¬ p = q := fun e => hpq e.symm
            have h4 : ¬ ((⟨q.1, q.2, shows b q⟩ : Ent).pl = p) := hpq
            simp [hp, h3, h4]
theorem apply_entries (l a b : List Ent) (h : ∀ p, shows l p = shows a p) : ∃ l', applyF l (entriesF a b) = some l' ∧ ∀ p, shows l' p = shows b p := by
  obtain ⟨l', h1, h2⟩ := apply_at a b (placesF [a, b]) (sorted_nodup (places_sorted _)) l (fun p _ => h p)
  refine ⟨l', h1, fun p => ?_⟩
  rw [h2]
  by_cases hm : p ∈ placesF [a, b]
  · simp [hm]
  · rw [if_neg hm, h, places_out hm (l := a) (by simp), places_out hm (l := b) (by simp)]
theorem turn_at (a b : List Ent) (p : PL) : (chgAt a b p).map Chg.turn = chgAt b a p := by
  unfold chgAt
  by_cases h : shows a p = shows b p
  · rw [if_pos h, if_pos h.symm]; rfl
  · rw [if_neg h, if_neg (fun e => h e.symm)]; rfl
theorem turn_entries (a b : List Ent) : turnF (entriesF a b) = (placesF [a, b]).reverse.filterMap (chgAt b a) := by
  unfold turnF entriesF
  rw [← List.filterMap_reverse, List.map_filterMap]
  congr 1; funext p; exact turn_at a b p
theorem apply_turned (l a b : List Ent) (h : ∀ p, shows l p = shows b p) : ∃ l', applyF l (turnF (entriesF a b)) = some l' ∧ ∀ p, shows l' p = shows a p := by
  rw [turn_entries]
  obtain ⟨l', h1, h2⟩ := apply_at b a (placesF [a, b]).reverse ((List.reverse_perm _).nodup_iff.2 (sorted_nodup (places_sorted _))) l (fun p _ => h p)
  refine ⟨l', h1, fun p => ?_⟩
  rw [h2]
  by_cases hm : p ∈ placesF [a, b]
  · simp [hm]
  · rw [if_neg (by simpa using hm), h, places_out hm (l := a) (by simp), places_out hm (l := b) (by simp)]
theorem entries_nil {a b : List Ent} (h : ∀ p, shows a p = shows b p) : entriesF a b = [] := by
  unfold entriesF
  rw [List.filterMap_eq_nil_iff]
  intro p _
  simp [chgAt, h p]
theorem turn_turn (d : List Chg) : turnF (turnF d) = d := by
  simp only [turnF, List.map_reverse, List.reverse_reverse, List.map_map]
  exact (List.map_congr_left (fun x _ => rfl)).trans (List.map_id d)
theorem places_two (a b : List Ent) : placesF [b, a] = placesF [a, b] :=
  sortedP_ext (places_sorted _) (places_sorted _) (fun p => by
    rw [places_mem, places_mem]
    constructor
    · rintro ⟨l, hl, h⟩; exact ⟨l, by simp at hl ⊢; rcases hl with rfl | rfl <;> simp, h⟩
    · rintro ⟨l, hl, h⟩; exact ⟨l, by simp at hl ⊢; rcases hl with rfl | rfl <;> simp, h⟩)
theorem entries_back (a b : List Ent) : entriesF b a = (entriesF a b).map Chg.turn := by
  unfold entriesF
  rw [places_two, List.map_filterMap]
  congr 1; funext p; exact (turn_at a b p).symm
theorem places_one (a b : List Ent) : placesF [a ++ b] = placesF [a, b] := by
  simp [placesF, insAll, List.foldl_append]
end Go.Proofs.Ytaglbmgpdoophaa.A

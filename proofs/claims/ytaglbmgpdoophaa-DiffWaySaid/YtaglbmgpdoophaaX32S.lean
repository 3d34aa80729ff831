/- Layer 32: its data, and what its functions compute. -/
import Derived.Test.YtaglbmgpdoophaaQ
import Derived.Test.YtaglbmgpdoophaaIV
namespace Go.Proofs.Ytaglbmgpdoophaa.A
open Go Go.RowKit
set_option linter.unusedVariables false
set_option linter.unusedSimpArgs false

abbrev PL := Int × Int
def PL.cs (p : PL) : List AV := [.v (.int .i64 p.1), .v (.int .i64 p.2)]
def plA (p : PL) : AV := .agg (PL.cs p)
def PL.vs (p : PL) : List Value := [.int .i64 p.1, .int .i64 p.2]
def ekP (p : PL) : Value := ekL .i64 [p.1, p.2]
def plsA (l : List PL) : AV := .sl 2 (l.map PL.cs)
def numA (n : Int) : AV := .v (.int .u64 n)
def bA (b : Bool) : AV := .v (.bool b)
theorem isVal_pl (p : PL) : IsVal (plA p) (ekP p) := isVal_agg (areVals_v (PL.vs p))
theorem areVals_pl (p : PL) : AreVals (PL.cs p) (PL.vs p) := areVals_v (PL.vs p)
structure Ent where
  vol : Int
  blk : Int
  num : Int
  deriving DecidableEq
def Ent.cs (e : Ent) : List AV := [.v (.int .i64 e.vol), .v (.int .i64 e.blk), .v (.int .u64 e.num)]
def Ent.ns (e : Ent) : List Int := [e.vol, e.blk, e.num]
def Ent.pl (e : Ent) : PL := (e.vol, e.blk)
def entsA (l : List Ent) : AV := .sl 3 (l.map Ent.cs)
structure Cla where
  vol : Int
  blk : Int
  base : Int
  ours : Int
  theirs : Int
  deriving DecidableEq
def Cla.cs (e : Cla) : List AV := [.v (.int .i64 e.vol), .v (.int .i64 e.blk), .v (.int .u64 e.base), .v (.int .u64 e.ours), .v (.int .u64 e.theirs)]
def Cla.ns (e : Cla) : List Int := [e.vol, e.blk, e.base, e.ours, e.theirs]
def clasA (l : List Cla) : AV := .sl 5 (l.map Cla.cs)
/-- entries whose numbers are ones of 64 bits, without a sign -/
def Good (l : List Ent) : Prop := ∀ e ∈ l, 0 ≤ e.num ∧ e.num < 18446744073709551616

/-! ### what a list shows -/
def shows (l : List Ent) (p : PL) : Int := ((l.find? (fun e => decide (e.pl = p))).map (·.num)).getD 0
def shownM (l : List Ent) : List (PL × Int) := l.reverse.foldl (fun m e => mset m e.pl e.num) []
theorem fold_mget (l : List Ent) : ∀ (m : List (PL × Int)) (p : PL), mget (l.foldl (fun m e => mset m e.pl e.num) m) p = ((l.reverse.find? (fun e => decide (e.pl = p))).map (·.num)).or (mget m p) := by
  induction l with
  | nil => intro m p; simp
  | cons e l ih =>
    intro m p
    rw [List.foldl_cons, ih, List.reverse_cons, List.find?_append]
    cases h : l.reverse.find? (fun e => decide (e.pl = p)) with
    | some x => simp
    | none =>
      by_cases he : e.pl = p
      · simp [he, mget_mset]
      · have : ¬ p = e.pl := fun h => he h.symm
        simp [he, mget_mset, this]
theorem shown_get (l : List Ent) (p : PL) : (mget (shownM l) p).getD 0 = shows l p := by
  unfold shownM shows
  rw [fold_mget, List.reverse_reverse]
  cases l.find? (fun e => decide (e.pl = p)) <;> simp [mget]

/-! ### a loop over a map -/
def Vis {K α : Type} (m : List (K × α)) (bs : List Nat) (es : List (K × α)) (seen : List Nat) : Prop :=
  ∃ ps : List Nat, ps.Nodup ∧ ps.map (fun i => m[i]?) = es.map some ∧ ps.map (fun i => bs[i]?) = seen.map some
theorem vis_start {K α : Type} {m : List (K × α)} {bs : List Nat} : Vis m bs [] [] := ⟨[], List.nodup_nil, rfl, rfl⟩
theorem vis_step {K α : Type} {m : List (K × α)} {bs : List Nat} {es : List (K × α)} {seen : List Nat} (h : Vis m bs es seen) {q b : Nat} {e : K × α} (he : m[q]? = some e) (hb : bs[q]? = some b) (hn : b ∉ seen) : Vis m bs (es ++ [e]) (seen ++ [b]) := by
  obtain ⟨ps, h1, h2, h3⟩ := h
  refine ⟨ps ++ [q], ?_, by simp [h2, he], by simp [h3, hb]⟩
  rw [List.nodup_append]
  refine ⟨h1, by simp, ?_⟩
  intro x hx y hy e
  simp at hy; subst hy e
  have : bs[x]? ∈ seen.map some := by rw [← h3]; exact List.mem_map.2 ⟨x, hx, rfl⟩
  rw [hb] at this
  simp at this; exact hn this
theorem vis_mem {K α : Type} {m : List (K × α)} {bs : List Nat} {es : List (K × α)} {seen : List Nat} {ps : List Nat} (h2 : ps.map (fun i => m[i]?) = es.map some) : ∀ i ∈ ps, i < m.length := fun i hi => by
  have : m[i]? ∈ es.map some := by rw [← h2]; exact List.mem_map.2 ⟨i, hi, rfl⟩
  obtain ⟨e, _, he⟩ := List.mem_map.1 this
  exact (List.getElem?_eq_some_iff.1 he.symm).1
theorem nodup_sub : ∀ {ps l : List Nat}, ps.Nodup → (∀ i ∈ ps, i ∈ l) → ∃ r, (ps ++ r).Perm l
  | [], l, _, _ => ⟨l, List.Perm.refl _⟩
  | p :: ps, l, h1, h2 => by
    obtain ⟨hp, h1'⟩ := List.nodup_cons.1 h1
    have hl := List.perm_cons_erase (h2 p (by simp))
    obtain ⟨r, hr⟩ := nodup_sub h1' (l := l.erase p) (fun i hi => (List.mem_erase_of_ne (fun e => hp (by subst e; exact hi))).2 (h2 i (by simp [hi])))
    exact ⟨r, (hr.cons p).trans hl.symm⟩
theorem nodup_len {ps : List Nat} {n : Nat} (h1 : ps.Nodup) (h2 : ∀ i ∈ ps, i < n) : ps.length ≤ n := by
  obtain ⟨r, hr⟩ := nodup_sub h1 (l := List.range n) (fun i hi => List.mem_range.2 (h2 i hi))
  have := hr.length_eq; simp at this; omega
theorem vis_len {K α : Type} {m : List (K × α)} {bs : List Nat} {es : List (K × α)} {seen : List Nat} (h : Vis m bs es seen) : es.length ≤ m.length := by
  obtain ⟨ps, h1, h2, h3⟩ := h
  have := nodup_len h1 (vis_mem (bs := bs) (seen := seen) h2)
  have e := congrArg List.length h2; simp at e; omega
theorem vis_lt {K α : Type} {m : List (K × α)} {bs : List Nat} {es : List (K × α)} {seen : List Nat} (h : Vis m bs es seen) {q b : Nat} {e : K × α} (he : m[q]? = some e) (hb : bs[q]? = some b) (hn : b ∉ seen) : es.length < m.length := by
  have := vis_len (vis_step h he hb hn); simp at this; omega
theorem vis_end {K α : Type} {m : List (K × α)} {bs : List Nat} {es : List (K × α)} {seen : List Nat} (h : Vis m bs es seen) (hl : bs.length = m.length) (hnd : bs.Nodup) (hall : ∀ b ∈ bs, b ∈ seen) : es.Perm m := by
  obtain ⟨ps, h1, h2, h3⟩ := h
  have hlt := vis_mem (bs := bs) (seen := seen) h2
  have hp : ps.Perm (List.range m.length) := by
    suffices hsub : ∀ i ∈ List.range m.length, i ∈ ps by
      obtain ⟨r, hr⟩ := nodup_sub h1 (l := List.range m.length) (fun i hi => List.mem_range.2 (hlt i hi))
      obtain ⟨r', hr'⟩ := nodup_sub List.nodup_range hsub
      have e1 := hr.length_eq
      have e2 := hr'.length_eq
      simp only [List.length_append] at e1 e2
      have : r = [] := List.eq_nil_of_length_eq_zero (by omega)
      subst this; simpa using hr
    intro i hi
    have hi' : i < bs.length := by rw [hl]; simpa using hi
    have : bs[i]? ∈ seen.map some := by rw [List.getElem?_eq_getElem hi']; exact List.mem_map.2 ⟨_, hall _ (List.getElem_mem hi'), rfl⟩
    rw [← h3] at this
    obtain ⟨j, hj, he⟩ := List.mem_map.1 this
    have hjl : j < bs.length := by rw [hl]; exact hlt j hj
    rw [List.getElem?_eq_getElem hjl, List.getElem?_eq_getElem hi', Option.some.injEq] at he
    have : j = i := (List.getElem_inj hnd).1 he
    subst this; exact hj
  have h4 : (es.map some).Perm ((List.range m.length).map (fun i => m[i]?)) := by rw [← h2]; exact hp.map _
  have h5 : (List.range m.length).map (fun i => m[i]?) = m.map some := by
    apply List.ext_getElem?
    intro i
    by_cases hi : i < m.length
    · simp [hi]
    · simp [List.getElem?_eq_none (Nat.le_of_not_lt hi), hi]
  rw [h5] at h4
  have := h4.filterMap id
  simpa using this
theorem encM_at {K α : Type} {ek : K → Value} {ev : α → AV} {m : List (K × α)} {q : Nat} {p : Value × AV} (h : (encM ek ev m)[q]? = some p) : ∃ e, m[q]? = some e ∧ p = (ek e.1, ev e.2) := by
  unfold encM at h
  rw [List.getElem?_map] at h
  cases he : m[q]? with
  | none => simp [he] at h
  | some e => simp [he] at h; exact ⟨e, rfl, h.symm⟩

/-- a variable in a box that holds a slice that grows -/
def GrowB (b sz e : Nat) (l : List (List AV)) (wo : List OE) : Prop :=
  (l = [] ∧ wo = [⟨b, true, .box [.v (.slice none 0 0)]⟩]) ∨ (l ≠ [] ∧ ∃ g cap, wo = [⟨g, true, .buf sz l cap e⟩, ⟨b, true, .box [.v (.slice (some ⟨g, 0, none⟩) l.length cap)]⟩])
/-- what a slice that has grown is handed back as -/
def GrowR (sz e : Nat) (l : List (List AV)) (r : AV) (n : List OE) : Prop :=
  (l = [] ∧ r = .v (.slice none 0 0) ∧ n = []) ∨ (l ≠ [] ∧ ∃ g cap, r = .v (.slice (some ⟨g, 0, none⟩) l.length cap) ∧ n = [⟨g, true, .buf sz l cap e⟩])

/-! ### the order of places -/
def ltP (a b : PL) : Bool := decide (a.1 < b.1) || (decide (a.1 = b.1) && decide (a.2 < b.2))
theorem ltP_iff {a b : PL} : ltP a b = true ↔ a.1 < b.1 ∨ (a.1 = b.1 ∧ a.2 < b.2) := by simp [ltP]
theorem ltP_irrefl (a : PL) : ltP a a = false := by simp [ltP]
theorem ltP_trans {a b c : PL} (h1 : ltP a b = true) (h2 : ltP b c = true) : ltP a c = true := by rw [ltP_iff] at *; omega
theorem ltP_asymm {a b : PL} (h : ltP a b = true) : ltP b a = false := by
  cases hb : ltP b a with
  | false => rfl
  | true => have := ltP_trans h hb; rw [ltP_irrefl] at this; cases this
theorem ltP_tri {a b : PL} (h1 : ltP a b = false) (h2 : ltP b a = false) : a = b := by
  have h1' : ¬ (ltP a b = true) := by simp [h1]
  have h2' : ¬ (ltP b a = true) := by simp [h2]
  rw [ltP_iff] at h1' h2'
  apply Prod.ext <;> omega
def SortedP (l : List PL) : Prop := l.Pairwise (fun a b => ltP a b = true)
def insP : List PL → PL → List PL
  | [], n => [n]
  | x :: r, n => if ltP x n then x :: insP r n else if x = n then x :: r else n :: x :: r
theorem insP_mem {n x : PL} : ∀ {l : List PL}, x ∈ insP l n ↔ x = n ∨ x ∈ l
  | [] => by simp [insP]
  | y :: r => by
    unfold insP
    split
    · rw [List.mem_cons, insP_mem (l := r), List.mem_cons]
      constructor
      · rintro (h | h | h) <;> simp [h]
      · rintro (h | h | h) <;> simp [h]
    · split
      · rename_i e; subst e
        constructor
        · exact fun h => Or.inr h
        · rintro (h | h)
          · subst h; simp
          · exact h
      · simp
theorem insP_sorted {n : PL} : ∀ {l : List PL}, SortedP l → SortedP (insP l n)
  | [], _ => by simp [insP, SortedP]
  | y :: r, h => by
    have h1 := List.pairwise_cons.1 h
    unfold insP
    split
    · rename_i hl
      refine List.pairwise_cons.2 ⟨fun z hz => ?_, insP_sorted h1.2⟩
      rcases insP_mem.1 hz with rfl | hz
      · exact hl
      · exact h1.1 z hz
    · rename_i hl
      split
      · exact h
      · rename_i hne
        have hny : ltP n y = true := by
          cases hb : ltP n y with
          | true => rfl
          | false => exact absurd (ltP_tri (by simpa using hl) hb) hne
        refine List.pairwise_cons.2 ⟨fun z hz => ?_, h⟩
        rcases List.mem_cons.1 hz with rfl | hz
        · exact hny
        · exact ltP_trans hny (h1.1 z hz)
theorem sortedP_ext : ∀ {l l' : List PL}, SortedP l → SortedP l' → (∀ x, x ∈ l ↔ x ∈ l') → l = l'
  | [], [], _, _, _ => rfl
  | [], y :: r, _, _, h => by have := (h y).2 (by simp); simp at this
  | y :: r, [], _, _, h => by have := (h y).1 (by simp); simp at this
  | x :: r, y :: s, h1, h2, h => by
    have p1 := List.pairwise_cons.1 h1
    have p2 := List.pairwise_cons.1 h2
    have hxy : x = y := by
      rcases List.mem_cons.1 ((h x).1 (by simp)) with e | hx
      · exact e
      · rcases List.mem_cons.1 ((h y).2 (by simp)) with e | hy
        · exact e.symm
        · have a1 := p2.1 x hx
          have a2 := p1.1 y hy
          rw [ltP_asymm a1] at a2; cases a2
    subst hxy
    have hnr : x ∉ r := fun hx => by have := p1.1 x hx; rw [ltP_irrefl] at this; cases this
    have hns : x ∉ s := fun hx => by have := p2.1 x hx; rw [ltP_irrefl] at this; cases this
    rw [sortedP_ext p1.2 p2.2 (fun z => ?_)]
    constructor
    · intro hz
      rcases List.mem_cons.1 ((h z).1 (by simp [hz])) with e | hz'
      · subst e; exact absurd hz hnr
      · exact hz'
    · intro hz
      rcases List.mem_cons.1 ((h z).2 (by simp [hz])) with e | hz'
      · subst e; exact absurd hz hns
      · exact hz'
theorem insP_at {n : PL} : ∀ {l : List PL} {k : Nat}, (l.take k).all (ltP · n) = true → k ≤ l.length → (∀ x, l[k]? = some x → ltP x n = false) →
    insP l n = match l[k]? with | some x => if x = n then l else l.take k ++ n :: l.drop k | none => l ++ [n]
  | [], k, _, hk, _ => by simp [insP]
  | y :: r, 0, _, _, h => by
    have := h y rfl
    simp [insP, this]
  | y :: r, k + 1, ha, hk, h => by
    simp only [List.take_succ_cons, List.all_cons, Bool.and_eq_true] at ha
    have ih := insP_at (l := r) (k := k) ha.2 (by simpa using hk) (fun x hx => h x (by simpa using hx))
    unfold insP
    rw [if_pos ha.1, ih]
    simp only [List.getElem?_cons_succ]
    cases r[k]? with
    | none => simp
    | some x =>
      by_cases hx : x = n
      · simp [hx]
      · simp [hx]
/-- all places of some entries, in order -/
def insAll (acc : List PL) (l : List Ent) : List PL := l.foldl (fun acc e => insP acc e.pl) acc
def placesF (ls : List (List Ent)) : List PL := ls.foldl insAll []
theorem insAll_sorted (l : List Ent) : ∀ {acc : List PL}, SortedP acc → SortedP (insAll acc l) := by
  induction l with
  | nil => exact fun h => h
  | cons e l ih => exact fun h => ih (insP_sorted h)
theorem insAll_mem {p : PL} (l : List Ent) : ∀ {acc : List PL}, p ∈ insAll acc l ↔ p ∈ acc ∨ ∃ e ∈ l, e.pl = p := by
  induction l with
  | nil => intro acc; simp [insAll]
  | cons e l ih =>
    intro acc
    have := ih (acc := insP acc e.pl)
    simp only [insAll, List.foldl_cons] at this ⊢
    rw [this, insP_mem]
    constructor
    · rintro ((h | h) | ⟨x, hx, h⟩)
      · exact .inr ⟨e, by simp, h.symm⟩
      · exact .inl h
      · exact .inr ⟨x, by simp [hx], h⟩
    · rintro (h | ⟨x, hx, h⟩)
      · exact .inl (.inr h)
      · rcases List.mem_cons.1 hx with rfl | hx
        · exact .inl (.inl h.symm)
        · exact .inr ⟨x, hx, h⟩
theorem places_sorted (ls : List (List Ent)) : SortedP (placesF ls) := by
  have : ∀ (ls : List (List Ent)) {acc : List PL}, SortedP acc → SortedP (ls.foldl insAll acc) := by
    intro ls
    induction ls with
    | nil => exact fun h => h
    | cons l ls ih => exact fun h => ih (insAll_sorted l h)
  exact this ls (by simp [SortedP])
theorem places_mem {p : PL} (ls : List (List Ent)) : p ∈ placesF ls ↔ ∃ l ∈ ls, ∃ e ∈ l, e.pl = p := by
  have : ∀ (ls : List (List Ent)) {acc : List PL}, p ∈ ls.foldl insAll acc ↔ p ∈ acc ∨ ∃ l ∈ ls, ∃ e ∈ l, e.pl = p := by
    intro ls
    induction ls with
    | nil => simp
    | cons l ls ih =>
      intro acc
      rw [List.foldl_cons, ih, insAll_mem]
      simp only [List.mem_cons, exists_eq_or_imp, or_assoc]
  simpa [placesF] using this ls (acc := [])

/-! ### cmp.Compare, cmp.Or -/
def cmpI (x y : Int) : Int := if x < y then -1 else if y < x then 1 else 0
def cmpP (a b : PL) : Int := if cmpI a.1 b.1 ≠ 0 then cmpI a.1 b.1 else cmpI a.2 b.2
theorem cmpP_lt (a b : PL) : ltOf cmpP a b = ltP a b := by
  unfold ltOf cmpP cmpI
  rw [Bool.eq_iff_iff, ltP_iff]
  simp only [decide_eq_true_eq]
  by_cases h1 : a.1 < b.1
  · simp [h1]
  · by_cases h2 : b.1 < a.1
    · simp [h1, h2]; omega
    · have e : a.1 = b.1 := by omega
      by_cases h3 : a.2 < b.2
      · simp [e, h3]
      · by_cases h4 : b.2 < a.2
        · simp [e, h3, h4]
        · simp [e, h3, h4]
theorem cmpP_swo : Go.Sort.SWO (ltOf cmpP) where
  irrefl x := by rw [cmpP_lt]; exact ltP_irrefl x
  trans x y z h1 h2 := by rw [cmpP_lt] at *; exact ltP_trans h1 h2
  ntrans x y z h1 h2 := by
    rw [cmpP_lt] at *
    have h1' : ¬ (ltP x y = true) := by simp [h1]
    have h2' : ¬ (ltP y z = true) := by simp [h2]
    rw [ltP_iff] at h1' h2'
    cases h : ltP x z with
    | false => rfl
    | true => rw [ltP_iff] at h; omega
theorem cmpP_part (x y : PL) (h1 : ltOf cmpP x y = false) (h2 : ltOf cmpP y x = false) : x = y := by
  rw [cmpP_lt] at h1 h2; exact ltP_tri h1 h2
/-- the sorted keys, whatever their order was -/
theorem sort_keys {kl : List PL} {pl : List PL} (hnd : kl.Nodup) (hs : SortedP pl) (hm : ∀ p, p ∈ kl ↔ p ∈ pl) : kl.mergeSort (fun x y => !(ltOf cmpP) y x) = pl := by
  refine sortedP_ext ?_ hs (fun x => by rw [List.mem_mergeSort, hm])
  have h1 := List.pairwise_mergeSort (le := fun x y => !(ltOf cmpP) y x) (fun a b c h1 h2 => by
    simp only [cmpP_lt, Bool.not_eq_true'] at *
    cases h : ltP c a with
    | false => rfl
    | true =>
      have h1' : ¬ (ltP b a = true) := by simp [h1]
      have h2' : ¬ (ltP c b = true) := by simp [h2]
      rw [ltP_iff] at h1' h2' h; omega) (fun a b => by
    simp only [cmpP_lt, Bool.or_eq_true, Bool.not_eq_true']
    cases h : ltP a b with
    | true => exact .inl (ltP_asymm h)
    | false => exact .inr rfl) kl
  have h2 : (kl.mergeSort (fun x y => !(ltOf cmpP) y x)).Nodup := (List.mergeSort_perm _ _).nodup_iff.2 hnd
  refine (List.Pairwise.and h1 h2).imp (fun {a b} h => ?_)
  simp only [cmpP_lt, Bool.not_eq_true'] at h
  cases h' : ltP a b with
  | true => rfl
  | false => exact absurd (ltP_tri h' h.1) h.2

/-! ### what is taken, and what clashes -/
def alikeF (told : Int → Int → Bool) (a b : Int) : Bool := decide (a = b) || (!decide (a = 0) && (!decide (b = 0) && told a b))
def takeAt (told : Int → Int → Bool) (x y z : List Ent) (p : PL) : Option Ent :=
  cond (!alikeF told (shows x p) (shows z p) && alikeF told (shows x p) (shows y p)) (some ⟨p.1, p.2, shows z p⟩) none
def clashAt (told : Int → Int → Bool) (x y z : List Ent) (p : PL) : Option Cla :=
  cond (!alikeF told (shows x p) (shows z p) && (!alikeF told (shows x p) (shows y p) && !alikeF told (shows y p) (shows z p))) (some ⟨p.1, p.2, shows x p, shows y p, shows z p⟩) none
def takeF (told : Int → Int → Bool) (x y z : List Ent) : List Ent := (placesF [x, y, z]).filterMap (takeAt told x y z)
def clashF (told : Int → Int → Bool) (x y z : List Ent) : List Cla := (placesF [x, y, z]).filterMap (clashAt told x y z)
def sameF (told : Int → Int → Bool) (x y : List Ent) : Bool := (placesF [x, y]).all fun p => alikeF told (shows x p) (shows y p)
theorem shows_good {l : List Ent} (h : Good l) (p : PL) : 0 ≤ shows l p ∧ shows l p < 18446744073709551616 := by
  unfold shows
  cases hf : l.find? (fun e => decide (e.pl = p)) with
  | none => simp
  | some e => simpa using h e (List.mem_of_find?_eq_some hf)
end Go.Proofs.Ytaglbmgpdoophaa.A

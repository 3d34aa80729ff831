/- Layer 62: the document's answer, in plain words. -/
import Derived.Test.YtmbfmnhcahhciaaX62C2
import Derived.Test.YtmbfmnhcahhciaaP
namespace Go.Proofs.Ytmbfmnhcahhciaa.A
open Go Go.RowKit Go.Maps Go.Sort
set_option linter.unusedVariables false
set_option linter.unusedSimpArgs false

def fA (a : List File) (s : ByteArray) : File := ⟨s, (lookF a s).getD []⟩
theorem clean_map (a : List File) : cleanS a = (namesF a).map (fA a) := rfl
def onlyS (a b : List File) : List File := (wentF a b).map (fA a)
theorem find_none_look {b : List File} {s : ByteArray} (h : b.findIdx? (fun f => decide (f.name = s)) = none) : lookF b s = none := by
  unfold lookF
  rw [List.findIdx?_eq_none_iff] at h
  rw [List.find?_eq_none.2 (fun f hf => by simpa using h f hf)]; rfl
theorem find_some_look {b : List File} {s : ByteArray} {i : Nat} (h : b.findIdx? (fun f => decide (f.name = s)) = some i) : ∃ y, b[i]? = some y ∧ y.name = s ∧ lookF b s = some y.data := by
  obtain ⟨y, hy, hp⟩ := fidx_get h
  have hn : y.name = s := by simpa using hp
  have hm : s ∈ namesF b := (namesF_mem s b []).2 (.inr ⟨y, List.mem_of_getElem? hy, hn⟩)
  obtain ⟨i', y', h1, h2, h3⟩ := find_look hm
  rw [h] at h1; cases h1
  rw [hy] at h2; cases h2
  refine ⟨y, hy, hn, ?_⟩
  obtain ⟨d, hd⟩ := Option.isSome_iff_exists.1 (names_in.1 hm)
  rw [hd, h3, hd]; rfl
theorem look_some_find {b : List File} {s : ByteArray} {d : List UInt8} (h : lookF b s = some d) : ∃ i, b.findIdx? (fun f => decide (f.name = s)) = some i := by
  cases hf : b.findIdx? (fun f => decide (f.name = s)) with
  | none => rw [find_none_look hf] at h; cases h
  | some i => exact ⟨i, rfl⟩
def lackB (b : List File) (f : File) : Bool := !(lookF b f.name).isSome
theorem only_filter (a b : List File) : (cleanS a).filter (lackB b) = onlyS a b := by
  unfold onlyS wentF
  rw [clean_map, List.filter_map]
  rfl
theorem filtS_take {α : Type} {p : α → Bool} {l : List α} {k : Nat} {x : α} (h : l[k]? = some x) : (l.take (k + 1)).filter p = (l.take k).filter p ++ (if p x = true then [x] else []) := by
  rw [takeS h, List.filter_append]
  by_cases hp : p x = true <;> simp [hp]

/-! ### what is not yet taken -/
def keepB : List ByteArray → List Bool → List ByteArray
  | x :: K, t :: ts => cond t (keepB K ts) (x :: keepB K ts)
  | _, _ => []
def hitZ (p : ByteArray → Bool) (q : ByteArray × Bool) : Bool := !q.2 && p q.1
theorem keep_none {p : ByteArray → Bool} : ∀ {K : List ByteArray} {ts : List Bool}, (K.zip ts).findIdx? (hitZ p) = none → (keepB K ts).findIdx? p = none
  | [], _, _ => rfl
  | _ :: _, [], _ => rfl
  | x :: K, t :: ts, h => by
    rw [List.zip_cons_cons, List.findIdx?_cons] at h
    cases t with
    | true =>
      have h' : (K.zip ts).findIdx? (hitZ p) = none := by simpa [hitZ] using h
      have h2 := keep_none (K := K) (ts := ts) h'
      exact h2
    | false =>
      cases hp : p x with
      | true => simp [hitZ, hp] at h
      | false =>
        have h' : (K.zip ts).findIdx? (hitZ p) = none := by simpa [hitZ, hp] using h
        simp [keepB, List.findIdx?_cons, hp, keep_none h']
theorem keep_some {p : ByteArray → Bool} : ∀ {K : List ByteArray} {ts : List Bool} {k : Nat}, (K.zip ts).findIdx? (hitZ p) = some k →
    ∃ i x, (keepB K ts).findIdx? p = some i ∧ (keepB K ts)[i]? = some x ∧ K[k]? = some x ∧ keepB K (ts.set k true) = (keepB K ts).eraseIdx i
  | [], _, _, h => by simp at h
  | _ :: _, [], _, h => by simp at h
  | x :: K, t :: ts, k, h => by
    rw [List.zip_cons_cons, List.findIdx?_cons] at h
    cases t with
    | true =>
      simp [hitZ] at h
      obtain ⟨k', hk', rfl⟩ := h
      obtain ⟨i, y, h1, h2, h3, h4⟩ := keep_some (p := p) hk'
      exact ⟨i, y, h1, h2, h3, h4⟩
    | false =>
      cases hp : p x with
      | true =>
        simp [hitZ, hp] at h; subst h
        exact ⟨0, x, by simp [keepB, List.findIdx?_cons, hp], rfl, rfl, by simp [keepB]⟩
      | false =>
        simp [hitZ, hp] at h
        obtain ⟨k', hk', rfl⟩ := h
        obtain ⟨i, y, h1, h2, h3, h4⟩ := keep_some (p := p) hk'
        exact ⟨i + 1, y, by simp [keepB, List.findIdx?_cons, hp, h1], by simpa [keepB] using h2, by simpa using h3, by simp [keepB, h4]⟩
theorem keep_all : ∀ (K : List ByteArray), keepB K (List.replicate K.length false) = K
  | [] => rfl
  | x :: K => by simp [keepB, List.replicate_succ, keep_all K]
theorem keep_step : ∀ {K : List ByteArray} {ts : List Bool} {k : Nat} {x : ByteArray} {t : Bool}, K[k]? = some x → ts[k]? = some t → keepB (K.take (k + 1)) (ts.take (k + 1)) = keepB (K.take k) (ts.take k) ++ cond t [] [x]
  | [], _, _, _, _, h, _ => by simp at h
  | _ :: _, [], _, _, _, _, h => by simp at h
  | y :: K, u :: ts, 0, x, t, h, h' => by
    simp at h h'; subst h h'
    cases u <;> simp [keepB]
  | y :: K, u :: ts, k + 1, x, t, h, h' => by
    have ih := keep_step (K := K) (ts := ts) (k := k) (x := x) (t := t) (by simpa using h) (by simpa using h')
    rw [List.take_succ_cons, List.take_succ_cons, List.take_succ_cons, List.take_succ_cons, keepB, keepB, ih]
    cases u <;> simp
theorem to_step {α : Type} {Z : List α} {q : α → Bool} {k : Nat} {z : α} (h : Z[k]? = some z) : (Z.take (k + 1)).findIdx? q = ((Z.take k).findIdx? q).or (if q z = true then some k else none) := by
  have hk := (List.getElem?_eq_some_iff.1 h).1
  rw [takeS h, List.findIdx?_append]
  cases (Z.take k).findIdx? q with
  | some j => rfl
  | none =>
    by_cases hq : q z = true
    · simp [hq, List.findIdx?_cons, Nat.min_eq_left (Nat.le_of_lt hk)]
    · simp [hq, List.findIdx?_cons]
theorem to_hit {α : Type} {Z : List α} {q : α → Bool} {k : Nat} {z : α} (h : Z[k]? = some z) (hn : (Z.take k).findIdx? q = none) (hq : q z = true) : (Z.take (k + 1)).findIdx? q = some k := by
  rw [to_step h, hn, hq]; rfl
theorem to_had {α : Type} {Z : List α} {q : α → Bool} {k : Nat} {z : α} (h : Z[k]? = some z) (hn : optI ((Z.take k).findIdx? q) < 0 → False) : (Z.take (k + 1)).findIdx? q = (Z.take k).findIdx? q := by
  rw [to_step h]
  cases hj : (Z.take k).findIdx? q with
  | none => rw [hj] at hn; exact absurd (show optI (none : Option Nat) < 0 by decide) hn
  | some j => rfl
theorem to_miss {α : Type} {Z : List α} {q : α → Bool} {k : Nat} {z : α} (h : Z[k]? = some z) (hq : q z = false) : (Z.take (k + 1)).findIdx? q = (Z.take k).findIdx? q := by
  rw [to_step h, hq]
  cases (Z.take k).findIdx? q <;> rfl

/-! ### ranks, whether changes may be told -/
def rankR (k : Int) : Int := if k = 4 then 1 else if k = 2 then 2 else if k = 3 then 3 else if k = 1 then 4 else 0
theorem rank_eq (k : Int) : rankR k = rankF k + 1 := by
  by_cases h4 : k = 4
  · subst h4; rfl
  · by_cases h2 : k = 2
    · subst h2; rfl
    · by_cases h3 : k = 3
      · subst h3; rfl
      · by_cases h1 : k = 1
        · subst h1; rfl
        · simp [rankR, rankF, List.findIdx?_cons, h1, h2, h3, h4, optI]
def badF (c : FC) : Bool := (rankR c.kind == 0) || ((c.kind != 4) && !decide (c.to = E0)) || (((c.kind == 2) || (c.kind == 4)) && decide (0 < c.data.length))
theorem bad_eq (c : FC) : badF c = !(!decide (rankF c.kind < 0) && bareF c) := by
  have hr := rank_eq c.kind
  unfold badF bareF
  rw [hr]
  by_cases h4 : c.kind = 4
  · rw [h4]
    cases hl : c.data with
    | nil => simp [rankF, List.findIdx?_cons, optI]
    | cons x d => simp [rankF, List.findIdx?_cons, optI]
  · by_cases h2 : c.kind = 2
    · rw [h2]
      cases hl : c.data with
      | nil => simp [rankF, List.findIdx?_cons, optI]
      | cons x d => simp [rankF, List.findIdx?_cons, optI]
    · by_cases h3 : c.kind = 3
      · rw [h3]; simp [rankF, List.findIdx?_cons, optI]
      · by_cases h1 : c.kind = 1
        · rw [h1]; simp [rankF, List.findIdx?_cons, optI]
        · simp [rankF, List.findIdx?_cons, h1, h2, h3, h4, optI]
def okR (d : List FC) (i : Nat) : Bool :=
  match d[i]? with
  | none => true
  | some c => !badF c && !(decide (0 < i) && match d[i - 1]? with | none => false | some p => (decide (rankR c.kind < rankR p.kind) || ((p.kind == c.kind) && !ltS p.name c.name)))
theorem okR_eq (d : List FC) (i : Nat) : okR d i = okC d i := by
  unfold okR okC
  cases d[i]? with
  | none => rfl
  | some c =>
    simp only
    rw [bad_eq, Bool.not_not]
    congr 2
    congr 1
    cases d[i - 1]? with
    | none => rfl
    | some p =>
      simp only [pairF]
      rw [rank_eq, rank_eq]
      congr 1
      exact decide_eq_decide.2 (by omega)
end Go.Proofs.Ytmbfmnhcahhciaa.A

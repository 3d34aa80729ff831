/- Layer 62: whether changes may be what is told. -/
import Derived.Test.YtmbfmnhcahhciaaX62L
namespace Go.Proofs.Ytmbfmnhcahhciaa.A
open Go Go.RowKit Go.Maps Go.Sort
set_option linter.unusedVariables false
set_option linter.unusedSimpArgs false

def rankF (k : Int) : Int := optI ([4, 2, 3, 1].findIdx? (fun x => k == x))
def bareF (c : FC) : Bool := !(!(c.kind == 4) && !decide (c.to = E0)) && (decide (c.data.length = 0) || ((c.kind == 1) || (c.kind == 3)))
def namesC (c : FC) : List ByteArray := if c.kind = 4 then [c.name, c.to] else [c.name]
def pairF (p c : FC) : Bool := decide (rankF p.kind > rankF c.kind) || ((p.kind == c.kind) && !ltS p.name c.name)
def okC (d : List FC) (i : Nat) : Bool :=
  match d[i]? with
  | none => true
  | some c => !decide (rankF c.kind < 0) && bareF c && !(decide (0 < i) && match d[i - 1]? with | none => false | some p => pairF p c)
def rightF (d : List FC) : Bool := (List.range d.length).all (okC d) && decide ((d.flatMap namesC).Nodup)
theorem right_bad {d : List FC} {i : Nat} (h : i < d.length) (hb : okC d i = false) : rightF d = false := by
  unfold rightF
  rw [Bool.and_eq_false_iff]
  left
  rw [List.all_eq_false]
  exact ⟨i, List.mem_range.2 h, by simp [hb]⟩
theorem names_take {d : List FC} {k : Nat} {c : FC} (h : d[k]? = some c) : (d.take (k + 1)).flatMap namesC = (d.take k).flatMap namesC ++ namesC c := by
  rw [takeS h, List.flatMap_append]; simp
theorem right_dup {d : List FC} {k j : Nat} {c : FC} {s : ByteArray} (h : d[k]? = some c) (hs : (namesC c)[j]? = some s) (hm : s ∈ (d.take k).flatMap namesC ++ (namesC c).take j) : rightF d = false := by
  unfold rightF
  rw [Bool.and_eq_false_iff]
  right
  rw [decide_eq_false_iff_not]
  intro hn
  have e : d = d.take (k + 1) ++ d.drop (k + 1) := (List.take_append_drop _ _).symm
  rw [e, List.flatMap_append, names_take h] at hn
  have e2 : namesC c = (namesC c).take j ++ s :: (namesC c).drop (j + 1) := by
    have hj := (List.getElem?_eq_some_iff.1 hs).1
    have h3 : (namesC c).drop j = s :: (namesC c).drop (j + 1) := by rw [List.drop_eq_getElem_cons hj, (List.getElem?_eq_some_iff.1 hs).2]
    rw [← h3, List.take_append_drop]
  rw [e2, List.nodup_append] at hn
  have h1 := hn.1
  rw [← List.append_assoc, List.nodup_append] at h1
  exact h1.2.2 s hm s (by simp) rfl
theorem right_good {d : List FC} (ha : ∀ i, i < d.length → okC d i = true) (hn : (d.flatMap namesC).Nodup) : rightF d = true := by
  unfold rightF
  rw [Bool.and_eq_true]
  exact ⟨List.all_eq_true.2 fun i hi => ha i (List.mem_range.1 hi), decide_eq_true hn⟩
/-- a set of names -/
def HasS (m : List (ByteArray × Bool)) (l : List ByteArray) : Prop := ∀ s, (mget m s).getD false = true ↔ s ∈ l
theorem hasS_nil : HasS [] [] := fun s => by simp [mget]
theorem hasS_set {m : List (ByteArray × Bool)} {l : List ByteArray} {s : ByteArray} (h : HasS m l) : HasS (mset m s true) (l ++ [s]) := fun x => by
  rw [mget_mset, List.mem_append, List.mem_singleton, ← h x]
  by_cases hs : s = x
  · subst hs; simp
  · have : ¬ x = s := fun e => hs e.symm
    simp [hs, this]
theorem nodup_snoc {l : List ByteArray} {s : ByteArray} (h : l.Nodup) (hs : s ∉ l) : (l ++ [s]).Nodup := by
  rw [List.nodup_append]
  exact ⟨h, by simp, fun a ha b hb e => by simp at hb; subst hb e; exact hs ha⟩
end Go.Proofs.Ytmbfmnhcahhciaa.A

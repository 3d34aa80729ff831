/- Layer 63: a file's history (50), and the events. -/
import Derived.Test.YtmbfmnhcahhciaaX63P
namespace Go.Proofs.Ytmbfmnhcahhciaa.A
open Go Go.RowKit Go.Maps Go.Sort
set_option linter.unusedVariables false
set_option linter.unusedSimpArgs false

structure Ver where
  frm : Int
  is : Bool
  data : List UInt8
def Ver.cs (v : Ver) : List AV := [.v (.int .u64 v.frm), .v (.bool v.is), bts v.data]
def versA (l : List Ver) : AV := .sl 3 (l.map Ver.cs)
def Ver.alike (v w : Ver) : Bool := (v.is == w.is) && decide (v.data = w.data)
def verAt (fs : List File) (n : ByteArray) (m : Int) : Ver := match fs.find? (fun f => decide (f.name = n)) with
  | some f => ⟨m, true, f.data⟩
  | none => ⟨m, false, []⟩
theorem ver_frm (fs : List File) (n : ByteArray) (m : Int) : (verAt fs n m).frm = m := by unfold verAt; split <;> rfl
def lookO (at_ : AT) (m : Int) : Option (List File) := cond (at_ m).2 (some (at_ m).1) none
def stepV (at_ : AT) (n : ByteArray) (out : List Ver) (m : Int) : List Ver :=
  match lookO at_ m with
  | none => out
  | some fs => match out.getLast? with
    | none => out ++ [verAt fs n m]
    | some w => cond (w.alike (verAt fs n m)) out (out ++ [verAt fs n m])
def versOf (at_ : AT) (n : ByteArray) (nums : List Int) : List Ver := nums.foldl (stepV at_ n) []
theorem vers_len (at_ : AT) (n : ByteArray) : ∀ (ms : List Int) (out : List Ver), (ms.foldl (stepV at_ n) out).length ≤ out.length + ms.length
  | [], out => by simp
  | m :: r, out => by
    have := vers_len at_ n r (stepV at_ n out m)
    have h2 : (stepV at_ n out m).length ≤ out.length + 1 := by
      unfold stepV
      cases lookO at_ m with
      | none => simp
      | some fs =>
        simp only
        cases out.getLast? with
        | none => simp
        | some w => simp only; cases w.alike (verAt fs n m) <;> simp
    simp only [List.foldl_cons, List.length_cons]; omega
theorem step_ext (at_ : AT) (n : ByteArray) (out : List Ver) (m : Int) : ∃ R, stepV at_ n out m = out ++ R ∧ ∀ w ∈ R, w.frm = m := by
  unfold stepV
  cases lookO at_ m with
  | none => exact ⟨[], by simp, by simp⟩
  | some fs =>
    simp only
    cases out.getLast? with
    | none => exact ⟨[verAt fs n m], rfl, fun w hw => by rw [List.mem_singleton] at hw; subst hw; exact ver_frm _ _ _⟩
    | some w =>
      simp only
      cases w.alike (verAt fs n m) with
      | true => exact ⟨[], by simp, by simp⟩
      | false => exact ⟨[verAt fs n m], rfl, fun w hw => by rw [List.mem_singleton] at hw; subst hw; exact ver_frm _ _ _⟩
theorem fold_ext (at_ : AT) (n : ByteArray) : ∀ (ms : List Int) (out : List Ver), ∃ R, ms.foldl (stepV at_ n) out = out ++ R ∧ ∀ w ∈ R, w.frm ∈ ms
  | [], out => ⟨[], by simp, by simp⟩
  | m :: ms, out => by
    obtain ⟨R1, h1, h2⟩ := step_ext at_ n out m
    obtain ⟨R2, h3, h4⟩ := fold_ext at_ n ms (stepV at_ n out m)
    refine ⟨R1 ++ R2, by rw [List.foldl_cons, h3, h1, List.append_assoc], fun w hw => ?_⟩
    rcases List.mem_append.1 hw with h | h
    · rw [h2 w h]; simp
    · exact List.mem_cons_of_mem _ (h4 w h)
def lastV (m : Int) (l : List Ver) : Ver := l.foldl (fun v w => if w.frm ≤ m then w else v) ⟨0, false, []⟩
theorem lastV_app {m : Int} {v : Ver} : ∀ {R : List Ver}, (∀ w ∈ R, m < w.frm) → R.foldl (fun v w => if w.frm ≤ m then w else v) v = v
  | [], _ => rfl
  | w :: R, h => by
    have := h w (by simp)
    rw [List.foldl_cons, if_neg (by omega)]
    exact lastV_app fun x hx => h x (by simp [hx])
theorem lastV_last {m : Int} {out R : List Ver} {w : Ver} (hw : out.getLast? = some w) (h1 : w.frm ≤ m) (h2 : ∀ x ∈ R, m < x.frm) : lastV m (out ++ R) = w := by
  unfold lastV
  rw [List.foldl_append, lastV_app h2]
  obtain ⟨l, rfl⟩ : ∃ l, out = l ++ [w] := by
    have hne : out ≠ [] := fun e => by subst e; cases hw
    refine ⟨out.dropLast, ?_⟩
    have h3 : out.getLast hne = w := by rw [List.getLast?_eq_some_getLast hne] at hw; exact Option.some.inj hw
    rw [← h3]; exact (List.dropLast_concat_getLast hne).symm
  rw [List.foldl_append]
  simp [h1]
theorem fold_takeV {m : Int} {l : List Ver} {k : Nat} {w : Ver} (h : l[k]? = some w) : lastV m (l.take (k + 1)) = if w.frm ≤ m then w else lastV m (l.take k) := by unfold lastV; rw [fold_take h]
/-- at a told moment the history tells what the files are -/
theorem vers_at {at_ : AT} {n : ByteArray} {ms : List Int} {i : Nat} {m : Int} (hp : ms.Pairwise (· < ·)) (hm : ms[i]? = some m) (ht : (at_ m).2 = true) : (verAt (at_ m).1 n m).alike (lastV m (versOf at_ n ms)) = true ∨ (lastV m (versOf at_ n ms)).alike (verAt (at_ m).1 n m) = true := by
  have e : ms = ms.take i ++ m :: ms.drop (i + 1) := by
    have h1 := takeS hm
    have h2 : ms = ms.take (i + 1) ++ ms.drop (i + 1) := (List.take_append_drop _ _).symm
    rw [h1] at h2
    rw [List.append_assoc] at h2
    exact h2
  have hp2 := hp
  rw [e, List.pairwise_append, List.pairwise_cons] at hp2
  obtain ⟨O, hO⟩ : ∃ O, O = versOf at_ n (ms.take i) := ⟨_, rfl⟩
  have hmem : ∀ w ∈ O, w.frm ∈ ms.take i := by
    obtain ⟨R, h1, h2⟩ := fold_ext at_ n (ms.take i) []
    rw [List.nil_append] at h1
    intro w hw
    rw [hO, versOf, h1] at hw
    exact h2 w hw
  obtain ⟨R, hR1, hR2⟩ := fold_ext at_ n (ms.drop (i + 1)) (stepV at_ n O m)
  have hall : versOf at_ n ms = stepV at_ n O m ++ R := by
    rw [← hR1, hO]
    unfold versOf
    conv => lhs; rw [e]
    rw [List.foldl_append, List.foldl_cons]
  have hR3 : ∀ x ∈ R, m < x.frm := fun x hx => hp2.2.1.1 _ (hR2 x hx)
  rw [hall]
  have hlk : lookO at_ m = some (at_ m).1 := by unfold lookO; rw [ht]; rfl
  unfold stepV
  rw [hlk]
  simp only
  cases hl : O.getLast? with
  | none =>
    simp only
    rw [lastV_last (w := verAt (at_ m).1 n m) (by simp) (by rw [ver_frm]; exact Int.le_refl _) hR3]
    exact .inl (by unfold Ver.alike; simp)
  | some w =>
    simp only
    have hwm : w.frm < m := hp2.2.2 _ (hmem w (List.mem_of_getLast? hl)) m (by simp)
    cases ha : w.alike (verAt (at_ m).1 n m) with
    | true =>
      simp only [cond_true]
      rw [lastV_last hl (by omega) hR3]
      exact .inr ha
    | false =>
      simp only [cond_false]
      rw [lastV_last (w := verAt (at_ m).1 n m) (by simp) (by rw [ver_frm]; exact Int.le_refl _) hR3]
      exact .inl (by unfold Ver.alike; simp)
theorem alike_eq {v w : Ver} (h : v.alike w = true ∨ w.alike v = true) : v.is = w.is ∧ v.data = w.data := by
  unfold Ver.alike at h
  simp at h
  rcases h with ⟨h1, h2⟩ | ⟨h1, h2⟩
  · exact ⟨h1, h2⟩
  · exact ⟨h1.symm, h2.symm⟩
theorem last_idx {ms : List Int} {ds : List Disk} {i : Nat} {m : Int} {d : Disk} (hp : ms.Pairwise (· < ·)) (hm : ms[i]? = some m) (hd : ds[i]? = some d) (ht : d.told = true) : lastR (atF ms ds) m [] ms = filesD d := by
  have h2 : ms = ms.take (i + 1) ++ ms.drop (i + 1) := (List.take_append_drop _ _).symm
  have key : ∀ (b a : List Int) (was : List File), (∀ x ∈ b, m < x) → lastR (atF ms ds) m was (a ++ b) = lastR (atF ms ds) m was a := by
    intro b a
    induction a with
    | nil => intro was h; rw [List.nil_append, last_past h]; rfl
    | cons x a ih =>
      intro was h
      simp only [List.cons_append, lastR]
      cases (atF ms ds x).2 && decide (x ≤ m) <;> simp only [cond_true, cond_false] <;> exact ih _ h
  have h3 : lastR (atF ms ds) m [] ms = lastR (atF ms ds) m [] (ms.take (i + 1)) := by
    have := key (ms.drop (i + 1)) (ms.take (i + 1)) [] (fun x hx => by
      obtain ⟨j, hj⟩ := List.getElem?_of_mem hx
      rw [List.getElem?_drop] at hj
      obtain ⟨q1, rfl⟩ := List.getElem?_eq_some_iff.1 hj
      obtain ⟨q2, rfl⟩ := List.getElem?_eq_some_iff.1 hm
      exact List.pairwise_iff_getElem.1 hp i (i + 1 + j) q2 q1 (by omega))
    rwa [List.take_append_drop] at this
  rw [h3, takeS hm, last_snoc, at_idx hp hm hd, ht, decide_eq_true (Int.le_refl m)]; rfl
end Go.Proofs.Ytmbfmnhcahhciaa.A

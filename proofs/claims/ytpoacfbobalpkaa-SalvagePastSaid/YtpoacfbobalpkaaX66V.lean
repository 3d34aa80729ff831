/- Layer 66, plain laws: what a history says of a choice. -/
import Derived.Test.YtpoacfbobalpkaaX66U
namespace Go.Proofs.Ytpoacfbobalpkaa.A
open Go Go.RowKit
set_option linter.unusedVariables false
set_option linter.unusedSimpArgs false

structure Ver where
  frm : Int
  is : Bool
  data : List UInt8
def Ver.cs (v : Ver) : List AV := [.v (.int .u64 v.frm), .v (.bool v.is), bts v.data]
def Ver.av (v : Ver) : AV := .agg v.cs
def versA (l : List Ver) : AV := .sl 3 (l.map Ver.cs)
def Ver.alike (v w : Ver) : Bool := (v.is == w.is) && decide ((⟨v.data.toArray⟩ : ByteArray) = ⟨w.data.toArray⟩)
def verAt (fs : List File) (n : ByteArray) (m : Int) : Ver := match fs.find? (fun f => decide (f.name = n)) with
  | some f => ⟨m, true, f.data⟩
  | none => ⟨m, false, []⟩
def stepV (look : Int → Option (List File)) (n : ByteArray) (out : List Ver) (m : Int) : List Ver :=
  match look m with
  | none => out
  | some fs => match out.getLast? with
    | none => out ++ [verAt fs n m]
    | some w => cond (w.alike (verAt fs n m)) out (out ++ [verAt fs n m])
def versOf (look : Int → Option (List File)) (n : ByteArray) (nums : List Int) : List Ver := nums.foldl (stepV look n) []
def goodV (not : Int) (v : Ver) : Bool := v.is && wholeB not v.data
/-- the last one that is whole -/
def lastG (not : Int) (l : List Ver) : Option Ver := l.reverse.find? (goodV not)
theorem lastG_snoc (not : Int) (l : List Ver) (v : Ver) : lastG not (l ++ [v]) = if goodV not v = true then some v else lastG not l := by
  unfold lastG; rw [List.reverse_append]; simp [List.find?_cons]; cases goodV not v <;> simp
theorem lastG_last {not : Int} {l : List Ver} {v : Ver} (h : l.getLast? = some v) (hg : goodV not v = true) : lastG not l = some v := by
  obtain ⟨l', rfl⟩ : ∃ l', l = l' ++ [v] := by
    rw [List.getLast?_eq_some_iff] at h; exact h
  rw [lastG_snoc, if_pos hg]
structure PastOk (not : Int) (p : List Int) (out : List Ver) (c : Choice) : Prop where
  from' : ∀ v ∈ out, v.frm ∈ p
  rise : out.Pairwise (fun v w => v.frm < w.frm)
  ok : (lastG not out).isSome = c.whole
  has : ∀ v, lastG not out = some v → v.frm ≤ c.moment ∧ v.data = c.data
theorem good_ver {look : Int → Option (List File)} {not : Int} {n : ByteArray} {m : Int} {fs : List File} (hl : look m = some fs) :
    goodAt look not n m = if goodV not (verAt fs n m) = true then some (verAt fs n m).data else none := by
  unfold goodAt fileAt verAt
  rw [hl]
  simp only [Option.getD_some]
  cases fs.find? (fun f => decide (f.name = n)) with
  | none => simp [goodV]
  | some f => simp only [goodV, Bool.true_and]; cases wholeB not f.data <;> simp
theorem past_aux (look : Int → Option (List File)) (not : Int) (n : ByteArray) : ∀ (r p : List Int) (out : List Ver) (c : Choice), (p ++ r).Pairwise (· < ·) → PastOk not p out c →
    PastOk not (p ++ r) (r.foldl (stepV look n) out) (r.foldl (choiceOf look not n) c)
  | [], p, out, c, _, h => by simpa using h
  | m :: r, p, out, c, hs, h => by
    have e : p ++ m :: r = (p ++ [m]) ++ r := by simp
    rw [List.foldl_cons, List.foldl_cons, e]
    have hlt : ∀ x ∈ p, x < m := fun x hx => (List.pairwise_append.1 hs).2.2 x hx m (by simp)
    have hkeep : PastOk not (p ++ [m]) out c := ⟨fun v hv => List.mem_append_left _ (h.from' v hv), h.rise, h.ok, h.has⟩
    refine past_aux look not n r (p ++ [m]) _ _ (by rw [← e]; exact hs) ?_
    · rw [choiceOf_eq]
      unfold stepV
      cases hl : look m with
      | none =>
        have : goodAt look not n m = none := by unfold goodAt fileAt; rw [hl]; rfl
        rw [this]; exact hkeep
      | some fs =>
        rw [good_ver hl]
        have happ : PastOk not (p ++ [m]) (out ++ [verAt fs n m]) (match (if goodV not (verAt fs n m) = true then some (verAt fs n m).data else none) with | some d => ⟨n, m, true, d⟩ | none => c) := by
          have hfrm : (verAt fs n m).frm = m := by unfold verAt; split <;> rfl
          refine ⟨fun v hv => ?_, ?_, ?_, fun v hv => ?_⟩
          · rcases List.mem_append.1 hv with hv | hv
            · exact List.mem_append_left _ (h.from' v hv)
            · simp at hv; subst hv; rw [hfrm]; simp
          · rw [List.pairwise_append]
            refine ⟨h.rise, by simp, fun v hv w hw => ?_⟩
            simp at hw; subst hw; rw [hfrm]; exact hlt _ (h.from' v hv)
          · rw [lastG_snoc]
            cases hg : goodV not (verAt fs n m) with
            | true => rfl
            | false => exact h.ok
          · rw [lastG_snoc] at hv
            cases hg : goodV not (verAt fs n m) with
            | true => rw [hg] at hv; cases hv; simp [hfrm]
            | false => rw [hg] at hv; exact h.has v hv
        cases hlast : out.getLast? with
        | none => exact happ
        | some w =>
          simp only
          cases ha : w.alike (verAt fs n m) with
          | false => exact happ
          | true =>
            simp only [cond_true]
            unfold Ver.alike at ha
            simp only [Bool.and_eq_true, beq_iff_eq, decide_eq_true_eq] at ha
            have hd : w.data = (verAt fs n m).data := by have := ha.2; simpa using congrArg (fun b : ByteArray => b.data.toList) this
            have hgw : goodV not w = goodV not (verAt fs n m) := by unfold goodV; rw [ha.1, hd]
            cases hg : goodV not (verAt fs n m) with
            | false => simpa [hg] using hkeep
            | true =>
              have hlg := lastG_last hlast (hgw.trans hg)
              have hmem : w ∈ out := List.mem_of_getLast? hlast
              refine ⟨hkeep.from', h.rise, by simp [hlg], fun v hv => ?_⟩
              rw [hlg] at hv; cases hv
              simp only [if_pos]
              exact ⟨by have := hlt _ (h.from' _ hmem); simp; omega, by simpa using hd⟩
theorem past_ok (look : Int → Option (List File)) (not : Int) {nums : List Int} (hs : nums.Pairwise (· < ·)) {c : Choice} (hc : c ∈ rplanOf look not nums) : PastOk not nums (versOf look c.name nums) c := by
  obtain ⟨n, _, rfl⟩ := List.mem_map.1 hc
  rw [choice_name look not n nums _ rfl]
  have := past_aux look not n nums [] [] ⟨n, 0, false, []⟩ (by simpa using hs) ⟨fun v hv => by simp at hv, List.Pairwise.nil, rfl, fun v hv => by simp [lastG] at hv⟩
  simp only [List.nil_append] at this
  exact this
theorem vers_len (look : Int → Option (List File)) (n : ByteArray) : ∀ (ms : List Int) (out : List Ver), (ms.foldl (stepV look n) out).length ≤ out.length + ms.length
  | [], out => by simp
  | m :: r, out => by
    have := vers_len look n r (stepV look n out m)
    have h2 : (stepV look n out m).length ≤ out.length + 1 := by
      unfold stepV
      cases look m with
      | none => simp
      | some fs =>
        simp only
        cases out.getLast? with
        | none => simp
        | some w => simp only; cases w.alike (verAt fs n m) <;> simp
    simp only [List.foldl_cons, List.length_cons]; omega
end Go.Proofs.Ytpoacfbobalpkaa.A

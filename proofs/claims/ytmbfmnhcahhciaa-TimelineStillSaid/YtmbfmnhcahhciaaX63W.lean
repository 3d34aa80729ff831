/- Layer 63: a moment whose files are those of the one ahead has no events. -/
import Derived.Test.YtmbfmnhcahhciaaX63Q
import Derived.Test.YtmbfmnhcahhciaaAC
namespace Go.Proofs.Ytmbfmnhcahhciaa.A
open Go Go.RowKit Go.Maps Go.Sort
set_option linter.unusedVariables false
set_option linter.unusedSimpArgs false

theorem still_law {ms : List Int} {ds : List Disk} {k : Nat} {x : Disk} {m : Int} (hr : riseF ms = true) (hk0 : 0 < k) (hm : ms[k]? = some m) (hkd : k < ds.length) (hx : ds[k - 1]? = some x) :
    (∀ e ∈ tlF ms (atF ms (ds.set k x)), e.moment ≠ m) ∧ tlF ms (atF ms (ds.set k x)) = tlF ms (atF ms ((ds.set k x).set k { x with told := false })) := by
  have hp := rise_pw hr
  obtain ⟨hkm, hme⟩ := List.getElem?_eq_some_iff.1 hm
  have e0 : ms.drop k = m :: ms.drop (k + 1) := by rw [List.drop_eq_getElem_cons hkm, hme]
  have e1 : ms = ms.take k ++ m :: ms.drop (k + 1) := by rw [← e0, List.take_append_drop]
  have hp2 := hp
  rw [e1, List.pairwise_append, List.pairwise_cons] at hp2
  have hA : atF ms (ds.set k x) m = (filesD x, x.told) := at_idx hp hm (by rw [List.getElem?_set_self hkd])
  have hB : atF ms ((ds.set k x).set k { x with told := false }) m = (filesD { x with told := false }, false) := at_idx hp hm (by rw [List.getElem?_set_self (by simpa using hkd)])
  have hsame : ∀ y ∈ ms, y ≠ m → atF ms (ds.set k x) y = atF ms ((ds.set k x).set k { x with told := false }) y := by
    intro y hy hne
    obtain ⟨j, hj⟩ := List.getElem?_of_mem hy
    have hjk : k ≠ j := fun e => by subst e; rw [hm] at hj; cases hj; exact hne rfl
    rcases Nat.lt_or_ge j ds.length with h | h
    · obtain ⟨d, hd⟩ := get_lt h
      rw [at_idx hp hj (by rw [List.getElem?_set_ne hjk]; exact hd), at_idx hp hj (by rw [List.getElem?_set_ne hjk, List.getElem?_set_ne hjk]; exact hd)]
    · rw [at_past hp hj (by simpa using h), at_past hp hj (by simpa using h)]
  have hst : stR (atF ms (ds.set k x)) [] (ms.take k) = filesD x ∨ x.told = false := by
    cases htd : x.told with
    | false => exact .inr rfl
    | true =>
      left
      obtain ⟨y, hy⟩ := get_lt (show k - 1 < ms.length by omega)
      have e2 : ms.take k = ms.take (k - 1) ++ [y] := by have := takeS hy; rwa [show k - 1 + 1 = k by omega] at this
      have hay : atF ms (ds.set k x) y = (filesD x, x.told) := at_idx hp hy (by rw [List.getElem?_set_ne (by omega)]; exact hx)
      rw [e2, stR_app, stR_cons, hay, htd]; rfl
  have hev : evR (atF ms (ds.set k x)) [] ms = evR (atF ms (ds.set k x)) [] (ms.take k) ++ evR (atF ms (ds.set k x)) (stR (atF ms (ds.set k x)) [] (ms.take k)) (ms.drop (k + 1)) := by
    conv => lhs; rw [show ms = ms.take k ++ m :: ms.drop (k + 1) from e1]
    have e3 : (ms.take k ++ m :: ms.drop (k + 1)) = ms := e1.symm
    rw [show evR (atF (ms.take k ++ m :: ms.drop (k + 1)) (ds.set k x)) [] (ms.take k ++ m :: ms.drop (k + 1)) = evR (atF ms (ds.set k x)) [] (ms.take k ++ m :: ms.drop (k + 1)) from by rw [e3]]
    rw [evR_app]
    congr 1
    rw [evR, hA]
    rcases hst with h | h
    · cases htd : x.told with
      | false => rfl
      | true => rw [h]; simp only [cond_true]; rw [of_nil (a := filesD x) (b := filesD x) (fun _ => rfl)]; rfl
    · rw [h]; rfl
  have hT1 : tlF ms (atF ms (ds.set k x)) = evR (atF ms (ds.set k x)) [] ms := by unfold tlF; rw [hr, cond_true, tlG_eq]
  have hT2 : tlF ms (atF ms ((ds.set k x).set k { x with told := false })) = evR (atF ms ((ds.set k x).set k { x with told := false })) [] ms := by unfold tlF; rw [hr, cond_true, tlG_eq]
  have hev2 : evR (atF ms ((ds.set k x).set k { x with told := false })) [] ms = evR (atF ms ((ds.set k x).set k { x with told := false })) [] (ms.take k) ++ evR (atF ms ((ds.set k x).set k { x with told := false })) (stR (atF ms ((ds.set k x).set k { x with told := false })) [] (ms.take k)) (ms.drop (k + 1)) := by
    have e3 : (ms.take k ++ m :: ms.drop (k + 1)) = ms := e1.symm
    have : evR (atF ms ((ds.set k x).set k { x with told := false })) [] ms = evR (atF ms ((ds.set k x).set k { x with told := false })) [] (ms.take k ++ m :: ms.drop (k + 1)) := by rw [e3]
    rw [this, evR_app]
    congr 1
    rw [evR, hB]; rfl
  have c1 := evR_congr (at_ := atF ms (ds.set k x)) (at' := atF ms ((ds.set k x).set k { x with told := false })) (rest := ms.take k) (was := []) (fun y hy => hsame y (List.mem_of_mem_take hy) (fun e => by have := hp2.2.2 y hy m (by simp); omega))
  have c2 := evR_congr (at_ := atF ms (ds.set k x)) (at' := atF ms ((ds.set k x).set k { x with told := false })) (rest := ms.drop (k + 1)) (was := stR (atF ms (ds.set k x)) [] (ms.take k)) (fun y hy => hsame y (List.mem_of_mem_drop hy) (fun e => by have := hp2.2.1.1 y hy; omega))
  refine ⟨fun e he => ?_, ?_⟩
  · rw [hT1, hev, List.mem_append] at he
    rcases he with h | h
    · have := hp2.2.2 _ (evR_mem h) m (by simp); omega
    · have := hp2.2.1.1 _ (evR_mem h); omega
  · rw [hT1, hT2, hev, hev2, c1.1, c2.1, c1.2]
def isU64 : Value → Bool
  | .int .u64 _ => true
  | _ => false
theorem sep_nums (ms : List Int) : SepAV isU64 (numsA ms) := .sl _ _ fun cs hcs c hc => by
  obtain ⟨m, _, rfl⟩ := List.mem_map.1 hcs
  rw [List.mem_singleton] at hc; subst hc
  exact ⟨_, rfl, rfl⟩
theorem disk_flat {l : List Disk} : ∀ cs ∈ l.map Disk.cs, ∀ c ∈ cs, ∃ v, c = AV.v v ∧ isU64 v = false := fun cs hcs c hc => by
  obtain ⟨d, _, rfl⟩ := List.mem_map.1 hcs
  simp [Disk.cs] at hc
  rcases hc with rfl | rfl | rfl | rfl | rfl | rfl | rfl | rfl | rfl <;> exact ⟨_, rfl, rfl⟩
theorem dlen (d : Disk) : (Disk.cs d).length = 9 := rfl
theorem disk_drop {l : List Disk} {k : Nat} {x : Disk} {ext : List AV} (h : l[k]? = some x) : ((l.map Disk.cs).flatten ++ ext).drop (0 + k * 9) = Disk.cs x ++ ((l.map Disk.cs).flatten ++ ext).drop (0 + k * 9 + 9) := by
  have h1 := (flat_drop dlen (ext := ext) h).1
  conv => lhs; rw [← List.take_append_drop 9 (((l.map Disk.cs).flatten ++ ext).drop (0 + k * 9))]
  rw [h1, List.drop_drop]
theorem disk_told {l : List Disk} {k : Nat} {x : Disk} {ext : List AV} (h : l[k]? = some x) : ((l.map Disk.cs).flatten ++ ext)[0 + k * 9]? = some (.v (.bool x.told)) := by
  have h1 := disk_drop (ext := ext) h
  have : (((l.map Disk.cs).flatten ++ ext).drop (0 + k * 9))[0]? = some (.v (.bool x.told)) := by rw [h1]; rfl
  rw [List.getElem?_drop] at this
  simpa using this
theorem disk_set1 {l : List Disk} {k : Nat} {x : Disk} {ext : List AV} (h : l[k]? = some x) (b : Bool) : ((l.map Disk.cs).flatten ++ ext).take (0 + k * 9) ++ [AV.v (.bool b)] ++ ((l.map Disk.cs).flatten ++ ext).drop (0 + k * 9 + 1) = ((l.set k { x with told := b }).map Disk.cs).flatten ++ ext := by
  have hk := (List.getElem?_eq_some_iff.1 h).1
  rw [← flat_set dlen (x := { x with told := b }) hk]
  rw [List.append_assoc, List.append_assoc]
  congr 1
  have h1 := disk_drop (ext := ext) h
  have h2 : ((l.map Disk.cs).flatten ++ ext).drop (0 + k * 9 + 1) = (Disk.cs x).drop 1 ++ ((l.map Disk.cs).flatten ++ ext).drop (0 + k * 9 + 9) := by
    rw [← List.drop_drop, h1]; rfl
  rw [h2]; rfl
end Go.Proofs.Ytmbfmnhcahhciaa.A

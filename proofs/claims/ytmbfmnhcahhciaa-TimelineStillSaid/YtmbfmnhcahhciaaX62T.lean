/- Layer 62: what changing files computes. -/
import Derived.Test.YtmbfmnhcahhciaaX62S
namespace Go.Proofs.Ytmbfmnhcahhciaa.A
open Go Go.RowKit Go.Maps Go.Sort
set_option linter.unusedVariables false
set_option linter.unusedSimpArgs false

abbrev SM := List (ByteArray × List UInt8)
def firstM (l : List File) : SM := l.foldl (fun m f => if (mget m f.name).isSome then m else mset m f.name f.data) []
theorem firstM_step {l : List File} {k : Nat} {x : File} (h : l[k]? = some x) : firstM (l.take (k + 1)) = if (mget (firstM (l.take k)) x.name).isSome then firstM (l.take k) else mset (firstM (l.take k)) x.name x.data := by
  unfold firstM; rw [fold_take h]
theorem tells_take (l : List File) : ∀ k, k ≤ l.length → TellsS (firstM (l.take k)) (l.take k)
  | 0, _ => tellsS_nil
  | k + 1, hk => by
    obtain ⟨x, hx⟩ := get_lt (show k < l.length by omega)
    have ih := tells_take l k (by omega)
    rw [firstM_step hx]
    cases hg : (mget (firstM (l.take k)) x.name).isSome with
    | true => rw [if_pos rfl]; exact tellsS_has ih hx hg
    | false => rw [if_neg (by simp)]; exact tellsS_new ih hx hg
theorem tells_first (l : List File) : TellsS (firstM l) l := by
  have := tells_take l l.length (Nat.le_refl _)
  rwa [List.take_length] at this

/-- a change: the error's number, and the files behind it -/
def alterM (m : SM) (c : FC) : Int × SM :=
  if c.kind = 2 then (0, mdel m c.name)
  else if c.kind = 3 then (0, mset m c.name c.data)
  else if c.kind = 4 then (if (mget m c.to).isSome then (5, m) else (0, mdel (mset m c.to ((mget m c.name).getD [])) c.name))
  else (0, m)
def stepM (m : SM) (c : FC) : Int × SM :=
  if c.kind = 1 then (if (mget m c.name).isSome then (5, m) else (0, mset m c.name c.data))
  else if c.kind = 2 ∨ c.kind = 3 ∨ c.kind = 4 then (if (mget m c.name).isSome then alterM m c else (4, m))
  else (18, m)
def applyM (m : SM) (d : List FC) : Int × SM := d.foldl (fun s c => if s.1 = 0 then stepM s.2 c else s) (0, m)
def filesM (m : SM) : List File := (sortB (m.map (·.1))).map fun s => ⟨s, (mget m s).getD []⟩
theorem applyM_step {m m' : SM} {d : List FC} {k : Nat} {c : FC} (h : d[k]? = some c) (ha : applyM m (d.take k) = (0, m')) : applyM m (d.take (k + 1)) = stepM m' c := by
  unfold applyM at *; rw [fold_take h, ha]; simp
theorem fold_stuck (d : List FC) (s : Int × SM) (h : ¬ s.1 = 0) : d.foldl (fun s c => if s.1 = 0 then stepM s.2 c else s) s = s := by
  induction d with
  | nil => rfl
  | cons c d ih => rw [List.foldl_cons, if_neg h]; exact ih
theorem applyM_fail {m m' : SM} {d : List FC} {k : Nat} {c : FC} (h : d[k]? = some c) (ha : applyM m (d.take k) = (0, m')) (hf : ¬ (stepM m' c).1 = 0) : applyM m d = stepM m' c := by
  have h1 := applyM_step h ha
  have e : d = d.take (k + 1) ++ d.drop (k + 1) := (List.take_append_drop _ _).symm
  unfold applyM at *
  rw [e, List.foldl_append, h1, fold_stuck _ _ hf]
theorem applyM_end {m m' : SM} {d : List FC} {k : Nat} (hk : d.length ≤ k) (ha : applyM m (d.take k) = (0, m')) : applyM m d = (0, m') := by rwa [List.take_of_length_le hk] at ha
theorem applyM_app {m m' : SM} {d d' : List FC} (ha : applyM m d = (0, m')) : applyM m (d ++ d') = applyM m' d' := by
  unfold applyM at *; rw [List.foldl_append, ha]
/-- maps that may be told in order -/
structure OkM (m : SM) (n : Nat) : Prop where
  nd : (m.map (·.1)).Nodup
  sz : ∀ s ∈ m.map (·.1), s.size ≤ maxLen
  len : m.length ≤ n
theorem okM_set {m : SM} {n : Nat} {s : ByteArray} {v : List UInt8} (h : OkM m n) (hs : s.size ≤ maxLen) : OkM (mset m s v) (n + 1) :=
  ⟨mset_nodup h.nd, fun x hx => by rw [mset_keys] at hx; rcases hx with rfl | hx; exact hs; exact h.sz x hx, Nat.le_trans mset_len (by have := h.len; omega)⟩
theorem okM_del {m : SM} {n : Nat} {s : ByteArray} (h : OkM m n) : OkM (mdel m s) n :=
  ⟨h.nd.sublist ((mdel_sub m s).map _), fun x hx => h.sz x (((mdel_sub m s).map _).mem hx), Nat.le_trans (mdel_sub m s).length_le h.len⟩
theorem okM_more {m : SM} {n : Nat} (h : OkM m n) : OkM m (n + 1) := ⟨h.nd, h.sz, Nat.le_succ_of_le h.len⟩
theorem okM_alter {m : SM} {n : Nat} {c : FC} (h : OkM m n) (h1 : c.name.size ≤ maxLen) (h2 : c.to.size ≤ maxLen) : OkM (alterM m c).2 (n + 1) := by
  unfold alterM
  split
  · exact okM_more (okM_del h)
  · split
    · exact okM_set h h1
    · split
      · split
        · exact okM_more h
        · exact okM_del (okM_set h h2)
      · exact okM_more h
theorem okM_step {m : SM} {n : Nat} {c : FC} (h : OkM m n) (h1 : c.name.size ≤ maxLen) (h2 : c.to.size ≤ maxLen) : OkM (stepM m c).2 (n + 1) := by
  unfold stepM
  split
  · split
    · exact okM_more h
    · exact okM_set h h1
  · split
    · split
      · exact okM_alter h h1 h2
      · exact okM_more h
    · exact okM_more h
theorem okM_first {l : List File} (hl : ∀ f ∈ l, f.name.size ≤ 1000000) : OkM (firstM l) l.length := ⟨(tells_first l).nd, keys_size (tells_first l) hl, (tells_first l).len⟩
theorem filesM_len (m : SM) : (filesM m).length = m.length := by simp [filesM, sortB_len]
/-- maps that tell the same of every name make the same files -/
theorem filesM_ext {m m' : SM} (h1 : (m.map (·.1)).Nodup) (h2 : (m'.map (·.1)).Nodup) (h : ∀ s, mget m s = mget m' s) : filesM m = filesM m' := by
  unfold filesM
  have e : sortB (m.map (·.1)) = sortB (m'.map (·.1)) := sortedS_ext (sortB_sorted h1) (sortB_sorted h2) (fun x => by rw [sortB_mem, sortB_mem, ← mget_some, ← mget_some, h])
  rw [e]
  refine List.map_congr_left fun s _ => ?_
  rw [h]
end Go.Proofs.Ytmbfmnhcahhciaa.A

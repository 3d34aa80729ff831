/- Layer 63: its data, and what its functions compute. -/
import Derived.Test.YtmbfmnhcahhciaaX62U
import Derived.Test.YtmbfmnhcahhciaaAA
namespace Go.Proofs.Ytmbfmnhcahhciaa.A
open Go Go.RowKit Go.Maps Go.Sort
set_option linter.unusedVariables false
set_option linter.unusedSimpArgs false

structure Disk where
  told : Bool
  l0 : Int
  l1 : Int
  l2 : Int
  l3 : Int
  d0 : UInt8
  d1 : UInt8
  d2 : UInt8
  d3 : UInt8
def Disk.cs (d : Disk) : List AV := [.v (.bool d.told), .v (.int .i8 d.l0), .v (.int .i8 d.l1), .v (.int .i8 d.l2), .v (.int .i8 d.l3), .v (.int .u8 d.d0.toNat), .v (.int .u8 d.d1.toNat), .v (.int .u8 d.d2.toNat), .v (.int .u8 d.d3.toNat)]
def Disk.long (d : Disk) : Nat → Int
  | 0 => d.l0 | 1 => d.l1 | 2 => d.l2 | _ => d.l3
def Disk.dat (d : Disk) : Nat → UInt8
  | 0 => d.d0 | 1 => d.d1 | 2 => d.d2 | _ => d.d3
def OkD (d : Disk) : Prop := ∀ i, -128 ≤ d.long i ∧ d.long i ≤ 127
theorem long_at {d : Disk} {i : Nat} (h : i < 4) : d.cs[0 + 1 + i * 1]? = some (.v (.int .i8 (d.long i))) := by
  match i, h with
  | 0, _ => rfl
  | 1, _ => rfl
  | 2, _ => rfl
  | 3, _ => rfl
theorem dat_at {d : Disk} {i : Nat} (h : i < 4) : d.cs[0 + 5 + i * 1]? = some (.v (.int .u8 (d.dat i).toNat)) := by
  match i, h with
  | 0, _ => rfl
  | 1, _ => rfl
  | 2, _ => rfl
  | 3, _ => rfl
def disksA (l : List Disk) : AV := .sl 9 (l.map Disk.cs)
def numsA (l : List Int) : AV := .sl 1 (l.map fun m => [.v (.int .u64 m)])
def nm (i : Nat) : ByteArray := (⟨#[97, 98, 99, 100]⟩ : ByteArray).extract i (i + 1)
def bytesD (d : Disk) (i : Nat) : List UInt8 := List.replicate ((d.long i).tmod 9).toNat (d.dat i)
def fileD (d : Disk) (i : Nat) : Option File := if 0 ≤ d.long i then some ⟨nm i, bytesD d i⟩ else none
def filesD (d : Disk) : List File := (List.range 4).filterMap (fileD d)
def atF (ms : List Int) (ds : List Disk) (m : Int) : List File × Bool :=
  match (ms.zip ds).find? (fun p => p.1 == m) with
  | some p => (filesD p.2, p.2.told)
  | none => ([], false)
structure Ev where
  moment : Int
  ch : FC
def Ev.cs (e : Ev) : List AV := .v (.int .u64 e.moment) :: FC.cs e.ch
def evsA (l : List Ev) : AV := .sl 5 (l.map Ev.cs)
def riseF (ms : List Int) : Bool := decide (ms.Pairwise (· < ·))
theorem rise_bad {ms : List Int} {i : Nat} {x y : Int} (h0 : 0 < i) (hx : ms[i - 1]? = some x) (hy : ms[i]? = some y) (h : y ≤ x) : riseF ms = false := by
  unfold riseF
  rw [decide_eq_false_iff_not]
  intro hp
  obtain ⟨q1, rfl⟩ := List.getElem?_eq_some_iff.1 hx
  obtain ⟨q2, rfl⟩ := List.getElem?_eq_some_iff.1 hy
  have := List.pairwise_iff_getElem.1 hp (i - 1) i q1 q2 (by omega)
  omega
theorem rise_good {ms : List Int} (h : ∀ i, 0 < i → i < ms.length → ∀ x y, ms[i - 1]? = some x → ms[i]? = some y → x < y) : riseF ms = true := by
  unfold riseF
  rw [decide_eq_true_eq, List.pairwise_iff_getElem]
  intro i j hi hj hij
  obtain ⟨k, rfl⟩ : ∃ k, j = i + 1 + k := ⟨j - (i + 1), by omega⟩
  clear hij
  induction k with
  | zero => exact h (i + 1) (by omega) hj _ _ (List.getElem?_eq_getElem hi) (List.getElem?_eq_getElem hj)
  | succ k ih =>
    have h1 := ih (by omega)
    have h2 := h (i + 1 + (k + 1)) (by omega) hj _ _ (List.getElem?_eq_getElem (show i + 1 + (k + 1) - 1 < ms.length by omega)) (List.getElem?_eq_getElem hj)
    have e : ms[i + 1 + (k + 1) - 1]'(by omega) = ms[i + 1 + k]'(by omega) := by congr 1
    rw [e] at h2
    omega
def tlStep (at_ : Int → List File × Bool) (st : List File × List Ev) (m : Int) : List File × List Ev :=
  cond (at_ m).2 ((at_ m).1, st.2 ++ (OfF st.1 (at_ m).1).map (Ev.mk m)) st
def tlG (ms : List Int) (at_ : Int → List File × Bool) : List File × List Ev := ms.foldl (tlStep at_) ([], [])
def tlF (ms : List Int) (at_ : Int → List File × Bool) : List Ev := cond (riseF ms) (tlG ms at_).2 []
theorem tlG_step {ms : List Int} {at_ : Int → List File × Bool} {k : Nat} {m : Int} (h : ms[k]? = some m) : tlG (ms.take (k + 1)) at_ = tlStep at_ (tlG (ms.take k) at_) m := by unfold tlG; rw [fold_take h]
def GoodF (l : List File) : Prop := l.length ≤ 4 ∧ ∀ f ∈ l, f.name.size ≤ 1000000 ∧ f.data.length ≤ 1000000
theorem goodF_nil : GoodF [] := ⟨by simp, by simp⟩
theorem abcd : (⟨#[97, 98, 99, 100]⟩ : ByteArray).size = 4 := rfl
theorem nm_size (i : Nat) : (nm i).size ≤ 4 := by
  unfold nm
  rw [ByteArray.size_extract]
  show min (i + 1) 4 - i ≤ 4
  omega
theorem files_mem {d : Disk} {f : File} (h : f ∈ filesD d) : ∃ i, i < 4 ∧ 0 ≤ d.long i ∧ f = ⟨nm i, bytesD d i⟩ := by
  unfold filesD at h
  obtain ⟨i, hi, hf⟩ := List.mem_filterMap.1 h
  unfold fileD at hf
  split at hf
  · rename_i h0; cases hf; exact ⟨i, List.mem_range.1 hi, h0, rfl⟩
  · cases hf
theorem bytes_len (d : Disk) (i : Nat) : (bytesD d i).length ≤ 8 := by
  unfold bytesD
  rw [List.length_replicate]
  have h1 : (d.long i).tmod 9 < 9 := Int.tmod_lt_of_pos _ (by decide)
  omega
theorem goodD (d : Disk) : GoodF (filesD d) := by
  refine ⟨?_, fun f hf => ?_⟩
  · unfold filesD
    exact Nat.le_trans (List.length_filterMap_le _ _) (by simp)
  · obtain ⟨i, hi, _, rfl⟩ := files_mem hf
    have := nm_size i
    have := bytes_len d i
    exact ⟨by simp only; omega, by simp only; omega⟩
theorem good_at (ms : List Int) (ds : List Disk) (m : Int) : GoodF (atF ms ds m).1 := by
  unfold atF
  split
  · exact goodD _
  · exact goodF_nil
theorem good_of {a b : List File} (ha : GoodF a) (hb : GoodF b) : (OfF a b).length ≤ 12 := by
  have := of_len a b
  have := ha.1
  have := hb.1
  omega
def quietF (l : List Ev) (a b : Int) : Bool := !(l.any fun e => decide (a < e.moment) && decide (e.moment ≤ b))
end Go.Proofs.Ytmbfmnhcahhciaa.A

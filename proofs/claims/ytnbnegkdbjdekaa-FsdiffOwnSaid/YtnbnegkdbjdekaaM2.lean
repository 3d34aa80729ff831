import Derived.WalkKit
import Derived.Below
import Derived.Laws.Rows
import Derived.Laws.CopyRow
import Derived.Laws.AppendOwn
import Derived.RangeFuncLeaves
import Derived.RangeFuncSeq
import Derived.RangeFuncCalls
import Derived.MapKept
import Derived.Orders
import Derived.Laws.IdiomStrings
import Derived.Laws.BytesArg
import Derived.Shelf.SlIter.Nil
import Derived.Shelf.SortM.Plain
import Derived.Shelf.SortM.SortNone
import Derived.Ground.GgzProg
import Derived.Ground.SlgmProg
import Derived.Test.YtnbnegkdbjdekaaProg
import Derived.KernelRfl
import Derived.RangeFuncBound
import Derived.Maps.RangeRun
import Derived.DeepKeys3
import Derived.Laws.StructEq
import Derived.Shelf.SlSortCmp.NoneTotal
import Derived.ChangeKeysEq
import Derived.Laws.MakeOwn
import Derived.ChangeArms
import Derived.ChangeOld
import Derived.Test.YtnbnegkdbjdekaaM1
namespace Go.Proofs.Ytnbnegkdbjdekaa.A
open Go Go.RowKit
set_option linter.unusedSectionVars false
variable [Thr]
set_option linter.unusedVariables false
set_option linter.unusedSimpArgs false
set_option linter.unusedSectionVars false
variable {P : Program} {w0 : Base} {C0 C : CS} {T : TS} {S S' : AState} {a : Act} {w : World} {ops : Array Oper} {rest : List Oper} {o : Oper} {Q : Exit → AState → Prop}
variable {t : Nat} {ty ty' : TypeId} {pos : String} {aft : Array Edge}
def ltS (a b : ByteArray) : Bool := decide (a.data.toList < b.data.toList)
theorem ba_ext {a b : ByteArray} (h : a.data.toList = b.data.toList) : a = b := by
  cases a; cases b; simp at h; simp [h]
theorem lessB_eq : ∀ (x y : List UInt8), Op.bytesLess x y = decide (x < y)
  | [], [] => by simp [Op.bytesLess]
  | _ :: _, [] => by simp [Op.bytesLess]
  | [], _ :: _ => by simp [Op.bytesLess]
  | a :: x, b :: y => by
    rw [Op.bytesLess, lessB_eq x y]
    simp only [List.cons_lt_cons_iff]
    by_cases h1 : a < b <;> by_cases h2 : a = b <;> by_cases h3 : x < y <;> simp [h1, h2, h3]
theorem ltS_eq (a b : ByteArray) : Op.bytesLess a.toList b.toList = ltS a b := by
  rw [lessB_eq, ByteArray.toList_eq, ByteArray.toList_eq]; rfl
theorem beqS_eq (a b : ByteArray) : (a.toList == b.toList) = decide (a = b) := by
  rw [ByteArray.toList_eq, ByteArray.toList_eq, Bool.eq_iff_iff]
  simp only [beq_iff_eq, decide_eq_true_eq]
  exact ⟨ba_ext, fun e => by rw [e]⟩
theorem ltS_irrefl (a : ByteArray) : ltS a a = false := by simp [ltS, List.lt_irrefl]
theorem ltS_trans {a b c : ByteArray} (h : ltS a b = true) (h' : ltS b c = true) : ltS a c = true := by
  simp only [ltS, decide_eq_true_eq] at *; exact List.lt_trans h h'
theorem ltS_tri {a b : ByteArray} (h : ltS a b = false) (h' : ltS b a = false) : a = b := by
  simp only [ltS, decide_eq_false_iff_not, List.not_lt] at *
  exact ba_ext (List.le_antisymm h' h)
theorem ltS_asymm {a b : ByteArray} (h : ltS a b = true) : ltS b a = false := by
  cases hb : ltS b a with
  | false => rfl
  | true => have := ltS_trans h hb; rw [ltS_irrefl] at this; cases this
def strB2 : BinOp → ByteArray → ByteArray → Option Bool
  | .eql, i, j => some (decide (i = j))
  | .neq, i, j => some (!decide (i = j))
  | .lss, i, j => some (ltS i j)
  | .leq, i, j => some (!ltS j i)
  | .gtr, i, j => some (ltS j i)
  | .geq, i, j => some (!ltS i j)
  | _, _, _ => none
theorem leS_eq (i j : ByteArray) : (ltS i j || decide (i = j)) = !ltS j i := by
  cases h1 : ltS i j with
  | true => rw [ltS_asymm h1]; rfl
  | false =>
    cases h2 : ltS j i with
    | true =>
      have : i ≠ j := fun e => by subst e; rw [ltS_irrefl] at h2; cases h2
      simp [this]
    | false => simp [ltS_tri h1 h2]
theorem strB2_eq {op : BinOp} {i j : ByteArray} {b : Bool} (h : strB2 op i j = some b) : strB op i j = some b := by
  cases op <;> simp only [strB2, strB, Option.some.injEq, reduceCtorEq] at h ⊢ <;> subst h
  · exact beqS_eq i j
  · rw [bne, beqS_eq]
  · exact ltS_eq i j
  · rw [ltS_eq, beqS_eq, leS_eq]
  · rw [ltS_eq, beqS_eq, leS_eq]; simp
  · rw [ltS_eq]
theorem r_str2 {op : BinOp} {xt yt : TypeId} {x y : Operand} {i j : ByteArray} {b : Bool} (hx : S.ev x = some (.a (.v (.string i)))) (hy : S.ev y = some (.a (.v (.string j))))
    (hb : strB2 op i j = some b) (ht : Nat.blt t S.nt = true) (hr : AWL P w0 C0 ops rest Q (S.put t (.a (.v (.bool b))))) :
    AWL P w0 C0 ops (⟨some t, .binOp op xt x y yt, ty, pos, aft, none⟩ :: rest) Q S :=
  r_str hx hy (strB2_eq hb) ht hr
def SortedS (l : List ByteArray) : Prop := l.Pairwise (fun a b => ltS a b = true)
def insS : List ByteArray → ByteArray → List ByteArray
  | [], n => [n]
  | x :: r, n => if ltS x n then x :: insS r n else if x = n then x :: r else n :: x :: r
theorem insS_mem {n x : ByteArray} : ∀ {l : List ByteArray}, x ∈ insS l n ↔ x = n ∨ x ∈ l
  | [] => by simp [insS]
  | y :: r => by
    unfold insS
    split
    · rw [List.mem_cons, insS_mem (l := r), List.mem_cons]
      constructor
      · rintro (h | h | h) <;> simp [h]
      · rintro (h | h | h) <;> simp [h]
    · split
      · rename_i e; subst e
        constructor
        · exact fun h => Or.inr h
        · rintro (h | h)
          · subst h; simp
          · exact h
      · simp
theorem insS_sorted {n : ByteArray} : ∀ {l : List ByteArray}, SortedS l → SortedS (insS l n)
  | [], _ => by simp [insS, SortedS]
  | y :: r, h => by
    have h1 := List.pairwise_cons.1 h
    unfold insS
    split
    · rename_i hl
      refine List.pairwise_cons.2 ⟨fun z hz => ?_, insS_sorted h1.2⟩
      rcases insS_mem.1 hz with rfl | hz
      · exact hl
      · exact h1.1 z hz
    · rename_i hl
      split
      · exact h
      · rename_i hne
        have hny : ltS n y = true := by
          cases hb : ltS n y with
          | true => rfl
          | false => exact absurd (ltS_tri (by simpa using hl) hb) hne
        refine List.pairwise_cons.2 ⟨fun z hz => ?_, h⟩
        rcases List.mem_cons.1 hz with rfl | hz
        · exact hny
        · exact ltS_trans hny (h1.1 z hz)
theorem sortedS_ext : ∀ {l l' : List ByteArray}, SortedS l → SortedS l' → (∀ x, x ∈ l ↔ x ∈ l') → l = l'
  | [], [], _, _, _ => rfl
  | [], y :: r, _, _, h => by have := (h y).2 (by simp); simp at this
  | y :: r, [], _, _, h => by have := (h y).1 (by simp); simp at this
  | x :: r, y :: s, h1, h2, h => by
    have p1 := List.pairwise_cons.1 h1
    have p2 := List.pairwise_cons.1 h2
    have hxy : x = y := by
      rcases List.mem_cons.1 ((h x).1 (by simp)) with e | hx
      · exact e
      · rcases List.mem_cons.1 ((h y).2 (by simp)) with e | hy
        · exact e.symm
        · have a1 := p2.1 x hx
          have a2 := p1.1 y hy
          rw [ltS_asymm a1] at a2; cases a2
    subst hxy
    have hnr : x ∉ r := fun hx => by have := p1.1 x hx; rw [ltS_irrefl] at this; cases this
    have hns : x ∉ s := fun hx => by have := p2.1 x hx; rw [ltS_irrefl] at this; cases this
    rw [sortedS_ext p1.2 p2.2 (fun z => ?_)]
    constructor
    · intro hz
      rcases List.mem_cons.1 ((h z).1 (by simp [hz])) with e | hz'
      · subst e; exact absurd hz hnr
      · exact hz'
    · intro hz
      rcases List.mem_cons.1 ((h z).2 (by simp [hz])) with e | hz'
      · subst e; exact absurd hz hns
      · exact hz'
theorem sortB_mem {l : List ByteArray} {x : ByteArray} : x ∈ sortB l ↔ x ∈ l := by
  unfold sortB
  rw [List.mem_map]
  constructor
  · rintro ⟨y, hy, rfl⟩
    rw [List.mem_mergeSort] at hy
    obtain ⟨z, hz, rfl⟩ := List.mem_map.1 hy
    exact hz
  · intro hx
    exact ⟨x.data.toList, by rw [List.mem_mergeSort]; exact List.mem_map.2 ⟨x, hx, rfl⟩, rfl⟩
theorem sortB_sorted {l : List ByteArray} (hn : l.Nodup) : SortedS (sortB l) := by
  have hs : (List.mergeSort (l.map (·.data.toList)) (fun x y => decide (x ≤ y))).Pairwise (fun x y => decide (x ≤ y) = true) :=
    List.pairwise_mergeSort (fun a b c h1 h2 => by simp only [decide_eq_true_eq] at *; exact List.le_trans h1 h2) (fun a b => by simp only [Bool.or_eq_true, decide_eq_true_eq]; exact List.le_total a b) _
  have hd : (List.mergeSort (l.map (·.data.toList)) (fun x y => decide (x ≤ y))).Nodup := by
    refine (List.mergeSort_perm _ _).nodup_iff.2 (List.pairwise_map.2 (hn.imp (fun hne e => hne (ba_ext e))))
  unfold SortedS sortB
  rw [List.pairwise_map]
  refine (List.Pairwise.and hs hd).imp (fun {x y} h => ?_)
  simp only [ltS, decide_eq_true_eq] at h ⊢
  rcases List.le_iff_lt_or_eq.1 h.1 with h1 | h1
  · simpa using h1
  · exact absurd h1 h.2
theorem insS_at {n : ByteArray} : ∀ {l : List ByteArray} {k : Nat}, (l.take k).all (ltS · n) = true → k ≤ l.length → (∀ x, l[k]? = some x → ltS x n = false) →
    insS l n = match l[k]? with | some x => if x = n then l else l.take k ++ n :: l.drop k | none => l ++ [n]
  | [], k, _, hk, _ => by simp [insS]
  | y :: r, 0, _, _, h => by
    have := h y rfl
    simp [insS, this]
  | y :: r, k + 1, ha, hk, h => by
    simp only [List.take_succ_cons, List.all_cons, Bool.and_eq_true] at ha
    have ih := insS_at (l := r) (k := k) ha.2 (by simpa using hk) (fun x hx => h x (by simpa using hx))
    unfold insS
    rw [if_pos ha.1, ih]
    simp only [List.getElem?_cons_succ]
    cases r[k]? with
    | none => rfl
    | some x => by_cases e : x = n <;> simp [e]
section
variable {K α : Type} [DecidableEq K]
theorem mget_mset (m : List (K × α)) (k k' : K) (v : α) : mget (mset m k v) k' = if k = k' then some v else mget m k' := by
  induction m with
  | nil => simp [mset, mget]
  | cons p r ih =>
    obtain ⟨x, u⟩ := p
    unfold mset
    split
    · rename_i e; subst e; unfold mget; split <;> rfl
    · rename_i e
      unfold mget
      split
      · rename_i e'; subst e'; rw [if_neg (fun h => e h.symm)]
      · exact ih
theorem mset_keys {m : List (K × α)} {k x : K} {v : α} : x ∈ (mset m k v).map (·.1) ↔ x = k ∨ x ∈ m.map (·.1) := by
  induction m with
  | nil => simp [mset]
  | cons p r ih =>
    obtain ⟨y, u⟩ := p
    unfold mset
    split
    · rename_i e; subst e; simp
    · rw [List.map_cons, List.mem_cons, ih, List.map_cons, List.mem_cons]
      constructor
      · rintro (h | h | h) <;> simp [h]
      · rintro (h | h | h) <;> simp [h]
theorem mset_nodup {m : List (K × α)} {k : K} {v : α} (h : (m.map (·.1)).Nodup) : ((mset m k v).map (·.1)).Nodup := by
  induction m with
  | nil => simp [mset]
  | cons p r ih =>
    obtain ⟨y, u⟩ := p
    have h1 := List.nodup_cons.1 h
    unfold mset
    split
    · rename_i e; subst e; exact h
    · rename_i e
      refine List.nodup_cons.2 ⟨fun hm => ?_, ih h1.2⟩
      rcases mset_keys.1 hm with e' | hm
      · exact e e'
      · exact h1.1 hm
theorem mset_len {m : List (K × α)} {k : K} {v : α} : (mset m k v).length ≤ m.length + 1 := by
  induction m with
  | nil => simp [mset]
  | cons p r ih =>
    obtain ⟨y, u⟩ := p
    unfold mset
    split
    · simp
    · simp; omega
theorem mget_some {m : List (K × α)} {k : K} : (mget m k).isSome = true ↔ k ∈ m.map (·.1) := by
  induction m with
  | nil => simp [mget]
  | cons p r ih =>
    obtain ⟨y, u⟩ := p
    unfold mget
    split
    · rename_i e; subst e; simp
    · rename_i e; rw [ih, List.map_cons, List.mem_cons]
      constructor
      · exact Or.inr
      · rintro (h | h)
        · exact absurd h.symm e
        · exact h
theorem mget_none {m : List (K × α)} {k : K} : mget m k = none ↔ k ∉ m.map (·.1) := by
  rw [← mget_some (m := m)]
  cases mget m k <;> simp
theorem encM_keys {ek : K → Value} {ev : α → AV} (m : List (K × α)) : (encM ek ev m).map (·.1) = (m.map (·.1)).map ek := by simp [encM]
theorem encM_len {ek : K → Value} {ev : α → AV} (m : List (K × α)) : (encM ek ev m).length = m.length := by simp [encM]
end
theorem insS_len {n : ByteArray} : ∀ {l : List ByteArray}, (insS l n).length ≤ l.length + 1
  | [] => by simp [insS]
  | y :: r => by
    unfold insS
    split
    · have := insS_len (n := n) (l := r); simp; omega
    · split <;> simp
theorem sortB_len (l : List ByteArray) : (sortB l).length = l.length := by simp [sortB, List.length_mergeSort]
theorem takeS {α : Type} {l : List α} {k : Nat} {x : α} (h : l[k]? = some x) : l.take (k + 1) = l.take k ++ [x] := by
  rw [List.take_add_one, h]; rfl
theorem fold_take {α β : Type} {f : β → α → β} {b : β} {l : List α} {k : Nat} {x : α} (h : l[k]? = some x) : (l.take (k + 1)).foldl f b = f ((l.take k).foldl f b) x := by
  rw [takeS h, List.foldl_append]; rfl
theorem map_take {α β : Type} {f : α → β} {l : List α} {k : Nat} {x : α} (h : l[k]? = some x) : (l.take (k + 1)).map f = (l.take k).map f ++ [f x] := by
  rw [takeS h, List.map_append]; rfl
theorem fidx_step {α : Type} {p : α → Bool} {l : List α} {k : Nat} {x : α} (h : l[k]? = some x) (hp : p x = false) (hn : (l.take k).findIdx? p = none) : (l.take (k + 1)).findIdx? p = none := by
  rw [takeS h]
  simp only [List.findIdx?_eq_none_iff] at hn ⊢
  intro y hy
  rcases List.mem_append.1 hy with hy | hy
  · exact hn y hy
  · simp at hy; subst hy; exact hp
theorem fidx_hit {α : Type} {p : α → Bool} {l : List α} {k : Nat} {x : α} (h : l[k]? = some x) (hp : p x = true) (hn : (l.take k).findIdx? p = none) : l.findIdx? p = some k := by
  have hk := (List.getElem?_eq_some_iff.1 h)
  obtain ⟨hk1, hk2⟩ := hk
  rw [List.findIdx?_eq_some_iff_getElem]
  refine ⟨hk1, by rw [hk2]; exact hp, fun j hj => ?_⟩
  rw [List.findIdx?_eq_none_iff] at hn
  have : l[j] ∈ l.take k := by
    rw [List.mem_iff_getElem?]
    exact ⟨j, by rw [List.getElem?_take, if_pos hj]; exact List.getElem?_eq_getElem _⟩
  have := hn _ this
  simp [this]
theorem fidx_end {α : Type} {p : α → Bool} {l : List α} {k : Nat} (h : l.length ≤ k) (hn : (l.take k).findIdx? p = none) : l.findIdx? p = none := by
  rwa [List.take_of_length_le h] at hn
theorem all_takeS {α : Type} {p : α → Prop} {l : List α} {k : Nat} {x : α} (h : l[k]? = some x) (ha : ∀ f ∈ l.take k, p f) (hx : p x) : ∀ f ∈ l.take (k + 1), p f := by
  intro f hf
  rw [takeS h] at hf
  rcases List.mem_append.1 hf with hf | hf
  · exact ha f hf
  · simp at hf; subst hf; exact hx
theorem all_takeB {α : Type} {p : α → Bool} {l : List α} {k : Nat} {x : α} (h : l[k]? = some x) (ha : (l.take k).all p = true) (hx : p x = true) : (l.take (k + 1)).all p = true := by
  rw [takeS h, List.all_append, ha]; simp [hx]
theorem all_end {α : Type} {p : α → Prop} {l : List α} {k : Nat} (h : l.length ≤ k) (ha : ∀ f ∈ l.take k, p f) : ∀ f ∈ l, p f := by
  rwa [List.take_of_length_le h] at ha
def optI : Option Nat → Int
  | some k => k
  | none => -1
theorem optI_some {o : Option Nat} (h : 0 ≤ optI o) : ∃ k, o = some k := by
  cases o with
  | some k => exact ⟨k, rfl⟩
  | none => simp [optI] at h
theorem optI_none {o : Option Nat} (h : optI o < 0) : o = none := by
  cases o with
  | some k => simp [optI] at h; omega
  | none => rfl
theorem fidx_get {α : Type} {p : α → Bool} {l : List α} {k : Nat} (h : l.findIdx? p = some k) : ∃ x, l[k]? = some x ∧ p x = true := by
  rw [List.findIdx?_eq_some_iff_getElem] at h
  obtain ⟨h1, h2, _⟩ := h
  exact ⟨l[k], List.getElem?_eq_getElem h1, h2⟩
end Go.Proofs.Ytnbnegkdbjdekaa.A
namespace Go.Proofs
open Go.Shelf
def Try.keys44_ren : Go.Shelf.Ren := ⟨fun | 7 => 44 | 10 => 49 | n => n, fun | 23 => 55 | 26 => 9 | 3 => 34 | 28 => 79 | 0 => 0 | 27 => 78 | 33 => 61 | 4 => 4 | n => n, fun | n => n⟩
theorem Try.keys44 : Go.Proofs.SlLaysZ.n7 Try.prog Try.keys44_ren := {
  mixed := by kernel_rfl
  f7 := ⟨Try.f44.name, by decide, Try.func44.trans (congrArg some (by kernel_rfl))⟩
  f10 := ⟨Try.f49.name, by decide, Try.func49.trans (congrArg some (by kernel_rfl))⟩
  t0 := Try.underlying0
  a0 := Try.isAgg0
  z0 := Try.sizeOf0
  v0 := Try.zeroValue0
  t4 := Try.underlying4
  a4 := Try.isAgg4
  z4 := Try.sizeOf4
  v4 := Try.zeroValue4
  t23 := Try.underlying55
  a23 := Try.isAgg55
  z23 := Try.sizeOf55
  v23 := Try.zeroValue55
  t26 := Try.underlying9
  a26 := Try.isAgg9
  z26 := Try.sizeOf9
  v26 := Try.zeroValue9
  t27 := Try.underlying78
  a27 := Try.isAgg78
  z27 := Try.sizeOf78
  v27 := Try.zeroValue78
  t28 := Try.underlying79
  a28 := Try.isAgg79
  z28 := Try.sizeOf79
  v28 := Try.zeroValue79
  t33 := Try.underlying61
  a33 := Try.isAgg61
  z33 := Try.sizeOf61
  v33 := Try.zeroValue61 }
def Try.sorted43_ren : Go.Shelf.Ren := ⟨fun | 6 => 43 | 8 => 47 | 9 => 48 | 11 => 50 | 13 => 52 | 12 => 51 | 23 => 62 | 24 => 63 | 14 => 53 | 15 => 54 | 16 => 55 | 17 => 56 | 18 => 57 | 19 => 58 | 20 => 59 | 21 => 60 | 22 => 61 | 25 => 64 | 26 => 65 | 27 => 66 | 28 => 67 | 29 => 68 | 30 => 69 | 31 => 70 | n => n, fun | 26 => 9 | 28 => 79 | 24 => 57 | 0 => 0 | 3 => 3 | 37 => 87 | 48 => 98 | 50 => 100 | 4 => 4 | 40 => 90 | 39 => 89 | 45 => 95 | 5 => 5 | 9 => 9 | 51 => 101 | 55 => 105 | 57 => 107 | 58 => 108 | 33 => 61 | n => n, fun | n => n⟩
theorem Try.sorted43 : Go.Proofs.SlLaysZ.n6 Try.prog Try.sorted43_ren := {
  mixed := by kernel_rfl
  f6 := ⟨Try.f43.name, by decide, Try.func43.trans (congrArg some (by kernel_rfl))⟩
  f8 := ⟨Try.f47.name, by decide, Try.func47.trans (congrArg some (by kernel_rfl))⟩
  f11 := ⟨Try.f50.name, by decide, Try.func50.trans (congrArg some (by kernel_rfl))⟩
  t0 := Try.underlying0
  a0 := Try.isAgg0
  z0 := Try.sizeOf0
  v0 := Try.zeroValue0
  t24 := Try.underlying57
  a24 := Try.isAgg57
  z24 := Try.sizeOf57
  v24 := Try.zeroValue57
  t26 := Try.underlying9
  a26 := Try.isAgg9
  z26 := Try.sizeOf9
  v26 := Try.zeroValue9
  t28 := Try.underlying79
  a28 := Try.isAgg79
  z28 := Try.sizeOf79
  v28 := Try.zeroValue79
  i26 := by kernel_rfl }
def Try.sort48_ren : Go.Shelf.Ren := ⟨fun | 6 => 48 | 8 => 52 | 9 => 51 | 19 => 62 | 20 => 63 | 21 => 53 | 22 => 54 | 23 => 55 | 24 => 56 | 25 => 57 | 26 => 58 | 27 => 59 | 28 => 60 | 29 => 61 | 36 => 64 | 31 => 65 | 32 => 66 | 37 => 67 | 38 => 68 | 39 => 69 | 41 => 70 | n => n, fun | 27 => 57 | 29 => 9 | 3 => 3 | 32 => 87 | 26 => 57 | 0 => 0 | 44 => 98 | 46 => 100 | 4 => 4 | 36 => 90 | 35 => 89 | 41 => 95 | 5 => 5 | 9 => 9 | 53 => 101 | 57 => 105 | 63 => 107 | 64 => 108 | n => n, fun | n => n⟩
theorem Try.sort48 : Go.Proofs.SlLaysM.n6 Try.prog Try.sort48_ren := {
  mixed := by kernel_rfl
  f6 := ⟨Try.f48.name, by decide, Try.func48.trans (congrArg some (by kernel_rfl))⟩
  f8 := Try.func52.trans (congrArg some (by kernel_rfl))
  f9 := ⟨Try.f51.name, by decide, Try.func51.trans (congrArg some (by kernel_rfl))⟩
  f19 := Try.func62.trans (congrArg some (by kernel_rfl))
  f20 := Try.func63.trans (congrArg some (by kernel_rfl))
  f21 := ⟨Try.f53.name, by decide, Try.func53.trans (congrArg some (by kernel_rfl))⟩
  f22 := ⟨Try.f54.name, by decide, Try.func54.trans (congrArg some (by kernel_rfl))⟩
  f23 := ⟨Try.f55.name, by decide, Try.func55.trans (congrArg some (by kernel_rfl))⟩
  f24 := ⟨Try.f56.name, by decide, Try.func56.trans (congrArg some (by kernel_rfl))⟩
  f25 := ⟨Try.f57.name, by decide, Try.func57.trans (congrArg some (by kernel_rfl))⟩
  f26 := ⟨Try.f58.name, by decide, Try.func58.trans (congrArg some (by kernel_rfl))⟩
  f27 := ⟨Try.f59.name, by decide, Try.func59.trans (congrArg some (by kernel_rfl))⟩
  f28 := ⟨Try.f60.name, by decide, Try.func60.trans (congrArg some (by kernel_rfl))⟩
  f29 := ⟨Try.f61.name, by decide, Try.func61.trans (congrArg some (by kernel_rfl))⟩
  f31 := Try.func65.trans (congrArg some (by kernel_rfl))
  f32 := Try.func66.trans (congrArg some (by kernel_rfl))
  f36 := ⟨Try.f64.name, by decide, Try.func64.trans (congrArg some (by kernel_rfl))⟩
  f37 := ⟨Try.f67.name, by decide, Try.func67.trans (congrArg some (by kernel_rfl))⟩
  f38 := ⟨Try.f68.name, by decide, Try.func68.trans (congrArg some (by kernel_rfl))⟩
  f39 := ⟨Try.f69.name, by decide, Try.func69.trans (congrArg some (by kernel_rfl))⟩
  f41 := ⟨Try.f70.name, by decide, Try.func70.trans (congrArg some (by kernel_rfl))⟩
  t0 := Try.underlying0
  a0 := Try.isAgg0
  z0 := Try.sizeOf0
  v0 := Try.zeroValue0
  t3 := Try.underlying3
  a3 := Try.isAgg3
  z3 := Try.sizeOf3
  v3 := Try.zeroValue3
  t4 := Try.underlying4
  a4 := Try.isAgg4
  z4 := Try.sizeOf4
  v4 := Try.zeroValue4
  t5 := Try.underlying5
  a5 := Try.isAgg5
  z5 := Try.sizeOf5
  v5 := Try.zeroValue5
  t9 := Try.underlying9
  a9 := Try.isAgg9
  z9 := Try.sizeOf9
  v9 := Try.zeroValue9
  t26 := Try.underlying57
  a26 := Try.isAgg57
  z26 := Try.sizeOf57
  v26 := Try.zeroValue57
  t27 := Try.underlying57
  a27 := Try.isAgg57
  z27 := Try.sizeOf57
  v27 := Try.zeroValue57
  t29 := Try.underlying9
  a29 := Try.isAgg9
  z29 := Try.sizeOf9
  v29 := Try.zeroValue9
  t32 := Try.underlying87
  a32 := Try.isAgg87
  z32 := Try.sizeOf87
  v32 := Try.zeroValue87
  t35 := Try.underlying89
  a35 := Try.isAgg89
  z35 := Try.sizeOf89
  v35 := Try.zeroValue89
  t36 := Try.underlying90
  a36 := Try.isAgg90
  z36 := Try.sizeOf90
  v36 := Try.zeroValue90
  t41 := Try.underlying95
  a41 := Try.isAgg95
  z41 := Try.sizeOf95
  v41 := Try.zeroValue95
  t44 := Try.underlying98
  a44 := Try.isAgg98
  z44 := Try.sizeOf98
  v44 := Try.zeroValue98
  t46 := Try.underlying100
  a46 := Try.isAgg100
  z46 := Try.sizeOf100
  v46 := Try.zeroValue100
  t53 := Try.underlying101
  a53 := Try.isAgg101
  z53 := Try.sizeOf101
  v53 := Try.zeroValue101
  t57 := Try.underlying105
  a57 := Try.isAgg105
  z57 := Try.sizeOf105
  v57 := Try.zeroValue105
  t63 := Try.underlying107
  a63 := Try.isAgg107
  z63 := Try.sizeOf107
  v63 := Try.zeroValue107
  t64 := Try.underlying108
  a64 := Try.isAgg108
  z64 := Try.sizeOf108
  v64 := Try.zeroValue108 }
end Go.Proofs
namespace Go.Proofs.Ytnbnegkdbjdekaa.A
set_option linter.unusedSectionVars false
variable [Thr]
open Go Go.RowKit Go.Maps Go.Sort Go.Shelf
theorem sorts43 (m : Nat) : AnyZ.SortsIn Try.prog Try.sorted43_ren Fence.wide m :=
  ⟨fun blk off cap ss W hH hblk hsz => callsIn_wide.2 (AnyM.slices_Sort_string Try.sort48 blk off cap ss W hH hblk hsz), fun p cap W => callsIn_wide.2 (AnyM.slices_Sort_string_none Try.sort48 p cap W)⟩
theorem keys44 : KeysAs Try.prog 44 49 55 := fun mb W => (callsIn_wide (n := 5)).1 (AnyZ.keys_in Try.keys44 Fence.wide 5 trivial rfl mb W)
theorem sorted43_44 : SortsIt Try.prog 43 49 9 := fun g b nn D0 R w hg hc hown hmax hbytes =>
  (callsIn_wide (n := 5)).1 (AnyZ.sorted_in Try.sorted43 Fence.wide 5 trivial trivial trivial trivial rfl (by omega) (sorts43 _) (enters_of (f := 48) Try.func48 (by kernel_rfl) rfl) 49 #[.pointer (some ⟨g, 0, none⟩)] trivial (enters_of (f := 49) Try.func49 (by kernel_rfl) rfl) _ _ hmax hbytes _
    (AnyZ.keys_gives (ρ := Try.keys44_ren) { Try.keys44 with } Fence.wide _ trivial rfl (by omega) g b nn D0 w hg hc hown))
end Go.Proofs.Ytnbnegkdbjdekaa.A
namespace Go.Proofs.Ytnbnegkdbjdekaa.A
open Go Go.RowKit
set_option linter.unusedSectionVars false
variable [Thr]
set_option linter.unusedVariables false
set_option linter.unusedSimpArgs false
set_option linter.unusedSectionVars false
variable {P : Program} {w0 : Base} {C0 C : CS} {T : TS} {S S' : AState} {a : Act} {w : World} {ops : Array Oper} {rest : List Oper} {o : Oper} {Q : Exit → AState → Prop}
structure BoxR (P : Program) (p ty : Nat) (S : AState) (r : AV) : Prop where
  ex : ∃ (b i : Nat) (rw' : Bool) (cs : List AV), S.get p = some (.a (.v (.pointer (some ⟨b, 0, none⟩)))) ∧ S.objs[i]? = some ⟨b, rw', .box cs⟩ ∧ aggT P ty = some true ∧ szT P ty = some cs.length ∧ r = .agg cs
theorem BoxR.run {p ty : Nat} {r : AV} (hs : SimC w0 C0 C T S a w) (h : BoxR P p ty S r) : ∃ ad v, (asAddr (a.tmps.getD p undef)).run P w = .ok ad w ∧ (loadVar ty ad).run P w = .ok v w ∧ Rel C r v := by
  obtain ⟨b, i, rw', cs, hp, hi, hA, hn, rfl⟩ := h.ex
  have hv := hs.slots _ _ hp
  have hv' : a.tmps.getD p undef = .pointer (some ⟨b, 0, none⟩) := by generalize a.tmps.getD p undef = u at hv; cases hv; rfl
  obtain ⟨arr0, g1, g2⟩ := box_cells (hs.objs _ (mem_of_get hi)).1
  have hl : arr0.length = cs.length := g1.1
  refine ⟨⟨b, 0, none⟩, .agg arr0.toArray, by rw [hv']; simp [asAddr], ?_, rel_agg.2 (by simpa using g1)⟩
  have := run_loadVarA (P := P) (w := w) (b := b) (o := 0) hA hn hl (fun j u hj => by rw [Nat.zero_add]; exact g2 j u hj)
  simpa using this
end Go.Proofs.Ytnbnegkdbjdekaa.A
namespace Go.Proofs.Ytnbnegkdbjdekaa.A
open Go Go.RowKit
set_option linter.unusedSectionVars false
variable [Thr]
set_option linter.unusedVariables false
set_option linter.unusedSimpArgs false
set_option linter.unusedSectionVars false
variable {P : Program} {w0 : Base} {C0 C : CS} {T : TS} {S S' : AState} {a : Act} {w : World} {ops : Array Oper} {rest : List Oper} {o : Oper} {Q : Exit → AState → Prop}
variable {t : Nat} {ty ty' : TypeId} {pos : String} {aft : Array Edge} {rn : Option Nat}
def YC (Cs : CS) (P : Program) (l : Nat) (x : List AV) (wo : List OE) (R : List OE → Prop) : Prop :=
  ∀ (C : CS) (w : World) (vals : Array Value), (∀ b o v, Cs b o = some v → C b o = some v) → Com C w → Rels C x vals.toList → Objs C wo w →
    YieldAt Fence.wide 0 P l vals w (fun e w' => e = .returned (.bool true) ∧ ∃ C' nobjs, R nobjs ∧ BelowX w.heap.size (WB wo) w w' ∧ (∀ b o, b < w.heap.size → ¬ WB wo b → C' b o = C b o) ∧ Com C' w' ∧ Objs C' nobjs w' ∧ ∀ e ∈ nobjs, w.heap.size ≤ e.b ∨ WB wo e.b)
theorem YC.tr {Cs : CS} {l : Nat} {x : List AV} {wo : List OE} {R : List OE → Prop} (h : YC Cs P l x wo R) : YC Cs P l x (Tr wo) R := by
  have e : WB (Tr wo) = WB wo := funext fun b => propext wb_tr
  intro C w vals h0 h1 h2 h3
  rw [e]
  exact h C w vals h0 h1 h2 h3.untr
def SV.plain : SV → Bool
  | .a _ => true
  | .own _ _ _ => false
theorem SimC.sub (h : SimC w0 C0 C T S a w) {objs : List OE} (hsub : objs.Sublist S.objs) : SimC w0 C0 C T ⟨S.nt, S.slots, objs⟩ a w :=
  ⟨h.below, h.com, h.one, h.old, fun e he => h.objs e (hsub.mem he), h.apart.sublist hsub, fun t k hk => ⟨(h.toks t k hk).1, fun e he => (h.toks t k hk).2 e (hsub.mem he)⟩, h.tokne, h.size, h.slots, h.defers, h.dr⟩
end Go.Proofs.Ytnbnegkdbjdekaa.A
namespace Go.Proofs.Ytnbnegkdbjdekaa.A
open Go Go.RowKit
set_option linter.unusedSectionVars false
variable [Thr]
set_option linter.unusedVariables false
set_option linter.unusedSimpArgs false
set_option linter.unusedSectionVars false
variable {P : Program} {w0 : Base} {C0 C : CS} {T : TS} {S S' : AState} {a : Act} {w : World} {ops : Array Oper} {rest : List Oper} {o : Oper} {Q : Exit → AState → Prop}
variable {t : Nat} {ty ty' : TypeId} {pos : String} {aft : Array Edge}
theorem SimC.perm (h : SimC w0 C0 C T S a w) {objs : List OE} (hp : objs.Perm S.objs) : SimC w0 C0 C T ⟨S.nt, S.slots, objs⟩ a w :=
  ⟨h.below, h.com, h.one, h.old, fun e he => h.objs e (hp.mem_iff.1 he), (hp.pairwise_iff (fun h => fun e => h e.symm)).2 h.apart, fun t k hk => ⟨(h.toks t k hk).1, fun e he => (h.toks t k hk).2 e (hp.mem_iff.1 he)⟩, h.tokne, h.size, h.slots, h.defers, h.dr⟩
theorem imp_perm {objs : List OE} (hp : objs.Perm S.objs) : Imp w0 C0 S ⟨S.nt, S.slots, objs⟩ := fun a w ⟨C, T, hs⟩ => ⟨C, T, hs.perm hp⟩
theorem Imp.trans {S1 S2 S3 : AState} (h : Imp w0 C0 S1 S2) (k : Imp w0 C0 S2 S3) : Imp w0 C0 S1 S3 := fun a w hs => k a w (h a w hs)
def IsVal (x : AV) (v : Value) : Prop := ∀ (C : CS) (u : Value), Rel C x u ↔ u = v
inductive AreVals : List AV → List Value → Prop where
  | nil : AreVals [] []
  | cons {x : AV} {v : Value} {xs : List AV} {vs : List Value} (h : IsVal x v) (r : AreVals xs vs) : AreVals (x :: xs) (v :: vs)
theorem AreVals.rels {xs : List AV} {vs : List Value} (h : AreVals xs vs) : ∀ (C : CS) (us : List Value), Rels C xs us ↔ us = vs := by
  induction h with
  | nil => exact fun C us => ⟨fun h => h.nil_inv, fun h => by subst h; exact Rels.nil⟩
  | cons h1 _ ih =>
    intro C us
    constructor
    · intro h
      obtain ⟨u, us', rfl, h2, h3⟩ := h.cons_inv
      rw [(h1 C u).1 h2, (ih C us').1 h3]
    · rintro rfl
      exact Rels.cons ((h1 C _).2 rfl) ((ih C _).2 rfl)
def isIntT (P : Program) (t : TypeId) (q : IntKind) : Bool := match P.underlying t with | some (.int q') => decide (q' = q) | _ => false
def notAgg (P : Program) (t : TypeId) : Bool := match aggT P t with | some false => true | _ => false
section
variable {K α : Type} [DecidableEq K] {ek : K → Value} {ev : α → AV} {kt et : TypeId}
end
end Go.Proofs.Ytnbnegkdbjdekaa.A
namespace Go.Proofs.Ytnbnegkdbjdekaa.A
open Go Go.RowKit
set_option linter.unusedSectionVars false
variable [Thr]
set_option linter.unusedVariables false
set_option linter.unusedSimpArgs false
set_option linter.unusedSectionVars false
variable {P : Program} {w0 : Base} {C0 C : CS} {T : TS} {S S' : AState} {a : Act} {w : World} {ops : Array Oper} {rest : List Oper} {o : Oper} {Q : Exit → AState → Prop}
variable {t : Nat} {ty ty' : TypeId} {pos : String} {aft : Array Edge}
theorem set_take {α : Type} {l : List α} {i : Nat} {x y : α} (h : l[i]? = some x) : (y :: l.eraseIdx i).Perm (l.set i y) := by
  induction l generalizing i with
  | nil => simp at h
  | cons z l ih =>
    cases i with
    | zero => simp
    | succ i =>
      simp only [List.eraseIdx_cons_succ, List.set_cons_succ]
      exact (List.Perm.swap _ _ _).trans ((ih (by simpa using h)).cons z)
theorem imp_commitB (i t : Nat) {g n cap sz e : Nat} {l : List (List AV)} (ht : S.get t = some (.a (.v (.slice (some ⟨g, 0, none⟩) n cap)))) (hn : n = l.length) (hi : S.objs[i]? = some ⟨g, true, .buf sz l cap e⟩) :
    Imp w0 C0 S (AState.put ⟨S.nt, S.slots, S.objs.eraseIdx i⟩ t (.a (.sl sz l))) := by
  rintro a w ⟨C, T, hs⟩
  subst hn
  have hm := mem_of_get hi
  obtain ⟨hob, hnone', hbase⟩ := hs.objs _ hm
  obtain ⟨arr, a1, a2, a3, a4, vs, a5, a6, a7⟩ := hob
  have hnone : ∀ o, C g o = none := hnone'
  have hbase' : w0.ok g := hbase rfl
  have hvl : vs.length = l.length * sz := by rw [a5.1, flat_len a4]
  have hmono := CS.add_mono (C := C) (b := g) (o := 0) (vs := vs) (fun j _ => hnone _)
  have hsub := List.eraseIdx_sublist (l := S.objs) (k := i)
  have hp := set_take (y := (⟨g, true, .buf sz l cap e⟩ : OE)) hi
  have hp' : ((⟨g, true, .buf sz l cap e⟩ : OE) :: S.objs.eraseIdx i).Perm S.objs := by
    have : S.objs.set i ⟨g, true, .buf sz l cap e⟩ = S.objs := by
      apply List.ext_getElem?
      intro j
      rw [List.getElem?_set]
      by_cases hij : i = j
      · subst hij; rw [if_pos rfl]; split
        · exact hi.symm
        · rename_i h; rw [List.getElem?_eq_none (by omega)]
      · simp [hij]
    rw [this] at hp; exact hp
  have hne : ∀ e', e' ∈ S.objs.eraseIdx i → e'.b ≠ g := fun e' he h => by
    have := (hp'.pairwise_iff (R := fun e e' : OE => e.b ≠ e'.b) (fun h => fun e => h e.symm)).2 hs.apart
    exact (List.pairwise_cons.1 this).1 e' he h.symm
  have hstep : SimC w0 C0 (C.add g 0 vs) T ⟨S.nt, S.slots, S.objs.eraseIdx i⟩ a w := by
    refine hs.step (BelowX.refl _) (fun _ => Nat.le_refl _) (fun _ _ h => h) ?_ ?_ (fun b' o' hb' hn => CS.add_other (fun e => by subst e; rcases hbase' with h | h; omega; exact hn h)) ?_ (hs.apart.sublist hsub) ?_ hs.tokne (fun t x hx => ⟨x, hx, fun u r => SRel.mono hmono r⟩)
    · intro b' o' v hc
      rcases CS.add_cases hc with ⟨rfl, j, rfl, hj⟩ | hc'
      · refine ⟨?_, fun _ _ => ⟨arr, e, a1⟩⟩
        rw [cell_of_row w b' _ arr e (0, 0) a1, Nat.zero_add]
        have hlt := (List.getElem?_eq_some_iff.1 hj).1
        rw [← a7, List.getElem?_take, if_pos (by omega)] at hj
        simpa using hj
      · exact hs.com _ _ _ hc'
    · intro b' o' v hc
      rcases CS.add_cases hc with ⟨rfl, j, rfl, hj⟩ | hc'
      · exact a6 v (List.mem_of_getElem? hj)
      · exact hs.one _ _ _ hc'
    · intro e' he
      obtain ⟨k1, k2, k3⟩ := hs.objs e' (hsub.mem he)
      exact ⟨k1.mono hmono rfl, fun o => by rw [CS.add_other (hne e' he)]; exact k2 o, k3⟩
    · intro k j hk
      obtain ⟨k1, k2⟩ := hs.toks k j hk
      have hkb : j.b ≠ g := fun e => k2 _ hm e.symm
      exact ⟨k1.keep rfl (fun o => CS.add_other hkb), fun e he => k2 e (hsub.mem he)⟩
  have hv := hs.slots _ _ ht
  have hv' : a.tmps.getD t undef = .slice (some ⟨g, 0, none⟩) l.length cap := by generalize a.tmps.getD t undef = u at hv; cases hv; rfl
  have hx : SRel (C.add g 0 vs) T (.a (.sl sz l)) (.slice (some ⟨g, 0, none⟩) l.length cap) :=
    rel_sl_mk g 0 rfl a3 (fun _ => rfl) (row_mk a4 (a5.mono hmono) (fun j v hj => CS.add_at hj))
  refine ⟨_, T, hstep.below, hstep.com, hstep.one, hstep.old, hstep.objs, hstep.apart, hstep.toks, hstep.tokne, hstep.size, fun t' y hy => ?_, hstep.defers, hstep.dr⟩
  simp only [AState.get, AState.put, find_cons] at hy
  split at hy
  · rename_i e'; subst e'; cases hy; rw [hv']; exact hx
  · exact hstep.slots _ _ hy
end Go.Proofs.Ytnbnegkdbjdekaa.A
namespace Go.Proofs.Ytnbnegkdbjdekaa.A
open Go Go.RowKit
set_option linter.unusedSectionVars false
variable [Thr]
set_option linter.unusedVariables false
set_option linter.unusedSimpArgs false
set_option linter.unusedSectionVars false
variable {P : Program} {w0 : Base} {C0 C : CS} {T : TS} {S S' : AState} {a : Act} {w : World} {ops : Array Oper} {rest : List Oper} {o : Oper} {Q : Exit → AState → Prop}
variable {t : Nat} {ty ty' : TypeId} {pos : String} {aft : Array Edge}
def mixFields (P : Program) : Nat → List Field → List IntKind → Bool
  | _, [], [] => true
  | i, f :: fs, q :: qs => decide (f.name ≠ "_") && Nat.beq f.offset i && notAgg P f.type && isIntT P f.type q && mixFields P (i + 1) fs qs
  | _, _, _ => false
structure MixT (P : Program) (xt : TypeId) (qs : List IntKind) : Prop where
  str : P.underlying xt = some (.struct (P.fieldsOf xt))
  held : P.stoodInHeld xt = false
  flds : mixFields P 0 (P.fieldsOf xt).toList qs = true
  guard : P.eqGuardType P.depth xt = false
inductive Told (P : Program) : AV → (Int → Int → Bool) → Prop where
  | nil : Told P (.v .nilFunc) (fun _ _ => false)
  | fn {f : FuncId} {caps : List AV} {told : Int → Int → Bool} (hen : entersT P f) (h : ∀ a b, 0 ≤ a → 0 ≤ b → AC P f ([.v (.int .u64 a), .v (.int .u64 b)] ++ caps) [] (fun r n => n = [] ∧ r = .v (.bool (told a b)))) : Told P (.fn f caps) told
theorem SV.le.ownEq {tok sz : Nat} {l l' : List (List AV)} (h : l = l') : SV.le (.own tok sz l) (.a (.sl sz l')) := h ▸ .ownSl tok sz l
end Go.Proofs.Ytnbnegkdbjdekaa.A
namespace Go.Proofs.Ytnbnegkdbjdekaa.A
open Go Go.RowKit
set_option linter.unusedSectionVars false
variable [Thr]
set_option linter.unusedVariables false
set_option linter.unusedSimpArgs false
set_option linter.unusedSectionVars false
variable {P : Program} {w0 : Base} {C0 C : CS} {T : TS} {S S' : AState} {a : Act} {w : World} {ops : Array Oper} {rest : List Oper} {o : Oper} {Q : Exit → AState → Prop}
variable {t : Nat} {ty ty' : TypeId} {pos : String} {aft : Array Edge}
theorem awl_ownbuf (t : Nat) {tok sz : Nat} {l : List (List AV)} {lst : List Oper} (hg : S.get t = some (.own tok sz l)) (hflat : ∀ cs ∈ l, ∀ c ∈ cs, ∃ v, c = AV.v v) (htn : Nat.blt t S.nt = true)
    (h0 : l = [] → AWL P w0 C0 ops lst Q ⟨S.nt, [(t, .a (.v (.slice none 0 0)))], []⟩)
    (h1 : ∀ g cap e, AWL P w0 C0 ops lst Q ⟨S.nt, [(t, .a (.v (.slice (some ⟨g, 0, none⟩) l.length cap)))], [⟨g, true, .buf sz l cap e⟩]⟩) : AWL P w0 C0 ops lst Q S := by
  rintro a w ⟨C, T, hs⟩
  have hone : ∀ (x : Nat) (u : Value) (S1 : List (Nat × SV)), S1 = [(t, .a (.v u))] → a.tmps.getD t undef = u → ∀ C T, ∀ t' x', find t' S1 = some x' → SRel C T x' (a.tmps.getD t' undef) := by
    intro _ u S1 e1 e2 C T t' x' hx'
    subst e1
    rw [find_cons] at hx'
    split at hx'
    · rename_i e; subst e; cases hx'; rw [e2]; exact srel_v _
    · cases hx'
  rcases hs.slots t _ hg with ⟨hl, hu⟩ | ⟨b, cap, e, hT, hcap, hu, hrow⟩
  · refine h0 hl a w ⟨C, fun _ => none, ?_⟩
    exact ⟨hs.below, hs.com, hs.one, hs.old, by simp, by simp, by simp, by simp, hs.size, hone 0 _ _ rfl hu _ _, hs.defers, hs.dr⟩
  · refine h1 b cap e a w ⟨fun b' o => if b' = b then none else C b' o, fun _ => none, ?_⟩
    obtain ⟨⟨k1, k2, ⟨arr, k3, k4⟩, k5⟩, _⟩ := hs.toks _ _ hT
    simp only at k1 k2 k3 k4 k5
    have hfit : l.length * sz ≤ cap * sz := Nat.mul_le_mul_right _ hcap
    refine ⟨hs.below, fun b' o v h => ?_, fun b' o v h => ?_, fun b' o hb hn => ?_, fun e' he => ?_, by simp, by simp, by simp, hs.size, hone 0 _ _ rfl hu _ _, hs.defers, hs.dr⟩
    · split at h
      · cases h
      · exact hs.com _ _ _ h
    · split at h
      · cases h
      · exact hs.one _ _ _ h
    · have : ¬ b' = b := by omega
      simp only [this, if_false]; exact hs.old _ _ hb hn
    · obtain rfl := List.mem_singleton.1 he
      refine ⟨⟨arr, k3, k4, hcap, hrow.1, arr.toList.take (l.length * sz), ⟨?_, ?_⟩, ?_, rfl⟩, fun o => by simp, fun _ => .inl k1⟩
      · have k4' : arr.toList.length = cap * sz := by simpa using k4
        rw [List.length_take, flat_len hrow.1, k4']; omega
      · intro j c u hc hu'
        obtain ⟨cs, hcs, hcm⟩ := List.mem_flatten.1 (List.mem_of_getElem? hc)
        obtain ⟨v, rfl⟩ := hflat cs hcs c hcm
        have hjl := (List.getElem?_eq_some_iff.1 hc).1
        obtain ⟨ws, w1, w2, w3⟩ := hrow.vals
        have hws := w1.2 j (.v v)
        have hjw : j < ws.length := by rw [w1.1]; exact hjl
        have h3 := w3 j _ (List.getElem?_eq_getElem hjw)
        have h4 := (hs.com _ _ _ h3).cell
        rw [cell_of_row w b (0 + j) arr e (0, 0) k3] at h4
        rw [flat_len hrow.1] at hjl
        rw [List.getElem?_take, if_pos hjl] at hu'
        have h5 := hws ws[j] hc (List.getElem?_eq_getElem hjw)
        cases h5
        rw [Nat.zero_add] at h4
        have : some u = some (ws[j]) := by rw [← hu', ← h4]; simp
        cases this
        exact .v _
      · intro v hv
        obtain ⟨j, hj⟩ := List.getElem?_of_mem hv
        obtain ⟨ws, w1, w2, w3⟩ := hrow.vals
        have hjl := (List.getElem?_eq_some_iff.1 hj).1
        rw [List.length_take] at hjl
        have hjw : j < ws.length := by rw [w2]; omega
        have h3 := w3 j _ (List.getElem?_eq_getElem hjw)
        have h4 := (hs.com _ _ _ h3).cell
        rw [cell_of_row w b (0 + j) arr e (0, 0) k3, Nat.zero_add] at h4
        rw [List.getElem?_take, if_pos (by omega)] at hj
        have : some v = some (ws[j]) := by rw [← hj, ← h4]; simp
        cases this
        exact hs.one _ _ _ h3
end Go.Proofs.Ytnbnegkdbjdekaa.A
namespace Go.Proofs.Ytnbnegkdbjdekaa.A
open Go Go.RowKit
set_option linter.unusedSectionVars false
variable [Thr]
set_option linter.unusedVariables false
set_option linter.unusedSimpArgs false
set_option linter.unusedSectionVars false
variable {P : Program} {w0 : Base} {C0 C : CS} {T : TS} {S S' : AState} {a : Act} {w : World} {ops : Array Oper} {rest : List Oper} {o : Oper} {Q : Exit → AState → Prop}
variable {t : Nat} {ty ty' : TypeId} {pos : String} {aft : Array Edge}
theorem r_lenV {x : Operand} {A : Option Addr} {n cap : Nat} {st e : TypeId} (hx : S.ev x = some (.a (.v (.slice A n cap)))) (hst : sliceT P st = some e) (ht : Nat.blt t S.nt = true)
    (hr : AWL P w0 C0 ops rest Q (S.put t (.a (.v (.int .i64 n))))) : AWL P w0 C0 ops (⟨some t, .call ⟨.builtin .len, #[x], #[st]⟩, ty, pos, aft, none⟩ :: rest) Q S :=
  awl_pure ht (fun C T a w hs => ⟨.int .i64 n, by simp [execOp, resolve, invoke, builtin, Builtin.len_, Builtin.lenOf, hs.evv hx, run_underlying (sliceT_un hst), Sem.run_bind, Result.andThen, goInt], srel_v _⟩) hr
theorem r_indexV {st e : TypeId} {sz g off n cap : Nat} {x y : Operand} {k : IntKind} {i : Int} (hx : S.ev x = some (.a (.v (.slice (some ⟨g, off, none⟩) n cap)))) (hy : S.ev y = some (.a (.v (.int k i)))) (hst : sliceT P st = some e) (hsz : szT P e = some sz) (h0 : 0 ≤ i) (h1 : i < n) (ht : Nat.blt t S.nt = true)
    (hr : AWL P w0 C0 ops rest Q (S.put t (.a (.v (.pointer (some ⟨g, off + i.toNat * sz, none⟩)))))) : AWL P w0 C0 ops (⟨some t, .indexAddr st x y, ty, pos, aft, none⟩ :: rest) Q S :=
  awl_pure ht (fun C T a w hs => ⟨_, by simp [execOp, hs.evv hx, hs.evv hy, run_indexAt_slice hst hsz h0 h1], srel_v _⟩) hr
theorem sliceT_el {st e : TypeId} (hst : sliceT P st = some e) : P.underlying st = some (.slice (P.elem st)) ∧ P.elem st = e := by
  have h := sliceT_un hst
  have : P.elem st = e := by simp [Program.elem, h]
  exact ⟨by rw [this]; exact h, this⟩
theorem r_sliceVL {st e : TypeId} {sz g off n cap : Nat} {x y : Operand} {k : IntKind} {lo : Int} (hx : S.ev x = some (.a (.v (.slice (some ⟨g, off, none⟩) n cap)))) (hy : S.ev y = some (.a (.v (.int k lo)))) (hst : sliceT P st = some e) (hsz : szT P e = some sz) (h0 : 0 ≤ lo) (h1 : lo ≤ n) (hc : n ≤ cap) (ht : Nat.blt t S.nt = true)
    (hr : ∀ A : Addr, (lo.toNat < n → A = ⟨g, off + lo.toNat * sz, none⟩) → AWL P w0 C0 ops rest Q (S.put t (.a (.v (.slice (some A) (n - lo.toNat) (cap - lo.toNat)))))) : AWL P w0 C0 ops (⟨some t, .slice st x (some y) none none, ty, pos, aft, none⟩ :: rest) Q S :=
  have hr' := hr (if cap = lo.toNat then ⟨g, off, none⟩ else ⟨g, off + lo.toNat * sz, none⟩) (fun h => if_neg (by omega))
  awl_pure ht (fun C T a w hs => by
    obtain ⟨hu', he⟩ := sliceT_el hst
    have hrun := (run_sliceAt_slice w st (.slice (some ⟨g, off, none⟩) n cap) _ _ _ hu').trans (run_slice_l w st (some ⟨g, off, none⟩) n cap hu' k lo h0 h1)
    rw [he, run_sz hsz] at hrun
    simp only [Result.andThen] at hrun
    refine ⟨sliced (some ⟨g, off, none⟩) lo.toNat n cap sz, by simp [execOp, hs.evv hx, hs.evv hy, hrun], ?_⟩
    have hv : sliced (some ⟨g, off, none⟩) lo.toNat n cap sz = .slice (some (if cap = lo.toNat then ⟨g, off, none⟩ else ⟨g, off + lo.toNat * sz, none⟩)) (n - lo.toNat) (cap - lo.toNat) := by
      unfold sliced
      split <;> simp [*, addr_add]
    rw [hv]; exact srel_v _) hr'
theorem r_sliceVH {st e : TypeId} {sz g off n cap : Nat} {x y : Operand} {k : IntKind} {hi : Int} (hx : S.ev x = some (.a (.v (.slice (some ⟨g, off, none⟩) n cap)))) (hy : S.ev y = some (.a (.v (.int k hi)))) (hst : sliceT P st = some e) (hsz : szT P e = some sz) (h0 : 0 ≤ hi) (h1 : hi ≤ cap) (ht : Nat.blt t S.nt = true)
    (hr : AWL P w0 C0 ops rest Q (S.put t (.a (.v (.slice (some ⟨g, off, none⟩) hi.toNat cap))))) : AWL P w0 C0 ops (⟨some t, .slice st x none (some y) none, ty, pos, aft, none⟩ :: rest) Q S :=
  awl_pure ht (fun C T a w hs => by
    obtain ⟨hu', he⟩ := sliceT_el hst
    have hrun := (run_sliceAt_slice w st (.slice (some ⟨g, off, none⟩) n cap) _ _ _ hu').trans (run_slice_h w st (some ⟨g, off, none⟩) n cap hu' k hi h0 h1)
    rw [he, run_sz hsz] at hrun
    simp only [Result.andThen] at hrun
    refine ⟨sliced (some ⟨g, off, none⟩) 0 hi.toNat cap sz, by simp [execOp, hs.evv hx, hs.evv hy, hrun], ?_⟩
    have hv : sliced (some ⟨g, off, none⟩) 0 hi.toNat cap sz = .slice (some ⟨g, off, none⟩) hi.toNat cap := by
      unfold sliced
      split <;> simp [*, addr_add]
    rw [hv]; exact srel_v _) hr
theorem r_sliceVLH {st e : TypeId} {sz g off n cap : Nat} {x y z : Operand} {k k' : IntKind} {lo hi : Int} (hx : S.ev x = some (.a (.v (.slice (some ⟨g, off, none⟩) n cap)))) (hy : S.ev y = some (.a (.v (.int k lo)))) (hz : S.ev z = some (.a (.v (.int k' hi)))) (hst : sliceT P st = some e) (hsz : szT P e = some sz) (h0 : 0 ≤ lo) (h01 : lo ≤ hi) (h1 : hi ≤ cap) (ht : Nat.blt t S.nt = true)
    (hr : ∀ A : Addr, (lo.toNat < hi.toNat → A = ⟨g, off + lo.toNat * sz, none⟩) → AWL P w0 C0 ops rest Q (S.put t (.a (.v (.slice (some A) (hi.toNat - lo.toNat) (cap - lo.toNat)))))) : AWL P w0 C0 ops (⟨some t, .slice st x (some y) (some z) none, ty, pos, aft, none⟩ :: rest) Q S :=
  have hr' := hr (if cap = lo.toNat then ⟨g, off, none⟩ else ⟨g, off + lo.toNat * sz, none⟩) (fun h => if_neg (by omega))
  awl_pure ht (fun C T a w hs => by
    obtain ⟨hu', he⟩ := sliceT_el hst
    have hrun := (run_sliceAt_slice w st (.slice (some ⟨g, off, none⟩) n cap) _ _ _ hu').trans (run_slice_lh w st (some ⟨g, off, none⟩) n cap hu' k k' lo hi h0 h01 h1)
    rw [he, run_sz hsz] at hrun
    simp only [Result.andThen] at hrun
    refine ⟨sliced (some ⟨g, off, none⟩) lo.toNat hi.toNat cap sz, by simp [execOp, hs.evv hx, hs.evv hy, hs.evv hz, hrun], ?_⟩
    have hv : sliced (some ⟨g, off, none⟩) lo.toNat hi.toNat cap sz = .slice (some (if cap = lo.toNat then ⟨g, off, none⟩ else ⟨g, off + lo.toNat * sz, none⟩)) (hi.toNat - lo.toNat) (cap - lo.toNat) := by
      unfold sliced
      split <;> simp [*, addr_add]
    rw [hv]; exact srel_v _) hr'
theorem r_sliceV3 {st e : TypeId} {sz g off n cap : Nat} {x y z u : Operand} {k k' k2 : IntKind} {lo hi mx : Int} (hx : S.ev x = some (.a (.v (.slice (some ⟨g, off, none⟩) n cap)))) (hy : S.ev y = some (.a (.v (.int k lo)))) (hz : S.ev z = some (.a (.v (.int k' hi)))) (hu : S.ev u = some (.a (.v (.int k2 mx)))) (hst : sliceT P st = some e) (hsz : szT P e = some sz) (h0 : 0 ≤ lo) (h01 : lo ≤ hi) (h1 : hi ≤ mx) (h2 : mx ≤ cap) (ht : Nat.blt t S.nt = true)
    (hr : ∀ v : Value, AWL P w0 C0 ops rest Q (S.put t (.a (.v v)))) : AWL P w0 C0 ops (⟨some t, .slice st x (some y) (some z) (some u), ty, pos, aft, none⟩ :: rest) Q S :=
  have hr' := hr (sliced (some ⟨g, off, none⟩) lo.toNat hi.toNat mx.toNat sz)
  awl_pure ht (fun C T a w hs => by
    obtain ⟨hu', he⟩ := sliceT_el hst
    have hrun := (run_sliceAt_slice w st (.slice (some ⟨g, off, none⟩) n cap) _ _ _ hu').trans (run_slice_lhm w st (some ⟨g, off, none⟩) n cap hu' k k' k2 lo hi mx h0 h01 h1 h2)
    rw [he, run_sz hsz] at hrun
    simp only [Result.andThen] at hrun
    refine ⟨sliced (some ⟨g, off, none⟩) lo.toNat hi.toNat mx.toNat sz, by simp [execOp, hs.evv hx, hs.evv hy, hs.evv hz, hs.evv hu, hrun], ?_⟩
    exact srel_v _) hr'
theorem box_get {C : CS} {cs : List AV} {arr : Array Value} (h : Rels C cs arr.toList) : arr.size = cs.length := by have := h.1; simpa using this
theorem rels_vals {C : CS} (vs : List Value) : Rels C (vs.map AV.v) vs := ⟨by simp, fun j c u h1 h2 => by rw [List.getElem?_map, h2] at h1; simp at h1; subst h1; exact .v _⟩
theorem r_clear (i : Nat) {x : Operand} {A : Addr} {m c g off : Nat} {cs : List AV} {st e : TypeId} {zs : List Value} (hx : S.ev x = some (.a (.v (.slice (some A) m c)))) (hA : 0 < m → A = ⟨g, off, none⟩) (hi : S.objs[i]? = some ⟨g, true, .box cs⟩)
    (hst : sliceT P st = some e) (hz : zeroT P e = some zs) (hz1 : zs.length = 1) (hz2 : ∀ z ∈ zs, z.oneCell' = true) (hl : off + m ≤ cs.length)
    (hr : ∀ ext : List AV, ext.length = m → AWL P w0 C0 ops rest Q ⟨S.nt, S.slots, S.objs.set i ⟨g, true, .box (cs.take off ++ ext ++ cs.drop (off + m))⟩⟩) :
    AWL P w0 C0 ops (⟨none, .call ⟨.builtin .clear, #[x], #[st]⟩, ty, pos, aft, none⟩ :: rest) Q S := by
  rintro a w ⟨C, T, hs⟩
  obtain ⟨arr, t0, g1, g2⟩ := (hs.objs _ (mem_of_get hi)).1
  have harr := box_get g2
  refine wpList_plain rfl (fun K hK => ?_)
  unfold Oper.wp
  by_cases hm : m = 0
  · subst hm
    have hexec : (execOp a.eval ⟨none, .call ⟨.builtin .clear, #[x], #[st]⟩, ty, pos, aft, none⟩).run P w = .ok (.value (.tuple #[])) w := by
      simp [execOp, resolve, invoke, builtin, hs.evv hx, Builtin.clear_, run_underlying (sliceT_un hst), Sem.run_bind, Result.andThen]
    rw [hexec]
    refine hK _ _ (hr [] rfl _ _ ⟨C, T, ?_⟩)
    have : S.objs.set i ⟨g, true, .box (cs.take off ++ [] ++ cs.drop (off + 0))⟩ = S.objs := by
      apply List.ext_getElem?
      intro j
      rw [List.getElem?_set]
      by_cases hij : i = j
      · subst hij; rw [if_pos rfl]; split
        · rw [hi]; simp
        · rename_i h; rw [List.getElem?_eq_none (by omega)]
      · simp [hij]
    rw [this]
    exact hs
  · obtain rfl := hA (by omega)
    obtain ⟨z, hzz, hzc⟩ := run_zero hz w
    have hvs : (Builtin.zeroCells z.cells m).toList.length = m := by rw [Array.length_toList, size_zeroCells, hzc]; simp [hz1]
    have hone : ∀ v ∈ (Builtin.zeroCells z.cells m).toList, v.oneCell' = true := by
      intro v hv
      rw [hzc] at hv
      simp only [Builtin.zeroCells, Array.toList_map, List.mem_map, Array.mem_toList_iff] at hv
      obtain ⟨q, hq, rfl⟩ := hv
      have hlt : q % zs.toArray.size < zs.toArray.size := Nat.mod_lt _ (by simp [hz1])
      rw [getElem!_pos zs.toArray _ hlt]
      exact hz2 _ (by simp)
    have hst' := run_storeCells_at P g off t0 (Builtin.zeroCells z.cells m).toList 0 arr w g1 (by rw [hvs, harr]; omega) hone
    simp only [Nat.add_zero, hvs] at hst'
    have hexec : (execOp a.eval ⟨none, .call ⟨.builtin .clear, #[x], #[st]⟩, ty, pos, aft, none⟩).run P w = .ok (.value (.tuple #[])) (w.setRow g (arr.toList.take off ++ (Builtin.zeroCells z.cells m).toList ++ arr.toList.drop (off + m)).toArray) := by
      obtain ⟨m', rfl⟩ : ∃ m', m = m' + 1 := ⟨m - 1, by omega⟩
      simp [execOp, resolve, invoke, builtin, hs.evv hx, Builtin.clear_, run_underlying (sliceT_un hst), Sem.run_bind, Result.andThen, hzz, hst']
    rw [hexec]
    refine hK _ _ (hr ((Builtin.zeroCells z.cells m).toList.map AV.v) (by rw [List.length_map, hvs]) _ _ ⟨C, T, ?_⟩)
    have r1 := rels_take_drop g2 0 off
    have r2 := rels_take_drop g2 (off + m) cs.length
    simp only [List.drop_zero] at r1
    rw [List.take_of_length_le (by simp), List.take_of_length_le (by simp; omega)] at r2
    exact hs.setObj hi (w' := w.setRow g (arr.toList.take off ++ (Builtin.zeroCells z.cells m).toList ++ arr.toList.drop (off + m)).toArray) (Nat.le_refl _) rfl rfl rfl (by simp) (fun k hk => setRow_other w g k _ hk) ⟨_, t0, setRow_heap w g arr _ t0 _ g1, by simpa using (r1.append (rels_vals _)).append r2⟩
theorem r_appendV (i : Nat) {x y : Operand} {g n m cap c off : Nat} {A : Addr} {cs : List AV} {st e : TypeId} (hx : S.ev x = some (.a (.v (.slice (some ⟨g, 0, none⟩) n cap)))) (hy : S.ev y = some (.a (.v (.slice (some A) m c)))) (hA : 0 < m → A = ⟨g, off, none⟩) (hi : S.objs[i]? = some ⟨g, true, .box cs⟩)
    (hst : sliceT P st = some e) (hsz : szT P e = some 1) (h1 : ((cs.drop off).take m).all AV.one = true) (hroom : n + m ≤ cap) (hl : n + m ≤ cs.length) (hl2 : off + m ≤ cs.length) (ht : Nat.blt t S.nt = true)
    (hr : AWL P w0 C0 ops rest Q (AState.put ⟨S.nt, S.slots, S.objs.set i ⟨g, true, .box (cs.take n ++ (cs.drop off).take m ++ cs.drop (n + m))⟩⟩ t (.a (.v (.slice (some ⟨g, 0, none⟩) (n + m) cap))))) :
    AWL P w0 C0 ops (⟨some t, .call ⟨.builtin .append, #[x, y], #[st, st]⟩, ty, pos, aft, none⟩ :: rest) Q S := by
  rintro a w ⟨C, T, hs⟩
  obtain ⟨arr, t0, g1, g2⟩ := (hs.objs _ (mem_of_get hi)).1
  have harr := box_get g2
  refine wpList_plain rfl (fun K hK => ?_)
  unfold Oper.wp
  have hexec : ∀ (v : Value) (w' : World), (Builtin.append_ #[st, st] ty #[a.eval x, a.eval y]).run P w = .ok v w' → (execOp a.eval ⟨some t, .call ⟨.builtin .append, #[x, y], #[st, st]⟩, ty, pos, aft, none⟩).run P w = .ok (.value v) w' := by
    intro v w' h
    simp [execOp, resolve, invoke, builtin, h]
  rw [hs.evv hx, hs.evv hy] at hexec
  by_cases hm : m = 0
  · subst hm
    have hrun := run_append_zero (P := P) (w := w) (ty := ty) hst hsz (some ⟨g, 0, none⟩) (some A) n cap c (by omega)
    rw [hexec _ _ hrun]
    refine hK _ _ ?_
    have : S.objs.set i ⟨g, true, .box (cs.take n ++ (cs.drop off).take 0 ++ cs.drop (n + 0))⟩ = S.objs := by
      apply List.ext_getElem?
      intro j
      rw [List.getElem?_set]
      by_cases hij : i = j
      · subst hij; rw [if_pos rfl]; split
        · rw [hi]; simp
        · rename_i h; rw [List.getElem?_eq_none (by omega)]
      · simp [hij]
    rw [this] at hr
    exact hr _ _ ⟨C, T, hs.put ht (srel_v _)⟩
  · obtain rfl := hA (by omega)
    have hnl : ((arr.toList.drop off).take m).length = m * 1 := by simp [harr]; omega
    have hws : ∀ (j : Nat) (v : Value), ((arr.toList.drop off).take m)[j]? = some v → w.cell? ((⟨g, off, none⟩ : Addr).add j) = some v := fun j v hj => by
      rw [List.getElem?_take] at hj
      split at hj
      · rw [List.getElem?_drop] at hj
        rw [addr_add, cell_of_row w g (off + j) arr t0 (0, 0) g1]; simpa using hj
      · cases hj
    have hone : ∀ v ∈ (arr.toList.drop off).take m, v.oneCell' = true := (rels_take_drop g2 off m).ones h1
    have hrun := run_append_room' (P := P) (w := w) (ty := ty) hst hsz t0 g n cap arr g1 ⟨g, off, none⟩ m c _ hnl hws hone hroom (by rw [hnl, harr]; omega)
    rw [Nat.mul_one, hnl, Nat.mul_one] at hrun
    rw [hexec _ _ hrun]
    refine hK _ _ (hr _ _ ⟨C, T, SimC.put ?_ ht (srel_v _)⟩)
    have r1 := rels_take_drop g2 0 n
    have r3 := rels_take_drop g2 off m
    have r2 := rels_take_drop g2 (n + m) cs.length
    simp only [List.drop_zero] at r1
    rw [List.take_of_length_le (by simp), List.take_of_length_le (by simp; omega)] at r2
    exact hs.setObj hi (w' := w.setRow g (arr.toList.take n ++ (arr.toList.drop off).take m ++ arr.toList.drop (n + m)).toArray) (Nat.le_refl _) rfl rfl rfl (by simp) (fun k hk => setRow_other w g k _ hk) ⟨_, t0, setRow_heap w g arr _ t0 _ g1, by simpa using (r1.append r3).append r2⟩
theorem r_sliceVLd {st e : TypeId} {sz g off n cap : Nat} {x y : Operand} {k : IntKind} {lo : Int} (hx : S.ev x = some (.a (.v (.slice (some ⟨g, off, none⟩) n cap)))) (hy : S.ev y = some (.a (.v (.int k lo)))) (hst : sliceT P st = some e) (hsz : szT P e = some sz) (h0 : 0 ≤ lo) (h1 : lo ≤ n) (hc : n ≤ cap) (ht : Nat.blt t S.nt = true)
    (hr : AWL P w0 C0 ops rest Q (S.put t (.a (.v (.slice (some (if cap = lo.toNat then ⟨g, off, none⟩ else ⟨g, off + lo.toNat * sz, none⟩)) (n - lo.toNat) (cap - lo.toNat)))))) : AWL P w0 C0 ops (⟨some t, .slice st x (some y) none none, ty, pos, aft, none⟩ :: rest) Q S :=
  awl_pure ht (fun C T a w hs => by
    obtain ⟨hu', he⟩ := sliceT_el hst
    have hrun := (run_sliceAt_slice w st (.slice (some ⟨g, off, none⟩) n cap) _ _ _ hu').trans (run_slice_l w st (some ⟨g, off, none⟩) n cap hu' k lo h0 h1)
    rw [he, run_sz hsz] at hrun
    simp only [Result.andThen] at hrun
    refine ⟨sliced (some ⟨g, off, none⟩) lo.toNat n cap sz, by simp [execOp, hs.evv hx, hs.evv hy, hrun], ?_⟩
    have hv : sliced (some ⟨g, off, none⟩) lo.toNat n cap sz = .slice (some (if cap = lo.toNat then ⟨g, off, none⟩ else ⟨g, off + lo.toNat * sz, none⟩)) (n - lo.toNat) (cap - lo.toNat) := by
      unfold sliced
      split <;> simp [*, addr_add]
    rw [hv]; exact srel_v _) hr
theorem imp_boxEq (i : Nat) {g : Nat} {cs : List AV} (cs' : List AV) (hi : S.objs[i]? = some ⟨g, true, .box cs⟩) (h : cs = cs') : Imp w0 C0 S ⟨S.nt, S.slots, S.objs.set i ⟨g, true, .box cs'⟩⟩ := by
  subst h
  have : S.objs.set i ⟨g, true, .box cs⟩ = S.objs := by
    apply List.ext_getElem?
    intro j
    rw [List.getElem?_set]
    by_cases hij : i = j
    · subst hij; rw [if_pos rfl]; split
      · exact hi.symm
      · rename_i h; rw [List.getElem?_eq_none (by omega)]
    · simp [hij]
  rw [this]
  exact fun a w h => h
section
variable {K α : Type} [DecidableEq K] {ek : K → Value} {ev : α → AV} {kt et : TypeId}
theorem mfind_del_none : ∀ (m : List (K × α)) (k : K), mfind (m.map (·.1)) k = none → mdel m k = m
  | [], k, _ => rfl
  | (x, u) :: r, k, h => by
    by_cases hx : x = k
    · simp [mfind, hx] at h
    · simp [mfind, hx] at h
      simp [mdel, hx, mfind_del_none r k (by simpa using h)]
theorem mfind_del_some : ∀ (m : List (K × α)) (k : K) (i : Nat), mfind (m.map (·.1)) k = some i → mdel m k = m.eraseIdx i
  | [], k, i, h => by simp [mfind] at h
  | (x, u) :: r, k, i, h => by
    by_cases hx : x = k
    · simp [mfind, hx] at h
      subst h; subst hx; simp [mdel]
    · cases hr : mfind (r.map (·.1)) k with
      | none => simp [mfind, hx, hr] at h
      | some j =>
        simp [mfind, hx, hr] at h
        subst h
        simp [mdel, hx, mfind_del_some r k j hr]
theorem mdel_sub : ∀ (m : List (K × α)) (k : K), (mdel m k).Sublist m
  | [], k => .slnil
  | (x, u) :: r, k => by
    unfold mdel
    split
    · exact .cons _ (.refl _)
    · exact (mdel_sub r k).cons_cons _
theorem mget_mdel : ∀ (m : List (K × α)) (k k' : K), (m.map (·.1)).Nodup → mget (mdel m k) k' = if k = k' then none else mget m k'
  | [], k, k', _ => by simp [mdel, mget]
  | (x, u) :: r, k, k', h => by
    rw [List.map_cons, List.nodup_cons] at h
    by_cases hx : x = k
    · subst hx
      simp only [mdel, if_true]
      by_cases hk : x = k'
      · subst hk
        rw [if_pos rfl]
        exact mget_none.2 h.1
      · simp [mget, hk]
    · simp only [mdel, hx, if_false]
      have ih := mget_mdel r k k' h.2
      by_cases hxk : x = k'
      · subst hxk
        have : ¬ k = x := fun e => hx e.symm
        simp [mget, this]
      · simp [mget, hxk, ih]
theorem rels_erase {C : CS} {cs : List AV} {vs : List Value} (h : Rels C cs vs) (i : Nat) : Rels C (cs.eraseIdx i) (vs.eraseIdx i) := by
  refine ⟨by rw [List.length_eraseIdx, List.length_eraseIdx, h.1], fun j c u h1 h2 => ?_⟩
  rw [List.getElem?_eraseIdx] at h1 h2
  split at h1
  · rename_i hj; rw [if_pos hj] at h2; exact h.2 _ _ _ h1 h2
  · rename_i hj; rw [if_neg hj] at h2; exact h.2 _ _ _ h1 h2
theorem map_erase {α β : Type} (f : α → β) : ∀ (l : List α) (i : Nat), (l.eraseIdx i).map f = (l.map f).eraseIdx i
  | [], i => by simp
  | x :: l, 0 => by simp
  | x :: l, i + 1 => by simp [map_erase f l i]
theorem run_del (KE : KeyEnc P kt ek) {mt kty : TypeId} (hmt : mapT P mt = some (kt, et)) {b : Nat} {m : List (K × α)} (h : ObjRel C b (.map (encM ek ev m)) w) (k : K) :
    ∃ ents' clock', (Builtin.delete_ #[mt, kty] ty #[.map (some b), ek k]).run P w = .ok (.tuple #[]) { w with heap := w.heap.setIfInBounds b (.map ents' clock') } ∧
      ents'.toList.map (·.key) = (encM ek ev (mdel m k)).map (·.1) ∧ Rels C ((encM ek ev (mdel m k)).map (·.2)) (ents'.toList.map (·.val)) ∧ (ents'.toList.map (·.born)).Pairwise (· < ·) ∧ ∀ e ∈ ents'.toList, e.born < clock' := by
  obtain ⟨ents, clock, h1, h2, h3, h4, h5⟩ := map_ents h
  have hf := KE.find ents.toList (m.map (·.1)) k w h2
  have hc := fun e => KE.check e k w
  have e1 : (encM ek ev (mdel m k)).map (·.1) = ((mdel m k).map (·.1)).map ek := by simp [encM]
  have e2 : (encM ek ev (mdel m k)).map (·.2) = (mdel m k).map fun p => ev p.2 := by simp [encM]
  rw [e1, e2]
  cases hm : mfind (m.map (·.1)) k with
  | none =>
    refine ⟨ents, clock, ?_, ?_, ?_, h4, h5⟩
    · simp [Builtin.delete_, run_underlying (mapT_un hmt), run_getMap h1, run_setMap h1, hc, hf, hm]
    · rw [mfind_del_none m k hm]; exact h2
    · rw [mfind_del_none m k hm]; exact h3
  | some i =>
    have hi : i < m.length := by
      have : ∀ (m : List (K × α)) (i : Nat), mfind (m.map (·.1)) k = some i → i < m.length := by
        intro m
        induction m with
        | nil => intro i h; simp [mfind] at h
        | cons p r ih =>
          intro i h
          by_cases hx : p.1 = k
          · simp [mfind, hx] at h; subst h; simp
          · cases hr : mfind (r.map (·.1)) k with
            | none => simp [mfind, hx, hr] at h
            | some j => simp [mfind, hx, hr] at h; subst h; have := ih j hr; simp; omega
      exact this m i hm
    have hil : i < ents.toList.length := by have := congrArg List.length h2; simp at this; simp; omega
    obtain ⟨e0, hei⟩ : ∃ e0, ents.toList[i]? = some e0 := ⟨_, List.getElem?_eq_getElem hil⟩
    have hei' : ents[i]? = some e0 := by simpa using hei
    have htl : (ents.eraseIdxIfInBounds i).toList = ents.toList.eraseIdx i := by
      have hil2 : i < ents.size := by simpa using hil
      simp [Array.eraseIdxIfInBounds, hil2]
    refine ⟨ents.eraseIdxIfInBounds i, clock, ?_, ?_, ?_, ?_, ?_⟩
    · simp [Builtin.delete_, run_underlying (mapT_un hmt), run_getMap h1, run_setMap h1, hc, hf, hm, hei']
    · rw [htl, mfind_del_some m k i hm, map_erase, map_erase, map_erase, h2]
    · rw [htl, mfind_del_some m k i hm, map_erase, map_erase]; exact rels_erase h3 i
    · rw [htl]; exact h4.sublist ((List.eraseIdx_sublist _ _).map _)
    · intro e he
      rw [htl] at he
      exact h5 e ((List.eraseIdx_sublist _ _).mem he)
theorem r_delete (i : Nat) (KE : KeyEnc P kt ek) {x y : Operand} {b : Nat} {m : List (K × α)} {k : K} {mt kty : TypeId} (hx : S.ev x = some (.a (.v (.map (some b))))) (hi : S.objs[i]? = some ⟨b, true, .map (encM ek ev m)⟩) (hy : S.ev y = some (.a (.v (ek k)))) (hmt : mapT P mt = some (kt, et))
    (hr : AWL P w0 C0 ops rest Q ⟨S.nt, S.slots, S.objs.set i ⟨b, true, .map (encM ek ev (mdel m k))⟩⟩) : AWL P w0 C0 ops (⟨none, .call ⟨.builtin .delete, #[x, y], #[mt, kty]⟩, ty, pos, aft, none⟩ :: rest) Q S := by
  rintro a w ⟨C, T, hs⟩
  have hob : ObjRel C b (.map (encM ek ev m)) w := (hs.objs _ (mem_of_get hi)).1
  have hb : b < w.heap.size := hs.objlt (mem_of_get hi)
  obtain ⟨ents', clock', hrun, g1, g2, g3⟩ := run_del (ty := ty) (kty := kty) KE hmt hob k
  refine wpList_plain rfl (fun K hK => ?_)
  unfold Oper.wp
  have hexec : (execOp a.eval ⟨none, .call ⟨.builtin .delete, #[x, y], #[mt, kty]⟩, ty, pos, aft, none⟩).run P w = .ok (.value (.tuple #[])) { w with heap := w.heap.setIfInBounds b (.map ents' clock') } := by
    simp [execOp, resolve, invoke, builtin, hs.evv hx, hs.evv hy, hrun]
  rw [hexec]
  exact hK _ _ (hr _ _ ⟨C, T, hs.setObj hi (Nat.le_refl _) rfl rfl rfl (by simp) (fun j hj => by rw [Array.getElem?_setIfInBounds, if_neg (fun e : b = j => hj e.symm)]) ⟨ents', clock', by simp [hb], g1, g2, g3⟩⟩)
end
end Go.Proofs.Ytnbnegkdbjdekaa.A
namespace Go.Proofs.Ytnbnegkdbjdekaa.A
open Go Go.RowKit Go.Maps Go.Sort
set_option linter.unusedSectionVars false
variable [Thr]
set_option linter.unusedVariables false
set_option linter.unusedSimpArgs false
set_option linter.unusedSectionVars false
variable {P : Program} {w0 : Base} {C0 C : CS} {T : TS} {S S' : AState} {a : Act} {w : World} {ops : Array Oper} {rest : List Oper} {o : Oper} {Q : Exit → AState → Prop}
def bts (l : List UInt8) : AV := .sl 1 (u8s l)
structure File where
  name : ByteArray
  data : List UInt8
def File.cs (f : File) : List AV := [.v (.string f.name), bts f.data]
def files (l : List File) : AV := .sl 2 (l.map File.cs)
structure FC where
  kind : Int
  name : ByteArray
  to : ByteArray
  data : List UInt8
def FC.cs (c : FC) : List AV := [.v (.int .i64 c.kind), .v (.string c.name), .v (.string c.to), bts c.data]
def fcsA (l : List FC) : AV := .sl 4 (l.map FC.cs)
def strA (s : ByteArray) : AV := .v (.string s)
def boolA (b : Bool) : AV := .v (.bool b)
def E0 : ByteArray := ⟨#[]⟩
def strsC (l : List ByteArray) : List AV := l.map fun s => .v (.string s)
theorem strsC_len (l : List ByteArray) : (strsC l).length = l.length := by simp [strsC]
def GrowS (l : List ByteArray) (r : AV) (n : List OE) : Prop :=
  (l = [] ∧ r = .v (.slice none 0 0) ∧ n = []) ∨ ∃ g cap ext, cap = l.length + ext.length ∧ r = .v (.slice (some ⟨g, 0, none⟩) l.length cap) ∧ n = [⟨g, true, .box (strsC l ++ ext)⟩]
theorem str_at {l : List ByteArray} {ext : List AV} {k : Nat} {x : ByteArray} (h : l[k]? = some x) : (strsC l ++ ext)[0 + k * 1]? = some (.v (.string x)) := by
  have hk := (List.getElem?_eq_some_iff.1 h).1
  rw [Nat.zero_add, Nat.mul_one, List.getElem?_append_left (by simpa [strsC] using hk)]
  simp [strsC, h]
theorem str_set {l : List ByteArray} {ext : List AV} {k : Nat} {x : ByteArray} (h : k < l.length) : (strsC l ++ ext).take (0 + k * 1) ++ [AV.v (.string x)] ++ (strsC l ++ ext).drop (0 + k * 1 + 1) = strsC (l.set k x) ++ ext := by
  rw [Nat.zero_add, Nat.mul_one]
  apply List.ext_getElem?
  intro j
  have hl := strsC_len l
  have hl2 := strsC_len (l.set k x)
  rw [List.length_set] at hl2
  by_cases hj : j < l.length
  · rw [List.getElem?_append_left (l₁ := strsC (l.set k x)) (by omega)]
    by_cases hjk : j = k
    · subst hjk
      rw [List.getElem?_append_left (by simp [hl]; omega), List.getElem?_append_right (by simp [hl]; omega)]
      simp [strsC, hj, Nat.min_eq_left (Nat.le_of_lt (show j < l.length + ext.length by omega))]
    · rcases Nat.lt_or_gt_of_ne hjk with hlt | hgt
      · rw [List.getElem?_append_left (by simp [hl]; omega), List.getElem?_append_left (by simp [hl]; omega), List.getElem?_take, if_pos hlt, List.getElem?_append_left (by omega)]
        simp [strsC, List.getElem?_set, show ¬ k = j from fun e => hjk e.symm]
      · rw [List.getElem?_append_right (by simp [hl]; omega), List.getElem?_drop]
        simp only [List.length_append, List.length_take, List.length_singleton, hl]
        rw [show k + 1 + (j - (min k (l.length + ext.length) + 1)) = j by omega, List.getElem?_append_left (by omega)]
        simp [strsC, List.getElem?_set, show ¬ k = j by omega]
  · rw [List.getElem?_append_right (l₁ := strsC (l.set k x)) (by omega), List.getElem?_append_right (by simp [hl]; omega), List.getElem?_drop]
    simp only [List.length_append, List.length_take, List.length_singleton, hl, hl2]
    rw [show k + 1 + (j - (min k (l.length + ext.length) + 1)) = j by omega, List.getElem?_append_right (by omega), hl]
theorem ac_sortedG {f it k : Nat} (hf : SortsIt P f it k) (hk : P.underlying k = some .string) {g b : Nat} {rg rw' : Bool} {es : List (Value × AV)} {ss : List ByteArray} (hes : es.map (·.1) = ss.map Value.string) (hnd : ss.Nodup) (hsz : ∀ s ∈ ss, s.size ≤ maxLen) (hlen : es.length ≤ 1000000) :
    AC P f [.fn it [.v (.pointer (some ⟨g, 0, none⟩))]] [⟨g, rg, .box [.v (.map (some b))]⟩, ⟨b, rw', .map es⟩] (GrowS (sortB ss)) := by
  intro C w vals hcom hrels hobjs
  obtain ⟨v0, vs0, hv, hr0, hr1⟩ := hrels.cons_inv
  have hv0 : vs0 = [] := hr1.nil_inv
  subst hv0
  obtain ⟨arr, rfl⟩ : ∃ arr, v0 = .func (.func it) #[] arr := by cases hr0; exact ⟨_, rfl⟩
  obtain ⟨u, us, hu, hu1, hu2⟩ := (rel_fn.1 hr0).cons_inv
  cases hu1
  have hus := hu2.nil_inv
  subst hus
  obtain rfl : arr = #[.pointer (some ⟨g, 0, none⟩)] := by apply Array.ext'; simpa using hu
  obtain rfl : vals = #[.func (.func it) #[] #[.pointer (some ⟨g, 0, none⟩)]] := by apply Array.ext'; simpa using hv
  obtain ⟨barr, bt, hbg, hbr⟩ : ObjRel C g (.box [.v (.map (some b))]) w := (hobjs.1 ⟨g, rg, .box [.v (.map (some b))]⟩ (by simp)).1
  have hcell : w.cell? ⟨g, 0, none⟩ = some (.map (some b)) := by
    obtain ⟨x, xs, hx, hx1, hx2⟩ := hbr.cons_inv
    cases hx1
    rw [cell_of_row w g 0 barr bt (0, 0) hbg]
    have := congrArg (·[0]?) hx
    simpa using this
  obtain ⟨D0, h1, h2, h3⟩ := map_owned (C := C) hk hes hnd hsz (by unfold maxLen; omega) (hobjs.1 ⟨b, rw', .map es⟩ (by simp)).1
  refine (hf g b _ D0 _ w (Array.getElem?_eq_some_iff.1 hbg).1 hcell h1 (by rw [h3]; unfold maxLen; omega) (by rw [h3]; omega)).mono ?_
  rintro e w' ⟨v, ss', rfl, hp, ⟨hl, hrow⟩, hnil, hb⟩
  have hsort : (ss'.mergeSort (fun x y => decide (x ≤ y))) = ((ss.map (·.data.toList)).mergeSort (fun x y => decide (x ≤ y))) := mergeSort_of_perm (hp.trans h2)
  rw [hsort] at hrow hl
  have hlb : ∀ b o v, C b o = some v → b < w.heap.size := fun b o v hc => by have := World.block_lt_of_cell? w _ (hcom.1 _ _ _ hc).cell; simpa using this
  have hcom' : ∀ b o v, C b o = some v → CellOk w' b o v := fun b o v hc => by
    exact (hcom.1 b o v hc).keep (hb.block b (hlb _ _ _ hc))
  have hlen' : (sortB ss).length = ss'.length := by
    unfold sortB; rw [List.length_map, ← hsort, List.length_mergeSort]
  rcases hrow with ⟨rfl, hn⟩ | ⟨g, cap, cur, rfl, hg, hgb, hcap, _, hcs, htk⟩
  · have hz : sortB ss = [] := List.eq_nil_of_length_eq_zero (by omega)
    exact ⟨_, C, _, [], rfl, .inl ⟨hz, rfl, rfl⟩, hb, fun _ _ _ => rfl, ⟨hcom', hcom.2⟩, .v _, ⟨by simp, by simp⟩, by simp⟩
  · have hcl : cur.toList.length = cap := by simpa using hcs
    refine ⟨_, C, _, _, rfl, .inr ⟨g, cap, (cur.toList.drop ss'.length).map AV.v, by simp [hlen', hcl]; omega, rfl, rfl⟩, hb, fun _ _ _ => rfl, ⟨hcom', hcom.2⟩, by rw [hlen']; exact .v _, ⟨fun e he => ?_, by simp⟩, fun e he => ?_⟩
    · obtain rfl := List.mem_singleton.1 he
      refine ⟨⟨cur, k, hgb, ?_⟩, fun o => ?_⟩
      · have e1 : strsC (sortB ss) = (cur.toList.take ss'.length).map AV.v := by
          rw [Nat.mul_one] at htk
          rw [htk]
          unfold strsC sortB
          rw [List.map_map, List.map_map]
          rfl
        rw [e1, ← List.map_append, List.take_append_drop]
        exact rels_vs _
      · cases hc : C g o with
        | none => rfl
        | some v => exact absurd (hlb _ _ _ hc) (by omega)
    · obtain rfl := List.mem_singleton.1 he
      exact hg
theorem strs_flat : ∀ l : List ByteArray, (l.map fun s => [AV.v (.string s)]).flatten = strsC l
  | [] => rfl
  | x :: l => by rw [List.map_cons, List.flatten_cons, strs_flat l]; rfl
theorem awl_boxBuf (i : Nat) {g cap : Nat} {l : List ByteArray} {ext : List AV} {lst : List Oper} (hi : S.objs[i]? = some ⟨g, true, .box (strsC l ++ ext)⟩) (hc : cap = l.length + ext.length)
    (hr : ∀ e, AWL P w0 C0 ops lst Q ⟨S.nt, S.slots, S.objs.set i ⟨g, true, .buf 1 (l.map fun s => [.v (.string s)]) cap e⟩⟩) : AWL P w0 C0 ops lst Q S := by
  rintro a w ⟨C, T, hs⟩
  obtain ⟨arr, t0, g1, g2⟩ := (hs.objs _ (mem_of_get hi)).1
  have harr := box_get g2
  refine hr t0 a w ⟨C, T, ?_⟩
  have hfl := strs_flat l
  refine hs.setObj hi (w' := w) (Nat.le_refl _) rfl rfl rfl rfl (fun _ _ => rfl) ⟨arr, g1, by rw [harr]; simp [strsC_len, hc], by simp; omega, fun cs hcs => by obtain ⟨s, _, rfl⟩ := List.mem_map.1 hcs; rfl, arr.toList.take l.length, ?_, fun v hv => ?_, by simp⟩
  · rw [hfl]
    have := rels_take_drop g2 0 l.length
    simp only [List.drop_zero] at this
    rwa [show (strsC l ++ ext).take l.length = strsC l from by rw [← strsC_len l, List.take_left]] at this
  · have := rels_take_drop g2 0 l.length
    simp only [List.drop_zero] at this
    rw [show (strsC l ++ ext).take l.length = strsC l from by rw [← strsC_len l, List.take_left]] at this
    exact this.ones (by simp [strsC, AV.one, Value.oneCell']) v hv
def lookF (l : List File) (s : ByteArray) : Option (List UInt8) := (l.find? (fun f => decide (f.name = s))).map (·.data)
structure TellsS (m : List (ByteArray × List UInt8)) (l : List File) : Prop where
  nd : (m.map (·.1)).Nodup
  get : ∀ s, mget m s = lookF l s
  len : m.length ≤ l.length
theorem tellsS_nil : TellsS [] [] := ⟨by simp, fun s => rfl, by simp⟩
theorem tellsS_has {m : List (ByteArray × List UInt8)} {l : List File} {k : Nat} {x : File} (h : TellsS m (l.take k)) (hx : l[k]? = some x) (hg : (mget m x.name).isSome = true) : TellsS m (l.take (k + 1)) := by
  refine ⟨h.nd, fun p => ?_, Nat.le_trans h.len (by simp; omega)⟩
  rw [h.get]
  rw [h.get] at hg
  unfold lookF at *
  rw [takeS hx, List.find?_append]
  cases hf : (l.take k).find? (fun e => decide (e.name = p)) with
  | some y => simp
  | none =>
    by_cases hp : x.name = p
    · rw [hp, hf] at hg; simp at hg
    · simp [hp]
theorem tellsS_new {m : List (ByteArray × List UInt8)} {l : List File} {k : Nat} {x : File} (h : TellsS m (l.take k)) (hx : l[k]? = some x) (hg : (mget m x.name).isSome = false) : TellsS (mset m x.name x.data) (l.take (k + 1)) := by
  have hk := (List.getElem?_eq_some_iff.1 hx).1
  refine ⟨mset_nodup h.nd, fun p => ?_, ?_⟩
  · rw [mget_mset, h.get]
    rw [h.get] at hg
    unfold lookF at *
    rw [takeS hx, List.find?_append]
    by_cases hp : x.name = p
    · rw [hp] at hg
      cases hf : (l.take k).find? (fun e => decide (e.name = p)) with
      | some y => rw [hf] at hg; simp at hg
      | none => simp [hp]
    · cases hf : (l.take k).find? (fun e => decide (e.name = p)) <;> simp [hp]
  · have h1 := h.len
    have := mset_len (m := m) (k := x.name) (v := x.data)
    simp at h1 ⊢; omega
def namesF (l : List File) : List ByteArray := l.foldl (fun ns f => insS ns f.name) []
theorem namesF_mem (x : ByteArray) : ∀ (l : List File) (ns : List ByteArray), x ∈ l.foldl (fun ns f => insS ns f.name) ns ↔ x ∈ ns ∨ ∃ f ∈ l, f.name = x
  | [], ns => by simp
  | f :: r, ns => by
    rw [List.foldl_cons, namesF_mem x r, insS_mem]
    constructor
    · rintro ((h | h) | ⟨y, hy, h⟩)
      · exact .inr ⟨f, by simp, h.symm⟩
      · exact .inl h
      · exact .inr ⟨y, by simp [hy], h⟩
    · rintro (h | ⟨y, hy, h⟩)
      · exact .inl (.inr h)
      · rcases List.mem_cons.1 hy with rfl | hy
        · exact .inl (.inl h.symm)
        · exact .inr ⟨y, hy, h⟩
theorem namesF_sorted : ∀ (l : List File) (ns : List ByteArray), SortedS ns → SortedS (l.foldl (fun ns f => insS ns f.name) ns)
  | [], ns, h => h
  | f :: r, ns, h => namesF_sorted r _ (insS_sorted h)
theorem names_in {l : List File} {s : ByteArray} : s ∈ namesF l ↔ (lookF l s).isSome = true := by
  unfold namesF lookF
  rw [namesF_mem]
  simp [List.find?_isSome]
theorem names_ok (l : List File) : SortedS (namesF l) := namesF_sorted l [] List.Pairwise.nil
theorem names_len (l : List File) : (namesF l).length ≤ l.length := by
  have : ∀ (l : List File) (ns : List ByteArray), (l.foldl (fun ns f => insS ns f.name) ns).length ≤ ns.length + l.length := by
    intro l
    induction l with
    | nil => simp
    | cons f l ih =>
      intro ns
      rw [List.foldl_cons]
      have := ih (insS ns f.name)
      have h2 := insS_len (n := f.name) (l := ns)
      simp; omega
  have := this l []; simpa [namesF] using this
theorem keys_names {m : List (ByteArray × List UInt8)} {l : List File} (h : TellsS m l) : sortB (m.map (·.1)) = namesF l :=
  sortedS_ext (sortB_sorted h.nd) (names_ok l) (fun x => by rw [sortB_mem, ← mget_some, h.get, names_in])
theorem AC.swap {P : Program} {f : FuncId} {args : List AV} {e1 e2 : OE} {R : AV → List OE → Prop} (h : AC P f args [e1, e2] R) : AC P f args [e2, e1] R := fun C w vals h1 h2 h3 =>
  h C w vals h1 h2 ⟨fun e he => h3.1 e (by simp at he ⊢; exact he.symm), (List.Perm.pairwise_iff (R := fun e e' : OE => e.b ≠ e'.b) (fun h => fun k => h k.symm) (List.Perm.swap e1 e2 [])).1 h3.2⟩
theorem fmS_step {α β : Type} {f : α → Option β} {l : List α} {k : Nat} {x : α} (h : l[k]? = some x) : (l.take (k + 1)).filterMap f = (l.take k).filterMap f ++ (f x).toList := by
  rw [takeS h, List.filterMap_append]
  cases hf : f x <;> simp [hf]
theorem look_len {l : List File} {n : Nat} (h : ∀ f ∈ l, f.data.length ≤ n) (s : ByteArray) : ((lookF l s).getD []).length ≤ n := by
  unfold lookF
  cases hf : l.find? (fun f => decide (f.name = s)) with
  | none => simp
  | some f => simpa using h f (List.mem_of_find?_eq_some hf)
theorem keys_size {m : List (ByteArray × List UInt8)} {l : List File} (h : TellsS m l) (hl : ∀ f ∈ l, f.name.size ≤ 1000000) : ∀ s ∈ m.map (·.1), s.size ≤ maxLen := fun s hs => by
  rw [← mget_some, h.get] at hs
  unfold lookF at hs
  simp [List.find?_isSome] at hs
  obtain ⟨f, hf, rfl⟩ := hs
  have := hl f hf; unfold maxLen; omega
def hitF (a b : List File) (s t : ByteArray) : Bool := decide (0 < ((lookF a s).getD []).length) && decide ((lookF a s).getD [] = (lookF b t).getD [])
def stepO (a b : List File) (st : List ByteArray × List FC × List FC) (s : ByteArray) : List ByteArray × List FC × List FC :=
  match st.1.findIdx? (hitF a b s) with
  | none => (st.1, st.2.1, st.2.2 ++ [⟨2, s, E0, []⟩])
  | some i => (st.1.eraseIdx i, st.2.1 ++ [⟨4, s, st.1.getD i E0, []⟩], st.2.2)
def wentF (a b : List File) : List ByteArray := (namesF a).filter (fun s => !(lookF b s).isSome)
def splitF (a b : List File) (k : Nat) : List ByteArray × List FC × List FC := ((wentF a b).take k).foldl (stepO a b) (wentF b a, [], [])
def chgF (a b : List File) (s : ByteArray) : Option FC :=
  match lookF b s with
  | some d => cond (decide ((lookF a s).getD [] = d)) none (some ⟨3, s, E0, d⟩)
  | none => none
def addF (b : List File) (s : ByteArray) : FC := ⟨1, s, E0, (lookF b s).getD []⟩
def splitE (a b : List File) : List ByteArray × List FC × List FC := splitF a b (wentF a b).length
def OfF (a b : List File) : List FC := (splitE a b).2.1 ++ (splitE a b).2.2 ++ (namesF a).filterMap (chgF a b) ++ (splitE a b).1.map (addF b)
theorem went_eq {a b : List File} {ma mb : List (ByteArray × List UInt8)} (ha : TellsS ma a) (hb : TellsS mb b) : (sortB (ma.map (·.1))).filter (fun s => !(mget mb s).isSome) = wentF a b := by
  unfold wentF
  rw [keys_names ha]
  congr 1; funext s; rw [hb.get]
theorem went_len (a b : List File) : (wentF a b).length ≤ a.length := Nat.le_trans (List.length_filter_le _ _) (names_len a)
theorem split_none {a b : List File} {k : Nat} {s : ByteArray} {came : List ByteArray} {out gone : List FC} (hs : (wentF a b)[k]? = some s) (h : splitF a b k = (came, out, gone)) (hn : came.findIdx? (hitF a b s) = none) :
    splitF a b (k + 1) = (came, out, gone ++ [⟨2, s, E0, []⟩]) := by
  unfold splitF at *
  rw [fold_take hs, h, stepO]; simp only [hn]
theorem split_some {a b : List File} {k i : Nat} {s t : ByteArray} {came : List ByteArray} {out gone : List FC} (hs : (wentF a b)[k]? = some s) (h : splitF a b k = (came, out, gone)) (hn : came.findIdx? (hitF a b s) = some i) (ht : came[i]? = some t) :
    splitF a b (k + 1) = (came.eraseIdx i, out ++ [⟨4, s, t, []⟩], gone) := by
  unfold splitF at *
  rw [fold_take hs, h, stepO]; simp only [hn, List.getD_eq_getElem?_getD, ht, Option.getD_some]
end Go.Proofs.Ytnbnegkdbjdekaa.A
namespace Go.Proofs.Ytnbnegkdbjdekaa.A
open Go Go.RowKit
set_option linter.unusedVariables false
set_option linter.unusedSimpArgs false
set_option maxRecDepth 100000
set_option linter.unusedSectionVars false
variable [Thr]
theorem TF.zavS : ZeroAV Try.prog 34 (bts []) := ⟨.v (.slice none 0 0), by kernel_rfl, .one (.nil 1)⟩
theorem TF.sl57 : sliceT Try.prog 57 = some 9 := by kernel_rfl
theorem TF.sz9 : szT Try.prog 9 = some 1 := by kernel_rfl
theorem TF.agg9 : aggT Try.prog 9 = some false := by kernel_rfl
theorem TF.en25 : entersT Try.prog 25 := enters_of Try.func25 (by kernel_rfl) (by kernel_rfl)
theorem TF.zraw9 : zeroT Try.prog 9 = some [(.string ⟨#[]⟩)] := by kernel_rfl
theorem TF.mixed : Try.prog.follows .mixedOrders = true := by kernel_rfl
theorem take_setS {α : Type} {l : List α} {i : Nat} {x : α} (h : i < l.length) : (l.set i x).take (i + 1) = l.take i ++ [x] := by
  rw [takeS (l := l.set i x) (k := i) (x := x) (by simp [h])]
  congr 1
  apply List.ext_getElem?
  intro j
  rw [List.getElem?_take, List.getElem?_take]
  by_cases hj : j < i
  · rw [if_pos hj, if_pos hj, List.getElem?_set_ne (by omega)]
  · rw [if_neg hj, if_neg hj]
theorem ro_ro (os : List OE) : ro (ro os) = ro os := by simp [ro]
theorem filt_take {p : ByteArray → Bool} {l : List ByteArray} {k : Nat} {x : ByteArray} (h : l[k]? = some x) : (l.take (k + 1)).filter p = (l.take k).filter p ++ (if p x = true then [x] else []) := by
  rw [takeS h, List.filter_append]
  by_cases hp : p x = true <;> simp [hp]
theorem filt_first {p : ByteArray → Bool} {l : List ByteArray} {k : Nat} (h : l.findIdx? p = some k) : k < l.length ∧ (l.take (k + 1)).filter (fun s => !p s) = l.take k := by
  obtain ⟨x, hx, hp⟩ := fidx_get h
  refine ⟨(List.getElem?_eq_some_iff.1 hx).1, ?_⟩
  rw [filt_take hx]
  simp only [hp, Bool.not_true, Bool.false_eq_true, if_false, List.append_nil]
  rw [List.filter_eq_self]
  intro a ha
  obtain ⟨j, hj⟩ := List.getElem?_of_mem ha
  rw [List.getElem?_take] at hj
  split at hj
  · rename_i hjk
    have := (List.findIdx?_eq_some_iff_getElem.1 h).2.2 j hjk
    obtain ⟨hjl, rfl⟩ := List.getElem?_eq_some_iff.1 hj
    simpa using this
  · cases hj
theorem filt_all {p : ByteArray → Bool} {l : List ByteArray} (h : l.findIdx? p = none) : l.filter (fun s => !p s) = l := by
  rw [List.filter_eq_self]
  intro a ha
  rw [List.findIdx?_eq_none_iff] at h
  simp [h a ha]
theorem idxV_ok {f : FuncId} {caps : List AV} (p : ByteArray → Bool) (hen : entersT Try.prog f) {os : List OE} (hf : ∀ s, AC Try.prog f (.v (.string s) :: caps) (ro os) (fun r n => n = [] ∧ r = boolA (p s))) (l : List ByteArray) (hl : l.length ≤ 1000000) {g cap : Nat} {ext : List AV} {fl : Bool} : AC Try.prog 25 [.v (.slice (some ⟨g, 0, none⟩) l.length cap), .fn f caps] (⟨g, fl, .box (strsC l ++ ext)⟩ :: os) (fun r n => n = [] ∧ r = .v (.int .i64 (optI (l.findIdx? p)))) := by
 refine ac_of_awp (rs := [4]) (nt := 19) Try.func25 rfl rfl rfl rfl (fun w0 C0 hq => ?_)
 refine awp_seq ?_
 refine awp_region ?_
 refine r_assign rfl rfl ?_
 refine awl_nil ?_
 refine x_then ?_
 refine awp_seq ?_
 refine awp_seq ?_
 refine awp_region ?_
 refine r_move rfl rfl ?_
 first | (refine r_lenS rfl rfl TF.sl57 rfl ?_) | (refine r_lenNil rfl TF.sl57 rfl ?_) | (refine r_lenV rfl TF.sl57 rfl ?_)
 refine r_move rfl rfl ?_
 refine awl_nil ?_
 refine x_then ?_
 refine awp_block ?_
 refine awp_loop (fun nn0 S => ∃ k : Nat, S = ⟨19, [(0, .a (.v (.slice (some ⟨g, 0, none⟩) l.length cap))), (1, .a (.fn f caps)), (7, .a (.v (.int .i64 (l.length)))), (8, .a (.v (.int .i64 ((k : Int)))))], ⟨g, false, .box (strsC l ++ ext)⟩ :: ro os⟩ ∧ nn0 = l.length - k ∧ (k ≤ l.length) ∧ ((l.take k).findIdx? p = none)) (l.length - (0)) ⟨19, [(0, .a (.v (.slice (some ⟨g, 0, none⟩) l.length cap))), (1, .a (.fn f caps)), (7, .a (.v (.int .i64 (l.length)))), (8, .a (.v (.int .i64 (((0) : Int)))))], ⟨g, false, .box (strsC l ++ ext)⟩ :: ro os⟩ ⟨rfl, (Slots.cons rfl (by first | exact .refl _ | exact .nilOwn _ _ | exact .nilSl _ | exact .ownSl _ _ _  | exact SV.le.of_eq (by simp)) (Slots.cons rfl (by first | exact .refl _ | exact .nilOwn _ _ | exact .nilSl _ | exact .ownSl _ _ _  | exact SV.le.of_eq (by simp)) (Slots.cons rfl (by first | exact .refl _ | exact .nilOwn _ _ | exact .nilSl _ | exact .ownSl _ _ _  | exact SV.le.of_eq (by simp)) (Slots.cons rfl (by first | exact .refl _ | exact .nilOwn _ _ | exact .nilSl _ | exact .ownSl _ _ _  | exact SV.le.of_eq (by simp)) Slots.nil)))), (by first | exact List.Sublist.refl _ | exact .cons_cons _ (.cons _ (.refl _)) | exact List.nil_sublist _ | exact .cons _ (.refl _) | exact .cons _ (.cons _ (.refl _)) | exact .cons _ (.cons _ (.cons _ (.refl _))) | exact .cons _ (.cons _ (.cons _ (.cons _ (.refl _)))) | exact .cons_cons _ (List.nil_sublist _))⟩ ⟨0, rfl, rfl, Nat.zero_le _, rfl⟩ ?_
 rintro nn0 _ ⟨k, rfl, rfl, hk, hno⟩
 refine awp_seq ?_
 refine awp_region ?_
 refine r_cmp rfl rfl rfl rfl ?_
 refine awl_nil ?_
 refine x_then ?_
 refine awp_seq ?_
 refine awp_cond rfl (fun hc0 => ?_) (fun hc0 => ?_)
 ·
  have hltx : k < l.length := by have := of_decide_eq_true hc0; simpa using this
  obtain ⟨x, hx⟩ := get_lt hltx
  refine awp_skip ?_
  refine x_then ?_
  refine awp_seq ?_
  refine awp_block ?_
  refine awp_seq ?_
  refine awp_region ?_
  refine r_move rfl rfl ?_
  refine r_assign rfl rfl ?_
  refine awl_nil ?_
  refine x_then ?_
  refine awp_seq ?_
  refine awp_region ?_
  refine r_move rfl rfl ?_
  refine r_move rfl rfl ?_
  refine r_move rfl rfl ?_
  refine r_indexV rfl rfl TF.sl57 TF.sz9 (by omega) (by omega) rfl ?_
  refine r_load1b 0 rfl rfl (str_at hx) TF.agg9 rfl ?_
  refine r_callO hq rfl rfl (.cons (.ev rfl rfl) .nil) (hf x) rfl hen (.cons _ (.refl _)) rfl (fun r nobjs hr => ?_)
  obtain ⟨rfl, rfl⟩ := hr
  refine awl_nil ?_
  refine x_then ?_
  refine awp_cond rfl (fun hc1 => ?_) (fun hc1 => ?_)
  ·
   refine awp_seq ?_
   refine awp_region ?_
   refine r_move rfl rfl ?_
   refine r_assign rfl rfl ?_
   refine awl_nil ?_
   refine x_then ?_
   refine awp_ret ?_
   refine x_blockR ?_
   refine x_thenR ?_
   refine x_thenR ?_
   refine x_blockR ?_
   refine x_thenR ?_
   exact ⟨(.inl rfl), _, [], (.one (by first | exact .mk rfl rfl | exact .nil rfl)), ⟨rfl, by rw [fidx_hit hx hc1 hno]; rfl⟩, (List.nil_sublist _), (by simp)⟩
  ·
   refine awp_skip ?_
   refine x_block ?_
   refine x_then ?_
   refine awp_region ?_
   refine r_ari _ rfl rfl rfl (wrap_id (by first | omega | (simp; omega))) rfl ?_
   refine r_move rfl rfl ?_
   refine awl_nil ?_
   refine x_then ?_
   refine ⟨l.length - (k + 1), ⟨19, [(0, .a (.v (.slice (some ⟨g, 0, none⟩) l.length cap))), (1, .a (.fn f caps)), (7, .a (.v (.int .i64 (l.length)))), (8, .a (.v (.int .i64 (((k + 1) : Int)))))], ⟨g, false, .box (strsC l ++ ext)⟩ :: ro os⟩, ⟨rfl, (Slots.cons rfl (by first | exact .refl _ | exact .nilOwn _ _ | exact .nilSl _ | exact .ownSl _ _ _  | exact SV.le.of_eq (by simp)) (Slots.cons rfl (by first | exact .refl _ | exact .nilOwn _ _ | exact .nilSl _ | exact .ownSl _ _ _  | exact SV.le.of_eq (by simp)) (Slots.cons rfl (by first | exact .refl _ | exact .nilOwn _ _ | exact .nilSl _ | exact .ownSl _ _ _  | exact SV.le.of_eq (by simp)) (Slots.cons rfl (by first | exact .refl _ | exact .nilOwn _ _ | exact .nilSl _ | exact .ownSl _ _ _  | exact SV.le.of_eq (by simp)) Slots.nil)))), (by first | exact List.Sublist.refl _ | exact .cons_cons _ (.cons _ (.refl _)) | exact List.nil_sublist _ | exact .cons _ (.refl _) | exact .cons _ (.cons _ (.refl _)) | exact .cons _ (.cons _ (.cons _ (.refl _))) | exact .cons _ (.cons _ (.cons _ (.cons _ (.refl _)))) | exact .cons_cons _ (List.nil_sublist _))⟩, (by omega), ⟨k + 1, rfl, rfl, (by omega), (fidx_step hx hc1 hno)⟩⟩
 ·
  have hge : l.length ≤ k := by have := of_decide_eq_false hc0; simp at this; omega
  refine awp_exit ?_
  refine x_thenE ?_
  refine x_thenE ?_
  refine x_blockE ?_
  refine x_then ?_
  refine awp_seq ?_
  refine awp_region ?_
  refine r_assign rfl rfl ?_
  refine awl_nil ?_
  refine x_then ?_
  refine awp_ret ?_
  exact ⟨(.inl rfl), _, [], (.one (by first | exact .mk rfl rfl | exact .nil rfl)), ⟨rfl, by rw [fidx_end hge hno]; rfl⟩, (List.nil_sublist _), (by simp)⟩
theorem idxN_ok {f : FuncId} {caps : List AV} : AC Try.prog 25 [.v (.slice none 0 0), .fn f caps] [] (fun r n => n = [] ∧ r = .v (.int .i64 (-1))) := by
 refine ac_of_awp (rs := [4]) (nt := 19) Try.func25 rfl rfl rfl rfl (fun w0 C0 hq => ?_)
 refine awp_seq ?_
 refine awp_region ?_
 refine r_assign rfl rfl ?_
 refine awl_nil ?_
 refine x_then ?_
 refine awp_seq ?_
 refine awp_seq ?_
 refine awp_region ?_
 refine r_move rfl rfl ?_
 first | (refine r_lenS rfl rfl TF.sl57 rfl ?_) | (refine r_lenNil rfl TF.sl57 rfl ?_) | (refine r_lenV rfl TF.sl57 rfl ?_)
 refine r_move rfl rfl ?_
 refine awl_nil ?_
 refine x_then ?_
 refine awp_block ?_
 refine awp_loop (fun nn0 S => S = ⟨19, [(7, .a (.v (.int .i64 (0)))), (8, .a (.v (.int .i64 (0))))], []⟩ ∧ nn0 = 0) (0) ⟨19, [(7, .a (.v (.int .i64 (0)))), (8, .a (.v (.int .i64 (0))))], []⟩ ⟨rfl, (Slots.cons rfl (by first | exact .refl _ | exact .nilOwn _ _ | exact .nilSl _ | exact .ownSl _ _ _  | exact SV.le.of_eq (by simp)) (Slots.cons rfl (by first | exact .refl _ | exact .nilOwn _ _ | exact .nilSl _ | exact .ownSl _ _ _  | exact SV.le.of_eq (by simp)) Slots.nil)), (by first | exact List.Sublist.refl _ | exact .cons_cons _ (.cons _ (.refl _)) | exact List.nil_sublist _ | exact .cons _ (.refl _) | exact .cons _ (.cons _ (.refl _)) | exact .cons _ (.cons _ (.cons _ (.refl _))) | exact .cons _ (.cons _ (.cons _ (.cons _ (.refl _)))) | exact .cons_cons _ (List.nil_sublist _))⟩ ⟨rfl, rfl⟩ ?_
 rintro nn0 _ ⟨rfl, rfl⟩
 refine awp_seq ?_
 refine awp_region ?_
 refine r_cmp rfl rfl rfl rfl ?_
 refine awl_nil ?_
 refine x_then ?_
 refine awp_seq ?_
 refine awp_cond rfl (fun hc0 => ?_) (fun hc0 => ?_)
 ·
  exfalso; exact absurd hc0 (by decide)
 ·
  refine awp_exit ?_
  refine x_thenE ?_
  refine x_thenE ?_
  refine x_blockE ?_
  refine x_then ?_
  refine awp_seq ?_
  refine awp_region ?_
  refine r_assign rfl rfl ?_
  refine awl_nil ?_
  refine x_then ?_
  refine awp_ret ?_
  exact ⟨(.inl rfl), _, [], (.one (by first | exact .mk rfl rfl | exact .nil rfl)), ⟨rfl, rfl⟩, (List.nil_sublist _), (by simp)⟩
set_option maxHeartbeats 1000000 in
theorem delV_ok {f : FuncId} {caps : List AV} (p : ByteArray → Bool) (hen : entersT Try.prog f) {os : List OE} (hf : ∀ s, AC Try.prog f (.v (.string s) :: caps) (ro os) (fun r n => n = [] ∧ r = boolA (p s))) (l : List ByteArray) (hl : l.length ≤ 1000000) {g cap : Nat} {ext : List AV} (hcap : cap = l.length + ext.length) {fl : Bool} : AW Try.prog 41 [.v (.slice (some ⟨g, 0, none⟩) l.length cap), .fn f caps] os [⟨g, fl, .box (strsC l ++ ext)⟩] (fun r n => ∃ ext', cap = (l.filter (fun s => !p s)).length + ext'.length ∧ r = .v (.slice (some ⟨g, 0, none⟩) (l.filter (fun s => !p s)).length cap) ∧ n = [⟨g, true, .box (strsC (l.filter (fun s => !p s)) ++ ext')⟩]) := by
 refine aw_of_awp (rs := [4]) (nt := 42) (so := (ro os ++ [⟨g, true, .box (strsC l ++ ext)⟩])) Try.func41 rfl rfl rfl rfl rfl (fun w0 C0 hq => ?_)
 refine awp_imp (imp_perm List.perm_append_comm) ?_
 refine awp_seq ?_
 refine awp_region ?_
 refine r_assign rfl rfl ?_
 refine awl_nil ?_
 refine x_then ?_
 refine awp_seq ?_
 refine awp_region ?_
 refine r_move rfl rfl ?_
 refine r_move rfl rfl ?_
 refine r_callO hq rfl rfl (.cons (.ev rfl rfl) (.cons (.ev rfl rfl) .nil)) (idxV_ok (os := ro os) p hen (fun s => by rw [ro_ro]; exact hf s) l hl) rfl TF.en25 (List.Sublist.refl _) rfl (fun r nobjs hr => ?_)
 obtain ⟨rfl, rfl⟩ := hr
 refine r_assign rfl rfl ?_
 refine awl_nil ?_
 refine x_then ?_
 refine awp_seq ?_
 refine awp_seq ?_
 refine awp_region ?_
 refine r_move rfl rfl ?_
 refine r_cmp rfl rfl rfl rfl ?_
 refine awl_nil ?_
 refine x_then ?_
 refine awp_cond rfl (fun hc0 => ?_) (fun hc0 => ?_)
 ·
  have hnone : l.findIdx? p = none := optI_none (by have := eq_of_beq hc0; omega)
  refine awp_seq ?_
  refine awp_region ?_
  refine r_move rfl rfl ?_
  refine r_assign rfl rfl ?_
  refine awl_nil ?_
  refine x_then ?_
  refine awp_ret ?_
  refine x_thenR ?_
  exact ⟨(.inl rfl), _, [⟨g, true, .box (strsC l ++ ext)⟩], (.one (by first | exact .mk rfl rfl | exact .nil rfl)), ⟨ext, by rw [filt_all hnone]; exact hcap, by rw [filt_all hnone]; rfl, by rw [filt_all hnone]⟩, (.cons_cons _ (List.nil_sublist _)), (by simp)⟩
 ·
  obtain ⟨k0, hk0⟩ : ∃ k, l.findIdx? p = some k := by
   cases h : l.findIdx? p with
   | none => rw [h] at hc0; exact absurd hc0 (by decide)
   | some k => exact ⟨k, rfl⟩
  rw [hk0]
  obtain ⟨hk1, hk2⟩ := filt_first hk0
  have hoi : optI (some k0) = (k0 : Int) := rfl
  rw [hoi]
  refine awp_skip ?_
  refine x_then ?_
  refine awp_seq ?_
  refine awp_seq ?_
  refine awp_region ?_
  refine r_move rfl rfl ?_
  refine r_ari _ rfl rfl rfl (wrap_id (by first | omega | (simp; omega))) rfl ?_
  refine r_assign rfl rfl ?_
  refine awl_nil ?_
  refine x_then ?_
  refine awp_block ?_
  refine awp_loop (fun nn0 S => ∃ j : Nat, ∃ i : Nat, ∃ cur : List ByteArray, S = ⟨42, [(0, .a (.v (.slice (some ⟨g, 0, none⟩) l.length cap))), (1, .a (.fn f caps)), (5, .a (.v (.int .i64 ((i : Int))))), (6, .a (.v (.int .i64 ((j : Int)))))], ⟨g, true, .box (strsC cur ++ ext)⟩ :: ro os⟩ ∧ nn0 = l.length - j ∧ (j ≤ l.length) ∧ (i < j) ∧ (cur.length = l.length) ∧ (cur.take i = (l.take j).filter (fun s => !p s)) ∧ (cur.drop j = l.drop j)) (l.length - (k0 + 1)) ⟨42, [(0, .a (.v (.slice (some ⟨g, 0, none⟩) l.length cap))), (1, .a (.fn f caps)), (5, .a (.v (.int .i64 (((k0) : Int))))), (6, .a (.v (.int .i64 (((k0 + 1) : Int)))))], ⟨g, true, .box (strsC (l) ++ ext)⟩ :: ro os⟩ ⟨rfl, (Slots.cons rfl (by first | exact .refl _ | exact .nilOwn _ _ | exact .nilSl _ | exact .ownSl _ _ _  | exact SV.le.ownEq (by simp) | exact SV.le.of_eq (by simp)) (Slots.cons rfl (by first | exact .refl _ | exact .nilOwn _ _ | exact .nilSl _ | exact .ownSl _ _ _  | exact SV.le.ownEq (by simp) | exact SV.le.of_eq (by simp)) (Slots.cons rfl (by first | exact .refl _ | exact .nilOwn _ _ | exact .nilSl _ | exact .ownSl _ _ _  | exact SV.le.ownEq (by simp) | exact SV.le.of_eq (by simp)) (Slots.cons rfl (by first | exact .refl _ | exact .nilOwn _ _ | exact .nilSl _ | exact .ownSl _ _ _  | exact SV.le.ownEq (by simp) | exact SV.le.of_eq (by simp)) Slots.nil)))), (by first | exact List.Sublist.refl _ | exact .cons_cons _ (.cons _ (.refl _)) | exact List.nil_sublist _ | exact .cons _ (.refl _) | exact .cons _ (.cons _ (.refl _)) | exact .cons _ (.cons _ (.cons _ (.refl _))) | exact .cons _ (.cons _ (.cons _ (.cons _ (.refl _)))) | exact .cons_cons _ (List.nil_sublist _))⟩ ⟨k0 + 1, k0, l, rfl, rfl, (by omega), (by omega), rfl, hk2.symm, rfl⟩ ?_
  rintro nn0 _ ⟨j, i, cur, rfl, rfl, hj, hij, hcl, hct, hcd⟩
  refine awp_seq ?_
  refine awp_seq ?_
  refine awp_region ?_
  refine r_move rfl rfl ?_
  refine r_move rfl rfl ?_
  first | (refine r_lenS rfl rfl TF.sl57 rfl ?_) | (refine r_lenNil rfl TF.sl57 rfl ?_) | (refine r_lenV rfl TF.sl57 rfl ?_)
  refine r_cmp rfl rfl rfl rfl ?_
  refine awl_nil ?_
  refine x_then ?_
  refine awp_cond rfl (fun hc1 => ?_) (fun hc1 => ?_)
  ·
   have hltj : j < l.length := by have := of_decide_eq_true hc1; omega
   obtain ⟨x, hx⟩ := get_lt hltj
   have hcx : cur[j]? = some x := by have h1 := congrArg (·[0]?) hcd; simpa [hx] using h1
   have hilt : i < cur.length := by omega
   refine awp_skip ?_
   refine x_then ?_
   refine awp_seq ?_
   refine awp_block ?_
   refine awp_seq ?_
   refine awp_region ?_
   refine r_move rfl rfl ?_
   refine r_move rfl rfl ?_
   refine r_indexV rfl rfl TF.sl57 TF.sz9 (by omega) (by omega) rfl ?_
   refine r_load1b 0 rfl rfl (str_at hcx) TF.agg9 rfl ?_
   refine r_assign rfl rfl ?_
   refine awl_nil ?_
   refine x_then ?_
   refine awp_seq ?_
   refine awp_region ?_
   refine r_move rfl rfl ?_
   refine r_move rfl rfl ?_
   refine r_callO hq rfl rfl (.cons (.ev rfl rfl) .nil) (hf x) rfl hen (.cons _ (.refl _)) rfl (fun r nobjs hr => ?_)
   obtain ⟨rfl, rfl⟩ := hr
   refine r_not rfl rfl ?_
   refine awl_nil ?_
   refine x_then ?_
   refine awp_cond rfl (fun hc2 => ?_) (fun hc2 => ?_)
   ·
    have hpx : p x = false := by simpa using hc2
    refine awp_seq ?_
    refine awp_region ?_
    refine r_move rfl rfl ?_
    refine r_move rfl rfl ?_
    refine r_move rfl rfl ?_
    refine r_indexV rfl rfl TF.sl57 TF.sz9 (by omega) (by omega) rfl ?_
    refine r_store 0 rfl rfl rfl TF.sz9 rfl (Nat.ble_eq_true_of_le (by simp [strsC_len]; omega)) rfl ?_
    refine awl_nil ?_
    refine x_then ?_
    refine awp_region ?_
    refine r_move rfl rfl ?_
    refine r_ari _ rfl rfl rfl (wrap_id (by first | omega | (simp; omega))) rfl ?_
    refine r_assign rfl rfl ?_
    refine awl_nil ?_
    refine x_block ?_
    refine x_then ?_
    refine awp_region ?_
    refine r_move rfl rfl ?_
    refine r_ari _ rfl rfl rfl (wrap_id (by first | omega | (simp; omega))) rfl ?_
    refine r_assign rfl rfl ?_
    refine awl_nil ?_
    refine x_then ?_
    refine ⟨l.length - (j + 1), ⟨42, [(0, .a (.v (.slice (some ⟨g, 0, none⟩) l.length cap))), (1, .a (.fn f caps)), (5, .a (.v (.int .i64 (((i + 1) : Int))))), (6, .a (.v (.int .i64 (((j + 1) : Int)))))], ⟨g, true, .box (strsC (cur.set i x) ++ ext)⟩ :: ro os⟩, ⟨rfl, (Slots.cons rfl (by first | exact .refl _ | exact .nilOwn _ _ | exact .nilSl _ | exact .ownSl _ _ _  | exact SV.le.of_eq (by simp)) (Slots.cons rfl (by first | exact .refl _ | exact .nilOwn _ _ | exact .nilSl _ | exact .ownSl _ _ _  | exact SV.le.of_eq (by simp)) (Slots.cons rfl (by first | exact .refl _ | exact .nilOwn _ _ | exact .nilSl _ | exact .ownSl _ _ _  | exact SV.le.of_eq (by simp)) (Slots.cons rfl (by first | exact .refl _ | exact .nilOwn _ _ | exact .nilSl _ | exact .ownSl _ _ _  | exact SV.le.of_eq (by simp)) Slots.nil)))), (by rw [← str_set (ext := ext) (x := x) hilt]; exact List.Sublist.refl _)⟩, (by omega), ⟨j + 1, i + 1, cur.set i x, rfl, rfl, (by omega), (by omega), (by simpa using hcl), (by rw [filt_take hx, ← hct, take_setS hilt]; simp [hpx]), (by rw [List.drop_set]; simp [show i < j + 1 by omega]; rw [← List.drop_drop, ← List.drop_drop, hcd])⟩⟩
   ·
    have hpx : p x = true := by simpa using hc2
    refine awp_skip ?_
    refine x_block ?_
    refine x_then ?_
    refine awp_region ?_
    refine r_move rfl rfl ?_
    refine r_ari _ rfl rfl rfl (wrap_id (by first | omega | (simp; omega))) rfl ?_
    refine r_assign rfl rfl ?_
    refine awl_nil ?_
    refine x_then ?_
    refine ⟨l.length - (j + 1), ⟨42, [(0, .a (.v (.slice (some ⟨g, 0, none⟩) l.length cap))), (1, .a (.fn f caps)), (5, .a (.v (.int .i64 (((i) : Int))))), (6, .a (.v (.int .i64 (((j + 1) : Int)))))], ⟨g, true, .box (strsC (cur) ++ ext)⟩ :: ro os⟩, ⟨rfl, (Slots.cons rfl (by first | exact .refl _ | exact .nilOwn _ _ | exact .nilSl _ | exact .ownSl _ _ _  | exact SV.le.of_eq (by simp)) (Slots.cons rfl (by first | exact .refl _ | exact .nilOwn _ _ | exact .nilSl _ | exact .ownSl _ _ _  | exact SV.le.of_eq (by simp)) (Slots.cons rfl (by first | exact .refl _ | exact .nilOwn _ _ | exact .nilSl _ | exact .ownSl _ _ _  | exact SV.le.of_eq (by simp)) (Slots.cons rfl (by first | exact .refl _ | exact .nilOwn _ _ | exact .nilSl _ | exact .ownSl _ _ _  | exact SV.le.of_eq (by simp)) Slots.nil)))), (by first | exact List.Sublist.refl _ | exact .cons_cons _ (.cons _ (.refl _)) | exact List.nil_sublist _ | exact .cons _ (.refl _) | exact .cons _ (.cons _ (.refl _)) | exact .cons _ (.cons _ (.cons _ (.refl _))) | exact .cons _ (.cons _ (.cons _ (.cons _ (.refl _)))) | exact .cons_cons _ (List.nil_sublist _))⟩, (by omega), ⟨j + 1, i, cur, rfl, rfl, (by omega), (by omega), hcl, (by rw [filt_take hx, hct]; simp [hpx]), (by rw [← List.drop_drop, ← List.drop_drop, hcd])⟩⟩
  ·
   have hge : l.length ≤ j := by have := of_decide_eq_false hc1; omega
   rw [List.take_of_length_le hge] at hct
   have hil : i = (l.filter (fun s => !p s)).length := by rw [← hct, List.length_take]; omega
   refine awp_exit ?_
   refine x_thenE ?_
   refine x_thenE ?_
   refine x_blockE ?_
   refine x_then ?_
   refine awp_seq ?_
   refine awp_region ?_
   refine r_move rfl rfl ?_
   refine r_move rfl rfl ?_
   refine r_sliceVL rfl rfl TF.sl57 TF.sz9 (by omega) (by omega) (by omega) rfl (fun A38 hA38 => ?_)
   refine r_clear 0 rfl (fun h => hA38 (by omega)) rfl TF.sl57 TF.zraw9 rfl (by simp [Value.oneCell']) (by simp [strsC_len]; omega) (fun xc hxc => ?_)
   refine awl_nil ?_
   refine x_then ?_
   refine awp_seq ?_
   refine awp_region ?_
   refine r_move rfl rfl ?_
   refine r_move rfl rfl ?_
   refine r_sliceVH rfl rfl TF.sl57 TF.sz9 (by omega) (by omega) rfl ?_
   refine r_assign rfl rfl ?_
   refine awl_nil ?_
   refine x_then ?_
   refine awp_ret ?_
   have hdone : (strsC cur ++ ext).take (0 + i * 1) = strsC (l.filter (fun s => !p s)) := by rw [Nat.zero_add, Nat.mul_one, List.take_append_of_le_length (by rw [strsC_len]; omega), ← hct]; simp [strsC, List.map_take]
   exact ⟨(.inl rfl), _, [⟨g, true, .box (strsC (l.filter (fun s => !p s)) ++ (xc ++ (strsC cur ++ ext).drop (0 + i * 1 + (l.length - i))))⟩], (.one (by first | exact .mk rfl rfl | exact .nil rfl)), ⟨xc ++ (strsC cur ++ ext).drop (0 + i * 1 + (l.length - i)), by simp [hxc, strsC_len]; omega, by rw [← hil]; rfl, rfl⟩, (by rw [← hdone, ← List.append_assoc]; exact .cons_cons _ (List.nil_sublist _)), (by simp)⟩
theorem delN_ok {f : FuncId} {caps : List AV} : AC Try.prog 41 [.v (.slice none 0 0), .fn f caps] [] (fun r n => n = [] ∧ r = .v (.slice none 0 0)) := by
 refine ac_of_awp (rs := [4]) (nt := 42) Try.func41 rfl rfl rfl rfl (fun w0 C0 hq => ?_)
 refine awp_seq ?_
 refine awp_region ?_
 refine r_assign rfl rfl ?_
 refine awl_nil ?_
 refine x_then ?_
 refine awp_seq ?_
 refine awp_region ?_
 refine r_move rfl rfl ?_
 refine r_move rfl rfl ?_
 refine r_call0 hq rfl rfl (.cons (.ev rfl rfl) (.cons (.ev rfl rfl) .nil)) (idxN_ok) rfl TF.en25 rfl (fun r hr => ?_)
 obtain rfl := hr
 refine r_assign rfl rfl ?_
 refine awl_nil ?_
 refine x_then ?_
 refine awp_seq ?_
 refine awp_seq ?_
 refine awp_region ?_
 refine r_move rfl rfl ?_
 refine r_cmp rfl rfl rfl rfl ?_
 refine awl_nil ?_
 refine x_then ?_
 refine awp_cond rfl (fun hc0 => ?_) (fun hc0 => ?_)
 ·
  refine awp_seq ?_
  refine awp_region ?_
  refine r_move rfl rfl ?_
  refine r_assign rfl rfl ?_
  refine awl_nil ?_
  refine x_then ?_
  refine awp_ret ?_
  refine x_thenR ?_
  exact ⟨(.inl rfl), _, [], (.one (by first | exact .mk rfl rfl | exact .nil rfl)), ⟨rfl, rfl⟩, (List.nil_sublist _), (by simp)⟩
 ·
  exfalso; exact absurd hc0 (by decide)
theorem strs_one (l : List ByteArray) : (strsC l).all AV.one = true := by
  rw [List.all_eq_true]
  intro x hx
  obtain ⟨s, _, rfl⟩ := List.mem_map.1 hx
  rfl
theorem str_drop {l : List ByteArray} {ext : List AV} {k : Nat} (h : k ≤ l.length) : ((strsC l ++ ext).drop k).take (l.length - k) = strsC (l.drop k) := by
  rw [List.drop_append_of_le_length (by rw [strsC_len]; exact h), List.take_append_of_le_length (by simp [strsC_len]), List.take_of_length_le (by simp [strsC_len])]
  simp [strsC, List.map_drop]
theorem del_box {l : List ByteArray} {ext : List AV} {i : Nat} (h : i < l.length) : (strsC l ++ ext).take i ++ ((strsC l ++ ext).drop (0 + (i + 1) * 1)).take (l.length - (i + 1)) ++ (strsC l ++ ext).drop (i + (l.length - (i + 1))) = strsC (l.eraseIdx i) ++ (strsC l ++ ext).drop (i + (l.length - (i + 1))) := by
  rw [Nat.zero_add, Nat.mul_one, str_drop (by omega), List.take_append_of_le_length (by rw [strsC_len]; omega), List.eraseIdx_eq_take_drop_succ]
  simp [strsC, List.map_take, List.map_drop]
theorem erase_len {l : List ByteArray} {i : Nat} (h : i < l.length) : (l.eraseIdx i).length = i + (l.length - (i + 1)) := by rw [List.length_eraseIdx, if_pos h]; omega
set_option maxHeartbeats 1000000 in
theorem delete_ok (l : List ByteArray) (i : Nat) (hi : i < l.length) (hl : l.length ≤ 1000000) {g cap : Nat} {ext : List AV} (hcap : cap = l.length + ext.length) {fl : Bool} : AW Try.prog 28 [.v (.slice (some ⟨g, 0, none⟩) l.length cap), .v (.int .i64 (i : Int)), .v (.int .i64 ((i : Int) + 1))] [] [⟨g, fl, .box (strsC l ++ ext)⟩] (fun r n => ∃ ext', cap = (l.eraseIdx i).length + ext'.length ∧ r = .v (.slice (some ⟨g, 0, none⟩) (l.eraseIdx i).length cap) ∧ n = [⟨g, true, .box (strsC (l.eraseIdx i) ++ ext')⟩]) := by
 refine aw_of_awp (rs := [6]) (nt := 33) (so := [⟨g, true, .box (strsC l ++ ext)⟩]) Try.func28 rfl rfl rfl rfl rfl (fun w0 C0 hq => ?_)
 refine awp_seq ?_
 refine awp_region ?_
 refine r_assign rfl rfl ?_
 refine awl_nil ?_
 refine x_then ?_
 refine awp_seq ?_
 refine awp_region ?_
 refine r_move rfl rfl ?_
 refine r_move rfl rfl ?_
 refine r_move rfl rfl ?_
 refine r_move rfl rfl ?_
 first | (refine r_lenS rfl rfl TF.sl57 rfl ?_) | (refine r_lenNil rfl TF.sl57 rfl ?_) | (refine r_lenV rfl TF.sl57 rfl ?_)
 refine r_sliceV3 rfl rfl rfl rfl TF.sl57 TF.sz9 (by omega) (by omega) (by omega) (by omega) rfl (fun v13 => ?_)
 refine awl_nil ?_
 refine x_then ?_
 refine awp_seq ?_
 refine awp_seq ?_
 refine awp_region ?_
 refine r_move rfl rfl ?_
 refine r_move rfl rfl ?_
 refine r_cmp rfl rfl rfl rfl ?_
 refine awl_nil ?_
 refine x_then ?_
 refine awp_cond rfl (fun hc0 => ?_) (fun hc0 => ?_)
 ·
  exfalso; have := eq_of_beq hc0; omega
 ·
  refine awp_skip ?_
  refine x_then ?_
  refine awp_seq ?_
  refine awp_region ?_
  refine r_move rfl rfl ?_
  first | (refine r_lenS rfl rfl TF.sl57 rfl ?_) | (refine r_lenNil rfl TF.sl57 rfl ?_) | (refine r_lenV rfl TF.sl57 rfl ?_)
  refine r_assign rfl rfl ?_
  refine awl_nil ?_
  refine x_then ?_
  refine awp_seq ?_
  refine awp_drawS [20, 21, 22, 23, 24, 25] [_, _, _, _, _, _] [] [] TF.mixed rfl rfl rfl ⟨⟨⟨⟨⟨⟨trivial
   , ⟨_, rfl, fun sl hd hr ho => by
     refine r_move (hr 0 _ rfl rfl rfl) rfl ?_
     exact awl_nil ⟨rfl, post_put⟩⟩⟩
   , ⟨_, rfl, fun sl hd hr ho => by
     refine r_move (hr 1 _ rfl rfl rfl) rfl ?_
     exact awl_nil ⟨rfl, post_put⟩⟩⟩
   , ⟨_, rfl, fun sl hd hr ho => by
     refine r_sliceVH (hd 0 _ rfl rfl rfl) (hd 1 _ rfl rfl rfl) TF.sl57 TF.sz9 (by omega) (by omega) rfl ?_
     exact awl_nil ⟨rfl, post_put⟩⟩⟩
   , ⟨_, rfl, fun sl hd hr ho => by
     refine r_move (hr 0 _ rfl rfl rfl) rfl ?_
     exact awl_nil ⟨rfl, post_put⟩⟩⟩
   , ⟨_, rfl, fun sl hd hr ho => by
     refine r_move (hr 2 _ rfl rfl rfl) rfl ?_
     exact awl_nil ⟨rfl, post_put⟩⟩⟩
   , ⟨_, rfl, fun sl hd hr ho => by
     refine r_sliceVLd (hd 3 _ rfl rfl rfl) (hd 4 _ rfl rfl rfl) TF.sl57 TF.sz9 (by omega) (by omega) (by omega) rfl ?_
     exact awl_nil ⟨rfl, post_put⟩⟩⟩
   (by rfl) ?_
  refine r_appendV 0 rfl rfl (fun h => if_neg (by omega)) rfl TF.sl57 TF.sz9 (by rw [show (0 + ((i : Int) + 1).toNat * 1) = i + 1 from by omega, show l.length - ((i : Int) + 1).toNat = l.length - (i + 1) from by omega, str_drop (by omega)]; exact strs_one _) (by omega) (by simp [strsC_len]; omega) (by simp [strsC_len]; omega) rfl ?_
  refine r_assign rfl rfl ?_
  refine awl_nil ?_
  refine x_then ?_
  refine awp_seq ?_
  refine awp_region ?_
  refine awl_imp (imp_boxEq 0 (strsC (l.eraseIdx i) ++ (strsC l ++ ext).drop (i + (l.length - (i + 1)))) rfl (del_box hi)) ?_
  refine r_move rfl rfl ?_
  refine r_move rfl rfl ?_
  first | (refine r_lenS rfl rfl TF.sl57 rfl ?_) | (refine r_lenNil rfl TF.sl57 rfl ?_) | (refine r_lenV rfl TF.sl57 rfl ?_)
  refine r_move rfl rfl ?_
  refine r_sliceVLH rfl rfl rfl TF.sl57 TF.sz9 (by omega) (by omega) (by omega) rfl (fun A31 hA31 => ?_)
  refine r_clear 0 rfl (fun h => hA31 (by omega)) rfl TF.sl57 TF.zraw9 rfl (by simp [Value.oneCell']) (by simp [strsC_len, erase_len hi]; omega) (fun xc hxc => ?_)
  refine awl_nil ?_
  refine x_then ?_
  refine awp_seq ?_
  refine awp_region ?_
  refine r_move rfl rfl ?_
  refine r_assign rfl rfl ?_
  refine awl_nil ?_
  refine x_then ?_
  refine awp_ret ?_
  have he := erase_len hi
  have htk : (strsC (l.eraseIdx i) ++ (strsC l ++ ext).drop (i + (l.length - (i + 1)))).take (0 + (i + (l.length - (i + 1))) * 1) = strsC (l.eraseIdx i) := by rw [Nat.zero_add, Nat.mul_one, ← he, ← strsC_len (l.eraseIdx i), List.take_left]
  exact ⟨(.inl rfl), _, [⟨g, true, .box (strsC (l.eraseIdx i) ++ (xc ++ (strsC (l.eraseIdx i) ++ (strsC l ++ ext).drop (i + (l.length - (i + 1)))).drop (0 + (i + (l.length - (i + 1))) * 1 + (l.length - (i + (l.length - (i + 1)))))))⟩], (.one (by first | exact .mk rfl rfl | exact .nil rfl)), ⟨_, by simp [strsC_len, hxc, he]; omega, by rw [he]; rfl, rfl⟩, (by rw [show strsC (l.eraseIdx i) ++ (xc ++ (strsC (l.eraseIdx i) ++ (strsC l ++ ext).drop (i + (l.length - (i + 1)))).drop (0 + (i + (l.length - (i + 1))) * 1 + (l.length - (i + (l.length - (i + 1)))))) = (strsC (l.eraseIdx i) ++ (strsC l ++ ext).drop (i + (l.length - (i + 1)))).take (0 + (i + (l.length - (i + 1))) * 1) ++ xc ++ (strsC (l.eraseIdx i) ++ (strsC l ++ ext).drop (i + (l.length - (i + 1)))).drop (0 + (i + (l.length - (i + 1))) * 1 + (l.length - (i + (l.length - (i + 1))))) from by rw [htk, List.append_assoc]]; exact List.Sublist.refl _), (by simp)⟩
end Go.Proofs.Ytnbnegkdbjdekaa.A
namespace Go.Proofs.Ytnbnegkdbjdekaa.A
open Go Go.RowKit
set_option linter.unusedVariables false
set_option linter.unusedSimpArgs false
set_option maxRecDepth 100000
set_option linter.unusedSectionVars false
variable [Thr]
theorem TF.sl34 : sliceT Try.prog 34 = some 5 := by kernel_rfl
theorem TF.sz5 : szT Try.prog 5 = some 1 := by kernel_rfl
theorem TF.zraw5 : zeroT Try.prog 5 = some [(.int .u8 0)] := by kernel_rfl
theorem TF.by5 : bytesT Try.prog 5 = some 1 := by kernel_rfl
theorem TF.zlen5 : (zeroT Try.prog 5).map (·.length) = some 1 := by kernel_rfl
theorem TF.un5 : Try.prog.underlying 5 = some (.int .u8) := by kernel_rfl
theorem TF.un9 : Try.prog.underlying 9 = some .string := by kernel_rfl
theorem TF.sl25 : sliceT Try.prog 25 = some 48 := by kernel_rfl
theorem TF.sz48 : szT Try.prog 48 = some 2 := by kernel_rfl
theorem TF.agg48 : aggT Try.prog 48 = some true := by kernel_rfl
theorem TF.zero48 : ZeroT Try.prog 48 [.v (.string ⟨#[]⟩), .sl 1 []] := ⟨[(.string ⟨#[]⟩), (.slice none 0 0)], by kernel_rfl, (.cons (.refl _) (.cons (.nil 1) .nil))⟩
theorem TF.f48_0 : fieldT Try.prog 48 0 = some (0, 9) := by kernel_rfl
theorem TF.map55 : mapT Try.prog 55 = some (9, 34) := by kernel_rfl
theorem TF.f48_1 : fieldT Try.prog 48 1 = some (1, 34) := by kernel_rfl
theorem TF.sz34 : szT Try.prog 34 = some 1 := by kernel_rfl
theorem TF.agg34 : aggT Try.prog 34 = some false := by kernel_rfl
theorem TF.en30 : entersT Try.prog 30 := enters_of Try.func30 (by kernel_rfl) (by kernel_rfl)
theorem TF.en44 : entersT Try.prog 44 := enters_of Try.func44 (by kernel_rfl) (by kernel_rfl)
theorem TF.en43 : entersT Try.prog 43 := enters_of Try.func43 (by kernel_rfl) (by kernel_rfl)
theorem TF.agg55 : aggT Try.prog 55 = some false := by kernel_rfl
theorem TF.en42 : entersT Try.prog 42 := enters_of Try.func42 (by kernel_rfl) (by kernel_rfl)
theorem TF.en29 : entersT Try.prog 29 := enters_of Try.func29 (by kernel_rfl) (by kernel_rfl)
theorem TF.en41 : entersT Try.prog 41 := enters_of Try.func41 (by kernel_rfl) (by kernel_rfl)
theorem TF.en27 : entersT Try.prog 27 := enters_of Try.func27 (by kernel_rfl) (by kernel_rfl)
theorem ba_mk (a b : List UInt8) : decide ((⟨a.toArray⟩ : ByteArray) = ⟨b.toArray⟩) = decide (a = b) := by simp
theorem u8s_len (l : List UInt8) : (u8s l).length = l.length := by simp [u8s]
theorem clone_ok (l : List UInt8) (hl : l.length ≤ 1000000) : AC Try.prog 30 [bts l] [] (fun r n => n = [] ∧ r = bts l) := by
 refine ac_of_awp (rs := [2]) (nt := 8) Try.func30 rfl rfl rfl rfl (fun w0 C0 hq => ?_)
 refine awp_seq ?_
 refine awp_region ?_
 refine r_assign rfl rfl ?_
 refine awl_nil ?_
 refine x_then ?_
 refine awp_seq ?_
 refine awp_seq ?_
 refine awp_region ?_
 refine r_move rfl rfl ?_
 refine r_slnil rfl rfl TF.sl34 rfl (fun b4 hb4 => ?_)
 refine awl_nil ?_
 refine x_then ?_
 refine awp_cond rfl (fun hc0 => ?_) (fun hc0 => ?_)
 ·
  obtain rfl : l = [] := by simpa [u8s] using hb4 hc0
  refine awp_seq ?_
  refine awp_region ?_
  refine r_assign rfl rfl ?_
  refine awl_nil ?_
  refine x_then ?_
  refine awp_ret ?_
  refine x_thenR ?_
  exact ⟨(.inl rfl), _, [], (.one (by first | exact .mk rfl rfl | exact .nil rfl)), ⟨rfl, rfl⟩, (List.nil_sublist _), (by simp)⟩
 ·
  refine awp_skip ?_
  refine x_then ?_
  refine awp_seq ?_
  refine awp_region ?_
  refine r_lit 5 (parts := []) rfl TF.sl34 TF.sz5 TF.zraw5 rfl rfl rfl rfl rfl rfl rfl ?_
  refine r_move rfl rfl ?_
  refine r_append 5 rfl (by first | exact .own _ | exact .nil) rfl (by first | exact .sl _ | exact .own _ _ | exact .nil) TF.sl34 TF.sz5 (by decide) TF.by5 TF.zlen5 (by simp [chunks, u8s]; omega) (by simp [chunks, u8s]; omega) rfl ?_
  refine r_assign rfl rfl ?_
  refine awl_nil ?_
  refine x_then ?_
  refine awp_ret ?_
  exact ⟨(.inl rfl), _, [], (.one (by first | exact .mk rfl rfl | exact .nil rfl)), ⟨rfl, by first | rfl | simp [chunks, bts, SV.av]⟩, (List.nil_sublist _), (by simp)⟩
theorem equal_ok (a b : List UInt8) : AC Try.prog 27 [bts a, bts b] [] (fun r n => n = [] ∧ r = boolA (decide (a = b))) := by
 refine ac_of_awp (rs := [4]) (nt := 10) Try.func27 rfl rfl rfl rfl (fun w0 C0 hq => ?_)
 refine awp_seq ?_
 refine awp_region ?_
 refine r_assign rfl rfl ?_
 refine awl_nil ?_
 refine x_then ?_
 refine awp_seq ?_
 refine awp_region ?_
 refine r_move rfl rfl ?_
 refine r_convBS a rfl rfl TF.sl34 TF.un5 TF.un9 rfl ?_
 refine r_move rfl rfl ?_
 refine r_convBS b rfl rfl TF.sl34 TF.un5 TF.un9 rfl ?_
 refine r_str2 rfl rfl rfl rfl ?_
 refine r_assign rfl rfl ?_
 refine awl_nil ?_
 refine x_then ?_
 refine awp_ret ?_
 exact ⟨(.inl rfl), _, [], (.one (by first | exact .mk rfl rfl | exact .nil rfl)), ⟨rfl, by rw [← ba_mk]; rfl⟩, (List.nil_sublist _), (by simp)⟩
theorem named_ok (l : List File) (hl : l.length ≤ 1000000) (hda : ∀ f ∈ l, f.data.length ≤ 1000000) : AC Try.prog 23 [files l] [] (fun r n => ∃ b m, r = .v (.map (some b)) ∧ n = [⟨b, true, .map (encM Value.string bts m)⟩] ∧ TellsS m l) := by
 refine ac_of_awp (rs := [2]) (nt := 32) Try.func23 rfl rfl rfl rfl (fun w0 C0 hq => ?_)
 refine awp_seq ?_
 refine awp_region ?_
 refine r_assign rfl rfl ?_
 refine awl_nil ?_
 refine x_then ?_
 refine awp_seq ?_
 refine awp_region ?_
 refine r_makeMap (ek := Value.string) (ev := bts) [] rfl rfl (fun b8 => ?_)
 refine r_assign rfl rfl ?_
 refine awl_nil ?_
 refine x_then ?_
 refine awp_seq ?_
 refine awp_seq ?_
 refine awp_region ?_
 refine r_move rfl rfl ?_
 first | (refine r_lenS rfl rfl TF.sl25 rfl ?_) | (refine r_lenNil rfl TF.sl25 rfl ?_) | (refine r_lenV rfl TF.sl25 rfl ?_)
 refine r_move rfl rfl ?_
 refine awl_nil ?_
 refine x_then ?_
 refine awp_block ?_
 refine awp_loop (fun nn0 S => ∃ k : Nat, ∃ m : List (ByteArray × List UInt8), S = ⟨32, [(3, .a (.v (.map (some b8)))), (9, .a (files l)), (10, .a (.v (.int .i64 ((l.map File.cs).length)))), (11, .a (.v (.int .i64 ((k : Int)))))], [⟨b8, true, .map (encM Value.string bts m)⟩]⟩ ∧ nn0 = l.length - k ∧ (k ≤ l.length) ∧ (TellsS m (l.take k))) (l.length - (0)) ⟨32, [(3, .a (.v (.map (some b8)))), (9, .a (files l)), (10, .a (.v (.int .i64 ((l.map File.cs).length)))), (11, .a (.v (.int .i64 (((0) : Int)))))], [⟨b8, true, .map (encM Value.string bts ([]))⟩]⟩ ⟨rfl, (Slots.cons rfl (by first | exact .refl _ | exact .nilOwn _ _ | exact .nilSl _ | exact .ownSl _ _ _  | exact SV.le.of_eq (by simp)) (Slots.cons rfl (by first | exact .refl _ | exact .nilOwn _ _ | exact .nilSl _ | exact .ownSl _ _ _  | exact SV.le.of_eq (by simp)) (Slots.cons rfl (by first | exact .refl _ | exact .nilOwn _ _ | exact .nilSl _ | exact .ownSl _ _ _  | exact SV.le.of_eq (by simp)) (Slots.cons rfl (by first | exact .refl _ | exact .nilOwn _ _ | exact .nilSl _ | exact .ownSl _ _ _  | exact SV.le.of_eq (by simp)) Slots.nil)))), (by first | exact List.Sublist.refl _ | exact .cons_cons _ (.cons _ (.refl _)) | exact List.nil_sublist _ | exact .cons _ (.refl _) | exact .cons _ (.cons _ (.refl _)) | exact .cons _ (.cons _ (.cons _ (.refl _))) | exact .cons _ (.cons _ (.cons _ (.cons _ (.refl _)))) | exact .cons_cons _ (List.nil_sublist _))⟩ ⟨0, [], rfl, rfl, Nat.zero_le _, tellsS_nil⟩ ?_
 rintro nn0 _ ⟨k, m, rfl, rfl, hk, ht⟩
 refine awp_seq ?_
 refine awp_region ?_
 refine r_cmp rfl rfl rfl rfl ?_
 refine awl_nil ?_
 refine x_then ?_
 refine awp_seq ?_
 refine awp_cond rfl (fun hc0 => ?_) (fun hc0 => ?_)
 ·
  have hltx : k < l.length := by have := of_decide_eq_true hc0; simpa using this
  obtain ⟨x, hx⟩ := get_lt hltx
  refine awp_skip ?_
  refine x_then ?_
  refine awp_seq ?_
  refine awp_block ?_
  refine awp_seq ?_
  refine awp_region ?_
  refine r_index rfl rfl rfl TF.sl25 TF.sz48 (by omega) (get_map hx) rfl ?_
  first | (refine r_loadA rfl TF.agg48 TF.sz48 rfl rfl ?_) | (refine r_loadAb 0 rfl rfl TF.agg48 TF.sz48 rfl rfl ?_)
  refine r_alloc TF.zero48 rfl (fun b5 => ?_)
  first | (refine r_store 0 rfl rfl rfl TF.sz48 rfl rfl rfl ?_) | (refine r_store 1 rfl rfl rfl TF.sz48 rfl rfl rfl ?_)
  refine awl_nil ?_
  refine x_then ?_
  refine awp_seq ?_
  refine awp_region ?_
  refine r_move rfl rfl ?_
  first | (refine r_fieldb rfl TF.f48_0 TF.sz9 rfl ?_) | (refine r_fieldcp rfl TF.f48_0 TF.sz9 rfl ?_)
  refine r_load1b 0 rfl rfl rfl TF.agg9 rfl ?_
  first | (refine r_lookupOk 0 (keyEnc_string TF.un9) (ev := bts) [] rfl rfl rfl TF.map55 TF.zavS rfl ?_) | (refine r_lookupOk 1 (keyEnc_string TF.un9) (ev := bts) [] rfl rfl rfl TF.map55 TF.zavS rfl ?_)
  refine r_move rfl rfl ?_
  refine r_extract rfl rfl rfl ?_
  refine r_extract rfl rfl rfl ?_
  refine r_assign rfl rfl ?_
  refine r_assign rfl rfl ?_
  refine awl_nil ?_
  refine x_then ?_
  refine awp_seq ?_
  refine awp_region ?_
  refine r_move rfl rfl ?_
  refine r_not rfl rfl ?_
  refine awl_nil ?_
  refine x_then ?_
  refine awp_cond rfl (fun hc1 => ?_) (fun hc1 => ?_)
  ·
   have hg : (mget m x.name).isSome = false := by simpa using hc1
   refine awp_drawS [24, 25, 26, 27, 28, 29] [_, _, _, _, _, _] [] [] TF.mixed rfl rfl rfl ⟨⟨⟨⟨⟨⟨trivial
    , ⟨_, rfl, fun sl hd hr ho => by
      refine r_move (hr 3 _ rfl rfl rfl) rfl ?_
      exact awl_nil ⟨rfl, post_put⟩⟩⟩
    , ⟨_, rfl, fun sl hd hr ho => by
      first | (refine r_fieldb (hr 5 _ rfl rfl rfl) TF.f48_0 TF.sz9 rfl ?_) | (refine r_fieldcp (hr 5 _ rfl rfl rfl) TF.f48_0 TF.sz9 rfl ?_)
      exact awl_nil ⟨rfl, post_put⟩⟩⟩
    , ⟨_, rfl, fun sl hd hr ho => by
      refine r_load1b 0 (hd 1 _ rfl rfl rfl) rfl rfl TF.agg9 rfl ?_
      exact awl_nil ⟨rfl, post_put⟩⟩⟩
    , ⟨_, rfl, fun sl hd hr ho => by
      first | (refine r_fieldb (hr 5 _ rfl rfl rfl) TF.f48_1 TF.sz34 rfl ?_) | (refine r_fieldcp (hr 5 _ rfl rfl rfl) TF.f48_1 TF.sz34 rfl ?_)
      exact awl_nil ⟨rfl, post_put⟩⟩⟩
    , ⟨_, rfl, fun sl hd hr ho => by
      refine r_load1b 0 (hd 3 _ rfl rfl rfl) rfl rfl TF.agg34 rfl ?_
      exact awl_nil ⟨rfl, post_put⟩⟩⟩
    , ⟨_, rfl, fun sl hd hr ho => by
      refine r_call0 hq rfl rfl (.cons (.ev (hd 4 _ rfl rfl rfl) rfl) .nil) (clone_ok x.data (hda x (List.mem_of_getElem? hx))) rfl TF.en30 rfl (fun r hr => ?_)
      obtain rfl := hr
      exact awl_nil ⟨rfl, post_put⟩⟩⟩
    (by rfl) ?_
   first | (refine r_mapUpdate 0 (keyEnc_string TF.un9) (ev := bts) x.data rfl rfl rfl rfl rfl TF.map55 ?_) | (refine r_mapUpdate 1 (keyEnc_string TF.un9) (ev := bts) x.data rfl rfl rfl rfl rfl TF.map55 ?_)
   refine awl_nil ?_
   refine x_block ?_
   refine x_then ?_
   refine awp_region ?_
   refine r_ari _ rfl rfl rfl (wrap_id (by first | omega | (simp; omega))) rfl ?_
   refine r_move rfl rfl ?_
   refine awl_nil ?_
   refine x_then ?_
   refine ⟨l.length - (k + 1), ⟨32, [(3, .a (.v (.map (some b8)))), (9, .a (files l)), (10, .a (.v (.int .i64 ((l.map File.cs).length)))), (11, .a (.v (.int .i64 (((k + 1) : Int)))))], [⟨b8, true, .map (encM Value.string bts (mset m x.name x.data))⟩]⟩, ⟨rfl, (Slots.cons rfl (by first | exact .refl _ | exact .nilOwn _ _ | exact .nilSl _ | exact .ownSl _ _ _  | exact SV.le.of_eq (by simp)) (Slots.cons rfl (by first | exact .refl _ | exact .nilOwn _ _ | exact .nilSl _ | exact .ownSl _ _ _  | exact SV.le.of_eq (by simp)) (Slots.cons rfl (by first | exact .refl _ | exact .nilOwn _ _ | exact .nilSl _ | exact .ownSl _ _ _  | exact SV.le.of_eq (by simp)) (Slots.cons rfl (by first | exact .refl _ | exact .nilOwn _ _ | exact .nilSl _ | exact .ownSl _ _ _  | exact SV.le.of_eq (by simp)) Slots.nil)))), (by first | exact List.Sublist.refl _ | exact .cons_cons _ (.cons _ (.refl _)) | exact List.nil_sublist _ | exact .cons _ (.refl _) | exact .cons _ (.cons _ (.refl _)) | exact .cons _ (.cons _ (.cons _ (.refl _))) | exact .cons _ (.cons _ (.cons _ (.cons _ (.refl _)))) | exact .cons_cons _ (List.nil_sublist _))⟩, (by omega), ⟨k + 1, mset m x.name x.data, rfl, rfl, (by omega), (tellsS_new ht hx hg)⟩⟩
  ·
   have hg : (mget m x.name).isSome = true := by simpa using hc1
   refine awp_skip ?_
   refine x_block ?_
   refine x_then ?_
   refine awp_region ?_
   refine r_ari _ rfl rfl rfl (wrap_id (by first | omega | (simp; omega))) rfl ?_
   refine r_move rfl rfl ?_
   refine awl_nil ?_
   refine x_then ?_
   refine ⟨l.length - (k + 1), ⟨32, [(3, .a (.v (.map (some b8)))), (9, .a (files l)), (10, .a (.v (.int .i64 ((l.map File.cs).length)))), (11, .a (.v (.int .i64 (((k + 1) : Int)))))], [⟨b8, true, .map (encM Value.string bts (m))⟩]⟩, ⟨rfl, (Slots.cons rfl (by first | exact .refl _ | exact .nilOwn _ _ | exact .nilSl _ | exact .ownSl _ _ _  | exact SV.le.of_eq (by simp)) (Slots.cons rfl (by first | exact .refl _ | exact .nilOwn _ _ | exact .nilSl _ | exact .ownSl _ _ _  | exact SV.le.of_eq (by simp)) (Slots.cons rfl (by first | exact .refl _ | exact .nilOwn _ _ | exact .nilSl _ | exact .ownSl _ _ _  | exact SV.le.of_eq (by simp)) (Slots.cons rfl (by first | exact .refl _ | exact .nilOwn _ _ | exact .nilSl _ | exact .ownSl _ _ _  | exact SV.le.of_eq (by simp)) Slots.nil)))), (by first | exact List.Sublist.refl _ | exact .cons_cons _ (.cons _ (.refl _)) | exact List.nil_sublist _ | exact .cons _ (.refl _) | exact .cons _ (.cons _ (.refl _)) | exact .cons _ (.cons _ (.cons _ (.refl _))) | exact .cons _ (.cons _ (.cons _ (.cons _ (.refl _)))) | exact .cons_cons _ (List.nil_sublist _))⟩, (by omega), ⟨k + 1, m, rfl, rfl, (by omega), (tellsS_has ht hx hg)⟩⟩
 ·
  have hge : l.length ≤ k := by have := of_decide_eq_false hc0; simp at this; omega
  rw [List.take_of_length_le hge] at ht
  refine awp_exit ?_
  refine x_thenE ?_
  refine x_thenE ?_
  refine x_blockE ?_
  refine x_then ?_
  refine awp_seq ?_
  refine awp_region ?_
  refine r_move rfl rfl ?_
  refine r_assign rfl rfl ?_
  refine awl_nil ?_
  refine x_then ?_
  refine awp_ret ?_
  exact ⟨(.inl rfl), _, [⟨b8, true, .map (encM Value.string bts m)⟩], (.one (by first | exact .mk rfl rfl | exact .nil rfl)), ⟨b8, m, rfl, rfl, ht⟩, (by first | exact List.Sublist.refl _ | exact .cons_cons _ (.cons _ (.refl _)) | exact List.nil_sublist _ | exact .cons _ (.refl _) | exact .cons _ (.cons _ (.refl _)) | exact .cons _ (.cons _ (.cons _ (.refl _))) | exact .cons _ (.cons _ (.cons _ (.cons _ (.refl _)))) | exact .cons_cons _ (List.nil_sublist _)), (by simp)⟩
theorem order_ok (m : List (ByteArray × List UInt8)) (hnd : (m.map (·.1)).Nodup) (hsz : ∀ s ∈ m.map (·.1), s.size ≤ maxLen) (hlen : m.length ≤ 1000000) {b : Nat} {fl : Bool} : AC Try.prog 29 [.v (.map (some b))] [⟨b, fl, .map (encM Value.string bts m)⟩] (fun r n => n = [] ∧ r = strsA (sortB (m.map (·.1)))) := by
 refine ac_of_awp (rs := [2]) (nt := 6) Try.func29 rfl rfl rfl rfl (fun w0 C0 hq => ?_)
 refine awp_seq ?_
 refine awp_region ?_
 refine r_assign rfl rfl ?_
 refine awl_nil ?_
 refine x_then ?_
 refine awp_seq ?_
 refine awp_region ?_
 refine r_move rfl rfl ?_
 refine r_callO hq rfl rfl (.cons (.ev rfl rfl) .nil) (ac_keys keys44) rfl TF.en44 (by first | exact List.Sublist.refl _ | exact .cons_cons _ (.cons _ (.refl _)) | exact List.nil_sublist _ | exact .cons _ (.refl _) | exact .cons _ (.cons _ (.refl _)) | exact .cons _ (.cons _ (.cons _ (.refl _))) | exact .cons _ (.cons _ (.cons _ (.cons _ (.refl _)))) | exact .cons_cons _ (List.nil_sublist _)) rfl (fun r nobjs hr => ?_)
 obtain ⟨g, rfl, rfl⟩ := hr
 refine r_callO hq rfl rfl (.cons (.ev rfl rfl) .nil) (ac_sorted sorted43_44 TF.un9 (encM_keys (ek := Value.string) (ev := bts) m) hnd hsz (by rw [encM_len]; exact hlen)) rfl TF.en43 (by first | exact List.Sublist.refl _ | exact .cons_cons _ (.cons _ (.refl _)) | exact List.nil_sublist _ | exact .cons _ (.refl _) | exact .cons _ (.cons _ (.refl _)) | exact .cons _ (.cons _ (.cons _ (.refl _))) | exact .cons _ (.cons _ (.cons _ (.cons _ (.refl _)))) | exact .cons_cons _ (List.nil_sublist _)) rfl (fun r nobjs hr => ?_)
 obtain ⟨rfl, rfl⟩ := hr
 refine r_assign rfl rfl ?_
 refine awl_nil ?_
 refine x_then ?_
 refine awp_ret ?_
 exact ⟨(.inl rfl), _, [], (.one (by first | exact .mk rfl rfl | exact .nil rfl)), ⟨rfl, rfl⟩, (List.nil_sublist _), (by simp)⟩
theorem orderG_ok (m : List (ByteArray × List UInt8)) (hnd : (m.map (·.1)).Nodup) (hsz : ∀ s ∈ m.map (·.1), s.size ≤ maxLen) (hlen : m.length ≤ 1000000) {b : Nat} {fl : Bool} : AC Try.prog 29 [.v (.map (some b))] [⟨b, fl, .map (encM Value.string bts m)⟩] (GrowS (sortB (m.map (·.1)))) := by
 refine ac_of_awp (rs := [2]) (nt := 6) Try.func29 rfl rfl rfl rfl (fun w0 C0 hq => ?_)
 refine awp_seq ?_
 refine awp_region ?_
 refine r_assign rfl rfl ?_
 refine awl_nil ?_
 refine x_then ?_
 refine awp_seq ?_
 refine awp_region ?_
 refine r_move rfl rfl ?_
 refine r_callO hq rfl rfl (.cons (.ev rfl rfl) .nil) (ac_keys keys44) rfl TF.en44 (by first | exact List.Sublist.refl _ | exact .cons_cons _ (.cons _ (.refl _)) | exact List.nil_sublist _ | exact .cons _ (.refl _) | exact .cons _ (.cons _ (.refl _)) | exact .cons _ (.cons _ (.cons _ (.refl _))) | exact .cons _ (.cons _ (.cons _ (.cons _ (.refl _)))) | exact .cons_cons _ (List.nil_sublist _)) rfl (fun r nobjs hr => ?_)
 obtain ⟨g, rfl, rfl⟩ := hr
 refine r_callO hq rfl rfl (.cons (.ev rfl rfl) .nil) (ac_sortedG sorted43_44 TF.un9 (encM_keys (ek := Value.string) (ev := bts) m) hnd hsz (by rw [encM_len]; exact hlen)) rfl TF.en43 (by first | exact List.Sublist.refl _ | exact .cons_cons _ (.cons _ (.refl _)) | exact List.nil_sublist _ | exact .cons _ (.refl _) | exact .cons _ (.cons _ (.refl _)) | exact .cons _ (.cons _ (.cons _ (.refl _))) | exact .cons _ (.cons _ (.cons _ (.cons _ (.refl _)))) | exact .cons_cons _ (List.nil_sublist _)) rfl (fun r nobjs hr => ?_)
 rcases hr with ⟨h0, rfl, rfl⟩ | ⟨g2, cap, ext, hcap, rfl, rfl⟩
 ·
  refine r_assign rfl rfl ?_
  refine awl_nil ?_
  refine x_then ?_
  refine awp_ret ?_
  exact ⟨(.inl rfl), _, [], (.one (by first | exact .mk rfl rfl | exact .nil rfl)), (.inl ⟨h0, rfl, rfl⟩), (List.nil_sublist _), (by simp)⟩
 ·
  refine r_assign rfl rfl ?_
  refine awl_nil ?_
  refine x_then ?_
  refine awp_ret ?_
  exact ⟨(.inl rfl), _, [⟨g2, true, .box (strsC (sortB (m.map (·.1))) ++ ext)⟩], (.one (by first | exact .mk rfl rfl | exact .nil rfl)), (.inr ⟨g2, cap, ext, hcap, rfl, rfl⟩), (by first | exact List.Sublist.refl _ | exact .cons_cons _ (.cons _ (.refl _)) | exact List.nil_sublist _ | exact .cons _ (.refl _) | exact .cons _ (.cons _ (.refl _)) | exact .cons _ (.cons _ (.cons _ (.refl _))) | exact .cons _ (.cons _ (.cons _ (.cons _ (.refl _)))) | exact .cons_cons _ (List.nil_sublist _)), (by simp)⟩
theorem without1_ok (m : List (ByteArray × List UInt8)) (s : ByteArray) {b : Nat} {fl : Bool} : AC Try.prog 42 [.v (.string s), .cp [.v (.map (some b))]] [⟨b, fl, .map (encM Value.string bts m)⟩] (fun r n => n = [] ∧ r = boolA (mget m s).isSome) := by
 refine ac_of_awp (rs := [3]) (nt := 13) Try.func42 rfl rfl rfl rfl (fun w0 C0 hq => ?_)
 refine awp_seq ?_
 refine awp_region ?_
 refine r_assign rfl rfl ?_
 refine awl_nil ?_
 refine x_then ?_
 refine awp_seq ?_
 refine awp_region ?_
 first | (refine r_load1 rfl TF.agg55 rfl ?_) | (refine r_load1b 0 rfl rfl rfl TF.agg55 rfl ?_)
 refine r_move rfl rfl ?_
 refine r_lookupOk 0 (keyEnc_string TF.un9) (ev := bts) [] rfl rfl rfl TF.map55 TF.zavS rfl ?_
 refine r_move rfl rfl ?_
 refine r_extract rfl rfl rfl ?_
 refine r_extract rfl rfl rfl ?_
 refine r_assign rfl rfl ?_
 refine r_assign rfl rfl ?_
 refine awl_nil ?_
 refine x_then ?_
 refine awp_seq ?_
 refine awp_region ?_
 refine r_move rfl rfl ?_
 refine r_assign rfl rfl ?_
 refine awl_nil ?_
 refine x_then ?_
 refine awp_ret ?_
 exact ⟨(.inl rfl), _, [], (.one (by first | exact .mk rfl rfl | exact .nil rfl)), ⟨rfl, rfl⟩, (List.nil_sublist _), (by simp)⟩
theorem withoutG_ok (ma mb : List (ByteArray × List UInt8)) (hnd : (ma.map (·.1)).Nodup) (hsz : ∀ s ∈ ma.map (·.1), s.size ≤ maxLen) (hlen : ma.length ≤ 1000000) {ba bb : Nat} {f1 f2 : Bool} : AC Try.prog 24 [.v (.map (some ba)), .v (.map (some bb))] [⟨ba, f1, .map (encM Value.string bts ma)⟩, ⟨bb, f2, .map (encM Value.string bts mb)⟩] (GrowS ((sortB (ma.map (·.1))).filter (fun s => !(mget mb s).isSome))) := by
 refine ac_of_awp (rs := [4]) (nt := 9) Try.func24 rfl rfl rfl rfl (fun w0 C0 hq => ?_)
 refine awp_seq ?_
 refine awp_region ?_
 refine r_box rfl rfl rfl (fun b3 => ?_)
 refine r_assign rfl rfl ?_
 refine awl_nil ?_
 refine x_then ?_
 refine awp_seq ?_
 refine awp_region ?_
 refine awl_imp (imp_commit 0 3 rfl rfl rfl rfl) ?_
 refine r_move rfl rfl ?_
 refine r_callO hq rfl rfl (.cons (.ev rfl rfl) .nil) (orderG_ok ma hnd hsz hlen) rfl TF.en29 (.cons_cons _ (List.nil_sublist _)) rfl (fun r nobjs hr => ?_)
 rcases hr with ⟨h0, rfl, rfl⟩ | ⟨g2, cap, ext, hcap, rfl, rfl⟩
 ·
  refine r_makeFunc rfl (.cons (.ev rfl rfl) .nil) rfl ?_
  refine r_call0 hq rfl rfl (.cons (.ev rfl rfl) (.cons (.ev rfl rfl) .nil)) (delN_ok) rfl TF.en41 rfl (fun r hr => ?_)
  obtain rfl := hr
  refine r_assign rfl rfl ?_
  refine awl_nil ?_
  refine x_then ?_
  refine awp_ret ?_
  exact ⟨(.inl rfl), _, [], (.one (by first | exact .mk rfl rfl | exact .nil rfl)), (.inl ⟨by rw [h0]; rfl, rfl, rfl⟩), (List.nil_sublist _), (by simp)⟩
 ·
  refine r_makeFunc rfl (.cons (.ev rfl rfl) .nil) rfl ?_
  refine r_callW hq [true, false, false] rfl rfl (.cons (.ev rfl rfl) (.cons (.ev rfl rfl) .nil)) (delV_ok (fun s => (mget mb s).isSome) TF.en42 (os := [⟨bb, false, .map (encM Value.string bts mb)⟩]) (fun s => without1_ok mb s) _ (by rw [sortB_len, List.length_map]; exact hlen) hcap) rfl TF.en41 rfl rfl (.cons _ (.refl _)) rfl (fun r nobjs hr => ?_)
  obtain ⟨ext', hcap', rfl, rfl⟩ := hr
  refine r_assign rfl rfl ?_
  refine awl_nil ?_
  refine x_then ?_
  refine awp_ret ?_
  exact ⟨(.inl rfl), _, [⟨g2, true, .box (strsC ((sortB (ma.map (·.1))).filter (fun s => !(mget mb s).isSome)) ++ ext')⟩], (.one (by first | exact .mk rfl rfl | exact .nil rfl)), (.inr ⟨g2, cap, ext', hcap', rfl, rfl⟩), (by first | exact List.Sublist.refl _ | exact .cons_cons _ (.cons _ (.refl _)) | exact List.nil_sublist _ | exact .cons _ (.refl _) | exact .cons _ (.cons _ (.refl _)) | exact .cons _ (.cons _ (.cons _ (.refl _))) | exact .cons _ (.cons _ (.cons _ (.cons _ (.refl _)))) | exact .cons_cons _ (List.nil_sublist _)), (by simp)⟩
theorem without_ok (ma mb : List (ByteArray × List UInt8)) (hnd : (ma.map (·.1)).Nodup) (hsz : ∀ s ∈ ma.map (·.1), s.size ≤ maxLen) (hlen : ma.length ≤ 1000000) {ba bb : Nat} {f1 f2 : Bool} : AC Try.prog 24 [.v (.map (some ba)), .v (.map (some bb))] [⟨ba, f1, .map (encM Value.string bts ma)⟩, ⟨bb, f2, .map (encM Value.string bts mb)⟩] (fun r n => n = [] ∧ r = strsA ((sortB (ma.map (·.1))).filter (fun s => !(mget mb s).isSome))) := by
 refine ac_of_awp (rs := [4]) (nt := 9) Try.func24 rfl rfl rfl rfl (fun w0 C0 hq => ?_)
 refine awp_seq ?_
 refine awp_region ?_
 refine r_box rfl rfl rfl (fun b3 => ?_)
 refine r_assign rfl rfl ?_
 refine awl_nil ?_
 refine x_then ?_
 refine awp_seq ?_
 refine awp_region ?_
 refine awl_imp (imp_commit 0 3 rfl rfl rfl rfl) ?_
 refine r_move rfl rfl ?_
 refine r_callO hq rfl rfl (.cons (.ev rfl rfl) .nil) (orderG_ok ma hnd hsz hlen) rfl TF.en29 (.cons_cons _ (List.nil_sublist _)) rfl (fun r nobjs hr => ?_)
 rcases hr with ⟨h0, rfl, rfl⟩ | ⟨g2, cap, ext, hcap, rfl, rfl⟩
 ·
  refine r_makeFunc rfl (.cons (.ev rfl rfl) .nil) rfl ?_
  refine r_call0 hq rfl rfl (.cons (.ev rfl rfl) (.cons (.ev rfl rfl) .nil)) (delN_ok) rfl TF.en41 rfl (fun r hr => ?_)
  obtain rfl := hr
  refine r_assign rfl rfl ?_
  refine awl_nil ?_
  refine x_then ?_
  refine awp_ret ?_
  exact ⟨(.inl rfl), _, [], (.one (.nil (sz := 1) rfl)), ⟨rfl, by rw [h0]; rfl⟩, (List.nil_sublist _), (by simp)⟩
 ·
  refine r_makeFunc rfl (.cons (.ev rfl rfl) .nil) rfl ?_
  refine r_callW hq [true, false, false] rfl rfl (.cons (.ev rfl rfl) (.cons (.ev rfl rfl) .nil)) (delV_ok (fun s => (mget mb s).isSome) TF.en42 (os := [⟨bb, false, .map (encM Value.string bts mb)⟩]) (fun s => without1_ok mb s) _ (by rw [sortB_len, List.length_map]; exact hlen) hcap) rfl TF.en41 rfl rfl (.cons _ (.refl _)) rfl (fun r nobjs hr => ?_)
  obtain ⟨ext', hcap', rfl, rfl⟩ := hr
  refine awl_boxBuf 0 rfl hcap' (fun be => ?_)
  refine awl_imp (imp_commitB 0 8 rfl (by simp) rfl) ?_
  ·
   refine r_assign rfl rfl ?_
   refine awl_nil ?_
   refine x_then ?_
   refine awp_ret ?_
   exact ⟨(.inl rfl), _, [], (.one (by first | exact .mk rfl rfl | exact .nil rfl)), ⟨rfl, rfl⟩, (List.nil_sublist _), (by simp)⟩
theorem of1_ok {a b : List File} {mx my : List (ByteArray × List UInt8)} (hx : TellsS mx a) (hy : TellsS my b) (s t : ByteArray) {bx by_ : Nat} {f1 f2 : Bool} : AC Try.prog 26 [.v (.string t), .cp [.v (.map (some bx))], .cp [.v (.string s)], .cp [.v (.map (some by_))]] [⟨bx, f1, .map (encM Value.string bts mx)⟩, ⟨by_, f2, .map (encM Value.string bts my)⟩] (fun r n => n = [] ∧ r = boolA (hitF a b s t)) := by
 refine ac_of_awp (rs := [5]) (nt := 20) Try.func26 rfl rfl rfl rfl (fun w0 C0 hq => ?_)
 refine awp_seq ?_
 refine awp_region ?_
 refine r_assign rfl rfl ?_
 refine awl_nil ?_
 refine x_then ?_
 refine awp_seq ?_
 refine awp_region ?_
 first | (refine r_load1 rfl TF.agg55 rfl ?_) | (refine r_load1b 0 rfl rfl rfl TF.agg55 rfl ?_) | (refine r_load1b 1 rfl rfl rfl TF.agg55 rfl ?_)
 first | (refine r_load1 rfl TF.agg9 rfl ?_) | (refine r_load1b 0 rfl rfl rfl TF.agg9 rfl ?_) | (refine r_load1b 1 rfl rfl rfl TF.agg9 rfl ?_)
 first | (refine r_lookup 0 (keyEnc_string TF.un9) (ev := bts) [] rfl rfl rfl TF.map55 TF.zavS rfl ?_) | (refine r_lookup 1 (keyEnc_string TF.un9) (ev := bts) [] rfl rfl rfl TF.map55 TF.zavS rfl ?_)
 first | (refine r_lenS rfl rfl TF.sl34 rfl ?_) | (refine r_lenNil rfl TF.sl34 rfl ?_) | (refine r_lenV rfl TF.sl34 rfl ?_)
 refine r_cmp rfl rfl rfl rfl ?_
 refine r_move rfl rfl ?_
 refine g_cases (t' := 11) rfl (fun hg11 => ?_) (fun hg11 => ?_)
 ·
  have h1 : 0 < ((mget mx s).getD []).length := by have := of_decide_eq_true hg11; simpa [u8s_len] using this
  refine g_run rfl rfl hg11 ?_
  first | (refine r_load1 rfl TF.agg55 rfl ?_) | (refine r_load1b 0 rfl rfl rfl TF.agg55 rfl ?_) | (refine r_load1b 1 rfl rfl rfl TF.agg55 rfl ?_)
  refine g_run rfl rfl hg11 ?_
  first | (refine r_load1 rfl TF.agg9 rfl ?_) | (refine r_load1b 0 rfl rfl rfl TF.agg9 rfl ?_) | (refine r_load1b 1 rfl rfl rfl TF.agg9 rfl ?_)
  refine g_run rfl rfl hg11 ?_
  first | (refine r_lookup 0 (keyEnc_string TF.un9) (ev := bts) [] rfl rfl rfl TF.map55 TF.zavS rfl ?_) | (refine r_lookup 1 (keyEnc_string TF.un9) (ev := bts) [] rfl rfl rfl TF.map55 TF.zavS rfl ?_)
  refine g_run rfl rfl hg11 ?_
  first | (refine r_load1 rfl TF.agg55 rfl ?_) | (refine r_load1b 0 rfl rfl rfl TF.agg55 rfl ?_) | (refine r_load1b 1 rfl rfl rfl TF.agg55 rfl ?_)
  refine g_run rfl rfl hg11 ?_
  refine r_move rfl rfl ?_
  refine g_run rfl rfl hg11 ?_
  first | (refine r_lookup 0 (keyEnc_string TF.un9) (ev := bts) [] rfl rfl rfl TF.map55 TF.zavS rfl ?_) | (refine r_lookup 1 (keyEnc_string TF.un9) (ev := bts) [] rfl rfl rfl TF.map55 TF.zavS rfl ?_)
  refine g_run rfl rfl hg11 ?_
  refine r_call0 hq rfl rfl (.cons (.ev rfl rfl) (.cons (.ev rfl rfl) .nil)) (equal_ok _ _) rfl TF.en27 rfl (fun r hr => ?_)
  obtain rfl := hr
  refine r_pickT rfl hg11 rfl rfl ?_
  refine r_assign rfl rfl ?_
  refine awl_nil ?_
  refine x_then ?_
  refine awp_ret ?_
  exact ⟨(.inl rfl), _, [], (.one (by first | exact .mk rfl rfl | exact .nil rfl)), ⟨rfl, by rw [hitF, ← hx.get, ← hy.get]; first | (rw [decide_eq_true h1, Bool.true_and]; rfl) | (rw [decide_eq_false h1, Bool.false_and]; rfl)⟩, (List.nil_sublist _), (by simp)⟩
 ·
  have h1 : ¬ 0 < ((mget mx s).getD []).length := by have := of_decide_eq_false hg11; simpa [u8s_len] using this
  refine g_skip rfl rfl hg11 rfl ?_
  refine g_skip rfl rfl hg11 rfl ?_
  refine g_skip rfl rfl hg11 rfl ?_
  refine g_skip rfl rfl hg11 rfl ?_
  refine g_skip rfl rfl hg11 rfl ?_
  refine g_skip rfl rfl hg11 rfl ?_
  refine g_skip rfl rfl hg11 rfl ?_
  refine r_pickF rfl hg11 rfl rfl ?_
  refine r_assign rfl rfl ?_
  refine awl_nil ?_
  refine x_then ?_
  refine awp_ret ?_
  exact ⟨(.inl rfl), _, [], (.one (by first | exact .mk rfl rfl | exact .nil rfl)), ⟨rfl, by rw [hitF, ← hx.get, ← hy.get]; first | (rw [decide_eq_true h1, Bool.true_and]; rfl) | (rw [decide_eq_false h1, Bool.false_and]; rfl)⟩, (List.nil_sublist _), (by simp)⟩
end Go.Proofs.Ytnbnegkdbjdekaa.A
namespace Go.Proofs.Ytnbnegkdbjdekaa.A
open Go Go.RowKit
set_option linter.unusedVariables false
set_option linter.unusedSimpArgs false
set_option maxRecDepth 100000
set_option linter.unusedSectionVars false
variable [Thr]
theorem TF.en26 : entersT Try.prog 26 := enters_of Try.func26 (by kernel_rfl) (by kernel_rfl)
theorem TF.en23 : entersT Try.prog 23 := enters_of Try.func23 (by kernel_rfl) (by kernel_rfl)
theorem TF.zero55 : ZeroT Try.prog 55 [.v (.map none)] := ⟨[(.map none)], by kernel_rfl, (LeCells.refl _)⟩
theorem TF.sz55 : szT Try.prog 55 = some 1 := by kernel_rfl
theorem TF.en24 : entersT Try.prog 24 := enters_of Try.func24 (by kernel_rfl) (by kernel_rfl)
theorem TF.zero9 : ZeroT Try.prog 9 [.v (.string ⟨#[]⟩)] := ⟨[(.string ⟨#[]⟩)], by kernel_rfl, (LeCells.refl _)⟩
theorem TF.pl50 : placesT Try.prog 50 = some [(0, 1), (1, 1), (2, 1), (3, 1)] := by kernel_rfl
theorem TF.zero50 : ZeroT Try.prog 50 [.v (.int .i64 0), .v (.string ⟨#[]⟩), .v (.string ⟨#[]⟩), .sl 1 []] := ⟨[(.int .i64 0), (.string ⟨#[]⟩), (.string ⟨#[]⟩), (.slice none 0 0)], by kernel_rfl, (.cons (.refl _) (.cons (.refl _) (.cons (.refl _) (.cons (.nil 1) .nil))))⟩
theorem TF.sl28 : sliceT Try.prog 28 = some 50 := by kernel_rfl
theorem TF.sz50 : szT Try.prog 50 = some 4 := by kernel_rfl
theorem TF.zraw50 : zeroT Try.prog 50 = some [(.int .i64 0), (.string ⟨#[]⟩), (.string ⟨#[]⟩), (.slice none 0 0)] := by kernel_rfl
theorem TF.by50 : bytesT Try.prog 50 = some 64 := by kernel_rfl
theorem TF.zlen50 : (zeroT Try.prog 50).map (·.length) = some 4 := by kernel_rfl
theorem TF.en28 : entersT Try.prog 28 := enters_of Try.func28 (by kernel_rfl) (by kernel_rfl)
theorem withoutW_ok {a b : List File} {ma mb : List (ByteArray × List UInt8)} (ha : TellsS ma a) (hb : TellsS mb b) (hsz : ∀ f ∈ a, f.name.size ≤ 1000000) (hlen : a.length ≤ 1000000) {ba bb : Nat} {f1 f2 : Bool} : AC Try.prog 24 [.v (.map (some ba)), .v (.map (some bb))] [⟨ba, f1, .map (encM Value.string bts ma)⟩, ⟨bb, f2, .map (encM Value.string bts mb)⟩] (fun r n => n = [] ∧ r = strsA (wentF a b)) := by
  rw [← went_eq ha hb]; exact without_ok ma mb ha.nd (keys_size ha hsz) (by have := ha.len; omega)
theorem withoutX_ok {a b : List File} {ma mb : List (ByteArray × List UInt8)} (ha : TellsS ma a) (hb : TellsS mb b) (hsz : ∀ f ∈ a, f.name.size ≤ 1000000) (hlen : a.length ≤ 1000000) {ba bb : Nat} {f1 f2 : Bool} : AC Try.prog 24 [.v (.map (some ba)), .v (.map (some bb))] [⟨ba, f1, .map (encM Value.string bts ma)⟩, ⟨bb, f2, .map (encM Value.string bts mb)⟩] (GrowS (wentF a b)) := by
  rw [← went_eq ha hb]; exact withoutG_ok ma mb ha.nd (keys_size ha hsz) (by have := ha.len; omega)
theorem orderN_ok {a : List File} {m : List (ByteArray × List UInt8)} (ha : TellsS m a) (hsz : ∀ f ∈ a, f.name.size ≤ 1000000) (hlen : a.length ≤ 1000000) {b : Nat} {fl : Bool} : AC Try.prog 29 [.v (.map (some b))] [⟨b, fl, .map (encM Value.string bts m)⟩] (fun r n => n = [] ∧ r = strsA (namesF a)) := by
  rw [← keys_names ha]; exact order_ok m ha.nd (keys_size ha hsz) (by have := ha.len; omega)
set_option maxHeartbeats 2000000 in
theorem of_ok (a b : List File) (hla : a.length ≤ 1000) (hlb : b.length ≤ 1000) (hnsa : ∀ f ∈ a, f.name.size ≤ 1000000) (hnsb : ∀ f ∈ b, f.name.size ≤ 1000000) (hdA : ∀ f ∈ a, f.data.length ≤ 1000000) (hdb : ∀ f ∈ b, f.data.length ≤ 1000000) : AC Try.prog 13 [files a, files b] [] (fun r n => n = [] ∧ r = fcsA (OfF a b)) := by
 refine ac_of_awp (rs := [4]) (nt := 111) Try.func13 rfl rfl rfl rfl (fun w0 C0 hq => ?_)
 refine awp_seq ?_
 refine awp_region ?_
 refine r_assign rfl rfl ?_
 refine awl_nil ?_
 refine x_then ?_
 refine awp_seq ?_
 refine awp_region ?_
 refine r_move rfl rfl ?_
 refine r_callO hq rfl rfl (.cons (.ev rfl rfl) .nil) (named_ok a (by omega) hdA) rfl TF.en23 (List.nil_sublist _) rfl (fun r nobjs hr => ?_)
 obtain ⟨bx, mx, rfl, rfl, htx⟩ := hr
 refine r_move rfl rfl ?_
 refine r_callO hq rfl rfl (.cons (.ev rfl rfl) .nil) (named_ok b (by omega) hdb) rfl TF.en23 (List.nil_sublist _) rfl (fun r nobjs hr => ?_)
 obtain ⟨by_, my, rfl, rfl, hty⟩ := hr
 refine r_alloc TF.zero55 rfl (fun b5 => ?_)
 refine r_alloc TF.zero55 rfl (fun b6 => ?_)
 first | (refine r_store 0 rfl rfl rfl TF.sz55 rfl rfl rfl ?_) | (refine r_store 1 rfl rfl rfl TF.sz55 rfl rfl rfl ?_) | (refine r_store 2 rfl rfl rfl TF.sz55 rfl rfl rfl ?_) | (refine r_store 3 rfl rfl rfl TF.sz55 rfl rfl rfl ?_)
 first | (refine r_store 0 rfl rfl rfl TF.sz55 rfl rfl rfl ?_) | (refine r_store 1 rfl rfl rfl TF.sz55 rfl rfl rfl ?_) | (refine r_store 2 rfl rfl rfl TF.sz55 rfl rfl rfl ?_) | (refine r_store 3 rfl rfl rfl TF.sz55 rfl rfl rfl ?_)
 refine awl_nil ?_
 refine x_then ?_
 refine awp_seq ?_
 refine awp_imp (imp_commit 0 6 rfl rfl rfl rfl) ?_
 refine awp_imp (imp_commit 0 5 rfl rfl rfl rfl) ?_
 refine awp_imp (imp_perm (List.Perm.swap _ _ _)) ?_
 have hwl := went_len a b
 have hnl := names_len a
 refine awp_drawS [24, 25, 26, 27, 28] [_, _, _, _, _] [] [] TF.mixed rfl rfl rfl ⟨⟨⟨⟨⟨trivial
  , ⟨_, rfl, fun sl hd hr ho => by
    first | (refine r_load1 (hr 5 _ rfl rfl rfl) TF.agg55 rfl ?_) | (refine r_load1b 0 (hr 5 _ rfl rfl rfl) rfl rfl TF.agg55 rfl ?_) | (refine r_load1b 1 (hr 5 _ rfl rfl rfl) rfl rfl TF.agg55 rfl ?_) | (refine r_load1b 2 (hr 5 _ rfl rfl rfl) rfl rfl TF.agg55 rfl ?_) | (refine r_load1b 3 (hr 5 _ rfl rfl rfl) rfl rfl TF.agg55 rfl ?_)
    exact awl_nil ⟨rfl, post_put⟩⟩⟩
  , ⟨_, rfl, fun sl hd hr ho => by
    first | (refine r_load1 (hr 6 _ rfl rfl rfl) TF.agg55 rfl ?_) | (refine r_load1b 0 (hr 6 _ rfl rfl rfl) rfl rfl TF.agg55 rfl ?_) | (refine r_load1b 1 (hr 6 _ rfl rfl rfl) rfl rfl TF.agg55 rfl ?_) | (refine r_load1b 2 (hr 6 _ rfl rfl rfl) rfl rfl TF.agg55 rfl ?_) | (refine r_load1b 3 (hr 6 _ rfl rfl rfl) rfl rfl TF.agg55 rfl ?_)
    exact awl_nil ⟨rfl, post_put⟩⟩⟩
  , ⟨_, rfl, fun sl hd hr ho => by
    refine r_callO hq rfl rfl (.cons (.ev (hd 0 _ rfl rfl rfl) rfl) (.cons (.ev (hd 1 _ rfl rfl rfl) rfl) .nil)) (withoutW_ok htx hty hnsa (by omega)) rfl TF.en24 (List.Sublist.refl _) rfl (fun r nobjs hr => ?_)
    obtain ⟨rfl, rfl⟩ := hr
    exact awl_nil ⟨rfl, post_put⟩⟩⟩
  , ⟨_, rfl, fun sl hd hr ho => by
    first | (refine r_load1 (hr 6 _ rfl rfl rfl) TF.agg55 rfl ?_) | (refine r_load1b 0 (hr 6 _ rfl rfl rfl) rfl rfl TF.agg55 rfl ?_) | (refine r_load1b 1 (hr 6 _ rfl rfl rfl) rfl rfl TF.agg55 rfl ?_) | (refine r_load1b 2 (hr 6 _ rfl rfl rfl) rfl rfl TF.agg55 rfl ?_) | (refine r_load1b 3 (hr 6 _ rfl rfl rfl) rfl rfl TF.agg55 rfl ?_)
    exact awl_nil ⟨rfl, post_put⟩⟩⟩
  , ⟨_, rfl, fun sl hd hr ho => by
    first | (refine r_load1 (hr 5 _ rfl rfl rfl) TF.agg55 rfl ?_) | (refine r_load1b 0 (hr 5 _ rfl rfl rfl) rfl rfl TF.agg55 rfl ?_) | (refine r_load1b 1 (hr 5 _ rfl rfl rfl) rfl rfl TF.agg55 rfl ?_) | (refine r_load1b 2 (hr 5 _ rfl rfl rfl) rfl rfl TF.agg55 rfl ?_) | (refine r_load1b 3 (hr 5 _ rfl rfl rfl) rfl rfl TF.agg55 rfl ?_)
    exact awl_nil ⟨rfl, post_put⟩⟩⟩
  (by rfl) ?_
 refine r_callO hq rfl rfl (.cons (.ev rfl rfl) (.cons (.ev rfl rfl) .nil)) ((withoutX_ok hty htx hnsb (by omega)).swap) rfl TF.en24 (List.Sublist.refl _) rfl (fun r nobjs hr => ?_)
 rcases hr with ⟨h0, rfl, rfl⟩ | ⟨g2, cap, ext, hcap, rfl, rfl⟩
 ·
  refine r_assign rfl rfl ?_
  refine r_assign rfl rfl ?_
  refine awl_nil ?_
  refine x_then ?_
  refine awp_seq ?_
  refine awp_region ?_
  refine r_assign rfl rfl ?_
  refine r_assign rfl rfl ?_
  refine awl_nil ?_
  refine x_then ?_
  refine awp_seq ?_
  refine awp_seq ?_
  refine awp_region ?_
  refine r_move rfl rfl ?_
  first | (refine r_lenS rfl rfl TF.sl57 rfl ?_) | (refine r_lenNil rfl TF.sl57 rfl ?_) | (refine r_lenV rfl TF.sl57 rfl ?_)
  refine r_move rfl rfl ?_
  refine awl_nil ?_
  refine x_then ?_
  refine awp_block ?_
  refine awp_loop (fun nn0 S => ∃ k : Nat, ∃ gone : List FC, S = ⟨111, [(5, .a (.cp [.v (.map (some bx))])), (6, .a (.cp [.v (.map (some by_))])), (8, .a (.v (.slice none 0 0))), (9, .own 9 4 (([] : List FC).map FC.cs)), (10, .own 10 4 (gone.map FC.cs)), (30, .a (strsA (wentF a b))), (31, .a (.v (.int .i64 (((wentF a b).map (fun s : ByteArray => [AV.v (.string s)])).length)))), (32, .a (.v (.int .i64 ((k : Int)))))], [⟨bx, true, .map (encM Value.string bts mx)⟩, ⟨by_, true, .map (encM Value.string bts my)⟩]⟩ ∧ nn0 = (wentF a b).length - k ∧ (k ≤ (wentF a b).length) ∧ (splitF a b k = (([] : List ByteArray), ([] : List FC), gone)) ∧ (gone.length ≤ k)) ((wentF a b).length - (0)) ⟨111, [(5, .a (.cp [.v (.map (some bx))])), (6, .a (.cp [.v (.map (some by_))])), (8, .a (.v (.slice none 0 0))), (9, .own 9 4 (([] : List FC).map FC.cs)), (10, .own 10 4 (([]).map FC.cs)), (30, .a (strsA (wentF a b))), (31, .a (.v (.int .i64 (((wentF a b).map (fun s : ByteArray => [AV.v (.string s)])).length)))), (32, .a (.v (.int .i64 (((0) : Int)))))], [⟨bx, true, .map (encM Value.string bts mx)⟩, ⟨by_, true, .map (encM Value.string bts my)⟩]⟩ ⟨rfl, (Slots.cons rfl (by first | exact .refl _ | exact .nilOwn _ _ | exact .nilSl _ | exact .ownSl _ _ _  | exact SV.le.of_eq (by simp)) (Slots.cons rfl (by first | exact .refl _ | exact .nilOwn _ _ | exact .nilSl _ | exact .ownSl _ _ _  | exact SV.le.of_eq (by simp)) (Slots.cons rfl (by first | exact .refl _ | exact .nilOwn _ _ | exact .nilSl _ | exact .ownSl _ _ _  | exact SV.le.of_eq (by simp)) (Slots.cons rfl (by first | exact .refl _ | exact .nilOwn _ _ | exact .nilSl _ | exact .ownSl _ _ _  | exact SV.le.of_eq (by simp)) (Slots.cons rfl (by first | exact .refl _ | exact .nilOwn _ _ | exact .nilSl _ | exact .ownSl _ _ _  | exact SV.le.of_eq (by simp)) (Slots.cons rfl (by first | exact .refl _ | exact .nilOwn _ _ | exact .nilSl _ | exact .ownSl _ _ _  | exact SV.le.of_eq (by simp)) (Slots.cons rfl (by first | exact .refl _ | exact .nilOwn _ _ | exact .nilSl _ | exact .ownSl _ _ _  | exact SV.le.of_eq (by simp)) (Slots.cons rfl (by first | exact .refl _ | exact .nilOwn _ _ | exact .nilSl _ | exact .ownSl _ _ _  | exact SV.le.of_eq (by simp)) Slots.nil)))))))), (by first | exact List.Sublist.refl _ | exact .cons_cons _ (.cons _ (.refl _)) | exact List.nil_sublist _ | exact .cons _ (.refl _) | exact .cons _ (.cons _ (.refl _)) | exact .cons _ (.cons _ (.cons _ (.refl _))) | exact .cons _ (.cons _ (.cons _ (.cons _ (.refl _)))) | exact .cons_cons _ (List.nil_sublist _))⟩ ⟨0, [], rfl, rfl, Nat.zero_le _, (by rw [splitF, h0]; rfl), (by simp)⟩ ?_
  rintro nn0 _ ⟨k, gone, rfl, rfl, hk, hst, hgl⟩
  refine awp_seq ?_
  refine awp_region ?_
  refine r_cmp rfl rfl rfl rfl ?_
  refine awl_nil ?_
  refine x_then ?_
  refine awp_seq ?_
  refine awp_cond rfl (fun hc0 => ?_) (fun hc0 => ?_)
  ·
   have hltx : k < (wentF a b).length := by have := of_decide_eq_true hc0; simpa using this
   obtain ⟨x, hx⟩ := get_lt hltx
   refine awp_skip ?_
   refine x_then ?_
   refine awp_seq ?_
   refine awp_block ?_
   refine awp_seq ?_
   refine awp_region ?_
   refine r_index rfl rfl rfl TF.sl57 TF.sz9 (by omega) (get_map hx) rfl ?_
   first | (refine r_load1 rfl TF.agg9 rfl ?_) | (refine r_load1b 0 rfl rfl rfl TF.agg9 rfl ?_) | (refine r_load1b 1 rfl rfl rfl TF.agg9 rfl ?_)
   refine r_alloc TF.zero9 rfl (fun b12 => ?_)
   first | (refine r_store 0 rfl rfl rfl TF.sz9 rfl rfl rfl ?_) | (refine r_store 1 rfl rfl rfl TF.sz9 rfl rfl rfl ?_) | (refine r_store 2 rfl rfl rfl TF.sz9 rfl rfl rfl ?_)
   refine awl_nil ?_
   refine x_then ?_
   refine awp_seq ?_
   refine awp_region ?_
   refine awl_imp (imp_commit 0 12 rfl rfl rfl rfl) ?_
   refine r_move rfl rfl ?_
   refine r_makeFunc rfl (.cons (.ev rfl rfl) (.cons (.ev rfl rfl) (.cons (.ev rfl rfl) .nil))) rfl ?_
   refine r_call0 hq rfl rfl (.cons (.ev rfl rfl) (.cons (.ev rfl rfl) .nil)) (idxN_ok) rfl TF.en25 rfl (fun r hr => ?_)
   obtain rfl := hr
   refine r_assign rfl rfl ?_
   refine awl_nil ?_
   refine x_then ?_
   refine awp_seq ?_
   refine awp_seq ?_
   refine awp_region ?_
   refine r_move rfl rfl ?_
   refine r_cmp rfl rfl rfl rfl ?_
   refine awl_nil ?_
   refine x_then ?_
   refine awp_cond rfl (fun hc1 => ?_) (fun hc1 => ?_)
   ·
    refine awp_seq ?_
    refine awp_region ?_
    refine r_move rfl rfl ?_
    first | (refine r_load1 rfl TF.agg9 rfl ?_) | (refine r_load1b 0 rfl rfl rfl TF.agg9 rfl ?_) | (refine r_load1b 1 rfl rfl rfl TF.agg9 rfl ?_) | (refine r_load1b 2 rfl rfl rfl TF.agg9 rfl ?_)
    refine r_build (parts := [(0, .const ((Go.Value.int Go.IntKind.i64 2))), (1, .tmp 42)]) rfl TF.pl50 TF.zero50 rfl rfl rfl ?_
    refine r_lit 44 (parts := [(0, .tmp 43)]) rfl TF.sl28 TF.sz50 TF.zraw50 rfl rfl rfl rfl rfl rfl rfl ?_
    refine r_append 10 rfl (by first | exact .own _ | exact .nil) rfl (by first | exact .sl _ | exact .own _ _ | exact .nil) TF.sl28 TF.sz50 (by decide) TF.by50 TF.zlen50 (by simp [chunks] <;> omega) (by simp [chunks] <;> omega) rfl ?_
    refine r_assign rfl rfl ?_
    refine awl_nil ?_
    refine x_then ?_
    refine awp_exit ?_
    refine x_thenE ?_
    refine x_blockE ?_
    refine x_then ?_
    refine awp_region ?_
    refine r_ari _ rfl rfl rfl (wrap_id (by first | omega | (simp; omega))) rfl ?_
    refine r_move rfl rfl ?_
    refine awl_nil ?_
    refine x_then ?_
    refine ⟨(wentF a b).length - (k + 1), ⟨111, [(5, .a (.cp [.v (.map (some bx))])), (6, .a (.cp [.v (.map (some by_))])), (8, .a (.v (.slice none 0 0))), (9, .own 9 4 (([] : List FC).map FC.cs)), (10, .own 10 4 ((gone ++ [(⟨2, x, E0, []⟩ : FC)]).map FC.cs)), (30, .a (strsA (wentF a b))), (31, .a (.v (.int .i64 (((wentF a b).map (fun s : ByteArray => [AV.v (.string s)])).length)))), (32, .a (.v (.int .i64 (((k + 1) : Int)))))], [⟨bx, true, .map (encM Value.string bts mx)⟩, ⟨by_, true, .map (encM Value.string bts my)⟩]⟩, ⟨rfl, (Slots.cons rfl (by first | exact .refl _ | exact .nilOwn _ _ | exact .nilSl _ | exact .ownSl _ _ _  | exact SV.le.ownEq (by first | rfl | (rw [List.map_append]; rfl) | (simp [List.map_append]; done)) | exact SV.le.of_eq (by first | rfl | (rw [List.map_append]; rfl) | (simp [List.map_append]; done))) (Slots.cons rfl (by first | exact .refl _ | exact .nilOwn _ _ | exact .nilSl _ | exact .ownSl _ _ _  | exact SV.le.ownEq (by first | rfl | (rw [List.map_append]; rfl) | (simp [List.map_append]; done)) | exact SV.le.of_eq (by first | rfl | (rw [List.map_append]; rfl) | (simp [List.map_append]; done))) (Slots.cons rfl (by first | exact .refl _ | exact .nilOwn _ _ | exact .nilSl _ | exact .ownSl _ _ _  | exact SV.le.ownEq (by first | rfl | (rw [List.map_append]; rfl) | (simp [List.map_append]; done)) | exact SV.le.of_eq (by first | rfl | (rw [List.map_append]; rfl) | (simp [List.map_append]; done))) (Slots.cons rfl (by first | exact .refl _ | exact .nilOwn _ _ | exact .nilSl _ | exact .ownSl _ _ _  | exact SV.le.ownEq (by first | rfl | (rw [List.map_append]; rfl) | (simp [List.map_append]; done)) | exact SV.le.of_eq (by first | rfl | (rw [List.map_append]; rfl) | (simp [List.map_append]; done))) (Slots.cons rfl (by first | exact .refl _ | exact .nilOwn _ _ | exact .nilSl _ | exact .ownSl _ _ _  | exact SV.le.ownEq (by first | rfl | (rw [List.map_append]; rfl) | (simp [List.map_append]; done)) | exact SV.le.of_eq (by first | rfl | (rw [List.map_append]; rfl) | (simp [List.map_append]; done))) (Slots.cons rfl (by first | exact .refl _ | exact .nilOwn _ _ | exact .nilSl _ | exact .ownSl _ _ _  | exact SV.le.ownEq (by first | rfl | (rw [List.map_append]; rfl) | (simp [List.map_append]; done)) | exact SV.le.of_eq (by first | rfl | (rw [List.map_append]; rfl) | (simp [List.map_append]; done))) (Slots.cons rfl (by first | exact .refl _ | exact .nilOwn _ _ | exact .nilSl _ | exact .ownSl _ _ _  | exact SV.le.ownEq (by first | rfl | (rw [List.map_append]; rfl) | (simp [List.map_append]; done)) | exact SV.le.of_eq (by first | rfl | (rw [List.map_append]; rfl) | (simp [List.map_append]; done))) (Slots.cons rfl (by first | exact .refl _ | exact .nilOwn _ _ | exact .nilSl _ | exact .ownSl _ _ _  | exact SV.le.ownEq (by first | rfl | (rw [List.map_append]; rfl) | (simp [List.map_append]; done)) | exact SV.le.of_eq (by first | rfl | (rw [List.map_append]; rfl) | (simp [List.map_append]; done))) Slots.nil)))))))), (by first | exact List.Sublist.refl _ | exact .cons_cons _ (.cons _ (.refl _)) | exact List.nil_sublist _ | exact .cons _ (.refl _) | exact .cons _ (.cons _ (.refl _)) | exact .cons _ (.cons _ (.cons _ (.refl _))) | exact .cons _ (.cons _ (.cons _ (.cons _ (.refl _)))) | exact .cons_cons _ (List.nil_sublist _))⟩, (by omega), ⟨k + 1, gone ++ [(⟨2, x, E0, []⟩ : FC)], rfl, rfl, (by omega), (split_none hx hst rfl), (by simp; omega)⟩⟩
   ·
    exfalso; exact absurd hc1 (by decide)
  ·
   have hge : (wentF a b).length ≤ k := by have := of_decide_eq_false hc0; simp at this; omega
   obtain rfl : k = (wentF a b).length := by omega
   refine awp_exit ?_
   refine x_thenE ?_
   refine x_thenE ?_
   refine x_blockE ?_
   refine x_then ?_
   refine awp_seq ?_
   refine awp_region ?_
   refine r_move rfl rfl ?_
   refine r_move rfl rfl ?_
   refine r_append 9 rfl (by first | exact .own _ | exact .nil) rfl (by first | exact .sl _ | exact .own _ _ | exact .nil) TF.sl28 TF.sz50 (by decide) TF.by50 TF.zlen50 (by simp [chunks] <;> omega) (by simp [chunks] <;> omega) rfl ?_
   refine r_assign rfl rfl ?_
   refine awl_nil ?_
   refine x_then ?_
   refine awp_seq ?_
   refine awp_seq ?_
   refine awp_region ?_
   first | (refine r_load1 rfl TF.agg55 rfl ?_) | (refine r_load1b 0 rfl rfl rfl TF.agg55 rfl ?_) | (refine r_load1b 1 rfl rfl rfl TF.agg55 rfl ?_)
   refine r_callO hq rfl rfl (.cons (.ev rfl rfl) .nil) (orderN_ok htx hnsa (by omega)) rfl TF.en29 (.cons_cons _ (List.nil_sublist _)) rfl (fun r nobjs hr => ?_)
   obtain ⟨rfl, rfl⟩ := hr
   first | (refine r_lenS rfl rfl TF.sl57 rfl ?_) | (refine r_lenNil rfl TF.sl57 rfl ?_) | (refine r_lenV rfl TF.sl57 rfl ?_)
   refine r_move rfl rfl ?_
   refine awl_nil ?_
   refine x_then ?_
   refine awp_block ?_
   refine awp_loop (fun nn0 S => ∃ k : Nat, S = ⟨111, [(5, .a (.cp [.v (.map (some bx))])), (6, .a (.cp [.v (.map (some by_))])), (8, .a (.v (.slice none 0 0))), (9, .own 9 4 ((gone ++ ((namesF a).take k).filterMap (chgF a b)).map FC.cs)), (65, .a (strsA (namesF a))), (66, .a (.v (.int .i64 (((namesF a).map (fun s : ByteArray => [AV.v (.string s)])).length)))), (67, .a (.v (.int .i64 ((k : Int)))))], [⟨bx, true, .map (encM Value.string bts mx)⟩, ⟨by_, true, .map (encM Value.string bts my)⟩]⟩ ∧ nn0 = (namesF a).length - k ∧ (k ≤ (namesF a).length)) ((namesF a).length - (0)) ⟨111, [(5, .a (.cp [.v (.map (some bx))])), (6, .a (.cp [.v (.map (some by_))])), (8, .a (.v (.slice none 0 0))), (9, .own 9 4 ((gone ++ ((namesF a).take (0)).filterMap (chgF a b)).map FC.cs)), (65, .a (strsA (namesF a))), (66, .a (.v (.int .i64 (((namesF a).map (fun s : ByteArray => [AV.v (.string s)])).length)))), (67, .a (.v (.int .i64 (((0) : Int)))))], [⟨bx, true, .map (encM Value.string bts mx)⟩, ⟨by_, true, .map (encM Value.string bts my)⟩]⟩ ⟨rfl, (Slots.cons rfl (by first | exact .refl _ | exact .nilOwn _ _ | exact .nilSl _ | exact .ownSl _ _ _  | exact SV.le.ownEq (by simp [chunks]) | exact SV.le.of_eq (by simp [chunks])) (Slots.cons rfl (by first | exact .refl _ | exact .nilOwn _ _ | exact .nilSl _ | exact .ownSl _ _ _  | exact SV.le.ownEq (by simp [chunks]) | exact SV.le.of_eq (by simp [chunks])) (Slots.cons rfl (by first | exact .refl _ | exact .nilOwn _ _ | exact .nilSl _ | exact .ownSl _ _ _  | exact SV.le.ownEq (by simp [chunks]) | exact SV.le.of_eq (by simp [chunks])) (Slots.cons rfl (by first | exact .refl _ | exact .nilOwn _ _ | exact .nilSl _ | exact .ownSl _ _ _  | exact SV.le.ownEq (by simp [chunks]) | exact SV.le.of_eq (by simp [chunks])) (Slots.cons rfl (by first | exact .refl _ | exact .nilOwn _ _ | exact .nilSl _ | exact .ownSl _ _ _  | exact SV.le.ownEq (by simp [chunks]) | exact SV.le.of_eq (by simp [chunks])) (Slots.cons rfl (by first | exact .refl _ | exact .nilOwn _ _ | exact .nilSl _ | exact .ownSl _ _ _  | exact SV.le.ownEq (by simp [chunks]) | exact SV.le.of_eq (by simp [chunks])) (Slots.cons rfl (by first | exact .refl _ | exact .nilOwn _ _ | exact .nilSl _ | exact .ownSl _ _ _  | exact SV.le.ownEq (by simp [chunks]) | exact SV.le.of_eq (by simp [chunks])) Slots.nil))))))), (by first | exact List.Sublist.refl _ | exact .cons_cons _ (.cons _ (.refl _)) | exact List.nil_sublist _ | exact .cons _ (.refl _) | exact .cons _ (.cons _ (.refl _)) | exact .cons _ (.cons _ (.cons _ (.refl _))) | exact .cons _ (.cons _ (.cons _ (.cons _ (.refl _)))) | exact .cons_cons _ (List.nil_sublist _))⟩ ⟨0, rfl, rfl, Nat.zero_le _⟩ ?_
   rintro nn0 _ ⟨k, rfl, rfl, hk1⟩
   refine awp_seq ?_
   refine awp_region ?_
   refine r_cmp rfl rfl rfl rfl ?_
   refine awl_nil ?_
   refine x_then ?_
   refine awp_seq ?_
   refine awp_cond rfl (fun hc2 => ?_) (fun hc2 => ?_)
   ·
    have hltx : k < (namesF a).length := by have := of_decide_eq_true hc2; simpa using this
    obtain ⟨x, hx⟩ := get_lt hltx
    have hf1 : (((namesF a).take k).filterMap (chgF a b)).length ≤ k := Nat.le_trans (List.length_filterMap_le _ _) (by simp; omega)
    refine awp_skip ?_
    refine x_then ?_
    refine awp_seq ?_
    refine awp_block ?_
    refine awp_seq ?_
    refine awp_region ?_
    refine r_index rfl rfl rfl TF.sl57 TF.sz9 (by omega) (get_map hx) rfl ?_
    first | (refine r_load1 rfl TF.agg9 rfl ?_) | (refine r_load1b 0 rfl rfl rfl TF.agg9 rfl ?_) | (refine r_load1b 1 rfl rfl rfl TF.agg9 rfl ?_)
    refine r_assign rfl rfl ?_
    refine awl_nil ?_
    refine x_then ?_
    refine awp_seq ?_
    refine awp_region ?_
    first | (refine r_load1 rfl TF.agg55 rfl ?_) | (refine r_load1b 0 rfl rfl rfl TF.agg55 rfl ?_) | (refine r_load1b 1 rfl rfl rfl TF.agg55 rfl ?_)
    refine r_move rfl rfl ?_
    first | (refine r_lookupOk 0 (keyEnc_string TF.un9) (ev := bts) [] rfl rfl rfl TF.map55 TF.zavS rfl ?_) | (refine r_lookupOk 1 (keyEnc_string TF.un9) (ev := bts) [] rfl rfl rfl TF.map55 TF.zavS rfl ?_)
    refine r_move rfl rfl ?_
    refine r_extract rfl rfl rfl ?_
    refine r_extract rfl rfl rfl ?_
    refine r_assign rfl rfl ?_
    refine r_assign rfl rfl ?_
    refine awl_nil ?_
    refine x_then ?_
    refine awp_seq ?_
    refine awp_region ?_
    refine r_move rfl rfl ?_
    refine r_move rfl rfl ?_
    refine g_cases (t' := 78) rfl (fun hg78 => ?_) (fun hg78 => ?_)
    ·
     obtain ⟨d, hdq⟩ : ∃ d, mget my x = some d := Option.isSome_iff_exists.1 hg78
     have hq2 : lookF b x = some d := by rw [← hty.get, hdq]
     refine g_run rfl rfl hg78 ?_
     first | (refine r_load1 rfl TF.agg55 rfl ?_) | (refine r_load1b 0 rfl rfl rfl TF.agg55 rfl ?_) | (refine r_load1b 1 rfl rfl rfl TF.agg55 rfl ?_)
     refine g_run rfl rfl hg78 ?_
     refine r_move rfl rfl ?_
     refine g_run rfl rfl hg78 ?_
     first | (refine r_lookup 0 (keyEnc_string TF.un9) (ev := bts) [] rfl rfl rfl TF.map55 TF.zavS rfl ?_) | (refine r_lookup 1 (keyEnc_string TF.un9) (ev := bts) [] rfl rfl rfl TF.map55 TF.zavS rfl ?_)
     refine g_run rfl rfl hg78 ?_
     refine r_move rfl rfl ?_
     refine g_run rfl rfl hg78 ?_
     refine r_call0 hq rfl rfl (.cons (.ev rfl rfl) (.cons (.ev rfl rfl) .nil)) (equal_ok _ _) rfl TF.en27 rfl (fun r hr => ?_)
     obtain rfl := hr
     refine g_run rfl rfl hg78 ?_
     refine r_not rfl rfl ?_
     refine r_pickT rfl hg78 rfl rfl ?_
     refine awl_nil ?_
     refine x_then ?_
     refine awp_cond rfl (fun hc3 => ?_) (fun hc3 => ?_)
     ·
      rw [hdq] at hc3 ⊢
      have hne : decide ((lookF a x).getD [] = d) = false := by rw [← htx.get]; simpa using hc3
      have ht : chgF a b x = some ⟨3, x, E0, d⟩ := by rw [chgF, hq2]; simp only [hne, cond_false]
      have hdl : d.length ≤ 1000000 := by have := look_len hdb x; rw [hq2] at this; simpa using this
      refine awp_region ?_
      refine r_move rfl rfl ?_
      refine r_move rfl rfl ?_
      refine r_move rfl rfl ?_
      refine r_call0 hq rfl rfl (.cons (.ev rfl rfl) .nil) (clone_ok d hdl) rfl TF.en30 rfl (fun r hr => ?_)
      obtain rfl := hr
      refine r_build (parts := [(0, .const ((Go.Value.int Go.IntKind.i64 3))), (1, .tmp 87), (3, .tmp 89)]) rfl TF.pl50 TF.zero50 rfl rfl rfl ?_
      refine r_lit 91 (parts := [(0, .tmp 90)]) rfl TF.sl28 TF.sz50 TF.zraw50 rfl rfl rfl rfl rfl rfl rfl ?_
      refine r_append 9 rfl (by first | exact .own _ | exact .nil) rfl (by first | exact .sl _ | exact .own _ _ | exact .nil) TF.sl28 TF.sz50 (by decide) TF.by50 TF.zlen50 (by simp [chunks] <;> omega) (by simp [chunks] <;> omega) rfl ?_
      refine r_assign rfl rfl ?_
      refine awl_nil ?_
      refine x_block ?_
      refine x_then ?_
      refine awp_region ?_
      refine r_ari _ rfl rfl rfl (wrap_id (by first | omega | (simp; omega))) rfl ?_
      refine r_move rfl rfl ?_
      refine awl_nil ?_
      refine x_then ?_
      have et := fmS_step (f := chgF a b) hx
      rw [ht] at et
      simp only [Option.toList_some, Option.toList_none, List.append_nil] at et
      refine ⟨(namesF a).length - (k + 1), ⟨111, [(5, .a (.cp [.v (.map (some bx))])), (6, .a (.cp [.v (.map (some by_))])), (8, .a (.v (.slice none 0 0))), (9, .own 9 4 ((gone ++ ((namesF a).take (k + 1)).filterMap (chgF a b)).map FC.cs)), (65, .a (strsA (namesF a))), (66, .a (.v (.int .i64 (((namesF a).map (fun s : ByteArray => [AV.v (.string s)])).length)))), (67, .a (.v (.int .i64 (((k + 1) : Int)))))], [⟨bx, true, .map (encM Value.string bts mx)⟩, ⟨by_, true, .map (encM Value.string bts my)⟩]⟩, ⟨rfl, (Slots.cons rfl (by first | exact .refl _ | exact .nilOwn _ _ | exact .nilSl _ | exact .ownSl _ _ _  | exact SV.le.ownEq (by first | rfl | (rw [et, ← List.append_assoc gone, List.map_append (l₁ := (gone ++ ((namesF a).take k).filterMap (chgF a b)))]; rfl) | (rw [et]; first | done | rfl)) | exact SV.le.of_eq (by first | rfl | (rw [et, ← List.append_assoc gone, List.map_append (l₁ := (gone ++ ((namesF a).take k).filterMap (chgF a b)))]; rfl) | (rw [et]; first | done | rfl))) (Slots.cons rfl (by first | exact .refl _ | exact .nilOwn _ _ | exact .nilSl _ | exact .ownSl _ _ _  | exact SV.le.ownEq (by first | rfl | (rw [et, ← List.append_assoc gone, List.map_append (l₁ := (gone ++ ((namesF a).take k).filterMap (chgF a b)))]; rfl) | (rw [et]; first | done | rfl)) | exact SV.le.of_eq (by first | rfl | (rw [et, ← List.append_assoc gone, List.map_append (l₁ := (gone ++ ((namesF a).take k).filterMap (chgF a b)))]; rfl) | (rw [et]; first | done | rfl))) (Slots.cons rfl (by first | exact .refl _ | exact .nilOwn _ _ | exact .nilSl _ | exact .ownSl _ _ _  | exact SV.le.ownEq (by first | rfl | (rw [et, ← List.append_assoc gone, List.map_append (l₁ := (gone ++ ((namesF a).take k).filterMap (chgF a b)))]; rfl) | (rw [et]; first | done | rfl)) | exact SV.le.of_eq (by first | rfl | (rw [et, ← List.append_assoc gone, List.map_append (l₁ := (gone ++ ((namesF a).take k).filterMap (chgF a b)))]; rfl) | (rw [et]; first | done | rfl))) (Slots.cons rfl (by first | exact .refl _ | exact .nilOwn _ _ | exact .nilSl _ | exact .ownSl _ _ _  | exact SV.le.ownEq (by first | rfl | (rw [et, ← List.append_assoc gone, List.map_append (l₁ := (gone ++ ((namesF a).take k).filterMap (chgF a b)))]; rfl) | (rw [et]; first | done | rfl)) | exact SV.le.of_eq (by first | rfl | (rw [et, ← List.append_assoc gone, List.map_append (l₁ := (gone ++ ((namesF a).take k).filterMap (chgF a b)))]; rfl) | (rw [et]; first | done | rfl))) (Slots.cons rfl (by first | exact .refl _ | exact .nilOwn _ _ | exact .nilSl _ | exact .ownSl _ _ _  | exact SV.le.ownEq (by first | rfl | (rw [et, ← List.append_assoc gone, List.map_append (l₁ := (gone ++ ((namesF a).take k).filterMap (chgF a b)))]; rfl) | (rw [et]; first | done | rfl)) | exact SV.le.of_eq (by first | rfl | (rw [et, ← List.append_assoc gone, List.map_append (l₁ := (gone ++ ((namesF a).take k).filterMap (chgF a b)))]; rfl) | (rw [et]; first | done | rfl))) (Slots.cons rfl (by first | exact .refl _ | exact .nilOwn _ _ | exact .nilSl _ | exact .ownSl _ _ _  | exact SV.le.ownEq (by first | rfl | (rw [et, ← List.append_assoc gone, List.map_append (l₁ := (gone ++ ((namesF a).take k).filterMap (chgF a b)))]; rfl) | (rw [et]; first | done | rfl)) | exact SV.le.of_eq (by first | rfl | (rw [et, ← List.append_assoc gone, List.map_append (l₁ := (gone ++ ((namesF a).take k).filterMap (chgF a b)))]; rfl) | (rw [et]; first | done | rfl))) (Slots.cons rfl (by first | exact .refl _ | exact .nilOwn _ _ | exact .nilSl _ | exact .ownSl _ _ _  | exact SV.le.ownEq (by first | rfl | (rw [et, ← List.append_assoc gone, List.map_append (l₁ := (gone ++ ((namesF a).take k).filterMap (chgF a b)))]; rfl) | (rw [et]; first | done | rfl)) | exact SV.le.of_eq (by first | rfl | (rw [et, ← List.append_assoc gone, List.map_append (l₁ := (gone ++ ((namesF a).take k).filterMap (chgF a b)))]; rfl) | (rw [et]; first | done | rfl))) Slots.nil))))))), (by first | exact List.Sublist.refl _ | exact .cons_cons _ (.cons _ (.refl _)) | exact List.nil_sublist _ | exact .cons _ (.refl _) | exact .cons _ (.cons _ (.refl _)) | exact .cons _ (.cons _ (.cons _ (.refl _))) | exact .cons _ (.cons _ (.cons _ (.cons _ (.refl _)))) | exact .cons_cons _ (List.nil_sublist _))⟩, (by omega), ⟨k + 1, rfl, rfl, (by omega)⟩⟩
     ·
      rw [hdq] at hc3
      have hne : decide ((lookF a x).getD [] = d) = true := by rw [← htx.get]; simpa using hc3
      have ht : chgF a b x = none := by rw [chgF, hq2]; simp only [hne, cond_true]
      refine awp_skip ?_
      refine x_block ?_
      refine x_then ?_
      refine awp_region ?_
      refine r_ari _ rfl rfl rfl (wrap_id (by first | omega | (simp; omega))) rfl ?_
      refine r_move rfl rfl ?_
      refine awl_nil ?_
      refine x_then ?_
      have et := fmS_step (f := chgF a b) hx
      rw [ht] at et
      simp only [Option.toList_some, Option.toList_none, List.append_nil] at et
      refine ⟨(namesF a).length - (k + 1), ⟨111, [(5, .a (.cp [.v (.map (some bx))])), (6, .a (.cp [.v (.map (some by_))])), (8, .a (.v (.slice none 0 0))), (9, .own 9 4 ((gone ++ ((namesF a).take (k + 1)).filterMap (chgF a b)).map FC.cs)), (65, .a (strsA (namesF a))), (66, .a (.v (.int .i64 (((namesF a).map (fun s : ByteArray => [AV.v (.string s)])).length)))), (67, .a (.v (.int .i64 (((k + 1) : Int)))))], [⟨bx, true, .map (encM Value.string bts mx)⟩, ⟨by_, true, .map (encM Value.string bts my)⟩]⟩, ⟨rfl, (Slots.cons rfl (by first | exact .refl _ | exact .nilOwn _ _ | exact .nilSl _ | exact .ownSl _ _ _  | exact SV.le.ownEq (by first | rfl | (rw [et, ← List.append_assoc gone, List.map_append (l₁ := (gone ++ ((namesF a).take k).filterMap (chgF a b)))]; rfl) | (rw [et]; first | done | rfl)) | exact SV.le.of_eq (by first | rfl | (rw [et, ← List.append_assoc gone, List.map_append (l₁ := (gone ++ ((namesF a).take k).filterMap (chgF a b)))]; rfl) | (rw [et]; first | done | rfl))) (Slots.cons rfl (by first | exact .refl _ | exact .nilOwn _ _ | exact .nilSl _ | exact .ownSl _ _ _  | exact SV.le.ownEq (by first | rfl | (rw [et, ← List.append_assoc gone, List.map_append (l₁ := (gone ++ ((namesF a).take k).filterMap (chgF a b)))]; rfl) | (rw [et]; first | done | rfl)) | exact SV.le.of_eq (by first | rfl | (rw [et, ← List.append_assoc gone, List.map_append (l₁ := (gone ++ ((namesF a).take k).filterMap (chgF a b)))]; rfl) | (rw [et]; first | done | rfl))) (Slots.cons rfl (by first | exact .refl _ | exact .nilOwn _ _ | exact .nilSl _ | exact .ownSl _ _ _  | exact SV.le.ownEq (by first | rfl | (rw [et, ← List.append_assoc gone, List.map_append (l₁ := (gone ++ ((namesF a).take k).filterMap (chgF a b)))]; rfl) | (rw [et]; first | done | rfl)) | exact SV.le.of_eq (by first | rfl | (rw [et, ← List.append_assoc gone, List.map_append (l₁ := (gone ++ ((namesF a).take k).filterMap (chgF a b)))]; rfl) | (rw [et]; first | done | rfl))) (Slots.cons rfl (by first | exact .refl _ | exact .nilOwn _ _ | exact .nilSl _ | exact .ownSl _ _ _  | exact SV.le.ownEq (by first | rfl | (rw [et, ← List.append_assoc gone, List.map_append (l₁ := (gone ++ ((namesF a).take k).filterMap (chgF a b)))]; rfl) | (rw [et]; first | done | rfl)) | exact SV.le.of_eq (by first | rfl | (rw [et, ← List.append_assoc gone, List.map_append (l₁ := (gone ++ ((namesF a).take k).filterMap (chgF a b)))]; rfl) | (rw [et]; first | done | rfl))) (Slots.cons rfl (by first | exact .refl _ | exact .nilOwn _ _ | exact .nilSl _ | exact .ownSl _ _ _  | exact SV.le.ownEq (by first | rfl | (rw [et, ← List.append_assoc gone, List.map_append (l₁ := (gone ++ ((namesF a).take k).filterMap (chgF a b)))]; rfl) | (rw [et]; first | done | rfl)) | exact SV.le.of_eq (by first | rfl | (rw [et, ← List.append_assoc gone, List.map_append (l₁ := (gone ++ ((namesF a).take k).filterMap (chgF a b)))]; rfl) | (rw [et]; first | done | rfl))) (Slots.cons rfl (by first | exact .refl _ | exact .nilOwn _ _ | exact .nilSl _ | exact .ownSl _ _ _  | exact SV.le.ownEq (by first | rfl | (rw [et, ← List.append_assoc gone, List.map_append (l₁ := (gone ++ ((namesF a).take k).filterMap (chgF a b)))]; rfl) | (rw [et]; first | done | rfl)) | exact SV.le.of_eq (by first | rfl | (rw [et, ← List.append_assoc gone, List.map_append (l₁ := (gone ++ ((namesF a).take k).filterMap (chgF a b)))]; rfl) | (rw [et]; first | done | rfl))) (Slots.cons rfl (by first | exact .refl _ | exact .nilOwn _ _ | exact .nilSl _ | exact .ownSl _ _ _  | exact SV.le.ownEq (by first | rfl | (rw [et, ← List.append_assoc gone, List.map_append (l₁ := (gone ++ ((namesF a).take k).filterMap (chgF a b)))]; rfl) | (rw [et]; first | done | rfl)) | exact SV.le.of_eq (by first | rfl | (rw [et, ← List.append_assoc gone, List.map_append (l₁ := (gone ++ ((namesF a).take k).filterMap (chgF a b)))]; rfl) | (rw [et]; first | done | rfl))) Slots.nil))))))), (by first | exact List.Sublist.refl _ | exact .cons_cons _ (.cons _ (.refl _)) | exact List.nil_sublist _ | exact .cons _ (.refl _) | exact .cons _ (.cons _ (.refl _)) | exact .cons _ (.cons _ (.cons _ (.refl _))) | exact .cons _ (.cons _ (.cons _ (.cons _ (.refl _)))) | exact .cons_cons _ (List.nil_sublist _))⟩, (by omega), ⟨k + 1, rfl, rfl, (by omega)⟩⟩
    ·
     have hq2 : lookF b x = none := by
      rw [← hty.get]
      cases h : mget my x with
      | none => rfl
      | some d => rw [h] at hg78; cases hg78
     have ht : chgF a b x = none := by rw [chgF, hq2]
     refine g_skip rfl rfl hg78 rfl ?_
     refine g_skip rfl rfl hg78 rfl ?_
     refine g_skip rfl rfl hg78 rfl ?_
     refine g_skip rfl rfl hg78 rfl ?_
     refine g_skip rfl rfl hg78 rfl ?_
     refine g_skip rfl rfl hg78 rfl ?_
     refine r_pickF rfl hg78 rfl rfl ?_
     refine awl_nil ?_
     refine x_then ?_
     refine awp_condF rfl ?_
     refine awp_skip ?_
     refine x_block ?_
     refine x_then ?_
     refine awp_region ?_
     refine r_ari _ rfl rfl rfl (wrap_id (by first | omega | (simp; omega))) rfl ?_
     refine r_move rfl rfl ?_
     refine awl_nil ?_
     refine x_then ?_
     have et := fmS_step (f := chgF a b) hx
     rw [ht] at et
     simp only [Option.toList_some, Option.toList_none, List.append_nil] at et
     refine ⟨(namesF a).length - (k + 1), ⟨111, [(5, .a (.cp [.v (.map (some bx))])), (6, .a (.cp [.v (.map (some by_))])), (8, .a (.v (.slice none 0 0))), (9, .own 9 4 ((gone ++ ((namesF a).take (k + 1)).filterMap (chgF a b)).map FC.cs)), (65, .a (strsA (namesF a))), (66, .a (.v (.int .i64 (((namesF a).map (fun s : ByteArray => [AV.v (.string s)])).length)))), (67, .a (.v (.int .i64 (((k + 1) : Int)))))], [⟨bx, true, .map (encM Value.string bts mx)⟩, ⟨by_, true, .map (encM Value.string bts my)⟩]⟩, ⟨rfl, (Slots.cons rfl (by first | exact .refl _ | exact .nilOwn _ _ | exact .nilSl _ | exact .ownSl _ _ _  | exact SV.le.ownEq (by first | rfl | (rw [et, ← List.append_assoc gone, List.map_append (l₁ := (gone ++ ((namesF a).take k).filterMap (chgF a b)))]; rfl) | (rw [et]; first | done | rfl)) | exact SV.le.of_eq (by first | rfl | (rw [et, ← List.append_assoc gone, List.map_append (l₁ := (gone ++ ((namesF a).take k).filterMap (chgF a b)))]; rfl) | (rw [et]; first | done | rfl))) (Slots.cons rfl (by first | exact .refl _ | exact .nilOwn _ _ | exact .nilSl _ | exact .ownSl _ _ _  | exact SV.le.ownEq (by first | rfl | (rw [et, ← List.append_assoc gone, List.map_append (l₁ := (gone ++ ((namesF a).take k).filterMap (chgF a b)))]; rfl) | (rw [et]; first | done | rfl)) | exact SV.le.of_eq (by first | rfl | (rw [et, ← List.append_assoc gone, List.map_append (l₁ := (gone ++ ((namesF a).take k).filterMap (chgF a b)))]; rfl) | (rw [et]; first | done | rfl))) (Slots.cons rfl (by first | exact .refl _ | exact .nilOwn _ _ | exact .nilSl _ | exact .ownSl _ _ _  | exact SV.le.ownEq (by first | rfl | (rw [et, ← List.append_assoc gone, List.map_append (l₁ := (gone ++ ((namesF a).take k).filterMap (chgF a b)))]; rfl) | (rw [et]; first | done | rfl)) | exact SV.le.of_eq (by first | rfl | (rw [et, ← List.append_assoc gone, List.map_append (l₁ := (gone ++ ((namesF a).take k).filterMap (chgF a b)))]; rfl) | (rw [et]; first | done | rfl))) (Slots.cons rfl (by first | exact .refl _ | exact .nilOwn _ _ | exact .nilSl _ | exact .ownSl _ _ _  | exact SV.le.ownEq (by first | rfl | (rw [et, ← List.append_assoc gone, List.map_append (l₁ := (gone ++ ((namesF a).take k).filterMap (chgF a b)))]; rfl) | (rw [et]; first | done | rfl)) | exact SV.le.of_eq (by first | rfl | (rw [et, ← List.append_assoc gone, List.map_append (l₁ := (gone ++ ((namesF a).take k).filterMap (chgF a b)))]; rfl) | (rw [et]; first | done | rfl))) (Slots.cons rfl (by first | exact .refl _ | exact .nilOwn _ _ | exact .nilSl _ | exact .ownSl _ _ _  | exact SV.le.ownEq (by first | rfl | (rw [et, ← List.append_assoc gone, List.map_append (l₁ := (gone ++ ((namesF a).take k).filterMap (chgF a b)))]; rfl) | (rw [et]; first | done | rfl)) | exact SV.le.of_eq (by first | rfl | (rw [et, ← List.append_assoc gone, List.map_append (l₁ := (gone ++ ((namesF a).take k).filterMap (chgF a b)))]; rfl) | (rw [et]; first | done | rfl))) (Slots.cons rfl (by first | exact .refl _ | exact .nilOwn _ _ | exact .nilSl _ | exact .ownSl _ _ _  | exact SV.le.ownEq (by first | rfl | (rw [et, ← List.append_assoc gone, List.map_append (l₁ := (gone ++ ((namesF a).take k).filterMap (chgF a b)))]; rfl) | (rw [et]; first | done | rfl)) | exact SV.le.of_eq (by first | rfl | (rw [et, ← List.append_assoc gone, List.map_append (l₁ := (gone ++ ((namesF a).take k).filterMap (chgF a b)))]; rfl) | (rw [et]; first | done | rfl))) (Slots.cons rfl (by first | exact .refl _ | exact .nilOwn _ _ | exact .nilSl _ | exact .ownSl _ _ _  | exact SV.le.ownEq (by first | rfl | (rw [et, ← List.append_assoc gone, List.map_append (l₁ := (gone ++ ((namesF a).take k).filterMap (chgF a b)))]; rfl) | (rw [et]; first | done | rfl)) | exact SV.le.of_eq (by first | rfl | (rw [et, ← List.append_assoc gone, List.map_append (l₁ := (gone ++ ((namesF a).take k).filterMap (chgF a b)))]; rfl) | (rw [et]; first | done | rfl))) Slots.nil))))))), (by first | exact List.Sublist.refl _ | exact .cons_cons _ (.cons _ (.refl _)) | exact List.nil_sublist _ | exact .cons _ (.refl _) | exact .cons _ (.cons _ (.refl _)) | exact .cons _ (.cons _ (.cons _ (.refl _))) | exact .cons _ (.cons _ (.cons _ (.cons _ (.refl _)))) | exact .cons_cons _ (List.nil_sublist _))⟩, (by omega), ⟨k + 1, rfl, rfl, (by omega)⟩⟩
   ·
    have hge : (namesF a).length ≤ k := by have := of_decide_eq_false hc2; simp at this; omega
    have hkl : (namesF a).take k = namesF a := List.take_of_length_le hge
    rw [hkl]
    have hf2 : ((namesF a).filterMap (chgF a b)).length ≤ (namesF a).length := List.length_filterMap_le _ _
    refine awp_exit ?_
    refine x_thenE ?_
    refine x_thenE ?_
    refine x_blockE ?_
    refine x_then ?_
    refine awp_seq ?_
    refine awp_seq ?_
    refine awp_region ?_
    refine r_move rfl rfl ?_
    first | (refine r_lenS rfl rfl TF.sl57 rfl ?_) | (refine r_lenNil rfl TF.sl57 rfl ?_) | (refine r_lenV rfl TF.sl57 rfl ?_)
    refine r_move rfl rfl ?_
    refine awl_nil ?_
    refine x_then ?_
    refine awp_block ?_
    refine awp_loop (fun nn0 S => S = ⟨111, [(9, .own 9 4 ((gone ++ (namesF a).filterMap (chgF a b)).map FC.cs)), (95, .a (.v (.int .i64 (0)))), (96, .a (.v (.int .i64 (0))))], []⟩ ∧ nn0 = 0) (0) ⟨111, [(9, .own 9 4 ((gone ++ (namesF a).filterMap (chgF a b)).map FC.cs)), (95, .a (.v (.int .i64 (0)))), (96, .a (.v (.int .i64 (0))))], []⟩ ⟨rfl, (Slots.cons rfl (by first | exact .refl _ | exact .nilOwn _ _ | exact .nilSl _ | exact .ownSl _ _ _  | exact SV.le.of_eq (by simp)) (Slots.cons rfl (by first | exact .refl _ | exact .nilOwn _ _ | exact .nilSl _ | exact .ownSl _ _ _  | exact SV.le.of_eq (by simp)) (Slots.cons rfl (by first | exact .refl _ | exact .nilOwn _ _ | exact .nilSl _ | exact .ownSl _ _ _  | exact SV.le.of_eq (by simp)) Slots.nil))), (by first | exact List.Sublist.refl _ | exact .cons_cons _ (.cons _ (.refl _)) | exact List.nil_sublist _ | exact .cons _ (.refl _) | exact .cons _ (.cons _ (.refl _)) | exact .cons _ (.cons _ (.cons _ (.refl _))) | exact .cons _ (.cons _ (.cons _ (.cons _ (.refl _)))) | exact .cons_cons _ (List.nil_sublist _))⟩ ⟨rfl, rfl⟩ ?_
    rintro nn0 _ ⟨rfl, rfl⟩
    refine awp_seq ?_
    refine awp_region ?_
    refine r_cmp rfl rfl rfl rfl ?_
    refine awl_nil ?_
    refine x_then ?_
    refine awp_seq ?_
    refine awp_cond rfl (fun hc4 => ?_) (fun hc4 => ?_)
    ·
     exfalso; exact absurd hc4 (by decide)
    ·
     refine awp_exit ?_
     refine x_thenE ?_
     refine x_thenE ?_
     refine x_blockE ?_
     refine x_then ?_
     refine awp_seq ?_
     refine awp_region ?_
     refine r_move rfl rfl ?_
     refine r_assign rfl rfl ?_
     refine awl_nil ?_
     refine x_then ?_
     refine awp_ret ?_
     exact ⟨(.inl rfl), _, [], (.one (by first | exact .mk rfl rfl | exact .nil rfl)), ⟨rfl, by rw [OfF, show splitE a b = ([], [], gone) from hst]; simp [fcsA, SV.av]⟩, (List.nil_sublist _), (by simp)⟩
 ·
  refine r_assign rfl rfl ?_
  refine r_assign rfl rfl ?_
  refine awl_nil ?_
  refine x_then ?_
  refine awp_seq ?_
  refine awp_region ?_
  refine r_assign rfl rfl ?_
  refine r_assign rfl rfl ?_
  refine awl_nil ?_
  refine x_then ?_
  refine awp_seq ?_
  refine awp_seq ?_
  refine awp_region ?_
  refine r_move rfl rfl ?_
  first | (refine r_lenS rfl rfl TF.sl57 rfl ?_) | (refine r_lenNil rfl TF.sl57 rfl ?_) | (refine r_lenV rfl TF.sl57 rfl ?_)
  refine r_move rfl rfl ?_
  refine awl_nil ?_
  refine x_then ?_
  refine awp_block ?_
  refine awp_loop (fun nn0 S => ∃ k : Nat, ∃ came : List ByteArray, ∃ out : List FC, ∃ gone : List FC, ∃ ext : List AV, S = ⟨111, [(5, .a (.cp [.v (.map (some bx))])), (6, .a (.cp [.v (.map (some by_))])), (8, .a (.v (.slice (some ⟨g2, 0, none⟩) came.length cap))), (9, .own 9 4 (out.map FC.cs)), (10, .own 10 4 (gone.map FC.cs)), (30, .a (strsA (wentF a b))), (31, .a (.v (.int .i64 (((wentF a b).map (fun s : ByteArray => [AV.v (.string s)])).length)))), (32, .a (.v (.int .i64 ((k : Int)))))], [⟨g2, true, .box (strsC came ++ ext)⟩, ⟨bx, true, .map (encM Value.string bts mx)⟩, ⟨by_, true, .map (encM Value.string bts my)⟩]⟩ ∧ nn0 = (wentF a b).length - k ∧ (k ≤ (wentF a b).length) ∧ (splitF a b k = (came, out, gone)) ∧ (cap = came.length + ext.length) ∧ (out.length ≤ k) ∧ (gone.length ≤ k) ∧ (came.length ≤ 1000)) ((wentF a b).length - (0)) ⟨111, [(5, .a (.cp [.v (.map (some bx))])), (6, .a (.cp [.v (.map (some by_))])), (8, .a (.v (.slice (some ⟨g2, 0, none⟩) ((wentF b a)).length cap))), (9, .own 9 4 (([]).map FC.cs)), (10, .own 10 4 (([]).map FC.cs)), (30, .a (strsA (wentF a b))), (31, .a (.v (.int .i64 (((wentF a b).map (fun s : ByteArray => [AV.v (.string s)])).length)))), (32, .a (.v (.int .i64 (((0) : Int)))))], [⟨g2, true, .box (strsC ((wentF b a)) ++ (ext))⟩, ⟨bx, true, .map (encM Value.string bts mx)⟩, ⟨by_, true, .map (encM Value.string bts my)⟩]⟩ ⟨rfl, (Slots.cons rfl (by first | exact .refl _ | exact .nilOwn _ _ | exact .nilSl _ | exact .ownSl _ _ _  | exact SV.le.of_eq (by simp)) (Slots.cons rfl (by first | exact .refl _ | exact .nilOwn _ _ | exact .nilSl _ | exact .ownSl _ _ _  | exact SV.le.of_eq (by simp)) (Slots.cons rfl (by first | exact .refl _ | exact .nilOwn _ _ | exact .nilSl _ | exact .ownSl _ _ _  | exact SV.le.of_eq (by simp)) (Slots.cons rfl (by first | exact .refl _ | exact .nilOwn _ _ | exact .nilSl _ | exact .ownSl _ _ _  | exact SV.le.of_eq (by simp)) (Slots.cons rfl (by first | exact .refl _ | exact .nilOwn _ _ | exact .nilSl _ | exact .ownSl _ _ _  | exact SV.le.of_eq (by simp)) (Slots.cons rfl (by first | exact .refl _ | exact .nilOwn _ _ | exact .nilSl _ | exact .ownSl _ _ _  | exact SV.le.of_eq (by simp)) (Slots.cons rfl (by first | exact .refl _ | exact .nilOwn _ _ | exact .nilSl _ | exact .ownSl _ _ _  | exact SV.le.of_eq (by simp)) (Slots.cons rfl (by first | exact .refl _ | exact .nilOwn _ _ | exact .nilSl _ | exact .ownSl _ _ _  | exact SV.le.of_eq (by simp)) Slots.nil)))))))), (by first | exact List.Sublist.refl _ | exact .cons_cons _ (.cons _ (.refl _)) | exact List.nil_sublist _ | exact .cons _ (.refl _) | exact .cons _ (.cons _ (.refl _)) | exact .cons _ (.cons _ (.cons _ (.refl _))) | exact .cons _ (.cons _ (.cons _ (.cons _ (.refl _)))) | exact .cons_cons _ (List.nil_sublist _))⟩ ⟨0, (wentF b a), [], [], ext, rfl, rfl, Nat.zero_le _, rfl, hcap, (by simp), (by simp), (by have := went_len b a; omega)⟩ ?_
  rintro nn0 _ ⟨k, came, out, gone, ext, rfl, rfl, hk, hst, hce, hol, hgl, hcl⟩
  refine awp_seq ?_
  refine awp_region ?_
  refine r_cmp rfl rfl rfl rfl ?_
  refine awl_nil ?_
  refine x_then ?_
  refine awp_seq ?_
  refine awp_cond rfl (fun hc0 => ?_) (fun hc0 => ?_)
  ·
   have hltx : k < (wentF a b).length := by have := of_decide_eq_true hc0; simpa using this
   obtain ⟨x, hx⟩ := get_lt hltx
   refine awp_skip ?_
   refine x_then ?_
   refine awp_seq ?_
   refine awp_block ?_
   refine awp_seq ?_
   refine awp_region ?_
   refine r_index rfl rfl rfl TF.sl57 TF.sz9 (by omega) (get_map hx) rfl ?_
   first | (refine r_load1 rfl TF.agg9 rfl ?_) | (refine r_load1b 0 rfl rfl rfl TF.agg9 rfl ?_) | (refine r_load1b 1 rfl rfl rfl TF.agg9 rfl ?_) | (refine r_load1b 2 rfl rfl rfl TF.agg9 rfl ?_)
   refine r_alloc TF.zero9 rfl (fun b12 => ?_)
   first | (refine r_store 0 rfl rfl rfl TF.sz9 rfl rfl rfl ?_) | (refine r_store 1 rfl rfl rfl TF.sz9 rfl rfl rfl ?_) | (refine r_store 2 rfl rfl rfl TF.sz9 rfl rfl rfl ?_) | (refine r_store 3 rfl rfl rfl TF.sz9 rfl rfl rfl ?_)
   refine awl_nil ?_
   refine x_then ?_
   refine awp_seq ?_
   refine awp_region ?_
   refine awl_imp (imp_commit 0 12 rfl rfl rfl rfl) ?_
   refine r_move rfl rfl ?_
   refine r_makeFunc rfl (.cons (.ev rfl rfl) (.cons (.ev rfl rfl) (.cons (.ev rfl rfl) .nil))) rfl ?_
   refine r_callO hq rfl rfl (.cons (.ev rfl rfl) (.cons (.ev rfl rfl) .nil)) (idxV_ok (os := [⟨bx, true, .map (encM Value.string bts mx)⟩, ⟨by_, true, .map (encM Value.string bts my)⟩]) (hitF a b x) TF.en26 (fun t => of1_ok htx hty x t) came (by omega)) rfl TF.en25 (List.Sublist.refl _) rfl (fun r nobjs hr => ?_)
   obtain ⟨rfl, rfl⟩ := hr
   refine r_assign rfl rfl ?_
   refine awl_nil ?_
   refine x_then ?_
   refine awp_seq ?_
   refine awp_seq ?_
   refine awp_region ?_
   refine r_move rfl rfl ?_
   refine r_cmp rfl rfl rfl rfl ?_
   refine awl_nil ?_
   refine x_then ?_
   refine awp_cond rfl (fun hc1 => ?_) (fun hc1 => ?_)
   ·
    have hno := optI_none (of_decide_eq_true hc1)
    refine awp_seq ?_
    refine awp_region ?_
    refine r_move rfl rfl ?_
    first | (refine r_load1 rfl TF.agg9 rfl ?_) | (refine r_load1b 0 rfl rfl rfl TF.agg9 rfl ?_) | (refine r_load1b 1 rfl rfl rfl TF.agg9 rfl ?_) | (refine r_load1b 2 rfl rfl rfl TF.agg9 rfl ?_) | (refine r_load1b 3 rfl rfl rfl TF.agg9 rfl ?_)
    refine r_build (parts := [(0, .const ((Go.Value.int Go.IntKind.i64 2))), (1, .tmp 42)]) rfl TF.pl50 TF.zero50 rfl rfl rfl ?_
    refine r_lit 44 (parts := [(0, .tmp 43)]) rfl TF.sl28 TF.sz50 TF.zraw50 rfl rfl rfl rfl rfl rfl rfl ?_
    refine r_append 10 rfl (by first | exact .own _ | exact .nil) rfl (by first | exact .sl _ | exact .own _ _ | exact .nil) TF.sl28 TF.sz50 (by decide) TF.by50 TF.zlen50 (by simp [chunks] <;> omega) (by simp [chunks] <;> omega) rfl ?_
    refine r_assign rfl rfl ?_
    refine awl_nil ?_
    refine x_then ?_
    refine awp_exit ?_
    refine x_thenE ?_
    refine x_blockE ?_
    refine x_then ?_
    refine awp_region ?_
    refine r_ari _ rfl rfl rfl (wrap_id (by first | omega | (simp; omega))) rfl ?_
    refine r_move rfl rfl ?_
    refine awl_nil ?_
    refine x_then ?_
    refine ⟨(wentF a b).length - (k + 1), ⟨111, [(5, .a (.cp [.v (.map (some bx))])), (6, .a (.cp [.v (.map (some by_))])), (8, .a (.v (.slice (some ⟨g2, 0, none⟩) (came).length cap))), (9, .own 9 4 ((out).map FC.cs)), (10, .own 10 4 ((gone ++ [(⟨2, x, E0, []⟩ : FC)]).map FC.cs)), (30, .a (strsA (wentF a b))), (31, .a (.v (.int .i64 (((wentF a b).map (fun s : ByteArray => [AV.v (.string s)])).length)))), (32, .a (.v (.int .i64 (((k + 1) : Int)))))], [⟨g2, true, .box (strsC (came) ++ (ext))⟩, ⟨bx, true, .map (encM Value.string bts mx)⟩, ⟨by_, true, .map (encM Value.string bts my)⟩]⟩, ⟨rfl, (Slots.cons rfl (by first | exact .refl _ | exact .nilOwn _ _ | exact .nilSl _ | exact .ownSl _ _ _  | exact SV.le.ownEq (by first | rfl | (rw [List.map_append]; rfl) | (simp [List.map_append]; done)) | exact SV.le.of_eq (by first | rfl | (rw [List.map_append]; rfl) | (simp [List.map_append]; done))) (Slots.cons rfl (by first | exact .refl _ | exact .nilOwn _ _ | exact .nilSl _ | exact .ownSl _ _ _  | exact SV.le.ownEq (by first | rfl | (rw [List.map_append]; rfl) | (simp [List.map_append]; done)) | exact SV.le.of_eq (by first | rfl | (rw [List.map_append]; rfl) | (simp [List.map_append]; done))) (Slots.cons rfl (by first | exact .refl _ | exact .nilOwn _ _ | exact .nilSl _ | exact .ownSl _ _ _  | exact SV.le.ownEq (by first | rfl | (rw [List.map_append]; rfl) | (simp [List.map_append]; done)) | exact SV.le.of_eq (by first | rfl | (rw [List.map_append]; rfl) | (simp [List.map_append]; done))) (Slots.cons rfl (by first | exact .refl _ | exact .nilOwn _ _ | exact .nilSl _ | exact .ownSl _ _ _  | exact SV.le.ownEq (by first | rfl | (rw [List.map_append]; rfl) | (simp [List.map_append]; done)) | exact SV.le.of_eq (by first | rfl | (rw [List.map_append]; rfl) | (simp [List.map_append]; done))) (Slots.cons rfl (by first | exact .refl _ | exact .nilOwn _ _ | exact .nilSl _ | exact .ownSl _ _ _  | exact SV.le.ownEq (by first | rfl | (rw [List.map_append]; rfl) | (simp [List.map_append]; done)) | exact SV.le.of_eq (by first | rfl | (rw [List.map_append]; rfl) | (simp [List.map_append]; done))) (Slots.cons rfl (by first | exact .refl _ | exact .nilOwn _ _ | exact .nilSl _ | exact .ownSl _ _ _  | exact SV.le.ownEq (by first | rfl | (rw [List.map_append]; rfl) | (simp [List.map_append]; done)) | exact SV.le.of_eq (by first | rfl | (rw [List.map_append]; rfl) | (simp [List.map_append]; done))) (Slots.cons rfl (by first | exact .refl _ | exact .nilOwn _ _ | exact .nilSl _ | exact .ownSl _ _ _  | exact SV.le.ownEq (by first | rfl | (rw [List.map_append]; rfl) | (simp [List.map_append]; done)) | exact SV.le.of_eq (by first | rfl | (rw [List.map_append]; rfl) | (simp [List.map_append]; done))) (Slots.cons rfl (by first | exact .refl _ | exact .nilOwn _ _ | exact .nilSl _ | exact .ownSl _ _ _  | exact SV.le.ownEq (by first | rfl | (rw [List.map_append]; rfl) | (simp [List.map_append]; done)) | exact SV.le.of_eq (by first | rfl | (rw [List.map_append]; rfl) | (simp [List.map_append]; done))) Slots.nil)))))))), (by first | exact List.Sublist.refl _ | exact .cons_cons _ (.cons _ (.refl _)) | exact List.nil_sublist _ | exact .cons _ (.refl _) | exact .cons _ (.cons _ (.refl _)) | exact .cons _ (.cons _ (.cons _ (.refl _))) | exact .cons _ (.cons _ (.cons _ (.cons _ (.refl _)))) | exact .cons_cons _ (List.nil_sublist _))⟩, (by omega), ⟨k + 1, came, out, gone ++ [(⟨2, x, E0, []⟩ : FC)], ext, rfl, rfl, (by omega), (split_none hx hst hno), hce, (by omega), (by simp; omega), hcl⟩⟩
   ·
    obtain ⟨i, hi⟩ := optI_some (o := came.findIdx? (hitF a b x)) (by have := of_decide_eq_false hc1; omega)
    have hoi : optI (came.findIdx? (hitF a b x)) = (i : Int) := by rw [hi]; rfl
    rw [hoi]
    obtain ⟨t0, ht0, _⟩ := fidx_get hi
    have hil := (List.getElem?_eq_some_iff.1 ht0).1
    refine awp_skip ?_
    refine x_then ?_
    refine awp_seq ?_
    refine awp_drawS [46, 47, 48, 49, 50, 51, 52, 53] [_, _, _, _, _, _, _, _] [] [(7, 53)] TF.mixed rfl rfl rfl ⟨⟨⟨⟨⟨⟨⟨⟨trivial
     , ⟨_, rfl, fun sl hd hr ho => by
       refine r_move (hr 9 _ rfl rfl rfl) rfl ?_
       exact awl_nil ⟨rfl, post_put⟩⟩⟩
     , ⟨_, rfl, fun sl hd hr ho => by
       first | (refine r_load1 (hr 12 _ rfl rfl rfl) TF.agg9 rfl ?_) | (refine r_load1b 0 (hr 12 _ rfl rfl rfl) rfl rfl TF.agg9 rfl ?_) | (refine r_load1b 1 (hr 12 _ rfl rfl rfl) rfl rfl TF.agg9 rfl ?_) | (refine r_load1b 2 (hr 12 _ rfl rfl rfl) rfl rfl TF.agg9 rfl ?_) | (refine r_load1b 3 (hr 12 _ rfl rfl rfl) rfl rfl TF.agg9 rfl ?_)
       exact awl_nil ⟨rfl, post_put⟩⟩⟩
     , ⟨_, rfl, fun sl hd hr ho => by
       refine r_move (hr 8 _ rfl rfl rfl) rfl ?_
       exact awl_nil ⟨rfl, post_put⟩⟩⟩
     , ⟨_, rfl, fun sl hd hr ho => by
       refine r_move (hr 13 _ rfl rfl rfl) rfl ?_
       exact awl_nil ⟨rfl, post_put⟩⟩⟩
     , ⟨_, rfl, fun sl hd hr ho => by
       refine r_indexV (hd 2 _ rfl rfl rfl) (hd 3 _ rfl rfl rfl) TF.sl57 TF.sz9 (by omega) (by omega) rfl ?_
       exact awl_nil ⟨rfl, post_put⟩⟩⟩
     , ⟨_, rfl, fun sl hd hr ho => by
       refine r_load1b 0 (hd 4 _ rfl rfl rfl) rfl (str_at ht0) TF.agg9 rfl ?_
       exact awl_nil ⟨rfl, post_put⟩⟩⟩
     , ⟨_, rfl, fun sl hd hr ho => by
       refine r_build (parts := [(0, .const ((Go.Value.int Go.IntKind.i64 4))), (1, .tmp 47), (2, .tmp 51)]) rfl TF.pl50 TF.zero50 (parts_cons rfl (parts_cons (hd 1 _ rfl rfl rfl) (parts_cons (hd 5 _ rfl rfl rfl) parts_nil))) rfl rfl ?_
       exact awl_nil ⟨rfl, post_put⟩⟩⟩
     , ⟨_, rfl, fun sl hd hr ho => by
       refine r_lit 53 (parts := [(0, .tmp 52)]) rfl TF.sl28 TF.sz50 TF.zraw50 rfl rfl (parts_cons (hd 6 _ rfl rfl rfl) parts_nil) rfl rfl rfl rfl ?_
       exact awl_nil ⟨rfl, (post_dem (ho 53 (List.mem_of_elem_eq_true rfl)))⟩⟩⟩
     (by rfl) ?_
    refine r_append 9 rfl (by first | exact .own _ | exact .nil) rfl (by first | exact .sl _ | exact .own _ _ | exact .nil) TF.sl28 TF.sz50 (by decide) TF.by50 TF.zlen50 (by simp [chunks] <;> omega) (by simp [chunks] <;> omega) rfl ?_
    refine r_assign rfl rfl ?_
    refine awl_nil ?_
    refine x_then ?_
    refine awp_region ?_
    refine r_move rfl rfl ?_
    refine r_move rfl rfl ?_
    refine r_move rfl rfl ?_
    refine r_ari _ rfl rfl rfl (wrap_id (by first | omega | (simp; omega))) rfl ?_
    refine r_callW hq [true, false, false] rfl rfl (.cons (.ev rfl rfl) (.cons (.ev rfl rfl) (.cons (.ev rfl rfl) .nil))) (delete_ok came i hil (by omega) hce) rfl TF.en28 rfl rfl (List.nil_sublist _) rfl (fun r nobjs hr => ?_)
    obtain ⟨ext', hce', rfl, rfl⟩ := hr
    refine r_assign rfl rfl ?_
    refine awl_nil ?_
    refine x_block ?_
    refine x_then ?_
    refine awp_region ?_
    refine r_ari _ rfl rfl rfl (wrap_id (by first | omega | (simp; omega))) rfl ?_
    refine r_move rfl rfl ?_
    refine awl_nil ?_
    refine x_then ?_
    refine ⟨(wentF a b).length - (k + 1), ⟨111, [(5, .a (.cp [.v (.map (some bx))])), (6, .a (.cp [.v (.map (some by_))])), (8, .a (.v (.slice (some ⟨g2, 0, none⟩) ((came.eraseIdx i)).length cap))), (9, .own 9 4 ((out ++ [(⟨4, x, t0, []⟩ : FC)]).map FC.cs)), (10, .own 10 4 ((gone).map FC.cs)), (30, .a (strsA (wentF a b))), (31, .a (.v (.int .i64 (((wentF a b).map (fun s : ByteArray => [AV.v (.string s)])).length)))), (32, .a (.v (.int .i64 (((k + 1) : Int)))))], [⟨g2, true, .box (strsC ((came.eraseIdx i)) ++ (ext'))⟩, ⟨bx, true, .map (encM Value.string bts mx)⟩, ⟨by_, true, .map (encM Value.string bts my)⟩]⟩, ⟨rfl, (Slots.cons rfl (by first | exact .refl _ | exact .nilOwn _ _ | exact .nilSl _ | exact .ownSl _ _ _  | exact SV.le.ownEq (by first | rfl | (rw [List.map_append]; rfl) | (simp [List.map_append]; done)) | exact SV.le.of_eq (by first | rfl | (rw [List.map_append]; rfl) | (simp [List.map_append]; done))) (Slots.cons rfl (by first | exact .refl _ | exact .nilOwn _ _ | exact .nilSl _ | exact .ownSl _ _ _  | exact SV.le.ownEq (by first | rfl | (rw [List.map_append]; rfl) | (simp [List.map_append]; done)) | exact SV.le.of_eq (by first | rfl | (rw [List.map_append]; rfl) | (simp [List.map_append]; done))) (Slots.cons rfl (by first | exact .refl _ | exact .nilOwn _ _ | exact .nilSl _ | exact .ownSl _ _ _  | exact SV.le.ownEq (by first | rfl | (rw [List.map_append]; rfl) | (simp [List.map_append]; done)) | exact SV.le.of_eq (by first | rfl | (rw [List.map_append]; rfl) | (simp [List.map_append]; done))) (Slots.cons rfl (by first | exact .refl _ | exact .nilOwn _ _ | exact .nilSl _ | exact .ownSl _ _ _  | exact SV.le.ownEq (by first | rfl | (rw [List.map_append]; rfl) | (simp [List.map_append]; done)) | exact SV.le.of_eq (by first | rfl | (rw [List.map_append]; rfl) | (simp [List.map_append]; done))) (Slots.cons rfl (by first | exact .refl _ | exact .nilOwn _ _ | exact .nilSl _ | exact .ownSl _ _ _  | exact SV.le.ownEq (by first | rfl | (rw [List.map_append]; rfl) | (simp [List.map_append]; done)) | exact SV.le.of_eq (by first | rfl | (rw [List.map_append]; rfl) | (simp [List.map_append]; done))) (Slots.cons rfl (by first | exact .refl _ | exact .nilOwn _ _ | exact .nilSl _ | exact .ownSl _ _ _  | exact SV.le.ownEq (by first | rfl | (rw [List.map_append]; rfl) | (simp [List.map_append]; done)) | exact SV.le.of_eq (by first | rfl | (rw [List.map_append]; rfl) | (simp [List.map_append]; done))) (Slots.cons rfl (by first | exact .refl _ | exact .nilOwn _ _ | exact .nilSl _ | exact .ownSl _ _ _  | exact SV.le.ownEq (by first | rfl | (rw [List.map_append]; rfl) | (simp [List.map_append]; done)) | exact SV.le.of_eq (by first | rfl | (rw [List.map_append]; rfl) | (simp [List.map_append]; done))) (Slots.cons rfl (by first | exact .refl _ | exact .nilOwn _ _ | exact .nilSl _ | exact .ownSl _ _ _  | exact SV.le.ownEq (by first | rfl | (rw [List.map_append]; rfl) | (simp [List.map_append]; done)) | exact SV.le.of_eq (by first | rfl | (rw [List.map_append]; rfl) | (simp [List.map_append]; done))) Slots.nil)))))))), (by first | exact List.Sublist.refl _ | exact .cons_cons _ (.cons _ (.refl _)) | exact List.nil_sublist _ | exact .cons _ (.refl _) | exact .cons _ (.cons _ (.refl _)) | exact .cons _ (.cons _ (.cons _ (.refl _))) | exact .cons _ (.cons _ (.cons _ (.cons _ (.refl _)))) | exact .cons_cons _ (List.nil_sublist _))⟩, (by omega), ⟨k + 1, (came.eraseIdx i), out ++ [(⟨4, x, t0, []⟩ : FC)], gone, ext', rfl, rfl, (by omega), (split_some hx hst hi ht0), hce', (by simp; omega), (by omega), (by rw [List.length_eraseIdx]; split <;> omega)⟩⟩
  ·
   have hge : (wentF a b).length ≤ k := by have := of_decide_eq_false hc0; simp at this; omega
   obtain rfl : k = (wentF a b).length := by omega
   refine awp_exit ?_
   refine x_thenE ?_
   refine x_thenE ?_
   refine x_blockE ?_
   refine x_then ?_
   refine awp_seq ?_
   refine awp_region ?_
   refine r_move rfl rfl ?_
   refine r_move rfl rfl ?_
   refine r_append 9 rfl (by first | exact .own _ | exact .nil) rfl (by first | exact .sl _ | exact .own _ _ | exact .nil) TF.sl28 TF.sz50 (by decide) TF.by50 TF.zlen50 (by simp [chunks] <;> omega) (by simp [chunks] <;> omega) rfl ?_
   refine r_assign rfl rfl ?_
   refine awl_nil ?_
   refine x_then ?_
   refine awp_seq ?_
   refine awp_seq ?_
   refine awp_region ?_
   first | (refine r_load1 rfl TF.agg55 rfl ?_) | (refine r_load1b 0 rfl rfl rfl TF.agg55 rfl ?_) | (refine r_load1b 1 rfl rfl rfl TF.agg55 rfl ?_) | (refine r_load1b 2 rfl rfl rfl TF.agg55 rfl ?_)
   refine r_callO hq rfl rfl (.cons (.ev rfl rfl) .nil) (orderN_ok htx hnsa (by omega)) rfl TF.en29 (.cons _ (.cons_cons _ (List.nil_sublist _))) rfl (fun r nobjs hr => ?_)
   obtain ⟨rfl, rfl⟩ := hr
   first | (refine r_lenS rfl rfl TF.sl57 rfl ?_) | (refine r_lenNil rfl TF.sl57 rfl ?_) | (refine r_lenV rfl TF.sl57 rfl ?_)
   refine r_move rfl rfl ?_
   refine awl_nil ?_
   refine x_then ?_
   refine awp_block ?_
   refine awp_loop (fun nn0 S => ∃ k : Nat, S = ⟨111, [(5, .a (.cp [.v (.map (some bx))])), (6, .a (.cp [.v (.map (some by_))])), (8, .a (.v (.slice (some ⟨g2, 0, none⟩) came.length cap))), (9, .own 9 4 (((out ++ gone) ++ ((namesF a).take k).filterMap (chgF a b)).map FC.cs)), (65, .a (strsA (namesF a))), (66, .a (.v (.int .i64 (((namesF a).map (fun s : ByteArray => [AV.v (.string s)])).length)))), (67, .a (.v (.int .i64 ((k : Int)))))], [⟨g2, true, .box (strsC came ++ ext)⟩, ⟨bx, true, .map (encM Value.string bts mx)⟩, ⟨by_, true, .map (encM Value.string bts my)⟩]⟩ ∧ nn0 = (namesF a).length - k ∧ (k ≤ (namesF a).length)) ((namesF a).length - (0)) ⟨111, [(5, .a (.cp [.v (.map (some bx))])), (6, .a (.cp [.v (.map (some by_))])), (8, .a (.v (.slice (some ⟨g2, 0, none⟩) came.length cap))), (9, .own 9 4 (((out ++ gone) ++ ((namesF a).take (0)).filterMap (chgF a b)).map FC.cs)), (65, .a (strsA (namesF a))), (66, .a (.v (.int .i64 (((namesF a).map (fun s : ByteArray => [AV.v (.string s)])).length)))), (67, .a (.v (.int .i64 (((0) : Int)))))], [⟨g2, true, .box (strsC came ++ ext)⟩, ⟨bx, true, .map (encM Value.string bts mx)⟩, ⟨by_, true, .map (encM Value.string bts my)⟩]⟩ ⟨rfl, (Slots.cons rfl (by first | exact .refl _ | exact .nilOwn _ _ | exact .nilSl _ | exact .ownSl _ _ _  | exact SV.le.ownEq (by simp [chunks]) | exact SV.le.of_eq (by simp [chunks])) (Slots.cons rfl (by first | exact .refl _ | exact .nilOwn _ _ | exact .nilSl _ | exact .ownSl _ _ _  | exact SV.le.ownEq (by simp [chunks]) | exact SV.le.of_eq (by simp [chunks])) (Slots.cons rfl (by first | exact .refl _ | exact .nilOwn _ _ | exact .nilSl _ | exact .ownSl _ _ _  | exact SV.le.ownEq (by simp [chunks]) | exact SV.le.of_eq (by simp [chunks])) (Slots.cons rfl (by first | exact .refl _ | exact .nilOwn _ _ | exact .nilSl _ | exact .ownSl _ _ _  | exact SV.le.ownEq (by simp [chunks]) | exact SV.le.of_eq (by simp [chunks])) (Slots.cons rfl (by first | exact .refl _ | exact .nilOwn _ _ | exact .nilSl _ | exact .ownSl _ _ _  | exact SV.le.ownEq (by simp [chunks]) | exact SV.le.of_eq (by simp [chunks])) (Slots.cons rfl (by first | exact .refl _ | exact .nilOwn _ _ | exact .nilSl _ | exact .ownSl _ _ _  | exact SV.le.ownEq (by simp [chunks]) | exact SV.le.of_eq (by simp [chunks])) (Slots.cons rfl (by first | exact .refl _ | exact .nilOwn _ _ | exact .nilSl _ | exact .ownSl _ _ _  | exact SV.le.ownEq (by simp [chunks]) | exact SV.le.of_eq (by simp [chunks])) Slots.nil))))))), (by first | exact List.Sublist.refl _ | exact .cons_cons _ (.cons _ (.refl _)) | exact List.nil_sublist _ | exact .cons _ (.refl _) | exact .cons _ (.cons _ (.refl _)) | exact .cons _ (.cons _ (.cons _ (.refl _))) | exact .cons _ (.cons _ (.cons _ (.cons _ (.refl _)))) | exact .cons_cons _ (List.nil_sublist _))⟩ ⟨0, rfl, rfl, Nat.zero_le _⟩ ?_
   rintro nn0 _ ⟨k, rfl, rfl, hk1⟩
   refine awp_seq ?_
   refine awp_region ?_
   refine r_cmp rfl rfl rfl rfl ?_
   refine awl_nil ?_
   refine x_then ?_
   refine awp_seq ?_
   refine awp_cond rfl (fun hc2 => ?_) (fun hc2 => ?_)
   ·
    have hltx : k < (namesF a).length := by have := of_decide_eq_true hc2; simpa using this
    obtain ⟨x, hx⟩ := get_lt hltx
    have hf1 : (((namesF a).take k).filterMap (chgF a b)).length ≤ k := Nat.le_trans (List.length_filterMap_le _ _) (by simp; omega)
    refine awp_skip ?_
    refine x_then ?_
    refine awp_seq ?_
    refine awp_block ?_
    refine awp_seq ?_
    refine awp_region ?_
    refine r_index rfl rfl rfl TF.sl57 TF.sz9 (by omega) (get_map hx) rfl ?_
    first | (refine r_load1 rfl TF.agg9 rfl ?_) | (refine r_load1b 0 rfl rfl rfl TF.agg9 rfl ?_) | (refine r_load1b 1 rfl rfl rfl TF.agg9 rfl ?_) | (refine r_load1b 2 rfl rfl rfl TF.agg9 rfl ?_)
    refine r_assign rfl rfl ?_
    refine awl_nil ?_
    refine x_then ?_
    refine awp_seq ?_
    refine awp_region ?_
    first | (refine r_load1 rfl TF.agg55 rfl ?_) | (refine r_load1b 0 rfl rfl rfl TF.agg55 rfl ?_) | (refine r_load1b 1 rfl rfl rfl TF.agg55 rfl ?_) | (refine r_load1b 2 rfl rfl rfl TF.agg55 rfl ?_)
    refine r_move rfl rfl ?_
    first | (refine r_lookupOk 0 (keyEnc_string TF.un9) (ev := bts) [] rfl rfl rfl TF.map55 TF.zavS rfl ?_) | (refine r_lookupOk 1 (keyEnc_string TF.un9) (ev := bts) [] rfl rfl rfl TF.map55 TF.zavS rfl ?_) | (refine r_lookupOk 2 (keyEnc_string TF.un9) (ev := bts) [] rfl rfl rfl TF.map55 TF.zavS rfl ?_)
    refine r_move rfl rfl ?_
    refine r_extract rfl rfl rfl ?_
    refine r_extract rfl rfl rfl ?_
    refine r_assign rfl rfl ?_
    refine r_assign rfl rfl ?_
    refine awl_nil ?_
    refine x_then ?_
    refine awp_seq ?_
    refine awp_region ?_
    refine r_move rfl rfl ?_
    refine r_move rfl rfl ?_
    refine g_cases (t' := 78) rfl (fun hg78 => ?_) (fun hg78 => ?_)
    ·
     obtain ⟨d, hdq⟩ : ∃ d, mget my x = some d := Option.isSome_iff_exists.1 hg78
     have hq2 : lookF b x = some d := by rw [← hty.get, hdq]
     refine g_run rfl rfl hg78 ?_
     first | (refine r_load1 rfl TF.agg55 rfl ?_) | (refine r_load1b 0 rfl rfl rfl TF.agg55 rfl ?_) | (refine r_load1b 1 rfl rfl rfl TF.agg55 rfl ?_) | (refine r_load1b 2 rfl rfl rfl TF.agg55 rfl ?_)
     refine g_run rfl rfl hg78 ?_
     refine r_move rfl rfl ?_
     refine g_run rfl rfl hg78 ?_
     first | (refine r_lookup 0 (keyEnc_string TF.un9) (ev := bts) [] rfl rfl rfl TF.map55 TF.zavS rfl ?_) | (refine r_lookup 1 (keyEnc_string TF.un9) (ev := bts) [] rfl rfl rfl TF.map55 TF.zavS rfl ?_) | (refine r_lookup 2 (keyEnc_string TF.un9) (ev := bts) [] rfl rfl rfl TF.map55 TF.zavS rfl ?_)
     refine g_run rfl rfl hg78 ?_
     refine r_move rfl rfl ?_
     refine g_run rfl rfl hg78 ?_
     refine r_call0 hq rfl rfl (.cons (.ev rfl rfl) (.cons (.ev rfl rfl) .nil)) (equal_ok _ _) rfl TF.en27 rfl (fun r hr => ?_)
     obtain rfl := hr
     refine g_run rfl rfl hg78 ?_
     refine r_not rfl rfl ?_
     refine r_pickT rfl hg78 rfl rfl ?_
     refine awl_nil ?_
     refine x_then ?_
     refine awp_cond rfl (fun hc3 => ?_) (fun hc3 => ?_)
     ·
      rw [hdq] at hc3 ⊢
      have hne : decide ((lookF a x).getD [] = d) = false := by rw [← htx.get]; simpa using hc3
      have ht : chgF a b x = some ⟨3, x, E0, d⟩ := by rw [chgF, hq2]; simp only [hne, cond_false]
      have hdl : d.length ≤ 1000000 := by have := look_len hdb x; rw [hq2] at this; simpa using this
      refine awp_region ?_
      refine r_move rfl rfl ?_
      refine r_move rfl rfl ?_
      refine r_move rfl rfl ?_
      refine r_call0 hq rfl rfl (.cons (.ev rfl rfl) .nil) (clone_ok d hdl) rfl TF.en30 rfl (fun r hr => ?_)
      obtain rfl := hr
      refine r_build (parts := [(0, .const ((Go.Value.int Go.IntKind.i64 3))), (1, .tmp 87), (3, .tmp 89)]) rfl TF.pl50 TF.zero50 rfl rfl rfl ?_
      refine r_lit 91 (parts := [(0, .tmp 90)]) rfl TF.sl28 TF.sz50 TF.zraw50 rfl rfl rfl rfl rfl rfl rfl ?_
      refine r_append 9 rfl (by first | exact .own _ | exact .nil) rfl (by first | exact .sl _ | exact .own _ _ | exact .nil) TF.sl28 TF.sz50 (by decide) TF.by50 TF.zlen50 (by simp [chunks] <;> omega) (by simp [chunks] <;> omega) rfl ?_
      refine r_assign rfl rfl ?_
      refine awl_nil ?_
      refine x_block ?_
      refine x_then ?_
      refine awp_region ?_
      refine r_ari _ rfl rfl rfl (wrap_id (by first | omega | (simp; omega))) rfl ?_
      refine r_move rfl rfl ?_
      refine awl_nil ?_
      refine x_then ?_
      have et := fmS_step (f := chgF a b) hx
      rw [ht] at et
      simp only [Option.toList_some, Option.toList_none, List.append_nil] at et
      refine ⟨(namesF a).length - (k + 1), ⟨111, [(5, .a (.cp [.v (.map (some bx))])), (6, .a (.cp [.v (.map (some by_))])), (8, .a (.v (.slice (some ⟨g2, 0, none⟩) came.length cap))), (9, .own 9 4 (((out ++ gone) ++ ((namesF a).take (k + 1)).filterMap (chgF a b)).map FC.cs)), (65, .a (strsA (namesF a))), (66, .a (.v (.int .i64 (((namesF a).map (fun s : ByteArray => [AV.v (.string s)])).length)))), (67, .a (.v (.int .i64 (((k + 1) : Int)))))], [⟨g2, true, .box (strsC came ++ ext)⟩, ⟨bx, true, .map (encM Value.string bts mx)⟩, ⟨by_, true, .map (encM Value.string bts my)⟩]⟩, ⟨rfl, (Slots.cons rfl (by first | exact .refl _ | exact .nilOwn _ _ | exact .nilSl _ | exact .ownSl _ _ _  | exact SV.le.ownEq (by first | rfl | (rw [et, ← List.append_assoc (out ++ gone), List.map_append (l₁ := ((out ++ gone) ++ ((namesF a).take k).filterMap (chgF a b)))]; rfl) | (rw [et]; first | done | rfl)) | exact SV.le.of_eq (by first | rfl | (rw [et, ← List.append_assoc (out ++ gone), List.map_append (l₁ := ((out ++ gone) ++ ((namesF a).take k).filterMap (chgF a b)))]; rfl) | (rw [et]; first | done | rfl))) (Slots.cons rfl (by first | exact .refl _ | exact .nilOwn _ _ | exact .nilSl _ | exact .ownSl _ _ _  | exact SV.le.ownEq (by first | rfl | (rw [et, ← List.append_assoc (out ++ gone), List.map_append (l₁ := ((out ++ gone) ++ ((namesF a).take k).filterMap (chgF a b)))]; rfl) | (rw [et]; first | done | rfl)) | exact SV.le.of_eq (by first | rfl | (rw [et, ← List.append_assoc (out ++ gone), List.map_append (l₁ := ((out ++ gone) ++ ((namesF a).take k).filterMap (chgF a b)))]; rfl) | (rw [et]; first | done | rfl))) (Slots.cons rfl (by first | exact .refl _ | exact .nilOwn _ _ | exact .nilSl _ | exact .ownSl _ _ _  | exact SV.le.ownEq (by first | rfl | (rw [et, ← List.append_assoc (out ++ gone), List.map_append (l₁ := ((out ++ gone) ++ ((namesF a).take k).filterMap (chgF a b)))]; rfl) | (rw [et]; first | done | rfl)) | exact SV.le.of_eq (by first | rfl | (rw [et, ← List.append_assoc (out ++ gone), List.map_append (l₁ := ((out ++ gone) ++ ((namesF a).take k).filterMap (chgF a b)))]; rfl) | (rw [et]; first | done | rfl))) (Slots.cons rfl (by first | exact .refl _ | exact .nilOwn _ _ | exact .nilSl _ | exact .ownSl _ _ _  | exact SV.le.ownEq (by first | rfl | (rw [et, ← List.append_assoc (out ++ gone), List.map_append (l₁ := ((out ++ gone) ++ ((namesF a).take k).filterMap (chgF a b)))]; rfl) | (rw [et]; first | done | rfl)) | exact SV.le.of_eq (by first | rfl | (rw [et, ← List.append_assoc (out ++ gone), List.map_append (l₁ := ((out ++ gone) ++ ((namesF a).take k).filterMap (chgF a b)))]; rfl) | (rw [et]; first | done | rfl))) (Slots.cons rfl (by first | exact .refl _ | exact .nilOwn _ _ | exact .nilSl _ | exact .ownSl _ _ _  | exact SV.le.ownEq (by first | rfl | (rw [et, ← List.append_assoc (out ++ gone), List.map_append (l₁ := ((out ++ gone) ++ ((namesF a).take k).filterMap (chgF a b)))]; rfl) | (rw [et]; first | done | rfl)) | exact SV.le.of_eq (by first | rfl | (rw [et, ← List.append_assoc (out ++ gone), List.map_append (l₁ := ((out ++ gone) ++ ((namesF a).take k).filterMap (chgF a b)))]; rfl) | (rw [et]; first | done | rfl))) (Slots.cons rfl (by first | exact .refl _ | exact .nilOwn _ _ | exact .nilSl _ | exact .ownSl _ _ _  | exact SV.le.ownEq (by first | rfl | (rw [et, ← List.append_assoc (out ++ gone), List.map_append (l₁ := ((out ++ gone) ++ ((namesF a).take k).filterMap (chgF a b)))]; rfl) | (rw [et]; first | done | rfl)) | exact SV.le.of_eq (by first | rfl | (rw [et, ← List.append_assoc (out ++ gone), List.map_append (l₁ := ((out ++ gone) ++ ((namesF a).take k).filterMap (chgF a b)))]; rfl) | (rw [et]; first | done | rfl))) (Slots.cons rfl (by first | exact .refl _ | exact .nilOwn _ _ | exact .nilSl _ | exact .ownSl _ _ _  | exact SV.le.ownEq (by first | rfl | (rw [et, ← List.append_assoc (out ++ gone), List.map_append (l₁ := ((out ++ gone) ++ ((namesF a).take k).filterMap (chgF a b)))]; rfl) | (rw [et]; first | done | rfl)) | exact SV.le.of_eq (by first | rfl | (rw [et, ← List.append_assoc (out ++ gone), List.map_append (l₁ := ((out ++ gone) ++ ((namesF a).take k).filterMap (chgF a b)))]; rfl) | (rw [et]; first | done | rfl))) Slots.nil))))))), (by first | exact List.Sublist.refl _ | exact .cons_cons _ (.cons _ (.refl _)) | exact List.nil_sublist _ | exact .cons _ (.refl _) | exact .cons _ (.cons _ (.refl _)) | exact .cons _ (.cons _ (.cons _ (.refl _))) | exact .cons _ (.cons _ (.cons _ (.cons _ (.refl _)))) | exact .cons_cons _ (List.nil_sublist _))⟩, (by omega), ⟨k + 1, rfl, rfl, (by omega)⟩⟩
     ·
      rw [hdq] at hc3
      have hne : decide ((lookF a x).getD [] = d) = true := by rw [← htx.get]; simpa using hc3
      have ht : chgF a b x = none := by rw [chgF, hq2]; simp only [hne, cond_true]
      refine awp_skip ?_
      refine x_block ?_
      refine x_then ?_
      refine awp_region ?_
      refine r_ari _ rfl rfl rfl (wrap_id (by first | omega | (simp; omega))) rfl ?_
      refine r_move rfl rfl ?_
      refine awl_nil ?_
      refine x_then ?_
      have et := fmS_step (f := chgF a b) hx
      rw [ht] at et
      simp only [Option.toList_some, Option.toList_none, List.append_nil] at et
      refine ⟨(namesF a).length - (k + 1), ⟨111, [(5, .a (.cp [.v (.map (some bx))])), (6, .a (.cp [.v (.map (some by_))])), (8, .a (.v (.slice (some ⟨g2, 0, none⟩) came.length cap))), (9, .own 9 4 (((out ++ gone) ++ ((namesF a).take (k + 1)).filterMap (chgF a b)).map FC.cs)), (65, .a (strsA (namesF a))), (66, .a (.v (.int .i64 (((namesF a).map (fun s : ByteArray => [AV.v (.string s)])).length)))), (67, .a (.v (.int .i64 (((k + 1) : Int)))))], [⟨g2, true, .box (strsC came ++ ext)⟩, ⟨bx, true, .map (encM Value.string bts mx)⟩, ⟨by_, true, .map (encM Value.string bts my)⟩]⟩, ⟨rfl, (Slots.cons rfl (by first | exact .refl _ | exact .nilOwn _ _ | exact .nilSl _ | exact .ownSl _ _ _  | exact SV.le.ownEq (by first | rfl | (rw [et, ← List.append_assoc (out ++ gone), List.map_append (l₁ := ((out ++ gone) ++ ((namesF a).take k).filterMap (chgF a b)))]; rfl) | (rw [et]; first | done | rfl)) | exact SV.le.of_eq (by first | rfl | (rw [et, ← List.append_assoc (out ++ gone), List.map_append (l₁ := ((out ++ gone) ++ ((namesF a).take k).filterMap (chgF a b)))]; rfl) | (rw [et]; first | done | rfl))) (Slots.cons rfl (by first | exact .refl _ | exact .nilOwn _ _ | exact .nilSl _ | exact .ownSl _ _ _  | exact SV.le.ownEq (by first | rfl | (rw [et, ← List.append_assoc (out ++ gone), List.map_append (l₁ := ((out ++ gone) ++ ((namesF a).take k).filterMap (chgF a b)))]; rfl) | (rw [et]; first | done | rfl)) | exact SV.le.of_eq (by first | rfl | (rw [et, ← List.append_assoc (out ++ gone), List.map_append (l₁ := ((out ++ gone) ++ ((namesF a).take k).filterMap (chgF a b)))]; rfl) | (rw [et]; first | done | rfl))) (Slots.cons rfl (by first | exact .refl _ | exact .nilOwn _ _ | exact .nilSl _ | exact .ownSl _ _ _  | exact SV.le.ownEq (by first | rfl | (rw [et, ← List.append_assoc (out ++ gone), List.map_append (l₁ := ((out ++ gone) ++ ((namesF a).take k).filterMap (chgF a b)))]; rfl) | (rw [et]; first | done | rfl)) | exact SV.le.of_eq (by first | rfl | (rw [et, ← List.append_assoc (out ++ gone), List.map_append (l₁ := ((out ++ gone) ++ ((namesF a).take k).filterMap (chgF a b)))]; rfl) | (rw [et]; first | done | rfl))) (Slots.cons rfl (by first | exact .refl _ | exact .nilOwn _ _ | exact .nilSl _ | exact .ownSl _ _ _  | exact SV.le.ownEq (by first | rfl | (rw [et, ← List.append_assoc (out ++ gone), List.map_append (l₁ := ((out ++ gone) ++ ((namesF a).take k).filterMap (chgF a b)))]; rfl) | (rw [et]; first | done | rfl)) | exact SV.le.of_eq (by first | rfl | (rw [et, ← List.append_assoc (out ++ gone), List.map_append (l₁ := ((out ++ gone) ++ ((namesF a).take k).filterMap (chgF a b)))]; rfl) | (rw [et]; first | done | rfl))) (Slots.cons rfl (by first | exact .refl _ | exact .nilOwn _ _ | exact .nilSl _ | exact .ownSl _ _ _  | exact SV.le.ownEq (by first | rfl | (rw [et, ← List.append_assoc (out ++ gone), List.map_append (l₁ := ((out ++ gone) ++ ((namesF a).take k).filterMap (chgF a b)))]; rfl) | (rw [et]; first | done | rfl)) | exact SV.le.of_eq (by first | rfl | (rw [et, ← List.append_assoc (out ++ gone), List.map_append (l₁ := ((out ++ gone) ++ ((namesF a).take k).filterMap (chgF a b)))]; rfl) | (rw [et]; first | done | rfl))) (Slots.cons rfl (by first | exact .refl _ | exact .nilOwn _ _ | exact .nilSl _ | exact .ownSl _ _ _  | exact SV.le.ownEq (by first | rfl | (rw [et, ← List.append_assoc (out ++ gone), List.map_append (l₁ := ((out ++ gone) ++ ((namesF a).take k).filterMap (chgF a b)))]; rfl) | (rw [et]; first | done | rfl)) | exact SV.le.of_eq (by first | rfl | (rw [et, ← List.append_assoc (out ++ gone), List.map_append (l₁ := ((out ++ gone) ++ ((namesF a).take k).filterMap (chgF a b)))]; rfl) | (rw [et]; first | done | rfl))) (Slots.cons rfl (by first | exact .refl _ | exact .nilOwn _ _ | exact .nilSl _ | exact .ownSl _ _ _  | exact SV.le.ownEq (by first | rfl | (rw [et, ← List.append_assoc (out ++ gone), List.map_append (l₁ := ((out ++ gone) ++ ((namesF a).take k).filterMap (chgF a b)))]; rfl) | (rw [et]; first | done | rfl)) | exact SV.le.of_eq (by first | rfl | (rw [et, ← List.append_assoc (out ++ gone), List.map_append (l₁ := ((out ++ gone) ++ ((namesF a).take k).filterMap (chgF a b)))]; rfl) | (rw [et]; first | done | rfl))) Slots.nil))))))), (by first | exact List.Sublist.refl _ | exact .cons_cons _ (.cons _ (.refl _)) | exact List.nil_sublist _ | exact .cons _ (.refl _) | exact .cons _ (.cons _ (.refl _)) | exact .cons _ (.cons _ (.cons _ (.refl _))) | exact .cons _ (.cons _ (.cons _ (.cons _ (.refl _)))) | exact .cons_cons _ (List.nil_sublist _))⟩, (by omega), ⟨k + 1, rfl, rfl, (by omega)⟩⟩
    ·
     have hq2 : lookF b x = none := by
      rw [← hty.get]
      cases h : mget my x with
      | none => rfl
      | some d => rw [h] at hg78; cases hg78
     have ht : chgF a b x = none := by rw [chgF, hq2]
     refine g_skip rfl rfl hg78 rfl ?_
     refine g_skip rfl rfl hg78 rfl ?_
     refine g_skip rfl rfl hg78 rfl ?_
     refine g_skip rfl rfl hg78 rfl ?_
     refine g_skip rfl rfl hg78 rfl ?_
     refine g_skip rfl rfl hg78 rfl ?_
     refine r_pickF rfl hg78 rfl rfl ?_
     refine awl_nil ?_
     refine x_then ?_
     refine awp_condF rfl ?_
     refine awp_skip ?_
     refine x_block ?_
     refine x_then ?_
     refine awp_region ?_
     refine r_ari _ rfl rfl rfl (wrap_id (by first | omega | (simp; omega))) rfl ?_
     refine r_move rfl rfl ?_
     refine awl_nil ?_
     refine x_then ?_
     have et := fmS_step (f := chgF a b) hx
     rw [ht] at et
     simp only [Option.toList_some, Option.toList_none, List.append_nil] at et
     refine ⟨(namesF a).length - (k + 1), ⟨111, [(5, .a (.cp [.v (.map (some bx))])), (6, .a (.cp [.v (.map (some by_))])), (8, .a (.v (.slice (some ⟨g2, 0, none⟩) came.length cap))), (9, .own 9 4 (((out ++ gone) ++ ((namesF a).take (k + 1)).filterMap (chgF a b)).map FC.cs)), (65, .a (strsA (namesF a))), (66, .a (.v (.int .i64 (((namesF a).map (fun s : ByteArray => [AV.v (.string s)])).length)))), (67, .a (.v (.int .i64 (((k + 1) : Int)))))], [⟨g2, true, .box (strsC came ++ ext)⟩, ⟨bx, true, .map (encM Value.string bts mx)⟩, ⟨by_, true, .map (encM Value.string bts my)⟩]⟩, ⟨rfl, (Slots.cons rfl (by first | exact .refl _ | exact .nilOwn _ _ | exact .nilSl _ | exact .ownSl _ _ _  | exact SV.le.ownEq (by first | rfl | (rw [et, ← List.append_assoc (out ++ gone), List.map_append (l₁ := ((out ++ gone) ++ ((namesF a).take k).filterMap (chgF a b)))]; rfl) | (rw [et]; first | done | rfl)) | exact SV.le.of_eq (by first | rfl | (rw [et, ← List.append_assoc (out ++ gone), List.map_append (l₁ := ((out ++ gone) ++ ((namesF a).take k).filterMap (chgF a b)))]; rfl) | (rw [et]; first | done | rfl))) (Slots.cons rfl (by first | exact .refl _ | exact .nilOwn _ _ | exact .nilSl _ | exact .ownSl _ _ _  | exact SV.le.ownEq (by first | rfl | (rw [et, ← List.append_assoc (out ++ gone), List.map_append (l₁ := ((out ++ gone) ++ ((namesF a).take k).filterMap (chgF a b)))]; rfl) | (rw [et]; first | done | rfl)) | exact SV.le.of_eq (by first | rfl | (rw [et, ← List.append_assoc (out ++ gone), List.map_append (l₁ := ((out ++ gone) ++ ((namesF a).take k).filterMap (chgF a b)))]; rfl) | (rw [et]; first | done | rfl))) (Slots.cons rfl (by first | exact .refl _ | exact .nilOwn _ _ | exact .nilSl _ | exact .ownSl _ _ _  | exact SV.le.ownEq (by first | rfl | (rw [et, ← List.append_assoc (out ++ gone), List.map_append (l₁ := ((out ++ gone) ++ ((namesF a).take k).filterMap (chgF a b)))]; rfl) | (rw [et]; first | done | rfl)) | exact SV.le.of_eq (by first | rfl | (rw [et, ← List.append_assoc (out ++ gone), List.map_append (l₁ := ((out ++ gone) ++ ((namesF a).take k).filterMap (chgF a b)))]; rfl) | (rw [et]; first | done | rfl))) (Slots.cons rfl (by first | exact .refl _ | exact .nilOwn _ _ | exact .nilSl _ | exact .ownSl _ _ _  | exact SV.le.ownEq (by first | rfl | (rw [et, ← List.append_assoc (out ++ gone), List.map_append (l₁ := ((out ++ gone) ++ ((namesF a).take k).filterMap (chgF a b)))]; rfl) | (rw [et]; first | done | rfl)) | exact SV.le.of_eq (by first | rfl | (rw [et, ← List.append_assoc (out ++ gone), List.map_append (l₁ := ((out ++ gone) ++ ((namesF a).take k).filterMap (chgF a b)))]; rfl) | (rw [et]; first | done | rfl))) (Slots.cons rfl (by first | exact .refl _ | exact .nilOwn _ _ | exact .nilSl _ | exact .ownSl _ _ _  | exact SV.le.ownEq (by first | rfl | (rw [et, ← List.append_assoc (out ++ gone), List.map_append (l₁ := ((out ++ gone) ++ ((namesF a).take k).filterMap (chgF a b)))]; rfl) | (rw [et]; first | done | rfl)) | exact SV.le.of_eq (by first | rfl | (rw [et, ← List.append_assoc (out ++ gone), List.map_append (l₁ := ((out ++ gone) ++ ((namesF a).take k).filterMap (chgF a b)))]; rfl) | (rw [et]; first | done | rfl))) (Slots.cons rfl (by first | exact .refl _ | exact .nilOwn _ _ | exact .nilSl _ | exact .ownSl _ _ _  | exact SV.le.ownEq (by first | rfl | (rw [et, ← List.append_assoc (out ++ gone), List.map_append (l₁ := ((out ++ gone) ++ ((namesF a).take k).filterMap (chgF a b)))]; rfl) | (rw [et]; first | done | rfl)) | exact SV.le.of_eq (by first | rfl | (rw [et, ← List.append_assoc (out ++ gone), List.map_append (l₁ := ((out ++ gone) ++ ((namesF a).take k).filterMap (chgF a b)))]; rfl) | (rw [et]; first | done | rfl))) (Slots.cons rfl (by first | exact .refl _ | exact .nilOwn _ _ | exact .nilSl _ | exact .ownSl _ _ _  | exact SV.le.ownEq (by first | rfl | (rw [et, ← List.append_assoc (out ++ gone), List.map_append (l₁ := ((out ++ gone) ++ ((namesF a).take k).filterMap (chgF a b)))]; rfl) | (rw [et]; first | done | rfl)) | exact SV.le.of_eq (by first | rfl | (rw [et, ← List.append_assoc (out ++ gone), List.map_append (l₁ := ((out ++ gone) ++ ((namesF a).take k).filterMap (chgF a b)))]; rfl) | (rw [et]; first | done | rfl))) Slots.nil))))))), (by first | exact List.Sublist.refl _ | exact .cons_cons _ (.cons _ (.refl _)) | exact List.nil_sublist _ | exact .cons _ (.refl _) | exact .cons _ (.cons _ (.refl _)) | exact .cons _ (.cons _ (.cons _ (.refl _))) | exact .cons _ (.cons _ (.cons _ (.cons _ (.refl _)))) | exact .cons_cons _ (List.nil_sublist _))⟩, (by omega), ⟨k + 1, rfl, rfl, (by omega)⟩⟩
   ·
    have hge : (namesF a).length ≤ k := by have := of_decide_eq_false hc2; simp at this; omega
    have hkl : (namesF a).take k = namesF a := List.take_of_length_le hge
    rw [hkl]
    have hf2 : ((namesF a).filterMap (chgF a b)).length ≤ (namesF a).length := List.length_filterMap_le _ _
    refine awp_exit ?_
    refine x_thenE ?_
    refine x_thenE ?_
    refine x_blockE ?_
    refine x_then ?_
    refine awp_seq ?_
    refine awp_seq ?_
    refine awp_region ?_
    refine r_move rfl rfl ?_
    first | (refine r_lenS rfl rfl TF.sl57 rfl ?_) | (refine r_lenNil rfl TF.sl57 rfl ?_) | (refine r_lenV rfl TF.sl57 rfl ?_)
    refine r_move rfl rfl ?_
    refine awl_nil ?_
    refine x_then ?_
    refine awp_block ?_
    refine awp_loop (fun nn0 S => ∃ k : Nat, S = ⟨111, [(6, .a (.cp [.v (.map (some by_))])), (9, .own 9 4 (((out ++ gone) ++ (namesF a).filterMap (chgF a b) ++ (came.take k).map (addF b)).map FC.cs)), (94, .a (.v (.slice (some ⟨g2, 0, none⟩) came.length cap))), (95, .a (.v (.int .i64 (came.length)))), (96, .a (.v (.int .i64 ((k : Int)))))], [⟨g2, true, .box (strsC came ++ ext)⟩, ⟨bx, true, .map (encM Value.string bts mx)⟩, ⟨by_, true, .map (encM Value.string bts my)⟩]⟩ ∧ nn0 = came.length - k ∧ (k ≤ came.length)) (came.length - (0)) ⟨111, [(6, .a (.cp [.v (.map (some by_))])), (9, .own 9 4 (((out ++ gone) ++ (namesF a).filterMap (chgF a b) ++ (came.take (0)).map (addF b)).map FC.cs)), (94, .a (.v (.slice (some ⟨g2, 0, none⟩) came.length cap))), (95, .a (.v (.int .i64 (came.length)))), (96, .a (.v (.int .i64 (((0) : Int)))))], [⟨g2, true, .box (strsC came ++ ext)⟩, ⟨bx, true, .map (encM Value.string bts mx)⟩, ⟨by_, true, .map (encM Value.string bts my)⟩]⟩ ⟨rfl, (Slots.cons rfl (by first | exact .refl _ | exact .nilOwn _ _ | exact .nilSl _ | exact .ownSl _ _ _  | exact SV.le.ownEq (by simp) | exact SV.le.of_eq (by simp)) (Slots.cons rfl (by first | exact .refl _ | exact .nilOwn _ _ | exact .nilSl _ | exact .ownSl _ _ _  | exact SV.le.ownEq (by simp) | exact SV.le.of_eq (by simp)) (Slots.cons rfl (by first | exact .refl _ | exact .nilOwn _ _ | exact .nilSl _ | exact .ownSl _ _ _  | exact SV.le.ownEq (by simp) | exact SV.le.of_eq (by simp)) (Slots.cons rfl (by first | exact .refl _ | exact .nilOwn _ _ | exact .nilSl _ | exact .ownSl _ _ _  | exact SV.le.ownEq (by simp) | exact SV.le.of_eq (by simp)) (Slots.cons rfl (by first | exact .refl _ | exact .nilOwn _ _ | exact .nilSl _ | exact .ownSl _ _ _  | exact SV.le.ownEq (by simp) | exact SV.le.of_eq (by simp)) Slots.nil))))), (by first | exact List.Sublist.refl _ | exact .cons_cons _ (.cons _ (.refl _)) | exact List.nil_sublist _ | exact .cons _ (.refl _) | exact .cons _ (.cons _ (.refl _)) | exact .cons _ (.cons _ (.cons _ (.refl _))) | exact .cons _ (.cons _ (.cons _ (.cons _ (.refl _)))) | exact .cons_cons _ (List.nil_sublist _))⟩ ⟨0, rfl, rfl, Nat.zero_le _⟩ ?_
    rintro nn0 _ ⟨k, rfl, rfl, hk2⟩
    refine awp_seq ?_
    refine awp_region ?_
    refine r_cmp rfl rfl rfl rfl ?_
    refine awl_nil ?_
    refine x_then ?_
    refine awp_seq ?_
    refine awp_cond rfl (fun hc4 => ?_) (fun hc4 => ?_)
    ·
     have hltx : k < came.length := by have := of_decide_eq_true hc4; simpa using this
     obtain ⟨x, hx⟩ := get_lt hltx
     refine awp_skip ?_
     refine x_then ?_
     refine awp_seq ?_
     refine awp_block ?_
     refine awp_seq ?_
     refine awp_region ?_
     refine r_indexV rfl rfl TF.sl57 TF.sz9 (by omega) (by omega) rfl ?_
     refine r_load1b 0 rfl rfl (str_at hx) TF.agg9 rfl ?_
     refine r_assign rfl rfl ?_
     refine awl_nil ?_
     refine x_then ?_
     refine awp_region ?_
     refine r_move rfl rfl ?_
     refine r_move rfl rfl ?_
     first | (refine r_load1 rfl TF.agg55 rfl ?_) | (refine r_load1b 0 rfl rfl rfl TF.agg55 rfl ?_) | (refine r_load1b 1 rfl rfl rfl TF.agg55 rfl ?_) | (refine r_load1b 2 rfl rfl rfl TF.agg55 rfl ?_)
     refine r_move rfl rfl ?_
     first | (refine r_lookup 0 (keyEnc_string TF.un9) (ev := bts) [] rfl rfl rfl TF.map55 TF.zavS rfl ?_) | (refine r_lookup 1 (keyEnc_string TF.un9) (ev := bts) [] rfl rfl rfl TF.map55 TF.zavS rfl ?_) | (refine r_lookup 2 (keyEnc_string TF.un9) (ev := bts) [] rfl rfl rfl TF.map55 TF.zavS rfl ?_)
     refine r_call0 hq rfl rfl (.cons (.ev rfl rfl) .nil) (clone_ok _ (by rw [hty.get]; exact look_len hdb x)) rfl TF.en30 rfl (fun r hr => ?_)
     obtain rfl := hr
     refine r_build (parts := [(0, .const ((Go.Value.int Go.IntKind.i64 1))), (1, .tmp 101), (3, .tmp 105)]) rfl TF.pl50 TF.zero50 rfl rfl rfl ?_
     refine r_lit 107 (parts := [(0, .tmp 106)]) rfl TF.sl28 TF.sz50 TF.zraw50 rfl rfl rfl rfl rfl rfl rfl ?_
     refine r_append 9 rfl (by first | exact .own _ | exact .nil) rfl (by first | exact .sl _ | exact .own _ _ | exact .nil) TF.sl28 TF.sz50 (by decide) TF.by50 TF.zlen50 (by simp [chunks] <;> omega) (by simp [chunks] <;> omega) rfl ?_
     refine r_assign rfl rfl ?_
     refine awl_nil ?_
     refine x_block ?_
     refine x_then ?_
     refine awp_region ?_
     refine r_ari _ rfl rfl rfl (wrap_id (by first | omega | (simp; omega))) rfl ?_
     refine r_move rfl rfl ?_
     refine awl_nil ?_
     refine x_then ?_
     have et : (((out ++ gone) ++ (namesF a).filterMap (chgF a b) ++ (came.take (k + 1)).map (addF b))).map FC.cs = (((out ++ gone) ++ (namesF a).filterMap (chgF a b) ++ (came.take k).map (addF b))).map FC.cs ++ [[.v (.int .i64 1), .v (.string x), .v (.string E0), bts ((mget my x).getD [])]] := by rw [hty.get, map_take hx, ← List.append_assoc, List.map_append]; rfl
     refine ⟨came.length - (k + 1), ⟨111, [(6, .a (.cp [.v (.map (some by_))])), (9, .own 9 4 (((out ++ gone) ++ (namesF a).filterMap (chgF a b) ++ (came.take (k + 1)).map (addF b)).map FC.cs)), (94, .a (.v (.slice (some ⟨g2, 0, none⟩) came.length cap))), (95, .a (.v (.int .i64 (came.length)))), (96, .a (.v (.int .i64 (((k + 1) : Int)))))], [⟨g2, true, .box (strsC came ++ ext)⟩, ⟨bx, true, .map (encM Value.string bts mx)⟩, ⟨by_, true, .map (encM Value.string bts my)⟩]⟩, ⟨rfl, (Slots.cons rfl (by first | exact .refl _ | exact .nilOwn _ _ | exact .nilSl _ | exact .ownSl _ _ _  | exact SV.le.ownEq (by first | rfl | (rw [et]; rfl)) | exact SV.le.of_eq (by first | rfl | (rw [et]; rfl))) (Slots.cons rfl (by first | exact .refl _ | exact .nilOwn _ _ | exact .nilSl _ | exact .ownSl _ _ _  | exact SV.le.ownEq (by first | rfl | (rw [et]; rfl)) | exact SV.le.of_eq (by first | rfl | (rw [et]; rfl))) (Slots.cons rfl (by first | exact .refl _ | exact .nilOwn _ _ | exact .nilSl _ | exact .ownSl _ _ _  | exact SV.le.ownEq (by first | rfl | (rw [et]; rfl)) | exact SV.le.of_eq (by first | rfl | (rw [et]; rfl))) (Slots.cons rfl (by first | exact .refl _ | exact .nilOwn _ _ | exact .nilSl _ | exact .ownSl _ _ _  | exact SV.le.ownEq (by first | rfl | (rw [et]; rfl)) | exact SV.le.of_eq (by first | rfl | (rw [et]; rfl))) (Slots.cons rfl (by first | exact .refl _ | exact .nilOwn _ _ | exact .nilSl _ | exact .ownSl _ _ _  | exact SV.le.ownEq (by first | rfl | (rw [et]; rfl)) | exact SV.le.of_eq (by first | rfl | (rw [et]; rfl))) Slots.nil))))), (by first | exact List.Sublist.refl _ | exact .cons_cons _ (.cons _ (.refl _)) | exact List.nil_sublist _ | exact .cons _ (.refl _) | exact .cons _ (.cons _ (.refl _)) | exact .cons _ (.cons _ (.cons _ (.refl _))) | exact .cons _ (.cons _ (.cons _ (.cons _ (.refl _)))) | exact .cons_cons _ (List.nil_sublist _))⟩, (by omega), ⟨k + 1, rfl, rfl, (by omega)⟩⟩
    ·
     have hge : came.length ≤ k := by have := of_decide_eq_false hc4; simp at this; omega
     have hkl2 : came.take k = came := List.take_of_length_le hge
     refine awp_exit ?_
     refine x_thenE ?_
     refine x_thenE ?_
     refine x_blockE ?_
     refine x_then ?_
     refine awp_seq ?_
     refine awp_region ?_
     refine r_move rfl rfl ?_
     refine r_assign rfl rfl ?_
     refine awl_nil ?_
     refine x_then ?_
     refine awp_ret ?_
     exact ⟨(.inl rfl), _, [], (.one (by first | exact .mk rfl rfl | exact .nil rfl)), ⟨rfl, by rw [hkl2, OfF, show splitE a b = (came, out, gone) from hst]; rfl⟩, (List.nil_sublist _), (by simp)⟩
end Go.Proofs.Ytnbnegkdbjdekaa.A

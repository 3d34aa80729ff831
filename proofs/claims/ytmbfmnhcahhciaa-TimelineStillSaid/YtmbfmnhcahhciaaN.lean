/- Plain laws: order of strings, sorted lists of strings, first places in lists; comparisons of strings in these words. -/
import Derived.Test.YtmbfmnhcahhciaaM
namespace Go.Proofs.Ytmbfmnhcahhciaa.A
open Go Go.RowKit
set_option linter.unusedVariables false
set_option linter.unusedSimpArgs false
set_option linter.unusedSectionVars false
variable {P : Program} {w0 : Base} {C0 C : CS} {T : TS} {S S' : AState} {a : Act} {w : World} {ops : Array Oper} {rest : List Oper} {o : Oper} {Q : Exit → AState → Prop}
variable {t : Nat} {ty ty' : TypeId} {pos : String} {aft : Array Edge}

/-! ### strings in order -/
def ltS (a b : ByteArray) : Bool := decide (a.data.toList < b.data.toList)
theorem ba_ext {a b : ByteArray} (h : a.data.toList = b.data.toList) : a = b := by
  cases a; cases b; simp at h; simp [h]
theorem lessB_eq : ∀ (x y : List UInt8), Op.bytesLess x y = decide (x < y)
  | [], [] => by simp [Op.bytesLess]
  | _ :: _, [] => by simp [Op.bytesLess]
  | [], _ :: _ => by simp [Op.bytesLess]
  | a :: x, b :: y => by
    rw [Op.bytesLess, lessB_eq x y]
    simp only [List.cons_lt_cons_iff]
    by_cases h1 : a < b <;> by_cases h2 : a = b <;> by_cases h3 : x < y <;> simp [h1, h2, h3]
theorem ltS_eq (a b : ByteArray) : Op.bytesLess a.toList b.toList = ltS a b := by
  rw [lessB_eq, ByteArray.toList_eq, ByteArray.toList_eq]; rfl
theorem beqS_eq (a b : ByteArray) : (a.toList == b.toList) = decide (a = b) := by
  rw [ByteArray.toList_eq, ByteArray.toList_eq, Bool.eq_iff_iff]
  simp only [beq_iff_eq, decide_eq_true_eq]
  exact ⟨ba_ext, fun e => by rw [e]⟩
theorem ltS_irrefl (a : ByteArray) : ltS a a = false := by simp [ltS, List.lt_irrefl]
theorem ltS_trans {a b c : ByteArray} (h : ltS a b = true) (h' : ltS b c = true) : ltS a c = true := by
  simp only [ltS, decide_eq_true_eq] at *; exact List.lt_trans h h'
theorem ltS_tri {a b : ByteArray} (h : ltS a b = false) (h' : ltS b a = false) : a = b := by
  simp only [ltS, decide_eq_false_iff_not, List.not_lt] at *
  exact ba_ext (List.le_antisymm h' h)
theorem ltS_asymm {a b : ByteArray} (h : ltS a b = true) : ltS b a = false := by
  cases hb : ltS b a with
  | false => rfl
  | true => have := ltS_trans h hb; rw [ltS_irrefl] at this; cases this
def strB2 : BinOp → ByteArray → ByteArray → Option Bool
  | .eql, i, j => some (decide (i = j))
  | .neq, i, j => some (!decide (i = j))
  | .lss, i, j => some (ltS i j)
  | .leq, i, j => some (!ltS j i)
  | .gtr, i, j => some (ltS j i)
  | .geq, i, j => some (!ltS i j)
  | _, _, _ => none
theorem leS_eq (i j : ByteArray) : (ltS i j || decide (i = j)) = !ltS j i := by
  cases h1 : ltS i j with
  | true => rw [ltS_asymm h1]; rfl
  | false =>
    cases h2 : ltS j i with
    | true =>
      have : i ≠ j := fun e => by subst e; rw [ltS_irrefl] at h2; cases h2
      simp [this]
    | false => simp [ltS_tri h1 h2]
theorem strB2_eq {op : BinOp} {i j : ByteArray} {b : Bool} (h : strB2 op i j = some b) : strB op i j = some b := by
  cases op <;> simp only [strB2, strB, Option.some.injEq, reduceCtorEq] at h ⊢ <;> subst h
  · exact beqS_eq i j
  · rw [bne, beqS_eq]
  · exact ltS_eq i j
  · rw [ltS_eq, beqS_eq, leS_eq]
  · rw [ltS_eq, beqS_eq, leS_eq]; simp
  · rw [ltS_eq]
theorem r_str2 {op : BinOp} {xt yt : TypeId} {x y : Operand} {i j : ByteArray} {b : Bool} (hx : S.ev x = some (.a (.v (.string i)))) (hy : S.ev y = some (.a (.v (.string j))))
    (hb : strB2 op i j = some b) (ht : Nat.blt t S.nt = true) (hr : AWL P w0 C0 ops rest Q (S.put t (.a (.v (.bool b))))) :
    AWL P w0 C0 ops (⟨some t, .binOp op xt x y yt, ty, pos, aft, none⟩ :: rest) Q S :=
  r_str hx hy (strB2_eq hb) ht hr

/-! ### sorted lists of strings, each once -/
def SortedS (l : List ByteArray) : Prop := l.Pairwise (fun a b => ltS a b = true)
def insS : List ByteArray → ByteArray → List ByteArray
  | [], n => [n]
  | x :: r, n => if ltS x n then x :: insS r n else if x = n then x :: r else n :: x :: r
theorem insS_mem {n x : ByteArray} : ∀ {l : List ByteArray}, x ∈ insS l n ↔ x = n ∨ x ∈ l
  | [] => by simp [insS]
  | y :: r => by
    unfold insS
    split
    · rw [List.mem_cons, insS_mem (l := r), List.mem_cons]
      constructor
      · rintro (h | h | h) <;> simp [h]
      · rintro (h | h | h) <;> simp [h]
    · split
      · rename_i e; subst e
        constructor
        · exact fun h => Or.inr h
        · rintro (h | h)
          · subst h; simp
          · exact h
      · simp
theorem insS_sorted {n : ByteArray} : ∀ {l : List ByteArray}, SortedS l → SortedS (insS l n)
  | [], _ => by simp [insS, SortedS]
  | y :: r, h => by
    have h1 := List.pairwise_cons.1 h
    unfold insS
    split
    · rename_i hl
      refine List.pairwise_cons.2 ⟨fun z hz => ?_, insS_sorted h1.2⟩
      rcases insS_mem.1 hz with rfl | hz
      · exact hl
      · exact h1.1 z hz
    · rename_i hl
      split
      · exact h
      · rename_i hne
        have hny : ltS n y = true := by
          cases hb : ltS n y with
          | true => rfl
          | false => exact absurd (ltS_tri (by simpa using hl) hb) hne
        refine List.pairwise_cons.2 ⟨fun z hz => ?_, h⟩
        rcases List.mem_cons.1 hz with rfl | hz
        · exact hny
        · exact ltS_trans hny (h1.1 z hz)
theorem sortedS_ext : ∀ {l l' : List ByteArray}, SortedS l → SortedS l' → (∀ x, x ∈ l ↔ x ∈ l') → l = l'
  | [], [], _, _, _ => rfl
  | [], y :: r, _, _, h => by have := (h y).2 (by simp); simp at this
  | y :: r, [], _, _, h => by have := (h y).1 (by simp); simp at this
  | x :: r, y :: s, h1, h2, h => by
    have p1 := List.pairwise_cons.1 h1
    have p2 := List.pairwise_cons.1 h2
    have hxy : x = y := by
      rcases List.mem_cons.1 ((h x).1 (by simp)) with e | hx
      · exact e
      · rcases List.mem_cons.1 ((h y).2 (by simp)) with e | hy
        · exact e.symm
        · have a1 := p2.1 x hx
          have a2 := p1.1 y hy
          rw [ltS_asymm a1] at a2; cases a2
    subst hxy
    have hnr : x ∉ r := fun hx => by have := p1.1 x hx; rw [ltS_irrefl] at this; cases this
    have hns : x ∉ s := fun hx => by have := p2.1 x hx; rw [ltS_irrefl] at this; cases this
    rw [sortedS_ext p1.2 p2.2 (fun z => ?_)]
    constructor
    · intro hz
      rcases List.mem_cons.1 ((h z).1 (by simp [hz])) with e | hz'
      · subst e; exact absurd hz hnr
      · exact hz'
    · intro hz
      rcases List.mem_cons.1 ((h z).2 (by simp [hz])) with e | hz'
      · subst e; exact absurd hz hns
      · exact hz'
theorem sortB_mem {l : List ByteArray} {x : ByteArray} : x ∈ sortB l ↔ x ∈ l := by
  unfold sortB
  rw [List.mem_map]
  constructor
  · rintro ⟨y, hy, rfl⟩
    rw [List.mem_mergeSort] at hy
    obtain ⟨z, hz, rfl⟩ := List.mem_map.1 hy
    exact hz
  · intro hx
    exact ⟨x.data.toList, by rw [List.mem_mergeSort]; exact List.mem_map.2 ⟨x, hx, rfl⟩, rfl⟩
theorem sortB_sorted {l : List ByteArray} (hn : l.Nodup) : SortedS (sortB l) := by
  have hs : (List.mergeSort (l.map (·.data.toList)) (fun x y => decide (x ≤ y))).Pairwise (fun x y => decide (x ≤ y) = true) :=
    List.pairwise_mergeSort (fun a b c h1 h2 => by simp only [decide_eq_true_eq] at *; exact List.le_trans h1 h2) (fun a b => by simp only [Bool.or_eq_true, decide_eq_true_eq]; exact List.le_total a b) _
  have hd : (List.mergeSort (l.map (·.data.toList)) (fun x y => decide (x ≤ y))).Nodup := by
    refine (List.mergeSort_perm _ _).nodup_iff.2 (List.pairwise_map.2 (hn.imp (fun hne e => hne (ba_ext e))))
  unfold SortedS sortB
  rw [List.pairwise_map]
  refine (List.Pairwise.and hs hd).imp (fun {x y} h => ?_)
  simp only [ltS, decide_eq_true_eq] at h ⊢
  rcases List.le_iff_lt_or_eq.1 h.1 with h1 | h1
  · simpa using h1
  · exact absurd h1 h.2
theorem insS_at {n : ByteArray} : ∀ {l : List ByteArray} {k : Nat}, (l.take k).all (ltS · n) = true → k ≤ l.length → (∀ x, l[k]? = some x → ltS x n = false) →
    insS l n = match l[k]? with | some x => if x = n then l else l.take k ++ n :: l.drop k | none => l ++ [n]
  | [], k, _, hk, _ => by simp [insS]
  | y :: r, 0, _, _, h => by
    have := h y rfl
    simp [insS, this]
  | y :: r, k + 1, ha, hk, h => by
    simp only [List.take_succ_cons, List.all_cons, Bool.and_eq_true] at ha
    have ih := insS_at (l := r) (k := k) ha.2 (by simpa using hk) (fun x hx => h x (by simpa using hx))
    unfold insS
    rw [if_pos ha.1, ih]
    simp only [List.getElem?_cons_succ]
    cases r[k]? with
    | none => rfl
    | some x => by_cases e : x = n <;> simp [e]

/-! ### maps as lists -/
section
variable {K α : Type} [DecidableEq K]
theorem mget_mset (m : List (K × α)) (k k' : K) (v : α) : mget (mset m k v) k' = if k = k' then some v else mget m k' := by
  induction m with
  | nil => simp [mset, mget]
  | cons p r ih =>
    obtain ⟨x, u⟩ := p
    unfold mset
    split
    · rename_i e; subst e; unfold mget; split <;> rfl
    · rename_i e
      unfold mget
      split
      · rename_i e'; subst e'; rw [if_neg (fun h => e h.symm)]
      · exact ih
theorem mset_keys {m : List (K × α)} {k x : K} {v : α} : x ∈ (mset m k v).map (·.1) ↔ x = k ∨ x ∈ m.map (·.1) := by
  induction m with
  | nil => simp [mset]
  | cons p r ih =>
    obtain ⟨y, u⟩ := p
    unfold mset
    split
    · rename_i e; subst e; simp
    · rw [List.map_cons, List.mem_cons, ih, List.map_cons, List.mem_cons]
      constructor
      · rintro (h | h | h) <;> simp [h]
      · rintro (h | h | h) <;> simp [h]
theorem mset_nodup {m : List (K × α)} {k : K} {v : α} (h : (m.map (·.1)).Nodup) : ((mset m k v).map (·.1)).Nodup := by
  induction m with
  | nil => simp [mset]
  | cons p r ih =>
    obtain ⟨y, u⟩ := p
    have h1 := List.nodup_cons.1 h
    unfold mset
    split
    · rename_i e; subst e; exact h
    · rename_i e
      refine List.nodup_cons.2 ⟨fun hm => ?_, ih h1.2⟩
      rcases mset_keys.1 hm with e' | hm
      · exact e e'
      · exact h1.1 hm
theorem mset_len {m : List (K × α)} {k : K} {v : α} : (mset m k v).length ≤ m.length + 1 := by
  induction m with
  | nil => simp [mset]
  | cons p r ih =>
    obtain ⟨y, u⟩ := p
    unfold mset
    split
    · simp
    · simp; omega
theorem mget_some {m : List (K × α)} {k : K} : (mget m k).isSome = true ↔ k ∈ m.map (·.1) := by
  induction m with
  | nil => simp [mget]
  | cons p r ih =>
    obtain ⟨y, u⟩ := p
    unfold mget
    split
    · rename_i e; subst e; simp
    · rename_i e; rw [ih, List.map_cons, List.mem_cons]
      constructor
      · exact Or.inr
      · rintro (h | h)
        · exact absurd h.symm e
        · exact h
theorem mget_none {m : List (K × α)} {k : K} : mget m k = none ↔ k ∉ m.map (·.1) := by
  rw [← mget_some (m := m)]
  cases mget m k <;> simp
theorem encM_keys {ek : K → Value} {ev : α → AV} (m : List (K × α)) : (encM ek ev m).map (·.1) = (m.map (·.1)).map ek := by simp [encM]
theorem encM_len {ek : K → Value} {ev : α → AV} (m : List (K × α)) : (encM ek ev m).length = m.length := by simp [encM]
end
theorem insS_len {n : ByteArray} : ∀ {l : List ByteArray}, (insS l n).length ≤ l.length + 1
  | [] => by simp [insS]
  | y :: r => by
    unfold insS
    split
    · have := insS_len (n := n) (l := r); simp; omega
    · split <;> simp
theorem sortB_len (l : List ByteArray) : (sortB l).length = l.length := by simp [sortB, List.length_mergeSort]

/-! ### the first place -/
theorem takeS {α : Type} {l : List α} {k : Nat} {x : α} (h : l[k]? = some x) : l.take (k + 1) = l.take k ++ [x] := by
  rw [List.take_add_one, h]; rfl
theorem fold_take {α β : Type} {f : β → α → β} {b : β} {l : List α} {k : Nat} {x : α} (h : l[k]? = some x) : (l.take (k + 1)).foldl f b = f ((l.take k).foldl f b) x := by
  rw [takeS h, List.foldl_append]; rfl
theorem map_take {α β : Type} {f : α → β} {l : List α} {k : Nat} {x : α} (h : l[k]? = some x) : (l.take (k + 1)).map f = (l.take k).map f ++ [f x] := by
  rw [takeS h, List.map_append]; rfl
theorem fidx_step {α : Type} {p : α → Bool} {l : List α} {k : Nat} {x : α} (h : l[k]? = some x) (hp : p x = false) (hn : (l.take k).findIdx? p = none) : (l.take (k + 1)).findIdx? p = none := by
  rw [takeS h]
  simp only [List.findIdx?_eq_none_iff] at hn ⊢
  intro y hy
  rcases List.mem_append.1 hy with hy | hy
  · exact hn y hy
  · simp at hy; subst hy; exact hp
theorem fidx_hit {α : Type} {p : α → Bool} {l : List α} {k : Nat} {x : α} (h : l[k]? = some x) (hp : p x = true) (hn : (l.take k).findIdx? p = none) : l.findIdx? p = some k := by
  have hk := (List.getElem?_eq_some_iff.1 h)
  obtain ⟨hk1, hk2⟩ := hk
  rw [List.findIdx?_eq_some_iff_getElem]
  refine ⟨hk1, by rw [hk2]; exact hp, fun j hj => ?_⟩
  rw [List.findIdx?_eq_none_iff] at hn
  have : l[j] ∈ l.take k := by
    rw [List.mem_iff_getElem?]
    exact ⟨j, by rw [List.getElem?_take, if_pos hj]; exact List.getElem?_eq_getElem _⟩
  have := hn _ this
  simp [this]
theorem fidx_end {α : Type} {p : α → Bool} {l : List α} {k : Nat} (h : l.length ≤ k) (hn : (l.take k).findIdx? p = none) : l.findIdx? p = none := by
  rwa [List.take_of_length_le h] at hn
theorem all_takeS {α : Type} {p : α → Prop} {l : List α} {k : Nat} {x : α} (h : l[k]? = some x) (ha : ∀ f ∈ l.take k, p f) (hx : p x) : ∀ f ∈ l.take (k + 1), p f := by
  intro f hf
  rw [takeS h] at hf
  rcases List.mem_append.1 hf with hf | hf
  · exact ha f hf
  · simp at hf; subst hf; exact hx
theorem all_takeB {α : Type} {p : α → Bool} {l : List α} {k : Nat} {x : α} (h : l[k]? = some x) (ha : (l.take k).all p = true) (hx : p x = true) : (l.take (k + 1)).all p = true := by
  rw [takeS h, List.all_append, ha]; simp [hx]
theorem all_end {α : Type} {p : α → Prop} {l : List α} {k : Nat} (h : l.length ≤ k) (ha : ∀ f ∈ l.take k, p f) : ∀ f ∈ l, p f := by
  rwa [List.take_of_length_le h] at ha
def optI : Option Nat → Int
  | some k => k
  | none => -1
theorem optI_some {o : Option Nat} (h : 0 ≤ optI o) : ∃ k, o = some k := by
  cases o with
  | some k => exact ⟨k, rfl⟩
  | none => simp [optI] at h
theorem optI_none {o : Option Nat} (h : optI o < 0) : o = none := by
  cases o with
  | some k => simp [optI] at h; omega
  | none => rfl
theorem fidx_get {α : Type} {p : α → Bool} {l : List α} {k : Nat} (h : l.findIdx? p = some k) : ∃ x, l[k]? = some x ∧ p x = true := by
  rw [List.findIdx?_eq_some_iff_getElem] at h
  obtain ⟨h1, h2, _⟩ := h
  exact ⟨l[k], List.getElem?_eq_getElem h1, h2⟩
end Go.Proofs.Ytmbfmnhcahhciaa.A

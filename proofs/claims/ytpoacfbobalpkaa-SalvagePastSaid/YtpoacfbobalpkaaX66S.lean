/- Layer 66: its data, and what its functions compute. -/
import Derived.Test.YtpoacfbobalpkaaN
namespace Go.Proofs.Ytpoacfbobalpkaa.A
open Go Go.RowKit
set_option linter.unusedVariables false

def bts (l : List UInt8) : AV := .sl 1 (u8s l)
structure File where
  name : ByteArray
  data : List UInt8
def File.cs (f : File) : List AV := [.v (.string f.name), bts f.data]
def File.av (f : File) : AV := .agg f.cs
def File.zero : File := ⟨⟨#[]⟩, []⟩
def files (l : List File) : AV := .sl 2 (l.map File.cs)
structure Choice where
  name : ByteArray
  moment : Int
  whole : Bool
  data : List UInt8
def Choice.cs (c : Choice) : List AV := [.v (.string c.name), .v (.int .u64 c.moment), .v (.bool c.whole), bts c.data]
def Choice.av (c : Choice) : AV := .agg c.cs
def Choice.zero : Choice := ⟨⟨#[]⟩, 0, false, []⟩
def choicesA (l : List Choice) : AV := .sl 4 (l.map Choice.cs)
structure Moment where
  num : Int
  can : Bool
  files : List File
def Moment.cs (m : Moment) : List AV := [.v (.int .u64 m.num), .v (.bool m.can), A.files m.files]
def momentsA (l : List Moment) : AV := .sl 3 (l.map Moment.cs)
def numsA (l : List Int) : AV := .sl 1 (l.map fun x => [.v (.int .u64 x)])
def u8A (n : Int) : AV := .v (.int .u8 n)
def boolA (b : Bool) : AV := .v (.bool b)
def strA (s : ByteArray) : AV := .v (.string s)

def stepC (m : List (ByteArray × Choice)) (c : Choice) : List (ByteArray × Choice) := cond (!(mget m c.name).isSome && c.whole) (mset m c.name c) m
def chosen (l : List Choice) : List (ByteArray × Choice) := l.foldl stepC []

/-- what is whole, by a byte -/
def wholeB (not : Int) : List UInt8 → Bool
  | [] => false
  | b :: _ => !((b.toNat : Int) == not)
def atM (l : List Moment) (m : Int) : Option Nat := l.findIdx? (fun x => x.num == m)
/-- what is told of a moment -/
def lookM (l : List Moment) (m : Int) : Option (List File) :=
  match l.find? (fun x => x.num == m) with
  | some x => cond x.can (some x.files) none
  | none => none
def atR : Option (List File) → AV
  | some fs => .tup [files fs, boolA true]
  | none => .tup [files [], boolA false]
def findF (l : List File) (n : ByteArray) : Option Nat := l.findIdx? (fun f => decide (f.name = n))

/-- one file, seen at a moment: the names that were seen there, and what is best -/
def stepF (wh : ByteArray → List UInt8 → Bool) (m : Int) (s : List (ByteArray × Bool) × List (ByteArray × Choice)) (f : File) : List (ByteArray × Bool) × List (ByteArray × Choice) :=
  cond ((mget s.1 f.name).getD false) s (mset s.1 f.name true, mset s.2 f.name (cond (wh f.name f.data) ⟨f.name, m, true, f.data⟩ ((mget s.2 f.name).getD ⟨f.name, 0, false, []⟩)))
def stepM (look : Int → Option (List File)) (wh : ByteArray → List UInt8 → Bool) (b : List (ByteArray × Choice)) (m : Int) : List (ByteArray × Choice) :=
  match look m with
  | some fs => (fs.foldl (stepF wh m) ([], b)).2
  | none => b
def bestOf (look : Int → Option (List File)) (wh : ByteArray → List UInt8 → Bool) (nums : List Int) : List (ByteArray × Choice) := nums.foldl (stepM look wh) []
def planOf (look : Int → Option (List File)) (wh : ByteArray → List UInt8 → Bool) (nums : List Int) : List Choice :=
  (sortB ((bestOf look wh nums).map (·.1))).map fun n => (mget (bestOf look wh nums) n).getD .zero
def filesOf (l : List Choice) : List File := ((sortB ((chosen l).map (·.1))).take 8).map fun n => ⟨n, ((mget (chosen l) n).getD .zero).data⟩
def stepL (ch : List (ByteArray × Choice)) (m : List (ByteArray × Bool)) (c : Choice) : List (ByteArray × Bool) := cond (mget ch c.name).isSome m (mset m c.name true)
def lostOf (l : List Choice) : List ByteArray := sortB ((l.foldl (stepL (chosen l)) []).map (·.1))

/-! what the document's functions compute -/
def namesOf (look : Int → Option (List File)) (nums : List Int) : List ByteArray :=
  nums.foldl (fun ns m => match look m with | some fs => fs.foldl (fun ns f => insS ns f.name) ns | none => ns) []
def choiceOf (look : Int → Option (List File)) (not : Int) (n : ByteArray) (c : Choice) (m : Int) : Choice :=
  match look m with
  | some fs => match fs.find? (fun f => decide (f.name = n)) with
    | some f => cond (wholeB not f.data) ⟨n, m, true, f.data⟩ c
    | none => c
  | none => c
def rplanOf (look : Int → Option (List File)) (not : Int) (nums : List Int) : List Choice :=
  (namesOf look nums).map fun n => nums.foldl (choiceOf look not n) ⟨n, 0, false, []⟩
def rnamesOf (l : List Choice) : List ByteArray := l.foldl (fun ns c => cond c.whole (insS ns c.name) ns) []
def rfilesOf (l : List Choice) : List File := ((rnamesOf l).take 8).map fun n => ⟨n, ((l.find? (fun c => c.whole && decide (c.name = n))).getD .zero).data⟩
def rlostOf (l : List Choice) : List ByteArray := l.foldl (fun ns c => cond (l.any fun d => d.whole && decide (d.name = c.name)) ns (insS ns c.name)) []

/-- moments that are no more than are looked at -/
structure Small (l : List Moment) (nums : List Int) : Prop where
  len : l.length ≤ 8
  nums : nums.length ≤ 10
  files : ∀ m ∈ l, m.files.length ≤ 10 ∧ ∀ f ∈ m.files, f.name.size ≤ 40 ∧ f.data.length ≤ 300

structure Sane (l : List Moment) : Prop where
  len : l.length ≤ 1000000
  files : ∀ m ∈ l, m.files.length ≤ 1000000 ∧ ∀ f ∈ m.files, f.name.size ≤ 1000000 ∧ f.data.length ≤ 1000000
theorem Small.sane {l : List Moment} {nums : List Int} (h : Small l nums) : Sane l :=
  ⟨by have := h.len; omega, fun m hm => ⟨by have := (h.files m hm).1; omega, fun f hf => ⟨by have := ((h.files m hm).2 f hf).1; omega, by have := ((h.files m hm).2 f hf).2; omega⟩⟩⟩
theorem find_idx {α : Type} {p : α → Bool} : ∀ {l : List α} {k : Nat}, l.findIdx? p = some k → l.find? p = l[k]?
  | [], k, h => by simp at h
  | x :: r, k, h => by
    rw [List.findIdx?_cons] at h
    cases hp : p x with
    | true => simp [hp] at h; subst h; simp [hp]
    | false =>
      simp [hp] at h
      obtain ⟨j, hj, rfl⟩ := h
      simp [hp, find_idx hj]
theorem find_idx_none {α : Type} {p : α → Bool} {l : List α} (h : l.findIdx? p = none) : l.find? p = none := by
  rw [List.findIdx?_eq_none_iff] at h
  rw [List.find?_eq_none]; intro x hx; simp [h x hx]
theorem look_some {l : List Moment} {m : Int} {k : Nat} {x : Moment} (h : atM l m = some k) (hx : l[k]? = some x) : lookM l m = cond x.can (some x.files) none := by
  unfold lookM; rw [find_idx h, hx]
theorem look_none {l : List Moment} {m : Int} (h : atM l m = none) : lookM l m = none := by
  unfold lookM; rw [find_idx_none h]
/-! what is known of the maps -/
theorem chosen_keys_aux : ∀ (l : List Choice) (m : List (ByteArray × Choice)), (m.map (·.1)).Nodup → ((l.foldl stepC m).map (·.1)).Nodup
  | [], m, h => h
  | c :: r, m, h => by
    refine chosen_keys_aux r _ ?_
    unfold stepC
    cases (!(mget m c.name).isSome && c.whole)
    · exact h
    · exact mset_nodup h
theorem chosen_nodup (l : List Choice) : ((chosen l).map (·.1)).Nodup := chosen_keys_aux l [] (by simp)
theorem chosen_len_aux : ∀ (l : List Choice) (m : List (ByteArray × Choice)), (l.foldl stepC m).length ≤ m.length + l.length
  | [], m => by simp
  | c :: r, m => by
    have := chosen_len_aux r (stepC m c)
    have h2 : (stepC m c).length ≤ m.length + 1 := by
      unfold stepC
      cases (!(mget m c.name).isSome && c.whole)
      · simp
      · exact mset_len
    simp only [List.foldl_cons, List.length_cons]; omega
theorem chosen_len (l : List Choice) : (chosen l).length ≤ l.length := by have := chosen_len_aux l []; simpa [chosen] using this
theorem chosen_from_aux : ∀ (l : List Choice) (m : List (ByteArray × Choice)) (Q : Choice → Prop), (∀ n c, mget m n = some c → c.name = n ∧ Q c) → (∀ c ∈ l, c.whole = true → Q c) → ∀ n c, mget (l.foldl stepC m) n = some c → c.name = n ∧ Q c
  | [], m, Q, h, _ => h
  | c :: r, m, Q, h, hl => by
    refine chosen_from_aux r _ Q (fun n d hd => ?_) (fun d hd => hl d (by simp [hd]))
    unfold stepC at hd
    cases hb : (!(mget m c.name).isSome && c.whole) with
    | false => rw [hb] at hd; exact h n d hd
    | true =>
      rw [hb, cond_true, mget_mset] at hd
      simp only [Bool.and_eq_true] at hb
      split at hd
      · rename_i e; cases hd; exact ⟨e, hl c (by simp) hb.2⟩
      · exact h n d hd
theorem chosen_from (l : List Choice) {n : ByteArray} {c : Choice} (h : mget (chosen l) n = some c) : c.name = n ∧ c ∈ l ∧ c.whole = true := by
  have := chosen_from_aux l [] (fun c => c ∈ l ∧ c.whole = true) (fun n c h => by simp [mget] at h) (fun c hc hw => ⟨hc, hw⟩) n c h
  exact this
theorem chosen_names (l : List Choice) : ∀ s ∈ (chosen l).map (·.1), ∃ c ∈ l, c.name = s ∧ c.whole = true := by
  intro s hs
  obtain ⟨c, hc⟩ := Option.isSome_iff_exists.1 (mget_some.2 hs)
  obtain ⟨h1, h2, h3⟩ := chosen_from l hc
  exact ⟨c, h2, h1, h3⟩
theorem lost_nodup_aux (ch : List (ByteArray × Choice)) : ∀ (l : List Choice) (m : List (ByteArray × Bool)), (m.map (·.1)).Nodup → ((l.foldl (stepL ch) m).map (·.1)).Nodup
  | [], m, h => h
  | c :: r, m, h => by
    refine lost_nodup_aux ch r _ ?_
    unfold stepL
    cases (mget ch c.name).isSome
    · exact mset_nodup h
    · exact h
theorem lost_len_aux (ch : List (ByteArray × Choice)) : ∀ (l : List Choice) (m : List (ByteArray × Bool)), (l.foldl (stepL ch) m).length ≤ m.length + l.length
  | [], m => by simp
  | c :: r, m => by
    have := lost_len_aux ch r (stepL ch m c)
    have h2 : (stepL ch m c).length ≤ m.length + 1 := by
      unfold stepL
      cases (mget ch c.name).isSome
      · exact mset_len
      · simp
    simp only [List.foldl_cons, List.length_cons]; omega
theorem lost_keys_aux (ch : List (ByteArray × Choice)) : ∀ (l : List Choice) (m : List (ByteArray × Bool)) (s : ByteArray), s ∈ (l.foldl (stepL ch) m).map (·.1) ↔ s ∈ m.map (·.1) ∨ ∃ c ∈ l, c.name = s ∧ mget ch s = none
  | [], m, s => by simp
  | c :: r, m, s => by
    rw [List.foldl_cons, lost_keys_aux ch r]
    unfold stepL
    cases hb : (mget ch c.name).isSome with
    | true =>
      simp only [cond_true, List.mem_cons, exists_eq_or_imp]
      constructor
      · rintro (h | h) <;> simp [h]
      · rintro (h | ⟨h1, h2⟩ | h)
        · exact Or.inl h
        · subst h1; rw [h2] at hb; cases hb
        · exact Or.inr h
    | false =>
      simp only [cond_false, mset_keys, List.mem_cons, exists_eq_or_imp]
      have hn : mget ch c.name = none := by cases h : mget ch c.name with | none => rfl | some x => rw [h] at hb; cases hb
      constructor
      · rintro ((h | h) | h)
        · subst h; exact Or.inr (Or.inl ⟨rfl, hn⟩)
        · exact Or.inl h
        · exact Or.inr (Or.inr h)
      · rintro (h | ⟨h1, h2⟩ | h)
        · exact Or.inl (Or.inr h)
        · exact Or.inl (Or.inl h1.symm)
        · exact Or.inr h
theorem planFiles_nodup (wh : ByteArray → List UInt8 → Bool) (m : Int) : ∀ (fs : List File) (s : List (ByteArray × Bool) × List (ByteArray × Choice)), (s.2.map (·.1)).Nodup → ((fs.foldl (stepF wh m) s).2.map (·.1)).Nodup
  | [], s, h => h
  | f :: r, s, h => by
    refine planFiles_nodup wh m r _ ?_
    unfold stepF
    cases (mget s.1 f.name).getD false
    · exact mset_nodup h
    · exact h
theorem best_nodup_aux (look : Int → Option (List File)) (wh : ByteArray → List UInt8 → Bool) : ∀ (nums : List Int) (b : List (ByteArray × Choice)), (b.map (·.1)).Nodup → ((nums.foldl (stepM look wh) b).map (·.1)).Nodup
  | [], b, h => h
  | m :: r, b, h => by
    refine best_nodup_aux look wh r _ ?_
    unfold stepM
    cases look m with
    | none => exact h
    | some fs => exact planFiles_nodup wh m fs _ h
theorem best_nodup (look : Int → Option (List File)) (wh : ByteArray → List UInt8 → Bool) (nums : List Int) : ((bestOf look wh nums).map (·.1)).Nodup := best_nodup_aux look wh nums [] (by simp)
end Go.Proofs.Ytpoacfbobalpkaa.A

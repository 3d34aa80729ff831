/- Abstract states over Go's machine: values by content, a committed store, own objects; the rules of a walk over them. -/
import Derived.WalkKit
import Derived.Below
import Derived.Laws.Rows
namespace Go.Proofs.Ytmbfmnhcahhciaa.A
open Go Go.RowKit

/-- what is committed: cells that no one writes any more -/
abbrev CS := Nat → Nat → Option Value

inductive AV where
  | v (x : Value)
  | sl (sz : Nat) (l : List (List AV))
  | agg (cs : List AV)
  | tup (vs : List AV)
  | cp (cs : List AV)
  | fn (f : FuncId) (caps : List AV)
  deriving Inhabited

inductive Rel (C : CS) : AV → Value → Prop
  | v (x : Value) : Rel C (.v x) x
  | sl {sz : Nat} {l : List (List AV)} {A : Option Addr} {n cap : Nat} (b o : Nat) (u : Nat → Nat → Value) (hn : n = l.length) (hc : n ≤ cap)
      (hA : l ≠ [] → A = some ⟨b, o, none⟩) (hz : ∀ cs, cs ∈ l → cs.length = sz)
      (hC : ∀ i cs j c, l[i]? = some cs → cs[j]? = some c → C b (o + i * sz + j) = some (u i j))
      (hR : ∀ i cs j c, l[i]? = some cs → cs[j]? = some c → Rel C c (u i j)) : Rel C (.sl sz l) (.slice A n cap)
  | agg {cs : List AV} {arr : Array Value} (u : Nat → Value) (hn : arr.size = cs.length) (hC : ∀ j c, cs[j]? = some c → arr[j]? = some (u j))
      (hR : ∀ j c, cs[j]? = some c → Rel C c (u j)) : Rel C (.agg cs) (.agg arr)
  | tup {cs : List AV} {arr : Array Value} (u : Nat → Value) (hn : arr.size = cs.length) (hC : ∀ j c, cs[j]? = some c → arr[j]? = some (u j))
      (hR : ∀ j c, cs[j]? = some c → Rel C c (u j)) : Rel C (.tup cs) (.tuple arr)
  | cp {cs : List AV} {b o : Nat} (u : Nat → Value) (hC : ∀ j c, cs[j]? = some c → C b (o + j) = some (u j))
      (hR : ∀ j c, cs[j]? = some c → Rel C c (u j)) : Rel C (.cp cs) (.pointer (some ⟨b, o, none⟩))
  | fn {f : FuncId} {cs : List AV} {arr : Array Value} (u : Nat → Value) (hn : arr.size = cs.length) (hC : ∀ j c, cs[j]? = some c → arr[j]? = some (u j))
      (hR : ∀ j c, cs[j]? = some c → Rel C c (u j)) : Rel C (.fn f cs) (.func (.func f) #[] arr)

theorem Rel.mono {C C' : CS} (h : ∀ b o v, C b o = some v → C' b o = some v) {x : AV} {u : Value} (r : Rel C x u) : Rel C' x u := by
  induction r with
  | v x => exact .v x
  | sl b o u hn hc hA hz hC hR ih => exact .sl b o u hn hc hA hz (fun i cs j c h1 h2 => h _ _ _ (hC i cs j c h1 h2)) (fun i cs j c h1 h2 => ih i cs j c h1 h2)
  | agg u hn hC hR ih => exact .agg u hn hC ih
  | tup u hn hC hR ih => exact .tup u hn hC ih
  | cp u hC hR ih => exact .cp u (fun j c hj => h _ _ _ (hC j c hj)) ih
  | fn u hn hC hR ih => exact .fn u hn hC ih

/-- lists of values -/
def Rels (C : CS) (cs : List AV) (arr : List Value) : Prop := arr.length = cs.length ∧ ∀ (j : Nat) (c : AV) (u : Value), cs[j]? = some c → arr[j]? = some u → Rel C c u
theorem Rels.mono {C C' : CS} (h : ∀ b o v, C b o = some v → C' b o = some v) {cs : List AV} {arr : List Value} (r : Rels C cs arr) : Rels C' cs arr :=
  ⟨r.1, fun j c u h1 h2 => (r.2 j c u h1 h2).mono h⟩
theorem Rels.get {C : CS} {cs : List AV} {arr : List Value} (r : Rels C cs arr) {j : Nat} {c : AV} (h : cs[j]? = some c) : ∃ u, arr[j]? = some u ∧ Rel C c u := by
  have hj : j < arr.length := by have := (List.getElem?_eq_some_iff.1 h).1; have := r.1; omega
  exact ⟨arr[j], List.getElem?_eq_getElem hj, r.2 j c _ h (List.getElem?_eq_getElem hj)⟩
theorem Rels.nil {C : CS} : Rels C [] [] := ⟨rfl, fun j c u h => by simp at h⟩
theorem Rels.cons {C : CS} {c : AV} {u : Value} {cs : List AV} {arr : List Value} (h : Rel C c u) (r : Rels C cs arr) : Rels C (c :: cs) (u :: arr) := by
  refine ⟨by simp [r.1], fun j c' u' h1 h2 => ?_⟩
  cases j with
  | zero => simp at h1 h2; subst h1; subst h2; exact h
  | succ j => simp at h1 h2; exact r.2 j c' u' h1 h2
theorem Rels.cons_inv {C : CS} {c : AV} {cs : List AV} {arr : List Value} (r : Rels C (c :: cs) arr) : ∃ u arr', arr = u :: arr' ∧ Rel C c u ∧ Rels C cs arr' := by
  cases arr with
  | nil => have := r.1; simp at this
  | cons u arr' => exact ⟨u, arr', rfl, r.2 0 c u rfl rfl, by have := r.1; simp at this; exact this, fun j c' u' h1 h2 => r.2 (j + 1) c' u' (by simpa using h1) (by simpa using h2)⟩
theorem Rels.nil_inv {C : CS} {arr : List Value} (r : Rels C [] arr) : arr = [] := by
  have := r.1; simp at this; exact this
theorem Rels.append {C : CS} {cs cs' : List AV} {arr arr' : List Value} (r : Rels C cs arr) (r' : Rels C cs' arr') : Rels C (cs ++ cs') (arr ++ arr') := by
  refine ⟨by simp [r.1, r'.1], fun j c u h1 h2 => ?_⟩
  have e := r.1
  by_cases hj : j < cs.length
  · rw [List.getElem?_append_left hj] at h1
    rw [List.getElem?_append_left (by omega)] at h2
    exact r.2 j c u h1 h2
  · rw [List.getElem?_append_right (by omega)] at h1
    rw [List.getElem?_append_right (by omega)] at h2
    rw [e] at h2
    exact r'.2 _ c u h1 h2

theorem rel_of_rels {C : CS} {cs : List AV} {arr : List Value} (r : Rels C cs arr) :
    (∀ j c, cs[j]? = some c → arr[j]? = some (arr.getD j undef)) ∧ ∀ j c, cs[j]? = some c → Rel C c (arr.getD j undef) := by
  refine ⟨fun j c h => ?_, fun j c h => ?_⟩
  · obtain ⟨u, hu, _⟩ := r.get h; simp [hu]
  · obtain ⟨u, hu, hr⟩ := r.get h; simpa [hu] using hr

theorem rel_agg {C : CS} {cs : List AV} {arr : Array Value} : Rel C (.agg cs) (.agg arr) ↔ Rels C cs arr.toList := by
  constructor
  · intro h
    cases h with
    | agg u hn hC hR => exact ⟨by simpa using hn, fun j c x h1 h2 => by have := hC j c h1; rw [Array.getElem?_toList] at h2; rw [h2] at this; cases this; exact hR j c h1⟩
  · intro r
    obtain ⟨r1, r2⟩ := rel_of_rels r
    exact .agg (fun j => arr.toList.getD j undef) (by simpa using r.1) (fun j c h => by rw [← Array.getElem?_toList]; exact r1 j c h) r2
theorem rel_tup {C : CS} {cs : List AV} {arr : Array Value} : Rel C (.tup cs) (.tuple arr) ↔ Rels C cs arr.toList := by
  constructor
  · intro h
    cases h with
    | tup u hn hC hR => exact ⟨by simpa using hn, fun j c x h1 h2 => by have := hC j c h1; rw [Array.getElem?_toList] at h2; rw [h2] at this; cases this; exact hR j c h1⟩
  · intro r
    obtain ⟨r1, r2⟩ := rel_of_rels r
    exact .tup (fun j => arr.toList.getD j undef) (by simpa using r.1) (fun j c h => by rw [← Array.getElem?_toList]; exact r1 j c h) r2
theorem rel_fn {C : CS} {f : FuncId} {cs : List AV} {arr : Array Value} : Rel C (.fn f cs) (.func (.func f) #[] arr) ↔ Rels C cs arr.toList := by
  constructor
  · intro h
    cases h with
    | fn u hn hC hR => exact ⟨by simpa using hn, fun j c x h1 h2 => by have := hC j c h1; rw [Array.getElem?_toList] at h2; rw [h2] at this; cases this; exact hR j c h1⟩
  · intro r
    obtain ⟨r1, r2⟩ := rel_of_rels r
    exact .fn (fun j => arr.toList.getD j undef) (by simpa using r.1) (fun j c h => by rw [← Array.getElem?_toList]; exact r1 j c h) r2

/-! ### states -/
inductive SV where
  | a (x : AV)
  | own (tok sz : Nat) (l : List (List AV))

inductive AObj where
  | box (cs : List AV)
  | map (es : List (Value × AV))
  | mapb (es : List (Value × AV)) (bs : List Nat) (clock : Nat)
  | iter (m since : Nat) (seen : List Nat) (stepped : Nat)
  | loop (r : Loop)
  | buf (sz : Nat) (l : List (List AV)) (cap : Nat) (e : TypeId)

structure OE where
  b : Nat
  rw : Bool
  o : AObj

structure AState where
  nt : Nat
  slots : List (Nat × SV)
  objs : List OE

def find (t : Nat) : List (Nat × SV) → Option SV
  | [] => none
  | (k, x) :: r => cond (Nat.beq k t) (some x) (find t r)
theorem find_cons (t k : Nat) (x : SV) (r : List (Nat × SV)) : find t ((k, x) :: r) = if k = t then some x else find t r := by
  show cond (Nat.beq k t) (some x) (find t r) = _
  by_cases h : k = t
  · subst h; simp
  · have : Nat.beq k t = false := by
      cases hb : Nat.beq k t with
      | false => rfl
      | true => exact absurd (Nat.eq_of_beq_eq_true hb) h
    simp [this, h]
theorem find_mem {t : Nat} {x : SV} : ∀ {l : List (Nat × SV)}, find t l = some x → (t, x) ∈ l
  | (k, y) :: r, h => by
    rw [find_cons] at h
    split at h
    · rename_i e; subst e; cases h; exact List.mem_cons_self
    · exact List.mem_cons_of_mem _ (find_mem h)

def AState.get (S : AState) (t : Nat) : Option SV := find t S.slots
def AState.put (S : AState) (t : Nat) (x : SV) : AState := ⟨S.nt, (t, x) :: S.slots, S.objs⟩
def AState.putd (S : AState) (d : Option Nat) (x : SV) : AState := match d with | some t => S.put t x | none => S

structure Tok where
  b : Nat
  n : Nat
  cap : Nat
  sz : Nat
  e : TypeId

abbrev TS := Nat → Option Tok

/-- the cells of a slice's value, at a row -/
def Row (C : CS) (b o sz : Nat) (l : List (List AV)) : Prop :=
  (∀ cs, cs ∈ l → cs.length = sz) ∧ ∀ i cs j c, l[i]? = some cs → cs[j]? = some c → ∃ u, C b (o + i * sz + j) = some u ∧ Rel C c u

theorem Row.mono {C C' : CS} (h : ∀ b o v, C b o = some v → C' b o = some v) {b o sz : Nat} {l : List (List AV)} (r : Row C b o sz l) : Row C' b o sz l :=
  ⟨r.1, fun i cs j c h1 h2 => let ⟨u, hu, hr⟩ := r.2 i cs j c h1 h2; ⟨u, h _ _ _ hu, hr.mono h⟩⟩

theorem rel_sl_mk {C : CS} {sz : Nat} {l : List (List AV)} {A : Option Addr} {n cap : Nat} (b o : Nat) (hn : n = l.length) (hc : n ≤ cap) (hA : l ≠ [] → A = some ⟨b, o, none⟩) (r : Row C b o sz l) :
    Rel C (.sl sz l) (.slice A n cap) := by
  refine .sl b o (fun i j => (C b (o + i * sz + j)).getD undef) hn hc hA r.1 (fun i cs j c h1 h2 => ?_) (fun i cs j c h1 h2 => ?_)
  · obtain ⟨u, hu, _⟩ := r.2 i cs j c h1 h2; simp [hu]
  · obtain ⟨u, hu, hr⟩ := r.2 i cs j c h1 h2; simpa [hu] using hr
theorem rel_sl_inv {C : CS} {sz : Nat} {l : List (List AV)} {v : Value} (h : Rel C (.sl sz l) v) :
    ∃ A cap b o, v = .slice A l.length cap ∧ l.length ≤ cap ∧ (l ≠ [] → A = some ⟨b, o, none⟩) ∧ Row C b o sz l := by
  cases h with
  | sl b o u hn hc hA hz hC hR => subst hn; exact ⟨_, _, b, o, rfl, hc, hA, hz, fun i cs j c h1 h2 => ⟨_, hC i cs j c h1 h2, hR i cs j c h1 h2⟩⟩
theorem rel_cp_inv {C : CS} {cs : List AV} {v : Value} (h : Rel C (.cp cs) v) :
    ∃ b o, v = .pointer (some ⟨b, o, none⟩) ∧ ∀ j c, cs[j]? = some c → ∃ u, C b (o + j) = some u ∧ Rel C c u := by
  cases h with
  | cp u hC hR => exact ⟨_, _, rfl, fun j c hj => ⟨_, hC j c hj, hR j c hj⟩⟩
theorem rel_cp_mk {C : CS} {cs : List AV} {b o : Nat} (h : ∀ j c, cs[j]? = some c → ∃ u, C b (o + j) = some u ∧ Rel C c u) : Rel C (.cp cs) (.pointer (some ⟨b, o, none⟩)) := by
  refine .cp (fun j => (C b (o + j)).getD undef) (fun j c h1 => ?_) (fun j c h1 => ?_)
  · obtain ⟨u, hu, _⟩ := h j c h1; simp [hu]
  · obtain ⟨u, hu, hr⟩ := h j c h1; simpa [hu] using hr

/-- a slot's value -/
def SRel (C : CS) (T : TS) : SV → Value → Prop
  | .a x, u => Rel C x u
  | .own tok sz l, u => (l = [] ∧ u = .slice none 0 0) ∨ ∃ b cap e, T tok = some ⟨b, l.length, cap, sz, e⟩ ∧ l.length ≤ cap ∧ u = .slice (some ⟨b, 0, none⟩) l.length cap ∧ Row C b 0 sz l

/-- where a function began, and what it may write of what lay there -/
structure Base where
  w : World
  wb : Nat → Prop
  q : Bool := false
@[reducible] def Base.heap (B : Base) : Array Obj := B.w.heap
def Base.ok (B : Base) (b : Nat) : Prop := B.heap.size ≤ b ∨ B.wb b
def Base.of (w : World) : Base := ⟨w, fun _ => False, false⟩
/-- below n all is as it was, but for some blocks -/
structure BelowX (n : Nat) (wb : Nat → Prop) (w w' : World) : Prop where
  os : w'.os = w.os
  tape : w'.tape = w.tape
  output : w'.output = w.output
  size : w.heap.size ≤ w'.heap.size
  block : ∀ k, k < n → ¬ wb k → w'.heap[k]? = w.heap[k]?
theorem BelowX.refl {n : Nat} {wb : Nat → Prop} (w : World) : BelowX n wb w w := ⟨rfl, rfl, rfl, Nat.le_refl _, fun _ _ _ => rfl⟩
theorem BelowX.trans {n : Nat} {wb : Nat → Prop} {a b c : World} (h : BelowX n wb a b) (k : BelowX n wb b c) : BelowX n wb a c :=
  ⟨k.os.trans h.os, k.tape.trans h.tape, k.output.trans h.output, Nat.le_trans h.size k.size, fun i hi hn => (k.block i hi hn).trans (h.block i hi hn)⟩
theorem BelowX.of {n : Nat} {wb : Nat → Prop} {a b : World} (h : Below n a b) : BelowX n wb a b := ⟨h.os, h.tape, h.output, h.size, fun k hk _ => h.block k hk⟩
theorem BelowX.drew {n : Nat} {wb : Nat → Prop} {a b : World} (h : BelowX n wb a b) : BelowX n wb a b.drew := ⟨h.os, h.tape, h.output, h.size, h.block⟩
theorem BelowX.plain {w w' : World} (h : BelowX (Base.of w).heap.size (Base.of w).wb (Base.of w).w w') : Below w.heap.size w w' := ⟨h.os, h.tape, h.output, h.size, fun k hk => h.block k hk (fun e => e)⟩
/-- marks of loops over functions, not yet taken up -/
def Defs (w0 : Base) (ds : List Deferred) (w : World) : Prop :=
  ∃ l : List Nat, ds = l.map (fun D => { target := .collected D, args := #[] }) ∧ l.Nodup ∧ ∀ D ∈ l, w0.heap.size ≤ D ∧ w.heap[D]? = some (.deferred (some []))
theorem Defs.nil {w0 : Base} {w : World} : Defs w0 [] w := ⟨[], rfl, List.nodup_nil, by simp⟩
theorem Defs.keep {w0 : Base} {ds : List Deferred} {w w' : World} (h : Defs w0 ds w) (hk : ∀ D, w0.heap.size ≤ D → w.heap[D]? = some (.deferred (some [])) → w'.heap[D]? = some (.deferred (some []))) : Defs w0 ds w' := by
  obtain ⟨l, h1, h2, h3⟩ := h
  exact ⟨l, h1, h2, fun D hD => ⟨(h3 D hD).1, hk D (h3 D hD).1 (h3 D hD).2⟩⟩

structure TokOk (C : CS) (w0 : Base) (w : World) (k : Tok) : Prop where
  base : w0.heap.size ≤ k.b
  le : k.n ≤ k.cap
  blk : ∃ arr, w.heap[k.b]? = some (.cells arr k.e (0, 0)) ∧ arr.size = k.cap * k.sz
  free : ∀ o, k.n * k.sz ≤ o → C k.b o = none

def ObjRel (C : CS) (b : Nat) (o : AObj) (w : World) : Prop :=
  match o with
  | .box cs => ∃ arr t, w.heap[b]? = some (.cells arr t (0, 0)) ∧ Rels C cs arr.toList
  | .map es => ∃ ents clock, w.heap[b]? = some (.map ents clock) ∧ ents.toList.map (·.key) = es.map (·.1) ∧ Rels C (es.map (·.2)) (ents.toList.map (·.val))
      ∧ (ents.toList.map (·.born)).Pairwise (· < ·) ∧ ∀ e ∈ ents.toList, e.born < clock
  | .mapb es bs clock => ∃ ents, w.heap[b]? = some (.map ents clock) ∧ ents.toList.map (·.key) = es.map (·.1) ∧ Rels C (es.map (·.2)) (ents.toList.map (·.val))
      ∧ ents.toList.map (·.born) = bs ∧ bs.Pairwise (· < ·) ∧ ∀ x ∈ bs, x < clock
  | .iter m since seen stepped => w.heap[b]? = some (.mapIter (some m) since seen.toArray stepped)
  | .loop r => w.heap[b]? = some (.loop r)
  | .buf sz l cap e => ∃ arr, w.heap[b]? = some (.cells arr e (0, 0)) ∧ arr.size = cap * sz ∧ l.length ≤ cap ∧ (∀ cs, cs ∈ l → cs.length = sz) ∧ ∃ vs, Rels C l.flatten vs ∧ (∀ v ∈ vs, v.oneCell' = true) ∧ arr.toList.take (l.length * sz) = vs

theorem ObjRel.mono {C C' : CS} (h : ∀ b o v, C b o = some v → C' b o = some v) {b : Nat} {o : AObj} {w w' : World} (r : ObjRel C b o w) (hb : w'.heap[b]? = w.heap[b]?) : ObjRel C' b o w' := by
  cases o with
  | box cs => obtain ⟨arr, t, h1, h2⟩ := r; exact ⟨arr, t, hb.trans h1, h2.mono h⟩
  | map es => obtain ⟨ents, clock, h1, h2, h3, h4⟩ := r; exact ⟨ents, clock, hb.trans h1, h2, h3.mono h, h4⟩
  | mapb es bs clock => obtain ⟨ents, h1, h2, h3, h4⟩ := r; exact ⟨ents, hb.trans h1, h2, h3.mono h, h4⟩
  | iter m since seen stepped => exact hb.trans r
  | loop l => exact hb.trans r
  | buf sz l cap e => obtain ⟨arr, h1, h2, h3, h4, vs, h5, h6⟩ := r; exact ⟨arr, hb.trans h1, h2, h3, h4, vs, h5.mono h, h6⟩
/-- an object's block holds what no mark is -/
theorem ObjRel.nodef {C : CS} {b : Nat} {o : AObj} {w : World} (r : ObjRel C b o w) : b < w.heap.size ∧ w.heap[b]? ≠ some (.deferred (some [])) := by
  have key : ∀ ob, w.heap[b]? = some ob → ob ≠ .deferred (some []) → b < w.heap.size ∧ w.heap[b]? ≠ some (.deferred (some [])) := fun ob h hn =>
    ⟨(Array.getElem?_eq_some_iff.1 h).1, fun e => by rw [h] at e; cases e; exact hn rfl⟩
  cases o with
  | box cs => obtain ⟨arr, t, h1, _⟩ := r; exact key _ h1 (fun e => by cases e)
  | map es => obtain ⟨arr, t, h1, _⟩ := r; exact key _ h1 (fun e => by cases e)
  | mapb es bs clock => obtain ⟨arr, h1, _⟩ := r; exact key _ h1 (fun e => by cases e)
  | iter m since seen stepped => exact key _ r (fun e => by cases e)
  | loop l => exact key _ r (fun e => by cases e)
  | buf sz l cap e => obtain ⟨arr, h1, _⟩ := r; exact key _ h1 (fun e => by cases e)

structure SimC (w0 : Base) (C0 : CS) (C : CS) (T : TS) (S : AState) (a : Act) (w : World) : Prop where
  below : BelowX w0.heap.size w0.wb w0.w w
  com : ∀ b o v, C b o = some v → w.cell? ⟨b, o, none⟩ = some v
  one : ∀ b o v, C b o = some v → v.oneCell' = true
  old : ∀ b o, b < w0.heap.size → ¬ w0.wb b → C b o = C0 b o
  objs : ∀ e, e ∈ S.objs → ObjRel C e.b e.o w ∧ (∀ o, C e.b o = none) ∧ (e.rw = true → w0.ok e.b)
  apart : S.objs.Pairwise (fun e e' => e.b ≠ e'.b)
  toks : ∀ t k, T t = some k → TokOk C w0 w k ∧ ∀ e, e ∈ S.objs → e.b ≠ k.b
  tokne : ∀ t t' k k', T t = some k → T t' = some k' → t ≠ t' → k.b ≠ k'.b
  size : a.tmps.size = S.nt
  slots : ∀ t x, S.get t = some x → SRel C T x (a.tmps.getD t undef)
  defers : Defs w0 a.defers w
  dr : w0.q = true → w0.w.drawn ≤ w.drawn

def Sim (w0 : Base) (C0 : CS) (S : AState) (a : Act) (w : World) : Prop := ∃ C T, SimC w0 C0 C T S a w

def Lift (w0 : Base) (C0 : CS) (Q : Exit → AState → Prop) (e : Exit) (a : Act) (w : World) : Prop := ∃ S, Sim w0 C0 S a w ∧ Q e S

def AWP (P : Program) (w0 : Base) (C0 : CS) (c : Code) (Q : Exit → AState → Prop) (S : AState) : Prop :=
  ∀ a w, Sim w0 C0 S a w → c.wp P (Lift w0 C0 Q) a w
def AWL (P : Program) (w0 : Base) (C0 : CS) (ops : Array Oper) (l : List Oper) (Q : Exit → AState → Prop) (S : AState) : Prop :=
  ∀ a w, Sim w0 C0 S a w → wpList P ops (Lift w0 C0 Q) l a w

end Go.Proofs.Ytmbfmnhcahhciaa.A

/- The rules of a walk over abstract states: regions that draw their order. -/
import Derived.Test.YtmbfmnhcahhciaaI
import Derived.Orders
namespace Go.Proofs.Ytmbfmnhcahhciaa.A
open Go Go.RowKit
set_option linter.unusedVariables false
set_option linter.unusedSimpArgs false
set_option linter.unusedSectionVars false
variable {P : Program} {w0 : Base} {C0 C : CS} {T : TS} {S S' : AState} {a : Act} {w : World} {ops : Array Oper} {rest : List Oper} {o : Oper} {Q : Exit → AState → Prop}

theorem Oper.wp_monoQ {o : Oper} {a : Act} {w : World} {K : Act → World → Prop} {Q Q' : Exit → Act → World → Prop} (h : ∀ e a w, e ≠ .normal → Q e a w → Q' e a w) (hh : o.wp P a w K Q) : o.wp P a w K Q' := by
  unfold Oper.wp at *
  generalize (execOp a.eval o).run P w = r at *
  cases r with
  | ok n w' =>
    cases n <;> simp only [Oper.upon] at hh ⊢ <;>
      first
        | exact hh
        | exact Calls.mono hh (fun e w'' he => by cases e <;> first | exact he | exact h _ _ _ (by simp) he | (obtain ⟨a, w, he⟩ := he; exact ⟨a, w, h _ _ _ (by simp) he⟩))
  | halt x w' => cases x <;> simp only [Oper.upon] at hh ⊢ <;> first | exact hh | exact h _ _ _ (by simp) hh

/-- one operation, out of a walk of it alone -/
theorem wpOp_of_awl {i : Nat} {o : Oper} (hi : ops[i]? = some o) {R : AState → Prop} {Q' : Exit → Act → World → Prop} {K : Act → World → Prop} (h : AWL P w0 C0 ops [o] (fun e S' => e = .normal ∧ R S') S) (hs : Sim w0 C0 S a w)
    (hK : ∀ a' w' S', R S' → Sim w0 C0 S' a' w' → K a' w') : wpOp P ops Q' i K a w := by
  have hh := h a w hs
  unfold wpList at hh
  unfold wpOp
  simp only [hi]
  have hnil : ∀ a w, wpList P ops (Lift w0 C0 (fun e S' => e = .normal ∧ R S')) [] a w → K a w := fun a w ⟨S', h1, _, h2⟩ => hK a w S' h2 h1
  split
  · rename_i hw
    rw [if_pos hw] at hh
    rcases hh with hh | ⟨_, a', w', S', _, h1, _⟩
    · exact Or.inl (Go.Oper.wp_mono hnil (Oper.wp_monoQ (fun e a w hne ⟨S', h1, h2, h3⟩ => absurd h2 hne) hh))
    · cases h1
  · rename_i hw
    rw [if_neg hw] at hh
    exact hnil _ _ hh

def depsOf (ops : Array Oper) (i : Nat) : List Nat := match ops[i]? with | some o => (o.after.toList.filter (fun e => Region.binds .any e)).map (·.on) | none => []
def killB (ks : List (List Nat)) (c t : Nat) : Bool := (ks.getD c []).any (Nat.beq t)
/-- i comes ahead of c -/
def ahead (ops : Array Oper) (c i : Nat) : Bool := (depsOf ops c).any (Nat.beq i) || (depsOf ops c).any fun d => (depsOf ops d).any (Nat.beq i)
/-- a slot that still holds its value when i comes -/
def liveB (ops : Array Oper) (ks : List (List Nat)) (m i t : Nat) : Bool := (List.range m).all fun c => !(killB ks c t) || Nat.beq c i || ahead ops c i
def holds (tok : Nat) : SV → Bool
  | .own k _ _ => Nat.beq k tok
  | _ => false
/-- who holds a token -/
def ownsB (ops : Array Oper) (ds : List Nat) (Vs : List SV) (ks : List (List Nat)) (S0 : AState) (i tok : Nat) : Bool :=
  (List.range ds.length).all (fun k => !(holds tok (Vs.getD k (.a default))) || killB ks i (ds.getD k 0) || Nat.beq k i || ahead ops k i) && S0.slots.all (fun p => !(holds tok p.2) || killB ks i p.1)
def ownAll (ops : Array Oper) (ds : List Nat) (Vs : List SV) (ks : List (List Nat)) (tks : List (Nat × Nat)) (S0 : AState) : Bool := tks.all fun p => ownsB ops ds Vs ks S0 p.1 p.2
/-- closed facts of a region: its slots are apart, its edges lead back, its tail comes last and in order -/
def drawOk (ops : Array Oper) (ds : List Nat) : Bool :=
  (List.range ds.length).all (fun i => match ops[i]? with | some o => o.dst == some (ds.getD i 0) | none => false) &&
  (List.range ds.length).all (fun i => (List.range ds.length).all fun j => i == j || ds.getD i 0 != ds.getD j 0) &&
  (List.range ops.size).all (fun i => (depsOf ops i).all fun j => decide (j < i)) &&
  (Nat.ble ops.size ds.length || (List.range ds.length).all fun i => (List.range (ds.length + 1)).any fun j => decide (i < j) && (depsOf ops j).contains i) &&
  (List.range (ops.size - ds.length - 1)).all (fun k => (depsOf ops (ds.length + k + 1)).contains (ds.length + k))

theorem drawOk_spec {ds : List Nat} (h : drawOk ops ds = true) :
    (∀ i, i < ds.length → ∃ o, ops[i]? = some o ∧ o.dst = some (ds.getD i 0)) ∧ (∀ i j, i < ds.length → j < ds.length → i ≠ j → ds.getD i 0 ≠ ds.getD j 0) ∧ (∀ i, i < ops.size → ∀ j ∈ depsOf ops i, j < i) ∧
    (ds.length < ops.size → ∀ i, i < ds.length → ∃ j, i < j ∧ j ≤ ds.length ∧ i ∈ depsOf ops j) ∧ ∀ k, ds.length + k + 1 < ops.size → ds.length + k ∈ depsOf ops (ds.length + k + 1) := by
  unfold drawOk at h
  simp only [Bool.and_eq_true, Bool.or_eq_true, List.all_eq_true, List.mem_range] at h
  obtain ⟨⟨⟨⟨h1, h2⟩, h3⟩, h4⟩, h5⟩ := h
  refine ⟨fun i hi => ?_, fun i j hi hj hne => ?_, fun i hi j hj => ?_, fun hlt i hi => ?_, fun k hk => ?_⟩
  · have := h1 i hi
    split at this
    · rename_i o ho; exact ⟨o, ho, by simpa using this⟩
    · cases this
  · have := h2 i hi j hj
    simp [hne] at this; exact this
  · have := h3 i hi j hj; simpa using this
  · rcases h4 with h4 | h4
    · have := Nat.le_of_ble_eq_true h4; omega
    · have := h4 i hi
      simp only [List.any_eq_true, List.mem_range, Bool.and_eq_true, decide_eq_true_eq] at this
      obtain ⟨j, hj, g1, g2⟩ := this
      exact ⟨j, g1, by omega, by simpa using g2⟩
  · have := h5 k (by omega); simpa using this

theorem ready_deps {listed : Array Bool} {i : Nat} (h : i ∈ Region.ready .any ops listed) : i < ops.size ∧ listed.getD i true = false ∧ ∀ j ∈ depsOf ops i, listed.getD j false = true := by
  obtain ⟨h0, o, ho, hd⟩ := mem_ready.1 h
  refine ⟨(Array.getElem?_eq_some_iff.1 ho).1, h0, fun j hj => ?_⟩
  unfold depsOf at hj
  rw [ho] at hj
  simp only [List.mem_map, List.mem_filter] at hj
  obtain ⟨e, ⟨he, hb⟩, rfl⟩ := hj
  exact hd e (by simpa using he) hb
theorem all_listed {listed : Array Bool} (hsz : listed.size = ops.size) (hback : ∀ i, i < ops.size → ∀ j ∈ depsOf ops i, j < i) (hr : Region.ready .any ops listed = []) : ∀ i, i < ops.size → listed.getD i false = true := by
  intro i
  induction i using Nat.strongRecOn with
  | _ i ih =>
    intro hi
    cases hl : listed.getD i false with
    | true => rfl
    | false =>
      exfalso
      have hi' : i < listed.size := by omega
      have hl' : listed.getD i true = false := by simp [Array.getD, hi'] at hl ⊢; exact hl
      obtain ⟨o, ho⟩ : ∃ o, ops[i]? = some o := ⟨_, Array.getElem?_eq_getElem hi⟩
      have : i ∈ Region.ready .any ops listed := mem_ready.2 ⟨hl', o, ho, fun e he hb => by
        have hj : e.on ∈ depsOf ops i := by
          unfold depsOf; rw [ho]
          exact List.mem_map.2 ⟨e, List.mem_filter.2 ⟨by simpa using he, hb⟩, rfl⟩
        have := hback i hi _ hj
        exact ih _ this (by omega)⟩
      rw [hr] at this; cases this

def Killed (ks : List (List Nat)) (m : Nat) (listed : Array Bool) (t : Nat) : Prop := ∃ c, c < m ∧ listed.getD c false = true ∧ killB ks c t = true
/-- a state in the midst of a region -/
structure Mid (ds : List Nat) (Vs : List SV) (ks : List (List Nat)) (S0 : AState) (listed : Array Bool) (S : AState) : Prop where
  nt : S.nt = S0.nt
  objs : S.objs = S0.objs
  done : ∀ i, i < ds.length → listed.getD i false = true → ¬ Killed ks ds.length listed (ds.getD i 0) → S.get (ds.getD i 0) = some (Vs.getD i (.a default))
  rest : ∀ t x, (∀ i, i < ds.length → ds.getD i 0 ≠ t) → ¬ Killed ks ds.length listed t → S0.get t = some x → S.get t = some x
  own : ∀ t tok sz l, S.get t = some (.own tok sz l) → (∃ i, i < ds.length ∧ listed.getD i false = true ∧ ds.getD i 0 = t ∧ Vs.getD i (.a default) = .own tok sz l) ∨ S0.get t = some (.own tok sz l)

/-- what an operation leaves -/
structure Post (ds : List Nat) (Vs : List SV) (ks : List (List Nat)) (i : Nat) (S S' : AState) : Prop where
  nt : S'.nt = S.nt
  objs : S'.objs = S.objs
  new : S'.get (ds.getD i 0) = some (Vs.getD i (.a default))
  keep : ∀ t x, t ≠ ds.getD i 0 → killB ks i t = false → S.get t = some x → S'.get t = some x
  own : ∀ t tok sz l, t ≠ ds.getD i 0 → S'.get t = some (.own tok sz l) → S.get t = some (.own tok sz l)

theorem Mid.step {ds : List Nat} {Vs : List SV} {ks : List (List Nat)} {S0 : AState} {listed : Array Bool} {S S' : AState} (h : Mid ds Vs ks S0 listed S) (hne : ∀ i j, i < ds.length → j < ds.length → i ≠ j → ds.getD i 0 ≠ ds.getD j 0) {i : Nat} (hi : i < ds.length) (his : i < listed.size)
    (hp : Post ds Vs ks i S S') : Mid ds Vs ks S0 (listed.setIfInBounds i true) S' where
  nt := hp.nt.trans h.nt
  objs := hp.objs.trans h.objs
  done := fun j hj hl hk => by
    have hk' : ¬ Killed ks ds.length listed (ds.getD j 0) := fun ⟨c, h1, h2, h3⟩ => hk ⟨c, h1, getD_set_true h2, h3⟩
    by_cases hij : i = j
    · subst hij; exact hp.new
    · refine hp.keep _ _ (fun e => hne i j hi hj hij e.symm) ?_ (h.done j hj (by rw [getD_set_ne false hij] at hl; exact hl) hk')
      cases hb : killB ks i (ds.getD j 0) with
      | false => rfl
      | true => exact absurd ⟨i, hi, by simp [Array.getD, his], hb⟩ hk
  rest := fun t x ht hk hx => by
    have hk' : ¬ Killed ks ds.length listed t := fun ⟨c, h1, h2, h3⟩ => hk ⟨c, h1, getD_set_true h2, h3⟩
    refine hp.keep _ _ (fun e => ht i hi e.symm) ?_ (h.rest t x ht hk' hx)
    cases hb : killB ks i t with
    | false => rfl
    | true => exact absurd ⟨i, hi, by simp [Array.getD, his], hb⟩ hk
  own := fun t tok sz l hx => by
    by_cases ht : t = ds.getD i 0
    · subst ht; rw [hp.new] at hx; exact Or.inl ⟨i, hi, by simp [Array.getD, his], rfl, Option.some.inj hx⟩
    · rcases h.own t tok sz l (hp.own t tok sz l ht hx) with ⟨j, h1, h2, h3⟩ | h1
      · exact Or.inl ⟨j, h1, getD_set_true h2, h3⟩
      · exact Or.inr h1

/-- the state behind all operations ahead of the tail -/
def puts (ds : List Nat) (Vs : List SV) (ks : List (List Nat)) : Nat → AState → AState
  | 0, S => ⟨S.nt, S.slots.filter (fun p => !((List.range ds.length).any fun c => killB ks c p.1)), S.objs⟩
  | k + 1, S => cond ((List.range ds.length).any fun c => killB ks c (ds.getD k 0)) (puts ds Vs ks k S) ((puts ds Vs ks k S).put (ds.getD k 0) (Vs.getD k (.a default)))
theorem puts_nt {ds : List Nat} {Vs : List SV} {ks : List (List Nat)} : ∀ {k : Nat}, (puts ds Vs ks k S).nt = S.nt
  | 0 => rfl
  | k + 1 => by
    simp only [puts]
    cases (List.range ds.length).any fun c => killB ks c (ds.getD k 0)
    · exact puts_nt (k := k)
    · exact puts_nt (k := k)
theorem puts_objs {ds : List Nat} {Vs : List SV} {ks : List (List Nat)} : ∀ {k : Nat}, (puts ds Vs ks k S).objs = S.objs
  | 0 => rfl
  | k + 1 => by
    simp only [puts]
    cases (List.range ds.length).any fun c => killB ks c (ds.getD k 0)
    · exact puts_objs (k := k)
    · exact puts_objs (k := k)
theorem find_filter {q : Nat → Bool} {t : Nat} {x : SV} : ∀ {l : List (Nat × SV)}, find t (l.filter (fun p => q p.1)) = some x → q t = true ∧ find t l = some x
  | [], h => by simp [find] at h
  | (k, y) :: r, h => by
    rw [List.filter_cons] at h
    rw [find_cons]
    split at h
    · rename_i hq
      rw [find_cons] at h
      split at h
      · rename_i e; subst e; exact ⟨hq, by simpa using h⟩
      · rename_i e; obtain ⟨h1, h2⟩ := find_filter h; exact ⟨h1, by simp [e, h2]⟩
    · rename_i hq
      obtain ⟨h1, h2⟩ := find_filter h
      have e : k ≠ t := fun e => by subst e; exact hq h1
      exact ⟨h1, by simp [e, h2]⟩
theorem puts_get {ds : List Nat} {Vs : List SV} {ks : List (List Nat)} : ∀ {k t : Nat} {x : SV}, (puts ds Vs ks k S).get t = some x →
    ((List.range ds.length).any fun c => killB ks c t) = false ∧ ((∃ i, i < k ∧ ds.getD i 0 = t ∧ x = Vs.getD i (.a default)) ∨ ((∀ j, j < k → ds.getD j 0 ≠ t) ∧ S.get t = some x))
  | 0, t, x, h => by
    obtain ⟨h1, h2⟩ := find_filter (q := fun t => !((List.range ds.length).any fun c => killB ks c t)) h
    exact ⟨by simpa using h1, Or.inr ⟨fun j hj => by omega, h2⟩⟩
  | k + 1, t, x, h => by
    simp only [puts] at h
    cases hb : (List.range ds.length).any fun c => killB ks c (ds.getD k 0) with
    | true =>
      rw [hb] at h
      obtain ⟨g1, g2⟩ := puts_get (k := k) h
      have hne : ds.getD k 0 ≠ t := fun e => by rw [e] at hb; rw [hb] at g1; cases g1
      rcases g2 with ⟨i, h1, h2, h3⟩ | ⟨h1, h2⟩
      · exact ⟨g1, Or.inl ⟨i, by omega, h2, h3⟩⟩
      · exact ⟨g1, Or.inr ⟨fun j hj => by by_cases hjk : j = k; subst hjk; exact hne; exact h1 j (by omega), h2⟩⟩
    | false =>
      rw [hb] at h
      simp only [cond_false, AState.get, AState.put, find_cons] at h
      split at h
      · rename_i e; cases h; exact ⟨by rw [← e]; exact hb, Or.inl ⟨k, by omega, e, rfl⟩⟩
      · rename_i e
        obtain ⟨g1, g2⟩ := puts_get (k := k) h
        rcases g2 with ⟨i, h1, h2, h3⟩ | ⟨h1, h2⟩
        · exact ⟨g1, Or.inl ⟨i, by omega, h2, h3⟩⟩
        · exact ⟨g1, Or.inr ⟨fun j hj => by by_cases hjk : j = k; subst hjk; exact e; exact h1 j (by omega), h2⟩⟩

theorem Mid.final {ds : List Nat} {Vs : List SV} {ks : List (List Nat)} {S0 : AState} {listed : Array Bool} {S : AState} (h : Mid ds Vs ks S0 listed S) (hall : ∀ i, i < ds.length → listed.getD i false = true) (hs : Sim w0 C0 S a w) : Sim w0 C0 (puts ds Vs ks ds.length S0) a w := by
  obtain ⟨C, T, hs⟩ := hs
  refine ⟨C, T, hs.below, hs.com, hs.one, hs.old, by rw [puts_objs, ← h.objs]; exact hs.objs, by rw [puts_objs, ← h.objs]; exact hs.apart, by rw [puts_objs, ← h.objs]; exact hs.toks, hs.tokne, by rw [puts_nt, ← h.nt]; exact hs.size, fun t x hx => ?_, hs.defers, hs.dr⟩
  obtain ⟨hk, hx⟩ := puts_get hx
  have hk' : ¬ Killed ks ds.length listed t := fun ⟨c, h1, _, h3⟩ => by
    have : ((List.range ds.length).any fun c => killB ks c t) = true := List.any_eq_true.2 ⟨c, List.mem_range.2 h1, h3⟩
    rw [hk] at this; cases this
  rcases hx with ⟨i, hi, rfl, rfl⟩ | ⟨h1, h2⟩
  · exact hs.slots _ _ (h.done i hi (hall i hi) hk')
  · exact hs.slots _ _ (h.rest t x h1 hk' h2)

/-- what one operation of a drawn region is asked -/
def DrawStep (P : Program) (w0 : Base) (C0 : CS) (ops : Array Oper) (ds : List Nat) (Vs : List SV) (ks : List (List Nat)) (S0 : AState) (i : Nat) : Prop :=
  ∀ o, ops[i]? = some o → ∀ S : AState, S.nt = S0.nt → S.objs = S0.objs → (∀ j ∈ depsOf ops i, j < ds.length → liveB ops ks ds.length i (ds.getD j 0) = true → S.get (ds.getD j 0) = some (Vs.getD j (.a default))) →
    (∀ t x, (∀ i, i < ds.length → ds.getD i 0 ≠ t) → liveB ops ks ds.length i t = true → S0.get t = some x → S.get t = some x) →
    (∀ t tok sz l, S.get t = some (.own tok sz l) → (∃ k, k < ds.length ∧ k ≠ i ∧ ahead ops k i = false ∧ ds.getD k 0 = t ∧ Vs.getD k (.a default) = .own tok sz l) ∨ S0.get t = some (.own tok sz l)) →
    AWL P w0 C0 ops [o] (fun e S' => e = .normal ∧ Post ds Vs ks i S S') S

theorem countP_lt {p q : Nat → Bool} : ∀ {l : List Nat} (h : ∀ j, j ∈ l → q j = true → p j = true) {i : Nat}, i ∈ l → p i = true → q i = false → l.countP q < l.countP p
  | [], _, i, hi, _, _ => by cases hi
  | x :: l, h, i, hi, hp, hq => by
    have hle : l.countP q ≤ l.countP p := List.countP_mono_left (fun j hj => h j (List.mem_cons_of_mem _ hj))
    rw [List.countP_cons, List.countP_cons]
    rcases List.mem_cons.1 hi with rfl | hi'
    · simp [hp, hq]; omega
    · have := countP_lt (l := l) (fun j hj => h j (List.mem_cons_of_mem _ hj)) hi' hp hq
      have hx := h x (by simp)
      cases hqx : q x <;> cases hpx : p x <;> simp_all <;> omega

theorem count_set {listed : Array Bool} {n i : Nat} (hi : i < n) (hs : i < listed.size) (hl : listed.getD i false = false) :
    (List.range n).countP (fun j => !(listed.setIfInBounds i true).getD j false) < (List.range n).countP (fun j => !listed.getD j false) := by
  refine countP_lt (i := i) (fun j _ hj => ?_) (List.mem_range.2 hi) (by simp [hl]) (by simp [Array.getD, hs])
  cases hlj : listed.getD j false with
  | false => rfl
  | true => rw [getD_set_true hlj] at hj; cases hj


/-- the tail: the operations behind all others, in their order -/
theorem draw_tail {m : Nat} (hback : ∀ i, i < ops.size → ∀ j ∈ depsOf ops i, j < i) (hdeps : ∀ k, m + k + 1 < ops.size → m + k ∈ depsOf ops (m + k + 1)) : ∀ (l : List Oper) (k fuel : Nat) (listed : Array Bool) (a : Act) (w : World), listed.size = ops.size → m + k + l.length = ops.size → (∀ (j : Nat) (o : Oper), l[j]? = some o → ops[m + k + j]? = some o) →
    (∀ j, j < m + k → listed.getD j false = true) → (∀ j, m + k ≤ j → j < ops.size → listed.getD j false = false) → l.length ≤ fuel → wpList P ops (Lift w0 C0 Q) l a w → wpAny P .any ops (Lift w0 C0 Q) fuel listed a w := by
  intro l
  induction l with
  | nil =>
    intro k fuel listed a w hsz hlen _ hall _ hf hw
    have hq : Lift w0 C0 Q .normal a w := hw
    have hr : Region.ready .any ops listed = [] := by
      cases hr : Region.ready .any ops listed with
      | nil => rfl
      | cons j r =>
        have hj : j ∈ Region.ready .any ops listed := by rw [hr]; simp
        obtain ⟨k1, k2, _⟩ := ready_deps hj
        simp at hlen
        have := hall j (by omega)
        have hjs : j < listed.size := by omega
        simp [Array.getD, hjs] at this k2
        rw [this] at k2; cases k2
    cases fuel with
    | zero => exact ⟨hr, hq⟩
    | succ f => exact ⟨fun _ => hq, fun j hj => by rw [hr] at hj; cases hj⟩
  | cons o l ih =>
    intro k fuel listed a w hsz hlen hops hall hnone hf hw
    simp only [List.length_cons] at hlen hf
    obtain ⟨fuel, rfl⟩ : ∃ f, fuel = f + 1 := ⟨fuel - 1, by omega⟩
    have hself : listed.getD (m + k) false = false := hnone _ (Nat.le_refl _) (by omega)
    refine ⟨fun hr => ?_, fun i hi => ?_⟩
    · exfalso
      -- the first of the tail is ready: all ahead of it are listed
      have hks : m + k < listed.size := by omega
      have h0 : listed.getD (m + k) true = false := by simp [Array.getD, hks] at hself ⊢; exact hself
      have ho := hops 0 o rfl
      rw [Nat.add_zero] at ho
      have hb : ∀ j ∈ depsOf ops (m + k), listed.getD j false = true := fun j hj => hall j (hback _ (by omega) j hj)
      have : m + k ∈ Region.ready .any ops listed := mem_ready.2 ⟨h0, o, ho, fun e he hbind => hb _ (by unfold depsOf; rw [ho]; exact List.mem_map.2 ⟨e, List.mem_filter.2 ⟨by simpa using he, hbind⟩, rfl⟩)⟩
      rw [hr] at this; cases this
    · obtain ⟨h1, h2, h3⟩ := ready_deps hi
      have hi' : i < listed.size := by omega
      have hlf : listed.getD i false = false := by simp [Array.getD, hi'] at h2 ⊢; exact h2
      have hge : m + k ≤ i := by
        rcases Nat.lt_or_ge i (m + k) with h | h
        · rw [hall i h] at hlf; cases hlf
        · exact h
      have hik : i = m + k := by
        rcases Nat.lt_or_ge (m + k) i with h | h
        · exfalso
          have hd := hdeps (i - m - 1) (by omega)
          rw [show m + (i - m - 1) + 1 = i by omega] at hd
          have := h3 _ hd
          rw [hnone _ (by omega) (by omega)] at this; cases this
        · omega
      subst hik
      have ho := hops 0 o rfl
      rw [Nat.add_zero] at ho
      unfold wpList at hw
      unfold wpOp
      simp only [ho]
      have hnil : ∀ a w, wpList P ops (Lift w0 C0 Q) l a w → wpAny P .any ops (Lift w0 C0 Q) fuel (listed.setIfInBounds (m + k) true) a w := fun a' w' hq =>
        ih (k + 1) fuel _ a' w' (by simp [hsz]) (by omega) (fun j o' hj => by have := hops (j + 1) o' (by simpa using hj); rw [show m + (k + 1) + j = m + k + (j + 1) by omega]; exact this)
          (fun j hj => by
            by_cases e : m + k = j
            · subst e; simp [Array.getD, hi']
            · exact getD_set_true (hall j (by omega)))
          (fun j hj hjs => by rw [getD_set_ne false (by omega)]; exact hnone j (by omega) hjs) (by omega) hq
      split
      · rename_i hw'
        rw [if_pos hw'] at hw
        exact hw.imp (Go.Oper.wp_mono hnil) id
      · rename_i hw'
        rw [if_neg hw'] at hw
        exact hnil _ _ hw

theorem draw_any {ds : List Nat} {Vs : List SV} {ks : List (List Nat)} {tl : List Oper} (hok : drawOk ops ds = true) (hlen : ds.length + tl.length = ops.size) (htl : ∀ (j : Nat) (o : Oper), tl[j]? = some o → ops[ds.length + j]? = some o)
    (hstep : ∀ i, i < ds.length → DrawStep P w0 C0 ops ds Vs ks S i) (hL : AWL P w0 C0 ops tl Q (puts ds Vs ks ds.length S)) :
    ∀ (fuel : Nat) (listed : Array Bool) (a : Act) (w : World) (S1 : AState), listed.size = ops.size → (List.range ops.size).countP (fun i => !listed.getD i false) ≤ fuel → (∀ j, ds.length ≤ j → j < ops.size → listed.getD j false = false) → (∀ j, listed.getD j false = true → ∀ i ∈ depsOf ops j, listed.getD i false = true) →
      Mid ds Vs ks S listed S1 → Sim w0 C0 S1 a w → wpAny P .any ops (Lift w0 C0 Q) fuel listed a w := by
  obtain ⟨hd, hne, hback, hcert, hdeps⟩ := drawOk_spec hok
  have fin : ∀ (fuel : Nat) (listed : Array Bool) (a : Act) (w : World) (S1 : AState), listed.size = ops.size → (List.range ops.size).countP (fun i => !listed.getD i false) ≤ fuel → (∀ j, ds.length ≤ j → j < ops.size → listed.getD j false = false) → (∀ i, i < ds.length → listed.getD i false = true) →
      Mid ds Vs ks S listed S1 → Sim w0 C0 S1 a w → wpAny P .any ops (Lift w0 C0 Q) fuel listed a w := by
    intro fuel listed a w S1 hsz hf hnone hall hmid hs
    refine draw_tail (m := ds.length) hback hdeps tl 0 fuel listed a w hsz (by omega) (fun j o hj => by rw [Nat.add_zero]; exact htl j o hj) (fun j hj => hall j (by omega)) (fun j hj hjs => hnone j (by omega) hjs) ?_ (hL a w (hmid.final hall hs))
    have : (List.range ops.size).countP (fun i => !listed.getD i false) ≥ tl.length := by
      have e : List.range ops.size = List.range ds.length ++ (List.range tl.length).map (ds.length + ·) := by rw [← hlen, List.range_add]
      rw [e, List.countP_append]
      have : ((List.range tl.length).map (ds.length + ·)).countP (fun i => !listed.getD i false) = ((List.range tl.length).map (ds.length + ·)).length := by
        rw [List.countP_eq_length]
        intro j hj
        obtain ⟨k, hk, rfl⟩ := List.mem_map.1 hj
        rw [hnone _ (by omega) (by have := List.mem_range.1 hk; omega)]; rfl
      rw [List.length_map, List.length_range] at this; omega
    omega
  intro fuel
  induction fuel with
  | zero =>
    intro listed a w S1 hsz hf hnone hcl hmid hs
    have hz : (List.range ops.size).countP (fun j => !listed.getD j false) = 0 := by omega
    refine fin 0 listed a w S1 hsz hf hnone (fun j hj => ?_) hmid hs
    have := List.countP_eq_zero.1 hz j (List.mem_range.2 (by omega))
    simpa using this
  | succ fuel ih =>
    intro listed a w S1 hsz hf hnone hcl hmid hs
    by_cases hall : ∀ i, i < ds.length → listed.getD i false = true
    · exact fin _ listed a w S1 hsz hf hnone hall hmid hs
    refine ⟨fun hr => absurd (fun i hi => all_listed hsz hback hr i (by omega)) hall, fun i hi => ?_⟩
    obtain ⟨h1, h2, h3⟩ := ready_deps hi
    have hi' : i < listed.size := by omega
    have hlf : listed.getD i false = false := by simp [Array.getD, hi'] at h2 ⊢; exact h2
    have him : i < ds.length := by
      rcases Nat.lt_or_ge i ds.length with h | h
      · exact h
      · exfalso
        rcases Nat.lt_or_ge ds.length i with h' | h'
        · have hd' := hdeps (i - ds.length - 1) (by omega)
          rw [show ds.length + (i - ds.length - 1) + 1 = i by omega] at hd'
          have := h3 _ hd'
          rw [hnone _ (by omega) (by omega)] at this; cases this
        · have e : i = ds.length := by omega
          subst e
          refine hall (fun j hj => ?_)
          have key : ∀ k, k ≤ ds.length → ∀ j, ds.length - k = j → j < ds.length → listed.getD j false = true := by
            intro k
            induction k using Nat.strongRecOn with
            | _ k ihk =>
              intro hk j hj hji
              obtain ⟨j', hj1, hj2, hj3⟩ := hcert h1 j hji
              by_cases hjm : j' = ds.length
              · subst hjm; exact h3 j hj3
              · exact hcl j' (ihk (ds.length - j') (by omega) (by omega) j' (by omega) (by omega)) j hj3
          exact key (ds.length - j) (by omega) j (by omega) hj
    obtain ⟨o, ho, hdst⟩ := hd i him
    have hah : ∀ c, listed.getD c false = true → ahead ops c i = false := by
      intro c g2
      cases h : ahead ops c i with
      | false => rfl
      | true =>
        exfalso
        unfold ahead at h
        rw [Bool.or_eq_true] at h
        rcases h with h | h
        · obtain ⟨x, hx, hb⟩ := List.any_eq_true.1 h
          have := Nat.eq_of_beq_eq_true hb; subst this
          have := hcl c g2 _ hx; rw [hlf] at this; cases this
        · obtain ⟨d, hd1, hd2⟩ := List.any_eq_true.1 h
          obtain ⟨x, hx, hb⟩ := List.any_eq_true.1 hd2
          have := Nat.eq_of_beq_eq_true hb; subst this
          have := hcl d (hcl c g2 _ hd1) _ hx; rw [hlf] at this; cases this
    have hnk : ∀ t, liveB ops ks ds.length i t = true → ¬ Killed ks ds.length listed t := by
      rintro t hl ⟨c, g1, g2, g3⟩
      unfold liveB at hl
      have := List.all_eq_true.1 hl c (List.mem_range.2 g1)
      simp only [Bool.or_eq_true, Bool.not_eq_true', g3] at this
      rcases this with (h | h) | h
      · cases h
      · have := Nat.eq_of_beq_eq_true h; subst this; rw [hlf] at g2; cases g2
      · rw [hah c g2] at h; cases h
    refine wpOp_of_awl ho (hstep i him o ho S1 hmid.nt hmid.objs (fun j hj hjm hl => hmid.done j hjm (h3 j hj) (hnk _ hl)) (fun t x ht hl hx => hmid.rest t x ht (hnk _ hl) hx) (fun t tok sz l hx => (hmid.own t tok sz l hx).imp (fun h => let ⟨k, h1, h2, h3⟩ := h; ⟨k, h1, (by rintro e; rw [e, hlf] at h2; cases h2), hah k h2, h3⟩) id)) hs (fun a' w' S' hS' hs' => ?_)
    have hc := count_set (n := ops.size) h1 hi' hlf
    refine ih _ a' w' _ (by simp [hsz]) (by omega) (fun j hj hjs => by rw [getD_set_ne false (by omega)]; exact hnone j hj hjs) ?_ (hmid.step hne him hi' hS') hs'
    intro j hj k hk
    by_cases hij : i = j
    · subst hij; exact getD_set_true (h3 k hk)
    · rw [getD_set_ne false hij] at hj; exact getD_set_true (hcl j hj k hk)

theorem awp_draw {id : Nat} {l : List Oper} (ds : List Nat) (Vs : List SV) (ks : List (List Nat)) (hm : P.follows .mixedOrders = true) (hok : drawOk l.toArray ds = true) (hlen : Nat.ble ds.length l.length = true)
    (hstep : ∀ i, i < ds.length → DrawStep P w0 C0 l.toArray ds Vs ks S i) (hL : AWL P w0 C0 l.toArray (l.drop ds.length) Q (puts ds Vs ks ds.length S)) : AWP P w0 C0 (.region id l.toArray true) Q S := by
  intro a w hs
  have hlen' := Nat.le_of_ble_eq_true hlen
  refine wp_region_any hm (draw_any hok (tl := l.drop ds.length) (by simp; omega) (fun j o hj => by rw [List.getElem?_drop] at hj; simpa using hj) hstep hL _ _ a _ S (by simp) ?_ (fun j _ _ => by simp [Array.getD]) ?_ ⟨rfl, rfl, fun i hi hl => ?_, fun t x _ _ hx => hx, fun t tok sz l h => Or.inr h⟩ ?_)
  · have := List.countP_le_length (p := fun i => !(Array.replicate l.toArray.size false).getD i false) (l := List.range l.toArray.size); simpa using this
  · intro j hj; simp [Array.getD] at hj
  · simp [Array.getD] at hl
  · obtain ⟨C, T, hs⟩ := hs
    exact ⟨C, T, hs.drew⟩

/-! ### as a generator writes it -/
theorem parts_nil : S.parts [] = some [] := rfl
theorem parts_cons {i : Nat} {x : Operand} {sv : SV} {r : List (Nat × Operand)} {l : List (Nat × AV)} (hx : S.ev x = some sv) (h : S.parts r = some l) : S.parts ((i, x) :: r) = some ((i, sv.av) :: l) := by
  simp [AState.parts, hx, h]
def Steps (F : Nat → Prop) : Nat → Prop
  | 0 => True
  | k + 1 => Steps F k ∧ F k
theorem Steps.all {F : Nat → Prop} : ∀ {m : Nat}, Steps F m → ∀ i, i < m → F i
  | 0, _, i, hi => by omega
  | m + 1, h, i, hi => by
    by_cases e : i = m
    · subst e; exact h.2
    · exact Steps.all h.1 i (by omega)
def notIn (ds : List Nat) (t : Nat) : Bool := ds.all fun d => !(Nat.beq d t)
/-- whoever holds a token, is killed -/
def Only (sl : List (Nat × SV)) (ks : List (List Nat)) (i tok : Nat) : Prop := ∀ t sz l, find t sl = some (.own tok sz l) → killB ks i t = true
def Step1 (P : Program) (w0 : Base) (C0 : CS) (ops : Array Oper) (ds : List Nat) (Vs : List SV) (ks : List (List Nat)) (tks : List (Nat × Nat)) (S0 : AState) (i : Nat) : Prop :=
  ∃ o, ops[i]? = some o ∧ ∀ sl : List (Nat × SV), (∀ j v, Vs[j]? = some v → (depsOf ops i).contains j = true → liveB ops ks ds.length i (ds.getD j 0) = true → find (ds.getD j 0) sl = some v) →
    (∀ t x, notIn ds t = true → liveB ops ks ds.length i t = true → S0.get t = some x → find t sl = some x) → (∀ tok, (i, tok) ∈ tks → Only sl ks i tok) →
    AWL P w0 C0 ops [o] (fun e S' => e = .normal ∧ Post ds Vs ks i ⟨S0.nt, sl, S0.objs⟩ S') ⟨S0.nt, sl, S0.objs⟩
theorem Step1.draw {ds : List Nat} {Vs : List SV} {ks : List (List Nat)} {tks : List (Nat × Nat)} {i : Nat} (h : Step1 P w0 C0 ops ds Vs ks tks S i) (how : ownAll ops ds Vs ks tks S = true) (hlv : Nat.beq ds.length Vs.length = true) : DrawStep P w0 C0 ops ds Vs ks S i := by
  obtain ⟨o, ho, h⟩ := h
  intro o' ho' S1 hnt hobjs hd hr how'
  have : o' = o := by rw [ho] at ho'; exact (Option.some.inj ho').symm
  subst this
  obtain ⟨nt, sl, ob⟩ := S1
  simp only at hnt hobjs
  subst hnt hobjs
  have hlv0 := Nat.eq_of_beq_eq_true hlv
  refine h sl (fun j v hv hj hl => ?_) (fun t x ht hl hx => hr t x (fun i hi e => ?_) hl hx) (fun tok hm t sz l hf => ?_)
  · have hj' : j < Vs.length := (List.getElem?_eq_some_iff.1 hv).1
    have e : Vs.getD j (.a default) = v := by rw [List.getD_eq_getElem?_getD, hv]; rfl
    rw [← e]
    exact hd j (by simpa using hj) (by omega) hl
  · unfold notIn at ht
    have hm : ds.getD i 0 ∈ ds := by
      rw [List.getD_eq_getElem?_getD, List.getElem?_eq_getElem hi]; exact List.getElem_mem hi
    have := List.all_eq_true.1 ht _ hm
    rw [e] at this; simp at this
  · have hb := List.all_eq_true.1 how _ hm
    unfold ownsB at hb
    rw [Bool.and_eq_true] at hb
    have hlv' := Nat.eq_of_beq_eq_true hlv
    rcases how' t tok sz l hf with ⟨k, g1, g0, ga, g2, g3⟩ | g
    · have := List.all_eq_true.1 hb.1 k (List.mem_range.2 g1)
      have hbn : Nat.beq k i = false := by
        cases h : Nat.beq k i with
        | false => rfl
        | true => exact absurd (Nat.eq_of_beq_eq_true h) g0
      simp only [g3, holds, g2, ga, hbn, Nat.beq_refl, Bool.not_true, Bool.false_or, Bool.or_false] at this
      exact this
    · have := List.all_eq_true.1 hb.2 _ (find_mem g)
      simp only [holds, Nat.beq_refl, Bool.not_true, Bool.false_or] at this
      exact this

theorem post_put {ds : List Nat} {Vs : List SV} {ks : List (List Nat)} {i : Nat} : Post ds Vs ks i S (S.put (ds.getD i 0) (Vs.getD i (.a default))) where
  nt := rfl
  objs := rfl
  new := by simp [AState.get, AState.put, find_cons]
  keep := fun t x ht _ hx => by simp only [AState.get, AState.put, find_cons]; rw [if_neg (fun e => ht e.symm)]; exact hx
  own := fun t tok sz l ht hx => by simp only [AState.get, AState.put, find_cons] at hx; rw [if_neg (fun e => ht e.symm)] at hx; exact hx
theorem find_dem {tok t : Nat} {x : SV} {l : List (Nat × SV)} (h : find t l = some x) : find t (l.map (fun p => (p.1, p.2.dem tok))) = some (x.dem tok) := by
  induction l with
  | nil => simp [find] at h
  | cons p r ih =>
    obtain ⟨k, y⟩ := p
    rw [find_cons] at h
    rw [List.map_cons, find_cons]
    split at h
    · rename_i e; cases h; simp [e]
    · rename_i e; simp only [e, if_false]; exact ih h
theorem post_dem {ds : List Nat} {Vs : List SV} {ks : List (List Nat)} {i tok : Nat} (h : Only S.slots ks i tok) : Post ds Vs ks i S ((S.dem tok).put (ds.getD i 0) (Vs.getD i (.a default))) where
  nt := rfl
  objs := rfl
  new := by simp [AState.get, AState.put, find_cons]
  keep := fun t x ht hk hx => by
    simp only [AState.get, AState.put, find_cons]
    rw [if_neg (fun e => ht e.symm)]
    have := find_dem (tok := tok) hx
    have e : x.dem tok = x := by
      cases x with
      | a x => rfl
      | own k sz l =>
        simp only [SV.dem]
        cases e : Nat.beq k tok with
        | true => have e' := Nat.eq_of_beq_eq_true e; subst e'; have := h t sz l hx; rw [hk] at this; cases this
        | false => rfl
    rw [e] at this; exact this
  own := fun t tok' sz l ht hx => by
    simp only [AState.get, AState.put, find_cons] at hx
    rw [if_neg (fun e => ht e.symm)] at hx
    obtain ⟨y, hy, he⟩ := find_map hx
    cases y with
    | a x => simp [SV.dem] at he
    | own k sz' l' =>
      simp only [SV.dem] at he
      cases e : Nat.beq k tok with
      | true => rw [e] at he; cases he
      | false => rw [e] at he; simp only [cond_false] at he; rw [← he] at hy; exact hy
theorem awp_drawS {id : Nat} {l : List Oper} (ds : List Nat) (Vs : List SV) (ks : List (List Nat)) (tks : List (Nat × Nat)) (hm : P.follows .mixedOrders = true) (hok : drawOk l.toArray ds = true) (hlen : Nat.ble ds.length l.length = true) (hlv : Nat.beq ds.length Vs.length = true)
    (hstep : Steps (Step1 P w0 C0 l.toArray ds Vs ks tks S) ds.length) (how : ownAll l.toArray ds Vs ks tks S = true) (hQ : AWL P w0 C0 l.toArray (l.drop ds.length) Q (puts ds Vs ks ds.length S)) : AWP P w0 C0 (.region id l.toArray true) Q S :=
  awp_draw ds Vs ks hm hok hlen (fun i hi => (hstep.all i hi).draw how hlv) hQ
end Go.Proofs.Ytmbfmnhcahhciaa.A

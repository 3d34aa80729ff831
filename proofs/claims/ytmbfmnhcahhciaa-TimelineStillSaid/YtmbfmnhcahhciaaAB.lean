/- Rules of walks: a region in any order, by an invariant on the set of what is done. -/
import Derived.Test.YtmbfmnhcahhciaaAA
namespace Go.Proofs.Ytmbfmnhcahhciaa.A
open Go Go.RowKit
set_option linter.unusedVariables false
set_option linter.unusedSimpArgs false
set_option linter.unusedSectionVars false
variable {P : Program} {w0 : Base} {C0 C : CS} {T : TS} {S S' : AState} {a : Act} {w : World} {ops : Array Oper} {rest : List Oper} {o : Oper} {Q : Exit → AState → Prop}

def backB (ops : Array Oper) : Bool := (List.range ops.size).all (fun i => (depsOf ops i).all fun j => decide (j < i))
def setB (B : Nat → Bool) (i : Nat) : Nat → Bool := fun j => cond (Nat.beq j i) true (B j)
theorem setB_same {B : Nat → Bool} {i : Nat} : setB B i i = true := by simp [setB]
theorem setB_ne {B : Nat → Bool} {i j : Nat} (h : Nat.beq j i = false) : setB B i j = B j := by simp [setB, h]
/-- one step of a region in any order -/
def AnyStep (P : Program) (w0 : Base) (C0 : CS) (ops : Array Oper) (I : (Nat → Bool) → AState → Prop) (i : Nat) : Prop :=
  ∃ o, ops[i]? = some o ∧ ∀ (B : Nat → Bool) (S : AState), B i = false → (∀ j, (depsOf ops i).contains j = true → B j = true) → (∀ j k, B j = true → (depsOf ops j).contains k = true → B k = true) → I B S →
    AWL P w0 C0 ops [o] (fun e S' => e = .normal ∧ I (setB B i) S') S
theorem any_wp {I : (Nat → Bool) → AState → Prop} (hb : backB ops = true) (hstep : ∀ i, i < ops.size → AnyStep P w0 C0 ops I i) (hend : ∀ B S, (∀ i, i < ops.size → B i = true) → I B S → Q .normal S) :
    ∀ (fuel : Nat) (listed : Array Bool) (a : Act) (w : World) (S1 : AState) (B : Nat → Bool), listed.size = ops.size → (List.range ops.size).countP (fun i => !listed.getD i false) ≤ fuel → (∀ j, j < ops.size → B j = listed.getD j false) → (∀ j, ops.size ≤ j → B j = false) → (∀ j k, B j = true → (depsOf ops j).contains k = true → B k = true) →
      I B S1 → Sim w0 C0 S1 a w → wpAny P .any ops (Lift w0 C0 Q) fuel listed a w := by
  have hback : ∀ i, i < ops.size → ∀ j ∈ depsOf ops i, j < i := fun i hi j hj => by
    have := List.all_eq_true.1 hb i (List.mem_range.2 hi)
    exact of_decide_eq_true (List.all_eq_true.1 this j hj)
  have fin : ∀ (fuel : Nat) (listed : Array Bool) (a : Act) (w : World) (S1 : AState) (B : Nat → Bool), listed.size = ops.size → (∀ j, j < ops.size → B j = listed.getD j false) → (∀ i, i < ops.size → listed.getD i false = true) → I B S1 → Sim w0 C0 S1 a w → wpAny P .any ops (Lift w0 C0 Q) fuel listed a w := by
    intro fuel listed a w S1 B hsz hB hall hI hs
    have hq : Lift w0 C0 Q .normal a w := ⟨S1, hs, hend B S1 (fun i hi => by rw [hB i hi]; exact hall i hi) hI⟩
    have hr : Region.ready .any ops listed = [] := by
      cases hr : Region.ready .any ops listed with
      | nil => rfl
      | cons j r =>
        have hj : j ∈ Region.ready .any ops listed := by rw [hr]; simp
        obtain ⟨k1, k2, _⟩ := ready_deps hj
        have := hall j k1
        have hjs : j < listed.size := by omega
        simp [Array.getD, hjs] at this k2
        rw [this] at k2; cases k2
    cases fuel with
    | zero => exact ⟨hr, hq⟩
    | succ f => exact ⟨fun _ => hq, fun j hj => by rw [hr] at hj; cases hj⟩
  intro fuel
  induction fuel with
  | zero =>
    intro listed a w S1 B hsz hf hB hB2 hcl hI hs
    have hz : (List.range ops.size).countP (fun j => !listed.getD j false) = 0 := by omega
    refine fin 0 listed a w S1 B hsz hB (fun j hj => ?_) hI hs
    have := List.countP_eq_zero.1 hz j (List.mem_range.2 hj)
    simpa using this
  | succ fuel ih =>
    intro listed a w S1 B hsz hf hB hB2 hcl hI hs
    by_cases hall : ∀ i, i < ops.size → listed.getD i false = true
    · exact fin _ listed a w S1 B hsz hB hall hI hs
    refine ⟨fun hr => absurd (fun i hi => all_listed hsz hback hr i hi) hall, fun i hi => ?_⟩
    obtain ⟨h1, h2, h3⟩ := ready_deps hi
    have hi' : i < listed.size := by omega
    have hlf : listed.getD i false = false := by simp [Array.getD, hi'] at h2 ⊢; exact h2
    obtain ⟨o, ho, hst⟩ := hstep i h1
    refine wpOp_of_awl ho (hst B S1 (by rw [hB i h1]; exact hlf) (fun j hj => by
      have hj' : j ∈ depsOf ops i := by simpa using hj
      rw [hB j (by have := hback i h1 j hj'; omega)]; exact h3 j hj') hcl hI) hs (fun a' w' S' hS' hs' => ?_)
    have hc := count_set (n := ops.size) h1 hi' hlf
    refine ih _ a' w' S' (setB B i) (by simp [hsz]) (by omega) (fun j hj => ?_) (fun j hj => ?_) (fun j k hj hk => ?_) hS' hs'
    · by_cases e : j = i
      · subst e; rw [setB_same]; simp [Array.getD, hi']
      · have hbn : Nat.beq j i = false := by cases h : Nat.beq j i with | false => rfl | true => exact absurd (Nat.eq_of_beq_eq_true h) e
        rw [setB_ne hbn, getD_set_ne false (fun h => e h.symm)]; exact hB j hj
    · have hbn : Nat.beq j i = false := by cases h : Nat.beq j i with | false => rfl | true => exact absurd (Nat.eq_of_beq_eq_true h) (by omega)
      rw [setB_ne hbn]; exact hB2 j hj
    · have key : B k = true := by
        by_cases e : j = i
        · subst e
          have hk' : k ∈ depsOf ops j := by simpa using hk
          rw [hB k (by have := hback j h1 k hk'; omega)]; exact h3 k hk'
        · have hbn : Nat.beq j i = false := by cases h : Nat.beq j i with | false => rfl | true => exact absurd (Nat.eq_of_beq_eq_true h) e
          rw [setB_ne hbn] at hj; exact hcl j k hj hk
      unfold setB
      cases Nat.beq k i <;> simp [key]
theorem awp_any {id : Nat} {l : List Oper} (I : (Nat → Bool) → AState → Prop) (hm : P.follows .mixedOrders = true) (hb : backB l.toArray = true) (h0 : I (fun _ => false) S)
    (hstep : Steps (AnyStep P w0 C0 l.toArray I) l.length) (hend : ∀ B S, (∀ i, i < l.length → B i = true) → I B S → Q .normal S) : AWP P w0 C0 (.region id l.toArray true) Q S := by
  intro a w hs
  refine wp_region_any hm (any_wp hb (fun i hi => hstep.all i (by simpa using hi)) (fun B S h hI => hend B S (fun i hi => h i (by simpa using hi)) hI) _ _ a _ S (fun _ => false) (by simp) ?_ (fun j hj => by simp [Array.getD]) (fun _ _ => rfl) (fun j k h => by cases h) h0 ?_)
  · have := List.countP_le_length (p := fun i => !(Array.replicate l.toArray.size false).getD i false) (l := List.range l.toArray.size); simpa using this
  · obtain ⟨C, T, hs⟩ := hs
    exact ⟨C, T, hs.drew⟩
theorem get_put {t k : Nat} {x : SV} : (S.put k x).get t = if k = t then some x else S.get t := by simp only [AState.get, AState.put, find_cons]
theorem get_put_same {t : Nat} {x : SV} : (S.put t x).get t = some x := by rw [get_put, if_pos rfl]
theorem get_put_ne {t k : Nat} {x : SV} (h : Nat.beq k t = false) : (S.put k x).get t = S.get t := by
  rw [get_put, if_neg (fun e => by subst e; simp at h)]
/-- what is known of some slots -/
def Knows (S : AState) (l : List (Nat × SV)) : Prop := ∀ p ∈ l, S.get p.1 = some p.2
theorem knows_put {l : List (Nat × SV)} {k : Nat} {x : SV} (h : Knows S l) (hn : l.all (fun p => !(Nat.beq k p.1)) = true) : Knows (S.put k x) l := fun p hp => by
  rw [get_put_ne (by have := List.all_eq_true.1 hn p hp; simpa using this)]; exact h p hp
theorem knows_get {l : List (Nat × SV)} {t : Nat} {x : SV} (h : Knows S l) (hf : find t l = some x) : S.get t = some x := h (t, x) (find_mem hf)
theorem knows_objs {l : List (Nat × SV)} {ob : List OE} (h : Knows S l) : Knows ⟨S.nt, S.slots, ob⟩ l := fun p hp => h p hp
/-- a row is committed, whose slice lies in a box -/
theorem imp_commitBx (i j : Nat) {bx g n cap sz e : Nat} {l : List (List AV)} (hn : n = l.length) (hi : S.objs[i]? = some ⟨g, true, .buf sz l cap e⟩) (hj : (S.objs.eraseIdx i)[j]? = some ⟨bx, true, .box [.v (.slice (some ⟨g, 0, none⟩) n cap)]⟩) :
    Imp w0 C0 S ⟨S.nt, S.slots, (S.objs.eraseIdx i).set j ⟨bx, true, .box [.sl sz l]⟩⟩ := by
  rintro a w ⟨C, T, hs⟩
  subst hn
  have hm := mem_of_get hi
  obtain ⟨hob, hnone', hbase⟩ := hs.objs _ hm
  obtain ⟨arr, a1, a2, a3, a4, vs, a5, a6, a7⟩ := hob
  have hnone : ∀ o, C g o = none := hnone'
  have hbase' : w0.ok g := hbase rfl
  have hvl : vs.length = l.length * sz := by rw [a5.1, flat_len a4]
  have hmono := CS.add_mono (C := C) (b := g) (o := 0) (vs := vs) (fun j _ => hnone _)
  have hsub := List.eraseIdx_sublist (l := S.objs) (k := i)
  have hp := set_take (y := (⟨g, true, .buf sz l cap e⟩ : OE)) hi
  have hp' : ((⟨g, true, .buf sz l cap e⟩ : OE) :: S.objs.eraseIdx i).Perm S.objs := by
    have : S.objs.set i ⟨g, true, .buf sz l cap e⟩ = S.objs := by
      apply List.ext_getElem?
      intro j
      rw [List.getElem?_set]
      by_cases hij : i = j
      · subst hij; rw [if_pos rfl]; split
        · exact hi.symm
        · rename_i h; rw [List.getElem?_eq_none (by omega)]
      · simp [hij]
    rw [this] at hp; exact hp
  have hne : ∀ e', e' ∈ S.objs.eraseIdx i → e'.b ≠ g := fun e' he h => by
    have := (hp'.pairwise_iff (R := fun e e' : OE => e.b ≠ e'.b) (fun h => fun e => h e.symm)).2 hs.apart
    exact (List.pairwise_cons.1 this).1 e' he h.symm
  have hstep : SimC w0 C0 (C.add g 0 vs) T ⟨S.nt, S.slots, S.objs.eraseIdx i⟩ a w := by
    refine hs.step (BelowX.refl _) (fun _ => Nat.le_refl _) (fun _ _ h => h) ?_ ?_ (fun b' o' hb' hn => CS.add_other (fun e => by subst e; rcases hbase' with h | h; omega; exact hn h)) ?_ (hs.apart.sublist hsub) ?_ hs.tokne (fun t x hx => ⟨x, hx, fun u r => SRel.mono hmono r⟩)
    · intro b' o' v hc
      rcases CS.add_cases hc with ⟨rfl, j, rfl, hj⟩ | hc'
      · rw [cell_of_row w b' _ arr e (0, 0) a1, Nat.zero_add]
        have hlt := (List.getElem?_eq_some_iff.1 hj).1
        rw [← a7, List.getElem?_take, if_pos (by omega)] at hj
        simpa using hj
      · exact hs.com _ _ _ hc'
    · intro b' o' v hc
      rcases CS.add_cases hc with ⟨rfl, j, rfl, hj⟩ | hc'
      · exact a6 v (List.mem_of_getElem? hj)
      · exact hs.one _ _ _ hc'
    · intro e' he
      obtain ⟨k1, k2, k3⟩ := hs.objs e' (hsub.mem he)
      exact ⟨k1.mono hmono rfl, fun o => by rw [CS.add_other (hne e' he)]; exact k2 o, k3⟩
    · intro k j hk
      obtain ⟨k1, k2⟩ := hs.toks k j hk
      have hkb : j.b ≠ g := fun e => k2 _ hm e.symm
      exact ⟨k1.keep rfl (fun o => CS.add_other hkb), fun e he => k2 e (hsub.mem he)⟩
  have hx : Rel (C.add g 0 vs) (.sl sz l) (.slice (some ⟨g, 0, none⟩) l.length cap) :=
    rel_sl_mk g 0 rfl a3 (fun _ => rfl) (row_mk a4 (a5.mono hmono) (fun j v hj => CS.add_at hj))
  have hob := (hstep.objs _ (mem_of_get hj)).1
  obtain ⟨barr, bt, b1, b2⟩ := hob
  have hcells : barr.toList = [.slice (some ⟨g, 0, none⟩) l.length cap] := by
    obtain ⟨u, us, hu, hu1, hu2⟩ := b2.cons_inv
    have := hu2.nil_inv; subst this
    cases hu1
    exact hu
  exact ⟨_, T, hstep.setObj hj (w' := w) (Nat.le_refl _) rfl rfl rfl rfl (fun _ _ => rfl) ⟨barr, bt, b1, by rw [hcells]; exact Rels.cons hx Rels.nil⟩⟩
/-- what lies in a box, weakened -/
theorem imp_boxLe (i : Nat) {b : Nat} {cs cs' : List AV} (hi : S.objs[i]? = some ⟨b, true, .box cs⟩) (h : LeCells cs cs') : Imp w0 C0 S ⟨S.nt, S.slots, S.objs.set i ⟨b, true, .box cs'⟩⟩ := by
  rintro a w ⟨C, T, hs⟩
  obtain ⟨barr, bt, b1, b2⟩ := (hs.objs _ (mem_of_get hi)).1
  exact ⟨C, T, hs.setObj hi (w' := w) (Nat.le_refl _) rfl rfl rfl rfl (fun _ _ => rfl) ⟨barr, bt, b1, h.rels b2⟩⟩
theorem r_sliceHe {t : Nat} {ty : TypeId} {pos : String} {aft : Array Edge} (l' : List (List AV)) {xt e sz : Nat} {x : Operand} {sv : SV} {l : List (List AV)} {y : Operand} {k : IntKind} {hi : Int} (he : l.take hi.toNat = l') (hx : S.ev x = some sv) (hl : sv.av = .sl sz l) (hy : S.ev y = some (.a (.v (.int k hi)))) (hst : sliceT P xt = some e) (hsz : szT P e = some sz)
    (h0 : 0 ≤ hi) (h1 : hi ≤ l.length) (ht : Nat.blt t S.nt = true) (hr : AWL P w0 C0 ops rest Q (S.put t (.a (.sl sz l')))) : AWL P w0 C0 ops (⟨some t, .slice xt x none (some y) none, ty, pos, aft, none⟩ :: rest) Q S := by
  subst he; exact r_sliceH hx hl hy hst hsz h0 h1 ht hr
theorem r_sliceLe {t : Nat} {ty : TypeId} {pos : String} {aft : Array Edge} (l' : List (List AV)) {xt e sz : Nat} {x : Operand} {sv : SV} {l : List (List AV)} {y : Operand} {k : IntKind} {lo : Int} (he : l.drop lo.toNat = l') (hx : S.ev x = some sv) (hl : sv.av = .sl sz l) (hy : S.ev y = some (.a (.v (.int k lo)))) (hst : sliceT P xt = some e) (hsz : szT P e = some sz)
    (h0 : 0 ≤ lo) (h1 : lo ≤ l.length) (ht : Nat.blt t S.nt = true) (hr : AWL P w0 C0 ops rest Q (S.put t (.a (.sl sz l')))) : AWL P w0 C0 ops (⟨some t, .slice xt x (some y) none none, ty, pos, aft, none⟩ :: rest) Q S := by
  subst he; exact r_sliceL hx hl hy hst hsz h0 h1 ht hr
end Go.Proofs.Ytmbfmnhcahhciaa.A

/- Layer 62: what changed makes the one the other. -/
import Derived.Test.YtmbfmnhcahhciaaX62T
namespace Go.Proofs.Ytmbfmnhcahhciaa.A
open Go Go.RowKit Go.Maps Go.Sort
set_option linter.unusedVariables false
set_option linter.unusedSimpArgs false

theorem ite_iff2 {α : Type} {p p' q q' : Prop} {_ : Decidable p} {_ : Decidable p'} {_ : Decidable q} {_ : Decidable q'} {x y z : α} (h1 : p' ↔ p) (h2 : q' ↔ q) : (if p then x else if q then y else z) = if p' then x else if q' then y else z := by
  by_cases hp : p
  · rw [if_pos hp, if_pos (h1.2 hp)]
  · rw [if_neg hp, if_neg (fun h => hp (h1.1 h))]
    by_cases hq : q
    · rw [if_pos hq, if_pos (h2.2 hq)]
    · rw [if_neg hq, if_neg (fun h => hq (h2.1 h))]
open Classical in
structure StM (a b : List File) (F T : List ByteArray) (m : SM) : Prop where
  nd : (m.map (·.1)).Nodup
  get : ∀ x, mget m x = if x ∈ F then none else if x ∈ T then lookF b x else lookF a x
variable {a b : List File} {F T : List ByteArray} {m : SM}
theorem st_ren (h : StM a b F T m) {s t : ByteArray} {d : List UInt8} (hs : s ∉ F) (hsT : s ∉ T) (ht : t ∉ F) (htT : t ∉ T) (ha : lookF a s = some d) (hat : lookF a t = none) (hb : lookF b t = some d) :
    ∃ m', stepM m ⟨4, s, t, []⟩ = (0, m') ∧ StM a b (s :: F) (t :: T) m' := by
  have g1 : mget m s = some d := by rw [h.get, if_neg hs, if_neg hsT, ha]
  have g2 : mget m t = none := by rw [h.get, if_neg ht, if_neg htT, hat]
  refine ⟨mdel (mset m t d) s, by simp [stepM, alterM, g1, g2], (mset_nodup h.nd).sublist ((mdel_sub _ _).map _), fun x => ?_⟩
  rw [mget_mdel _ _ _ (mset_nodup h.nd), mget_mset, h.get]
  by_cases h1 : s = x
  · subst h1; simp
  · have h1' : ¬ x = s := fun e => h1 e.symm
    by_cases h2 : t = x
    · subst h2; simp [h1, h1', ht, hb]
    · have h2' : ¬ x = t := fun e => h2 e.symm
      rw [if_neg h1, if_neg h2]
      exact ite_iff2 (by simp [h1']) (by simp [h2'])
theorem st_gone (h : StM a b F T m) {s : ByteArray} {d : List UInt8} (hs : s ∉ F) (hsT : s ∉ T) (ha : lookF a s = some d) :
    ∃ m', stepM m ⟨2, s, E0, []⟩ = (0, m') ∧ StM a b (s :: F) T m' := by
  have g1 : mget m s = some d := by rw [h.get, if_neg hs, if_neg hsT, ha]
  refine ⟨mdel m s, by simp [stepM, alterM, g1], h.nd.sublist ((mdel_sub _ _).map _), fun x => ?_⟩
  rw [mget_mdel _ _ _ h.nd, h.get]
  by_cases h1 : s = x
  · subst h1; simp
  · have h1' : ¬ x = s := fun e => h1 e.symm
    rw [if_neg h1]
    exact ite_iff2 (by simp [h1']) Iff.rfl
theorem st_chg (h : StM a b F T m) {s : ByteArray} {d : List UInt8} (hs : s ∉ F) (ha : (lookF a s).isSome = true) (hb : lookF b s = some d) :
    ∃ m', stepM m ⟨3, s, E0, d⟩ = (0, m') ∧ StM a b F (s :: T) m' := by
  have g1 : (mget m s).isSome = true := by
    rw [h.get, if_neg hs]
    by_cases h1 : s ∈ T
    · rw [if_pos h1, hb]; rfl
    · rw [if_neg h1]; exact ha
  refine ⟨mset m s d, by simp [stepM, alterM, g1], mset_nodup h.nd, fun x => ?_⟩
  rw [mget_mset, h.get]
  by_cases h1 : s = x
  · subst h1; simp [hs, hb]
  · have h1' : ¬ x = s := fun e => h1 e.symm
    rw [if_neg h1]
    exact ite_iff2 Iff.rfl (by simp [h1'])
theorem st_add (h : StM a b F T m) {t : ByteArray} {d : List UInt8} (ht : t ∉ F) (htT : t ∉ T) (hat : lookF a t = none) (hb : lookF b t = some d) :
    ∃ m', stepM m ⟨1, t, E0, d⟩ = (0, m') ∧ StM a b F (t :: T) m' := by
  have g2 : mget m t = none := by rw [h.get, if_neg ht, if_neg htT, hat]
  refine ⟨mset m t d, by simp [stepM, g2], mset_nodup h.nd, fun x => ?_⟩
  rw [mget_mset, h.get]
  by_cases h1 : t = x
  · subst h1; simp [ht, hb]
  · have h1' : ¬ x = t := fun e => h1 e.symm
    rw [if_neg h1]
    exact ite_iff2 Iff.rfl (by simp [h1'])

/-! ### the rounds of the renamings -/
theorem went_in {a b : List File} {s : ByteArray} : s ∈ wentF a b ↔ (lookF a s).isSome = true ∧ lookF b s = none := by
  unfold wentF
  rw [List.mem_filter, names_in]
  simp
theorem sorted_nd {l : List ByteArray} (h : SortedS l) : l.Nodup := h.imp (fun {x y} hxy e => by rw [e, ltS_irrefl] at hxy; cases hxy)
theorem names_nd (l : List File) : (namesF l).Nodup := sorted_nd (names_ok l)
theorem went_nd (a b : List File) : (wentF a b).Nodup := (names_nd a).filter _
def renF (p : ByteArray × ByteArray) : FC := ⟨4, p.1, p.2, []⟩
def goneF (s : ByteArray) : FC := ⟨2, s, E0, []⟩
structure Rounds (a b : List File) (k : Nat) (R : List (ByteArray × ByteArray)) (G came : List ByteArray) : Prop where
  fst : (R.map (·.1) ++ G).Perm ((wentF a b).take k)
  snd : (R.map (·.2) ++ came).Perm (wentF b a)
  eq : ∀ p ∈ R, lookF a p.1 = lookF b p.2
theorem hit_eq {a b : List File} {s t : ByteArray} (h : hitF a b s t = true) (hs : (lookF a s).isSome = true) (ht : (lookF b t).isSome = true) : lookF a s = lookF b t := by
  unfold hitF at h
  simp only [Bool.and_eq_true, decide_eq_true_eq] at h
  obtain ⟨x, hx⟩ := Option.isSome_iff_exists.1 hs
  obtain ⟨y, hy⟩ := Option.isSome_iff_exists.1 ht
  have := h.2
  rw [hx, hy] at this ⊢
  simpa using this
theorem rounds (a b : List File) : ∀ k, k ≤ (wentF a b).length → ∃ R G came, splitF a b k = (came, R.map renF, G.map goneF) ∧ Rounds a b k R G came
  | 0, _ => ⟨[], [], wentF b a, rfl, ⟨by simp, by simp, by simp⟩⟩
  | k + 1, hk => by
    obtain ⟨R, G, came, h1, h2⟩ := rounds a b k (by omega)
    obtain ⟨s, hs⟩ := get_lt (show k < (wentF a b).length by omega)
    have hsm := went_in.1 (List.mem_of_getElem? hs)
    cases hf : came.findIdx? (hitF a b s) with
    | none =>
      refine ⟨R, G ++ [s], came, ?_, ?_, h2.snd, h2.eq⟩
      · rw [split_none hs h1 hf, List.map_append]; rfl
      · rw [takeS hs, ← List.append_assoc]; exact h2.fst.append_right _
    | some i =>
      obtain ⟨t, ht, hh⟩ := fidx_get hf
      have htm : t ∈ wentF b a := h2.snd.mem_iff.1 (List.mem_append_right _ (List.mem_of_getElem? ht))
      have hi := (List.getElem?_eq_some_iff.1 ht).1
      refine ⟨R ++ [(s, t)], G, came.eraseIdx i, ?_, ?_, ?_, ?_⟩
      · rw [split_some hs h1 hf ht, List.map_append]; rfl
      · rw [takeS hs, List.map_append, List.append_assoc]
        refine (List.Perm.append_left _ List.perm_append_comm).trans ?_
        rw [← List.append_assoc]
        exact h2.fst.append_right _
      · refine List.Perm.trans ?_ h2.snd
        rw [List.map_append, List.append_assoc]
        refine List.Perm.append_left _ ?_
        have e : came.take i ++ t :: came.drop (i + 1) = came := by
          have h3 : came.drop i = t :: came.drop (i + 1) := by rw [List.drop_eq_getElem_cons hi, (List.getElem?_eq_some_iff.1 ht).2]
          rw [← h3, List.take_append_drop]
        have h4 : (t :: came.eraseIdx i).Perm (came.take i ++ t :: came.drop (i + 1)) := by rw [List.eraseIdx_eq_take_drop_succ]; exact List.perm_middle.symm
        exact h4.trans (by rw [e])
      · intro p hp
        rcases List.mem_append.1 hp with hp | hp
        · exact h2.eq p hp
        · obtain rfl := List.mem_singleton.1 hp
          exact hit_eq hh hsm.1 (went_in.1 htm).1

/-! ### the phases -/
theorem applyM_cons {m m1 : SM} {c : FC} {d : List FC} (h : stepM m c = (0, m1)) : applyM m (c :: d) = applyM m1 d := by
  unfold applyM; rw [List.foldl_cons]; simp [h]
theorem ph_ren : ∀ (R : List (ByteArray × ByteArray)) (F T : List ByteArray) (m : SM), StM a b F T m → (R.map (·.1)).Nodup → (R.map (·.2)).Nodup → (∀ p ∈ R, (lookF a p.1).isSome = true ∧ lookF b p.1 = none ∧ lookF a p.2 = none ∧ lookF a p.1 = lookF b p.2) →
    (∀ p ∈ R, p.1 ∉ F ∧ p.2 ∉ T) → (∀ x ∈ F, lookF b x = none) → (∀ x ∈ T, lookF a x = none) →
    ∃ F' T' m', applyM m (R.map renF) = (0, m') ∧ StM a b F' T' m' ∧ (∀ x, x ∈ F' ↔ x ∈ F ∨ x ∈ R.map (·.1)) ∧ (∀ x, x ∈ T' ↔ x ∈ T ∨ x ∈ R.map (·.2))
  | [], F, T, m, h, _, _, _, _, _, _ => ⟨F, T, m, rfl, h, by simp, by simp⟩
  | (s, t) :: R, F, T, m, h, n1, n2, hp, hn, hF, hT => by
    obtain ⟨q1, q2, q3, q4⟩ := hp (s, t) (by simp)
    obtain ⟨r1, r2⟩ := hn (s, t) (by simp)
    simp only at q1 q2 q3 q4 r1 r2
    obtain ⟨d, hd⟩ := Option.isSome_iff_exists.1 q1
    have hbt : lookF b t = some d := by rw [← q4, hd]
    rw [List.map_cons, List.nodup_cons] at n1 n2
    obtain ⟨m1, e1, st1⟩ := st_ren h r1 (fun hs => by rw [hT s hs] at hd; cases hd) (fun ht => by rw [hF t ht] at hbt; cases hbt) r2 hd q3 hbt
    obtain ⟨F', T', m', g1, g2, g3, g4⟩ := ph_ren R (s :: F) (t :: T) m1 st1 n1.2 n2.2 (fun p hp' => hp p (by simp [hp'])) (fun p hp' => by
        obtain ⟨k1, k2⟩ := hn p (by simp [hp'])
        refine ⟨fun hm => ?_, fun hm => ?_⟩
        · rcases List.mem_cons.1 hm with e | hm
          · exact n1.1 (by rw [← e]; exact List.mem_map.2 ⟨p, hp', rfl⟩)
          · exact k1 hm
        · rcases List.mem_cons.1 hm with e | hm
          · exact n2.1 (by rw [← e]; exact List.mem_map.2 ⟨p, hp', rfl⟩)
          · exact k2 hm) (fun x hx => by rcases List.mem_cons.1 hx with rfl | hx; exact q2; exact hF x hx) (fun x hx => by rcases List.mem_cons.1 hx with rfl | hx; exact q3; exact hT x hx)
    refine ⟨F', T', m', by rw [List.map_cons, applyM_cons (show stepM m (renF (s, t)) = (0, m1) from e1)]; exact g1, g2, fun x => ?_, fun x => ?_⟩
    · rw [g3, List.map_cons, List.mem_cons, List.mem_cons]
      constructor
      · rintro ((h | h) | h) <;> simp [h]
      · rintro (h | h | h) <;> simp [h]
    · rw [g4, List.map_cons, List.mem_cons, List.mem_cons]
      constructor
      · rintro ((h | h) | h) <;> simp [h]
      · rintro (h | h | h) <;> simp [h]
theorem ph_gone : ∀ (G : List ByteArray) (F T : List ByteArray) (m : SM), StM a b F T m → G.Nodup → (∀ s ∈ G, (lookF a s).isSome = true ∧ s ∉ F ∧ s ∉ T) →
    ∃ F' m', applyM m (G.map goneF) = (0, m') ∧ StM a b F' T m' ∧ ∀ x, x ∈ F' ↔ x ∈ F ∨ x ∈ G
  | [], F, T, m, h, _, _ => ⟨F, m, rfl, h, by simp⟩
  | s :: G, F, T, m, h, n, hp => by
    obtain ⟨q1, q2, q3⟩ := hp s (by simp)
    obtain ⟨d, hd⟩ := Option.isSome_iff_exists.1 q1
    rw [List.nodup_cons] at n
    obtain ⟨m1, e1, st1⟩ := st_gone h q2 q3 hd
    obtain ⟨F', m', g1, g2, g3⟩ := ph_gone G (s :: F) T m1 st1 n.2 (fun x hx => by
      obtain ⟨k1, k2, k3⟩ := hp x (by simp [hx])
      exact ⟨k1, fun hm => by rcases List.mem_cons.1 hm with e | hm; exact n.1 (by rw [← e]; exact hx); exact k2 hm, k3⟩)
    refine ⟨F', m', by rw [List.map_cons, applyM_cons (show stepM m (goneF s) = (0, m1) from e1)]; exact g1, g2, fun x => ?_⟩
    rw [g3, List.mem_cons, List.mem_cons]
    constructor
    · rintro ((h | h) | h) <;> simp [h]
    · rintro (h | h | h) <;> simp [h]
theorem ph_chg : ∀ (N : List ByteArray) (F T : List ByteArray) (m : SM), StM a b F T m → (∀ s ∈ N, (lookF a s).isSome = true) → (∀ x ∈ F, lookF b x = none) →
    ∃ T' m', applyM m (N.filterMap (chgF a b)) = (0, m') ∧ StM a b F T' m' ∧ (∀ x, x ∈ T' → x ∈ T ∨ x ∈ N) ∧ (∀ x, x ∈ T → x ∈ T') ∧ ∀ x ∈ N, (chgF a b x).isSome = true → x ∈ T'
  | [], F, T, m, h, _, _ => ⟨T, m, rfl, h, by simp, by simp, by simp⟩
  | s :: N, F, T, m, h, hp, hF => by
    cases hc : chgF a b s with
    | none =>
      obtain ⟨T', m', g1, g2, g3, g4, g5⟩ := ph_chg N F T m h (fun x hx => hp x (by simp [hx])) hF
      refine ⟨T', m', by rw [List.filterMap_cons, hc]; exact g1, g2, fun x hx => (g3 x hx).imp id (fun h => by simp [h]), g4, fun x hx hs => ?_⟩
      rcases List.mem_cons.1 hx with rfl | hx
      · rw [hc] at hs; cases hs
      · exact g5 x hx hs
    | some c =>
      obtain ⟨d, hd, rfl⟩ : ∃ d, lookF b s = some d ∧ c = ⟨3, s, E0, d⟩ := by
        unfold chgF at hc
        cases hb : lookF b s with
        | none => rw [hb] at hc; cases hc
        | some d =>
          rw [hb] at hc
          simp only at hc
          cases hq : decide ((lookF a s).getD [] = d) <;> simp [hq] at hc
          exact ⟨d, rfl, hc.symm⟩
      obtain ⟨m1, e1, st1⟩ := st_chg h (fun hs => by rw [hF s hs] at hd; cases hd) (hp s (by simp)) hd
      obtain ⟨T', m', g1, g2, g3, g4, g5⟩ := ph_chg N F (s :: T) m1 st1 (fun x hx => hp x (by simp [hx])) hF
      refine ⟨T', m', by rw [List.filterMap_cons, hc]; simp only; rw [applyM_cons e1]; exact g1, g2, fun x hx => ?_, fun x hx => g4 x (by simp [hx]), fun x hx hs => ?_⟩
      · rcases g3 x hx with h | h
        · rcases List.mem_cons.1 h with rfl | h
          · exact .inr (by simp)
          · exact .inl h
        · exact .inr (by simp [h])
      · rcases List.mem_cons.1 hx with rfl | hx
        · exact g4 _ (by simp)
        · exact g5 x hx hs
theorem ph_add : ∀ (N : List ByteArray) (F T : List ByteArray) (m : SM), StM a b F T m → N.Nodup → (∀ t ∈ N, (lookF b t).isSome = true ∧ lookF a t = none ∧ t ∉ T) → (∀ x ∈ F, lookF b x = none) →
    ∃ T' m', applyM m (N.map (addF b)) = (0, m') ∧ StM a b F T' m' ∧ ∀ x, x ∈ T' ↔ x ∈ T ∨ x ∈ N
  | [], F, T, m, h, _, _, _ => ⟨T, m, rfl, h, by simp⟩
  | t :: N, F, T, m, h, n, hp, hF => by
    obtain ⟨q1, q2, q3⟩ := hp t (by simp)
    obtain ⟨d, hd⟩ := Option.isSome_iff_exists.1 q1
    rw [List.nodup_cons] at n
    obtain ⟨m1, e1, st1⟩ := st_add h (fun ht => by rw [hF t ht] at hd; cases hd) q3 q2 hd
    obtain ⟨T', m', g1, g2, g3⟩ := ph_add N F (t :: T) m1 st1 n.2 (fun x hx => by
      obtain ⟨k1, k2, k3⟩ := hp x (by simp [hx])
      exact ⟨k1, k2, fun hm => by rcases List.mem_cons.1 hm with e | hm; exact n.1 (by rw [← e]; exact hx); exact k3 hm⟩) hF
    refine ⟨T', m', by rw [List.map_cons, applyM_cons (show stepM m (addF b t) = (0, m1) from by rw [addF, hd]; exact e1)]; exact g1, g2, fun x => ?_⟩
    rw [g3, List.mem_cons, List.mem_cons]
    constructor
    · rintro ((h | h) | h) <;> simp [h]
    · rintro (h | h | h) <;> simp [h]
/-- what changed makes the one the other -/
theorem apply_of (a b : List File) {m0 : SM} (h0 : (m0.map (·.1)).Nodup) (hg : ∀ x, mget m0 x = lookF a x) : ∃ m, applyM m0 (OfF a b) = (0, m) ∧ (m.map (·.1)).Nodup ∧ ∀ x, mget m x = lookF b x := by
  obtain ⟨R, G, came, h1, h2⟩ := rounds a b (wentF a b).length (Nat.le_refl _)
  have hfst := h2.fst
  rw [List.take_length] at hfst
  have hnd1 := hfst.nodup_iff.2 (went_nd a b)
  have hnd2 := h2.snd.nodup_iff.2 (went_nd b a)
  rw [List.nodup_append] at hnd1 hnd2
  have hR1 : ∀ p ∈ R, p.1 ∈ wentF a b := fun p hp => hfst.mem_iff.1 (List.mem_append_left _ (List.mem_map.2 ⟨p, hp, rfl⟩))
  have hR2 : ∀ p ∈ R, p.2 ∈ wentF b a := fun p hp => h2.snd.mem_iff.1 (List.mem_append_left _ (List.mem_map.2 ⟨p, hp, rfl⟩))
  have hG : ∀ s ∈ G, s ∈ wentF a b := fun s hs => hfst.mem_iff.1 (List.mem_append_right _ hs)
  have hC : ∀ s ∈ came, s ∈ wentF b a := fun s hs => h2.snd.mem_iff.1 (List.mem_append_right _ hs)
  obtain ⟨F1, T1, m1, a1, s1, f1, t1⟩ := ph_ren R [] [] m0 ⟨h0, fun x => by simp [hg]⟩ hnd1.1 hnd2.1 (fun p hp => ⟨(went_in.1 (hR1 p hp)).1, (went_in.1 (hR1 p hp)).2, (went_in.1 (hR2 p hp)).2, h2.eq p hp⟩) (fun p hp => by simp) (by simp) (by simp)
  simp only [List.not_mem_nil, false_or] at f1 t1
  obtain ⟨F2, m2, a2, s2, f2⟩ := ph_gone G F1 T1 m1 s1 hnd1.2.1 (fun s hs => ⟨(went_in.1 (hG s hs)).1, fun h => (hnd1.2.2 s ((f1 s).1 h) s hs) rfl, fun h => by
    obtain ⟨p, hp, e⟩ := List.mem_map.1 ((t1 s).1 h)
    have k1 := (went_in.1 (hR2 p hp)).2
    have k2 := (went_in.1 (hG s hs)).1
    rw [e] at k1; rw [k1] at k2; cases k2⟩)
  have hF2 : ∀ x, x ∈ F2 ↔ x ∈ wentF a b := fun x => by rw [f2, f1, ← List.mem_append, hfst.mem_iff]
  have hFb : ∀ x ∈ F2, lookF b x = none := fun x hx => (went_in.1 ((hF2 x).1 hx)).2
  obtain ⟨T3, m3, a3, s3, t3, t3', t3c⟩ := ph_chg (namesF a) F2 T1 m2 s2 (fun s hs => names_in.1 hs) hFb
  obtain ⟨T4, m4, a4, s4, t4⟩ := ph_add came F2 T3 m3 s3 hnd2.2.1 (fun t ht => ⟨(went_in.1 (hC t ht)).1, (went_in.1 (hC t ht)).2, fun h => by
    rcases t3 t h with h | h
    · exact (hnd2.2.2 t ((t1 t).1 h) t ht) rfl
    · have k := names_in.1 h; rw [(went_in.1 (hC t ht)).2] at k; cases k⟩) hFb
  refine ⟨m4, ?_, s4.nd, fun x => ?_⟩
  · rw [OfF, show splitE a b = (came, R.map renF, G.map goneF) from h1]
    simp only
    rw [applyM_app (applyM_app ((applyM_app a1).trans a2) |>.trans a3)]
    exact a4
  · rw [s4.get]
    by_cases hx : x ∈ F2
    · rw [if_pos hx, hFb x hx]
    · rw [if_neg hx]
      by_cases hT : x ∈ T4
      · rw [if_pos hT]
      · rw [if_neg hT]
        cases ha : lookF a x with
        | none =>
          cases hb : lookF b x with
          | none => rfl
          | some d =>
            exfalso
            have hw : x ∈ wentF b a := went_in.2 ⟨by rw [hb]; rfl, ha⟩
            rcases List.mem_append.1 (h2.snd.mem_iff.2 hw) with h | h
            · exact hT ((t4 x).2 (.inl (t3' x ((t1 x).2 h))))
            · exact hT ((t4 x).2 (.inr h))
        | some d =>
          cases hb : lookF b x with
          | none => exact absurd ((hF2 x).2 (went_in.2 ⟨by rw [ha]; rfl, hb⟩)) hx
          | some d' =>
            by_cases hd : d = d'
            · rw [hd]
            · exfalso
              have hc : (chgF a b x).isSome = true := by
                unfold chgF
                rw [hb]
                simp [ha, hd]
              exact hT ((t4 x).2 (.inl (t3c x (names_in.2 (by rw [ha]; rfl)) hc)))
end Go.Proofs.Ytmbfmnhcahhciaa.A

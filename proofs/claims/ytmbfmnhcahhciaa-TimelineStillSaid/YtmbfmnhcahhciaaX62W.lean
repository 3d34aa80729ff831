/- Layer 62: what is told may be told; the document's Apply, in plain words. -/
import Derived.Test.YtmbfmnhcahhciaaX62U
namespace Go.Proofs.Ytmbfmnhcahhciaa.A
open Go Go.RowKit Go.Maps Go.Sort
set_option linter.unusedVariables false
set_option linter.unusedSimpArgs false

theorem filtI_sub {α : Type} (l : List α) (i : Nat) : (l.eraseIdx i).Sublist l := List.eraseIdx_sublist l i
/-- the parts of what is told, in order -/
theorem rounds_sub (a b : List File) : ∀ k, k ≤ (wentF a b).length → ∃ R G came, splitF a b k = (came, R.map renF, G.map goneF) ∧ Rounds a b k R G came ∧ (R.map (·.1)).Sublist ((wentF a b).take k) ∧ G.Sublist ((wentF a b).take k) ∧ came.Sublist (wentF b a)
  | 0, _ => ⟨[], [], wentF b a, rfl, ⟨by simp, by simp, by simp⟩, by simp, by simp, List.Sublist.refl _⟩
  | k + 1, hk => by
    obtain ⟨R, G, came, h1, h2, h3, h4, h5⟩ := rounds_sub a b k (by omega)
    obtain ⟨s, hs⟩ := get_lt (show k < (wentF a b).length by omega)
    have hsm := went_in.1 (List.mem_of_getElem? hs)
    cases hf : came.findIdx? (hitF a b s) with
    | none =>
      refine ⟨R, G ++ [s], came, ?_, ⟨?_, h2.snd, h2.eq⟩, ?_, ?_, h5⟩
      · rw [split_none hs h1 hf, List.map_append]; rfl
      · rw [takeS hs, ← List.append_assoc]; exact h2.fst.append_right _
      · rw [takeS hs]; exact h3.trans (List.sublist_append_left _ _)
      · rw [takeS hs]; exact h4.append (List.Sublist.refl _)
    | some i =>
      obtain ⟨t, ht, hh⟩ := fidx_get hf
      have htm : t ∈ wentF b a := h2.snd.mem_iff.1 (List.mem_append_right _ (List.mem_of_getElem? ht))
      have hi := (List.getElem?_eq_some_iff.1 ht).1
      refine ⟨R ++ [(s, t)], G, came.eraseIdx i, ?_, ⟨?_, ?_, ?_⟩, ?_, ?_, (List.eraseIdx_sublist _ _).trans h5⟩
      · rw [split_some hs h1 hf ht, List.map_append]; rfl
      · rw [takeS hs, List.map_append, List.append_assoc]
        refine (List.Perm.append_left _ List.perm_append_comm).trans ?_
        rw [← List.append_assoc]
        exact h2.fst.append_right _
      · rw [List.map_append, List.append_assoc]
        refine (List.Perm.append_left _ ?_).trans h2.snd
        have e : came = came.take i ++ t :: came.drop (i + 1) := by
          have h4 : came.drop i = t :: came.drop (i + 1) := by rw [List.drop_eq_getElem_cons hi, (List.getElem?_eq_some_iff.1 ht).2]
          rw [← h4, List.take_append_drop]
        rw [List.eraseIdx_eq_take_drop_succ]
        conv => rhs; rw [e]
        exact (List.perm_middle (l₁ := came.take i) (a := t) (l₂ := came.drop (i + 1))).symm
      · intro p hp
        rcases List.mem_append.1 hp with hp | hp
        · exact h2.eq p hp
        · rw [List.mem_singleton] at hp; subst hp
          exact hit_eq hh hsm.1 (went_in.1 htm).1
      · rw [takeS hs, List.map_append]; exact h3.append (List.Sublist.refl _)
      · rw [takeS hs]; exact h4.trans (List.sublist_append_left _ _)
/-- changes in order of ranks and names -/
def ordC (p c : FC) : Prop := rankF p.kind < rankF c.kind ∨ (p.kind = c.kind ∧ ltS p.name c.name = true)
theorem ord_pair {p c : FC} (h : ordC p c) : pairF p c = false := by
  unfold pairF
  rcases h with h | ⟨h1, h2⟩
  · have : ¬ p.kind = c.kind := fun e => by rw [e] at h; omega
    have h3 : ¬ rankF p.kind > rankF c.kind := by omega
    simp [h3, this]
  · rw [h1, h2]; simp
theorem right_mk {d : List FC} (h1 : ∀ c ∈ d, 0 ≤ rankF c.kind ∧ bareF c = true) (h2 : d.Pairwise ordC) (h3 : (d.flatMap namesC).Nodup) : rightF d = true := by
  refine right_good (fun i hi => ?_) h3
  obtain ⟨c, hc⟩ := get_lt hi
  obtain ⟨g1, g2⟩ := h1 c (List.mem_of_getElem? hc)
  unfold okC
  rw [hc]
  simp only [g2, Bool.and_true]
  have : ¬ rankF c.kind < 0 := by omega
  simp only [this, decide_false, Bool.not_false, Bool.true_and, Bool.not_eq_true']
  by_cases hi0 : 0 < i
  · obtain ⟨p, hp⟩ := get_lt (show i - 1 < d.length by omega)
    simp only [hp]
    obtain ⟨q1, rfl⟩ := List.getElem?_eq_some_iff.1 hc
    obtain ⟨q2, rfl⟩ := List.getElem?_eq_some_iff.1 hp
    rw [ord_pair (List.pairwise_iff_getElem.1 h2 (i - 1) i q2 q1 (by omega)), Bool.and_false]
  · simp [hi0]
theorem pw_names {α : Type} {f : α → FC} {g : α → ByteArray} {l : List α} {k : Int} (hk : ∀ x, (f x).kind = k) (hn : ∀ x, (f x).name = g x) (h : SortedS (l.map g)) : (l.map f).Pairwise ordC := by
  unfold SortedS at h
  rw [List.pairwise_map] at h ⊢
  exact h.imp fun {x y} hxy => .inr ⟨by rw [hk, hk], by rw [hn, hn]; exact hxy⟩
theorem sub_sorted {l l' : List ByteArray} (h : l.Sublist l') (hs : SortedS l') : SortedS l := List.Pairwise.sublist h hs
theorem chg_some {a b : List File} {s : ByteArray} {c : FC} (h : chgF a b s = some c) : c.kind = 3 ∧ c.name = s ∧ c.to = E0 ∧ (lookF b s).isSome = true := by
  unfold chgF at h
  cases hb : lookF b s with
  | none => rw [hb] at h; cases h
  | some d =>
    rw [hb] at h
    simp only at h
    cases hq : decide ((lookF a s).getD [] = d) <;> simp [hq] at h
    subst h
    exact ⟨rfl, rfl, rfl, rfl⟩
theorem chg_names (a b : List File) : ∀ l : List ByteArray, ((l.filterMap (chgF a b)).map (·.name)).Sublist l
  | [] => by simp
  | s :: l => by
    rw [List.filterMap_cons]
    cases h : chgF a b s with
    | none => exact (chg_names a b l).cons _
    | some c => simp only [List.map_cons]; rw [(chg_some h).2.1]; exact (chg_names a b l).cons_cons _
theorem went_sorted (a b : List File) : SortedS (wentF a b) := sub_sorted (List.filter_sublist ..) (names_ok a)
theorem flat_ren (R : List (ByteArray × ByteArray)) : ((R.map renF).flatMap namesC).Perm (R.map (·.1) ++ R.map (·.2)) := by
  induction R with
  | nil => simp
  | cons p R ih =>
    simp only [List.map_cons, List.flatMap_cons]
    rw [show namesC (renF p) = [p.1, p.2] from rfl]
    refine (List.Perm.append_left _ ih).trans ?_
    simp only [List.cons_append, List.nil_append]
    exact .cons _ (List.perm_middle.symm)
theorem flat_one {α : Type} {f : α → FC} {g : α → ByteArray} (hk : ∀ x, ¬ (f x).kind = 4) (hn : ∀ x, (f x).name = g x) (l : List α) : (l.map f).flatMap namesC = l.map g := by
  induction l with
  | nil => rfl
  | cons x l ih => simp only [List.map_cons, List.flatMap_cons]; rw [ih, namesC, if_neg (hk x), hn]; rfl
theorem flat_chg (a b : List File) (l : List ByteArray) : (l.filterMap (chgF a b)).flatMap namesC = (l.filterMap (chgF a b)).map (·.name) := by
  induction l with
  | nil => rfl
  | cons s l ih =>
    rw [List.filterMap_cons]
    cases h : chgF a b s with
    | none => exact ih
    | some c => simp only [List.map_cons, List.flatMap_cons]; rw [ih, namesC, if_neg (by rw [(chg_some h).1]; decide)]; rfl
/-- what is told may be told -/
theorem right_of (a b : List File) : rightF (OfF a b) = true := by
  obtain ⟨R, G, came, h1, h2, h3, h4, h5⟩ := rounds_sub a b (wentF a b).length (Nat.le_refl _)
  rw [List.take_length] at h3 h4
  have hfst := h2.fst
  rw [List.take_length] at hfst
  have hof : OfF a b = R.map renF ++ G.map goneF ++ (namesF a).filterMap (chgF a b) ++ came.map (addF b) := by rw [OfF, show splitE a b = (came, R.map renF, G.map goneF) from h1]
  rw [hof]
  have hR : ∀ c ∈ R.map renF, c.kind = 4 ∧ c.data = [] := fun c hc => by obtain ⟨p, _, rfl⟩ := List.mem_map.1 hc; exact ⟨rfl, rfl⟩
  have hG : ∀ c ∈ G.map goneF, c.kind = 2 ∧ c.data = [] ∧ c.to = E0 := fun c hc => by obtain ⟨p, _, rfl⟩ := List.mem_map.1 hc; exact ⟨rfl, rfl, rfl⟩
  have hC : ∀ c ∈ (namesF a).filterMap (chgF a b), c.kind = 3 ∧ c.to = E0 := fun c hc => by obtain ⟨s, _, hs⟩ := List.mem_filterMap.1 hc; exact ⟨(chg_some hs).1, (chg_some hs).2.2.1⟩
  have hA : ∀ c ∈ came.map (addF b), c.kind = 1 ∧ c.to = E0 := fun c hc => by obtain ⟨p, _, rfl⟩ := List.mem_map.1 hc; exact ⟨rfl, rfl⟩
  refine right_mk ?_ ?_ ?_
  · intro c hc
    simp only [List.mem_append] at hc
    rcases hc with ((hc | hc) | hc) | hc
    · obtain ⟨e1, e2⟩ := hR c hc; rw [bareF, e1, e2]; simp [rankF, List.findIdx?_cons, optI]
    · obtain ⟨e1, e2, e3⟩ := hG c hc; rw [bareF, e1, e2, e3]; simp [rankF, List.findIdx?_cons, optI]
    · obtain ⟨e1, e3⟩ := hC c hc; rw [bareF, e1, e3]; simp [rankF, List.findIdx?_cons, optI]
    · obtain ⟨e1, e3⟩ := hA c hc; rw [bareF, e1, e3]; simp [rankF, List.findIdx?_cons, optI]
  · have q1 : (R.map renF).Pairwise ordC := pw_names (g := (·.1)) (k := 4) (fun _ => rfl) (fun _ => rfl) (sub_sorted h3 (went_sorted a b))
    have q2 : (G.map goneF).Pairwise ordC := pw_names (g := id) (k := 2) (fun _ => rfl) (fun _ => rfl) (by rw [List.map_id]; exact sub_sorted h4 (went_sorted a b))
    have q3 : ((namesF a).filterMap (chgF a b)).Pairwise ordC := by
      have := sub_sorted (chg_names a b (namesF a)) (names_ok a)
      unfold SortedS at this
      rw [List.pairwise_map] at this
      refine List.Pairwise.imp_of_mem ?_ this
      intro x y hx hy hxy
      exact .inr ⟨by rw [(hC x hx).1, (hC y hy).1], hxy⟩
    have q4 : (came.map (addF b)).Pairwise ordC := pw_names (g := id) (k := 1) (fun _ => rfl) (fun _ => rfl) (by rw [List.map_id]; exact sub_sorted h5 (went_sorted b a))
    have r4 : rankF 4 = 0 := by decide
    have r2 : rankF 2 = 1 := by decide
    have r3 : rankF 3 = 2 := by decide
    have r1 : rankF 1 = 3 := by decide
    rw [List.pairwise_append, List.pairwise_append, List.pairwise_append]
    refine ⟨⟨⟨q1, q2, fun x hx y hy => .inl ?_⟩, q3, fun x hx y hy => .inl ?_⟩, q4, fun x hx y hy => .inl ?_⟩
    · rw [(hR x hx).1, (hG y hy).1, r4, r2]; decide
    · rw [(hC y hy).1, r3]
      rcases List.mem_append.1 hx with hx | hx
      · rw [(hR x hx).1, r4]; decide
      · rw [(hG x hx).1, r2]; decide
    · rw [(hA y hy).1, r1]
      rcases List.mem_append.1 hx with hx | hx
      · rcases List.mem_append.1 hx with hx | hx
        · rw [(hR x hx).1, r4]; decide
        · rw [(hG x hx).1, r2]; decide
      · rw [(hC x hx).1, r3]; decide
  · rw [List.flatMap_append, List.flatMap_append, List.flatMap_append, flat_chg, flat_one (g := id) (f := goneF) (by intro x h; cases h) (fun _ => rfl) G, flat_one (g := id) (f := addF b) (by intro x h; cases h) (fun _ => rfl) came, List.map_id, List.map_id]
    have hp : ((R.map renF).flatMap namesC ++ G ++ ((namesF a).filterMap (chgF a b)).map (·.name) ++ came).Perm ((R.map (·.1) ++ G) ++ (R.map (·.2) ++ came) ++ ((namesF a).filterMap (chgF a b)).map (·.name)) := by
      refine (List.Perm.append_right _ (List.Perm.append_right _ (List.Perm.append_right _ (flat_ren R)))).trans ?_
      simp only [List.append_assoc]
      refine List.Perm.append_left _ ?_
      refine (List.perm_append_comm_assoc _ _ _).trans (List.Perm.append_left _ (List.Perm.append_left _ ?_))
      exact List.perm_append_comm
    refine hp.nodup_iff.2 ?_
    have n1 := hfst.nodup_iff.2 (went_nd a b)
    have n2 := h2.snd.nodup_iff.2 (went_nd b a)
    rw [List.nodup_append, List.nodup_append]
    refine ⟨⟨n1, n2, fun x hx y hy e => ?_⟩, (sorted_nd (sub_sorted (chg_names a b (namesF a)) (names_ok a))), fun x hx y hy e => ?_⟩
    · subst e
      have k1 := went_in.1 (hfst.mem_iff.1 hx)
      have k2 := went_in.1 (h2.snd.mem_iff.1 hy)
      rw [k2.2] at k1; exact absurd k1.1 (by simp)
    · subst e
      obtain ⟨c, hc, rfl⟩ := List.mem_map.1 hy
      obtain ⟨s, hs, hcs⟩ := List.mem_filterMap.1 hc
      obtain ⟨_, e2, _, e4⟩ := chg_some hcs
      rcases List.mem_append.1 hx with hx | hx
      · have := (went_in.1 (hfst.mem_iff.1 hx)).2
        rw [e2] at this; rw [this] at e4; cases e4
      · have := (went_in.1 (h2.snd.mem_iff.1 hx)).2
        rw [e2] at this
        have h6 := names_in.1 hs
        rw [this] at h6; cases h6

/-! ### the document's Apply: a list of files, each name once -/
def TellsN (now : List File) (m : SM) : Prop := (now.map (·.name)).Nodup ∧ ∀ s, mget m s = lookF now s
theorem tellsN_clean (l : List File) : TellsN (cleanS l) (firstM l) := by
  refine ⟨?_, fun s => by rw [clean_look, (tells_first l).get]⟩
  rw [clean_map, List.map_map]
  have : ((·.name) ∘ fA l : ByteArray → ByteArray) = id := by funext s; rfl
  rw [this, List.map_id]
  exact names_nd l
def itemR (c : FC) (at_ : Option Nat) (p : File × Nat) : Option File :=
  if some p.2 = at_ then (if c.kind = 2 then none else if c.kind = 3 then some ⟨p.1.name, c.data⟩ else if c.kind = 4 then some ⟨c.to, p.1.data⟩ else some p.1) else some p.1
def nextR (now : List File) (c : FC) (at_ : Option Nat) (k : Nat) : List File := ((now.take k).zipIdx).filterMap (itemR c at_)
theorem nextR_step {now : List File} {c : FC} {at_ : Option Nat} {k : Nat} {x : File} (h : now[k]? = some x) : nextR now c at_ (k + 1) = nextR now c at_ k ++ (itemR c at_ (x, k)).toList := by
  have hk := (List.getElem?_eq_some_iff.1 h).1
  unfold nextR
  rw [takeS h, List.zipIdx_append, List.filterMap_append]
  congr 1
  simp only [List.length_take, Nat.min_eq_left (Nat.le_of_lt hk), Nat.zero_add, List.zipIdx_cons, List.zipIdx_nil, List.filterMap_cons, List.filterMap_nil]
  cases itemR c at_ (x, k) <;> rfl
theorem nextR_len {now : List File} {c : FC} {at_ : Option Nat} {k : Nat} : (nextR now c at_ k).length ≤ k := by
  unfold nextR
  refine Nat.le_trans (List.length_filterMap_le _ _) (by simp; omega)
theorem look_app (l l' : List File) (s : ByteArray) : lookF (l ++ l') s = (lookF l s).or (lookF l' s) := by
  unfold lookF
  rw [List.find?_append]
  cases l.find? (fun f => decide (f.name = s)) <;> simp
theorem look_one (x : File) (s : ByteArray) : lookF [x] s = if x.name = s then some x.data else none := by
  unfold lookF
  by_cases h : x.name = s <;> simp [h]
theorem look_notin {l : List File} {s : ByteArray} (h : s ∉ l.map (·.name)) : lookF l s = none := by
  unfold lookF
  rw [List.find?_eq_none.2 (fun f hf => by simp; intro e; exact h (List.mem_map.2 ⟨f, hf, e⟩))]; rfl
theorem zip_none (c : FC) : ∀ (l : List File) (n : Nat), (l.zipIdx n).filterMap (itemR c none) = l
  | [], _ => rfl
  | x :: l, n => by rw [List.zipIdx_cons, List.filterMap_cons]; simp [itemR, zip_none c l (n + 1)]
theorem zip_far (c : FC) : ∀ (l : List File) (n i : Nat), i < n ∨ n + l.length ≤ i → (l.zipIdx n).filterMap (itemR c (some i)) = l
  | [], _, _, _ => rfl
  | x :: l, n, i, h => by
    simp at h
    rw [List.zipIdx_cons, List.filterMap_cons]
    have : ¬ n = i := by omega
    simp only [itemR, Option.some.injEq, this, if_false]
    rw [show (l.zipIdx (n + 1)).filterMap (itemR c (some i)) = l from zip_far c l (n + 1) i (by omega)]
theorem nextR_some {now : List File} {c : FC} {i : Nat} {y : File} (h : now[i]? = some y) : nextR now c (some i) now.length = now.take i ++ (itemR c (some i) (y, i)).toList ++ now.drop (i + 1) := by
  have hi := (List.getElem?_eq_some_iff.1 h).1
  have e : now = now.take i ++ y :: now.drop (i + 1) := by
    have h4 : now.drop i = y :: now.drop (i + 1) := by rw [List.drop_eq_getElem_cons hi, (List.getElem?_eq_some_iff.1 h).2]
    rw [← h4, List.take_append_drop]
  unfold nextR
  rw [List.take_length]
  conv => lhs; rw [e]
  rw [List.zipIdx_append, List.filterMap_append, zip_far c _ 0 i (by simp; omega), List.zipIdx_cons, List.filterMap_cons, List.append_assoc]
  congr 1
  rw [show 0 + (now.take i).length = i by simp; omega]
  rw [show ((now.drop (i + 1)).zipIdx (i + 1)).filterMap (itemR c (some i)) = now.drop (i + 1) from zip_far c _ (i + 1) i (by omega)]
  cases itemR c (some i) (y, i) <;> rfl
theorem nextR_none (now : List File) (c : FC) : nextR now c none now.length = now := by unfold nextR; rw [List.take_length]; exact zip_none c now 0
theorem parts {now : List File} {i : Nat} {y : File} (h : now[i]? = some y) (hn : (now.map (·.name)).Nodup) :
    (∀ s, lookF now s = if y.name = s then some y.data else (lookF (now.take i) s).or (lookF (now.drop (i + 1)) s)) ∧ y.name ∉ (now.take i).map (·.name) ∧ y.name ∉ (now.drop (i + 1)).map (·.name) ∧ ((now.take i ++ now.drop (i + 1)).map (·.name)).Nodup := by
  have hi := (List.getElem?_eq_some_iff.1 h).1
  have e : now = now.take i ++ y :: now.drop (i + 1) := by
    have h4 : now.drop i = y :: now.drop (i + 1) := by rw [List.drop_eq_getElem_cons hi, (List.getElem?_eq_some_iff.1 h).2]
    rw [← h4, List.take_append_drop]
  have hp : (now.map (·.name)).Perm (y.name :: (now.take i ++ now.drop (i + 1)).map (·.name)) := by
    conv => lhs; rw [e]
    rw [List.map_append, List.map_cons, List.map_append]
    exact List.perm_middle
  have hn2 := hp.nodup_iff.1 hn
  rw [List.nodup_cons, List.map_append, List.mem_append] at hn2
  refine ⟨fun s => ?_, fun hh => hn2.1 (.inl hh), fun hh => hn2.1 (.inr hh), by rw [List.map_append]; exact hn2.2⟩
  have hs : lookF now s = lookF (now.take i ++ ([y] ++ now.drop (i + 1))) s := congrArg (lookF · s) e
  rw [hs, look_app, look_app, look_one]
  by_cases hy : y.name = s
  · subst hy
    rw [if_pos rfl, if_pos rfl, look_notin (fun hh => hn2.1 (.inl hh))]; rfl
  · rw [if_neg hy, if_neg hy]; rfl
theorem look_parts (l l' : List File) (s : ByteArray) (x : File) : lookF (l ++ [x] ++ l') s = (lookF l s).or ((if x.name = s then some x.data else none).or (lookF l' s)) := by
  rw [List.append_assoc, look_app, look_app, look_one]
theorem tells_stepR {now : List File} {m : SM} {c : FC} (ht : TellsN now m) (hnd : (m.map (·.1)).Nodup) (h0 : (stepM m c).1 = 0) :
    TellsN (nextR now c (now.findIdx? (fun f => decide (f.name = c.name))) now.length ++ (if c.kind = 1 then [⟨c.name, c.data⟩] else [])) (stepM m c).2 := by
  obtain ⟨hn, hl⟩ := ht
  cases hf : now.findIdx? (fun f => decide (f.name = c.name)) with
  | none =>
    have hnone := find_none_look hf
    have hg : mget m c.name = none := by rw [hl, hnone]
    have hk1 : c.kind = 1 := by
      unfold stepM at h0
      by_cases h1 : c.kind = 1
      · exact h1
      · rw [if_neg h1] at h0
        split at h0
        · simp [hg] at h0
        · simp at h0
    have hst : stepM m c = (0, mset m c.name c.data) := by simp [stepM, hk1, hg]
    rw [hst, nextR_none, if_pos hk1]
    refine ⟨?_, fun s => ?_⟩
    · rw [List.map_append, List.map_singleton]
      refine nodup_snoc hn (fun hm => ?_)
      obtain ⟨f, hfm, hfn⟩ := List.mem_map.1 hm
      rw [List.findIdx?_eq_none_iff] at hf
      have := hf f hfm
      simp [hfn] at this
    · rw [mget_mset, look_app, look_one, hl]
      by_cases hs : c.name = s
      · subst hs; rw [if_pos rfl, hnone, if_pos rfl]; rfl
      · rw [if_neg hs, if_neg hs]; simp
  | some i =>
    obtain ⟨y, hy, hyn, hlk⟩ := find_some_look hf
    have hg : mget m c.name = some y.data := by rw [hl, hlk]
    obtain ⟨p1, p2, p3, p4⟩ := parts hy hn
    rw [hyn] at p1 p2 p3
    have hi : itemR c (some i) (y, i) = (if c.kind = 2 then none else if c.kind = 3 then some ⟨y.name, c.data⟩ else if c.kind = 4 then some ⟨c.to, y.data⟩ else some y) := by simp [itemR]
    rw [nextR_some hy, hi]
    have hk : c.kind = 2 ∨ c.kind = 3 ∨ c.kind = 4 := by
      unfold stepM at h0
      by_cases h1 : c.kind = 1
      · rw [if_pos h1] at h0; simp [hg] at h0
      · rw [if_neg h1] at h0
        split at h0
        · assumption
        · simp at h0
    have h1 : ¬ c.kind = 1 := by rcases hk with h | h | h <;> rw [h] <;> decide
    have hst : stepM m c = alterM m c := by simp [stepM, h1, hk, hg]
    rw [hst] at h0 ⊢
    rw [if_neg h1, List.append_nil]
    have hmid : ∀ (x : File), x.name ∉ (now.take i ++ now.drop (i + 1)).map (·.name) → ((now.take i ++ [x] ++ now.drop (i + 1)).map (·.name)).Nodup := by
      intro x hx
      have hp : ((now.take i ++ [x] ++ now.drop (i + 1)).map (·.name)).Perm (x.name :: (now.take i ++ now.drop (i + 1)).map (·.name)) := by
        simp only [List.map_append, List.map_cons, List.map_nil, List.append_assoc, List.cons_append, List.nil_append]
        exact List.perm_middle
      exact hp.nodup_iff.2 (List.nodup_cons.2 ⟨hx, p4⟩)
    have hno : c.name ∉ (now.take i ++ now.drop (i + 1)).map (·.name) := by rw [List.map_append, List.mem_append]; rintro (h | h); exact p2 h; exact p3 h
    rcases hk with k2 | k3 | k4
    · have ha : alterM m c = (0, mdel m c.name) := by simp [alterM, k2]
      rw [ha, if_pos k2]
      simp only [Option.toList_none, List.append_nil]
      refine ⟨p4, fun s => ?_⟩
      rw [mget_mdel _ _ _ hnd, look_app, hl, p1]
      by_cases hs : c.name = s
      · subst hs; rw [if_pos rfl, look_notin p2, look_notin p3]; rfl
      · rw [if_neg hs, if_neg hs]
    · have ha : alterM m c = (0, mset m c.name c.data) := by simp [alterM, k3]
      rw [ha, if_neg (by rw [k3]; decide), if_pos k3]
      simp only [Option.toList_some]
      refine ⟨hmid _ (by simpa [hyn] using hno), fun s => ?_⟩
      rw [mget_mset, look_parts, hl, p1]
      simp only [hyn]
      by_cases hs : c.name = s
      · subst hs; rw [if_pos rfl, if_pos rfl, look_notin p2]; rfl
      · rw [if_neg hs, if_neg hs, if_neg hs]; simp
    · have hto : mget m c.to = none := by
        simp only [alterM, k4] at h0
        simp at h0
        cases hh : mget m c.to with
        | none => rfl
        | some d => rw [hh] at h0; simp at h0
      have ha : alterM m c = (0, mdel (mset m c.to y.data) c.name) := by simp [alterM, k4, hto, hg]
      rw [ha, if_neg (by rw [k4]; decide), if_neg (by rw [k4]; decide), if_pos k4]
      simp only [Option.toList_some]
      have htn : lookF now c.to = none := by rw [← hl, hto]
      have hne : ¬ c.name = c.to := fun e => by rw [← e, hlk] at htn; cases htn
      have hno2 : c.to ∉ now.map (·.name) := fun hm => by
        obtain ⟨f, hfm, hfn⟩ := List.mem_map.1 hm
        have := (namesF_mem c.to now []).2 (.inr ⟨f, hfm, hfn⟩)
        have := names_in.1 (show c.to ∈ namesF now from this)
        rw [htn] at this; cases this
      refine ⟨hmid _ (fun hm => hno2 ?_), fun s => ?_⟩
      · obtain ⟨f, hfm, hfn⟩ := List.mem_map.1 hm
        refine List.mem_map.2 ⟨f, ?_, hfn⟩
        rcases List.mem_append.1 hfm with h | h
        · exact List.mem_of_mem_take h
        · exact List.mem_of_mem_drop h
      · rw [mget_mdel _ _ _ (mset_nodup hnd), mget_mset, look_parts, hl, p1]
        simp only
        by_cases hs : c.name = s
        · subst hs; rw [if_pos rfl, look_notin p2, look_notin p3, if_neg (fun e => hne e.symm)]; rfl
        · rw [if_neg hs, if_neg hs]
          by_cases ht : c.to = s
          · subst ht
            rw [if_pos rfl, if_pos rfl, look_notin (fun hm => hno2 ?_)]
            · rfl
            · obtain ⟨f, hfm, hfn⟩ := List.mem_map.1 hm
              exact List.mem_map.2 ⟨f, List.mem_of_mem_take hfm, hfn⟩
          · rw [if_neg ht, if_neg ht]; simp
theorem step_nd {m : SM} {c : FC} (h : (m.map (·.1)).Nodup) : ((stepM m c).2.map (·.1)).Nodup := by
  unfold stepM
  split
  · split
    · exact h
    · exact mset_nodup h
  · split
    · split
      · unfold alterM
        split
        · exact h.sublist ((mdel_sub _ _).map _)
        · split
          · exact mset_nodup h
          · split
            · split
              · exact h
              · exact (mset_nodup h).sublist ((mdel_sub _ _).map _)
            · exact h
      · exact h
    · exact h
end Go.Proofs.Ytmbfmnhcahhciaa.A

/- Rules of walks: an own slice handed over with its row, other slots kept; a row as a box; loads out of boxes. -/
import Derived.Test.YtmbfmnhcahhciaaAB
namespace Go.Proofs.Ytmbfmnhcahhciaa.A
open Go Go.RowKit
set_option linter.unusedVariables false
set_option linter.unusedSimpArgs false
set_option linter.unusedSectionVars false
variable {P : Program} {w0 : Base} {C0 C : CS} {T : TS} {S S' : AState} {a : Act} {w : World} {ops : Array Oper} {rest : List Oper} {o : Oper} {Q : Exit → AState → Prop}
variable {t : Nat} {ty ty' : TypeId} {pos : String} {aft : Array Edge}

/-- a plain value, or a slice of plain values of a kind -/
inductive SepAV (p : Value → Bool) : AV → Prop where
  | v (x : Value) : SepAV p (.v x)
  | sl (sz : Nat) (l : List (List AV)) (h : ∀ cs ∈ l, ∀ c ∈ cs, ∃ v, c = .v v ∧ p v = true) : SepAV p (.sl sz l)
theorem SepAV.rel {p : Value → Bool} {x : AV} (h : SepAV p x) {b : Nat} (hb : ∀ o v, C b o = some v → p v = false) {u : Value} (r : Rel C x u) : Rel (fun b' o => if b' = b then none else C b' o) x u := by
  cases h with
  | v x => cases r; exact .v _
  | sl sz l h =>
    obtain ⟨A, cap, b', o', rfl, q1, q2, q3⟩ := rel_sl_inv r
    refine rel_sl_mk b' o' rfl q1 q2 ⟨q3.1, fun i cs j c h1 h2 => ?_⟩
    obtain ⟨u1, hu1, hu2⟩ := q3.2 i cs j c h1 h2
    obtain ⟨v, rfl, hv⟩ := h cs (List.mem_of_getElem? h1) c (List.mem_of_getElem? h2)
    cases hu2
    have hne : b' ≠ b := fun e => by subst e; rw [hb _ _ hu1] at hv; cases hv
    exact ⟨_, by simp only [hne, if_false]; exact hu1, .v _⟩
/-- an own slice of plain values is handed over with its row; slots of another kind are kept -/
theorem awl_ownbufK (p : Value → Bool) (t : Nat) (keep : List (Nat × AV)) {tok sz : Nat} {l : List (List AV)} {lst : List Oper} (hg : S.get t = some (.own tok sz l)) (hl0 : l ≠ []) (hflat : ∀ cs ∈ l, ∀ c ∈ cs, ∃ v, c = AV.v v ∧ p v = false)
    (hk : ∀ q ∈ keep, S.get q.1 = some (.a q.2) ∧ SepAV p q.2)
    (h1 : ∀ g cap e, AWL P w0 C0 ops lst Q ⟨S.nt, (t, .a (.v (.slice (some ⟨g, 0, none⟩) l.length cap))) :: keep.map (fun q => (q.1, .a q.2)), [⟨g, true, .buf sz l cap e⟩]⟩) : AWL P w0 C0 ops lst Q S := by
  rintro a w ⟨C, T, hs⟩
  rcases hs.slots t _ hg with ⟨hl, hu⟩ | ⟨b, cap, e, hT, hcap, hu, hrow⟩
  · exact absurd hl hl0
  · refine h1 b cap e a w ⟨fun b' o => if b' = b then none else C b' o, fun _ => none, ?_⟩
    obtain ⟨⟨k1, k2, ⟨arr, k3, k4⟩, k5⟩, _⟩ := hs.toks _ _ hT
    simp only at k1 k2 k3 k4 k5
    have hfit : l.length * sz ≤ cap * sz := Nat.mul_le_mul_right _ hcap
    have hnb : ∀ o v, C b o = some v → p v = false := by
      intro o v hv
      have ho : o < l.length * sz := Nat.lt_of_not_le fun h => by rw [k5 o h] at hv; cases hv
      rcases Nat.eq_zero_or_pos sz with hz0 | hz0
      · subst hz0; omega
      have hi : o / sz < l.length := by rw [Nat.div_lt_iff_lt_mul hz0]; exact ho
      obtain ⟨cs, hcs⟩ := get_lt hi
      have hcl := hrow.1 cs (List.mem_of_getElem? hcs)
      have hj : o % sz < cs.length := by rw [hcl]; exact Nat.mod_lt _ hz0
      obtain ⟨c, hc⟩ := get_lt hj
      obtain ⟨u, hu1, hu2⟩ := hrow.2 _ _ _ _ hcs hc
      rw [show 0 + o / sz * sz + o % sz = o by have := Nat.div_add_mod o sz; rw [Nat.mul_comm] at this; omega] at hu1
      rw [hv] at hu1; cases hu1
      obtain ⟨v', rfl, hv'⟩ := hflat cs (List.mem_of_getElem? hcs) c (List.mem_of_getElem? hc)
      cases hu2; exact hv'
    have hslots : ∀ t' x', find t' ((t, SV.a (.v (.slice (some ⟨b, 0, none⟩) l.length cap))) :: keep.map (fun q => (q.1, SV.a q.2))) = some x' → SRel (fun b' o => if b' = b then none else C b' o) (fun _ => none) x' (a.tmps.getD t' undef) := by
      intro t' x' hx'
      rw [find_cons] at hx'
      split at hx'
      · rename_i e; subst e; cases hx'; rw [hu]; exact srel_v _
      · have hm := find_mem hx'
        obtain ⟨q, hq, hqe⟩ := List.mem_map.1 hm
        cases hqe
        obtain ⟨g1, g2⟩ := hk q hq
        exact g2.rel hnb (hs.slots _ _ g1)
    refine ⟨hs.below, fun b' o v h => ?_, fun b' o v h => ?_, fun b' o hb hn => ?_, fun e' he => ?_, by simp, by simp, by simp, hs.size, hslots, hs.defers, hs.dr⟩
    · split at h
      · cases h
      · exact hs.com _ _ _ h
    · split at h
      · cases h
      · exact hs.one _ _ _ h
    · have : ¬ b' = b := by omega
      simp only [this, if_false]; exact hs.old _ _ hb hn
    · obtain rfl := List.mem_singleton.1 he
      refine ⟨⟨arr, k3, k4, hcap, hrow.1, arr.toList.take (l.length * sz), ⟨?_, ?_⟩, ?_, rfl⟩, fun o => by simp, fun _ => .inl k1⟩
      · have k4' : arr.toList.length = cap * sz := by simpa using k4
        rw [List.length_take, flat_len hrow.1, k4']; omega
      · intro j c u hc hu'
        obtain ⟨cs, hcs, hcm⟩ := List.mem_flatten.1 (List.mem_of_getElem? hc)
        have hcase := hflat cs hcs c hcm
        have hjl := (List.getElem?_eq_some_iff.1 hc).1
        obtain ⟨ws, w1, w2, w3⟩ := hrow.vals
        have hjw : j < ws.length := by rw [w1.1]; exact hjl
        have h3 := w3 j _ (List.getElem?_eq_getElem hjw)
        have h4 := hs.com _ _ _ h3
        rw [cell_of_row w b (0 + j) arr e (0, 0) k3] at h4
        rw [flat_len hrow.1] at hjl
        rw [List.getElem?_take, if_pos hjl] at hu'
        have h5 := w1.2 j c ws[j] hc (List.getElem?_eq_getElem hjw)
        rw [Nat.zero_add] at h4
        have : some u = some (ws[j]) := by rw [← hu', ← h4]; simp
        cases this
        obtain ⟨v, rfl, _⟩ := hcase
        cases h5; exact .v _
      · intro v hv
        obtain ⟨j, hj⟩ := List.getElem?_of_mem hv
        obtain ⟨ws, w1, w2, w3⟩ := hrow.vals
        have hjl := (List.getElem?_eq_some_iff.1 hj).1
        rw [List.length_take] at hjl
        have hjw : j < ws.length := by rw [w2]; omega
        have h3 := w3 j _ (List.getElem?_eq_getElem hjw)
        have h4 := hs.com _ _ _ h3
        rw [cell_of_row w b (0 + j) arr e (0, 0) k3, Nat.zero_add] at h4
        rw [List.getElem?_take, if_pos (by omega)] at hj
        have : some v = some (ws[j]) := by rw [← hj, ← h4]; simp
        cases this
        exact hs.one _ _ _ h3
/-- a row as a box -/
theorem awl_bufBox (i : Nat) {g cap sz e : Nat} {l : List (List AV)} {lst : List Oper} (hi : S.objs[i]? = some ⟨g, true, .buf sz l cap e⟩)
    (hr : ∀ ext : List AV, AWL P w0 C0 ops lst Q ⟨S.nt, S.slots, S.objs.set i ⟨g, true, .box (l.flatten ++ ext)⟩⟩) : AWL P w0 C0 ops lst Q S := by
  rintro a w ⟨C, T, hs⟩
  obtain ⟨arr, g1, g2, g3, g4, vs, g5, g6, g7⟩ := (hs.objs _ (mem_of_get hi)).1
  refine hr ((arr.toList.drop (l.length * sz)).map AV.v) a w ⟨C, T, ?_⟩
  refine hs.setObj hi (w' := w) (Nat.le_refl _) rfl rfl rfl rfl (fun _ _ => rfl) ⟨arr, e, g1, ?_⟩
  rw [← List.take_append_drop (l.length * sz) arr.toList, g7]
  exact g5.append (by rw [show (vs ++ arr.toList.drop (l.length * sz)).drop (l.length * sz) = arr.toList.drop (l.length * sz) from by
    have hvl : vs.length = l.length * sz := by rw [g5.1, flat_len g4]
    rw [← hvl, List.drop_left]]; exact rels_vs _)
theorem r_loadAbe (i : Nat) (cs' : List AV) {x : Operand} {b o n : Nat} {rw' : Bool} {cs : List AV} (he : (cs.drop o).take n = cs') (hx : S.ev x = some (.a (.v (.pointer (some ⟨b, o, none⟩))))) (hi : S.objs[i]? = some ⟨b, rw', .box cs⟩)
    (hA : aggT P ty' = some true) (hn : szT P ty' = some n) (hl : Nat.ble (o + n) cs.length = true) (ht : Nat.blt t S.nt = true)
    (hr : AWL P w0 C0 ops rest Q (S.put t (.a (.agg cs')))) : AWL P w0 C0 ops (⟨some t, .load ty' x, ty, pos, aft, none⟩ :: rest) Q S := by
  subst he; exact r_loadAb i hx hi hA hn hl ht hr
theorem flat_drop {α : Type} {f : α → List AV} {n : Nat} (hf : ∀ x, (f x).length = n) : ∀ {l : List α} {k : Nat} {x : α} {ext : List AV}, l[k]? = some x → ((((l.map f).flatten ++ ext).drop (0 + k * n)).take n = f x) ∧ 0 + k * n + n ≤ ((l.map f).flatten ++ ext).length
  | [], k, x, ext, h => by simp at h
  | y :: l, 0, x, ext, h => by
    simp at h; subst h
    constructor
    · simp only [List.map_cons, List.flatten_cons, Nat.zero_mul, Nat.add_zero, List.drop_zero]
      rw [List.append_assoc, List.take_append_of_le_length (by rw [hf]; exact Nat.le_refl _), List.take_of_length_le (by rw [hf]; exact Nat.le_refl _)]
    · simp [hf] <;> omega
  | y :: l, k + 1, x, ext, h => by
    obtain ⟨h1, h2⟩ := flat_drop hf (l := l) (k := k) (ext := ext) (by simpa using h)
    have e : 0 + (k + 1) * n = n + (0 + k * n) := by rw [Nat.succ_mul]; omega
    constructor
    · rw [e]
      simp only [List.map_cons, List.flatten_cons]
      rw [List.append_assoc, ← List.drop_drop]
      rw [List.drop_left' (hf y)]
      exact h1
    · rw [e]
      simp only [List.map_cons, List.flatten_cons, List.append_assoc, List.length_append, hf] at h2 ⊢
      omega
theorem flat_set {α : Type} {f : α → List AV} {n : Nat} (hf : ∀ x, (f x).length = n) : ∀ {l : List α} {k : Nat} {x : α} {ext : List AV}, k < l.length → ((l.map f).flatten ++ ext).take (0 + k * n) ++ f x ++ ((l.map f).flatten ++ ext).drop (0 + k * n + n) = ((l.set k x).map f).flatten ++ ext
  | [], k, x, ext, h => by simp at h
  | y :: l, 0, x, ext, h => by
    simp only [List.set_cons_zero, List.map_cons, List.flatten_cons, Nat.zero_mul, Nat.add_zero, List.take_zero, List.nil_append, Nat.zero_add]
    rw [List.append_assoc, List.append_assoc, List.drop_left' (hf y)]
  | y :: l, k + 1, x, ext, h => by
    have ih := flat_set hf (l := l) (k := k) (x := x) (ext := ext) (by simpa using h)
    have e : 0 + (k + 1) * n = n + (0 + k * n) := by rw [Nat.succ_mul]; omega
    rw [e]
    simp only [List.set_cons_succ, List.map_cons, List.flatten_cons, List.append_assoc]
    rw [show n + (0 + k * n) = (f y).length + (0 + k * n) by rw [hf], List.take_length_add_append, show (f y).length + (0 + k * n) + n = (f y).length + (0 + k * n + n) by omega, List.drop_length_add_append]
    rw [List.append_assoc] at ih
    rw [List.append_assoc, ih]
end Go.Proofs.Ytmbfmnhcahhciaa.A

/- Readings of arguments with their sizes: of what is read no string and no slice takes more than the reach. -/
import Derived.Test.YtnbnegkdbjdekaaK
namespace Go.Proofs.Ytnbnegkdbjdekaa.A
open Go Go.RowKit
set_option linter.unusedVariables false
set_option linter.unusedSimpArgs false
set_option linter.unusedSectionVars false
variable {P : Program}

theorem weights_all {H : Type} {e : TypeId} {d : DataW H} {k : Nat} : ∀ {ds : List (DataW H)}, d ∈ ds → k ∈ d.weights P e → k ∈ DataW.weightsAll P e ds
  | [], h, _ => by simp at h
  | d' :: ds, h, hk => by
    rw [DataW.weightsAll, List.mem_append]
    rcases List.mem_cons.1 h with rfl | h
    · exact .inl hk
    · exact .inr (weights_all h hk)
theorem weights_each {H : Type} {k : Nat} : ∀ {ts : List TypeId} {ds : List (DataW H)} {i : Nat} {t : TypeId} {d : DataW H}, ts[i]? = some t → ds[i]? = some d → k ∈ d.weights P t → k ∈ DataW.weightsEach P ts ds
  | [], _, _, _, _, h, _, _ => by simp at h
  | _ :: _, [], _, _, _, _, h, _ => by simp at h
  | t' :: ts, d' :: ds, 0, t, d, h, h', hk => by
    simp at h h'; subst h h'
    rw [DataW.weightsEach, List.mem_append]; exact .inl hk
  | t' :: ts, d' :: ds, i + 1, t, d, h, h', hk => by
    rw [DataW.weightsEach, List.mem_append]; exact .inr (weights_each (i := i) (by simpa using h) (by simpa using h') hk)
theorem slice_weight {H : Type} {t e : TypeId} (hu : P.underlying t = some (.slice e)) {elems rest : List (DataW H)} {d : DataW H} {k : Nat} (hd : d ∈ elems) (hk : k ∈ d.weights P e) : k ∈ (DataW.slice elems rest).weights P t := by
  unfold DataW.weights
  rw [hu]
  simp only [List.mem_cons, List.mem_append]
  exact .inr (.inl (weights_all hd hk))

def RDS (P : Program) (t : TypeId) {α : Type} (E : α → List AV) (G : α → Prop) : Prop :=
  ∀ {H : Type} (enc : TypeId × Value → H) (W : World) (fuel : Nat) (cs : List Value) (x : DataW H × List MemPlace), DataW.trod enc P W 0 (fun _ => true) true fuel t cs = some x → (∀ k ∈ x.1.weights P t, k ≤ reachBytes) →
    ∃ a, G a ∧ Rels (C0 W) (E a) cs ∧ (E a).all AV.one = true
theorem RDS.of {t : TypeId} {α : Type} {E : α → List AV} {G : α → Prop} (h : RD P t E G) : RDS P t E G := fun enc W fuel cs x hx _ => h enc W fuel cs x hx
theorem RDS.map {t : TypeId} {α β : Type} {E : α → List AV} {G : α → Prop} {E' : β → List AV} {G' : β → Prop} (h : RDS P t E G) (f : α → β) (hf : ∀ a, G a → G' (f a) ∧ E' (f a) = E a) : RDS P t E' G' := by
  intro H enc W fuel cs x hx hw
  obtain ⟨a, h1, h2, h3⟩ := h enc W fuel cs x hx hw
  obtain ⟨g1, g2⟩ := hf a h1
  exact ⟨f a, g1, by rw [g2]; exact h2, by rw [g2]; exact h3⟩
/-- a slice's length -/
theorem rds_len {t e bytes : TypeId} {α : Type} {E : α → List AV} {G : List α → Prop} {sz : Nat} (ht : sliceT P t = some e) (hb : bytesT P e = some bytes) (h : RDS P t (fun l : List α => [.sl sz (l.map E)]) G) :
    RDS P t (fun l : List α => [.sl sz (l.map E)]) (fun l => G l ∧ l.length * bytes ≤ reachBytes) := by
  intro H enc W fuel cs x hx hw
  obtain ⟨l, h1, h2, h3⟩ := h enc W fuel cs x hx hw
  refine ⟨l, ⟨h1, ?_⟩, h2, h3⟩
  obtain ⟨u, us, hu, hu1, hu2⟩ := h2.cons_inv
  have := hu2.nil_inv; subst this
  obtain ⟨A, cap', b, o, rfl, _⟩ := rel_sl_inv hu1
  rcases DataW.trod_slice (sliceT_un ht) hx with ⟨hc, _⟩ | ⟨a, len, cap, elems, rest, n, _, hc, hxx, _, _, _, hel, _⟩
  · rw [hu] at hc
    simp at hc
    rw [hc.2.1]; simp
  · rw [hu] at hc
    simp at hc
    have hbb : P.bytesOf e = bytes := by unfold bytesT at hb; simp [Program.bytesOf, hb]
    have := hw ((elems.map (·.1)).length * bytes + (rest.map (·.1)).length * bytes) (by
      rw [hxx]
      unfold DataW.weights
      rw [sliceT_un ht]
      simp only [List.mem_cons, hbb, Nat.add_mul]
      exact .inl trivial)
    rw [List.length_map, List.length_map] at this
    have e1 : l.length = elems.length := by omega
    rw [e1]; omega
theorem rds_slice {t e : TypeId} {α : Type} {E : α → List AV} {G : α → Prop} {sz : Nat} (ht : sliceT P t = some e) (hsz : szT P e = some (sz + 1)) (h : RDS P e E G) (hE : ∀ a, (E a).length = sz + 1) :
    RDS P t (fun l : List α => [.sl (sz + 1) (l.map E)]) (fun l => ∀ x ∈ l, G x) := by
  intro H enc W fuel cs x hx hw
  have hc : P.cellsOf e = sz + 1 := by unfold szT at hsz; simp [Program.cellsOf, hsz]
  rcases DataW.trod_slice (sliceT_un ht) hx with ⟨rfl, _⟩ | ⟨a, len, cap, elems, rest, n, _, rfl, hxx, _, hlc, _, hel, hget, _⟩
  · exact ⟨[], by simp, Rels.cons (rel_sl_mk 0 0 rfl (Nat.le_refl _) (fun e => absurd rfl e) ⟨fun _ h => by simp at h, fun i cs j c h => by simp at h⟩) Rels.nil, rfl⟩
  · have hone : ∀ i, i < len → ∃ (y : α) (cs : List Value), G y ∧ Rels (C0 W) (E y) cs ∧ (E y).all AV.one = true ∧ W.cells? 0 (a.add (i * (sz + 1))) (sz + 1) = some cs := by
      intro i hi
      have hg := hget i hi
      rw [hc, List.getElem?_eq_getElem (by omega : i < elems.length)] at hg
      cases hcs : W.cells? 0 (a.add (i * (sz + 1))) (sz + 1) with
      | none => simp [hcs] at hg
      | some cs =>
        simp only [hcs, Option.bind_some] at hg
        obtain ⟨y, g1, g2, g3⟩ := h enc W n cs _ hg (fun k hk => hw k (by rw [hxx]; exact slice_weight (sliceT_un ht) (List.mem_map.2 ⟨_, List.getElem_mem _, rfl⟩) hk))
        exact ⟨y, cs, g1, g2, g3, rfl⟩
    let f : Fin len → α := fun i => Classical.choose (hone i i.2)
    have hf : ∀ i : Fin len, ∃ cs : List Value, G (f i) ∧ Rels (C0 W) (E (f i)) cs ∧ (E (f i)).all AV.one = true ∧ W.cells? 0 (a.add (i * (sz + 1))) (sz + 1) = some cs := fun i => Classical.choose_spec (hone i i.2)
    have hl : (List.ofFn f).length = len := by simp
    refine ⟨List.ofFn f, fun y hy => ?_, Rels.cons ?_ Rels.nil, rfl⟩
    · obtain ⟨i, rfl⟩ := List.mem_ofFn.1 hy
      obtain ⟨cs, g1, _⟩ := hf i; exact g1
    · have hspot : len ≠ 0 → a.spot = none := by
        intro h0
        obtain ⟨cs, g1, g2, g3, g4⟩ := hf ⟨0, by omega⟩
        obtain ⟨k1, k2⟩ := cells_get g4
        obtain ⟨v, hv⟩ : ∃ v, cs[0]? = some v := ⟨_, List.getElem?_eq_getElem (by omega)⟩
        have := k2 0 v hv
        simp only [Nat.zero_mul] at this
        have h00 : (a.add 0) = a := by simp [Addr.add]
        rw [h00] at this
        exact spot_none this rfl
      refine rel_sl_mk a.block a.off (by simp) hlc (fun hne => ?_) ⟨fun cs hcs => ?_, fun i cs j c h1 h2 => ?_⟩
      · have h0 : len ≠ 0 := by intro h0; apply hne; rw [List.map_eq_nil_iff]; exact List.eq_nil_of_length_eq_zero (by omega)
        have := hspot h0
        obtain ⟨b, o, s⟩ := a; simp only at this; subst this; rfl
      · obtain ⟨y, _, rfl⟩ := List.mem_map.1 hcs; exact hE y
      · rw [List.getElem?_map] at h1
        have hi : i < len := by
          rcases Nat.lt_or_ge i len with h' | h'
          · exact h'
          · rw [List.getElem?_eq_none (by omega)] at h1; simp at h1
        rw [List.getElem?_eq_getElem (by omega : i < (List.ofFn f).length)] at h1
        simp at h1
        obtain ⟨cs', g1, g2, g3, g4⟩ := hf ⟨i, hi⟩
        subst h1
        obtain ⟨k1, k2⟩ := cells_get g4
        obtain ⟨u, hu, hr⟩ := g2.get h2
        have hcell := k2 j u hu
        rw [add_add a _ _ (hspot (by omega))] at hcell
        refine ⟨u, C0_some hcell (hr.one ?_), hr⟩
        exact List.all_eq_true.1 g3 c (List.mem_of_getElem? h2)

theorem field_trodS {H : Type} {enc : TypeId × Value → H} {W : World} {fuel : Nat} {cs : List Value} {x : DataW H × List MemPlace} {t f off ft n : Nat} (hf : fieldT P t f = some (off, ft)) (hn : szT P ft = some n)
    (h : DataW.trod enc P W 0 (fun _ => true) true fuel t cs = some x) : cs.length = P.cellsOf t ∧ (∃ k y, DataW.trod enc P W 0 (fun _ => true) true k ft ((cs.drop off).take n) = some y ∧ ∀ q ∈ y.1.weights P ft, q ∈ x.1.weights P t) := by
  obtain ⟨fs, g, hu, hg, rfl, rfl⟩ := fieldT_un hf
  obtain ⟨xs, k, _, hxx, hl, hxs, hall⟩ := DataW.trod_struct hu h
  refine ⟨hl, k, ?_⟩
  have := hall f g hg
  rw [szT_cells hn] at this
  have hlt : f < xs.length := by have := (Array.getElem?_eq_some_iff.1 hg).1; omega
  refine ⟨xs[f], by rw [this]; exact List.getElem?_eq_getElem hlt, fun q hq => ?_⟩
  rw [hxx]
  unfold DataW.weights
  rw [hu]
  refine weights_each (i := f) (t := g.type) (d := xs[f].1) ?_ ?_ hq
  · rw [List.getElem?_map, Array.getElem?_toList, hg]; rfl
  · rw [List.getElem?_map, List.getElem?_eq_getElem hlt]; rfl
theorem rds_struct1 {t t0 n0 : Nat} {α0 : Type} {E0 : α0 → List AV} {G0 : α0 → Prop} (f0 : fieldT P t 0 = some (0, t0)) (hsz : szT P t = some (n0)) (c0 : szT P t0 = some n0) (r0 : RDS P t0 E0 G0) :
    RDS P t (fun a : α0 => E0 a) (fun a => G0 a) := by
  intro H enc W fuel cs x hx hw
  obtain ⟨hl0, k0, y0, hy0, w0⟩ := field_trodS f0 c0 hx
  obtain ⟨a0, g0, h0, o0⟩ := r0 enc W k0 _ y0 hy0 (fun k hk => hw k (w0 k hk))
  refine ⟨a0, g0, ?_, by simp only [List.all_append, o0, Bool.and_self]⟩
  rw [szT_cells hsz] at hl0
  have e : cs = (cs.drop (0)).take n0 := by
    apply List.ext_getElem?
    intro j
    simp only [List.getElem?_append, List.getElem?_take, List.getElem?_drop, List.length_append, List.length_take, List.length_drop, hl0]
    repeat' split
    all_goals first | (congr 1; omega) | omega | (rw [List.getElem?_eq_none (by omega)])
  rw [e]
  exact h0
theorem rds_struct2 {t t0 t1 n0 n1 : Nat} {α0 α1 : Type} {E0 : α0 → List AV} {E1 : α1 → List AV} {G0 : α0 → Prop} {G1 : α1 → Prop} (f0 : fieldT P t 0 = some (0, t0)) (f1 : fieldT P t 1 = some (n0, t1)) (hsz : szT P t = some (n0 + n1)) (c0 : szT P t0 = some n0) (c1 : szT P t1 = some n1) (r0 : RDS P t0 E0 G0) (r1 : RDS P t1 E1 G1) :
    RDS P t (fun a : α0 × α1 => E0 a.1 ++ E1 a.2) (fun a => G0 a.1 ∧ G1 a.2) := by
  intro H enc W fuel cs x hx hw
  obtain ⟨hl0, k0, y0, hy0, w0⟩ := field_trodS f0 c0 hx
  obtain ⟨a0, g0, h0, o0⟩ := r0 enc W k0 _ y0 hy0 (fun k hk => hw k (w0 k hk))
  obtain ⟨hl1, k1, y1, hy1, w1⟩ := field_trodS f1 c1 hx
  obtain ⟨a1, g1, h1, o1⟩ := r1 enc W k1 _ y1 hy1 (fun k hk => hw k (w1 k hk))
  refine ⟨⟨a0, a1⟩, ⟨g0, g1⟩, ?_, by simp only [List.all_append, o0, o1, Bool.and_self]⟩
  rw [szT_cells hsz] at hl0
  have e : cs = (cs.drop (0)).take n0 ++ (cs.drop (n0)).take n1 := by
    apply List.ext_getElem?
    intro j
    simp only [List.getElem?_append, List.getElem?_take, List.getElem?_drop, List.length_append, List.length_take, List.length_drop, hl0]
    repeat' split
    all_goals first | (congr 1; omega) | omega | (rw [List.getElem?_eq_none (by omega)])
  rw [e]
  exact (h0).append h1
theorem rds_struct3 {t t0 t1 t2 n0 n1 n2 : Nat} {α0 α1 α2 : Type} {E0 : α0 → List AV} {E1 : α1 → List AV} {E2 : α2 → List AV} {G0 : α0 → Prop} {G1 : α1 → Prop} {G2 : α2 → Prop} (f0 : fieldT P t 0 = some (0, t0)) (f1 : fieldT P t 1 = some (n0, t1)) (f2 : fieldT P t 2 = some (n0 + n1, t2)) (hsz : szT P t = some (n0 + n1 + n2)) (c0 : szT P t0 = some n0) (c1 : szT P t1 = some n1) (c2 : szT P t2 = some n2) (r0 : RDS P t0 E0 G0) (r1 : RDS P t1 E1 G1) (r2 : RDS P t2 E2 G2) :
    RDS P t (fun a : α0 × α1 × α2 => E0 a.1 ++ E1 a.2.1 ++ E2 a.2.2) (fun a => G0 a.1 ∧ G1 a.2.1 ∧ G2 a.2.2) := by
  intro H enc W fuel cs x hx hw
  obtain ⟨hl0, k0, y0, hy0, w0⟩ := field_trodS f0 c0 hx
  obtain ⟨a0, g0, h0, o0⟩ := r0 enc W k0 _ y0 hy0 (fun k hk => hw k (w0 k hk))
  obtain ⟨hl1, k1, y1, hy1, w1⟩ := field_trodS f1 c1 hx
  obtain ⟨a1, g1, h1, o1⟩ := r1 enc W k1 _ y1 hy1 (fun k hk => hw k (w1 k hk))
  obtain ⟨hl2, k2, y2, hy2, w2⟩ := field_trodS f2 c2 hx
  obtain ⟨a2, g2, h2, o2⟩ := r2 enc W k2 _ y2 hy2 (fun k hk => hw k (w2 k hk))
  refine ⟨⟨a0, a1, a2⟩, ⟨g0, g1, g2⟩, ?_, by simp only [List.all_append, o0, o1, o2, Bool.and_self]⟩
  rw [szT_cells hsz] at hl0
  have e : cs = (cs.drop (0)).take n0 ++ (cs.drop (n0)).take n1 ++ (cs.drop (n0 + n1)).take n2 := by
    apply List.ext_getElem?
    intro j
    simp only [List.getElem?_append, List.getElem?_take, List.getElem?_drop, List.length_append, List.length_take, List.length_drop, hl0]
    repeat' split
    all_goals first | (congr 1; omega) | omega | (rw [List.getElem?_eq_none (by omega)])
  rw [e]
  exact ((h0).append h1).append h2
theorem rds_struct4 {t t0 t1 t2 t3 n0 n1 n2 n3 : Nat} {α0 α1 α2 α3 : Type} {E0 : α0 → List AV} {E1 : α1 → List AV} {E2 : α2 → List AV} {E3 : α3 → List AV} {G0 : α0 → Prop} {G1 : α1 → Prop} {G2 : α2 → Prop} {G3 : α3 → Prop} (f0 : fieldT P t 0 = some (0, t0)) (f1 : fieldT P t 1 = some (n0, t1)) (f2 : fieldT P t 2 = some (n0 + n1, t2)) (f3 : fieldT P t 3 = some (n0 + n1 + n2, t3)) (hsz : szT P t = some (n0 + n1 + n2 + n3)) (c0 : szT P t0 = some n0) (c1 : szT P t1 = some n1) (c2 : szT P t2 = some n2) (c3 : szT P t3 = some n3) (r0 : RDS P t0 E0 G0) (r1 : RDS P t1 E1 G1) (r2 : RDS P t2 E2 G2) (r3 : RDS P t3 E3 G3) :
    RDS P t (fun a : α0 × α1 × α2 × α3 => E0 a.1 ++ E1 a.2.1 ++ E2 a.2.2.1 ++ E3 a.2.2.2) (fun a => G0 a.1 ∧ G1 a.2.1 ∧ G2 a.2.2.1 ∧ G3 a.2.2.2) := by
  intro H enc W fuel cs x hx hw
  obtain ⟨hl0, k0, y0, hy0, w0⟩ := field_trodS f0 c0 hx
  obtain ⟨a0, g0, h0, o0⟩ := r0 enc W k0 _ y0 hy0 (fun k hk => hw k (w0 k hk))
  obtain ⟨hl1, k1, y1, hy1, w1⟩ := field_trodS f1 c1 hx
  obtain ⟨a1, g1, h1, o1⟩ := r1 enc W k1 _ y1 hy1 (fun k hk => hw k (w1 k hk))
  obtain ⟨hl2, k2, y2, hy2, w2⟩ := field_trodS f2 c2 hx
  obtain ⟨a2, g2, h2, o2⟩ := r2 enc W k2 _ y2 hy2 (fun k hk => hw k (w2 k hk))
  obtain ⟨hl3, k3, y3, hy3, w3⟩ := field_trodS f3 c3 hx
  obtain ⟨a3, g3, h3, o3⟩ := r3 enc W k3 _ y3 hy3 (fun k hk => hw k (w3 k hk))
  refine ⟨⟨a0, a1, a2, a3⟩, ⟨g0, g1, g2, g3⟩, ?_, by simp only [List.all_append, o0, o1, o2, o3, Bool.and_self]⟩
  rw [szT_cells hsz] at hl0
  have e : cs = (cs.drop (0)).take n0 ++ (cs.drop (n0)).take n1 ++ (cs.drop (n0 + n1)).take n2 ++ (cs.drop (n0 + n1 + n2)).take n3 := by
    apply List.ext_getElem?
    intro j
    simp only [List.getElem?_append, List.getElem?_take, List.getElem?_drop, List.length_append, List.length_take, List.length_drop, hl0]
    repeat' split
    all_goals first | (congr 1; omega) | omega | (rw [List.getElem?_eq_none (by omega)])
  rw [e]
  exact (((h0).append h1).append h2).append h3
theorem rds_struct5 {t t0 t1 t2 t3 t4 n0 n1 n2 n3 n4 : Nat} {α0 α1 α2 α3 α4 : Type} {E0 : α0 → List AV} {E1 : α1 → List AV} {E2 : α2 → List AV} {E3 : α3 → List AV} {E4 : α4 → List AV} {G0 : α0 → Prop} {G1 : α1 → Prop} {G2 : α2 → Prop} {G3 : α3 → Prop} {G4 : α4 → Prop} (f0 : fieldT P t 0 = some (0, t0)) (f1 : fieldT P t 1 = some (n0, t1)) (f2 : fieldT P t 2 = some (n0 + n1, t2)) (f3 : fieldT P t 3 = some (n0 + n1 + n2, t3)) (f4 : fieldT P t 4 = some (n0 + n1 + n2 + n3, t4)) (hsz : szT P t = some (n0 + n1 + n2 + n3 + n4)) (c0 : szT P t0 = some n0) (c1 : szT P t1 = some n1) (c2 : szT P t2 = some n2) (c3 : szT P t3 = some n3) (c4 : szT P t4 = some n4) (r0 : RDS P t0 E0 G0) (r1 : RDS P t1 E1 G1) (r2 : RDS P t2 E2 G2) (r3 : RDS P t3 E3 G3) (r4 : RDS P t4 E4 G4) :
    RDS P t (fun a : α0 × α1 × α2 × α3 × α4 => E0 a.1 ++ E1 a.2.1 ++ E2 a.2.2.1 ++ E3 a.2.2.2.1 ++ E4 a.2.2.2.2) (fun a => G0 a.1 ∧ G1 a.2.1 ∧ G2 a.2.2.1 ∧ G3 a.2.2.2.1 ∧ G4 a.2.2.2.2) := by
  intro H enc W fuel cs x hx hw
  obtain ⟨hl0, k0, y0, hy0, w0⟩ := field_trodS f0 c0 hx
  obtain ⟨a0, g0, h0, o0⟩ := r0 enc W k0 _ y0 hy0 (fun k hk => hw k (w0 k hk))
  obtain ⟨hl1, k1, y1, hy1, w1⟩ := field_trodS f1 c1 hx
  obtain ⟨a1, g1, h1, o1⟩ := r1 enc W k1 _ y1 hy1 (fun k hk => hw k (w1 k hk))
  obtain ⟨hl2, k2, y2, hy2, w2⟩ := field_trodS f2 c2 hx
  obtain ⟨a2, g2, h2, o2⟩ := r2 enc W k2 _ y2 hy2 (fun k hk => hw k (w2 k hk))
  obtain ⟨hl3, k3, y3, hy3, w3⟩ := field_trodS f3 c3 hx
  obtain ⟨a3, g3, h3, o3⟩ := r3 enc W k3 _ y3 hy3 (fun k hk => hw k (w3 k hk))
  obtain ⟨hl4, k4, y4, hy4, w4⟩ := field_trodS f4 c4 hx
  obtain ⟨a4, g4, h4, o4⟩ := r4 enc W k4 _ y4 hy4 (fun k hk => hw k (w4 k hk))
  refine ⟨⟨a0, a1, a2, a3, a4⟩, ⟨g0, g1, g2, g3, g4⟩, ?_, by simp only [List.all_append, o0, o1, o2, o3, o4, Bool.and_self]⟩
  rw [szT_cells hsz] at hl0
  have e : cs = (cs.drop (0)).take n0 ++ (cs.drop (n0)).take n1 ++ (cs.drop (n0 + n1)).take n2 ++ (cs.drop (n0 + n1 + n2)).take n3 ++ (cs.drop (n0 + n1 + n2 + n3)).take n4 := by
    apply List.ext_getElem?
    intro j
    simp only [List.getElem?_append, List.getElem?_take, List.getElem?_drop, List.length_append, List.length_take, List.length_drop, hl0]
    repeat' split
    all_goals first | (congr 1; omega) | omega | (rw [List.getElem?_eq_none (by omega)])
  rw [e]
  exact ((((h0).append h1).append h2).append h3).append h4

/-- an argument of one cell, out of its reading -/
theorem RDS.arg {t : TypeId} {α : Type} {E : α → List AV} {G : α → Prop} (h : RDS P t E G) {H : Type} {enc : TypeId × Value → H} {W : World} {v : Value} {d : DataW H} {p : List MemPlace} (hv : DataW.Trod enc P W 0 (fun _ => true) true t v d p) (hw : ∀ k ∈ d.weights P t, k ≤ reachBytes) (hna : v.cells = #[v]) {av : α → AV} (hE : ∀ a, E a = [av a]) :
    ∃ a, G a ∧ Rel (C0 W) (av a) v := by
  obtain ⟨fuel, hf⟩ := hv
  obtain ⟨a, h1, h2, h3⟩ := h enc W fuel _ _ hf hw
  rw [hE, hna] at h2
  exact ⟨a, h1, h2.2 0 _ _ rfl rfl⟩
theorem weights_head {H : Type} {t : TypeId} {d : DataW H} {ts : List TypeId} {ds : List (DataW H)} (h : (DataW.weightsEach P (t :: ts) (d :: ds)).all (· ≤ reachBytes) = true) : (∀ k ∈ d.weights P t, k ≤ reachBytes) ∧ (DataW.weightsEach P ts ds).all (· ≤ reachBytes) = true := by
  rw [DataW.weightsEach, List.all_append, Bool.and_eq_true] at h
  exact ⟨fun k hk => of_decide_eq_true (List.all_eq_true.1 h.1 k hk), h.2⟩
end Go.Proofs.Ytnbnegkdbjdekaa.A

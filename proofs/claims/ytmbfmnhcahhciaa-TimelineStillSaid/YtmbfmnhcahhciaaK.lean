/- From a row's readings to abstract values: what arguments are. -/
import Derived.Test.YtmbfmnhcahhciaaJ
import Derived.ChangeArms
import Derived.ChangeOld
namespace Go.Proofs.Ytmbfmnhcahhciaa.A
open Go Go.RowKit
set_option linter.unusedVariables false
set_option linter.unusedSimpArgs false
set_option linter.unusedSectionVars false
variable {P : Program}

/-- all that a memory holds -/
def C0 (W : World) : CS := fun b o => match W.cell? ⟨b, o, none⟩ with | some v => if v.oneCell' = true then some v else none | none => none
theorem C0_some {W : World} {b o : Nat} {v : Value} (h : W.cell? ⟨b, o, none⟩ = some v) (h1 : v.oneCell' = true) : C0 W b o = some v := by simp [C0, h, h1]
theorem com_C0 (W : World) : Com (C0 W) W := by
  refine ⟨fun b o v h => ?_, fun b o v h => ?_⟩ <;> unfold C0 at h <;> split at h
  · rename_i u hu; split at h; cases h; exact hu; cases h
  · cases h
  · rename_i u hu; split at h; rename_i h1; cases h; exact h1; cases h
  · cases h

def RD (P : Program) (t : TypeId) {α : Type} (E : α → List AV) (G : α → Prop) : Prop :=
  ∀ {H : Type} (enc : TypeId × Value → H) (W : World) (fuel : Nat) (cs : List Value) (x : DataW H × List MemPlace), DataW.trod enc P W 0 (fun _ => true) true fuel t cs = some x →
    ∃ a, G a ∧ Rels (C0 W) (E a) cs ∧ (E a).all AV.one = true
theorem RD.map {t : TypeId} {α β : Type} {E : α → List AV} {G : α → Prop} {E' : β → List AV} {G' : β → Prop} (h : RD P t E G) (f : α → β) (hf : ∀ a, G a → G' (f a) ∧ E' (f a) = E a) : RD P t E' G' := by
  intro H enc W fuel cs x hx
  obtain ⟨a, h1, h2, h3⟩ := h enc W fuel cs x hx
  obtain ⟨g1, g2⟩ := hf a h1
  exact ⟨f a, g1, by rw [g2]; exact h2, by rw [g2]; exact h3⟩
theorem rd_int {t : TypeId} {k : IntKind} (ht : P.underlying t = some (.int k)) : RD P t (fun n : Int => [.v (.int k n)]) (fun n => k.min ≤ n ∧ n ≤ k.max) := by
  intro H enc W fuel cs x hx
  obtain ⟨n, rfl, _, hw⟩ := DataW.trod_int ht hx
  exact ⟨n, by simpa [Lit.wf] using hw, Rels.cons (Rel.v _) Rels.nil, rfl⟩
theorem rd_bool {t : TypeId} (ht : P.underlying t = some .bool) : RD P t (fun b : Bool => [.v (.bool b)]) (fun _ => True) := by
  intro H enc W fuel cs x hx
  obtain ⟨n, rfl, _⟩ := DataW.trod_bool ht hx
  exact ⟨n, trivial, Rels.cons (Rel.v _) Rels.nil, rfl⟩
theorem rd_str {t : TypeId} (ht : P.underlying t = some .string) : RD P t (fun s : ByteArray => [.v (.string s)]) (fun _ => True) := by
  intro H enc W fuel cs x hx
  obtain ⟨n, rfl, _⟩ := DataW.trod_string ht hx
  exact ⟨n, trivial, Rels.cons (Rel.v _) Rels.nil, rfl⟩
theorem rd_u8 {t : TypeId} (ht : P.underlying t = some (.int .u8)) : RD P t (fun x : UInt8 => [.v (.int .u8 x.toNat)]) (fun _ => True) := by
  refine RD.map (rd_int ht) (fun n => UInt8.ofNat n.toNat) (fun n hn => ⟨trivial, ?_⟩)
  simp [IntKind.min, IntKind.max, IntKind.bits, IntKind.signed] at hn
  have : ((UInt8.ofNat n.toNat).toNat : Int) = n := by simp [UInt8.toNat_ofNat']; omega
  rw [this]

theorem cells_get {W : World} {a : Addr} {n : Nat} {cs : List Value} (h : W.cells? 0 a n = some cs) : cs.length = n ∧ ∀ j v, cs[j]? = some v → W.cell? (a.add j) = some v := by
  simp only [World.cells?, Nat.zero_le, if_true] at h
  have key : ∀ (l : List Nat) (cs : List Value), l.mapM (fun i => W.cell? (a.add i)) = some cs → cs.length = l.length ∧ ∀ (j : Nat) (v : Value), cs[j]? = some v → ∃ i : Nat, l[j]? = some i ∧ W.cell? (a.add i) = some v := by
    intro l
    induction l with
    | nil => intro cs h; simp at h; subst h; simp
    | cons i l ih =>
      intro cs h
      simp only [List.mapM_cons, Option.bind_eq_bind, Option.pure_def] at h
      cases h1 : W.cell? (a.add i) with
      | none => simp [h1] at h
      | some v =>
        cases h2 : l.mapM (fun i => W.cell? (a.add i)) with
        | none => simp [h1, h2] at h
        | some vs =>
          simp [h1, h2] at h
          subst h
          obtain ⟨g1, g2⟩ := ih vs h2
          refine ⟨by simp [g1], fun j u hj => ?_⟩
          cases j with
          | zero => simp at hj; subst hj; exact ⟨i, rfl, h1⟩
          | succ j => obtain ⟨i', k1, k2⟩ := g2 j u (by simpa using hj); exact ⟨i', by simpa using k1, k2⟩
  obtain ⟨h1, h2⟩ := key _ cs h
  refine ⟨by simpa using h1, fun j v hj => ?_⟩
  obtain ⟨i, k1, k2⟩ := h2 j v hj
  have : i = j := by
    have := (List.getElem?_eq_some_iff.1 k1).2; simpa using this.symm
  subst this; exact k2

theorem add_add (a : Addr) (i j : Nat) (hs : a.spot = none) : (a.add i).add j = ⟨a.block, a.off + i + j, none⟩ := by
  obtain ⟨b, o, s⟩ := a
  simp only at hs; subst hs
  rw [addr_add, addr_add]
theorem spot_none {W : World} {a : Addr} {i : Nat} {v : Value} (h : W.cell? (a.add i) = some v) : i = 0 → a.spot = none := by
  intro hi; subst hi
  simp only [Addr.add, if_true] at h
  unfold World.cell? at h
  split at h
  · split at h
    · cases h
    · rename_i hs; simpa using hs
  · cases h

theorem rd_slice {t e : TypeId} {α : Type} {E : α → List AV} {G : α → Prop} {sz : Nat} (ht : sliceT P t = some e) (hsz : szT P e = some (sz + 1)) (h : RD P e E G) (hE : ∀ a, (E a).length = sz + 1) :
    RD P t (fun l : List α => [.sl (sz + 1) (l.map E)]) (fun l => ∀ x ∈ l, G x) := by
  intro H enc W fuel cs x hx
  have hc : P.cellsOf e = sz + 1 := by unfold szT at hsz; simp [Program.cellsOf, hsz]
  rcases DataW.trod_slice (sliceT_un ht) hx with ⟨rfl, _⟩ | ⟨a, len, cap, elems, rest, n, _, rfl, _, _, hlc, _, hel, hget, _⟩
  · exact ⟨[], by simp, Rels.cons (rel_sl_mk 0 0 rfl (Nat.le_refl _) (fun e => absurd rfl e) ⟨fun _ h => by simp at h, fun i cs j c h => by simp at h⟩) Rels.nil, rfl⟩
  · have hone : ∀ i, i < len → ∃ (y : α) (cs : List Value), G y ∧ Rels (C0 W) (E y) cs ∧ (E y).all AV.one = true ∧ W.cells? 0 (a.add (i * (sz + 1))) (sz + 1) = some cs := by
      intro i hi
      have hg := hget i hi
      rw [hc, List.getElem?_eq_getElem (by omega : i < elems.length)] at hg
      cases hcs : W.cells? 0 (a.add (i * (sz + 1))) (sz + 1) with
      | none => simp [hcs] at hg
      | some cs =>
        simp only [hcs, Option.bind_some] at hg
        obtain ⟨y, g1, g2, g3⟩ := h enc W n cs _ hg
        exact ⟨y, cs, g1, g2, g3, rfl⟩
    let f : Fin len → α := fun i => Classical.choose (hone i i.2)
    have hf : ∀ i : Fin len, ∃ cs : List Value, G (f i) ∧ Rels (C0 W) (E (f i)) cs ∧ (E (f i)).all AV.one = true ∧ W.cells? 0 (a.add (i * (sz + 1))) (sz + 1) = some cs := fun i => Classical.choose_spec (hone i i.2)
    have hl : (List.ofFn f).length = len := by simp
    refine ⟨List.ofFn f, fun y hy => ?_, Rels.cons ?_ Rels.nil, rfl⟩
    · obtain ⟨i, rfl⟩ := List.mem_ofFn.1 hy
      obtain ⟨cs, g1, _⟩ := hf i; exact g1
    · have hspot : len ≠ 0 → a.spot = none := by
        intro h0
        obtain ⟨cs, g1, g2, g3, g4⟩ := hf ⟨0, by omega⟩
        obtain ⟨k1, k2⟩ := cells_get g4
        obtain ⟨v, hv⟩ : ∃ v, cs[0]? = some v := ⟨_, List.getElem?_eq_getElem (by omega)⟩
        have := k2 0 v hv
        simp only [Nat.zero_mul] at this
        have h00 : (a.add 0) = a := by simp [Addr.add]
        rw [h00] at this
        exact spot_none this rfl
      refine rel_sl_mk a.block a.off (by simp) hlc (fun hne => ?_) ⟨fun cs hcs => ?_, fun i cs j c h1 h2 => ?_⟩
      · have h0 : len ≠ 0 := by intro h0; apply hne; rw [List.map_eq_nil_iff]; exact List.eq_nil_of_length_eq_zero (by omega)
        have := hspot h0
        obtain ⟨b, o, s⟩ := a; simp only at this; subst this; rfl
      · obtain ⟨y, _, rfl⟩ := List.mem_map.1 hcs; exact hE y
      · rw [List.getElem?_map] at h1
        have hi : i < len := by
          rcases Nat.lt_or_ge i len with h' | h'
          · exact h'
          · rw [List.getElem?_eq_none (by omega)] at h1; simp at h1
        rw [List.getElem?_eq_getElem (by omega : i < (List.ofFn f).length)] at h1
        simp at h1
        obtain ⟨cs', g1, g2, g3, g4⟩ := hf ⟨i, hi⟩
        subst h1
        obtain ⟨k1, k2⟩ := cells_get g4
        obtain ⟨u, hu, hr⟩ := g2.get h2
        have hcell := k2 j u hu
        rw [add_add a _ _ (hspot (by omega))] at hcell
        refine ⟨u, C0_some hcell (hr.one ?_), hr⟩
        exact List.all_eq_true.1 g3 c (List.mem_of_getElem? h2)

theorem fieldT_un {s f off ft : Nat} (hf : fieldT P s f = some (off, ft)) : ∃ fs x, P.underlying s = some (.struct fs) ∧ fs[f]? = some x ∧ x.offset = off ∧ x.type = ft := by
  unfold fieldT at hf
  cases hu : P.underlying s with
  | none => simp [hu] at hf
  | some d =>
    cases d with
    | struct fs =>
      cases hx : fs[f]? with
      | none => simp [hu, hx] at hf
      | some x => simp [hu, hx] at hf; exact ⟨fs, x, rfl, hx, hf.1, hf.2⟩
    | _ => simp [hu] at hf
theorem szT_cells {t n : Nat} (h : szT P t = some n) : P.cellsOf t = n := by unfold szT at h; simp [Program.cellsOf, h]
theorem field_trod {H : Type} {enc : TypeId × Value → H} {W : World} {fuel : Nat} {cs : List Value} {x : DataW H × List MemPlace} {t f off ft n : Nat} (hf : fieldT P t f = some (off, ft)) (hn : szT P ft = some n)
    (h : DataW.trod enc P W 0 (fun _ => true) true fuel t cs = some x) : cs.length = P.cellsOf t ∧ (∃ k y, DataW.trod enc P W 0 (fun _ => true) true k ft ((cs.drop off).take n) = some y) := by
  obtain ⟨fs, g, hu, hg, rfl, rfl⟩ := fieldT_un hf
  obtain ⟨xs, k, _, _, hl, hxs, hall⟩ := DataW.trod_struct hu h
  refine ⟨hl, k, ?_⟩
  have := hall f g hg
  rw [szT_cells hn] at this
  have hlt : f < xs.length := by have := (Array.getElem?_eq_some_iff.1 hg).1; omega
  exact ⟨xs[f], by rw [this]; exact List.getElem?_eq_getElem hlt⟩
theorem rd_struct1 {t t0 n0 : Nat} {α0 : Type} {E0 : α0 → List AV} {G0 : α0 → Prop} (f0 : fieldT P t 0 = some (0, t0)) (hsz : szT P t = some (n0)) (c0 : szT P t0 = some n0) (r0 : RD P t0 E0 G0) :
    RD P t (fun a : α0 => E0 a) (fun a => G0 a) := by
  intro H enc W fuel cs x hx
  obtain ⟨hl0, k0, y0, hy0⟩ := field_trod f0 c0 hx
  obtain ⟨a0, g0, h0, o0⟩ := r0 enc W k0 _ y0 hy0
  refine ⟨a0, g0, ?_, by simp only [List.all_append, o0, Bool.and_self]⟩
  rw [szT_cells hsz] at hl0
  have e : cs = (cs.drop (0)).take n0 := by
    apply List.ext_getElem?
    intro j
    simp only [List.getElem?_append, List.getElem?_take, List.getElem?_drop, List.length_append, List.length_take, List.length_drop, hl0]
    repeat' split
    all_goals first | (congr 1; omega) | omega | (rw [List.getElem?_eq_none (by omega)])
  rw [e]
  exact h0
theorem rd_struct2 {t t0 t1 n0 n1 : Nat} {α0 α1 : Type} {E0 : α0 → List AV} {E1 : α1 → List AV} {G0 : α0 → Prop} {G1 : α1 → Prop} (f0 : fieldT P t 0 = some (0, t0)) (f1 : fieldT P t 1 = some (n0, t1)) (hsz : szT P t = some (n0 + n1)) (c0 : szT P t0 = some n0) (c1 : szT P t1 = some n1) (r0 : RD P t0 E0 G0) (r1 : RD P t1 E1 G1) :
    RD P t (fun a : α0 × α1 => E0 a.1 ++ E1 a.2) (fun a => G0 a.1 ∧ G1 a.2) := by
  intro H enc W fuel cs x hx
  obtain ⟨hl0, k0, y0, hy0⟩ := field_trod f0 c0 hx
  obtain ⟨a0, g0, h0, o0⟩ := r0 enc W k0 _ y0 hy0
  obtain ⟨hl1, k1, y1, hy1⟩ := field_trod f1 c1 hx
  obtain ⟨a1, g1, h1, o1⟩ := r1 enc W k1 _ y1 hy1
  refine ⟨⟨a0, a1⟩, ⟨g0, g1⟩, ?_, by simp only [List.all_append, o0, o1, Bool.and_self]⟩
  rw [szT_cells hsz] at hl0
  have e : cs = (cs.drop (0)).take n0 ++ (cs.drop (n0)).take n1 := by
    apply List.ext_getElem?
    intro j
    simp only [List.getElem?_append, List.getElem?_take, List.getElem?_drop, List.length_append, List.length_take, List.length_drop, hl0]
    repeat' split
    all_goals first | (congr 1; omega) | omega | (rw [List.getElem?_eq_none (by omega)])
  rw [e]
  exact (h0).append h1
theorem rd_struct3 {t t0 t1 t2 n0 n1 n2 : Nat} {α0 α1 α2 : Type} {E0 : α0 → List AV} {E1 : α1 → List AV} {E2 : α2 → List AV} {G0 : α0 → Prop} {G1 : α1 → Prop} {G2 : α2 → Prop} (f0 : fieldT P t 0 = some (0, t0)) (f1 : fieldT P t 1 = some (n0, t1)) (f2 : fieldT P t 2 = some (n0 + n1, t2)) (hsz : szT P t = some (n0 + n1 + n2)) (c0 : szT P t0 = some n0) (c1 : szT P t1 = some n1) (c2 : szT P t2 = some n2) (r0 : RD P t0 E0 G0) (r1 : RD P t1 E1 G1) (r2 : RD P t2 E2 G2) :
    RD P t (fun a : α0 × α1 × α2 => E0 a.1 ++ E1 a.2.1 ++ E2 a.2.2) (fun a => G0 a.1 ∧ G1 a.2.1 ∧ G2 a.2.2) := by
  intro H enc W fuel cs x hx
  obtain ⟨hl0, k0, y0, hy0⟩ := field_trod f0 c0 hx
  obtain ⟨a0, g0, h0, o0⟩ := r0 enc W k0 _ y0 hy0
  obtain ⟨hl1, k1, y1, hy1⟩ := field_trod f1 c1 hx
  obtain ⟨a1, g1, h1, o1⟩ := r1 enc W k1 _ y1 hy1
  obtain ⟨hl2, k2, y2, hy2⟩ := field_trod f2 c2 hx
  obtain ⟨a2, g2, h2, o2⟩ := r2 enc W k2 _ y2 hy2
  refine ⟨⟨a0, a1, a2⟩, ⟨g0, g1, g2⟩, ?_, by simp only [List.all_append, o0, o1, o2, Bool.and_self]⟩
  rw [szT_cells hsz] at hl0
  have e : cs = (cs.drop (0)).take n0 ++ (cs.drop (n0)).take n1 ++ (cs.drop (n0 + n1)).take n2 := by
    apply List.ext_getElem?
    intro j
    simp only [List.getElem?_append, List.getElem?_take, List.getElem?_drop, List.length_append, List.length_take, List.length_drop, hl0]
    repeat' split
    all_goals first | (congr 1; omega) | omega | (rw [List.getElem?_eq_none (by omega)])
  rw [e]
  exact ((h0).append h1).append h2
theorem rd_struct4 {t t0 t1 t2 t3 n0 n1 n2 n3 : Nat} {α0 α1 α2 α3 : Type} {E0 : α0 → List AV} {E1 : α1 → List AV} {E2 : α2 → List AV} {E3 : α3 → List AV} {G0 : α0 → Prop} {G1 : α1 → Prop} {G2 : α2 → Prop} {G3 : α3 → Prop} (f0 : fieldT P t 0 = some (0, t0)) (f1 : fieldT P t 1 = some (n0, t1)) (f2 : fieldT P t 2 = some (n0 + n1, t2)) (f3 : fieldT P t 3 = some (n0 + n1 + n2, t3)) (hsz : szT P t = some (n0 + n1 + n2 + n3)) (c0 : szT P t0 = some n0) (c1 : szT P t1 = some n1) (c2 : szT P t2 = some n2) (c3 : szT P t3 = some n3) (r0 : RD P t0 E0 G0) (r1 : RD P t1 E1 G1) (r2 : RD P t2 E2 G2) (r3 : RD P t3 E3 G3) :
    RD P t (fun a : α0 × α1 × α2 × α3 => E0 a.1 ++ E1 a.2.1 ++ E2 a.2.2.1 ++ E3 a.2.2.2) (fun a => G0 a.1 ∧ G1 a.2.1 ∧ G2 a.2.2.1 ∧ G3 a.2.2.2) := by
  intro H enc W fuel cs x hx
  obtain ⟨hl0, k0, y0, hy0⟩ := field_trod f0 c0 hx
  obtain ⟨a0, g0, h0, o0⟩ := r0 enc W k0 _ y0 hy0
  obtain ⟨hl1, k1, y1, hy1⟩ := field_trod f1 c1 hx
  obtain ⟨a1, g1, h1, o1⟩ := r1 enc W k1 _ y1 hy1
  obtain ⟨hl2, k2, y2, hy2⟩ := field_trod f2 c2 hx
  obtain ⟨a2, g2, h2, o2⟩ := r2 enc W k2 _ y2 hy2
  obtain ⟨hl3, k3, y3, hy3⟩ := field_trod f3 c3 hx
  obtain ⟨a3, g3, h3, o3⟩ := r3 enc W k3 _ y3 hy3
  refine ⟨⟨a0, a1, a2, a3⟩, ⟨g0, g1, g2, g3⟩, ?_, by simp only [List.all_append, o0, o1, o2, o3, Bool.and_self]⟩
  rw [szT_cells hsz] at hl0
  have e : cs = (cs.drop (0)).take n0 ++ (cs.drop (n0)).take n1 ++ (cs.drop (n0 + n1)).take n2 ++ (cs.drop (n0 + n1 + n2)).take n3 := by
    apply List.ext_getElem?
    intro j
    simp only [List.getElem?_append, List.getElem?_take, List.getElem?_drop, List.length_append, List.length_take, List.length_drop, hl0]
    repeat' split
    all_goals first | (congr 1; omega) | omega | (rw [List.getElem?_eq_none (by omega)])
  rw [e]
  exact (((h0).append h1).append h2).append h3
theorem rd_struct5 {t t0 t1 t2 t3 t4 n0 n1 n2 n3 n4 : Nat} {α0 α1 α2 α3 α4 : Type} {E0 : α0 → List AV} {E1 : α1 → List AV} {E2 : α2 → List AV} {E3 : α3 → List AV} {E4 : α4 → List AV} {G0 : α0 → Prop} {G1 : α1 → Prop} {G2 : α2 → Prop} {G3 : α3 → Prop} {G4 : α4 → Prop} (f0 : fieldT P t 0 = some (0, t0)) (f1 : fieldT P t 1 = some (n0, t1)) (f2 : fieldT P t 2 = some (n0 + n1, t2)) (f3 : fieldT P t 3 = some (n0 + n1 + n2, t3)) (f4 : fieldT P t 4 = some (n0 + n1 + n2 + n3, t4)) (hsz : szT P t = some (n0 + n1 + n2 + n3 + n4)) (c0 : szT P t0 = some n0) (c1 : szT P t1 = some n1) (c2 : szT P t2 = some n2) (c3 : szT P t3 = some n3) (c4 : szT P t4 = some n4) (r0 : RD P t0 E0 G0) (r1 : RD P t1 E1 G1) (r2 : RD P t2 E2 G2) (r3 : RD P t3 E3 G3) (r4 : RD P t4 E4 G4) :
    RD P t (fun a : α0 × α1 × α2 × α3 × α4 => E0 a.1 ++ E1 a.2.1 ++ E2 a.2.2.1 ++ E3 a.2.2.2.1 ++ E4 a.2.2.2.2) (fun a => G0 a.1 ∧ G1 a.2.1 ∧ G2 a.2.2.1 ∧ G3 a.2.2.2.1 ∧ G4 a.2.2.2.2) := by
  intro H enc W fuel cs x hx
  obtain ⟨hl0, k0, y0, hy0⟩ := field_trod f0 c0 hx
  obtain ⟨a0, g0, h0, o0⟩ := r0 enc W k0 _ y0 hy0
  obtain ⟨hl1, k1, y1, hy1⟩ := field_trod f1 c1 hx
  obtain ⟨a1, g1, h1, o1⟩ := r1 enc W k1 _ y1 hy1
  obtain ⟨hl2, k2, y2, hy2⟩ := field_trod f2 c2 hx
  obtain ⟨a2, g2, h2, o2⟩ := r2 enc W k2 _ y2 hy2
  obtain ⟨hl3, k3, y3, hy3⟩ := field_trod f3 c3 hx
  obtain ⟨a3, g3, h3, o3⟩ := r3 enc W k3 _ y3 hy3
  obtain ⟨hl4, k4, y4, hy4⟩ := field_trod f4 c4 hx
  obtain ⟨a4, g4, h4, o4⟩ := r4 enc W k4 _ y4 hy4
  refine ⟨⟨a0, a1, a2, a3, a4⟩, ⟨g0, g1, g2, g3, g4⟩, ?_, by simp only [List.all_append, o0, o1, o2, o3, o4, Bool.and_self]⟩
  rw [szT_cells hsz] at hl0
  have e : cs = (cs.drop (0)).take n0 ++ (cs.drop (n0)).take n1 ++ (cs.drop (n0 + n1)).take n2 ++ (cs.drop (n0 + n1 + n2)).take n3 ++ (cs.drop (n0 + n1 + n2 + n3)).take n4 := by
    apply List.ext_getElem?
    intro j
    simp only [List.getElem?_append, List.getElem?_take, List.getElem?_drop, List.length_append, List.length_take, List.length_drop, hl0]
    repeat' split
    all_goals first | (congr 1; omega) | omega | (rw [List.getElem?_eq_none (by omega)])
  rw [e]
  exact ((((h0).append h1).append h2).append h3).append h4

/-- an argument of one cell, out of its reading -/
theorem RD.arg {t : TypeId} {α : Type} {E : α → List AV} {G : α → Prop} (h : RD P t E G) {H : Type} {enc : TypeId × Value → H} {W : World} {v : Value} {d : DataW H} {p : List MemPlace} (hv : DataW.Trod enc P W 0 (fun _ => true) true t v d p) (hna : v.cells = #[v]) {av : α → AV} (hE : ∀ a, E a = [av a]) :
    ∃ a, G a ∧ Rel (C0 W) (av a) v := by
  obtain ⟨fuel, hf⟩ := hv
  obtain ⟨a, h1, h2, h3⟩ := h enc W fuel _ _ hf
  rw [hE, hna] at h2
  exact ⟨a, h1, h2.2 0 _ _ rfl rfl⟩
end Go.Proofs.Ytmbfmnhcahhciaa.A

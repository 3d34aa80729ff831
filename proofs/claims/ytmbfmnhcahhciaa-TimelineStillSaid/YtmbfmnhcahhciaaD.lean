/- The rules of a walk over abstract states: memory that is made and written. -/
import Derived.Test.YtmbfmnhcahhciaaC
import Derived.Laws.AppendOwn
import Derived.RangeFuncLeaves
import Derived.RangeFuncSeq
import Derived.RangeFuncCalls
namespace Go.Proofs.Ytmbfmnhcahhciaa.A
open Go Go.RowKit
set_option linter.unusedVariables false
set_option linter.unusedSimpArgs false
variable {P : Program} {w0 : Base} {C0 C : CS} {T : TS} {S S' : AState} {a : Act} {w : World} {ops : Array Oper} {rest : List Oper} {o : Oper} {Q : Exit → AState → Prop}
variable {t : Nat} {ty ty' : TypeId} {pos : String} {aft : Array Edge}

theorem SimC.step' (h : SimC w0 C0 C T S a w) {a' : Act} {w' : World} {C' : CS} {T' : TS} {slots' : List (Nat × SV)} {objs' : List OE} (hB : BelowX w0.heap.size w0.wb w w') (hdr : w0.q = true → w.drawn ≤ w'.drawn) (hsz : a'.tmps = a.tmps) (hdf : Defs w0 a'.defers w')
    (hcom : ∀ b o v, C' b o = some v → w'.cell? ⟨b, o, none⟩ = some v) (hone : ∀ b o v, C' b o = some v → v.oneCell' = true) (hold : ∀ b o, b < w0.heap.size → ¬ w0.wb b → C' b o = C b o)
    (hobjs : ∀ e, e ∈ objs' → ObjRel C' e.b e.o w' ∧ (∀ o, C' e.b o = none) ∧ (e.rw = true → w0.ok e.b)) (hap : objs'.Pairwise (fun e e' => e.b ≠ e'.b))
    (htoks : ∀ t k, T' t = some k → TokOk C' w0 w' k ∧ ∀ e, e ∈ objs' → e.b ≠ k.b) (htn : ∀ t t' k k', T' t = some k → T' t' = some k' → t ≠ t' → k.b ≠ k'.b)
    (hsl : ∀ t x, find t slots' = some x → ∃ y, find t S.slots = some y ∧ ∀ u, SRel C T y u → SRel C' T' x u) :
    SimC w0 C0 C' T' ⟨S.nt, slots', objs'⟩ a' w' where
  below := h.below.trans hB
  com := hcom
  one := hone
  old := fun b o hb hn => (hold b o hb hn).trans (h.old b o hb hn)
  objs := hobjs
  apart := hap
  toks := htoks
  tokne := htn
  size := by rw [hsz]; exact h.size
  slots := fun t x hx => by rw [hsz]; exact let ⟨y, hy, hr⟩ := hsl t x hx; hr _ (h.slots t y hy)
  defers := hdf
  dr := fun hq => Nat.le_trans (h.dr hq) (hdr hq)
theorem SimC.step (h : SimC w0 C0 C T S a w) {w' : World} {C' : CS} {T' : TS} {slots' : List (Nat × SV)} {objs' : List OE} (hB : BelowX w0.heap.size w0.wb w w') (hdr : w0.q = true → w.drawn ≤ w'.drawn) (hdf : ∀ D, w0.heap.size ≤ D → w.heap[D]? = some (.deferred (some [])) → w'.heap[D]? = some (.deferred (some [])))
    (hcom : ∀ b o v, C' b o = some v → w'.cell? ⟨b, o, none⟩ = some v) (hone : ∀ b o v, C' b o = some v → v.oneCell' = true) (hold : ∀ b o, b < w0.heap.size → ¬ w0.wb b → C' b o = C b o)
    (hobjs : ∀ e, e ∈ objs' → ObjRel C' e.b e.o w' ∧ (∀ o, C' e.b o = none) ∧ (e.rw = true → w0.ok e.b)) (hap : objs'.Pairwise (fun e e' => e.b ≠ e'.b))
    (htoks : ∀ t k, T' t = some k → TokOk C' w0 w' k ∧ ∀ e, e ∈ objs' → e.b ≠ k.b) (htn : ∀ t t' k k', T' t = some k → T' t' = some k' → t ≠ t' → k.b ≠ k'.b)
    (hsl : ∀ t x, find t slots' = some x → ∃ y, find t S.slots = some y ∧ ∀ u, SRel C T y u → SRel C' T' x u) :
    SimC w0 C0 C' T' ⟨S.nt, slots', objs'⟩ a w' :=
  h.step' hB hdr rfl (h.defers.keep hdf) hcom hone hold hobjs hap htoks htn hsl

theorem SRel.mono {C' : CS} (h : ∀ b o v, C b o = some v → C' b o = some v) {x : SV} {u : Value} (r : SRel C T x u) : SRel C' T x u := by
  cases x with
  | a x => exact Rel.mono h r
  | own tok sz l => rcases r with r | ⟨b, cap, e, h1, h2, h3, h4⟩; exact Or.inl r; exact Or.inr ⟨b, cap, e, h1, h2, h3, h4.mono h⟩

theorem SimC.fresh (h : SimC w0 C0 C T S a w) {b : Nat} (hb : w.heap.size ≤ b) (o : Nat) : C b o = none := by
  cases hc : C b o with
  | none => rfl
  | some v =>
    have := h.com b o v hc
    have := World.block_lt_of_cell? w _ this
    simp at this; omega
theorem SimC.objlt (h : SimC w0 C0 C T S a w) {e : OE} (he : e ∈ S.objs) : e.b < w.heap.size := (h.objs e he).1.nodef.1
theorem TokOk.lt {k : Tok} (h : TokOk C w0 w k) : k.b < w.heap.size := by
  obtain ⟨arr, h1, _⟩ := h.blk; exact (Array.getElem?_eq_some_iff.1 h1).1
theorem TokOk.keep {C' : CS} {w' : World} {k : Tok} (h : TokOk C w0 w k) (hb : w'.heap[k.b]? = w.heap[k.b]?) (hc : ∀ o, C' k.b o = C k.b o) : TokOk C' w0 w' k :=
  ⟨h.base, h.le, by obtain ⟨arr, h1, h2⟩ := h.blk; exact ⟨arr, hb.trans h1, h2⟩, fun o ho => (hc o).trans (h.free o ho)⟩
theorem com_keep {w' : World} (hcom : ∀ b o v, C b o = some v → w.cell? ⟨b, o, none⟩ = some v) (hk : ∀ b o v, C b o = some v → w'.heap[b]? = w.heap[b]?) :
    ∀ b o v, C b o = some v → w'.cell? ⟨b, o, none⟩ = some v :=
  fun b o v hc => (World.cell?_of_block (w := w) (w' := w') (a := ⟨b, o, none⟩) (hk b o v hc)).trans (hcom b o v hc)

/-- an own object is written -/
theorem SimC.setObj (h : SimC w0 C0 C T S a w) {i b : Nat} {ob ob' : AObj} (hi : S.objs[i]? = some ⟨b, true, ob⟩) {w' : World}
    (hdr : w.drawn ≤ w'.drawn) (hos : w'.os = w.os) (htape : w'.tape = w.tape) (hout : w'.output = w.output) (hsz : w'.heap.size = w.heap.size) (hk : ∀ k, k ≠ b → w'.heap[k]? = w.heap[k]?) (hr : ObjRel C b ob' w') :
    SimC w0 C0 C T ⟨S.nt, S.slots, S.objs.set i ⟨b, true, ob'⟩⟩ a w' := by
  have hm := mem_of_get hi
  have hlt : i < S.objs.length := (List.getElem?_eq_some_iff.1 hi).1
  have hbase : w0.ok b := (h.objs _ hm).2.2 rfl
  have hnone : ∀ o, C b o = none := (h.objs _ hm).2.1
  have hne : ∀ b' o v, C b' o = some v → b' ≠ b := fun b' o v hc e => by subst e; have := hnone o; simp [hc] at this
  have hmem : ∀ e, e ∈ S.objs.set i ⟨b, true, ob'⟩ → e = ⟨b, true, ob'⟩ ∨ (e ∈ S.objs ∧ e.b ≠ b) := by
    intro e he
    obtain ⟨j, hj⟩ := List.getElem?_of_mem he
    rw [List.getElem?_set] at hj
    by_cases hij : i = j
    · left; simp [hij] at hj; exact hj.2.symm
    · right
      rw [if_neg hij] at hj
      refine ⟨mem_of_get hj, ?_⟩
      have hj' : j < S.objs.length := (List.getElem?_eq_some_iff.1 hj).1
      have e1 := List.pairwise_iff_getElem.1 h.apart
      have g1 : S.objs[i] = ⟨b, true, ob⟩ := (List.getElem?_eq_some_iff.1 hi).2
      have g2 : S.objs[j] = e := (List.getElem?_eq_some_iff.1 hj).2
      rcases Nat.lt_or_gt_of_ne hij with hl | hl
      · have := e1 i j hlt hj' hl; rw [g1, g2] at this; exact fun e => this e.symm
      · have := e1 j i hj' hlt hl; rw [g1, g2] at this; exact this
  refine h.step ⟨hos, htape, hout, by omega, fun k hk' hn => hk k (fun e => by subst e; rcases hbase with h | h; omega; exact hn h)⟩ (fun _ => hdr) (fun D _ hD => (hk D (fun e => by subst e; exact (h.objs _ hm).1.nodef.2 hD)).trans hD) (com_keep h.com (fun b' o v hc => hk b' (hne b' o v hc))) h.one (fun _ _ _ _ => rfl) ?_ ?_ ?_ h.tokne (fun t x hx => ⟨x, hx, fun u r => r⟩)
  · intro e he
    rcases hmem e he with rfl | ⟨he', hb⟩
    · exact ⟨hr, hnone, fun _ => hbase⟩
    · obtain ⟨h1, h2, h3⟩ := h.objs e he'
      exact ⟨h1.mono (fun _ _ _ x => x) (hk _ hb), h2, h3⟩
  · have : (S.objs.set i ⟨b, true, ob'⟩).map (·.b) = S.objs.map (·.b) := by
      rw [List.map_set]
      apply List.ext_getElem?
      intro j
      rw [List.getElem?_set]
      by_cases hij : i = j
      · subst hij; have g1 : S.objs[i] = ⟨b, true, ob⟩ := (List.getElem?_eq_some_iff.1 hi).2; simp [hlt, g1]
      · simp [hij]
    have e2 := List.pairwise_map.2 h.apart
    exact List.pairwise_map.1 (this ▸ e2)
  · intro t k hk'
    obtain ⟨h1, h2⟩ := h.toks t k hk'
    have hkb : k.b ≠ b := fun e => h2 _ hm e.symm
    refine ⟨h1.keep (hk _ hkb) (fun _ => rfl), fun e he => ?_⟩
    rcases hmem e he with rfl | ⟨he', hb⟩
    · exact fun e => hkb e.symm
    · exact h2 e he'

/-- a new object -/
theorem SimC.newObj (h : SimC w0 C0 C T S a w) (ob : Obj) {o : AObj} (hr : ObjRel C w.heap.size o (w.alloc ob)) :
    SimC w0 C0 C T ⟨S.nt, S.slots, ⟨w.heap.size, true, o⟩ :: S.objs⟩ a (w.alloc ob) := by
  have hb0 : w0.heap.size ≤ w.heap.size := h.below.size
  refine h.step (BelowX.of ((Below.refl _ _).alloc hb0 _)) (fun _ => Nat.le_refl _) (fun D _ hD => (Below.heap_alloc _ _ _ (Array.getElem?_eq_some_iff.1 hD).1).trans hD) (com_keep h.com (fun b o v hc => Below.heap_alloc _ _ _ (by have := World.block_lt_of_cell? w _ (h.com _ _ _ hc); simpa using this))) h.one (fun _ _ _ _ => rfl) ?_ ?_ ?_ h.tokne (fun t x hx => ⟨x, hx, fun u r => r⟩)
  · intro e he
    rcases List.mem_cons.1 he with rfl | he
    · exact ⟨hr, fun o => h.fresh (Nat.le_refl _) o, fun _ => .inl hb0⟩
    · obtain ⟨h1, h2, h3⟩ := h.objs e he
      exact ⟨h1.mono (fun _ _ _ x => x) (Below.heap_alloc _ _ _ (h.objlt he)), h2, h3⟩
  · exact List.pairwise_cons.2 ⟨fun e he => by have := h.objlt he; simp; omega, h.apart⟩
  · intro t k hk
    obtain ⟨h1, h2⟩ := h.toks t k hk
    refine ⟨h1.keep (Below.heap_alloc _ _ _ h1.lt) (fun _ => rfl), fun e he => ?_⟩
    rcases List.mem_cons.1 he with rfl | he
    · have := h1.lt; simp; omega
    · exact h2 e he

/-- a draw -/
theorem SimC.drew (h : SimC w0 C0 C T S a w) : SimC w0 C0 C T S a w.drew :=
  ⟨h.below.drew, h.com, h.one, h.old, fun e he => ⟨(h.objs e he).1.mono (fun _ _ _ x => x) rfl, (h.objs e he).2⟩, h.apart, fun t k hk => ⟨(h.toks t k hk).1.keep rfl (fun _ => rfl), (h.toks t k hk).2⟩, h.tokne, h.size, h.slots, h.defers.keep (fun _ _ h => h), fun hq => Nat.le_trans (h.dr hq) (Nat.le_succ _)⟩

/-- a mark is taken up -/
theorem SimC.taken (h : SimC w0 C0 C T S a w) {l : List Nat} {D : Nat} (hd : a.defers = (D :: l).map (fun D => { target := .collected D, args := #[] })) (hnd : (D :: l).Nodup) (hl : ∀ D' ∈ D :: l, w0.heap.size ≤ D' ∧ w.heap[D']? = some (.deferred (some []))) :
    SimC w0 C0 C T S { a with defers := l.map (fun D => { target := .collected D, args := #[] }) } (w.putObj D (.deferred none)) := by
  obtain ⟨hD1, hD2⟩ := hl D List.mem_cons_self
  have hoth : ∀ k, k ≠ D → (w.putObj D (.deferred none)).heap[k]? = w.heap[k]? := fun k hk => World.putObj_heap_other hk
  have hC : ∀ b o v, C b o = some v → b ≠ D := fun b o v hc e => by subst e; have := h.com _ _ _ hc; simp [World.cell?, hD2] at this
  refine h.step' ⟨rfl, rfl, rfl, by simp, fun k hk _ => hoth k (by omega)⟩ (fun _ => Nat.le_refl _) rfl ⟨l, rfl, (List.nodup_cons.1 hnd).2, fun D' hD' => ⟨(hl D' (List.mem_cons_of_mem _ hD')).1, (hoth D' (fun e => (List.nodup_cons.1 hnd).1 (e ▸ hD'))).trans (hl D' (List.mem_cons_of_mem _ hD')).2⟩⟩
    (fun b o v hc => (World.cell?_of_block (w := w) (a := ⟨b, o, none⟩) (hoth b (hC b o v hc))).trans (h.com _ _ _ hc)) h.one (fun _ _ _ _ => rfl) ?_ h.apart ?_ h.tokne (fun t x hx => ⟨x, hx, fun u r => r⟩)
  · intro e he
    obtain ⟨g1, g2, g3⟩ := h.objs e he
    exact ⟨g1.mono (fun _ _ _ x => x) (hoth _ (fun e' => g1.nodef.2 (e' ▸ hD2))), g2, g3⟩
  · intro t k hk
    obtain ⟨g1, g2⟩ := h.toks t k hk
    refine ⟨g1.keep (hoth _ (fun e' => ?_)) (fun _ => rfl), g2⟩
    obtain ⟨arr, hb, _⟩ := g1.blk
    rw [e', hD2] at hb; cases hb
/-- a mark is laid -/
theorem SimC.mark (h : SimC w0 C0 C T S a w) :
    SimC w0 C0 C T S { a with defers := { target := .collected w.heap.size, args := #[] } :: a.defers } (w.alloc (.deferred (some []))) := by
  have hb0 : w0.heap.size ≤ w.heap.size := h.below.size
  obtain ⟨l, h1, h2, h3⟩ := h.defers
  refine h.step' (BelowX.of ((Below.refl _ _).alloc hb0 _)) (fun _ => Nat.le_refl _) rfl ⟨w.heap.size :: l, by simp [h1], List.nodup_cons.2 ⟨fun hm => ?_, h2⟩, fun D hD => ?_⟩ (com_keep h.com (fun b o v hc => Below.heap_alloc _ _ _ (by have := World.block_lt_of_cell? w _ (h.com _ _ _ hc); simpa using this))) h.one (fun _ _ _ _ => rfl) ?_ h.apart ?_ h.tokne (fun t x hx => ⟨x, hx, fun u r => r⟩)
  · have := (Array.getElem?_eq_some_iff.1 (h3 _ hm).2).1; omega
  · rcases List.mem_cons.1 hD with rfl | hD
    · exact ⟨hb0, heap_alloc_new w _⟩
    · exact ⟨(h3 D hD).1, (Below.heap_alloc _ _ _ (Array.getElem?_eq_some_iff.1 (h3 D hD).2).1).trans (h3 D hD).2⟩
  · intro e he
    obtain ⟨h1, h2, h3⟩ := h.objs e he
    exact ⟨h1.mono (fun _ _ _ x => x) (Below.heap_alloc _ _ _ (h.objlt he)), h2, h3⟩
  · intro t k hk
    obtain ⟨h1, h2⟩ := h.toks t k hk
    exact ⟨h1.keep (Below.heap_alloc _ _ _ h1.lt) (fun _ => rfl), h2⟩

theorem heap_alloc_at (w : World) (o : Obj) : (w.alloc o).heap[w.heap.size]? = some o := heap_alloc_new w o

/-! ### nil, seen as a slice without elements -/
inductive Le1 : AV → AV → Prop where
  | refl (x : AV) : Le1 x x
  | nil (sz : Nat) : Le1 (.v (.slice none 0 0)) (.sl sz [])
theorem Le1.rel {x y : AV} (h : Le1 x y) {u : Value} (r : Rel C x u) : Rel C y u := by
  cases h with
  | refl x => exact r
  | nil sz => cases r; exact rel_sl_mk 0 0 rfl (Nat.le_refl _) (fun e => absurd rfl e) ⟨fun _ h => by simp at h, fun i cs j c h => by simp at h⟩
inductive LeCells : List AV → List AV → Prop where
  | nil : LeCells [] []
  | cons {x y : AV} {xs ys : List AV} (h : Le1 x y) (r : LeCells xs ys) : LeCells (x :: xs) (y :: ys)
theorem LeCells.rels {xs ys : List AV} (h : LeCells xs ys) : ∀ {arr : List Value}, Rels C xs arr → Rels C ys arr := by
  induction h with
  | nil => exact fun r => r
  | cons h1 _ ih =>
    intro arr r
    obtain ⟨u, us, rfl, h2, h3⟩ := r.cons_inv
    exact Rels.cons (h1.rel h2) (ih h3)
theorem LeCells.refl : ∀ (xs : List AV), LeCells xs xs
  | [] => .nil
  | x :: xs => .cons (.refl x) (LeCells.refl xs)
inductive LeA : AV → AV → Prop where
  | one {x y : AV} (h : Le1 x y) : LeA x y
  | agg {cs cs' : List AV} (h : LeCells cs cs') : LeA (.agg cs) (.agg cs')
theorem LeA.rel {x y : AV} (h : LeA x y) {u : Value} (r : Rel C x u) : Rel C y u := by
  cases h with
  | one h => exact h.rel r
  | agg h =>
    cases r with
    | agg u hn hC hR => exact rel_agg.2 (h.rels (rel_agg.1 (.agg u hn hC hR)))
theorem rels_vs (zs : List Value) : Rels C (zs.map AV.v) zs := ⟨by simp, fun j c u h1 h2 => by simp only [List.getElem?_map, h2] at h1; simp at h1; subst h1; exact Rel.v _⟩
def ZeroT (P : Program) (t : TypeId) (zs' : List AV) : Prop := ∃ zs, zeroT P t = some zs ∧ LeCells (zs.map AV.v) zs'
theorem ZeroT.run {t : TypeId} {zs' : List AV} (h : ZeroT P t zs') (w : World) (C : CS) : ∃ z zs, (zeroValue t).run P w = .ok z w ∧ z.cells = zs.toArray ∧ Rels C zs' zs ∧ zeroT P t = some zs := by
  obtain ⟨zs, h1, h2⟩ := h
  obtain ⟨z, h3, h4⟩ := run_zero h1 w
  exact ⟨z, zs, h3, h4, h2.rels (rels_vs zs), h1⟩

/-! ### boxes -/
theorem r_alloc {e : TypeId} {zs' : List AV} (hz : ZeroT P e zs') (ht : Nat.blt t S.nt = true)
    (hr : ∀ b, AWL P w0 C0 ops rest Q (AState.put ⟨S.nt, S.slots, ⟨b, true, .box zs'⟩ :: S.objs⟩ t (.a (.v (.pointer (some ⟨b, 0, none⟩)))))) :
    AWL P w0 C0 ops (⟨some t, .alloc e, ty, pos, aft, none⟩ :: rest) Q S := by
  rintro a w ⟨C, T, hs⟩
  obtain ⟨z, zs, hz1, hz2, hz3, _⟩ := hz.run w C
  have hrun : (execOp a.eval ⟨some t, .alloc e, ty, pos, aft, none⟩).run P w = .ok (.value (.pointer (some ⟨w.heap.size, 0, none⟩))) (w.alloc (.cells zs.toArray e)) := by
    simp [execOp, Instr.alloc, Sem.run_bind, hz1, newVar, newRow, hz2]
  refine wpList_plain rfl (fun K hK => ?_)
  unfold Oper.wp
  rw [hrun]
  have hs' := hs.newObj (.cells zs.toArray e) (o := .box zs') ⟨zs.toArray, e, heap_alloc_at _ _, by simpa using hz3⟩
  exact hK _ _ (hr w.heap.size _ _ ⟨C, T, hs'.put ht (srel_v _)⟩)

/-- the cells of a value -/
def AV.cells : AV → List AV
  | .agg cs => cs
  | .v x => x.cells.toList.map AV.v
  | x => [x]
def AV.one : AV → Bool
  | .agg _ | .tup _ => false
  | .v x => x.oneCell'
  | _ => true
theorem Rel.cells {x : AV} {u : Value} (h : Rel C x u) : Rels C x.cells u.cells.toList := by
  cases h with
  | v x =>
    refine ⟨by simp [AV.cells], fun j c u h1 h2 => ?_⟩
    simp only [AV.cells, List.getElem?_map] at h1
    rw [h2] at h1; simp at h1; subst h1; exact Rel.v _
  | agg u hn hC hR => exact rel_agg.1 (.agg u hn hC hR)
  | sl b o u hn hc hA hz hC hR => exact Rels.cons (.sl b o u hn hc hA hz hC hR) Rels.nil
  | tup u hn hC hR => exact Rels.cons (.tup u hn hC hR) Rels.nil
  | cp u hC hR => exact Rels.cons (.cp u hC hR) Rels.nil
  | fn u hn hC hR => exact Rels.cons (.fn u hn hC hR) Rels.nil
theorem Rel.one {x : AV} {u : Value} (h : Rel C x u) (h1 : x.one = true) : u.oneCell' = true := by
  cases h <;> simp_all [AV.one, Value.oneCell']
theorem Rels.ones {cs : List AV} {arr : List Value} (h : Rels C cs arr) (h1 : cs.all AV.one = true) : ∀ u ∈ arr, u.oneCell' = true := by
  intro u hu
  obtain ⟨j, hj⟩ := List.getElem?_of_mem hu
  have hlt : j < cs.length := by have := (List.getElem?_eq_some_iff.1 hj).1; have := h.1; omega
  exact (h.2 j cs[j] u (List.getElem?_eq_getElem hlt) hj).one (List.all_eq_true.1 h1 _ (List.getElem_mem hlt))

theorem r_store (i : Nat) {x y : Operand} {b off n : Nat} {cs : List AV} {sv : SV} (hx : S.ev x = some (.a (.v (.pointer (some ⟨b, off, none⟩))))) (hi : S.objs[i]? = some ⟨b, true, .box cs⟩) (hy : S.ev y = some sv)
    (hn : szT P ty' = some n) (hn' : Nat.beq sv.av.cells.length n = true) (hl : Nat.ble (off + n) cs.length = true) (h1 : sv.av.cells.all AV.one = true)
    (hr : AWL P w0 C0 ops rest Q ⟨S.nt, S.slots, S.objs.set i ⟨b, true, .box (cs.take off ++ sv.av.cells ++ cs.drop (off + n))⟩⟩) :
    AWL P w0 C0 ops (⟨none, .store ty' x y, ty, pos, aft, none⟩ :: rest) Q S := by
  refine awl_opu rfl rfl (fun C T a w hs => ?_) hr
  obtain ⟨arr, t0, g1, g2⟩ := (hs.objs _ (mem_of_get hi)).1
  have hc := (hs.ev hy).av.cells
  generalize hv : a.eval y = v at hc
  have hlen : v.cells.toList.length = n := by rw [hc.1]; exact Nat.eq_of_beq_eq_true hn'
  have hl' := Nat.le_of_ble_eq_true hl
  have harr : arr.size = cs.length := by have := g2.1; simpa using this
  have hst := run_storeCells_at P b off t0 v.cells.toList 0 arr w g1 (by rw [hlen]; omega) (hc.ones h1)
  simp only [Nat.add_zero, hlen] at hst
  refine ⟨_, C, T, ?_, hs.setObj hi (w' := w.setRow b (arr.toList.take off ++ v.cells.toList ++ arr.toList.drop (off + n)).toArray) (Nat.le_refl _) rfl rfl rfl (by simp) (fun k hk => setRow_other w b k _ hk) ⟨_, t0, setRow_heap w b arr _ t0 _ g1, ?_⟩⟩
  · have hlen' : v.cells.size = n := by simpa using hlen
    simp [execOp, hs.evv hx, hv, Instr.storeAt, Instr.sureAddr, storeVar, Sem.run_bind, run_sz hn, hlen', hst]
  · have r1 := rels_take_drop g2 0 off
    have r2 := rels_take_drop g2 (off + n) cs.length
    simp only [List.drop_zero] at r1
    rw [List.take_of_length_le (by simp), List.take_of_length_le (by simp; omega)] at r2
    simpa using (r1.append hc).append r2
end Go.Proofs.Ytmbfmnhcahhciaa.A

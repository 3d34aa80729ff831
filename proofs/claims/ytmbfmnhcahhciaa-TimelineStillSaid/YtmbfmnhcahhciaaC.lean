/- The rules of a walk over abstract states: memory that is read. -/
import Derived.Test.YtmbfmnhcahhciaaB
import Derived.Laws.CopyRow
namespace Go.Proofs.Ytmbfmnhcahhciaa.A
open Go Go.RowKit
set_option linter.unusedVariables false
set_option linter.unusedSimpArgs false
variable {P : Program} {w0 : Base} {C0 C : CS} {T : TS} {S S' : AState} {a : Act} {w : World} {ops : Array Oper} {rest : List Oper} {o : Oper} {Q : Exit → AState → Prop}
variable {t : Nat} {ty ty' : TypeId} {pos : String} {aft : Array Edge}

theorem addr_add (b o n : Nat) : (⟨b, o, none⟩ : Addr).add n = ⟨b, o + n, none⟩ := by unfold Addr.add; split <;> simp_all

/-! ### types, in closed facts -/
def aggT (P : Program) (t : TypeId) : Option Bool :=
  match P.underlying t with
  | some (.struct _) | some (.array _ _) => some true
  | some _ => some false
  | none => none
def szT (P : Program) (t : TypeId) : Option Nat := (P.info? t).map (·.size)
def zeroT (P : Program) (t : TypeId) : Option (List Value) := ((P.info? t).bind (·.zero)).map (·.cells.toList)
def fieldT (P : Program) (s : TypeId) (f : Nat) : Option (Nat × TypeId) :=
  match P.underlying s with
  | some (.struct fs) => (fs[f]?).map fun x => (x.offset, x.type)
  | _ => none
theorem run_isAgg {t : TypeId} {b : Bool} (h : aggT P t = some b) (w : World) : (isAgg t).run P w = .ok b w := by
  unfold aggT at h
  cases hu : P.underlying t with
  | none => simp [hu] at h
  | some d =>
    unfold isAgg
    rw [Sem.run_bind, run_underlying hu w]
    cases d <;> simp_all
theorem run_sz {t : TypeId} {n : Nat} (h : szT P t = some n) (w : World) : (Go.sizeOf t).run P w = .ok n w := by
  unfold szT at h
  cases hi : P.info? t with
  | none => simp [hi] at h
  | some i => simp [hi] at h; simp [Go.sizeOf, typeInfo, hi, h]
theorem run_zero {t : TypeId} {zs : List Value} (h : zeroT P t = some zs) (w : World) : ∃ z, (zeroValue t).run P w = .ok z w ∧ z.cells = zs.toArray := by
  unfold zeroT at h
  cases hi : P.info? t with
  | none => simp [hi] at h
  | some i =>
    cases hz : i.zero with
    | none => simp [hi, hz] at h
    | some z =>
      simp [hi, hz] at h
      exact ⟨z, by simp [zeroValue, typeInfo, hi, hz], by rw [← h]⟩

/-! ### loads -/
theorem run_load_cells {b o n : Nat} {cs : List Value} (hn : cs.length = n) (h : ∀ j v, cs[j]? = some v → w.cell? ⟨b, o + j, none⟩ = some v) :
    (loadCells ⟨b, o, none⟩ n).run P w = .ok cs.toArray w := by
  subst hn
  exact run_loadCells_list w ⟨b, o, none⟩ cs (fun j v hv => by rw [addr_add]; exact h j v hv)

theorem run_loadVar1 {b o : Nat} {v : Value} (hA : aggT P ty = some false) (h : w.cell? ⟨b, o, none⟩ = some v) : (loadVar ty ⟨b, o, none⟩).run P w = .ok v w := by
  simp [loadVar, Sem.run_bind, run_isAgg hA, load, Sem.run, h]
theorem run_loadVarA {b o n : Nat} {cs : List Value} (hA : aggT P ty = some true) (hn : szT P ty = some n) (hl : cs.length = n) (h : ∀ j v, cs[j]? = some v → w.cell? ⟨b, o + j, none⟩ = some v) :
    (loadVar ty ⟨b, o, none⟩).run P w = .ok (.agg cs.toArray) w := by
  simp [loadVar, Sem.run_bind, run_isAgg hA, run_sz hn, run_load_cells hl h]

/-- values at a list of cells -/
theorem rels_of_cells {cs : List AV} {f : Nat → Option Value} (h : ∀ (j : Nat) (c : AV), cs[j]? = some c → ∃ u, f j = some u ∧ Rel C c u) :
    ∃ arr : List Value, Rels C cs arr ∧ ∀ (j : Nat) (u : Value), arr[j]? = some u → f j = some u := by
  induction cs generalizing f with
  | nil => exact ⟨[], Rels.nil, fun j u h => by simp at h⟩
  | cons c cs ih =>
    obtain ⟨u, hu, hr⟩ := h 0 c rfl
    obtain ⟨arr, h1, h2⟩ := ih (f := fun j => f (j + 1)) (fun j c hj => h (j + 1) c (by simpa using hj))
    refine ⟨u :: arr, Rels.cons hr h1, fun j v hj => ?_⟩
    cases j with
    | zero => simp at hj; subst hj; exact hu
    | succ j => exact h2 j v (by simpa using hj)

theorem r_load1 {x : Operand} {c : AV} {cs : List AV} (hx : S.ev x = some (.a (.cp (c :: cs)))) (hA : aggT P ty' = some false) (ht : Nat.blt t S.nt = true)
    (hr : AWL P w0 C0 ops rest Q (S.put t (.a c))) : AWL P w0 C0 ops (⟨some t, .load ty' x, ty, pos, aft, none⟩ :: rest) Q S :=
  awl_pure ht (fun C T a w hs => by
    have h := hs.ev hx
    generalize hv : a.eval x = u at h
    obtain ⟨b, o, rfl, hc⟩ := rel_cp_inv h
    obtain ⟨u, hu, hr⟩ := hc 0 c rfl
    rw [Nat.add_zero] at hu
    exact ⟨u, by simp [execOp, hv, Instr.loadAt, Instr.sureAddr, run_loadVar1 hA (hs.com _ _ _ hu)], hr⟩) hr
theorem r_loadA {x : Operand} {n : Nat} {cs : List AV} (hx : S.ev x = some (.a (.cp cs))) (hA : aggT P ty' = some true) (hn : szT P ty' = some n) (hl : Nat.ble n cs.length = true) (ht : Nat.blt t S.nt = true)
    (hr : AWL P w0 C0 ops rest Q (S.put t (.a (.agg (cs.take n))))) : AWL P w0 C0 ops (⟨some t, .load ty' x, ty, pos, aft, none⟩ :: rest) Q S :=
  awl_pure ht (fun C T a w hs => by
    have h := hs.ev hx
    generalize hv : a.eval x = u at h
    obtain ⟨b, o, rfl, hc⟩ := rel_cp_inv h
    obtain ⟨arr, h1, h2⟩ := rels_of_cells (C := C) (cs := cs.take n) (f := fun j => w.cell? ⟨b, o + j, none⟩) (fun j c hj => by
      obtain ⟨u, hu, hr⟩ := hc j c (by rw [List.getElem?_take] at hj; split at hj; exact hj; cases hj)
      exact ⟨u, hs.com _ _ _ hu, hr⟩)
    have hl' : arr.length = n := by rw [h1.1, List.length_take]; have := Nat.le_of_ble_eq_true hl; omega
    exact ⟨.agg arr.toArray, by simp [execOp, hv, Instr.loadAt, Instr.sureAddr, run_loadVarA hA hn hl' h2], rel_agg.2 h1⟩) hr

/-- own boxes -/
theorem box_cells {b : Nat} {cs : List AV} (h : ObjRel C b (.box cs) w) : ∃ arr : List Value, Rels C cs arr ∧ ∀ (j : Nat) (u : Value), arr[j]? = some u → w.cell? ⟨b, j, none⟩ = some u := by
  obtain ⟨arr, t, h1, h2⟩ := h
  exact ⟨arr.toList, h2, fun j u hj => by rw [cell_of_row w b j arr t (0, 0) h1]; simpa using hj⟩
theorem mem_of_get {l : List OE} {i : Nat} {e : OE} (h : l[i]? = some e) : e ∈ l := List.mem_of_getElem? h

theorem r_load1b (i : Nat) {x : Operand} {b o : Nat} {rw' : Bool} {c : AV} {cs : List AV} (hx : S.ev x = some (.a (.v (.pointer (some ⟨b, o, none⟩))))) (hi : S.objs[i]? = some ⟨b, rw', .box cs⟩) (hc : cs[o]? = some c)
    (hA : aggT P ty' = some false) (ht : Nat.blt t S.nt = true)
    (hr : AWL P w0 C0 ops rest Q (S.put t (.a c))) : AWL P w0 C0 ops (⟨some t, .load ty' x, ty, pos, aft, none⟩ :: rest) Q S :=
  awl_pure ht (fun C T a w hs => by
    obtain ⟨arr, h1, h2⟩ := box_cells (hs.objs _ (mem_of_get hi)).1
    obtain ⟨u, hu, hr⟩ := h1.get hc
    exact ⟨u, by simp [execOp, hs.evv hx, Instr.loadAt, Instr.sureAddr, run_loadVar1 hA (h2 _ _ hu)], hr⟩) hr
theorem r_loadAb (i : Nat) {x : Operand} {b o n : Nat} {rw' : Bool} {cs : List AV} (hx : S.ev x = some (.a (.v (.pointer (some ⟨b, o, none⟩))))) (hi : S.objs[i]? = some ⟨b, rw', .box cs⟩)
    (hA : aggT P ty' = some true) (hn : szT P ty' = some n) (hl : Nat.ble (o + n) cs.length = true) (ht : Nat.blt t S.nt = true)
    (hr : AWL P w0 C0 ops rest Q (S.put t (.a (.agg ((cs.drop o).take n))))) : AWL P w0 C0 ops (⟨some t, .load ty' x, ty, pos, aft, none⟩ :: rest) Q S :=
  awl_pure ht (fun C T a w hs => by
    obtain ⟨arr0, g1, g2⟩ := box_cells (hs.objs _ (mem_of_get hi)).1
    obtain ⟨arr, h1, h2⟩ := rels_of_cells (C := C) (cs := (cs.drop o).take n) (f := fun j => w.cell? ⟨b, o + j, none⟩) (fun j c hj => by
      obtain ⟨u, hu, hr⟩ := g1.get (j := o + j) (c := c) (by rw [List.getElem?_take] at hj; split at hj; rw [List.getElem?_drop] at hj; exact hj; cases hj)
      exact ⟨u, g2 _ _ hu, hr⟩)
    have hl' : arr.length = n := by rw [h1.1, List.length_take, List.length_drop]; have := Nat.le_of_ble_eq_true hl; omega
    exact ⟨.agg arr.toArray, by simp [execOp, hs.evv hx, Instr.loadAt, Instr.sureAddr, run_loadVarA hA hn hl' h2], rel_agg.2 h1⟩) hr

/-! ### addresses of fields, fields of values -/
theorem run_fieldAt {s : TypeId} {f off ft n b o : Nat} (hf : fieldT P s f = some (off, ft)) (hn : szT P ft = some (n + 1)) (w : World) :
    (Instr.fieldAt s (.pointer (some ⟨b, o, none⟩)) f).run P w = .ok (.pointer (some ⟨b, o + off, none⟩)) w := by
  unfold fieldT at hf
  cases hu : P.underlying s with
  | none => simp [hu] at hf
  | some d =>
    cases d with
    | struct fs =>
      cases hx : fs[f]? with
      | none => simp [hu, hx] at hf
      | some x =>
        simp [hu, hx] at hf
        obtain ⟨rfl, rfl⟩ := hf
        simp [Instr.fieldAt, Sem.run_bind, run_underlying hu, hx, Instr.sureAddr, fieldPlace, run_sz hn, addr_add]
    | _ => simp [hu] at hf
theorem r_fieldcp {x : Operand} {s f off ft n : Nat} {cs : List AV} (hx : S.ev x = some (.a (.cp cs))) (hf : fieldT P s f = some (off, ft)) (hn : szT P ft = some (n + 1)) (ht : Nat.blt t S.nt = true)
    (hr : AWL P w0 C0 ops rest Q (S.put t (.a (.cp (cs.drop off))))) : AWL P w0 C0 ops (⟨some t, .fieldAddr s x f, ty, pos, aft, none⟩ :: rest) Q S :=
  awl_pure ht (fun C T a w hs => by
    have h := hs.ev hx
    generalize hv : a.eval x = u at h
    obtain ⟨b, o, rfl, hc⟩ := rel_cp_inv h
    refine ⟨.pointer (some ⟨b, o + off, none⟩), by simp [execOp, hv, run_fieldAt hf hn], rel_cp_mk (fun j c hj => ?_)⟩
    rw [List.getElem?_drop] at hj
    obtain ⟨u, hu, hr⟩ := hc _ c hj
    exact ⟨u, by rw [Nat.add_assoc]; exact hu, hr⟩) hr
theorem r_fieldb {x : Operand} {s f off ft n b o : Nat} (hx : S.ev x = some (.a (.v (.pointer (some ⟨b, o, none⟩))))) (hf : fieldT P s f = some (off, ft)) (hn : szT P ft = some (n + 1)) (ht : Nat.blt t S.nt = true)
    (hr : AWL P w0 C0 ops rest Q (S.put t (.a (.v (.pointer (some ⟨b, o + off, none⟩)))))) : AWL P w0 C0 ops (⟨some t, .fieldAddr s x f, ty, pos, aft, none⟩ :: rest) Q S :=
  awl_pure ht (fun C T a w hs => ⟨_, by simp [execOp, hs.evv hx, run_fieldAt hf hn], srel_v _⟩) hr

theorem run_field1 {s : TypeId} {f off ft : Nat} {arr : Array Value} {u : Value} (hf : fieldT P s f = some (off, ft)) (hA : aggT P ft = some false) (hu : arr[off]? = some u) (w : World) :
    (Instr.field s (.agg arr) f).run P w = .ok u w := by
  unfold fieldT at hf
  cases hd : P.underlying s with
  | none => simp [hd] at hf
  | some d =>
    cases d with
    | struct fs =>
      cases hx : fs[f]? with
      | none => simp [hd, hx] at hf
      | some x =>
        simp [hd, hx] at hf
        obtain ⟨rfl, rfl⟩ := hf
        simp [Instr.field, Sem.run_bind, run_underlying hd, hx, asAgg, part, run_isAgg hA, hu]
    | _ => simp [hd] at hf
theorem run_fieldA {s : TypeId} {f off ft n : Nat} {arr : Array Value} (hf : fieldT P s f = some (off, ft)) (hA : aggT P ft = some true) (hn : szT P ft = some n) (w : World) :
    (Instr.field s (.agg arr) f).run P w = .ok (.agg (arr.extract off (off + n))) w := by
  unfold fieldT at hf
  cases hd : P.underlying s with
  | none => simp [hd] at hf
  | some d =>
    cases d with
    | struct fs =>
      cases hx : fs[f]? with
      | none => simp [hd, hx] at hf
      | some x =>
        simp [hd, hx] at hf
        obtain ⟨rfl, rfl⟩ := hf
        simp [Instr.field, Sem.run_bind, run_underlying hd, hx, asAgg, part, run_isAgg hA, run_sz hn]
    | _ => simp [hd] at hf
theorem r_field1 {x : Operand} {s f off ft : Nat} {cs : List AV} {c : AV} (hx : S.ev x = some (.a (.agg cs))) (hf : fieldT P s f = some (off, ft)) (hA : aggT P ft = some false) (hc : cs[off]? = some c) (ht : Nat.blt t S.nt = true)
    (hr : AWL P w0 C0 ops rest Q (S.put t (.a c))) : AWL P w0 C0 ops (⟨some t, .field s x f, ty, pos, aft, none⟩ :: rest) Q S :=
  awl_pure ht (fun C T a w hs => by
    have h := hs.ev hx
    generalize hv : a.eval x = u at h
    cases h with
    | agg u hn hC hR => exact ⟨_, by simp [execOp, hv, run_field1 hf hA (hC _ _ hc)], hR _ _ hc⟩) hr
theorem rels_take_drop {cs : List AV} {arr : List Value} (h : Rels C cs arr) (o n : Nat) : Rels C ((cs.drop o).take n) ((arr.drop o).take n) := by
  refine ⟨by simp [h.1], fun j c u h1 h2 => ?_⟩
  rw [List.getElem?_take] at h1 h2
  split at h1
  · rename_i e; rw [if_pos e] at h2; rw [List.getElem?_drop] at h1 h2; exact h.2 _ _ _ h1 h2
  · cases h1
theorem r_fieldA {x : Operand} {s f off ft n : Nat} {cs : List AV} (hx : S.ev x = some (.a (.agg cs))) (hf : fieldT P s f = some (off, ft)) (hA : aggT P ft = some true) (hn : szT P ft = some n) (ht : Nat.blt t S.nt = true)
    (hr : AWL P w0 C0 ops rest Q (S.put t (.a (.agg ((cs.drop off).take n))))) : AWL P w0 C0 ops (⟨some t, .field s x f, ty, pos, aft, none⟩ :: rest) Q S :=
  awl_pure ht (fun C T a w hs => by
    have h := hs.ev hx
    generalize hv : a.eval x = u at h
    cases h with
    | agg u hn' hC hR =>
      rename_i arr
      refine ⟨.agg (arr.extract off (off + n)), by simp [execOp, hv, run_fieldA hf hA hn], rel_agg.2 ?_⟩
      have := rels_take_drop (rel_agg.1 (Rel.agg u hn' hC hR)) off n
      have e : (arr.extract off (off + n)).toList = (arr.toList.drop off).take n := by simp
      rw [e]; exact this) hr

/-! ### elements of slices -/
def sliceT (P : Program) (t : TypeId) : Option TypeId := match P.underlying t with | some (.slice e) => some e | _ => none
theorem sliceT_un {t e : TypeId} (h : sliceT P t = some e) : P.underlying t = some (.slice e) := by
  unfold sliceT at h
  split at h <;> simp_all
def SV.av : SV → AV
  | .a x => x
  | .own _ sz l => .sl sz l
theorem SRel.av {x : SV} {u : Value} (h : SRel C T x u) : Rel C x.av u := by
  cases x with
  | a x => exact h
  | own tok sz l =>
    rcases h with ⟨rfl, rfl⟩ | ⟨b, cap, e, hT, hc, rfl, hr⟩
    · exact rel_sl_mk 0 0 rfl (Nat.le_refl _) (fun e => absurd rfl e) ⟨fun _ h => by simp at h, fun i cs j c h => by simp at h⟩
    · exact rel_sl_mk b 0 rfl hc (fun _ => rfl) hr

theorem run_indexAt_slice {st e : TypeId} {sz b o n cap : Nat} {k : IntKind} {i : Int} (hst : sliceT P st = some e) (hsz : szT P e = some sz) (h0 : 0 ≤ i) (h1 : i < n) (w : World) :
    (Instr.indexAt st (.slice (some ⟨b, o, none⟩) n cap) (.int k i)).run P w = .ok (.pointer (some ⟨b, o + i.toNat * sz, none⟩)) w := by
  simp [Instr.indexAt, asIntOf, Sem.run_bind, run_underlying (sliceT_un hst), h0, h1, run_sz hsz, addr_add]

theorem r_index {st e : TypeId} {sz : Nat} {x y : Operand} {sv : SV} {l : List (List AV)} {k : IntKind} {i : Int} {cs : List AV} (hx : S.ev x = some sv) (hl : sv.av = .sl sz l) (hy : S.ev y = some (.a (.v (.int k i))))
    (hst : sliceT P st = some e) (hsz : szT P e = some sz) (h0 : 0 ≤ i) (hc : l[i.toNat]? = some cs) (ht : Nat.blt t S.nt = true)
    (hr : AWL P w0 C0 ops rest Q (S.put t (.a (.cp cs)))) : AWL P w0 C0 ops (⟨some t, .indexAddr st x y, ty, pos, aft, none⟩ :: rest) Q S :=
  awl_pure ht (fun C T a w hs => by
    have h := (hs.ev hx).av
    rw [hl] at h
    obtain ⟨A, cap, b, o, hv, hcap, hA, hR⟩ := rel_sl_inv h
    have hlen := (List.getElem?_eq_some_iff.1 hc).1
    have hA' := hA (by intro e; rw [e] at hlen; simp at hlen)
    subst hA'
    refine ⟨.pointer (some ⟨b, o + i.toNat * sz, none⟩), by simp [execOp, hv, hs.evv hy, run_indexAt_slice hst hsz h0 (show i < (l.length : Int) by omega)], rel_cp_mk (fun j c hj => hR.2 _ _ _ _ hc hj)⟩) hr

/-- a byte of a string -/
theorem r_strAt {xt : TypeId} {x y : Operand} {s : ByteArray} {k : IntKind} {i : Int} {b : UInt8} (hx : S.ev x = some (.a (.v (.string s)))) (hy : S.ev y = some (.a (.v (.int k i)))) (hxt : P.underlying xt = some .string)
    (h0 : 0 ≤ i) (hb : s[i.toNat]? = some b) (ht : Nat.blt t S.nt = true)
    (hr : AWL P w0 C0 ops rest Q (S.put t (.a (.v (.int .u8 b.toNat))))) : AWL P w0 C0 ops (⟨some t, .index xt x y, ty, pos, aft, none⟩ :: rest) Q S :=
  awl_pure ht (fun C T a w hs => ⟨_, by simp [execOp, hs.evv hx, hs.evv hy, Instr.index, asIntOf, Sem.run_bind, run_underlying hxt, h0, hb], srel_v _⟩) hr

/-! ### lengths -/
def lenKind (P : Program) (t : TypeId) : Nat := match P.underlying t with | some .string => 1 | some (.slice _) => 2 | some (.map _ _) => 3 | _ => 0
theorem r_lenS {x : Operand} {sv : SV} {sz : Nat} {l : List (List AV)} {st e : TypeId} (hx : S.ev x = some sv) (hl : sv.av = .sl sz l) (hst : sliceT P st = some e) (ht : Nat.blt t S.nt = true)
    (hr : AWL P w0 C0 ops rest Q (S.put t (.a (.v (.int .i64 l.length))))) : AWL P w0 C0 ops (⟨some t, .call ⟨.builtin .len, #[x], #[st]⟩, ty, pos, aft, none⟩ :: rest) Q S :=
  awl_pure ht (fun C T a w hs => by
    have h := (hs.ev hx).av
    rw [hl] at h
    obtain ⟨A, cap, b, o, hv, hcap, hA, hR⟩ := rel_sl_inv h
    exact ⟨.int .i64 l.length, by simp [execOp, resolve, invoke, builtin, Builtin.len_, hv, Sem.run_bind, run_underlying (sliceT_un hst), goInt], srel_v _⟩) hr
end Go.Proofs.Ytmbfmnhcahhciaa.A

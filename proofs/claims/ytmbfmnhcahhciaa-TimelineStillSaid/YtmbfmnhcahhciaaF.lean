/- The rules of a walk over abstract states: structs, literals, maps. -/
import Derived.Test.YtmbfmnhcahhciaaE
import Derived.MapKept
namespace Go.Proofs.Ytmbfmnhcahhciaa.A
open Go Go.RowKit
set_option linter.unusedVariables false
set_option linter.unusedSimpArgs false
variable {P : Program} {w0 : Base} {C0 C : CS} {T : TS} {S S' : AState} {a : Act} {w : World} {ops : Array Oper} {rest : List Oper} {o : Oper} {Q : Exit → AState → Prop}
variable {t : Nat} {ty ty' : TypeId} {pos : String} {aft : Array Edge}

/-! ### filling cells -/
theorem fold_set (off : Nat) : ∀ (vs : List Value) (s : Nat) (cells : Array Value), off + s + vs.length ≤ cells.size →
    ((vs.zipIdx s).foldl (fun (cs : Array Value) (p : Value × Nat) => cs.setIfInBounds (off + p.2) p.1) cells).toList = cells.toList.take (off + s) ++ vs ++ cells.toList.drop (off + s + vs.length)
  | [], s, cells, h => by simp
  | v :: vs, s, cells, h => by
    simp only [List.length_cons] at h
    rw [List.zipIdx_cons, List.foldl_cons, fold_set off vs (s + 1) _ (by simp; omega)]
    simp only [Array.toList_setIfInBounds, List.length_cons]
    rw [← Nat.add_assoc, List.take_add_one, List.take_set_of_le (by omega), List.getElem?_set_self (by simp; omega), List.drop_set_of_lt (by omega)]
    simp only [Option.toList_some, List.append_assoc, List.cons_append, List.nil_append]
    rw [show off + s + 1 + vs.length = off + s + (vs.length + 1) from by omega]

def fillA (place : Nat → Option (Nat × Nat)) : List AV → List (Nat × AV) → Option (List AV)
  | cells, [] => some cells
  | cells, (i, x) :: r =>
    match place i with
    | none => none
    | some (off, size) => cond (Nat.beq x.cells.length size && Nat.ble (off + size) cells.length) (fillA place (cells.take off ++ x.cells ++ cells.drop (off + size)) r) none

theorem fill_rel {place : Nat → Option (Nat × Nat)} : ∀ {ps : List (Nat × AV)} {qs : List (Nat × Value)} {cells : List AV} {arr : Array Value} {cells' : List AV}, Rels C cells arr.toList →
    qs.map (·.1) = ps.map (·.1) → Rels C (ps.map (·.2)) (qs.map (·.2)) → fillA place cells ps = some cells' → ∃ arr', Instr.fill place arr qs = some arr' ∧ Rels C cells' arr'.toList
  | [], [], cells, arr, cells', hr, _, _, h => by cases h; exact ⟨arr, rfl, hr⟩
  | [], q :: qs, _, _, _, _, h, _, _ => by simp at h
  | p :: ps, [], _, _, _, _, h, _, _ => by simp at h
  | (i, x) :: ps, (i', v) :: qs, cells, arr, cells', hr, hi, hx, h => by
    simp only [List.map_cons, List.cons.injEq] at hi
    obtain ⟨rfl, hi⟩ := hi
    obtain ⟨u, us, e, h1, h2⟩ := hx.cons_inv
    simp only [List.map_cons, List.cons.injEq] at e
    obtain ⟨rfl, rfl⟩ := e
    unfold fillA at h
    unfold Instr.fill
    cases hp : place i' with
    | none => simp [hp] at h
    | some q =>
      obtain ⟨off, size⟩ := q
      simp only [hp] at h
      cases hb : (Nat.beq x.cells.length size && Nat.ble (off + size) cells.length) with
      | false => simp [hb] at h
      | true =>
        simp only [hb, cond_true] at h
        rw [Bool.and_eq_true] at hb
        have e1 := Nat.eq_of_beq_eq_true hb.1
        have e2 := Nat.le_of_ble_eq_true hb.2
        have hc := h1.cells
        have hl : v.cells.size = size := by have := hc.1; simp at this; omega
        have hl2 : arr.size = cells.length := by have := hr.1; simpa using this
        have hf := fold_set off v.cells.toList 0 arr (by simp; omega)
        have hcond : (v.cells.size ≠ size || off + v.cells.size > arr.size) = false := by simp [hl]; omega
        simp only [hcond, if_false, Bool.false_eq_true]
        have hrel : Rels C (cells.take off ++ x.cells ++ cells.drop (off + size)) (Array.foldl (fun (cs : Array Value) (p : Value × Nat) => cs.setIfInBounds (off + p.2) p.1) arr v.cells.zipIdx).toList := by
          rw [← Array.foldl_toList, Array.toList_zipIdx, hf]
          have r1 := rels_take_drop hr 0 off
          have r2 := rels_take_drop hr (off + size) cells.length
          simp only [List.drop_zero] at r1
          rw [List.take_of_length_le (by simp), List.take_of_length_le (by simp; omega)] at r2
          have hl' : v.cells.toList.length = size := by simpa using hl
          rw [Nat.add_zero, hl']
          exact (r1.append hc).append r2
        obtain ⟨arr', g1, g2⟩ := fill_rel hrel hi h2 h
        exact ⟨arr', by simpa using g1, g2⟩

/-- parts of a literal -/
def AState.parts (S : AState) : List (Nat × Operand) → Option (List (Nat × AV))
  | [] => some []
  | (i, x) :: r =>
    match S.ev x, S.parts r with
    | some sv, some l => some ((i, sv.av) :: l)
    | _, _ => none
theorem SimC.parts (h : SimC w0 C0 C T S a w) : ∀ {ps : List (Nat × Operand)} {l : List (Nat × AV)}, S.parts ps = some l →
    (ps.map (fun p => (p.1, a.eval p.2))).map (·.1) = l.map (·.1) ∧ Rels C (l.map (·.2)) ((ps.map (fun p => (p.1, a.eval p.2))).map (·.2))
  | [], l, hl => by cases hl; exact ⟨rfl, Rels.nil⟩
  | (i, x) :: r, l, hl => by
    unfold AState.parts at hl
    cases h1 : S.ev x with
    | none => simp [h1] at hl
    | some sv =>
      cases h2 : S.parts r with
      | none => simp [h1, h2] at hl
      | some l' =>
        simp [h1, h2] at hl
        subst hl
        obtain ⟨g1, g2⟩ := h.parts h2
        exact ⟨by simpa using g1, Rels.cons (h.ev h1).av g2⟩

def placesT (P : Program) (t : TypeId) : Option (List (Nat × Nat)) :=
  match P.underlying t with
  | some (.struct fs) => fs.toList.mapM (fun f => (P.info? f.type).map fun i => (f.offset, i.size))
  | _ => none
theorem r_build {bt : TypeId} {parts : List (Nat × Operand)} {pa : Array (Nat × Operand)} {places : List (Nat × Nat)} {zs' : List AV} {l : List (Nat × AV)} {cells : List AV} (hpa : pa = parts.toArray) (hp : placesT P bt = some places) (hz : ZeroT P bt zs')
    (hl : S.parts parts = some l) (hf : fillA (fun i => places[i]?) zs' l = some cells) (ht : Nat.blt t S.nt = true)
    (hr : AWL P w0 C0 ops rest Q (S.put t (.a (.agg cells)))) : AWL P w0 C0 ops (⟨some t, .build bt pa, ty, pos, aft, none⟩ :: rest) Q S :=
  awl_pure ht (fun C T a w hs => by
    obtain ⟨g1, g2⟩ := hs.parts hl
    obtain ⟨_, zs, _, _, hz3, hz⟩ := hz.run w C
    obtain ⟨arr, h1, h2⟩ := fill_rel (C := C) (arr := zs.toArray) (qs := parts.map (fun p => (p.1, a.eval p.2))) (by simpa using hz3) g1 g2 hf
    refine ⟨.agg arr, ?_, rel_agg.2 h2⟩
    have hb : P.built bt (parts.map (fun p => (p.1, a.eval p.2))) = some arr := by
      unfold placesT at hp
      unfold zeroT at hz
      cases hi : P.info? bt with
      | none => simp [hi] at hz
      | some i =>
        cases hiz : i.zero with
        | none => simp [hi, hiz] at hz
        | some z =>
          simp [hi, hiz] at hz
          cases hu : P.underlying bt with
          | none => simp [hu] at hp
          | some d =>
            cases d with
            | struct fs =>
              simp only [hu] at hp
              subst hz
              simp only [Program.built, hi, hu, hiz, hp]
              simpa using h1
            | _ => simp [hu] at hp
    have hrun := run_build w bt (parts.map (fun p => (p.1, a.eval p.2))).toArray arr (by simpa using hb)
    subst hpa
    simp [execOp, hrun]) hr

/-- an array's literal -/
def arrT (P : Program) (t : TypeId) : Option TypeId := match P.underlying t with | some (.array _ e) => some e | _ => none
theorem r_buildArr {bt e : TypeId} {sz : Nat} {parts : List (Nat × Operand)} {pa : Array (Nat × Operand)} {zs' : List AV} {l : List (Nat × AV)} {cells : List AV} (hpa : pa = parts.toArray) (hp : arrT P bt = some e) (hsz : szT P e = some sz) (hz : ZeroT P bt zs')
    (hl : S.parts parts = some l) (hf : fillA (fun i => some (i * sz, sz)) zs' l = some cells) (ht : Nat.blt t S.nt = true)
    (hr : AWL P w0 C0 ops rest Q (S.put t (.a (.agg cells)))) : AWL P w0 C0 ops (⟨some t, .build bt pa, ty, pos, aft, none⟩ :: rest) Q S :=
  awl_pure ht (fun C T a w hs => by
    obtain ⟨g1, g2⟩ := hs.parts hl
    obtain ⟨_, zs, _, _, hz3, hz⟩ := hz.run w C
    obtain ⟨arr, h1, h2⟩ := fill_rel (C := C) (arr := zs.toArray) (qs := parts.map (fun p => (p.1, a.eval p.2))) (by simpa using hz3) g1 g2 hf
    refine ⟨.agg arr, ?_, rel_agg.2 h2⟩
    have hb : P.built bt (parts.map (fun p => (p.1, a.eval p.2))) = some arr := by
      unfold arrT at hp
      unfold zeroT at hz
      unfold szT at hsz
      cases hi : P.info? bt with
      | none => simp [hi] at hz
      | some i =>
        cases hiz : i.zero with
        | none => simp [hi, hiz] at hz
        | some z =>
          simp [hi, hiz] at hz
          cases hie : P.info? e with
          | none => simp [hie] at hsz
          | some ie =>
            simp [hie] at hsz
            cases hu : P.underlying bt with
            | none => simp [hu] at hp
            | some d =>
              cases d with
              | array n e' =>
                simp [hu] at hp
                subst hp; subst hz; subst hsz
                simp only [Program.built, hi, hu, hiz, hie]
                simpa using h1
              | _ => simp [hu] at hp
    have hrun := run_build w bt (parts.map (fun p => (p.1, a.eval p.2))).toArray arr (by simpa using hb)
    subst hpa
    simp [execOp, hrun]) hr

/-! ### literals of slices -/
def chunks (sz : Nat) : Nat → List AV → List (List AV)
  | 0, _ => []
  | n + 1, cs => cs.take sz :: chunks sz n (cs.drop sz)
theorem chunks_len {sz : Nat} : ∀ {n : Nat} {cs : List AV}, cs.length = n * sz → ∀ c, c ∈ chunks sz n cs → c.length = sz
  | 0, _, _, c, h => by simp [chunks] at h
  | n + 1, cs, hl, c, h => by
    rw [Nat.add_mul] at hl
    rcases List.mem_cons.1 h with rfl | h
    · rw [List.length_take]; omega
    · exact chunks_len (by rw [List.length_drop]; omega) c h
theorem chunks_flat {sz : Nat} : ∀ {n : Nat} {cs : List AV}, cs.length = n * sz → (chunks sz n cs).flatten = cs
  | 0, cs, hl => by have : cs = [] := List.eq_nil_of_length_eq_zero (by simpa using hl); subst this; rfl
  | n + 1, cs, hl => by
    rw [Nat.add_mul] at hl
    rw [chunks, List.flatten_cons, chunks_flat (by rw [List.length_drop]; omega), List.take_append_drop]
theorem chunks_num {sz : Nat} : ∀ {n : Nat} {cs : List AV}, (chunks sz n cs).length = n
  | 0, _ => rfl
  | n + 1, cs => by rw [chunks, List.length_cons, chunks_num]

def zerosT (zs : List Value) (sz n : Nat) : List Value := (List.range (n * sz)).map (fun i => zs.getD (i % sz) default)
theorem r_lit (tok : Nat) {bt e : TypeId} {n sz : Nat} {parts : List (Nat × Operand)} {pa : Array (Nat × Operand)} {zs : List Value} {l : List (Nat × AV)} {cells : List AV} (hpa : pa = parts.toArray) (hst : sliceT P bt = some e) (hsz : szT P e = some (sz + 1)) (hz : zeroT P e = some zs) (hzl : zs.length = sz + 1)
    (hsmall : Nat.ble (n * (sz + 1)) 16777216 = true)
    (hl : S.parts parts = some l) (hf : fillA (fun i => some (i * (sz + 1), sz + 1)) ((zerosT zs (sz + 1) n).map AV.v) l = some cells) (h1 : cells.all AV.one = true) (hcl : Nat.beq cells.length (n * (sz + 1)) = true) (ht : Nat.blt t S.nt = true)
    (hr : AWL P w0 C0 ops rest Q ((S.dem tok).put t (.own tok (sz + 1) (chunks (sz + 1) n cells)))) : AWL P w0 C0 ops (⟨some t, .buildSlice bt n pa, ty, pos, aft, none⟩ :: rest) Q S := by
  refine awl_op rfl (fun C T a w hs => ?_) hr
  obtain ⟨g1, g2⟩ := hs.parts hl
  obtain ⟨arr, h2, h3⟩ := fill_rel (C := C) (arr := (zerosT zs (sz + 1) n).toArray) (qs := parts.map (fun p => (p.1, a.eval p.2))) (by simpa using rels_vs _) g1 g2 hf
  have hcl' := Nat.eq_of_beq_eq_true hcl
  have hal : arr.size = n * (sz + 1) := by have := h3.1; simp at this; omega
  have hsm := Nat.le_of_ble_eq_true hsmall
  obtain ⟨z, hz1, hz2⟩ := run_zero hz w
  have hzs : z.cells.size = sz + 1 := by rw [hz2]; simpa using hzl
  have hzz : (Array.range (n * (sz + 1))).map (fun i => z.cells[i % z.cells.size]!) = (zerosT zs (sz + 1) n).toArray := by
    apply Array.ext'
    simp only [Array.toList_map, Array.toList_range, zerosT]
    apply List.map_congr_left
    intro i hi
    rw [hzs, hz2]
    simp [Array.getElem!_eq_getD, Array.getD_eq_getD_getElem?]
  have hrun : (Instr.buildSlice bt n (parts.map (fun p => (p.1, a.eval p.2))).toArray).run P w = .ok (.slice (some ⟨w.heap.size, 0, none⟩) n n) (w.alloc (.cells arr e)) := by
    by_cases hn : n * (sz + 1) = 0
    · have hn0 : n = 0 := by rcases Nat.mul_eq_zero.1 hn with h | h; exact h; omega
      subst hn0
      have e0 : (zerosT zs (sz + 1) 0).toArray = #[] := by simp [zerosT]
      rw [e0] at h2
      have h2' : Instr.fill (fun i => some (i * (sz + 1), sz + 1)) #[] (parts.map (fun p => (p.1, a.eval p.2))) = some arr := h2
      simp [Instr.buildSlice, run_underlying (sliceT_un hst), run_sz hsz, show Array.range 0 = #[] from rfl, h2', newRow]
    · have hn' : ¬ (16777216 < n * (sz + 1)) := by omega
      simp only [Instr.buildSlice, Sem.run_bind, run_underlying (sliceT_un hst), run_sz hsz, Result.andThen_ok]
      have hp : ¬ (n * (sz + 1) > 2 ^ 24) := by omega
      simp only [hp, hn, if_false, Sem.run_bind, hz1, Result.andThen_ok, Sem.run_pure, hzz]
      simp [h2, newRow]
  refine ⟨.slice (some ⟨w.heap.size, 0, none⟩) n n, w.alloc (.cells arr e), C.add w.heap.size 0 arr.toList, T.upd tok (some ⟨w.heap.size, n, n, sz + 1, e⟩), by subst hpa; simp [execOp, hrun], SimC.put (hs.newRow tok n n (sz + 1) e (vs := arr.toList) (by simpa using hal) (Nat.le_refl _) hal (fun j v hj => by simpa using hj) (h3.ones h1)) ht ?_⟩
  have hmono := CS.add_mono (C := C) (b := w.heap.size) (o := 0) (vs := arr.toList) (fun j _ => hs.fresh (Nat.le_refl _) _)
  refine Or.inr ⟨w.heap.size, n, e, by simp [TS.upd, chunks_num], by simp [chunks_num], by simp [chunks_num], ?_⟩
  exact row_mk (vs := arr.toList) (chunks_len hcl') (by rw [chunks_flat hcl']; exact h3.mono hmono) (fun j v hj => CS.add_at hj)
end Go.Proofs.Ytmbfmnhcahhciaa.A

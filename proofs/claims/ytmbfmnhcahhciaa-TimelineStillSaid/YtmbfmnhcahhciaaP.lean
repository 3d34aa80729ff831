/- Rules of walks: slices that are made; own slices of structs with bytes, handed over with their rows. -/
import Derived.Test.YtmbfmnhcahhciaaU
import Derived.Laws.MakeOwn
namespace Go.Proofs.Ytmbfmnhcahhciaa.A
open Go Go.RowKit
set_option linter.unusedVariables false
set_option linter.unusedSimpArgs false
set_option linter.unusedSectionVars false
variable {P : Program} {w0 : Base} {C0 C : CS} {T : TS} {S S' : AState} {a : Act} {w : World} {ops : Array Oper} {rest : List Oper} {o : Oper} {Q : Exit → AState → Prop}
variable {t : Nat} {ty : TypeId} {pos : String} {aft : Array Edge}

theorem made_one (z : Value) (n : Nat) : (madeCells #[z] n).toList = List.replicate n z := by
  unfold madeCells
  rw [Array.toList_map, Array.toList_range]
  apply List.ext_getElem?
  intro i
  rw [List.getElem?_map]
  by_cases h : i < n
  · rw [List.getElem?_range h]
    simp [h, Nat.mod_one]
  · rw [List.getElem?_eq_none (by simpa using h), List.getElem?_eq_none (by simpa using h)]; rfl
theorem r_makeSlice {st e bytes : Nat} {zv : Value} {x y : Operand} {k k' : IntKind} {n : Nat} (hx : S.ev x = some (.a (.v (.int k (n : Int))))) (hy : S.ev y = some (.a (.v (.int k' (n : Int))))) (hst : sliceT P st = some e) (hsz : szT P e = some 1) (hby : bytesT P e = some bytes) (hz : zeroT P e = some [zv])
    (hb : bytes * n ≤ 281474976710656) (hn : n ≤ 1000000000) (ht : Nat.blt t S.nt = true)
    (hr : ∀ b, AWL P w0 C0 ops rest Q (AState.put ⟨S.nt, S.slots, ⟨b, true, .box (List.replicate n (.v zv))⟩ :: S.objs⟩ t (.a (.v (.slice (some ⟨b, 0, none⟩) n n))))) :
    AWL P w0 C0 ops (⟨some t, .makeSlice st x y, ty, pos, aft, none⟩ :: rest) Q S := by
  rintro a w ⟨C, T, hs⟩
  unfold szT at hsz
  unfold bytesT at hby
  unfold zeroT at hz
  cases hi : P.info? e with
  | none => rw [hi] at hsz; cases hsz
  | some i =>
    rw [hi] at hsz hby hz
    simp only [Option.map_some, Option.some.injEq, Option.bind_some] at hsz hby hz
    cases hiz : i.zero with
    | none => rw [hiz] at hz; cases hz
    | some z =>
      rw [hiz] at hz
      simp only [Option.map_some, Option.some.injEq] at hz
      have hzc : z.cells = #[zv] := by apply Array.ext'; simpa using hz
      have hbi : (i.bytes : Int) * (n : Int) ≤ 281474976710656 := by
        rw [hby]
        have : ((bytes * n : Nat) : Int) ≤ 281474976710656 := by omega
        rwa [Int.natCast_mul] at this
      have hrun := run_make (P := P) w st e i z (sliceT_un hst) hi hiz k k' (n : Int) (n : Int) (by omega) (Int.le_refl _) hbi (by omega)
      rw [hzc, hsz, Nat.mul_one] at hrun
      simp only [Int.toNat_natCast] at hrun
      refine wpList_plain rfl (fun K hK => ?_)
      unfold Oper.wp
      have hex : (execOp a.eval ⟨some t, .makeSlice st x y, ty, pos, aft, none⟩).run P w = .ok (.value (.slice (some ⟨w.heap.size, 0, none⟩) n n)) (w.alloc (.cells (madeCells #[zv] n) e)) := by
        simp [execOp, Sem.run_bind, hs.evv hx, hs.evv hy, hrun]
      rw [hex]
      have hs' := hs.newObj (.cells (madeCells #[zv] n) e) (o := .box (List.replicate n (.v zv))) ⟨_, e, heap_alloc_at _ _, by
        rw [made_one]
        have := rels_vs (C := C) (List.replicate n zv)
        rwa [List.map_replicate] at this⟩
      exact hK _ _ (hr w.heap.size _ _ ⟨C, T, hs'.put ht (srel_v _)⟩)

/-- not a byte -/
def noU8 : Value → Bool
  | .int .u8 _ => false
  | _ => true
/-- an own slice of plain values and of bytes is handed over with its row -/
theorem awl_ownbufG (t : Nat) {tok sz : Nat} {l : List (List AV)} {lst : List Oper} (hg : S.get t = some (.own tok sz l)) (hflat : ∀ cs ∈ l, ∀ c ∈ cs, (∃ v, c = AV.v v ∧ noU8 v = true) ∨ ∃ d, c = AV.sl 1 (u8s d)) (htn : Nat.blt t S.nt = true)
    (h0 : l = [] → AWL P w0 C0 ops lst Q ⟨S.nt, [(t, .a (.v (.slice none 0 0)))], []⟩)
    (h1 : ∀ g cap e, AWL P w0 C0 ops lst Q ⟨S.nt, [(t, .a (.v (.slice (some ⟨g, 0, none⟩) l.length cap)))], [⟨g, true, .buf sz l cap e⟩]⟩) : AWL P w0 C0 ops lst Q S := by
  rintro a w ⟨C, T, hs⟩
  have hone : ∀ (u : Value) (S1 : List (Nat × SV)), S1 = [(t, .a (.v u))] → a.tmps.getD t undef = u → ∀ C T, ∀ t' x', find t' S1 = some x' → SRel C T x' (a.tmps.getD t' undef) := by
    intro u S1 e1 e2 C T t' x' hx'
    subst e1
    rw [find_cons] at hx'
    split at hx'
    · rename_i e; subst e; cases hx'; rw [e2]; exact srel_v _
    · cases hx'
  rcases hs.slots t _ hg with ⟨hl, hu⟩ | ⟨b, cap, e, hT, hcap, hu, hrow⟩
  · refine h0 hl a w ⟨C, fun _ => none, ?_⟩
    exact ⟨hs.below, hs.com, hs.one, hs.old, by simp, by simp, by simp, by simp, hs.size, hone _ _ rfl hu _ _, hs.defers, hs.dr⟩
  · refine h1 b cap e a w ⟨fun b' o => if b' = b then none else C b' o, fun _ => none, ?_⟩
    obtain ⟨⟨k1, k2, ⟨arr, k3, k4⟩, k5⟩, _⟩ := hs.toks _ _ hT
    simp only at k1 k2 k3 k4 k5
    have hfit : l.length * sz ≤ cap * sz := Nat.mul_le_mul_right _ hcap
    -- no cell of the row is a byte
    have hnb : ∀ o v, C b o = some v → noU8 v = true := by
      intro o v hv
      have ho : o < l.length * sz := Nat.lt_of_not_le fun h => by rw [k5 o h] at hv; cases hv
      rcases Nat.eq_zero_or_pos sz with hz0 | hz0
      · subst hz0; omega
      have hi : o / sz < l.length := by rw [Nat.div_lt_iff_lt_mul hz0]; exact ho
      obtain ⟨cs, hcs⟩ := get_lt hi
      have hcl := hrow.1 cs (List.mem_of_getElem? hcs)
      have hj : o % sz < cs.length := by rw [hcl]; exact Nat.mod_lt _ hz0
      obtain ⟨c, hc⟩ := get_lt hj
      obtain ⟨u, hu1, hu2⟩ := hrow.2 _ _ _ _ hcs hc
      rw [show 0 + o / sz * sz + o % sz = o by have := Nat.div_add_mod o sz; rw [Nat.mul_comm] at this; omega] at hu1
      rw [hv] at hu1; cases hu1
      rcases hflat cs (List.mem_of_getElem? hcs) c (List.mem_of_getElem? hc) with ⟨v', rfl, hv'⟩ | ⟨d, rfl⟩
      · cases hu2; exact hv'
      · obtain ⟨A, cap', b', o', rfl, _⟩ := rel_sl_inv hu2; rfl
    -- bytes lie elsewhere
    have hkeep : ∀ (d : List UInt8) (u : Value), Rel C (.sl 1 (u8s d)) u → Rel (fun b' o => if b' = b then none else C b' o) (.sl 1 (u8s d)) u := by
      intro d u hr
      obtain ⟨A, cap', b', o', rfl, q1, q2, q3⟩ := rel_sl_inv hr
      by_cases hd : d = []
      · subst hd
        exact rel_sl_mk b' o' rfl q1 (fun h => absurd rfl h) ⟨by simp [u8s], fun i cs j c h => by simp [u8s] at h⟩
      · have hne : b' ≠ b := by
          intro hbb
          subst hbb
          obtain ⟨x, d', rfl⟩ := List.exists_cons_of_ne_nil hd
          obtain ⟨u1, hu1, hu2⟩ := q3.2 0 [.v (.int .u8 x.toNat)] 0 (.v (.int .u8 x.toNat)) rfl rfl
          cases hu2
          have := hnb _ _ hu1
          cases this
        refine rel_sl_mk b' o' rfl q1 q2 ⟨q3.1, fun i cs j c h h' => ?_⟩
        obtain ⟨u1, hu1, hu2⟩ := q3.2 i cs j c h h'
        refine ⟨u1, by simp only [hne, if_false]; exact hu1, ?_⟩
        obtain ⟨x, hx⟩ : ∃ x : UInt8, cs = [.v (.int .u8 x.toNat)] := by
          have := List.mem_of_getElem? h
          obtain ⟨x, _, hx⟩ := List.mem_map.1 this
          exact ⟨x, hx.symm⟩
        subst hx
        have hc := List.mem_of_getElem? h'
        rw [List.mem_singleton] at hc
        subst hc
        cases hu2; exact .v _
    refine ⟨hs.below, fun b' o v h => ?_, fun b' o v h => ?_, fun b' o hb hn => ?_, fun e' he => ?_, by simp, by simp, by simp, hs.size, hone _ _ rfl hu _ _, hs.defers, hs.dr⟩
    · split at h
      · cases h
      · exact hs.com _ _ _ h
    · split at h
      · cases h
      · exact hs.one _ _ _ h
    · have : ¬ b' = b := by omega
      simp only [this, if_false]; exact hs.old _ _ hb hn
    · obtain rfl := List.mem_singleton.1 he
      refine ⟨⟨arr, k3, k4, hcap, hrow.1, arr.toList.take (l.length * sz), ⟨?_, ?_⟩, ?_, rfl⟩, fun o => by simp, fun _ => .inl k1⟩
      · have k4' : arr.toList.length = cap * sz := by simpa using k4
        rw [List.length_take, flat_len hrow.1, k4']; omega
      · intro j c u hc hu'
        obtain ⟨cs, hcs, hcm⟩ := List.mem_flatten.1 (List.mem_of_getElem? hc)
        have hcase := hflat cs hcs c hcm
        have hjl := (List.getElem?_eq_some_iff.1 hc).1
        obtain ⟨ws, w1, w2, w3⟩ := hrow.vals
        have hjw : j < ws.length := by rw [w1.1]; exact hjl
        have h3 := w3 j _ (List.getElem?_eq_getElem hjw)
        have h4 := hs.com _ _ _ h3
        rw [cell_of_row w b (0 + j) arr e (0, 0) k3] at h4
        rw [flat_len hrow.1] at hjl
        rw [List.getElem?_take, if_pos hjl] at hu'
        have h5 := w1.2 j c ws[j] hc (List.getElem?_eq_getElem hjw)
        rw [Nat.zero_add] at h4
        have : some u = some (ws[j]) := by rw [← hu', ← h4]; simp
        cases this
        rcases hcase with ⟨v, rfl, _⟩ | ⟨d, rfl⟩
        · cases h5; exact .v _
        · exact hkeep d _ h5
      · intro v hv
        obtain ⟨j, hj⟩ := List.getElem?_of_mem hv
        obtain ⟨ws, w1, w2, w3⟩ := hrow.vals
        have hjl := (List.getElem?_eq_some_iff.1 hj).1
        rw [List.length_take] at hjl
        have hjw : j < ws.length := by rw [w2]; omega
        have h3 := w3 j _ (List.getElem?_eq_getElem hjw)
        have h4 := hs.com _ _ _ h3
        rw [cell_of_row w b (0 + j) arr e (0, 0) k3, Nat.zero_add] at h4
        rw [List.getElem?_take, if_pos (by omega)] at hj
        have : some v = some (ws[j]) := by rw [← hj, ← h4]; simp
        cases this
        exact hs.one _ _ _ h3
end Go.Proofs.Ytmbfmnhcahhciaa.A

/- The rules of a walk over abstract states: grown slices that are handed over with their rows. -/
import Derived.Test.YtmbfmnhcahhciaaZ
namespace Go.Proofs.Ytmbfmnhcahhciaa.A
open Go Go.RowKit
set_option linter.unusedVariables false
set_option linter.unusedSimpArgs false
set_option linter.unusedSectionVars false
variable {P : Program} {w0 : Base} {C0 C : CS} {T : TS} {S S' : AState} {a : Act} {w : World} {ops : Array Oper} {rest : List Oper} {o : Oper} {Q : Exit → AState → Prop}
variable {t : Nat} {ty ty' : TypeId} {pos : String} {aft : Array Edge}

/-- nothing is appended -/
theorem r_append0 {x y : Operand} {sx sy : SV} {st e sz sz' : Nat} {l : List (List AV)} (hx : S.ev x = some sx) (hl : sx.av = .sl sz l) (hy : S.ev y = some sy) (hm : sy.av = .sl sz' [])
    (hst : sliceT P st = some e) (hsz : szT P e = some sz) (ht : Nat.blt t S.nt = true)
    (hr : AWL P w0 C0 ops rest Q (S.put t (.a (.sl sz l)))) :
    AWL P w0 C0 ops (⟨some t, .call ⟨.builtin .append, #[x, y], #[st, st]⟩, ty, pos, aft, none⟩ :: rest) Q S :=
  awl_pure ht (fun C T a w hs => by
    have h := (hs.ev hx).av
    have h' := (hs.ev hy).av
    rw [hl] at h
    rw [hm] at h'
    obtain ⟨A, cap, b, o, hv, hcap, hA, hR⟩ := rel_sl_inv h
    obtain ⟨A', cap', b', o', hv', hcap', hA', hR'⟩ := rel_sl_inv h'
    refine ⟨.slice A l.length cap, ?_, show Rel C _ _ from rel_sl_mk b o rfl hcap hA hR⟩
    have hrun := run_append_zero (P := P) (w := w) (ty := ty) hst hsz A A' l.length cap cap' hcap
    simp [execOp, resolve, invoke, builtin, hv, hv', hrun]) hr

theorem r_appendBGx (i : Nat) {x y : Operand} {sy : SV} {st e e0 sz bytes g cap : Nat} {l m : List (List AV)} {n : Nat} (hx : S.ev x = some (.a (.v (.slice (some ⟨g, 0, none⟩) n cap)))) (hn : n = l.length) (hi : S.objs[i]? = some ⟨g, true, .buf sz l cap e0⟩) (hy : S.ev y = some sy) (hm : Content sz sy m) (hm0 : m ≠ [])
    (hst : sliceT P st = some e) (hsz : szT P e = some sz) (hby : bytesT P e = some bytes) (hz : (zeroT P e).map (·.length) = some sz)
    (hb : (l.length + m.length) * bytes ≤ 140737488355328) (h63 : l.length + m.length ≤ 9223372036854775807) (ht : Nat.blt t S.nt = true)
    (hr : ∀ g' cap' e', AWL P w0 C0 ops rest Q (AState.put ⟨S.nt, S.slots, ⟨g', true, .buf sz (l ++ m) cap' e'⟩ :: S.objs.eraseIdx i⟩ t (.a (.v (.slice (some ⟨g', 0, none⟩) (l ++ m).length cap'))))) :
    AWL P w0 C0 ops (⟨some t, .call ⟨.builtin .append, #[x, y], #[st, st]⟩, ty, pos, aft, none⟩ :: rest) Q S := by
  rintro a w ⟨C, T, hs⟩
  subst hn
  obtain ⟨A, capy, by_, oy, hvy, hcapy, hA, hRy⟩ := rel_sl_inv (hm.rel (hs.ev hy))
  obtain ⟨ws, w1, w2, w3⟩ := hRy.vals
  have hone : ∀ v ∈ ws, v.oneCell' = true := fun v hv => by obtain ⟨j, hj⟩ := List.getElem?_of_mem hv; exact hs.one _ _ _ (w3 j v hj)
  obtain ⟨i0, hi0, hi1, hi2, z, hiz, hzl⟩ := append_facts hsz hby hz
  obtain rfl := hA hm0
  have hm1 : 0 < m.length := List.length_pos_iff.2 hm0
  have hws : ∀ (j : Nat) (v : Value), ws[j]? = some v → w.cell? ((⟨by_, oy, none⟩ : Addr).add j) = some v := fun j v hj => by rw [addr_add]; exact hs.com _ _ _ (w3 j v hj)
  obtain ⟨hob, hnone, hrw⟩ := hs.objs _ (mem_of_get hi)
  obtain ⟨arr, a1, a2, a3, a4, vs, a5, a6, a7⟩ := hob
  have hvl : vs.length = l.length * sz := by rw [a5.1, flat_len a4]
  have hvs : ∀ (j : Nat) (v : Value), vs[j]? = some v → w.cell? ((⟨g, 0, none⟩ : Addr).add j) = some v := fun j v hj => by
    rw [addr_add, Nat.zero_add, cell_of_row w g j arr e0 (0, 0) a1]
    have hlt := (List.getElem?_eq_some_iff.1 hj).1
    rw [← a7, List.getElem?_take, if_pos (by omega)] at hj
    simpa using hj
  have hexec : ∀ (v : Value) (w' : World), (Builtin.append_ #[st, st] ty #[a.eval x, a.eval y]).run P w = .ok v w' → (execOp a.eval ⟨some t, .call ⟨.builtin .append, #[x, y], #[st, st]⟩, ty, pos, aft, none⟩).run P w = .ok (.value v) w' := by
    intro v w' h
    simp [execOp, resolve, invoke, builtin, h]
  rw [hs.evv hx, hvy] at hexec
  have hz4 : ∀ cs, cs ∈ l ++ m → cs.length = sz := fun cs h => by rcases List.mem_append.1 h with h | h; exact a4 cs h; exact hRy.1 cs h
  have hfl : Rels C (l ++ m).flatten (vs ++ ws) := by rw [List.flatten_append]; exact a5.append w1
  have hone2 : ∀ v ∈ vs ++ ws, v.oneCell' = true := fun v hv => by
    rcases List.mem_append.1 hv with hv | hv
    · exact a6 v hv
    · exact hone v hv
  have hlen : (vs ++ ws).length = (l ++ m).length * sz := by rw [List.length_append, hvl, w2, List.length_append, Nat.add_mul]
  refine wpList_plain rfl (fun K hK => ?_)
  unfold Oper.wp
  by_cases hroom : l.length + m.length ≤ cap
  · have hfit : (l.length + m.length) * sz ≤ cap * sz := Nat.mul_le_mul_right _ hroom
    rw [Nat.add_mul] at hfit
    have hrun := run_append_room' (P := P) (w := w) (ty := ty) hst hsz e0 g l.length cap arr a1 ⟨by_, oy, none⟩ m.length capy ws w2 hws hone hroom (by rw [a2, w2]; exact hfit)
    rw [hexec _ _ hrun]
    have hnew := setRow_heap w g arr (arr.toList.take (l.length * sz) ++ ws ++ arr.toList.drop (l.length * sz + ws.length)).toArray e0 _ a1
    have hs1 := hs.setObj (ob' := .buf sz (l ++ m) cap e0) hi (w' := w.setRow g (arr.toList.take (l.length * sz) ++ ws ++ arr.toList.drop (l.length * sz + ws.length)).toArray) (Nat.le_refl _) rfl rfl rfl (by simp) (fun k hk => setRow_other w g k _ hk)
      ⟨_, hnew, by simp only [List.size_toArray, List.length_append, List.length_drop, Array.length_toList, a7, hvl]; omega, by simpa using hroom, hz4, vs ++ ws, hfl, hone2, by
        rw [a7]
        simp only
        rw [take_append_exact _ _ _ hlen]⟩
    have hs2 := hs1.perm (set_take hi)
    rw [show l.length + m.length = (l ++ m).length from by simp]
    exact hK _ _ (hr g cap _ _ _ ⟨C, T, hs2.put ht (srel_v _)⟩)
  · have hrun := run_append_grow (P := P) w st ty e i0 z (sliceT_un hst) hi0 hiz ⟨g, 0, none⟩ l.length cap vs (by rw [hvl, hi1]) hvs ⟨by_, oy, none⟩ m.length capy ws (by rw [w2, hi1]) hws (by omega) (by omega) (by rw [hi2]; exact growslice_fits (by omega) hb)
    have hge := grownCap_ge w (l.length + m.length) cap e
    rw [hexec _ _ hrun]
    have hs1 := (hs.drew.newObj (o := .buf sz (l ++ m) (grownCap w (l.length + m.length) cap e) e) (.cells (vs.toArray ++ ws.toArray ++ Builtin.zeroCells z.cells (grownCap w (l.length + m.length) cap e - (l.length + m.length))) e)
      ⟨_, heap_alloc_at _ _, by simp only [Array.size_append, List.size_toArray, size_zeroCells, hzl, hvl, w2, ← Nat.add_mul]; congr 1; omega, by simpa using hge, hz4, vs ++ ws, hfl, hone2, by
        have e1 : (vs.toArray ++ ws.toArray ++ Builtin.zeroCells z.cells (grownCap w (l.length + m.length) cap e - (l.length + m.length))).toList = (vs ++ ws) ++ (Builtin.zeroCells z.cells (grownCap w (l.length + m.length) cap e - (l.length + m.length))).toList := by simp
        rw [e1]
        exact take_append_exact _ _ _ hlen⟩).sub (objs := ⟨w.heap.size, true, .buf sz (l ++ m) (grownCap w (l.length + m.length) cap e) e⟩ :: S.objs.eraseIdx i) ((List.eraseIdx_sublist _ _).cons_cons _)
    rw [show l.length + m.length = (l ++ m).length from by simp] at hs1 ⊢
    exact hK _ _ (hr w.heap.size _ _ _ _ ⟨C, T, hs1.put ht (srel_v _)⟩)

/-- an own slice of plain values is handed over with its row -/
theorem awl_ownbuf (t : Nat) {tok sz : Nat} {l : List (List AV)} {lst : List Oper} (hg : S.get t = some (.own tok sz l)) (hflat : ∀ cs ∈ l, ∀ c ∈ cs, ∃ v, c = AV.v v) (htn : Nat.blt t S.nt = true)
    (h0 : l = [] → AWL P w0 C0 ops lst Q ⟨S.nt, [(t, .a (.v (.slice none 0 0)))], []⟩)
    (h1 : ∀ g cap e, AWL P w0 C0 ops lst Q ⟨S.nt, [(t, .a (.v (.slice (some ⟨g, 0, none⟩) l.length cap)))], [⟨g, true, .buf sz l cap e⟩]⟩) : AWL P w0 C0 ops lst Q S := by
  rintro a w ⟨C, T, hs⟩
  have hone : ∀ (x : Nat) (u : Value) (S1 : List (Nat × SV)), S1 = [(t, .a (.v u))] → a.tmps.getD t undef = u → ∀ C T, ∀ t' x', find t' S1 = some x' → SRel C T x' (a.tmps.getD t' undef) := by
    intro _ u S1 e1 e2 C T t' x' hx'
    subst e1
    rw [find_cons] at hx'
    split at hx'
    · rename_i e; subst e; cases hx'; rw [e2]; exact srel_v _
    · cases hx'
  rcases hs.slots t _ hg with ⟨hl, hu⟩ | ⟨b, cap, e, hT, hcap, hu, hrow⟩
  · refine h0 hl a w ⟨C, fun _ => none, ?_⟩
    exact ⟨hs.below, hs.com, hs.one, hs.old, by simp, by simp, by simp, by simp, hs.size, hone 0 _ _ rfl hu _ _, hs.defers, hs.dr⟩
  · refine h1 b cap e a w ⟨fun b' o => if b' = b then none else C b' o, fun _ => none, ?_⟩
    obtain ⟨⟨k1, k2, ⟨arr, k3, k4⟩, k5⟩, _⟩ := hs.toks _ _ hT
    simp only at k1 k2 k3 k4 k5
    have hfit : l.length * sz ≤ cap * sz := Nat.mul_le_mul_right _ hcap
    refine ⟨hs.below, fun b' o v h => ?_, fun b' o v h => ?_, fun b' o hb hn => ?_, fun e' he => ?_, by simp, by simp, by simp, hs.size, hone 0 _ _ rfl hu _ _, hs.defers, hs.dr⟩
    · split at h
      · cases h
      · exact hs.com _ _ _ h
    · split at h
      · cases h
      · exact hs.one _ _ _ h
    · have : ¬ b' = b := by omega
      simp only [this, if_false]; exact hs.old _ _ hb hn
    · obtain rfl := List.mem_singleton.1 he
      refine ⟨⟨arr, k3, k4, hcap, hrow.1, arr.toList.take (l.length * sz), ⟨?_, ?_⟩, ?_, rfl⟩, fun o => by simp, fun _ => .inl k1⟩
      · have k4' : arr.toList.length = cap * sz := by simpa using k4
        rw [List.length_take, flat_len hrow.1, k4']; omega
      · intro j c u hc hu'
        obtain ⟨cs, hcs, hcm⟩ := List.mem_flatten.1 (List.mem_of_getElem? hc)
        obtain ⟨v, rfl⟩ := hflat cs hcs c hcm
        have hjl := (List.getElem?_eq_some_iff.1 hc).1
        obtain ⟨ws, w1, w2, w3⟩ := hrow.vals
        have hws := w1.2 j (.v v)
        have hjw : j < ws.length := by rw [w1.1]; exact hjl
        have h3 := w3 j _ (List.getElem?_eq_getElem hjw)
        have h4 := hs.com _ _ _ h3
        rw [cell_of_row w b (0 + j) arr e (0, 0) k3] at h4
        rw [flat_len hrow.1] at hjl
        rw [List.getElem?_take, if_pos hjl] at hu'
        have h5 := hws ws[j] hc (List.getElem?_eq_getElem hjw)
        cases h5
        rw [Nat.zero_add] at h4
        have : some u = some (ws[j]) := by rw [← hu', ← h4]; simp
        cases this
        exact .v _
      · intro v hv
        obtain ⟨j, hj⟩ := List.getElem?_of_mem hv
        obtain ⟨ws, w1, w2, w3⟩ := hrow.vals
        have hjl := (List.getElem?_eq_some_iff.1 hj).1
        rw [List.length_take] at hjl
        have hjw : j < ws.length := by rw [w2]; omega
        have h3 := w3 j _ (List.getElem?_eq_getElem hjw)
        have h4 := hs.com _ _ _ h3
        rw [cell_of_row w b (0 + j) arr e (0, 0) k3, Nat.zero_add] at h4
        rw [List.getElem?_take, if_pos (by omega)] at hj
        have : some v = some (ws[j]) := by rw [← hj, ← h4]; simp
        cases this
        exact hs.one _ _ _ h3
end Go.Proofs.Ytmbfmnhcahhciaa.A

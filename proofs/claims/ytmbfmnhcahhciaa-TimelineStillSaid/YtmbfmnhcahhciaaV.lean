/- The rules of a walk over abstract states: slices that grow in boxes. -/
import Derived.Test.YtmbfmnhcahhciaaW
namespace Go.Proofs.Ytmbfmnhcahhciaa.A
open Go Go.RowKit
set_option linter.unusedVariables false
set_option linter.unusedSimpArgs false
set_option linter.unusedSectionVars false
variable {P : Program} {w0 : Base} {C0 C : CS} {T : TS} {S S' : AState} {a : Act} {w : World} {ops : Array Oper} {rest : List Oper} {o : Oper} {Q : Exit → AState → Prop}
variable {t : Nat} {ty ty' : TypeId} {pos : String} {aft : Array Edge}

theorem append_facts {e sz bytes : Nat} (hsz : szT P e = some sz) (hby : bytesT P e = some bytes) (hz : (zeroT P e).map (·.length) = some sz) :
    ∃ i, P.info? e = some i ∧ i.size = sz ∧ i.bytes = bytes ∧ ∃ z, i.zero = some z ∧ z.cells.size = sz := by
  unfold szT at hsz; unfold bytesT at hby; unfold zeroT at hz
  cases hi : P.info? e with
  | none => simp [hi] at hsz
  | some i =>
    cases hiz : i.zero with
    | none => simp [hi, hiz] at hz
    | some z => simp [hi] at hsz hby; simp [hi, hiz] at hz; exact ⟨i, rfl, hsz, hby, z, hiz, hz⟩
theorem take_append_exact {α : Type} (l m : List α) (n : Nat) (h : l.length = n) : (l ++ m).take n = l := by subst h; simp

theorem r_appendBN {x y : Operand} {sy : SV} {st e sz bytes : Nat} {m : List (List AV)} (hx : S.ev x = some (.a (.v (.slice none 0 0)))) (hy : S.ev y = some sy) (hm : Content sz sy m) (hm0 : m ≠ [])
    (hst : sliceT P st = some e) (hsz : szT P e = some sz) (hby : bytesT P e = some bytes) (hz : (zeroT P e).map (·.length) = some sz)
    (hb : m.length * bytes ≤ 140737488355328) (h63 : m.length ≤ 9223372036854775807) (ht : Nat.blt t S.nt = true)
    (hr : ∀ g cap, AWL P w0 C0 ops rest Q (AState.put ⟨S.nt, S.slots, ⟨g, true, .buf sz m cap e⟩ :: S.objs⟩ t (.a (.v (.slice (some ⟨g, 0, none⟩) m.length cap))))) :
    AWL P w0 C0 ops (⟨some t, .call ⟨.builtin .append, #[x, y], #[st, st]⟩, ty, pos, aft, none⟩ :: rest) Q S := by
  rintro a w ⟨C, T, hs⟩
  obtain ⟨A, capy, by_, oy, hvy, hcapy, hA, hRy⟩ := rel_sl_inv (hm.rel (hs.ev hy))
  obtain ⟨ws, w1, w2, w3⟩ := hRy.vals
  have hone : ∀ v ∈ ws, v.oneCell' = true := fun v hv => by obtain ⟨j, hj⟩ := List.getElem?_of_mem hv; exact hs.one _ _ _ (w3 j v hj)
  obtain ⟨i, hi, hi1, hi2, z, hiz, hzl⟩ := append_facts hsz hby hz
  obtain rfl := hA hm0
  have hm1 : 0 < m.length := List.length_pos_iff.2 hm0
  have hws : ∀ (j : Nat) (v : Value), ws[j]? = some v → w.cell? ((⟨by_, oy, none⟩ : Addr).add j) = some v := fun j v hj => by rw [addr_add]; exact hs.com _ _ _ (w3 j v hj)
  have hrun := run_append_nil (P := P) w st ty e i z (sliceT_un hst) hi hiz ⟨by_, oy, none⟩ m.length capy ws (by rw [w2, hi1]) hws hm1 (by omega) (by rw [hi2]; omega)
  have hge := grownCap_ge w m.length 0 e
  have hexec : ∀ (v : Value) (w' : World), (Builtin.append_ #[st, st] ty #[a.eval x, a.eval y]).run P w = .ok v w' → (execOp a.eval ⟨some t, .call ⟨.builtin .append, #[x, y], #[st, st]⟩, ty, pos, aft, none⟩).run P w = .ok (.value v) w' := by
    intro v w' h
    simp [execOp, resolve, invoke, builtin, h]
  rw [hs.evv hx, hvy] at hexec
  refine wpList_plain rfl (fun K hK => ?_)
  unfold Oper.wp
  rw [hexec _ _ hrun]
  refine hK _ _ (hr w.heap.size (grownCap w m.length 0 e) _ _ ⟨C, T, SimC.put (hs.drew.newObj (o := .buf sz m (grownCap w m.length 0 e) e) _ ⟨_, heap_alloc_at _ _, ?_, hge, hRy.1, ws, w1, hone, ?_⟩) ht (srel_v _)⟩)
  · simp only [Array.size_append, List.size_toArray, size_zeroCells, hzl, w2, ← Nat.add_mul]; congr 1; omega
  · rw [Array.toList_append]; exact take_append_exact _ _ _ w2

theorem set_take {α : Type} {l : List α} {i : Nat} {x y : α} (h : l[i]? = some x) : (y :: l.eraseIdx i).Perm (l.set i y) := by
  induction l generalizing i with
  | nil => simp at h
  | cons z l ih =>
    cases i with
    | zero => simp
    | succ i =>
      simp only [List.eraseIdx_cons_succ, List.set_cons_succ]
      exact (List.Perm.swap _ _ _).trans ((ih (by simpa using h)).cons z)

theorem r_appendBG (i : Nat) {x y : Operand} {sy : SV} {st e sz bytes g cap : Nat} {l m : List (List AV)} {n : Nat} (hx : S.ev x = some (.a (.v (.slice (some ⟨g, 0, none⟩) n cap)))) (hn : n = l.length) (hi : S.objs[i]? = some ⟨g, true, .buf sz l cap e⟩) (hy : S.ev y = some sy) (hm : Content sz sy m) (hm0 : m ≠ [])
    (hst : sliceT P st = some e) (hsz : szT P e = some sz) (hby : bytesT P e = some bytes) (hz : (zeroT P e).map (·.length) = some sz)
    (hb : (l.length + m.length) * bytes ≤ 140737488355328) (h63 : l.length + m.length ≤ 9223372036854775807) (ht : Nat.blt t S.nt = true)
    (hr : ∀ g' cap', AWL P w0 C0 ops rest Q (AState.put ⟨S.nt, S.slots, ⟨g', true, .buf sz (l ++ m) cap' e⟩ :: S.objs.eraseIdx i⟩ t (.a (.v (.slice (some ⟨g', 0, none⟩) (l ++ m).length cap'))))) :
    AWL P w0 C0 ops (⟨some t, .call ⟨.builtin .append, #[x, y], #[st, st]⟩, ty, pos, aft, none⟩ :: rest) Q S := by
  rintro a w ⟨C, T, hs⟩
  subst hn
  obtain ⟨A, capy, by_, oy, hvy, hcapy, hA, hRy⟩ := rel_sl_inv (hm.rel (hs.ev hy))
  obtain ⟨ws, w1, w2, w3⟩ := hRy.vals
  have hone : ∀ v ∈ ws, v.oneCell' = true := fun v hv => by obtain ⟨j, hj⟩ := List.getElem?_of_mem hv; exact hs.one _ _ _ (w3 j v hj)
  obtain ⟨i0, hi0, hi1, hi2, z, hiz, hzl⟩ := append_facts hsz hby hz
  obtain rfl := hA hm0
  have hm1 : 0 < m.length := List.length_pos_iff.2 hm0
  have hws : ∀ (j : Nat) (v : Value), ws[j]? = some v → w.cell? ((⟨by_, oy, none⟩ : Addr).add j) = some v := fun j v hj => by rw [addr_add]; exact hs.com _ _ _ (w3 j v hj)
  obtain ⟨hob, hnone, hrw⟩ := hs.objs _ (mem_of_get hi)
  obtain ⟨arr, a1, a2, a3, a4, vs, a5, a6, a7⟩ := hob
  have hvl : vs.length = l.length * sz := by rw [a5.1, flat_len a4]
  have hvs : ∀ (j : Nat) (v : Value), vs[j]? = some v → w.cell? ((⟨g, 0, none⟩ : Addr).add j) = some v := fun j v hj => by
    rw [addr_add, Nat.zero_add, cell_of_row w g j arr e (0, 0) a1]
    have hlt := (List.getElem?_eq_some_iff.1 hj).1
    rw [← a7, List.getElem?_take, if_pos (by omega)] at hj
    simpa using hj
  have hexec : ∀ (v : Value) (w' : World), (Builtin.append_ #[st, st] ty #[a.eval x, a.eval y]).run P w = .ok v w' → (execOp a.eval ⟨some t, .call ⟨.builtin .append, #[x, y], #[st, st]⟩, ty, pos, aft, none⟩).run P w = .ok (.value v) w' := by
    intro v w' h
    simp [execOp, resolve, invoke, builtin, h]
  rw [hs.evv hx, hvy] at hexec
  have hz4 : ∀ cs, cs ∈ l ++ m → cs.length = sz := fun cs h => by rcases List.mem_append.1 h with h | h; exact a4 cs h; exact hRy.1 cs h
  have hfl : Rels C (l ++ m).flatten (vs ++ ws) := by rw [List.flatten_append]; exact a5.append w1
  have hone2 : ∀ v ∈ vs ++ ws, v.oneCell' = true := fun v hv => by
    rcases List.mem_append.1 hv with hv | hv
    · exact a6 v hv
    · exact hone v hv
  have hlen : (vs ++ ws).length = (l ++ m).length * sz := by rw [List.length_append, hvl, w2, List.length_append, Nat.add_mul]
  refine wpList_plain rfl (fun K hK => ?_)
  unfold Oper.wp
  by_cases hroom : l.length + m.length ≤ cap
  · have hfit : (l.length + m.length) * sz ≤ cap * sz := Nat.mul_le_mul_right _ hroom
    rw [Nat.add_mul] at hfit
    have hrun := run_append_room' (P := P) (w := w) (ty := ty) hst hsz e g l.length cap arr a1 ⟨by_, oy, none⟩ m.length capy ws w2 hws hone hroom (by rw [a2, w2]; exact hfit)
    rw [hexec _ _ hrun]
    have hnew := setRow_heap w g arr (arr.toList.take (l.length * sz) ++ ws ++ arr.toList.drop (l.length * sz + ws.length)).toArray e _ a1
    have hs1 := hs.setObj (ob' := .buf sz (l ++ m) cap e) hi (w' := w.setRow g (arr.toList.take (l.length * sz) ++ ws ++ arr.toList.drop (l.length * sz + ws.length)).toArray) (Nat.le_refl _) rfl rfl rfl (by simp) (fun k hk => setRow_other w g k _ hk)
      ⟨_, hnew, by simp only [List.size_toArray, List.length_append, List.length_drop, Array.length_toList, a7, hvl]; omega, by simpa using hroom, hz4, vs ++ ws, hfl, hone2, by
        rw [a7]
        simp only
        rw [take_append_exact _ _ _ hlen]⟩
    have hs2 := hs1.perm (set_take hi)
    rw [show l.length + m.length = (l ++ m).length from by simp]
    exact hK _ _ (hr g cap _ _ ⟨C, T, hs2.put ht (srel_v _)⟩)
  · have hrun := run_append_grow (P := P) w st ty e i0 z (sliceT_un hst) hi0 hiz ⟨g, 0, none⟩ l.length cap vs (by rw [hvl, hi1]) hvs ⟨by_, oy, none⟩ m.length capy ws (by rw [w2, hi1]) hws (by omega) (by omega) (by rw [hi2]; exact growslice_fits (by omega) hb)
    have hge := grownCap_ge w (l.length + m.length) cap e
    rw [hexec _ _ hrun]
    have hs1 := (hs.drew.newObj (o := .buf sz (l ++ m) (grownCap w (l.length + m.length) cap e) e) (.cells (vs.toArray ++ ws.toArray ++ Builtin.zeroCells z.cells (grownCap w (l.length + m.length) cap e - (l.length + m.length))) e)
      ⟨_, heap_alloc_at _ _, by simp only [Array.size_append, List.size_toArray, size_zeroCells, hzl, hvl, w2, ← Nat.add_mul]; congr 1; omega, by simpa using hge, hz4, vs ++ ws, hfl, hone2, by
        have e1 : (vs.toArray ++ ws.toArray ++ Builtin.zeroCells z.cells (grownCap w (l.length + m.length) cap e - (l.length + m.length))).toList = (vs ++ ws) ++ (Builtin.zeroCells z.cells (grownCap w (l.length + m.length) cap e - (l.length + m.length))).toList := by simp
        rw [e1]
        exact take_append_exact _ _ _ hlen⟩).sub (objs := ⟨w.heap.size, true, .buf sz (l ++ m) (grownCap w (l.length + m.length) cap e) e⟩ :: S.objs.eraseIdx i) ((List.eraseIdx_sublist _ _).cons_cons _)
    rw [show l.length + m.length = (l ++ m).length from by simp] at hs1 ⊢
    exact hK _ _ (hr w.heap.size _ _ _ ⟨C, T, hs1.put ht (srel_v _)⟩)

theorem imp_commitB (i t : Nat) {g n cap sz e : Nat} {l : List (List AV)} (ht : S.get t = some (.a (.v (.slice (some ⟨g, 0, none⟩) n cap)))) (hn : n = l.length) (hi : S.objs[i]? = some ⟨g, true, .buf sz l cap e⟩) :
    Imp w0 C0 S (AState.put ⟨S.nt, S.slots, S.objs.eraseIdx i⟩ t (.a (.sl sz l))) := by
  rintro a w ⟨C, T, hs⟩
  subst hn
  have hm := mem_of_get hi
  obtain ⟨hob, hnone', hbase⟩ := hs.objs _ hm
  obtain ⟨arr, a1, a2, a3, a4, vs, a5, a6, a7⟩ := hob
  have hnone : ∀ o, C g o = none := hnone'
  have hbase' : w0.ok g := hbase rfl
  have hvl : vs.length = l.length * sz := by rw [a5.1, flat_len a4]
  have hmono := CS.add_mono (C := C) (b := g) (o := 0) (vs := vs) (fun j _ => hnone _)
  have hsub := List.eraseIdx_sublist (l := S.objs) (k := i)
  have hp := set_take (y := (⟨g, true, .buf sz l cap e⟩ : OE)) hi
  have hp' : ((⟨g, true, .buf sz l cap e⟩ : OE) :: S.objs.eraseIdx i).Perm S.objs := by
    have : S.objs.set i ⟨g, true, .buf sz l cap e⟩ = S.objs := by
      apply List.ext_getElem?
      intro j
      rw [List.getElem?_set]
      by_cases hij : i = j
      · subst hij; rw [if_pos rfl]; split
        · exact hi.symm
        · rename_i h; rw [List.getElem?_eq_none (by omega)]
      · simp [hij]
    rw [this] at hp; exact hp
  have hne : ∀ e', e' ∈ S.objs.eraseIdx i → e'.b ≠ g := fun e' he h => by
    have := (hp'.pairwise_iff (R := fun e e' : OE => e.b ≠ e'.b) (fun h => fun e => h e.symm)).2 hs.apart
    exact (List.pairwise_cons.1 this).1 e' he h.symm
  have hstep : SimC w0 C0 (C.add g 0 vs) T ⟨S.nt, S.slots, S.objs.eraseIdx i⟩ a w := by
    refine hs.step (BelowX.refl _) (fun _ => Nat.le_refl _) (fun _ _ h => h) ?_ ?_ (fun b' o' hb' hn => CS.add_other (fun e => by subst e; rcases hbase' with h | h; omega; exact hn h)) ?_ (hs.apart.sublist hsub) ?_ hs.tokne (fun t x hx => ⟨x, hx, fun u r => SRel.mono hmono r⟩)
    · intro b' o' v hc
      rcases CS.add_cases hc with ⟨rfl, j, rfl, hj⟩ | hc'
      · rw [cell_of_row w b' _ arr e (0, 0) a1, Nat.zero_add]
        have hlt := (List.getElem?_eq_some_iff.1 hj).1
        rw [← a7, List.getElem?_take, if_pos (by omega)] at hj
        simpa using hj
      · exact hs.com _ _ _ hc'
    · intro b' o' v hc
      rcases CS.add_cases hc with ⟨rfl, j, rfl, hj⟩ | hc'
      · exact a6 v (List.mem_of_getElem? hj)
      · exact hs.one _ _ _ hc'
    · intro e' he
      obtain ⟨k1, k2, k3⟩ := hs.objs e' (hsub.mem he)
      exact ⟨k1.mono hmono rfl, fun o => by rw [CS.add_other (hne e' he)]; exact k2 o, k3⟩
    · intro k j hk
      obtain ⟨k1, k2⟩ := hs.toks k j hk
      have hkb : j.b ≠ g := fun e => k2 _ hm e.symm
      exact ⟨k1.keep rfl (fun o => CS.add_other hkb), fun e he => k2 e (hsub.mem he)⟩
  have hv := hs.slots _ _ ht
  have hv' : a.tmps.getD t undef = .slice (some ⟨g, 0, none⟩) l.length cap := by generalize a.tmps.getD t undef = u at hv; cases hv; rfl
  have hx : SRel (C.add g 0 vs) T (.a (.sl sz l)) (.slice (some ⟨g, 0, none⟩) l.length cap) :=
    rel_sl_mk g 0 rfl a3 (fun _ => rfl) (row_mk a4 (a5.mono hmono) (fun j v hj => CS.add_at hj))
  refine ⟨_, T, hstep.below, hstep.com, hstep.one, hstep.old, hstep.objs, hstep.apart, hstep.toks, hstep.tokne, hstep.size, fun t' y hy => ?_, hstep.defers, hstep.dr⟩
  simp only [AState.get, AState.put, find_cons] at hy
  split at hy
  · rename_i e'; subst e'; cases hy; rw [hv']; exact hx
  · exact hstep.slots _ _ hy
end Go.Proofs.Ytmbfmnhcahhciaa.A

/- The rules of a walk over abstract states: slices whose block is an own box. -/
import Derived.Test.YtmbfmnhcahhciaaY
namespace Go.Proofs.Ytmbfmnhcahhciaa.A
open Go Go.RowKit
set_option linter.unusedVariables false
set_option linter.unusedSimpArgs false
set_option linter.unusedSectionVars false
variable {P : Program} {w0 : Base} {C0 C : CS} {T : TS} {S S' : AState} {a : Act} {w : World} {ops : Array Oper} {rest : List Oper} {o : Oper} {Q : Exit → AState → Prop}
variable {t : Nat} {ty ty' : TypeId} {pos : String} {aft : Array Edge}

theorem r_lenV {x : Operand} {A : Option Addr} {n cap : Nat} {st e : TypeId} (hx : S.ev x = some (.a (.v (.slice A n cap)))) (hst : sliceT P st = some e) (ht : Nat.blt t S.nt = true)
    (hr : AWL P w0 C0 ops rest Q (S.put t (.a (.v (.int .i64 n))))) : AWL P w0 C0 ops (⟨some t, .call ⟨.builtin .len, #[x], #[st]⟩, ty, pos, aft, none⟩ :: rest) Q S :=
  awl_pure ht (fun C T a w hs => ⟨.int .i64 n, by simp [execOp, resolve, invoke, builtin, Builtin.len_, Builtin.lenOf, hs.evv hx, run_underlying (sliceT_un hst), Sem.run_bind, Result.andThen, goInt], srel_v _⟩) hr
theorem r_indexV {st e : TypeId} {sz g off n cap : Nat} {x y : Operand} {k : IntKind} {i : Int} (hx : S.ev x = some (.a (.v (.slice (some ⟨g, off, none⟩) n cap)))) (hy : S.ev y = some (.a (.v (.int k i)))) (hst : sliceT P st = some e) (hsz : szT P e = some sz) (h0 : 0 ≤ i) (h1 : i < n) (ht : Nat.blt t S.nt = true)
    (hr : AWL P w0 C0 ops rest Q (S.put t (.a (.v (.pointer (some ⟨g, off + i.toNat * sz, none⟩)))))) : AWL P w0 C0 ops (⟨some t, .indexAddr st x y, ty, pos, aft, none⟩ :: rest) Q S :=
  awl_pure ht (fun C T a w hs => ⟨_, by simp [execOp, hs.evv hx, hs.evv hy, run_indexAt_slice hst hsz h0 h1], srel_v _⟩) hr
theorem sliceT_el {st e : TypeId} (hst : sliceT P st = some e) : P.underlying st = some (.slice (P.elem st)) ∧ P.elem st = e := by
  have h := sliceT_un hst
  have : P.elem st = e := by simp [Program.elem, h]
  exact ⟨by rw [this]; exact h, this⟩
theorem r_sliceVL {st e : TypeId} {sz g off n cap : Nat} {x y : Operand} {k : IntKind} {lo : Int} (hx : S.ev x = some (.a (.v (.slice (some ⟨g, off, none⟩) n cap)))) (hy : S.ev y = some (.a (.v (.int k lo)))) (hst : sliceT P st = some e) (hsz : szT P e = some sz) (h0 : 0 ≤ lo) (h1 : lo ≤ n) (hc : n ≤ cap) (ht : Nat.blt t S.nt = true)
    (hr : ∀ A : Addr, (lo.toNat < n → A = ⟨g, off + lo.toNat * sz, none⟩) → AWL P w0 C0 ops rest Q (S.put t (.a (.v (.slice (some A) (n - lo.toNat) (cap - lo.toNat)))))) : AWL P w0 C0 ops (⟨some t, .slice st x (some y) none none, ty, pos, aft, none⟩ :: rest) Q S :=
  have hr' := hr (if cap = lo.toNat then ⟨g, off, none⟩ else ⟨g, off + lo.toNat * sz, none⟩) (fun h => if_neg (by omega))
  awl_pure ht (fun C T a w hs => by
    obtain ⟨hu', he⟩ := sliceT_el hst
    have hrun := (run_sliceAt_slice w st (.slice (some ⟨g, off, none⟩) n cap) _ _ _ hu').trans (run_slice_l w st (some ⟨g, off, none⟩) n cap hu' k lo h0 h1)
    rw [he, run_sz hsz] at hrun
    simp only [Result.andThen] at hrun
    refine ⟨sliced (some ⟨g, off, none⟩) lo.toNat n cap sz, by simp [execOp, hs.evv hx, hs.evv hy, hrun], ?_⟩
    have hv : sliced (some ⟨g, off, none⟩) lo.toNat n cap sz = .slice (some (if cap = lo.toNat then ⟨g, off, none⟩ else ⟨g, off + lo.toNat * sz, none⟩)) (n - lo.toNat) (cap - lo.toNat) := by
      unfold sliced
      split <;> simp [*, addr_add]
    rw [hv]; exact srel_v _) hr'
theorem r_sliceVH {st e : TypeId} {sz g off n cap : Nat} {x y : Operand} {k : IntKind} {hi : Int} (hx : S.ev x = some (.a (.v (.slice (some ⟨g, off, none⟩) n cap)))) (hy : S.ev y = some (.a (.v (.int k hi)))) (hst : sliceT P st = some e) (hsz : szT P e = some sz) (h0 : 0 ≤ hi) (h1 : hi ≤ cap) (ht : Nat.blt t S.nt = true)
    (hr : AWL P w0 C0 ops rest Q (S.put t (.a (.v (.slice (some ⟨g, off, none⟩) hi.toNat cap))))) : AWL P w0 C0 ops (⟨some t, .slice st x none (some y) none, ty, pos, aft, none⟩ :: rest) Q S :=
  awl_pure ht (fun C T a w hs => by
    obtain ⟨hu', he⟩ := sliceT_el hst
    have hrun := (run_sliceAt_slice w st (.slice (some ⟨g, off, none⟩) n cap) _ _ _ hu').trans (run_slice_h w st (some ⟨g, off, none⟩) n cap hu' k hi h0 h1)
    rw [he, run_sz hsz] at hrun
    simp only [Result.andThen] at hrun
    refine ⟨sliced (some ⟨g, off, none⟩) 0 hi.toNat cap sz, by simp [execOp, hs.evv hx, hs.evv hy, hrun], ?_⟩
    have hv : sliced (some ⟨g, off, none⟩) 0 hi.toNat cap sz = .slice (some ⟨g, off, none⟩) hi.toNat cap := by
      unfold sliced
      split <;> simp [*, addr_add]
    rw [hv]; exact srel_v _) hr
theorem r_sliceVLH {st e : TypeId} {sz g off n cap : Nat} {x y z : Operand} {k k' : IntKind} {lo hi : Int} (hx : S.ev x = some (.a (.v (.slice (some ⟨g, off, none⟩) n cap)))) (hy : S.ev y = some (.a (.v (.int k lo)))) (hz : S.ev z = some (.a (.v (.int k' hi)))) (hst : sliceT P st = some e) (hsz : szT P e = some sz) (h0 : 0 ≤ lo) (h01 : lo ≤ hi) (h1 : hi ≤ cap) (ht : Nat.blt t S.nt = true)
    (hr : ∀ A : Addr, (lo.toNat < hi.toNat → A = ⟨g, off + lo.toNat * sz, none⟩) → AWL P w0 C0 ops rest Q (S.put t (.a (.v (.slice (some A) (hi.toNat - lo.toNat) (cap - lo.toNat)))))) : AWL P w0 C0 ops (⟨some t, .slice st x (some y) (some z) none, ty, pos, aft, none⟩ :: rest) Q S :=
  have hr' := hr (if cap = lo.toNat then ⟨g, off, none⟩ else ⟨g, off + lo.toNat * sz, none⟩) (fun h => if_neg (by omega))
  awl_pure ht (fun C T a w hs => by
    obtain ⟨hu', he⟩ := sliceT_el hst
    have hrun := (run_sliceAt_slice w st (.slice (some ⟨g, off, none⟩) n cap) _ _ _ hu').trans (run_slice_lh w st (some ⟨g, off, none⟩) n cap hu' k k' lo hi h0 h01 h1)
    rw [he, run_sz hsz] at hrun
    simp only [Result.andThen] at hrun
    refine ⟨sliced (some ⟨g, off, none⟩) lo.toNat hi.toNat cap sz, by simp [execOp, hs.evv hx, hs.evv hy, hs.evv hz, hrun], ?_⟩
    have hv : sliced (some ⟨g, off, none⟩) lo.toNat hi.toNat cap sz = .slice (some (if cap = lo.toNat then ⟨g, off, none⟩ else ⟨g, off + lo.toNat * sz, none⟩)) (hi.toNat - lo.toNat) (cap - lo.toNat) := by
      unfold sliced
      split <;> simp [*, addr_add]
    rw [hv]; exact srel_v _) hr'
/-- a slice expression of three bounds, whose value no one reads -/
theorem r_sliceV3 {st e : TypeId} {sz g off n cap : Nat} {x y z u : Operand} {k k' k2 : IntKind} {lo hi mx : Int} (hx : S.ev x = some (.a (.v (.slice (some ⟨g, off, none⟩) n cap)))) (hy : S.ev y = some (.a (.v (.int k lo)))) (hz : S.ev z = some (.a (.v (.int k' hi)))) (hu : S.ev u = some (.a (.v (.int k2 mx)))) (hst : sliceT P st = some e) (hsz : szT P e = some sz) (h0 : 0 ≤ lo) (h01 : lo ≤ hi) (h1 : hi ≤ mx) (h2 : mx ≤ cap) (ht : Nat.blt t S.nt = true)
    (hr : ∀ v : Value, AWL P w0 C0 ops rest Q (S.put t (.a (.v v)))) : AWL P w0 C0 ops (⟨some t, .slice st x (some y) (some z) (some u), ty, pos, aft, none⟩ :: rest) Q S :=
  have hr' := hr (sliced (some ⟨g, off, none⟩) lo.toNat hi.toNat mx.toNat sz)
  awl_pure ht (fun C T a w hs => by
    obtain ⟨hu', he⟩ := sliceT_el hst
    have hrun := (run_sliceAt_slice w st (.slice (some ⟨g, off, none⟩) n cap) _ _ _ hu').trans (run_slice_lhm w st (some ⟨g, off, none⟩) n cap hu' k k' k2 lo hi mx h0 h01 h1 h2)
    rw [he, run_sz hsz] at hrun
    simp only [Result.andThen] at hrun
    refine ⟨sliced (some ⟨g, off, none⟩) lo.toNat hi.toNat mx.toNat sz, by simp [execOp, hs.evv hx, hs.evv hy, hs.evv hz, hs.evv hu, hrun], ?_⟩
    exact srel_v _) hr'

theorem box_get {C : CS} {cs : List AV} {arr : Array Value} (h : Rels C cs arr.toList) : arr.size = cs.length := by have := h.1; simpa using this
theorem rels_vals {C : CS} (vs : List Value) : Rels C (vs.map AV.v) vs := ⟨by simp, fun j c u h1 h2 => by rw [List.getElem?_map, h2] at h1; simp at h1; subst h1; exact .v _⟩
/-- a part of an own box is cleared -/
theorem r_clear (i : Nat) {x : Operand} {A : Addr} {m c g off : Nat} {cs : List AV} {st e : TypeId} {zs : List Value} (hx : S.ev x = some (.a (.v (.slice (some A) m c)))) (hA : 0 < m → A = ⟨g, off, none⟩) (hi : S.objs[i]? = some ⟨g, true, .box cs⟩)
    (hst : sliceT P st = some e) (hz : zeroT P e = some zs) (hz1 : zs.length = 1) (hz2 : ∀ z ∈ zs, z.oneCell' = true) (hl : off + m ≤ cs.length)
    (hr : ∀ ext : List AV, ext.length = m → AWL P w0 C0 ops rest Q ⟨S.nt, S.slots, S.objs.set i ⟨g, true, .box (cs.take off ++ ext ++ cs.drop (off + m))⟩⟩) :
    AWL P w0 C0 ops (⟨none, .call ⟨.builtin .clear, #[x], #[st]⟩, ty, pos, aft, none⟩ :: rest) Q S := by
  rintro a w ⟨C, T, hs⟩
  obtain ⟨arr, t0, g1, g2⟩ := (hs.objs _ (mem_of_get hi)).1
  have harr := box_get g2
  refine wpList_plain rfl (fun K hK => ?_)
  unfold Oper.wp
  by_cases hm : m = 0
  · subst hm
    have hexec : (execOp a.eval ⟨none, .call ⟨.builtin .clear, #[x], #[st]⟩, ty, pos, aft, none⟩).run P w = .ok (.value (.tuple #[])) w := by
      simp [execOp, resolve, invoke, builtin, hs.evv hx, Builtin.clear_, run_underlying (sliceT_un hst), Sem.run_bind, Result.andThen]
    rw [hexec]
    refine hK _ _ (hr [] rfl _ _ ⟨C, T, ?_⟩)
    have : S.objs.set i ⟨g, true, .box (cs.take off ++ [] ++ cs.drop (off + 0))⟩ = S.objs := by
      apply List.ext_getElem?
      intro j
      rw [List.getElem?_set]
      by_cases hij : i = j
      · subst hij; rw [if_pos rfl]; split
        · rw [hi]; simp
        · rename_i h; rw [List.getElem?_eq_none (by omega)]
      · simp [hij]
    rw [this]
    exact hs
  · obtain rfl := hA (by omega)
    obtain ⟨z, hzz, hzc⟩ := run_zero hz w
    have hvs : (Builtin.zeroCells z.cells m).toList.length = m := by rw [Array.length_toList, size_zeroCells, hzc]; simp [hz1]
    have hone : ∀ v ∈ (Builtin.zeroCells z.cells m).toList, v.oneCell' = true := by
      intro v hv
      rw [hzc] at hv
      simp only [Builtin.zeroCells, Array.toList_map, List.mem_map, Array.mem_toList_iff] at hv
      obtain ⟨q, hq, rfl⟩ := hv
      have hlt : q % zs.toArray.size < zs.toArray.size := Nat.mod_lt _ (by simp [hz1])
      rw [getElem!_pos zs.toArray _ hlt]
      exact hz2 _ (by simp)
    have hst' := run_storeCells_at P g off t0 (Builtin.zeroCells z.cells m).toList 0 arr w g1 (by rw [hvs, harr]; omega) hone
    simp only [Nat.add_zero, hvs] at hst'
    have hexec : (execOp a.eval ⟨none, .call ⟨.builtin .clear, #[x], #[st]⟩, ty, pos, aft, none⟩).run P w = .ok (.value (.tuple #[])) (w.setRow g (arr.toList.take off ++ (Builtin.zeroCells z.cells m).toList ++ arr.toList.drop (off + m)).toArray) := by
      obtain ⟨m', rfl⟩ : ∃ m', m = m' + 1 := ⟨m - 1, by omega⟩
      simp [execOp, resolve, invoke, builtin, hs.evv hx, Builtin.clear_, run_underlying (sliceT_un hst), Sem.run_bind, Result.andThen, hzz, hst']
    rw [hexec]
    refine hK _ _ (hr ((Builtin.zeroCells z.cells m).toList.map AV.v) (by rw [List.length_map, hvs]) _ _ ⟨C, T, ?_⟩)
    have r1 := rels_take_drop g2 0 off
    have r2 := rels_take_drop g2 (off + m) cs.length
    simp only [List.drop_zero] at r1
    rw [List.take_of_length_le (by simp), List.take_of_length_le (by simp; omega)] at r2
    exact hs.setObj hi (w' := w.setRow g (arr.toList.take off ++ (Builtin.zeroCells z.cells m).toList ++ arr.toList.drop (off + m)).toArray) (Nat.le_refl _) rfl rfl rfl (by simp) (fun k hk => setRow_other w g k _ hk) ⟨_, t0, setRow_heap w g arr _ t0 _ g1, by simpa using (r1.append (rels_vals _)).append r2⟩
/-- a part of an own box is appended to what lies ahead of it -/
theorem r_appendV (i : Nat) {x y : Operand} {g n m cap c off : Nat} {A : Addr} {cs : List AV} {st e : TypeId} (hx : S.ev x = some (.a (.v (.slice (some ⟨g, 0, none⟩) n cap)))) (hy : S.ev y = some (.a (.v (.slice (some A) m c)))) (hA : 0 < m → A = ⟨g, off, none⟩) (hi : S.objs[i]? = some ⟨g, true, .box cs⟩)
    (hst : sliceT P st = some e) (hsz : szT P e = some 1) (h1 : ((cs.drop off).take m).all AV.one = true) (hroom : n + m ≤ cap) (hl : n + m ≤ cs.length) (hl2 : off + m ≤ cs.length) (ht : Nat.blt t S.nt = true)
    (hr : AWL P w0 C0 ops rest Q (AState.put ⟨S.nt, S.slots, S.objs.set i ⟨g, true, .box (cs.take n ++ (cs.drop off).take m ++ cs.drop (n + m))⟩⟩ t (.a (.v (.slice (some ⟨g, 0, none⟩) (n + m) cap))))) :
    AWL P w0 C0 ops (⟨some t, .call ⟨.builtin .append, #[x, y], #[st, st]⟩, ty, pos, aft, none⟩ :: rest) Q S := by
  rintro a w ⟨C, T, hs⟩
  obtain ⟨arr, t0, g1, g2⟩ := (hs.objs _ (mem_of_get hi)).1
  have harr := box_get g2
  refine wpList_plain rfl (fun K hK => ?_)
  unfold Oper.wp
  have hexec : ∀ (v : Value) (w' : World), (Builtin.append_ #[st, st] ty #[a.eval x, a.eval y]).run P w = .ok v w' → (execOp a.eval ⟨some t, .call ⟨.builtin .append, #[x, y], #[st, st]⟩, ty, pos, aft, none⟩).run P w = .ok (.value v) w' := by
    intro v w' h
    simp [execOp, resolve, invoke, builtin, h]
  rw [hs.evv hx, hs.evv hy] at hexec
  by_cases hm : m = 0
  · subst hm
    have hrun := run_append_zero (P := P) (w := w) (ty := ty) hst hsz (some ⟨g, 0, none⟩) (some A) n cap c (by omega)
    rw [hexec _ _ hrun]
    refine hK _ _ ?_
    have : S.objs.set i ⟨g, true, .box (cs.take n ++ (cs.drop off).take 0 ++ cs.drop (n + 0))⟩ = S.objs := by
      apply List.ext_getElem?
      intro j
      rw [List.getElem?_set]
      by_cases hij : i = j
      · subst hij; rw [if_pos rfl]; split
        · rw [hi]; simp
        · rename_i h; rw [List.getElem?_eq_none (by omega)]
      · simp [hij]
    rw [this] at hr
    exact hr _ _ ⟨C, T, hs.put ht (srel_v _)⟩
  · obtain rfl := hA (by omega)
    have hnl : ((arr.toList.drop off).take m).length = m * 1 := by simp [harr]; omega
    have hws : ∀ (j : Nat) (v : Value), ((arr.toList.drop off).take m)[j]? = some v → w.cell? ((⟨g, off, none⟩ : Addr).add j) = some v := fun j v hj => by
      rw [List.getElem?_take] at hj
      split at hj
      · rw [List.getElem?_drop] at hj
        rw [addr_add, cell_of_row w g (off + j) arr t0 (0, 0) g1]; simpa using hj
      · cases hj
    have hone : ∀ v ∈ (arr.toList.drop off).take m, v.oneCell' = true := (rels_take_drop g2 off m).ones h1
    have hrun := run_append_room' (P := P) (w := w) (ty := ty) hst hsz t0 g n cap arr g1 ⟨g, off, none⟩ m c _ hnl hws hone hroom (by rw [hnl, harr]; omega)
    rw [Nat.mul_one, hnl, Nat.mul_one] at hrun
    rw [hexec _ _ hrun]
    refine hK _ _ (hr _ _ ⟨C, T, SimC.put ?_ ht (srel_v _)⟩)
    have r1 := rels_take_drop g2 0 n
    have r3 := rels_take_drop g2 off m
    have r2 := rels_take_drop g2 (n + m) cs.length
    simp only [List.drop_zero] at r1
    rw [List.take_of_length_le (by simp), List.take_of_length_le (by simp; omega)] at r2
    exact hs.setObj hi (w' := w.setRow g (arr.toList.take n ++ (arr.toList.drop off).take m ++ arr.toList.drop (n + m)).toArray) (Nat.le_refl _) rfl rfl rfl (by simp) (fun k hk => setRow_other w g k _ hk) ⟨_, t0, setRow_heap w g arr _ t0 _ g1, by simpa using (r1.append r3).append r2⟩
theorem r_sliceVLd {st e : TypeId} {sz g off n cap : Nat} {x y : Operand} {k : IntKind} {lo : Int} (hx : S.ev x = some (.a (.v (.slice (some ⟨g, off, none⟩) n cap)))) (hy : S.ev y = some (.a (.v (.int k lo)))) (hst : sliceT P st = some e) (hsz : szT P e = some sz) (h0 : 0 ≤ lo) (h1 : lo ≤ n) (hc : n ≤ cap) (ht : Nat.blt t S.nt = true)
    (hr : AWL P w0 C0 ops rest Q (S.put t (.a (.v (.slice (some (if cap = lo.toNat then ⟨g, off, none⟩ else ⟨g, off + lo.toNat * sz, none⟩)) (n - lo.toNat) (cap - lo.toNat)))))) : AWL P w0 C0 ops (⟨some t, .slice st x (some y) none none, ty, pos, aft, none⟩ :: rest) Q S :=
  awl_pure ht (fun C T a w hs => by
    obtain ⟨hu', he⟩ := sliceT_el hst
    have hrun := (run_sliceAt_slice w st (.slice (some ⟨g, off, none⟩) n cap) _ _ _ hu').trans (run_slice_l w st (some ⟨g, off, none⟩) n cap hu' k lo h0 h1)
    rw [he, run_sz hsz] at hrun
    simp only [Result.andThen] at hrun
    refine ⟨sliced (some ⟨g, off, none⟩) lo.toNat n cap sz, by simp [execOp, hs.evv hx, hs.evv hy, hrun], ?_⟩
    have hv : sliced (some ⟨g, off, none⟩) lo.toNat n cap sz = .slice (some (if cap = lo.toNat then ⟨g, off, none⟩ else ⟨g, off + lo.toNat * sz, none⟩)) (n - lo.toNat) (cap - lo.toNat) := by
      unfold sliced
      split <;> simp [*, addr_add]
    rw [hv]; exact srel_v _) hr
/-- an own box's content, told otherwise -/
theorem imp_boxEq (i : Nat) {g : Nat} {cs : List AV} (cs' : List AV) (hi : S.objs[i]? = some ⟨g, true, .box cs⟩) (h : cs = cs') : Imp w0 C0 S ⟨S.nt, S.slots, S.objs.set i ⟨g, true, .box cs'⟩⟩ := by
  subst h
  have : S.objs.set i ⟨g, true, .box cs⟩ = S.objs := by
    apply List.ext_getElem?
    intro j
    rw [List.getElem?_set]
    by_cases hij : i = j
    · subst hij; rw [if_pos rfl]; split
      · exact hi.symm
      · rename_i h; rw [List.getElem?_eq_none (by omega)]
    · simp [hij]
  rw [this]
  exact fun a w h => h

/-! ### delete -/
section
variable {K α : Type} [DecidableEq K] {ek : K → Value} {ev : α → AV} {kt et : TypeId}
theorem mfind_del_none : ∀ (m : List (K × α)) (k : K), mfind (m.map (·.1)) k = none → mdel m k = m
  | [], k, _ => rfl
  | (x, u) :: r, k, h => by
    by_cases hx : x = k
    · simp [mfind, hx] at h
    · simp [mfind, hx] at h
      simp [mdel, hx, mfind_del_none r k (by simpa using h)]
theorem mfind_del_some : ∀ (m : List (K × α)) (k : K) (i : Nat), mfind (m.map (·.1)) k = some i → mdel m k = m.eraseIdx i
  | [], k, i, h => by simp [mfind] at h
  | (x, u) :: r, k, i, h => by
    by_cases hx : x = k
    · simp [mfind, hx] at h
      subst h; subst hx; simp [mdel]
    · cases hr : mfind (r.map (·.1)) k with
      | none => simp [mfind, hx, hr] at h
      | some j =>
        simp [mfind, hx, hr] at h
        subst h
        simp [mdel, hx, mfind_del_some r k j hr]
theorem mdel_sub : ∀ (m : List (K × α)) (k : K), (mdel m k).Sublist m
  | [], k => .slnil
  | (x, u) :: r, k => by
    unfold mdel
    split
    · exact .cons _ (.refl _)
    · exact (mdel_sub r k).cons_cons _
theorem mget_mdel : ∀ (m : List (K × α)) (k k' : K), (m.map (·.1)).Nodup → mget (mdel m k) k' = if k = k' then none else mget m k'
  | [], k, k', _ => by simp [mdel, mget]
  | (x, u) :: r, k, k', h => by
    rw [List.map_cons, List.nodup_cons] at h
    by_cases hx : x = k
    · subst hx
      simp only [mdel, if_true]
      by_cases hk : x = k'
      · subst hk
        rw [if_pos rfl]
        exact mget_none.2 h.1
      · simp [mget, hk]
    · simp only [mdel, hx, if_false]
      have ih := mget_mdel r k k' h.2
      by_cases hxk : x = k'
      · subst hxk
        have : ¬ k = x := fun e => hx e.symm
        simp [mget, this]
      · simp [mget, hxk, ih]
theorem rels_erase {C : CS} {cs : List AV} {vs : List Value} (h : Rels C cs vs) (i : Nat) : Rels C (cs.eraseIdx i) (vs.eraseIdx i) := by
  refine ⟨by rw [List.length_eraseIdx, List.length_eraseIdx, h.1], fun j c u h1 h2 => ?_⟩
  rw [List.getElem?_eraseIdx] at h1 h2
  split at h1
  · rename_i hj; rw [if_pos hj] at h2; exact h.2 _ _ _ h1 h2
  · rename_i hj; rw [if_neg hj] at h2; exact h.2 _ _ _ h1 h2
theorem map_erase {α β : Type} (f : α → β) : ∀ (l : List α) (i : Nat), (l.eraseIdx i).map f = (l.map f).eraseIdx i
  | [], i => by simp
  | x :: l, 0 => by simp
  | x :: l, i + 1 => by simp [map_erase f l i]
theorem run_del (KE : KeyEnc P kt ek) {mt kty : TypeId} (hmt : mapT P mt = some (kt, et)) {b : Nat} {m : List (K × α)} (h : ObjRel C b (.map (encM ek ev m)) w) (k : K) :
    ∃ ents' clock', (Builtin.delete_ #[mt, kty] ty #[.map (some b), ek k]).run P w = .ok (.tuple #[]) { w with heap := w.heap.setIfInBounds b (.map ents' clock') } ∧
      ents'.toList.map (·.key) = (encM ek ev (mdel m k)).map (·.1) ∧ Rels C ((encM ek ev (mdel m k)).map (·.2)) (ents'.toList.map (·.val)) ∧ (ents'.toList.map (·.born)).Pairwise (· < ·) ∧ ∀ e ∈ ents'.toList, e.born < clock' := by
  obtain ⟨ents, clock, h1, h2, h3, h4, h5⟩ := map_ents h
  have hf := KE.find ents.toList (m.map (·.1)) k w h2
  have hc := fun e => KE.check e k w
  have e1 : (encM ek ev (mdel m k)).map (·.1) = ((mdel m k).map (·.1)).map ek := by simp [encM]
  have e2 : (encM ek ev (mdel m k)).map (·.2) = (mdel m k).map fun p => ev p.2 := by simp [encM]
  rw [e1, e2]
  cases hm : mfind (m.map (·.1)) k with
  | none =>
    refine ⟨ents, clock, ?_, ?_, ?_, h4, h5⟩
    · simp [Builtin.delete_, run_underlying (mapT_un hmt), run_getMap h1, run_setMap h1, hc, hf, hm]
    · rw [mfind_del_none m k hm]; exact h2
    · rw [mfind_del_none m k hm]; exact h3
  | some i =>
    have hi : i < m.length := by
      have : ∀ (m : List (K × α)) (i : Nat), mfind (m.map (·.1)) k = some i → i < m.length := by
        intro m
        induction m with
        | nil => intro i h; simp [mfind] at h
        | cons p r ih =>
          intro i h
          by_cases hx : p.1 = k
          · simp [mfind, hx] at h; subst h; simp
          · cases hr : mfind (r.map (·.1)) k with
            | none => simp [mfind, hx, hr] at h
            | some j => simp [mfind, hx, hr] at h; subst h; have := ih j hr; simp; omega
      exact this m i hm
    have hil : i < ents.toList.length := by have := congrArg List.length h2; simp at this; simp; omega
    obtain ⟨e0, hei⟩ : ∃ e0, ents.toList[i]? = some e0 := ⟨_, List.getElem?_eq_getElem hil⟩
    have hei' : ents[i]? = some e0 := by simpa using hei
    have htl : (ents.eraseIdxIfInBounds i).toList = ents.toList.eraseIdx i := by
      have hil2 : i < ents.size := by simpa using hil
      simp [Array.eraseIdxIfInBounds, hil2]
    refine ⟨ents.eraseIdxIfInBounds i, clock, ?_, ?_, ?_, ?_, ?_⟩
    · simp [Builtin.delete_, run_underlying (mapT_un hmt), run_getMap h1, run_setMap h1, hc, hf, hm, hei']
    · rw [htl, mfind_del_some m k i hm, map_erase, map_erase, map_erase, h2]
    · rw [htl, mfind_del_some m k i hm, map_erase, map_erase]; exact rels_erase h3 i
    · rw [htl]; exact h4.sublist ((List.eraseIdx_sublist _ _).map _)
    · intro e he
      rw [htl] at he
      exact h5 e ((List.eraseIdx_sublist _ _).mem he)
theorem r_delete (i : Nat) (KE : KeyEnc P kt ek) {x y : Operand} {b : Nat} {m : List (K × α)} {k : K} {mt kty : TypeId} (hx : S.ev x = some (.a (.v (.map (some b))))) (hi : S.objs[i]? = some ⟨b, true, .map (encM ek ev m)⟩) (hy : S.ev y = some (.a (.v (ek k)))) (hmt : mapT P mt = some (kt, et))
    (hr : AWL P w0 C0 ops rest Q ⟨S.nt, S.slots, S.objs.set i ⟨b, true, .map (encM ek ev (mdel m k))⟩⟩) : AWL P w0 C0 ops (⟨none, .call ⟨.builtin .delete, #[x, y], #[mt, kty]⟩, ty, pos, aft, none⟩ :: rest) Q S := by
  rintro a w ⟨C, T, hs⟩
  have hob : ObjRel C b (.map (encM ek ev m)) w := (hs.objs _ (mem_of_get hi)).1
  have hb : b < w.heap.size := hs.objlt (mem_of_get hi)
  obtain ⟨ents', clock', hrun, g1, g2, g3⟩ := run_del (ty := ty) (kty := kty) KE hmt hob k
  refine wpList_plain rfl (fun K hK => ?_)
  unfold Oper.wp
  have hexec : (execOp a.eval ⟨none, .call ⟨.builtin .delete, #[x, y], #[mt, kty]⟩, ty, pos, aft, none⟩).run P w = .ok (.value (.tuple #[])) { w with heap := w.heap.setIfInBounds b (.map ents' clock') } := by
    simp [execOp, resolve, invoke, builtin, hs.evv hx, hs.evv hy, hrun]
  rw [hexec]
  exact hK _ _ (hr _ _ ⟨C, T, hs.setObj hi (Nat.le_refl _) rfl rfl rfl (by simp) (fun j hj => by rw [Array.getElem?_setIfInBounds, if_neg (fun e : b = j => hj e.symm)]) ⟨ents', clock', by simp [hb], g1, g2, g3⟩⟩)
end
end Go.Proofs.Ytmbfmnhcahhciaa.A

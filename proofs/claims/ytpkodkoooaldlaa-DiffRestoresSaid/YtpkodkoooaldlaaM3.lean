import Derived.WalkKit
import Derived.Below
import Derived.Laws.Rows
import Derived.Laws.CopyRow
import Derived.Laws.AppendOwn
import Derived.RangeFuncLeaves
import Derived.RangeFuncSeq
import Derived.RangeFuncCalls
import Derived.MapKept
import Derived.Orders
import Derived.Laws.IdiomStrings
import Derived.Laws.BytesArg
import Derived.Shelf.SlIter.Nil
import Derived.RangeFuncBound
import Derived.Maps.RangeRun
import Derived.DeepKeys3
import Derived.Laws.StructEq
import Derived.Shelf.SlSortCmp.NoneTotal
import Derived.ChangeKeysEq
import Derived.Laws.MakeOwn
import Derived.ChangeArms
import Derived.ChangeOld
import Derived.Laws.DeepStrings4
import Derived.OpenShut
import Derived.Test.YtpkodkoooaldlaaProg
import Derived.KernelRfl
import Derived.OrdersIn
import Derived.Lib.AppendZeros
import Derived.Lib.AppendZerosOnto
import Derived.Lib.Overlaps
import Derived.Deep.AppendSrc
import Derived.Scope
import Derived.Shelf.SlGeneric
import Derived.Ground.SlsfProg
import Derived.Ground.SlmcProg
import Derived.Shelf.SlMaps.Clone
import Derived.Test.YtpkodkoooaldlaaM2
namespace Go.Proofs.Ytpkodkoooaldlaa.A
open Go Go.RowKit
set_option linter.unusedVariables false
set_option linter.unusedSimpArgs false
set_option linter.unusedSectionVars false
variable {P : Program} {w0 : Base} {C0 C : CS} {T : TS} {S S' : AState} {a : Act} {w : World} {ops : Array Oper} {rest : List Oper} {o : Oper} {Q : Exit → AState → Prop}
variable {t : Nat} {ty ty' : TypeId} {pos : String} {aft : Array Edge}
theorem r_capV {x : Operand} {A : Option Addr} {n cap : Nat} {st e : TypeId} (hx : S.ev x = some (.a (.v (.slice A n cap)))) (hst : sliceT P st = some e) (ht : Nat.blt t S.nt = true)
    (hr : AWL P w0 C0 ops rest Q (S.put t (.a (.v (.int .i64 cap))))) : AWL P w0 C0 ops (⟨some t, .call ⟨.builtin .cap, #[x], #[st]⟩, ty, pos, aft, none⟩ :: rest) Q S :=
  awl_pure ht (fun C T a w hs => ⟨.int .i64 cap, by simp [execOp, resolve, invoke, builtin, Builtin.cap_, hs.evv hx, run_underlying (sliceT_un hst), Sem.run_bind, Result.andThen, goInt], srel_v _⟩) hr
theorem run_copyV {st e sz : Nat} (hst : sliceT P st = some e) (hsz : szT P e = some sz) {g off m c : Nat} {arr : Array Value} {t0 : TypeId} (hg : w.heap[g]? = some (.cells arr t0 (0, 0))) {A : Addr} {sA : Option Addr} {sn sc : Nat} {vs : List Value}
    (hA : 0 < min sn m → A = ⟨g, off, none⟩) (hl : vs.length = min sn m * sz) (hs : ∀ j v, vs[j]? = some v → ∃ b o, sA = some ⟨b, o, none⟩ ∧ w.cell? ⟨b, o + j, none⟩ = some v) (h1 : ∀ v ∈ vs, v.oneCell' = true) (hfit : off + min sn m * sz ≤ arr.size) (hz : 0 < sz) :
    (Builtin.copy_ #[st, st] ty #[.slice (some A) m c, .slice sA sn sc]).run P w = .ok (.int .i64 (min sn m : Nat)) (if 0 < min sn m then w.setRow g (arr.toList.take off ++ vs ++ arr.toList.drop (off + vs.length)).toArray else w) := by
  have hlen : (Builtin.lenOf (.slice sA sn sc)).run P w = .ok sn w := by simp [Builtin.lenOf]
  by_cases hm : min sn m = 0
  · have hv : vs = [] := List.eq_nil_of_length_eq_zero (by rw [hl, hm]; simp)
    have hm' : Nat.min sn m = 0 := hm
    have hf : (Builtin.firstCells sz 0 (.slice sA sn sc)).run P w = .ok #[] w := by
      cases sA <;> simp [Builtin.firstCells, loadCells, loadCellsFrom]
    rw [if_neg (by omega)]
    simp [Builtin.copy_, run_underlying (sliceT_un hst), Sem.run_bind, Result.andThen, run_sz hsz, hlen, hm', hf, storeCells, goInt, hm]
  · obtain rfl := hA (by omega)
    have hpos : 0 < vs.length := by rw [hl]; exact Nat.mul_pos (by omega) hz
    obtain ⟨b, o, rfl, _⟩ := hs 0 vs[0] (List.getElem?_eq_getElem hpos)
    have hf : (Builtin.firstCells sz (Nat.min sn m) (.slice (some ⟨b, o, none⟩) sn sc)).run P w = .ok vs.toArray w := by
      have := run_load_cells (P := P) (w := w) (b := b) (o := o) (n := Nat.min sn m * sz) (cs := vs) hl (fun j v hj => by obtain ⟨b', o', h1, h2⟩ := hs j v hj; cases h1; exact h2)
      simpa [Builtin.firstCells] using this
    have hst' := run_storeCells_at P g off t0 vs 0 arr w hg (by rw [hl]; simpa using hfit) h1
    rw [if_pos (by omega)]
    simp only [Nat.add_zero] at hst'
    simp [Builtin.copy_, run_underlying (sliceT_un hst), Sem.run_bind, Result.andThen, run_sz hsz, hlen, hf, hst', goInt]
def SrcOk (w0 : Base) (C0 : CS) (S : AState) (y : Operand) (k sn : Nat) (xs : List AV) : Prop := ∀ C T a w, SimC w0 C0 C T S a w → ∃ sA sc vs, a.eval y = .slice sA sn sc ∧ Rels C xs vs ∧ (∀ v ∈ vs, v.oneCell' = true) ∧ ∀ (j : Nat) (v : Value), vs[j]? = some v → ∃ b o, sA = some ⟨b, o, none⟩ ∧ w.cell? ⟨b, o + j, none⟩ = some v
theorem r_copyV (i : Nat) {x y : Operand} {A : Addr} {m c sn g off sz : Nat} {cs xs : List AV} {st e : TypeId} (hx : S.ev x = some (.a (.v (.slice (some A) m c)))) (hy : SrcOk w0 C0 S y (min sn m) sn xs) (hA : 0 < min sn m → A = ⟨g, off, none⟩) (hi : S.objs[i]? = some ⟨g, true, .box cs⟩)
    (hst : sliceT P st = some e) (hsz : szT P e = some sz) (hz : 0 < sz) (hl : xs.length = min sn m * sz) (hfit : off + min sn m * sz ≤ cs.length) (ht : Nat.blt t S.nt = true)
    (hr : AWL P w0 C0 ops rest Q (AState.put ⟨S.nt, S.slots, S.objs.set i ⟨g, true, .box (if 0 < min sn m then cs.take off ++ xs ++ cs.drop (off + xs.length) else cs)⟩⟩ t (.a (.v (.int .i64 (min sn m : Nat)))))) :
    AWL P w0 C0 ops (⟨some t, .call ⟨.builtin .copy, #[x, y], #[st, st]⟩, ty, pos, aft, none⟩ :: rest) Q S := by
  rintro a w ⟨C, T, hs⟩
  obtain ⟨arr, t0, g1, g2⟩ := (hs.objs _ (mem_of_get hi)).1
  have harr := box_get g2
  obtain ⟨sA, sc, vs, h1, h2, h3, h4⟩ := hy C T a w hs
  have hvl : vs.length = xs.length := h2.1
  have hrun := run_copyV (P := P) (w := w) (ty := ty) hst hsz (m := m) (c := c) (sc := sc) g1 hA (by rw [hvl, hl]) h4 h3 (by rw [harr]; exact hfit) hz
  refine wpList_plain rfl (fun K hK => ?_)
  unfold Oper.wp
  have hexec : (execOp a.eval ⟨some t, .call ⟨.builtin .copy, #[x, y], #[st, st]⟩, ty, pos, aft, none⟩).run P w = .ok (.value (.int .i64 (min sn m : Nat))) (if 0 < min sn m then w.setRow g (arr.toList.take off ++ vs ++ arr.toList.drop (off + vs.length)).toArray else w) := by
    simp [execOp, resolve, invoke, builtin, hs.evv hx, h1, hrun]
  rw [hexec]
  refine hK _ _ (hr _ _ ⟨C, T, SimC.put ?_ ht (srel_v _)⟩)
  by_cases hm : 0 < min sn m
  · rw [if_pos hm, if_pos hm]
    have r1 := rels_take_drop g2 0 off
    have r2 := rels_take_drop g2 (off + vs.length) cs.length
    simp only [List.drop_zero] at r1
    rw [List.take_of_length_le (by simp), List.take_of_length_le (by simp; omega)] at r2
    exact hs.setObj hi (w' := w.setRow g (arr.toList.take off ++ vs ++ arr.toList.drop (off + vs.length)).toArray) (Nat.le_refl _) rfl rfl rfl (by simp) (fun k hk => setRow_other w g k _ hk) ⟨_, t0, setRow_heap w g arr _ t0 _ g1, by rw [← hvl]; simpa using (r1.append h2).append r2⟩
  · rw [if_neg hm, if_neg hm]
    exact hs.setObj hi (w' := w) (Nat.le_refl _) rfl rfl rfl rfl (fun _ _ => rfl) ⟨arr, t0, g1, g2⟩
theorem srcOk_box (j : Nat) {y : Operand} {A : Addr} {k n sn sc g off : Nat} {rw' : Bool} {cs : List AV} (hy : S.ev y = some (.a (.v (.slice (some A) sn sc)))) (hA : 0 < n → A = ⟨g, off, none⟩) (hj : S.objs[j]? = some ⟨g, rw', .box cs⟩) (hn : n = 0 → ((cs.drop off).take n) = []) (h1 : ((cs.drop off).take n).all AV.one = true) (hfit : off + n ≤ cs.length) :
    SrcOk w0 C0 S y k sn ((cs.drop off).take n) := by
  intro C T a w hs
  obtain ⟨arr, t0, g1, g2⟩ := (hs.objs _ (mem_of_get hj)).1
  have hr := rels_take_drop g2 off n
  refine ⟨some A, sc, (arr.toList.drop off).take n, hs.evv hy, hr, hr.ones h1, fun i v hv => ?_⟩
  rw [List.getElem?_take] at hv
  split at hv
  · rename_i hi
    obtain rfl := hA (by omega)
    rw [List.getElem?_drop] at hv
    exact ⟨g, off, rfl, by rw [cell_of_row w g (off + i) arr t0 (0, 0) g1]; simpa using hv⟩
  · cases hv
theorem srcOk_sl {y : Operand} {sv : SV} {k sz : Nat} {l : List (List AV)} (hy : S.ev y = some sv) (hl : sv.av = .sl sz l) : SrcOk w0 C0 S y k l.length ((l.take k).flatten) := by
  intro C T a w hs
  have h := (hs.ev hy).av
  rw [hl] at h
  obtain ⟨A, cap, b, o, hv, hcap, hA, hR⟩ := rel_sl_inv h
  have hR' := Row.take hR k
  obtain ⟨vs, v1, v2, v3⟩ := hR'.vals
  refine ⟨A, cap, vs, hv, v1, fun v hv => ?_, fun j v hj => ?_⟩
  · obtain ⟨j, hj⟩ := List.getElem?_of_mem hv
    exact hs.one _ _ _ (v3 j v hj)
  · have hne : l ≠ [] := fun e => by subst e; simp at v1; have := v1.nil_inv; subst this; simp at hj
    exact ⟨b, o, hA hne, (hs.com _ _ _ (v3 j v hj)).cell⟩
theorem r_appendZ {x y : Operand} {k0 i c sz bytes : Nat} {q : IntKind} {k : Nat} {xs : List AV} {st e tn : TypeId} {zs : List Value} (hx : SrcOk w0 C0 S x k0 i xs) (hc : ∀ C T a w, SimC w0 C0 C T S a w → ∃ A, a.eval x = .slice A i c) (hl : xs.length = i * sz) (hy : S.ev y = some (.a (.v (.int q k)))) (hst : sliceT P st = some e) (hsz : szT P e = some sz) (hby : bytesT P e = some bytes) (hz : zeroT P e = some zs) (hzl : zs.length = sz) (hs0 : 0 < sz) (htn : P.underlying tn = some (.int q))
    (hk : 0 < k) (hroom : c < i + k) (hb : (i + k) * 2 * bytes ≤ 281474976710656) (hbig : i + k ≤ 1000000000) (ht : Nat.blt t S.nt = true)
    (hr : ∀ b cap (ext : List AV), i + k ≤ cap → (i * sz + ext.length) = cap * sz → AWL P w0 C0 ops rest Q (AState.put ⟨S.nt, S.slots, ⟨b, true, .box (xs ++ ext)⟩ :: S.objs⟩ t (.a (.v (.slice (some ⟨b, 0, none⟩) (i + k) cap))))) :
    AWL P w0 C0 ops (⟨some t, .call ⟨.builtin .append, #[x, y], #[st, tn]⟩, ty, pos, aft, none⟩ :: rest) Q S := by
  rintro a w ⟨C, T, hs⟩
  obtain ⟨sA, sc, vs, h1, h2, h3, h4⟩ := hx C T a w hs
  obtain ⟨A', hA'⟩ := hc C T a w hs
  rw [h1] at hA'; cases hA'
  obtain ⟨inf, hi, hi1, hi2, z, hiz, hzl'⟩ : ∃ inf, P.info? e = some inf ∧ inf.size = sz ∧ inf.bytes = bytes ∧ ∃ z, inf.zero = some z ∧ z.cells.size = sz := by
    unfold szT at hsz; unfold bytesT at hby; unfold zeroT at hz
    cases hi : P.info? e with
    | none => simp [hi] at hsz
    | some inf =>
      cases hiz : inf.zero with
      | none => simp [hi, hiz] at hz
      | some z => simp [hi] at hsz hby; simp [hi, hiz] at hz; exact ⟨inf, rfl, hsz, hby, z, hiz, by subst hz; simpa using hzl⟩
  have hold : (Builtin.firstCells inf.size i (.slice sA i c)).run P w.drew = .ok vs.toArray w.drew := by
    rw [hi1]
    cases hvs : vs with
    | nil =>
      have : i * sz = 0 := by rw [← hl, ← h2.1, hvs]; rfl
      have hi0 : i = 0 := by rcases Nat.mul_eq_zero.1 this with h | h; exact h; omega
      subst hi0
      cases sA <;> simp [Builtin.firstCells, loadCells, loadCellsFrom]
    | cons v0 vr =>
      obtain ⟨b, o, rfl, _⟩ := h4 0 v0 (by rw [hvs]; rfl)
      have := run_load_cells (P := P) (w := w.drew) (b := b) (o := o) (n := i * sz) (cs := vs) (by rw [h2.1, hl]) (fun j v hj => by obtain ⟨b', o', g1, g2⟩ := h4 j v hj; cases g1; exact g2)
      rw [← hvs]
      simpa [Builtin.firstCells] using this
  have hfit : Builtin.nextslicecap (i + k) c * inf.bytes ≤ 281474976710656 := by
    rw [hi2]
    exact Nat.le_trans (Nat.mul_le_mul_right _ (by have := nextslicecap_le hroom; omega)) hb
  have hkb : k * inf.bytes ≤ 281474976710656 := by
    rw [hi2]; exact Nat.le_trans (Nat.mul_le_mul_right _ (by omega)) hb
  have hrun := Lib.run_append_grow_zeros (P := P) w st tn ty e inf z q q (sliceT_un hst) htn hi hiz sA i c vs hold k hk (by rw [hi1]; exact hs0) hroom (by omega) hkb hfit
  have hcap : i + k ≤ grownCap w (i + k) c e := grownCap_ge _ _ _ _
  refine wpList_plain rfl (fun K hK => ?_)
  unfold Oper.wp
  have hexec : (execOp a.eval ⟨some t, .call ⟨.builtin .append, #[x, y], #[st, tn]⟩, ty, pos, aft, none⟩).run P w = .ok (.value (.slice (some ⟨w.heap.size, 0, none⟩) (i + k) (grownCap w (i + k) c e)))
      (w.drew.alloc (.cells (vs.toArray ++ Builtin.zeroCells z.cells k ++ Builtin.zeroCells z.cells (grownCap w (i + k) c e - (i + k))) e)) := by
    simp [execOp, resolve, invoke, builtin, h1, hs.evv hy, hrun]
  rw [hexec]
  have hsz2 : ∀ n, (Builtin.zeroCells z.cells n).size = n * sz := fun n => by rw [size_zeroCells, hzl']
  refine hK _ _ (hr w.heap.size (grownCap w (i + k) c e) ((Builtin.zeroCells z.cells k ++ Builtin.zeroCells z.cells (grownCap w (i + k) c e - (i + k))).toList.map AV.v) hcap ?_ _ _ ⟨C, T, ?_⟩)
  · rw [List.length_map, Array.length_toList, Array.size_append, hsz2, hsz2, ← Nat.add_mul, ← Nat.add_mul]; congr 1; omega
  · have hs' := hs.drew.newObj (.cells (vs.toArray ++ Builtin.zeroCells z.cells k ++ Builtin.zeroCells z.cells (grownCap w (i + k) c e - (i + k))) e)
      (o := .box (xs ++ (Builtin.zeroCells z.cells k ++ Builtin.zeroCells z.cells (grownCap w (i + k) c e - (i + k))).toList.map AV.v)) ⟨_, e, heap_alloc_at _ _, by rw [show ∀ a b : Array Value, (vs.toArray ++ a ++ b).toList = vs ++ (a ++ b).toList from fun a b => by simp]; exact h2.append (rels_vals _)⟩
    exact hs'.put ht (srel_v _)
theorem run_overlapsB (w : World) (tS tR e size : TypeId) (hst : sliceT P tS = some e) (hz : szT P e = some size) (a b : Addr) (la ca lb cb : Nat) (hne : a.block ≠ b.block) (tA : TypeId) (kA : Nat) (hsa : w.shape? a.block = some (tA, kA)) (hkA : kA ≠ 0) (hb : Plain w b.block) :
    (Extern.SlicesOverlaps.overlaps #[tS, tS] #[tR] #[.slice (some a) la ca, .slice (some b) lb cb]).run P w = .ok (.bool false) w := by
  obtain ⟨arr, tb, hbb⟩ := hb
  have hnb : (a.block != b.block) = true := by simpa using hne
  have hnb' : (a.block == b.block) = false := by simpa using hne
  have hsb : w.shape? b.block = some (tb, arr.size) := by simp [World.shape?, hbb]
  have hfb : ∀ o s, w.frozen? ⟨b.block, o, s⟩ = false := fun o s => by simp [World.frozen?, hbb]
  have hfb' : w.frozen? b = false := by have := hfb b.off b.spot; simpa using this
  change Sem.run P (α := Value) (do
    let some t := (#[tS, tS] : Array TypeId)[0]? | stuck "slices.overlaps: no parameter types"
    let .slice elem ← underlying t | stuck "slices.overlaps: slice type expected"
    let size ← sizeOf elem
    match (some a : Option Addr), (some b : Option Addr) with
    | some a, some b =>
      if la = 0 ∨ lb = 0 ∨ size = 0 then pure (Value.bool false)
      else if a.block != b.block && (← frozen a) && (← frozen b) then unsupported .addressObserved
      else do
        if a.block != b.block then do
          noView a; noView b
          if ← mayBeOne a b then return Value.bool ((← choose (.extern "sameAddr.stringBytes" 2)) == 1)
        pure (Value.bool (a.block == b.block && a.off < b.off + lb * size && b.off < a.off + la * size))
    | _, _ => pure (Value.bool false)) w = _
  by_cases h0 : la = 0 ∨ lb = 0 ∨ size = 0
  · simp [run_underlying (sliceT_un hst), run_sz hz, h0]
  · cases kA with
    | zero => exact absurd rfl hkA
    | succ kA =>
      cases hfa : w.frozen? a <;> cases hfa' : w.frozen? ⟨a.block, kA + 1, none⟩ <;>
      simp [run_underlying (sliceT_un hst), run_sz hz, h0, hnb, hnb', frozen, noView, viewAt, mayBeOne, stringish, shape, Sem.run, hsa, hsb, hfb, hfb', hfa, hfa']
def overlapsT (P : Program) (f tS tR : Nat) : Prop := ∀ (args : Array Value) (w : World), (callFunc f args).run P w = ((Extern.SlicesOverlaps.overlaps #[tS, tS] #[tR] args).run P w).andThen fun v w' => .ok (.value v) w'
theorem r_overlaps (i : Nat) {x y : Operand} {f tS tR e size g off lb cb : Nat} {sv : SV} {sz : Nat} {l : List (List AV)} {cs : List AV} {tys : Array TypeId} (hf : overlapsT P f tS tR) (hst : sliceT P tS = some e) (hz : szT P e = some size) (hx : S.ev x = some sv) (hl : sv.av = .sl sz l) (hl0 : l ≠ []) (hsz0 : 0 < sz)
    (hy : S.ev y = some (.a (.v (.slice (some ⟨g, off, none⟩) lb cb)))) (hi : S.objs[i]? = some ⟨g, true, .box cs⟩) (ht : Nat.blt t S.nt = true)
    (hr : AWL P w0 C0 ops rest Q (S.put t (.a (.v (.bool false))))) : AWL P w0 C0 ops (⟨some t, .call ⟨.value (.func f), #[x, y], tys⟩, ty, pos, aft, none⟩ :: rest) Q S :=
  awl_pure ht (fun C T a w hs => by
    have h := (hs.ev hx).av
    rw [hl] at h
    obtain ⟨A, cap, b, o, hv, hcap, hA, hR⟩ := rel_sl_inv h
    obtain rfl := hA hl0
    obtain ⟨cs0, hcs0⟩ := get_lt (l := l) (i := 0) (List.length_pos_iff.2 hl0)
    have hc0 := hR.1 cs0 (List.mem_of_getElem? hcs0)
    obtain ⟨c0, hcc⟩ := get_lt (l := cs0) (i := 0) (by omega)
    obtain ⟨u, hu, _⟩ := hR.2 0 cs0 0 c0 hcs0 hcc
    have hcell := (hs.com _ _ _ hu).cell
    obtain ⟨tA, kA, hsa, hkA⟩ : ∃ tA kA, w.shape? b = some (tA, kA) ∧ kA ≠ 0 := by
      cases hb : w.heap[b]? with
      | none => simp [World.cell?, hb] at hcell
      | some ob =>
        cases ob with
        | cells arr tA fz =>
          refine ⟨tA, arr.size, by simp [World.shape?, hb], fun h0 => ?_⟩
          have : arr = #[] := Array.eq_empty_of_size_eq_zero h0
          subst this
          simp [World.cell?, hb] at hcell
        | _ => simp [World.cell?, hb] at hcell
    obtain ⟨⟨arr, t0, g1, g2⟩, hnone, _⟩ := hs.objs _ (mem_of_get hi)
    have hne : b ≠ g := fun e => by subst e; have := hnone (o + 0 * sz + 0); simp only at this; rw [hu] at this; cases this
    have hrun := run_overlapsB (P := P) w tS tR e size hst hz ⟨b, o, none⟩ ⟨g, off, none⟩ l.length cap lb cb hne tA kA hsa hkA ⟨arr, t0, g1⟩
    refine ⟨.bool false, ?_, srel_v _⟩
    have hcall := hf #[a.eval x, a.eval y] w
    rw [hv, hs.evv hy, hrun] at hcall
    simp [execOp, resolve, invoke, hv, hs.evv hy, show a.eval (.func f) = .func (.func f) #[] #[] from rfl, Deferred.ofValue, hcall, Result.andThen]) hr
end Go.Proofs.Ytpkodkoooaldlaa.A
namespace Go.Proofs.Ytpkodkoooaldlaa.A
open Go Go.RowKit
set_option linter.unusedVariables false
set_option linter.unusedSimpArgs false
set_option linter.unusedSectionVars false
variable {P : Program} {w0 : Base} {C0 C : CS} {T : TS} {S S' : AState} {a : Act} {w : World} {ops : Array Oper} {rest : List Oper} {o : Oper} {Q : Exit → AState → Prop}
variable {t : Nat} {ty ty' : TypeId} {pos : String} {aft : Array Edge}
theorem objs_same {i : Nat} {ob : OE} (hi : S.objs[i]? = some ob) : S.objs.set i ob = S.objs := by
  apply List.ext_getElem?
  intro j
  rw [List.getElem?_set]
  by_cases hij : i = j
  · subst hij; rw [if_pos rfl]; split
    · exact hi.symm
    · rename_i h; rw [List.getElem?_eq_none (by omega)]
  · simp [hij]
theorem srcOk_empty {y : Operand} {A : Option Addr} {c k : Nat} (hy : S.ev y = some (.a (.v (.slice A 0 c)))) : SrcOk w0 C0 S y k 0 [] :=
  fun C T a w hs => ⟨A, c, [], hs.evv hy, Rels.nil, by simp, by simp⟩
theorem SrcOk.src {st e sz m : Nat} {y : Operand} {xs : List AV} (hy : SrcOk w0 C0 S y m m xs) (hst : sliceT P st = some e) (hs0 : 0 < sz) (hl : xs.length = m * sz) (hs : SimC w0 C0 C T S a w) :
    ∃ sA sc vs, a.eval y = .slice sA m sc ∧ Rels C xs vs ∧ (∀ v ∈ vs, v.oneCell' = true) ∧ Src P sz st (.slice sA m sc) m vs w := by
  obtain ⟨sA, sc, vs, h1, h2, h3, h4⟩ := hy C T a w hs
  refine ⟨sA, sc, vs, h1, h2, h3, ?_⟩
  have hvl : vs.length = m * sz := h2.1.trans hl
  cases sA with
  | some A =>
    refine Src.ofSlice w (sliceT_un hst) A m sc vs hvl (fun j v hj => ?_) h3
    obtain ⟨b, o, g1, g2⟩ := h4 j v hj
    cases g1
    rw [addr_add]; exact g2
  | none =>
    have hv : vs = [] := by
      cases vs with
      | nil => rfl
      | cons v r => obtain ⟨b, o, g1, _⟩ := h4 0 v rfl; cases g1
    subst hv
    have hm : m = 0 := by
      rcases Nat.mul_eq_zero.1 hvl.symm with h | h
      · exact h
      · omega
    subst hm
    exact Src.ofNil w (sliceT_un hst) sc
theorem SrcOk.first {sz i c k0 : Nat} {x : Operand} {xs : List AV} (hx : SrcOk w0 C0 S x k0 i xs) (hs0 : 0 < sz) (hl : xs.length = i * sz) (hc : ∀ C T a w, SimC w0 C0 C T S a w → ∃ A, a.eval x = .slice A i c) (hs : SimC w0 C0 C T S a w) :
    ∃ sA vs, a.eval x = .slice sA i c ∧ Rels C xs vs ∧ (Builtin.firstCells sz i (.slice sA i c)).run P w.drew = .ok vs.toArray w.drew := by
  obtain ⟨sA, sc, vs, h1, h2, h3, h4⟩ := hx C T a w hs
  obtain ⟨A', hA'⟩ := hc C T a w hs
  rw [h1] at hA'; cases hA'
  refine ⟨sA, vs, h1, h2, ?_⟩
  cases hvs : vs with
  | nil =>
    have : i * sz = 0 := by rw [← hl, ← h2.1, hvs]; rfl
    have hi0 : i = 0 := by rcases Nat.mul_eq_zero.1 this with h | h; exact h; omega
    subst hi0
    cases sA <;> simp [Builtin.firstCells, loadCells, loadCellsFrom]
  | cons v0 vr =>
    obtain ⟨b, o, rfl, _⟩ := h4 0 v0 (by rw [hvs]; rfl)
    have := run_load_cells (P := P) (w := w.drew) (b := b) (o := o) (n := i * sz) (cs := vs) (by rw [h2.1, hl]) (fun j v hj => by obtain ⟨b', o', g1, g2⟩ := h4 j v hj; cases g1; exact g2)
    rw [← hvs]
    simpa [Builtin.firstCells] using this
theorem r_appendR (i : Nat) {x y : Operand} {g n m cap sz : Nat} {cs xs : List AV} {st e : TypeId} (hx : S.ev x = some (.a (.v (.slice (some ⟨g, 0, none⟩) n cap)))) (hy : SrcOk w0 C0 S y m m xs) (hl : xs.length = m * sz) (hi : S.objs[i]? = some ⟨g, true, .box cs⟩)
    (hst : sliceT P st = some e) (hsz : szT P e = some sz) (hs0 : 0 < sz) (hroom : n + m ≤ cap) (hfit : (n + m) * sz ≤ cs.length) (ht : Nat.blt t S.nt = true)
    (hr : AWL P w0 C0 ops rest Q (AState.put ⟨S.nt, S.slots, S.objs.set i ⟨g, true, .box (cs.take (n * sz) ++ xs ++ cs.drop (n * sz + xs.length))⟩⟩ t (.a (.v (.slice (some ⟨g, 0, none⟩) (n + m) cap))))) :
    AWL P w0 C0 ops (⟨some t, .call ⟨.builtin .append, #[x, y], #[st, st]⟩, ty, pos, aft, none⟩ :: rest) Q S := by
  rintro a w ⟨C, T, hs⟩
  obtain ⟨arr, t0, g1, g2⟩ := (hs.objs _ (mem_of_get hi)).1
  have harr := box_get g2
  obtain ⟨sA, sc, vs, h1, h2, h3, h4⟩ := hy C T a w hs
  have hvl : vs.length = m * sz := h2.1.trans hl
  have hexec : ∀ (v : Value) (w' : World), (Builtin.append_ #[st, st] ty #[a.eval x, a.eval y]).run P w = .ok v w' → (execOp a.eval ⟨some t, .call ⟨.builtin .append, #[x, y], #[st, st]⟩, ty, pos, aft, none⟩).run P w = .ok (.value v) w' := by
    intro v w' h
    simp [execOp, resolve, invoke, builtin, h]
  rw [hs.evv hx, h1] at hexec
  refine wpList_plain rfl (fun K hK => ?_)
  unfold Oper.wp
  by_cases hm : m = 0
  · subst hm
    have hx0 : xs = [] := List.eq_nil_of_length_eq_zero (by simpa using hl)
    subst hx0
    have hrun := run_append_zero (P := P) (w := w) (ty := ty) hst hsz (some ⟨g, 0, none⟩) sA n cap sc (by omega)
    rw [hexec _ _ hrun]
    have he : cs.take (n * sz) ++ [] ++ cs.drop (n * sz + ([] : List AV).length) = cs := by simp
    rw [he, objs_same hi] at hr
    exact hK _ _ (hr _ _ ⟨C, T, hs.put ht (srel_v _)⟩)
  · have hpos : 0 < vs.length := by rw [hvl]; exact Nat.mul_pos (by omega) hs0
    obtain ⟨b, o, rfl, _⟩ := h4 0 vs[0] (List.getElem?_eq_getElem hpos)
    have hfit' : n * sz + vs.length ≤ arr.size := by rw [harr, hvl, ← Nat.add_mul]; exact hfit
    have hrun := run_append_room' (P := P) (w := w) (ty := ty) hst hsz t0 g n cap arr g1 ⟨b, o, none⟩ m sc vs hvl (fun j v hj => by obtain ⟨b', o', q1, q2⟩ := h4 j v hj; cases q1; rw [addr_add]; exact q2) h3 hroom hfit'
    rw [hexec _ _ hrun]
    refine hK _ _ (hr _ _ ⟨C, T, SimC.put ?_ ht (srel_v _)⟩)
    have r1 := rels_take_drop g2 0 (n * sz)
    have r2 := rels_take_drop g2 (n * sz + vs.length) cs.length
    simp only [List.drop_zero] at r1
    rw [List.take_of_length_le (by simp), List.take_of_length_le (by simp; omega)] at r2
    exact hs.setObj hi (w' := w.setRow g (arr.toList.take (n * sz) ++ vs ++ arr.toList.drop (n * sz + vs.length)).toArray) (Nat.le_refl _) rfl rfl rfl (by simp) (fun k hk => setRow_other w g k _ hk) ⟨_, t0, setRow_heap w g arr _ t0 _ g1, by rw [← h2.1]; simpa using (r1.append h2).append r2⟩
theorem r_appendG {x y : Operand} {k0 n c m sz bytes : Nat} {xs ys : List AV} {st e : TypeId} (hx : SrcOk w0 C0 S x k0 n xs) (hc : ∀ C T a w, SimC w0 C0 C T S a w → ∃ A, a.eval x = .slice A n c) (hlx : xs.length = n * sz) (hy : SrcOk w0 C0 S y m m ys) (hl : ys.length = m * sz)
    (hst : sliceT P st = some e) (hsz : szT P e = some sz) (hby : bytesT P e = some bytes) (hz : (zeroT P e).map (·.length) = some sz) (hs0 : 0 < sz) (hroom : c < n + m) (hb : (n + m) * 2 * bytes ≤ 281474976710656) (hbig : n + m ≤ 1000000000) (ht : Nat.blt t S.nt = true)
    (hr : ∀ b cap (ext : List AV), n + m ≤ cap → (n + m) * sz + ext.length = cap * sz → AWL P w0 C0 ops rest Q (AState.put ⟨S.nt, S.slots, ⟨b, true, .box (xs ++ ys ++ ext)⟩ :: S.objs⟩ t (.a (.v (.slice (some ⟨b, 0, none⟩) (n + m) cap))))) :
    AWL P w0 C0 ops (⟨some t, .call ⟨.builtin .append, #[x, y], #[st, st]⟩, ty, pos, aft, none⟩ :: rest) Q S := by
  rintro a w ⟨C, T, hs⟩
  obtain ⟨inf, hi, hi1, hi2, z, hiz, hzl⟩ := append_facts hsz hby hz
  obtain ⟨sA, vs, h1, h2, hold⟩ := hx.first (P := P) hs0 hlx hc hs
  obtain ⟨sB, sc, us, k1, k2, k3, k4⟩ := hy.src (P := P) hst hs0 hl hs
  have hfit : Builtin.nextslicecap (n + m) c * inf.bytes ≤ 281474976710656 := by
    rw [hi2]
    exact Nat.le_trans (Nat.mul_le_mul_right _ (by have := nextslicecap_le hroom; omega)) hb
  have hrun := run_append_grow_src (P := P) w st st ty e inf z (sliceT_un hst) hi hiz sA n c vs (by rw [hi1]; exact hold) (.slice sB m sc) m us (by rw [hi1]; exact k4) hroom (by omega) hfit
  have hcap : n + m ≤ grownCap w (n + m) c e := grownCap_ge _ _ _ _
  refine wpList_plain rfl (fun K hK => ?_)
  unfold Oper.wp
  have hexec : (execOp a.eval ⟨some t, .call ⟨.builtin .append, #[x, y], #[st, st]⟩, ty, pos, aft, none⟩).run P w = .ok (.value (.slice (some ⟨w.heap.size, 0, none⟩) (n + m) (grownCap w (n + m) c e)))
      (w.drew.alloc (.cells ((vs ++ us).toArray ++ Builtin.zeroCells z.cells (grownCap w (n + m) c e - (n + m))) e)) := by
    simp [execOp, resolve, invoke, builtin, h1, k1, hrun]
  rw [hexec]
  refine hK _ _ (hr w.heap.size (grownCap w (n + m) c e) ((Builtin.zeroCells z.cells (grownCap w (n + m) c e - (n + m))).toList.map AV.v) hcap ?_ _ _ ⟨C, T, ?_⟩)
  · rw [List.length_map, Array.length_toList, size_zeroCells, hzl, ← Nat.add_mul]; congr 1; omega
  · have hs' := hs.drew.newObj (.cells ((vs ++ us).toArray ++ Builtin.zeroCells z.cells (grownCap w (n + m) c e - (n + m))) e)
      (o := .box (xs ++ ys ++ (Builtin.zeroCells z.cells (grownCap w (n + m) c e - (n + m))).toList.map AV.v)) ⟨_, e, heap_alloc_at _ _, by rw [Array.toList_append]; exact (h2.append k2).append (rels_vals _)⟩
    exact hs'.put ht (srel_v _)
theorem r_lit0 {bt e : TypeId} {sz : Nat} (hst : sliceT P bt = some e) (hsz : szT P e = some (sz + 1)) (ht : Nat.blt t S.nt = true)
    (hr : ∀ b, AWL P w0 C0 ops rest Q (AState.put ⟨S.nt, S.slots, ⟨b, true, .box []⟩ :: S.objs⟩ t (.a (.v (.slice (some ⟨b, 0, none⟩) 0 0))))) : AWL P w0 C0 ops (⟨some t, .buildSlice bt 0 #[], ty, pos, aft, none⟩ :: rest) Q S := by
  rintro a w ⟨C, T, hs⟩
  have hrun : (Instr.buildSlice bt 0 #[]).run P w = .ok (.slice (some ⟨w.heap.size, 0, none⟩) 0 0) (w.alloc (.cells #[] e)) := by
    have h2' : Instr.fill (fun i => some (i * (sz + 1), sz + 1)) #[] [] = some #[] := rfl
    simp [Instr.buildSlice, run_underlying (sliceT_un hst), run_sz hsz, show Array.range 0 = #[] from rfl, h2', newRow]
  refine wpList_plain rfl (fun K hK => ?_)
  unfold Oper.wp
  have hexec : (execOp a.eval ⟨some t, .buildSlice bt 0 #[], ty, pos, aft, none⟩).run P w = .ok (.value (.slice (some ⟨w.heap.size, 0, none⟩) 0 0)) (w.alloc (.cells #[] e)) := by
    simp [execOp, hrun]
  rw [hexec]
  have hs' := hs.newObj (.cells #[] e) (o := .box []) ⟨#[], e, heap_alloc_at _ _, Rels.nil⟩
  exact hK _ _ (hr w.heap.size _ _ ⟨C, T, hs'.put ht (srel_v _)⟩)
theorem r_slice3 {xt e sz : Nat} {x : Operand} {sv : SV} {l : List (List AV)} {y z : Operand} {k k' : IntKind} {hi mx : Int} (hx : S.ev x = some sv) (hl : sv.av = .sl sz l) (hy : S.ev y = some (.a (.v (.int k hi)))) (hz : S.ev z = some (.a (.v (.int k' mx)))) (hst : sliceT P xt = some e) (hsz : szT P e = some sz)
    (h0 : 0 ≤ hi) (h1 : hi ≤ mx) (h2 : mx ≤ l.length) (ht : Nat.blt t S.nt = true) (hr : AWL P w0 C0 ops rest Q (S.put t (.a (.sl sz (l.take hi.toNat))))) : AWL P w0 C0 ops (⟨some t, .slice xt x none (some y) (some z), ty, pos, aft, none⟩ :: rest) Q S :=
  awl_pure ht (fun C T a w hs => by
    have h := (hs.ev hx).av
    rw [hl] at h
    obtain ⟨A, cap, b, o, hv, hcap, hA, hR⟩ := rel_sl_inv h
    obtain ⟨hu, he⟩ := sliceT_el hst
    refine ⟨sliced A 0 hi.toNat mx.toNat sz, ?_, show Rel C _ _ from ?_⟩
    · simp [execOp, hv, hs.evv hy, hs.evv hz, run_sliceAt_slice w xt _ _ _ _ hu, run_slice_hm w xt A l.length cap hu k k' hi mx h0 h1 (by omega), he, run_sz hsz]
    · have := rel_part (l := l.take mx.toNat) (cap := mx.toNat) (lo := 0) (hi := hi.toNat) (A := A) (b := b) (o := o) (by simp; omega) (fun hne => hA (fun e => hne (by rw [e]; simp))) (hR.take _) (by omega) (by simp; omega)
      rw [List.drop_zero, List.take_take, Nat.min_eq_left (by omega)] at this
      exact this) hr
theorem imp_commitS (i t : Nat) {g n cap sz : Nat} {l : List (List AV)} {cs ext : List AV} (ht : S.get t = some (.a (.v (.slice (some ⟨g, 0, none⟩) n cap)))) (hi : S.objs[i]? = some ⟨g, true, .box cs⟩) (hcs : cs = l.flatten ++ ext) (hn : n = l.length) (hcap : n ≤ cap) (hz : ∀ c, c ∈ l → c.length = sz) (hsz : cs.length = cap * sz) (h1 : l.flatten.all AV.one = true) :
    Imp w0 C0 S (AState.put ⟨S.nt, S.slots, S.objs.eraseIdx i⟩ t (.a (.sl sz l))) := by
  rintro a w ⟨C, T, hs⟩
  subst hcs hn
  obtain ⟨arr, t0, g1, g2⟩ := (hs.objs _ (mem_of_get hi)).1
  have harr := box_get g2
  have hlen := flat_len hz
  have hs' : SimC w0 C0 C T ⟨S.nt, S.slots, S.objs.set i ⟨g, true, .buf sz l cap t0⟩⟩ a w := by
    refine hs.setObj hi (w' := w) (Nat.le_refl _) rfl rfl rfl rfl (fun _ _ => rfl) ⟨arr, g1, by rw [harr, hsz], hcap, hz, arr.toList.take (l.length * sz), ?_, ?_, rfl⟩
    · have := rels_take_drop g2 0 (l.length * sz)
      rw [List.drop_zero, List.drop_zero, ← hlen, List.take_left] at this
      rw [← hlen]; exact this
    · have := rels_take_drop g2 0 (l.length * sz)
      rw [List.drop_zero, List.drop_zero, ← hlen, List.take_left] at this
      rw [← hlen]; exact this.ones h1
  have hlt : i < S.objs.length := (List.getElem?_eq_some_iff.1 hi).1
  have := imp_commitB (w0 := w0) (C0 := C0) (S := ⟨S.nt, S.slots, S.objs.set i ⟨g, true, .buf sz l cap t0⟩⟩) i t (sz := sz) (e := t0) (cap := cap) (l := l) ht rfl (by show (S.objs.set i _)[i]? = _; rw [List.getElem?_set]; simp [hlt]) a w ⟨C, T, hs'⟩
  simp only [List.eraseIdx_set_eq] at this
  exact this
theorem srcOk_all {y : Operand} {sv : SV} {k sz : Nat} {l : List (List AV)} (hy : S.ev y = some sv) (hl : sv.av = .sl sz l) : SrcOk w0 C0 S y k l.length l.flatten := by
  have := srcOk_sl (w0 := w0) (C0 := C0) (S := S) (k := l.length) hy hl
  rw [List.take_of_length_le (Nat.le_refl _)] at this
  exact this
theorem srcOk_boxP (j : Nat) (off n : Nat) {y : Operand} {A : Addr} {k sn sc g : Nat} {rw' : Bool} {cs xs : List AV} (hy : S.ev y = some (.a (.v (.slice (some A) sn sc)))) (hA : 0 < n → A = ⟨g, off, none⟩) (hj : S.objs[j]? = some ⟨g, rw', .box cs⟩) (hxs : (cs.drop off).take n = xs) (h1 : xs.all AV.one = true) (hfit : off + n ≤ cs.length) :
    SrcOk w0 C0 S y k sn xs := by
  subst hxs
  exact srcOk_box j hy hA hj (fun h => by subst h; rfl) h1 hfit
theorem r_copyE (i k : Nat) (cs' : List AV) {x y : Operand} {A : Addr} {m c sn g off sz : Nat} {cs xs : List AV} {st e : TypeId} (hx : S.ev x = some (.a (.v (.slice (some A) m c)))) (hk : min sn m = k) (hk0 : 0 < k) (hy : SrcOk w0 C0 S y k sn xs) (hA : A = ⟨g, off, none⟩) (hi : S.objs[i]? = some ⟨g, true, .box cs⟩)
    (hst : sliceT P st = some e) (hsz : szT P e = some sz) (hz : 0 < sz) (hl : xs.length = k * sz) (hfit : off + k * sz ≤ cs.length) (he : cs.take off ++ xs ++ cs.drop (off + k * sz) = cs') (ht : Nat.blt t S.nt = true)
    (hr : AWL P w0 C0 ops rest Q (AState.put ⟨S.nt, S.slots, S.objs.set i ⟨g, true, .box cs'⟩⟩ t (.a (.v (.int .i64 (k : Nat)))))) :
    AWL P w0 C0 ops (⟨some t, .call ⟨.builtin .copy, #[x, y], #[st, st]⟩, ty, pos, aft, none⟩ :: rest) Q S := by
  subst hk he
  refine r_copyV i hx hy (fun _ => hA) hi hst hsz hz hl hfit ht ?_
  rw [if_pos hk0, hl]
  exact hr
theorem r_appendE (i : Nat) (cs' : List AV) {x y : Operand} {g n m cap sz : Nat} {cs xs : List AV} {st e : TypeId} (hx : S.ev x = some (.a (.v (.slice (some ⟨g, 0, none⟩) n cap)))) (hy : SrcOk w0 C0 S y m m xs) (hl : xs.length = m * sz) (hi : S.objs[i]? = some ⟨g, true, .box cs⟩)
    (hst : sliceT P st = some e) (hsz : szT P e = some sz) (hs0 : 0 < sz) (hroom : n + m ≤ cap) (hfit : (n + m) * sz ≤ cs.length) (he : cs.take (n * sz) ++ xs ++ cs.drop (n * sz + m * sz) = cs') (ht : Nat.blt t S.nt = true)
    (hr : AWL P w0 C0 ops rest Q (AState.put ⟨S.nt, S.slots, S.objs.set i ⟨g, true, .box cs'⟩⟩ t (.a (.v (.slice (some ⟨g, 0, none⟩) (n + m) cap))))) :
    AWL P w0 C0 ops (⟨some t, .call ⟨.builtin .append, #[x, y], #[st, st]⟩, ty, pos, aft, none⟩ :: rest) Q S := by
  subst he
  refine r_appendR i hx hy hl hi hst hsz hs0 hroom hfit ht ?_
  rw [hl]; exact hr
theorem flat_take {sz : Nat} : ∀ {l : List (List AV)} (hz : ∀ c, c ∈ l → c.length = sz) (i : Nat), l.flatten.take (i * sz) = (l.take i).flatten
  | [], _, i => by simp
  | c :: l, hz, 0 => by simp
  | c :: l, hz, i + 1 => by
    have hc := hz c List.mem_cons_self
    rw [List.take_succ_cons, List.flatten_cons, List.flatten_cons, Nat.add_mul, Nat.one_mul, Nat.add_comm, ← hc, List.take_length_add_append, hc, flat_take (fun c h => hz c (List.mem_cons_of_mem _ h)) i]
theorem flat_dropR {sz : Nat} : ∀ {l : List (List AV)} (hz : ∀ c, c ∈ l → c.length = sz) (i : Nat), l.flatten.drop (i * sz) = (l.drop i).flatten
  | [], _, i => by simp
  | c :: l, hz, 0 => by simp
  | c :: l, hz, i + 1 => by
    have hc := hz c List.mem_cons_self
    rw [List.drop_succ_cons, List.flatten_cons, Nat.add_mul, Nat.one_mul, Nat.add_comm, ← hc, List.drop_length_add_append, hc, flat_dropR (fun c h => hz c (List.mem_cons_of_mem _ h)) i]
theorem r_sliceNH {st e : TypeId} {sz : Nat} {x y : Operand} {k : IntKind} (hx : S.ev x = some (.a (.v (.slice none 0 0)))) (hy : S.ev y = some (.a (.v (.int k 0)))) (hst : sliceT P st = some e) (hsz : szT P e = some sz) (ht : Nat.blt t S.nt = true)
    (hr : AWL P w0 C0 ops rest Q (S.put t (.a (.v (.slice none 0 0))))) : AWL P w0 C0 ops (⟨some t, .slice st x none (some y) none, ty, pos, aft, none⟩ :: rest) Q S :=
  awl_pure ht (fun C T a w hs => by
    obtain ⟨hu, he⟩ := sliceT_el hst
    have hrun := (run_sliceAt_slice w st (.slice none 0 0) _ _ _ hu).trans (run_slice_h w st none 0 0 hu k 0 (by omega) (by omega))
    rw [he, run_sz hsz] at hrun
    simp only [Result.andThen] at hrun
    have hv : sliced none 0 (Int.toNat 0) 0 sz = .slice none 0 0 := by unfold sliced; simp
    rw [hv] at hrun
    exact ⟨.slice none 0 0, by simp [execOp, hs.evv hx, hs.evv hy, hrun], srel_v _⟩) hr
theorem len_take {sz : Nat} {l : List (List AV)} (hz : ∀ c, c ∈ l → c.length = sz) (i : Nat) (hi : i ≤ l.length) : (l.take i).flatten.length = i * sz := by
  rw [flat_len (fun c h => hz c (List.mem_of_mem_take h)), List.length_take, Nat.min_eq_left hi]
theorem len_dropR {sz : Nat} {l : List (List AV)} (hz : ∀ c, c ∈ l → c.length = sz) (i : Nat) : (l.drop i).flatten.length = (l.length - i) * sz := by
  rw [flat_len (fun c h => hz c (List.mem_of_mem_drop h)), List.length_drop]
theorem ins_same {sz : Nat} {l : List (List AV)} {x e : List AV} {i : Nat} (hz : ∀ c, c ∈ l → c.length = sz) (hx : x.length = sz) (hi : i ≤ l.length) (he : sz ≤ e.length) :
    ((l.flatten ++ e).take (0 + (i + 1) * sz) ++ (l.drop i).flatten ++ (l.flatten ++ e).drop (0 + (i + 1) * sz + (l.length - i) * sz)).take (0 + i * sz) ++ [x].flatten ++ ((l.flatten ++ e).take (0 + (i + 1) * sz) ++ (l.drop i).flatten ++ (l.flatten ++ e).drop (0 + (i + 1) * sz + (l.length - i) * sz)).drop (0 + i * sz + 1 * sz)
      = (l.take i ++ x :: l.drop i).flatten ++ e.drop sz := by
  have hL := flat_len hz
  have hm : i * sz ≤ l.length * sz := Nat.mul_le_mul_right _ hi
  have hs : (i + 1) * sz = i * sz + sz := by rw [Nat.add_mul, Nat.one_mul]
  have hd : i * sz + (l.length - i) * sz = l.length * sz := by rw [← Nat.add_mul]; congr 1; omega
  have hlt : ((l.flatten ++ e).take (0 + (i + 1) * sz)).length = i * sz + sz := by rw [List.length_take, List.length_append, hL]; omega
  have h1 : ((l.flatten ++ e).take (0 + (i + 1) * sz) ++ (l.drop i).flatten ++ (l.flatten ++ e).drop (0 + (i + 1) * sz + (l.length - i) * sz)).take (0 + i * sz) = (l.take i).flatten := by
    rw [List.append_assoc, List.take_append_of_le_length (by rw [hlt]; omega), List.take_take, Nat.min_eq_left (by omega), Nat.zero_add, List.take_append_of_le_length (by rw [hL]; exact hm), flat_take hz]
  have h2 : ((l.flatten ++ e).take (0 + (i + 1) * sz) ++ (l.drop i).flatten ++ (l.flatten ++ e).drop (0 + (i + 1) * sz + (l.length - i) * sz)).drop (0 + i * sz + 1 * sz) = (l.drop i).flatten ++ e.drop sz := by
    rw [List.append_assoc, List.drop_left' (by rw [hlt]; omega), show 0 + (i + 1) * sz + (l.length - i) * sz = l.flatten.length + sz by rw [hL]; omega, List.drop_length_add_append]
  rw [h1, h2]
  simp
theorem ins_new {sz : Nat} {l : List (List AV)} {x r : List AV} {i : Nat} (hz : ∀ c, c ∈ l → c.length = sz) (hx : x.length = sz) (hi : i ≤ l.length) (hr : sz + (l.length - i) * sz ≤ r.length) :
    (((l.take i).flatten ++ r).take (0 + i * sz) ++ [x].flatten ++ ((l.take i).flatten ++ r).drop (0 + i * sz + 1 * sz)).take (0 + (i + 1) * sz) ++ (l.drop i).flatten ++ (((l.take i).flatten ++ r).take (0 + i * sz) ++ [x].flatten ++ ((l.take i).flatten ++ r).drop (0 + i * sz + 1 * sz)).drop (0 + (i + 1) * sz + (l.length - i) * sz)
      = (l.take i ++ x :: l.drop i).flatten ++ r.drop (sz + (l.length - i) * sz) := by
  have hA := len_take hz i hi
  have hs : (i + 1) * sz = i * sz + sz := by rw [Nat.add_mul, Nat.one_mul]
  have e1 : ((l.take i).flatten ++ r).take (0 + i * sz) = (l.take i).flatten := by rw [Nat.zero_add, ← hA, List.take_left]
  have e2 : ((l.take i).flatten ++ r).drop (0 + i * sz + 1 * sz) = r.drop sz := by rw [Nat.zero_add, Nat.one_mul, ← hA, List.drop_length_add_append]
  rw [e1, e2, show [x].flatten = x by simp]
  have hB : ((l.take i).flatten ++ x).length = 0 + (i + 1) * sz := by rw [List.length_append, hA, hx]; omega
  rw [show ((l.take i).flatten ++ x ++ r.drop sz).take (0 + (i + 1) * sz) = (l.take i).flatten ++ x by rw [← hB, List.take_left], show ((l.take i).flatten ++ x ++ r.drop sz).drop (0 + (i + 1) * sz + (l.length - i) * sz) = r.drop (sz + (l.length - i) * sz) by rw [← hB, List.drop_length_add_append, List.drop_drop]]
  simp
theorem part_row {sz : Nat} {l : List (List AV)} {e : List AV} (hz : ∀ c, c ∈ l → c.length = sz) (i : Nat) : ((l.flatten ++ e).drop (i * sz)).take ((l.length - i) * sz) = (l.drop i).flatten := by
  by_cases hi : i ≤ l.length
  · rw [List.drop_append_of_le_length (by rw [flat_len hz]; exact Nat.mul_le_mul_right _ hi), flat_dropR hz, ← len_dropR hz, List.take_left]
  · rw [show l.length - i = 0 by omega, List.drop_of_length_le (l := l) (by omega)]; simp
theorem part_rowT {sz : Nat} {l : List (List AV)} {e : List AV} (hz : ∀ c, c ∈ l → c.length = sz) {i : Nat} (hi : i ≤ l.length) : ((l.flatten ++ e).drop 0).take (i * sz) = (l.take i).flatten := by
  rw [List.drop_zero, List.take_append_of_le_length (by rw [flat_len hz]; exact Nat.mul_le_mul_right _ hi), flat_take hz]
theorem one_take {l : List (List AV)} (h : l.flatten.all AV.one = true) (i : Nat) : (l.take i).flatten.all AV.one = true := by
  rw [List.all_eq_true] at h ⊢
  intro x hx
  obtain ⟨c, hc, hxc⟩ := List.mem_flatten.1 hx
  exact h x (List.mem_flatten.2 ⟨c, List.mem_of_mem_take hc, hxc⟩)
theorem one_drop {l : List (List AV)} (h : l.flatten.all AV.one = true) (i : Nat) : (l.drop i).flatten.all AV.one = true := by
  rw [List.all_eq_true] at h ⊢
  intro x hx
  obtain ⟨c, hc, hxc⟩ := List.mem_flatten.1 hx
  exact h x (List.mem_flatten.2 ⟨c, List.mem_of_mem_drop hc, hxc⟩)
theorem one_ins {l : List (List AV)} {x : List AV} (h : l.flatten.all AV.one = true) (hx : x.all AV.one = true) (i : Nat) : (l.take i ++ x :: l.drop i).flatten.all AV.one = true := by
  have h1 := one_take h i
  have h2 := one_drop h i
  simp only [List.flatten_append, List.flatten_cons, List.all_append, h1, h2, hx, Bool.and_self]
theorem mem_ins {sz : Nat} {l : List (List AV)} {x : List AV} (hz : ∀ c, c ∈ l → c.length = sz) (hx : x.length = sz) (i : Nat) : ∀ c, c ∈ l.take i ++ x :: l.drop i → c.length = sz := fun c h => by
  rcases List.mem_append.1 h with h | h
  · exact hz c (List.mem_of_mem_take h)
  · rcases List.mem_cons.1 h with rfl | h
    · exact hx
    · exact hz c (List.mem_of_mem_drop h)
end Go.Proofs.Ytpkodkoooaldlaa.A
namespace Go.Proofs.Ytpkodkoooaldlaa.A
open Go Go.RowKit
set_option linter.unusedVariables false
set_option linter.unusedSimpArgs false
set_option maxRecDepth 100000
theorem TF.by73 : bytesT Try.prog 73 = some 32 := by kernel_rfl
theorem TF.zlen73 : (zeroT Try.prog 73).map (·.length) = some 4 := by kernel_rfl
theorem TF.zraw73 : zeroT Try.prog 73 = some [(.int .i64 0), (.int .i64 0), (.int .i64 0), (.int .u64 0)] := by kernel_rfl
theorem TF.un3 : Try.prog.underlying 3 = some (.int .i64) := by kernel_rfl
theorem TF.sl113 : sliceT Try.prog 113 = some 31 := by kernel_rfl
theorem TF.by31 : bytesT Try.prog 31 = some 8 := by kernel_rfl
theorem TF.zlen31 : (zeroT Try.prog 31).map (·.length) = some 1 := by kernel_rfl
theorem TF.zraw31 : zeroT Try.prog 31 = some [(.int .u64 0)] := by kernel_rfl
theorem TF.sz100 : szT Try.prog 100 = some 1 := by kernel_rfl
theorem TF.by100 : bytesT Try.prog 100 = some 8 := by kernel_rfl
theorem TF.zraw100 : zeroT Try.prog 100 = some [(.pointer none)] := by kernel_rfl
theorem TF.sl151 : sliceT Try.prog 151 = some 107 := by kernel_rfl
theorem TF.en72 : entersT Try.prog 72 := enters_of Try.func72 (by kernel_rfl) (by kernel_rfl)
theorem sum_take (ls : List (List (List AV))) (k : Nat) : (ls.take k).flatten.length ≤ ls.flatten.length := by
  have := congrArg (fun l => (List.flatten l).length) (List.take_append_drop k ls)
  simp only [List.flatten_append, List.length_append] at this
  omega
theorem flat_succ {α : Type} {ls : List (List α)} {k : Nat} {x : List α} (h : ls[k]? = some x) : (ls.take (k + 1)).flatten = (ls.take k).flatten ++ x := by
  rw [List.take_add_one, h]; simp
theorem cloneS_ok (l : List (List AV)) (hz : ∀ c, c ∈ l → c.length = 4) (h1 : l.flatten.all AV.one = true) (h0 : l ≠ []) (hl : l.length ≤ 1000000) : AC Try.prog 66 [.sl 4 l] [] (fun r n => ∃ g cap ext, r = .v (.slice (some ⟨g, 0, none⟩) (l.length) (cap)) ∧ n = [⟨g, true, .box (l.flatten ++ ext)⟩] ∧ l.length ≤ cap ∧ (l.flatten ++ ext).length = cap * 4) := by
 refine ac_of_awp (rs := [2]) (nt := 8) Try.func66 rfl rfl rfl rfl (fun w0 C0 hq => ?_)
 refine awp_seq ?_
 refine awp_region ?_
 refine r_assign rfl rfl ?_
 refine awl_nil ?_
 refine x_then ?_
 refine awp_seq ?_
 refine awp_seq ?_
 refine awp_region ?_
 refine r_move rfl rfl ?_
 refine r_slnil rfl rfl TF.sl112 rfl (fun b4 hb4 => ?_)
 refine awl_nil ?_
 refine x_then ?_
 refine awp_cond rfl (fun hc0 => ?_) (fun hc0 => ?_)
 ·
  exfalso; exact absurd (hb4 hc0) h0
 ·
  refine awp_skip ?_
  refine x_then ?_
  refine awp_seq ?_
  refine awp_region ?_
  refine r_lit0 TF.sl112 TF.sz73 rfl (fun b5 => ?_)
  refine r_move rfl rfl ?_
  refine r_appendG (srcOk_empty (k := 0) rfl) (fun C T a w hs => ⟨_, hs.evv rfl⟩) rfl (srcOk_all rfl rfl) (flat_len hz) TF.sl112 TF.sz73 TF.by73 TF.zlen73 (by decide) (by have := List.length_pos_iff.2 h0; omega) (by omega) (by omega) rfl (fun gb gcap gext hgc hgl => ?_)
  refine r_assign rfl rfl ?_
  refine awl_nil ?_
  refine x_then ?_
  refine awp_ret ?_
  exact ⟨(.inl rfl), _, [⟨gb, true, .box ([] ++ l.flatten ++ gext)⟩], (.one (by first | exact .mk rfl rfl | exact .nil rfl)), ⟨gb, gcap, gext, by rw [Nat.zero_add]; rfl, by simp, by omega, by simp only [List.length_append, flat_len hz]; omega⟩, (.cons_cons _ (List.nil_sublist _)), (by simp)⟩
theorem ov_S : overlapsT Try.prog 67 112 4 := fun args w => run_callFunc_extern Try.func67 (by kernel_rfl) (by kernel_rfl) (by kernel_rfl) (by kernel_rfl) args w
theorem insertS_ok (l : List (List AV)) (hz : ∀ c, c ∈ l → c.length = 4) (h1 : l.flatten.all AV.one = true) (hl : l.length ≤ 1000000) (x : List AV) (hx : x.length = 4) (hx1 : x.all AV.one = true) (i : Nat) (hi : i ≤ l.length) (g cap : Nat) (ext : List AV) (hcap : l.length ≤ cap) (hext : (l.flatten ++ ext).length = cap * 4) (ln : Nat) (hln : ln = l.length) : AW Try.prog 55 [.v (.slice (some ⟨g, 0, none⟩) (ln) (cap)), .v (.int .i64 (i : Int)), .sl 4 [x]] [] [⟨g, true, .box (l.flatten ++ ext)⟩] (fun r n => n = [] ∧ r = .sl 4 (l.take i ++ x :: l.drop i)) := by
 refine aw_of_awp (rs := [6]) (nt := 95) (so := [⟨g, true, .box (l.flatten ++ ext)⟩]) Try.func55 rfl rfl rfl rfl rfl (fun w0 C0 hq => ?_)
 subst hln
 have hL := flat_len hz
 have hE : l.length * 4 + ext.length = cap * 4 := by rw [← hext, List.length_append, hL]
 have hxo : [x].flatten.all AV.one = true := by simpa using hx1
 have hx2 : [x].flatten.length = [x].length * 4 := by simp [hx]
 refine awp_seq ?_
 refine awp_region ?_
 refine r_assign rfl rfl ?_
 refine awl_nil ?_
 refine x_then ?_
 refine awp_seq ?_
 refine awp_region ?_
 refine r_move rfl rfl ?_
 refine r_move rfl rfl ?_
 refine r_sliceVL rfl rfl TF.sl112 TF.sz73 (by omega) (by omega) hcap rfl (fun A12 hA12 => ?_)
 refine awl_nil ?_
 refine x_then ?_
 refine awp_seq ?_
 refine awp_region ?_
 refine r_move rfl rfl ?_
 first | (refine r_lenS rfl rfl TF.sl112 rfl ?_) | (refine r_lenNil rfl TF.sl112 rfl ?_) | (refine r_lenV rfl TF.sl112 rfl ?_)
 refine r_assign rfl rfl ?_
 refine awl_nil ?_
 refine x_then ?_
 refine awp_seq ?_
 refine awp_seq ?_
 refine awp_region ?_
 refine r_move rfl rfl ?_
 refine r_cmp rfl rfl rfl rfl ?_
 refine awl_nil ?_
 refine x_then ?_
 refine awp_cond rfl (fun hc0 => ?_) (fun hc0 => ?_)
 ·
  exfalso; exact absurd (of_decide_eq_true hc0) (by simp)
 ·
  refine awp_skip ?_
  refine x_then ?_
  refine awp_seq ?_
  refine awp_region ?_
  refine r_move rfl rfl ?_
  first | (refine r_lenS rfl rfl TF.sl112 rfl ?_) | (refine r_lenNil rfl TF.sl112 rfl ?_) | (refine r_lenV rfl TF.sl112 rfl ?_)
  refine r_assign rfl rfl ?_
  refine awl_nil ?_
  refine x_then ?_
  refine awp_seq ?_
  refine awp_seq ?_
  refine awp_region ?_
  refine r_move rfl rfl ?_
  refine r_move rfl rfl ?_
  refine r_cmp rfl rfl rfl rfl ?_
  refine awl_nil ?_
  refine x_then ?_
  refine awp_cond rfl (fun hc1 => ?_) (fun hc1 => ?_)
  ·
   have hin : i = l.length := by have := of_decide_eq_true hc1; omega
   subst hin
   refine awp_seq ?_
   rcases Nat.lt_or_ge cap (l.length + [x].length) with hroom | hroom
   ·
    refine awp_region ?_
    refine r_move rfl rfl ?_
    refine r_move rfl rfl ?_
    refine r_appendG (srcOk_boxP (k := 0) 0 0 (l.length * 4) (xs := l.flatten) rfl (fun _ => rfl) rfl (by rw [List.drop_zero, ← hL, List.take_left]) h1 (by rw [List.length_append]; omega)) (fun C T a w hs => ⟨_, hs.evv rfl⟩) hL (srcOk_all rfl rfl) hx2 TF.sl112 TF.sz73 TF.by73 TF.zlen73 (by decide) hroom (by simp; omega) (by simp; omega) rfl (fun gb gcap gext hgc hgl => ?_)
    refine awl_imp (imp_commitS 0 25 (sz := 4) (l := l ++ [x]) (ext := gext) rfl rfl (by simp) (by simp) hgc (fun c h => by rcases List.mem_append.1 h with h | h; exact hz c h; obtain rfl := List.mem_singleton.1 h; exact hx) (by rw [← hgl]; simp only [List.length_append, hL, hx2]; omega) (by simp only [List.flatten_append, List.all_append, h1, hxo, Bool.and_self])) ?_
    refine r_assign rfl rfl ?_
    refine awl_nil ?_
    refine x_then ?_
    refine awp_ret ?_
    refine x_thenR ?_
    exact ⟨(.inl rfl), _, [], (.one (by first | exact .mk rfl rfl | exact .nil rfl)), ⟨rfl, by simp; rfl⟩, (List.nil_sublist _), (by simp)⟩
   ·
    refine awp_region ?_
    refine r_move rfl rfl ?_
    refine r_move rfl rfl ?_
    refine r_appendE 0 ((l ++ [x]).flatten ++ ext.drop 4) rfl (srcOk_all rfl rfl) hx2 rfl TF.sl112 TF.sz73 (by decide) hroom (by have : [x].length = 1 := rfl; rw [List.length_append, hL]; omega) (by rw [← hL, List.take_left, ← hx2, List.drop_length_add_append, hx2]; simp) rfl ?_
    refine awl_imp (imp_commitS 0 25 (sz := 4) (l := l ++ [x]) (ext := ext.drop 4) rfl rfl rfl (by simp) hroom (fun c h => by rcases List.mem_append.1 h with h | h; exact hz c h; obtain rfl := List.mem_singleton.1 h; exact hx) (by simp only [List.length_append, List.flatten_append, List.length_drop, hL, hx2]; simp at hroom ⊢; omega) (by simp only [List.flatten_append, List.all_append, h1, hxo, Bool.and_self])) ?_
    refine r_assign rfl rfl ?_
    refine awl_nil ?_
    refine x_then ?_
    refine awp_ret ?_
    refine x_thenR ?_
    exact ⟨(.inl rfl), _, [], (.one (by first | exact .mk rfl rfl | exact .nil rfl)), ⟨rfl, by simp; rfl⟩, (List.nil_sublist _), (by simp)⟩
  ·
   have hin : i < l.length := by have := of_decide_eq_false hc1; omega
   refine awp_skip ?_
   refine x_then ?_
   refine awp_seq ?_
   refine awp_seq ?_
   refine awp_region ?_
   refine r_move rfl rfl ?_
   refine r_move rfl rfl ?_
   refine r_ari _ rfl rfl rfl (wrap_id (by first | omega | (simp; omega))) rfl ?_
   refine r_move rfl rfl ?_
   refine r_capV rfl TF.sl112 rfl ?_
   refine r_cmp rfl rfl rfl rfl ?_
   refine awl_nil ?_
   refine x_then ?_
   refine awp_cond rfl (fun hc2 => ?_) (fun hc2 => ?_)
   ·
    have hroom : cap < l.length + 1 := by have := of_decide_eq_true hc2; simp at this; omega
    refine awp_seq ?_
    refine awp_region ?_
    refine r_move rfl rfl ?_
    refine r_move rfl rfl ?_
    refine r_sliceVH rfl rfl TF.sl112 TF.sz73 (by omega) (by omega) rfl ?_
    refine r_move rfl rfl ?_
    refine r_move rfl rfl ?_
    refine r_ari _ rfl rfl rfl (wrap_id (by first | omega | (simp; omega))) rfl ?_
    refine r_move rfl rfl ?_
    refine r_ari ((l.length + 1 - i : Nat) : Int) rfl rfl rfl (by rw [wrap_id (by simp; omega)]; simp; omega) rfl ?_
    refine r_appendZ (srcOk_boxP (k := 0) 0 0 (i * 4) (xs := (l.take i).flatten) rfl (fun _ => rfl) rfl (part_rowT hz hi) (one_take h1 i) (by rw [List.length_append]; omega)) (fun C T a w hs => ⟨_, hs.evv rfl⟩) (len_take hz i hi) rfl TF.sl112 TF.sz73 TF.by73 TF.zraw73 rfl (by decide) TF.un3 (by omega) (by omega) (by omega) (by omega) rfl (fun gb gcap gext hgc hgl => ?_)
    refine r_assign rfl rfl ?_
    refine awl_nil ?_
    refine x_then ?_
    refine awp_seq ?_
    refine awp_region ?_
    refine r_move rfl rfl ?_
    refine r_move rfl rfl ?_
    refine r_sliceVL rfl rfl TF.sl112 TF.sz73 (by omega) (by omega) hgc rfl (fun A43 hA43 => ?_)
    refine r_move rfl rfl ?_
    refine r_copyE 0 1 _ rfl (by simp; omega) (by omega) (srcOk_all rfl rfl) (hA43 (by simp; omega)) rfl TF.sl112 TF.sz73 (by decide) hx2 (by rw [List.length_append, len_take hz i hi]; simp; omega) rfl rfl ?_
    refine awl_nil ?_
    refine x_then ?_
    refine awp_seq ?_
    refine awp_drawS [46, 47, 48, 49, 50, 51, 52, 53] [_, _, _, _, _, _, _, _] [] [] TF.mixed rfl rfl rfl ⟨⟨⟨⟨⟨⟨⟨⟨trivial
     , ⟨_, rfl, fun sl hd hr ho => by
       refine r_move (hr 9 _ rfl rfl rfl) rfl ?_
       exact awl_nil ⟨rfl, post_put⟩⟩⟩
     , ⟨_, rfl, fun sl hd hr ho => by
       refine r_move (hr 1 _ rfl rfl rfl) rfl ?_
       exact awl_nil ⟨rfl, post_put⟩⟩⟩
     , ⟨_, rfl, fun sl hd hr ho => by
       refine r_move (hr 7 _ rfl rfl rfl) rfl ?_
       exact awl_nil ⟨rfl, post_put⟩⟩⟩
     , ⟨_, rfl, fun sl hd hr ho => by
       refine r_ari _ (hd 1 _ rfl rfl rfl) (hd 2 _ rfl rfl rfl) rfl (wrap_id (by first | omega | (simp; omega))) rfl ?_
       exact awl_nil ⟨rfl, post_put⟩⟩⟩
     , ⟨_, rfl, fun sl hd hr ho => by
       refine r_sliceVLd (hd 0 _ rfl rfl rfl) (hd 3 _ rfl rfl rfl) TF.sl112 TF.sz73 (by omega) (by simp; omega) hgc rfl ?_
       exact awl_nil ⟨rfl, post_put⟩⟩⟩
     , ⟨_, rfl, fun sl hd hr ho => by
       refine r_move (hr 0 _ rfl rfl rfl) rfl ?_
       exact awl_nil ⟨rfl, post_put⟩⟩⟩
     , ⟨_, rfl, fun sl hd hr ho => by
       refine r_move (hr 1 _ rfl rfl rfl) rfl ?_
       exact awl_nil ⟨rfl, post_put⟩⟩⟩
     , ⟨_, rfl, fun sl hd hr ho => by
       refine r_sliceVLd (hd 5 _ rfl rfl rfl) (hd 6 _ rfl rfl rfl) TF.sl112 TF.sz73 (by omega) (by omega) hcap rfl ?_
       exact awl_nil ⟨rfl, post_put⟩⟩⟩
     (by rfl) ?_
    refine r_copyE 0 (l.length - i) ((l.take i ++ x :: l.drop i).flatten ++ gext.drop (4 + (l.length - i) * 4)) rfl (by simp; omega) (by omega) (srcOk_boxP 1 (0 + i * 4) ((l.length - i) * 4) (xs := (l.drop i).flatten) rfl (fun _ => if_neg (by simp; omega)) rfl (by rw [Nat.zero_add]; exact part_row hz i) (one_drop h1 i) (by rw [List.length_append]; omega)) (if_neg (by simp; omega)) rfl TF.sl112 TF.sz73 (by decide) (len_dropR hz i) (by simp only [List.length_append, List.length_take, List.length_drop, len_take hz i hi, hx2]; simp; omega) (ins_new hz hx hi (by omega)) rfl ?_
    refine awl_nil ?_
    refine x_then ?_
    refine awp_seq ?_
    refine awp_region ?_
    refine awl_imp (imp_commitS 0 9 (sz := 4) (l := (l.take i ++ x :: l.drop i)) (ext := gext.drop (4 + (l.length - i) * 4)) rfl rfl rfl (by simp; omega) hgc (mem_ins hz hx i) (by simp only [List.length_append, flat_len (mem_ins hz hx i), List.length_drop]; simp; omega) (one_ins h1 hx1 i)) ?_
    refine r_move rfl rfl ?_
    refine r_assign rfl rfl ?_
    refine awl_nil ?_
    refine x_then ?_
    refine awp_ret ?_
    refine x_thenR ?_
    exact ⟨(.inl rfl), _, [], (.one (by first | exact .mk rfl rfl | exact .nil rfl)), ⟨rfl, rfl⟩, (List.nil_sublist _), (by simp)⟩
   ·
    have hroom : l.length + 1 ≤ cap := by have := of_decide_eq_false hc2; simp at this; omega
    refine awp_skip ?_
    refine x_then ?_
    refine awp_seq ?_
    refine awp_region ?_
    refine r_move rfl rfl ?_
    refine r_move rfl rfl ?_
    refine r_move rfl rfl ?_
    refine r_ari _ rfl rfl rfl (wrap_id (by first | omega | (simp; omega))) rfl ?_
    refine r_sliceVH rfl rfl TF.sl112 TF.sz73 (by omega) (by simp; omega) rfl ?_
    refine r_assign rfl rfl ?_
    refine awl_nil ?_
    refine x_then ?_
    refine awp_seq ?_
    refine awp_seq ?_
    refine awp_region ?_
    refine r_move rfl rfl ?_
    refine r_move rfl rfl ?_
    refine r_move rfl rfl ?_
    refine r_move rfl rfl ?_
    refine r_ari _ rfl rfl rfl (wrap_id (by first | omega | (simp; omega))) rfl ?_
    refine r_sliceVL rfl rfl TF.sl112 TF.sz73 (by omega) (by simp; omega) (by simp; omega) rfl (fun A66 hA66 => ?_)
    obtain rfl := hA66 (by simp; omega)
    refine r_overlaps 0 ov_S TF.sl112 TF.sz73 rfl rfl (by simp) (by decide) rfl rfl rfl ?_
    refine r_not rfl rfl ?_
    refine awl_nil ?_
    refine x_then ?_
    refine awp_cond rfl (fun hc3 => ?_) (fun hc3 => ?_)
    ·
     refine awp_seq ?_
     refine awp_drawS [69, 70, 71, 72, 73, 74, 75, 76] [_, _, _, _, _, _, _, _] [] [] TF.mixed rfl rfl rfl ⟨⟨⟨⟨⟨⟨⟨⟨trivial
      , ⟨_, rfl, fun sl hd hr ho => by
        refine r_move (hr 0 _ rfl rfl rfl) rfl ?_
        exact awl_nil ⟨rfl, post_put⟩⟩⟩
      , ⟨_, rfl, fun sl hd hr ho => by
        refine r_move (hr 1 _ rfl rfl rfl) rfl ?_
        exact awl_nil ⟨rfl, post_put⟩⟩⟩
      , ⟨_, rfl, fun sl hd hr ho => by
        refine r_move (hr 7 _ rfl rfl rfl) rfl ?_
        exact awl_nil ⟨rfl, post_put⟩⟩⟩
      , ⟨_, rfl, fun sl hd hr ho => by
        refine r_ari _ (hd 1 _ rfl rfl rfl) (hd 2 _ rfl rfl rfl) rfl (wrap_id (by first | omega | (simp; omega))) rfl ?_
        exact awl_nil ⟨rfl, post_put⟩⟩⟩
      , ⟨_, rfl, fun sl hd hr ho => by
        refine r_sliceVLd (hd 0 _ rfl rfl rfl) (hd 3 _ rfl rfl rfl) TF.sl112 TF.sz73 (by omega) (by simp; omega) (by simp; omega) rfl ?_
        exact awl_nil ⟨rfl, post_put⟩⟩⟩
      , ⟨_, rfl, fun sl hd hr ho => by
        refine r_move (hr 0 _ rfl rfl rfl) rfl ?_
        exact awl_nil ⟨rfl, post_put⟩⟩⟩
      , ⟨_, rfl, fun sl hd hr ho => by
        refine r_move (hr 1 _ rfl rfl rfl) rfl ?_
        exact awl_nil ⟨rfl, post_put⟩⟩⟩
      , ⟨_, rfl, fun sl hd hr ho => by
        refine r_sliceVLd (hd 5 _ rfl rfl rfl) (hd 6 _ rfl rfl rfl) TF.sl112 TF.sz73 (by omega) (by simp; omega) (by simp; omega) rfl ?_
        exact awl_nil ⟨rfl, post_put⟩⟩⟩
      (by rfl) ?_
     refine r_copyE 0 (l.length - i) _ rfl (by simp; omega) (by omega) (srcOk_boxP 0 (0 + i * 4) ((l.length - i) * 4) (xs := (l.drop i).flatten) rfl (fun _ => if_neg (by simp; omega)) rfl (by rw [Nat.zero_add]; exact part_row hz i) (one_drop h1 i) (by rw [List.length_append]; omega)) (if_neg (by simp; omega)) rfl TF.sl112 TF.sz73 (by decide) (len_dropR hz i) (by rw [List.length_append, hL]; simp; omega) rfl rfl ?_
     refine awl_nil ?_
     refine x_then ?_
     refine awp_seq ?_
     refine awp_region ?_
     refine r_move rfl rfl ?_
     refine r_move rfl rfl ?_
     refine r_sliceVL rfl rfl TF.sl112 TF.sz73 (by omega) (by simp; omega) (by simp; omega) rfl (fun A80 hA80 => ?_)
     refine r_move rfl rfl ?_
     refine r_copyE 0 1 ((l.take i ++ x :: l.drop i).flatten ++ ext.drop 4) rfl (by simp; omega) (by omega) (srcOk_all rfl rfl) (hA80 (by simp; omega)) rfl TF.sl112 TF.sz73 (by decide) hx2 (by simp only [List.length_append, List.length_take, List.length_drop, len_dropR hz i, hL]; simp; omega) (ins_same hz hx hi (by omega)) rfl ?_
     refine awl_nil ?_
     refine x_then ?_
     refine awp_seq ?_
     refine awp_region ?_
     refine awl_imp (imp_commitS 0 0 (sz := 4) (l := (l.take i ++ x :: l.drop i)) (ext := ext.drop 4) rfl rfl rfl (by simp; omega) (by simp; omega) (mem_ins hz hx i) (by simp only [List.length_append, flat_len (mem_ins hz hx i), List.length_drop]; simp; omega) (one_ins h1 hx1 i)) ?_
     refine r_move rfl rfl ?_
     refine r_assign rfl rfl ?_
     refine awl_nil ?_
     refine x_then ?_
     refine awp_ret ?_
     refine x_thenR ?_
     exact ⟨(.inl rfl), _, [], (.one (by first | exact .mk rfl rfl | exact .nil rfl)), ⟨rfl, rfl⟩, (List.nil_sublist _), (by simp)⟩
    ·
     exfalso; exact absurd hc3 (by simp)
theorem ov_U : overlapsT Try.prog 69 113 4 := fun args w => run_callFunc_extern Try.func69 (by kernel_rfl) (by kernel_rfl) (by kernel_rfl) (by kernel_rfl) args w
theorem insertU_ok (l : List (List AV)) (hz : ∀ c, c ∈ l → c.length = 1) (h1 : l.flatten.all AV.one = true) (hl : l.length ≤ 1000000) (x : List AV) (hx : x.length = 1) (hx1 : x.all AV.one = true) (i : Nat) (hi : i ≤ l.length) (g cap : Nat) (ext : List AV) (hcap : l.length ≤ cap) (hext : (l.flatten ++ ext).length = cap * 1) (ln : Nat) (hln : ln = l.length) : AW Try.prog 56 [.v (.slice (some ⟨g, 0, none⟩) (ln) (cap)), .v (.int .i64 (i : Int)), .sl 1 [x]] [] [⟨g, true, .box (l.flatten ++ ext)⟩] (fun r n => n = [] ∧ r = .sl 1 (l.take i ++ x :: l.drop i)) := by
 refine aw_of_awp (rs := [6]) (nt := 95) (so := [⟨g, true, .box (l.flatten ++ ext)⟩]) Try.func56 rfl rfl rfl rfl rfl (fun w0 C0 hq => ?_)
 subst hln
 have hL := flat_len hz
 have hE : l.length * 1 + ext.length = cap * 1 := by rw [← hext, List.length_append, hL]
 have hxo : [x].flatten.all AV.one = true := by simpa using hx1
 have hx2 : [x].flatten.length = [x].length * 1 := by simp [hx]
 refine awp_seq ?_
 refine awp_region ?_
 refine r_assign rfl rfl ?_
 refine awl_nil ?_
 refine x_then ?_
 refine awp_seq ?_
 refine awp_region ?_
 refine r_move rfl rfl ?_
 refine r_move rfl rfl ?_
 refine r_sliceVL rfl rfl TF.sl113 TF.sz31 (by omega) (by omega) hcap rfl (fun A12 hA12 => ?_)
 refine awl_nil ?_
 refine x_then ?_
 refine awp_seq ?_
 refine awp_region ?_
 refine r_move rfl rfl ?_
 first | (refine r_lenS rfl rfl TF.sl113 rfl ?_) | (refine r_lenNil rfl TF.sl113 rfl ?_) | (refine r_lenV rfl TF.sl113 rfl ?_)
 refine r_assign rfl rfl ?_
 refine awl_nil ?_
 refine x_then ?_
 refine awp_seq ?_
 refine awp_seq ?_
 refine awp_region ?_
 refine r_move rfl rfl ?_
 refine r_cmp rfl rfl rfl rfl ?_
 refine awl_nil ?_
 refine x_then ?_
 refine awp_cond rfl (fun hc0 => ?_) (fun hc0 => ?_)
 ·
  exfalso; exact absurd (of_decide_eq_true hc0) (by simp)
 ·
  refine awp_skip ?_
  refine x_then ?_
  refine awp_seq ?_
  refine awp_region ?_
  refine r_move rfl rfl ?_
  first | (refine r_lenS rfl rfl TF.sl113 rfl ?_) | (refine r_lenNil rfl TF.sl113 rfl ?_) | (refine r_lenV rfl TF.sl113 rfl ?_)
  refine r_assign rfl rfl ?_
  refine awl_nil ?_
  refine x_then ?_
  refine awp_seq ?_
  refine awp_seq ?_
  refine awp_region ?_
  refine r_move rfl rfl ?_
  refine r_move rfl rfl ?_
  refine r_cmp rfl rfl rfl rfl ?_
  refine awl_nil ?_
  refine x_then ?_
  refine awp_cond rfl (fun hc1 => ?_) (fun hc1 => ?_)
  ·
   have hin : i = l.length := by have := of_decide_eq_true hc1; omega
   subst hin
   refine awp_seq ?_
   rcases Nat.lt_or_ge cap (l.length + [x].length) with hroom | hroom
   ·
    refine awp_region ?_
    refine r_move rfl rfl ?_
    refine r_move rfl rfl ?_
    refine r_appendG (srcOk_boxP (k := 0) 0 0 (l.length * 1) (xs := l.flatten) rfl (fun _ => rfl) rfl (by rw [List.drop_zero, ← hL, List.take_left]) h1 (by rw [List.length_append]; omega)) (fun C T a w hs => ⟨_, hs.evv rfl⟩) hL (srcOk_all rfl rfl) hx2 TF.sl113 TF.sz31 TF.by31 TF.zlen31 (by decide) hroom (by simp; omega) (by simp; omega) rfl (fun gb gcap gext hgc hgl => ?_)
    refine awl_imp (imp_commitS 0 25 (sz := 1) (l := l ++ [x]) (ext := gext) rfl rfl (by simp) (by simp) hgc (fun c h => by rcases List.mem_append.1 h with h | h; exact hz c h; obtain rfl := List.mem_singleton.1 h; exact hx) (by rw [← hgl]; simp only [List.length_append, hL, hx2]; omega) (by simp only [List.flatten_append, List.all_append, h1, hxo, Bool.and_self])) ?_
    refine r_assign rfl rfl ?_
    refine awl_nil ?_
    refine x_then ?_
    refine awp_ret ?_
    refine x_thenR ?_
    exact ⟨(.inl rfl), _, [], (.one (by first | exact .mk rfl rfl | exact .nil rfl)), ⟨rfl, by simp; rfl⟩, (List.nil_sublist _), (by simp)⟩
   ·
    refine awp_region ?_
    refine r_move rfl rfl ?_
    refine r_move rfl rfl ?_
    refine r_appendE 0 ((l ++ [x]).flatten ++ ext.drop 1) rfl (srcOk_all rfl rfl) hx2 rfl TF.sl113 TF.sz31 (by decide) hroom (by have : [x].length = 1 := rfl; rw [List.length_append, hL]; omega) (by rw [← hL, List.take_left, ← hx2, List.drop_length_add_append, hx2]; simp) rfl ?_
    refine awl_imp (imp_commitS 0 25 (sz := 1) (l := l ++ [x]) (ext := ext.drop 1) rfl rfl rfl (by simp) hroom (fun c h => by rcases List.mem_append.1 h with h | h; exact hz c h; obtain rfl := List.mem_singleton.1 h; exact hx) (by simp only [List.length_append, List.flatten_append, List.length_drop, hL, hx2]; simp at hroom ⊢; omega) (by simp only [List.flatten_append, List.all_append, h1, hxo, Bool.and_self])) ?_
    refine r_assign rfl rfl ?_
    refine awl_nil ?_
    refine x_then ?_
    refine awp_ret ?_
    refine x_thenR ?_
    exact ⟨(.inl rfl), _, [], (.one (by first | exact .mk rfl rfl | exact .nil rfl)), ⟨rfl, by simp; rfl⟩, (List.nil_sublist _), (by simp)⟩
  ·
   have hin : i < l.length := by have := of_decide_eq_false hc1; omega
   refine awp_skip ?_
   refine x_then ?_
   refine awp_seq ?_
   refine awp_seq ?_
   refine awp_region ?_
   refine r_move rfl rfl ?_
   refine r_move rfl rfl ?_
   refine r_ari _ rfl rfl rfl (wrap_id (by first | omega | (simp; omega))) rfl ?_
   refine r_move rfl rfl ?_
   refine r_capV rfl TF.sl113 rfl ?_
   refine r_cmp rfl rfl rfl rfl ?_
   refine awl_nil ?_
   refine x_then ?_
   refine awp_cond rfl (fun hc2 => ?_) (fun hc2 => ?_)
   ·
    have hroom : cap < l.length + 1 := by have := of_decide_eq_true hc2; simp at this; omega
    refine awp_seq ?_
    refine awp_region ?_
    refine r_move rfl rfl ?_
    refine r_move rfl rfl ?_
    refine r_sliceVH rfl rfl TF.sl113 TF.sz31 (by omega) (by omega) rfl ?_
    refine r_move rfl rfl ?_
    refine r_move rfl rfl ?_
    refine r_ari _ rfl rfl rfl (wrap_id (by first | omega | (simp; omega))) rfl ?_
    refine r_move rfl rfl ?_
    refine r_ari ((l.length + 1 - i : Nat) : Int) rfl rfl rfl (by rw [wrap_id (by simp; omega)]; simp; omega) rfl ?_
    refine r_appendZ (srcOk_boxP (k := 0) 0 0 (i * 1) (xs := (l.take i).flatten) rfl (fun _ => rfl) rfl (part_rowT hz hi) (one_take h1 i) (by rw [List.length_append]; omega)) (fun C T a w hs => ⟨_, hs.evv rfl⟩) (len_take hz i hi) rfl TF.sl113 TF.sz31 TF.by31 TF.zraw31 rfl (by decide) TF.un3 (by omega) (by omega) (by omega) (by omega) rfl (fun gb gcap gext hgc hgl => ?_)
    refine r_assign rfl rfl ?_
    refine awl_nil ?_
    refine x_then ?_
    refine awp_seq ?_
    refine awp_region ?_
    refine r_move rfl rfl ?_
    refine r_move rfl rfl ?_
    refine r_sliceVL rfl rfl TF.sl113 TF.sz31 (by omega) (by omega) hgc rfl (fun A43 hA43 => ?_)
    refine r_move rfl rfl ?_
    refine r_copyE 0 1 _ rfl (by simp; omega) (by omega) (srcOk_all rfl rfl) (hA43 (by simp; omega)) rfl TF.sl113 TF.sz31 (by decide) hx2 (by rw [List.length_append, len_take hz i hi]; simp; omega) rfl rfl ?_
    refine awl_nil ?_
    refine x_then ?_
    refine awp_seq ?_
    refine awp_drawS [46, 47, 48, 49, 50, 51, 52, 53] [_, _, _, _, _, _, _, _] [] [] TF.mixed rfl rfl rfl ⟨⟨⟨⟨⟨⟨⟨⟨trivial
     , ⟨_, rfl, fun sl hd hr ho => by
       refine r_move (hr 9 _ rfl rfl rfl) rfl ?_
       exact awl_nil ⟨rfl, post_put⟩⟩⟩
     , ⟨_, rfl, fun sl hd hr ho => by
       refine r_move (hr 1 _ rfl rfl rfl) rfl ?_
       exact awl_nil ⟨rfl, post_put⟩⟩⟩
     , ⟨_, rfl, fun sl hd hr ho => by
       refine r_move (hr 7 _ rfl rfl rfl) rfl ?_
       exact awl_nil ⟨rfl, post_put⟩⟩⟩
     , ⟨_, rfl, fun sl hd hr ho => by
       refine r_ari _ (hd 1 _ rfl rfl rfl) (hd 2 _ rfl rfl rfl) rfl (wrap_id (by first | omega | (simp; omega))) rfl ?_
       exact awl_nil ⟨rfl, post_put⟩⟩⟩
     , ⟨_, rfl, fun sl hd hr ho => by
       refine r_sliceVLd (hd 0 _ rfl rfl rfl) (hd 3 _ rfl rfl rfl) TF.sl113 TF.sz31 (by omega) (by simp; omega) hgc rfl ?_
       exact awl_nil ⟨rfl, post_put⟩⟩⟩
     , ⟨_, rfl, fun sl hd hr ho => by
       refine r_move (hr 0 _ rfl rfl rfl) rfl ?_
       exact awl_nil ⟨rfl, post_put⟩⟩⟩
     , ⟨_, rfl, fun sl hd hr ho => by
       refine r_move (hr 1 _ rfl rfl rfl) rfl ?_
       exact awl_nil ⟨rfl, post_put⟩⟩⟩
     , ⟨_, rfl, fun sl hd hr ho => by
       refine r_sliceVLd (hd 5 _ rfl rfl rfl) (hd 6 _ rfl rfl rfl) TF.sl113 TF.sz31 (by omega) (by omega) hcap rfl ?_
       exact awl_nil ⟨rfl, post_put⟩⟩⟩
     (by rfl) ?_
    refine r_copyE 0 (l.length - i) ((l.take i ++ x :: l.drop i).flatten ++ gext.drop (1 + (l.length - i) * 1)) rfl (by simp; omega) (by omega) (srcOk_boxP 1 (0 + i * 1) ((l.length - i) * 1) (xs := (l.drop i).flatten) rfl (fun _ => if_neg (by simp; omega)) rfl (by rw [Nat.zero_add]; exact part_row hz i) (one_drop h1 i) (by rw [List.length_append]; omega)) (if_neg (by simp; omega)) rfl TF.sl113 TF.sz31 (by decide) (len_dropR hz i) (by simp only [List.length_append, List.length_take, List.length_drop, len_take hz i hi, hx2]; simp; omega) (ins_new hz hx hi (by omega)) rfl ?_
    refine awl_nil ?_
    refine x_then ?_
    refine awp_seq ?_
    refine awp_region ?_
    refine awl_imp (imp_commitS 0 9 (sz := 1) (l := (l.take i ++ x :: l.drop i)) (ext := gext.drop (1 + (l.length - i) * 1)) rfl rfl rfl (by simp; omega) hgc (mem_ins hz hx i) (by simp only [List.length_append, flat_len (mem_ins hz hx i), List.length_drop]; simp; omega) (one_ins h1 hx1 i)) ?_
    refine r_move rfl rfl ?_
    refine r_assign rfl rfl ?_
    refine awl_nil ?_
    refine x_then ?_
    refine awp_ret ?_
    refine x_thenR ?_
    exact ⟨(.inl rfl), _, [], (.one (by first | exact .mk rfl rfl | exact .nil rfl)), ⟨rfl, rfl⟩, (List.nil_sublist _), (by simp)⟩
   ·
    have hroom : l.length + 1 ≤ cap := by have := of_decide_eq_false hc2; simp at this; omega
    refine awp_skip ?_
    refine x_then ?_
    refine awp_seq ?_
    refine awp_region ?_
    refine r_move rfl rfl ?_
    refine r_move rfl rfl ?_
    refine r_move rfl rfl ?_
    refine r_ari _ rfl rfl rfl (wrap_id (by first | omega | (simp; omega))) rfl ?_
    refine r_sliceVH rfl rfl TF.sl113 TF.sz31 (by omega) (by simp; omega) rfl ?_
    refine r_assign rfl rfl ?_
    refine awl_nil ?_
    refine x_then ?_
    refine awp_seq ?_
    refine awp_seq ?_
    refine awp_region ?_
    refine r_move rfl rfl ?_
    refine r_move rfl rfl ?_
    refine r_move rfl rfl ?_
    refine r_move rfl rfl ?_
    refine r_ari _ rfl rfl rfl (wrap_id (by first | omega | (simp; omega))) rfl ?_
    refine r_sliceVL rfl rfl TF.sl113 TF.sz31 (by omega) (by simp; omega) (by simp; omega) rfl (fun A66 hA66 => ?_)
    obtain rfl := hA66 (by simp; omega)
    refine r_overlaps 0 ov_U TF.sl113 TF.sz31 rfl rfl (by simp) (by decide) rfl rfl rfl ?_
    refine r_not rfl rfl ?_
    refine awl_nil ?_
    refine x_then ?_
    refine awp_cond rfl (fun hc3 => ?_) (fun hc3 => ?_)
    ·
     refine awp_seq ?_
     refine awp_drawS [69, 70, 71, 72, 73, 74, 75, 76] [_, _, _, _, _, _, _, _] [] [] TF.mixed rfl rfl rfl ⟨⟨⟨⟨⟨⟨⟨⟨trivial
      , ⟨_, rfl, fun sl hd hr ho => by
        refine r_move (hr 0 _ rfl rfl rfl) rfl ?_
        exact awl_nil ⟨rfl, post_put⟩⟩⟩
      , ⟨_, rfl, fun sl hd hr ho => by
        refine r_move (hr 1 _ rfl rfl rfl) rfl ?_
        exact awl_nil ⟨rfl, post_put⟩⟩⟩
      , ⟨_, rfl, fun sl hd hr ho => by
        refine r_move (hr 7 _ rfl rfl rfl) rfl ?_
        exact awl_nil ⟨rfl, post_put⟩⟩⟩
      , ⟨_, rfl, fun sl hd hr ho => by
        refine r_ari _ (hd 1 _ rfl rfl rfl) (hd 2 _ rfl rfl rfl) rfl (wrap_id (by first | omega | (simp; omega))) rfl ?_
        exact awl_nil ⟨rfl, post_put⟩⟩⟩
      , ⟨_, rfl, fun sl hd hr ho => by
        refine r_sliceVLd (hd 0 _ rfl rfl rfl) (hd 3 _ rfl rfl rfl) TF.sl113 TF.sz31 (by omega) (by simp; omega) (by simp; omega) rfl ?_
        exact awl_nil ⟨rfl, post_put⟩⟩⟩
      , ⟨_, rfl, fun sl hd hr ho => by
        refine r_move (hr 0 _ rfl rfl rfl) rfl ?_
        exact awl_nil ⟨rfl, post_put⟩⟩⟩
      , ⟨_, rfl, fun sl hd hr ho => by
        refine r_move (hr 1 _ rfl rfl rfl) rfl ?_
        exact awl_nil ⟨rfl, post_put⟩⟩⟩
      , ⟨_, rfl, fun sl hd hr ho => by
        refine r_sliceVLd (hd 5 _ rfl rfl rfl) (hd 6 _ rfl rfl rfl) TF.sl113 TF.sz31 (by omega) (by simp; omega) (by simp; omega) rfl ?_
        exact awl_nil ⟨rfl, post_put⟩⟩⟩
      (by rfl) ?_
     refine r_copyE 0 (l.length - i) _ rfl (by simp; omega) (by omega) (srcOk_boxP 0 (0 + i * 1) ((l.length - i) * 1) (xs := (l.drop i).flatten) rfl (fun _ => if_neg (by simp; omega)) rfl (by rw [Nat.zero_add]; exact part_row hz i) (one_drop h1 i) (by rw [List.length_append]; omega)) (if_neg (by simp; omega)) rfl TF.sl113 TF.sz31 (by decide) (len_dropR hz i) (by rw [List.length_append, hL]; simp; omega) rfl rfl ?_
     refine awl_nil ?_
     refine x_then ?_
     refine awp_seq ?_
     refine awp_region ?_
     refine r_move rfl rfl ?_
     refine r_move rfl rfl ?_
     refine r_sliceVL rfl rfl TF.sl113 TF.sz31 (by omega) (by simp; omega) (by simp; omega) rfl (fun A80 hA80 => ?_)
     refine r_move rfl rfl ?_
     refine r_copyE 0 1 ((l.take i ++ x :: l.drop i).flatten ++ ext.drop 1) rfl (by simp; omega) (by omega) (srcOk_all rfl rfl) (hA80 (by simp; omega)) rfl TF.sl113 TF.sz31 (by decide) hx2 (by simp only [List.length_append, List.length_take, List.length_drop, len_dropR hz i, hL]; simp; omega) (ins_same hz hx hi (by omega)) rfl ?_
     refine awl_nil ?_
     refine x_then ?_
     refine awp_seq ?_
     refine awp_region ?_
     refine awl_imp (imp_commitS 0 0 (sz := 1) (l := (l.take i ++ x :: l.drop i)) (ext := ext.drop 1) rfl rfl rfl (by simp; omega) (by simp; omega) (mem_ins hz hx i) (by simp only [List.length_append, flat_len (mem_ins hz hx i), List.length_drop]; simp; omega) (one_ins h1 hx1 i)) ?_
     refine r_move rfl rfl ?_
     refine r_assign rfl rfl ?_
     refine awl_nil ?_
     refine x_then ?_
     refine awp_ret ?_
     refine x_thenR ?_
     exact ⟨(.inl rfl), _, [], (.one (by first | exact .mk rfl rfl | exact .nil rfl)), ⟨rfl, rfl⟩, (List.nil_sublist _), (by simp)⟩
    ·
     exfalso; exact absurd hc3 (by simp)
theorem growN_ok (n : Nat) (hn : 0 < n) (hl : n ≤ 1000000) : AC Try.prog 72 [.v (.slice none 0 0), .v (.int .i64 (n : Int))] [] (fun r nb => ∃ g cap ext, r = .v (.slice (some ⟨g, 0, none⟩) (0) (cap)) ∧ nb = [⟨g, true, .box (ext)⟩] ∧ n ≤ cap ∧ List.length (α := AV) ext = cap * 1) := by
 refine ac_of_awp (rs := [4]) (nt := 27) Try.func72 rfl rfl rfl rfl (fun w0 C0 hq => ?_)
 refine awp_seq ?_
 refine awp_region ?_
 refine r_assign rfl rfl ?_
 refine awl_nil ?_
 refine x_then ?_
 refine awp_seq ?_
 refine awp_seq ?_
 refine awp_region ?_
 refine r_move rfl rfl ?_
 refine r_cmp rfl rfl rfl rfl ?_
 refine awl_nil ?_
 refine x_then ?_
 refine awp_cond rfl (fun hc0 => ?_) (fun hc0 => ?_)
 ·
  exfalso; have := of_decide_eq_true hc0; omega
 ·
  refine awp_skip ?_
  refine x_then ?_
  refine awp_seq ?_
  refine awp_seq ?_
  refine awp_region ?_
  refine r_move rfl rfl ?_
  refine r_move rfl rfl ?_
  refine r_capV rfl TF.sl107 rfl ?_
  refine r_move rfl rfl ?_
  first | (refine r_lenS rfl rfl TF.sl107 rfl ?_) | (refine r_lenNil rfl TF.sl107 rfl ?_)
  refine r_ari ((0 : Nat) : Int) rfl rfl rfl rfl rfl ?_
  refine r_ari (n : Int) rfl rfl rfl (by rw [wrap_id (by omega)]; omega) rfl ?_
  refine r_assign rfl rfl ?_
  refine awl_nil ?_
  refine x_then ?_
  refine awp_seq ?_
  refine awp_region ?_
  refine r_move rfl rfl ?_
  refine r_cmp rfl rfl rfl rfl ?_
  refine awl_nil ?_
  refine x_then ?_
  refine awp_cond rfl (fun hc1 => ?_) (fun hc1 => ?_)
  ·
   skip
   refine awp_region ?_
   refine r_move rfl rfl ?_
   refine r_move rfl rfl ?_
   refine r_capV rfl TF.sl107 rfl ?_
   refine r_sliceNH rfl rfl TF.sl107 TF.sz100 rfl ?_
   refine r_move rfl rfl ?_
   refine r_appendZ (srcOk_empty (k := 0) rfl) (fun C T a w hs => ⟨_, hs.evv rfl⟩) (by simp) rfl TF.sl107 TF.sz100 TF.by100 TF.zraw100 rfl (by decide) TF.un3 hn (by omega) (by omega) (by omega) rfl (fun gb gcap gext hgc hgl => ?_)
   refine r_move rfl rfl ?_
   first | (refine r_lenS rfl rfl TF.sl107 rfl ?_) | (refine r_lenNil rfl TF.sl107 rfl ?_)
   refine r_sliceVH rfl rfl TF.sl107 TF.sz100 (by omega) (by omega) rfl ?_
   refine r_assign rfl rfl ?_
   refine awl_nil ?_
   refine x_then ?_
   refine awp_seq ?_
   refine awp_region ?_
   refine r_move rfl rfl ?_
   refine r_assign rfl rfl ?_
   refine awl_nil ?_
   refine x_then ?_
   refine awp_ret ?_
   exact ⟨(.inl rfl), _, [⟨gb, true, .box ([] ++ gext)⟩], (.one (by first | exact .mk rfl rfl | exact .nil rfl)), ⟨gb, gcap, gext, rfl, rfl, by omega, by omega⟩, (List.Sublist.refl _), (by simp)⟩
  ·
   exfalso; have := of_decide_eq_false hc1; omega
theorem concatN_ok (ls : List (List (List AV))) (hz : ∀ l, l ∈ ls → ∀ c, c ∈ l → c.length = 1) (h1 : ∀ l, l ∈ ls → l.flatten.all AV.one = true) (h0 : 0 < ls.flatten.length) (hl : ls.flatten.length ≤ 1000000) (hn : ls.length ≤ 1000000) : AC Try.prog 59 [.sl 1 (ls.map fun l => [.sl 1 l])] [] (fun r n => n = [] ∧ r = .sl 1 ls.flatten) := by
 refine ac_of_awp (rs := [2]) (nt := 36) Try.func59 rfl rfl rfl rfl (fun w0 C0 hq => ?_)
 have hz' : ∀ c, c ∈ ls.flatten → c.length = 1 := fun c hc => by obtain ⟨l, h1, h2⟩ := List.mem_flatten.1 hc; exact hz l h1 c h2
 have h1' : ls.flatten.flatten.all AV.one = true := by
  rw [List.all_eq_true]; intro x hx; obtain ⟨c, hc, hxc⟩ := List.mem_flatten.1 hx; obtain ⟨l, hl1, hl2⟩ := List.mem_flatten.1 hc
  exact List.all_eq_true.1 (h1 l hl1) x (List.mem_flatten.2 ⟨c, hl2, hxc⟩)
 have htk : ∀ k c, c ∈ (ls.take k).flatten → c.length = 1 := fun k c hc => by obtain ⟨l, h1, h2⟩ := List.mem_flatten.1 hc; exact hz l (List.mem_of_mem_take h1) c h2
 refine awp_seq ?_
 refine awp_region ?_
 refine r_assign rfl rfl ?_
 refine awl_nil ?_
 refine x_then ?_
 refine awp_seq ?_
 refine awp_region ?_
 refine r_assign rfl rfl ?_
 refine awl_nil ?_
 refine x_then ?_
 refine awp_seq ?_
 refine awp_seq ?_
 refine awp_region ?_
 refine r_move rfl rfl ?_
 first | (refine r_lenS rfl rfl TF.sl151 rfl ?_) | (refine r_lenNil rfl TF.sl151 rfl ?_)
 refine r_move rfl rfl ?_
 refine awl_nil ?_
 refine x_then ?_
 refine awp_block ?_
 refine awp_loop (fun nn0 S => ∃ k : Nat, S = ⟨36, [(0, .a (.sl 1 (ls.map fun l => [.sl 1 l]))), (3, .a (.v (.int .i64 (((ls.take k).flatten.length : Nat))))), (9, .a (.sl 1 (ls.map fun l => [.sl 1 l]))), (10, .a (.v (.int .i64 (((ls.map fun l => [AV.sl 1 l]).length : Nat))))), (11, .a (.v (.int .i64 ((k : Int)))))], []⟩ ∧ nn0 = ls.length - k ∧ (k ≤ ls.length)) (ls.length - (0)) ⟨36, [(0, .a (.sl 1 (ls.map fun l => [.sl 1 l]))), (3, .a (.v (.int .i64 (((ls.take (0)).flatten.length : Nat))))), (9, .a (.sl 1 (ls.map fun l => [.sl 1 l]))), (10, .a (.v (.int .i64 (((ls.map fun l => [AV.sl 1 l]).length : Nat))))), (11, .a (.v (.int .i64 (((0) : Int)))))], []⟩ ⟨rfl, (Slots.cons rfl (by first | exact .refl _ | exact .nilOwn _ _ | exact .nilSl _ | exact .ownSl _ _ _  | exact SV.le.of_eq (by simp)) (Slots.cons rfl (by first | exact .refl _ | exact .nilOwn _ _ | exact .nilSl _ | exact .ownSl _ _ _  | exact SV.le.of_eq (by simp)) (Slots.cons rfl (by first | exact .refl _ | exact .nilOwn _ _ | exact .nilSl _ | exact .ownSl _ _ _  | exact SV.le.of_eq (by simp)) (Slots.cons rfl (by first | exact .refl _ | exact .nilOwn _ _ | exact .nilSl _ | exact .ownSl _ _ _  | exact SV.le.of_eq (by simp)) (Slots.cons rfl (by first | exact .refl _ | exact .nilOwn _ _ | exact .nilSl _ | exact .ownSl _ _ _  | exact SV.le.of_eq (by simp)) Slots.nil))))), (by first | exact List.Sublist.refl _ | exact .cons_cons _ (.cons _ (.refl _)) | exact List.nil_sublist _ | exact .cons _ (.refl _) | exact .cons _ (.cons _ (.refl _)) | exact .cons _ (.cons _ (.cons _ (.refl _))) | exact .cons _ (.cons _ (.cons _ (.cons _ (.refl _)))) | exact .cons_cons _ (List.nil_sublist _))⟩ ⟨0, rfl, rfl, Nat.zero_le _⟩ ?_
 rintro nn0 _ ⟨k, rfl, rfl, hk⟩
 refine awp_seq ?_
 refine awp_region ?_
 refine r_cmp rfl rfl rfl rfl ?_
 refine awl_nil ?_
 refine x_then ?_
 refine awp_seq ?_
 refine awp_cond rfl (fun hc0 => ?_) (fun hc0 => ?_)
 ·
  have hltx : k < ls.length := by have := of_decide_eq_true hc0; simpa using this
  obtain ⟨x, hx⟩ := get_lt hltx
  refine awp_skip ?_
  refine x_then ?_
  refine awp_seq ?_
  refine awp_block ?_
  refine awp_seq ?_
  refine awp_region ?_
  refine r_index rfl rfl rfl TF.sl151 TF.sz107 (by omega) (get_map hx) rfl ?_
  refine r_load1 rfl TF.agg107 rfl ?_
  refine r_assign rfl rfl ?_
  refine awl_nil ?_
  refine x_then ?_
  refine awp_seq ?_
  refine awp_region ?_
  refine r_move rfl rfl ?_
  refine r_move rfl rfl ?_
  first | (refine r_lenS rfl rfl TF.sl107 rfl ?_) | (refine r_lenNil rfl TF.sl107 rfl ?_)
  refine r_ari _ rfl rfl rfl (wrap_id (by have h2 := sum_take ls (k + 1); rw [flat_succ hx, List.length_append] at h2; omega)) rfl ?_
  refine r_assign rfl rfl ?_
  refine awl_nil ?_
  refine x_then ?_
  refine awp_seq ?_
  refine awp_region ?_
  refine r_move rfl rfl ?_
  refine r_cmp rfl rfl rfl rfl ?_
  refine awl_nil ?_
  refine x_then ?_
  refine awp_cond rfl (fun hc1 => ?_) (fun hc1 => ?_)
  ·
   exfalso; have := of_decide_eq_true hc1; omega
  ·
   refine awp_skip ?_
   refine x_block ?_
   refine x_then ?_
   refine awp_region ?_
   refine r_ari _ rfl rfl rfl (wrap_id (by first | omega | (simp; omega))) rfl ?_
   refine r_move rfl rfl ?_
   refine awl_nil ?_
   refine x_then ?_
   refine ⟨ls.length - (k + 1), ⟨36, [(0, .a (.sl 1 (ls.map fun l => [.sl 1 l]))), (3, .a (.v (.int .i64 (((ls.take (k + 1)).flatten.length : Nat))))), (9, .a (.sl 1 (ls.map fun l => [.sl 1 l]))), (10, .a (.v (.int .i64 (((ls.map fun l => [AV.sl 1 l]).length : Nat))))), (11, .a (.v (.int .i64 (((k + 1) : Int)))))], []⟩, ⟨rfl, (Slots.cons rfl (by first | exact .refl _ | exact .nilOwn _ _ | exact .nilSl _ | exact .ownSl _ _ _  | exact SV.le.ownEq (by first | (rw [flat_succ hx, List.length_append]; simp; done) | simp) | exact SV.le.of_eq (by first | (rw [flat_succ hx, List.length_append]; simp; done) | simp)) (Slots.cons rfl (by first | exact .refl _ | exact .nilOwn _ _ | exact .nilSl _ | exact .ownSl _ _ _  | exact SV.le.ownEq (by first | (rw [flat_succ hx, List.length_append]; simp; done) | simp) | exact SV.le.of_eq (by first | (rw [flat_succ hx, List.length_append]; simp; done) | simp)) (Slots.cons rfl (by first | exact .refl _ | exact .nilOwn _ _ | exact .nilSl _ | exact .ownSl _ _ _  | exact SV.le.ownEq (by first | (rw [flat_succ hx, List.length_append]; simp; done) | simp) | exact SV.le.of_eq (by first | (rw [flat_succ hx, List.length_append]; simp; done) | simp)) (Slots.cons rfl (by first | exact .refl _ | exact .nilOwn _ _ | exact .nilSl _ | exact .ownSl _ _ _  | exact SV.le.ownEq (by first | (rw [flat_succ hx, List.length_append]; simp; done) | simp) | exact SV.le.of_eq (by first | (rw [flat_succ hx, List.length_append]; simp; done) | simp)) (Slots.cons rfl (by first | exact .refl _ | exact .nilOwn _ _ | exact .nilSl _ | exact .ownSl _ _ _  | exact SV.le.ownEq (by first | (rw [flat_succ hx, List.length_append]; simp; done) | simp) | exact SV.le.of_eq (by first | (rw [flat_succ hx, List.length_append]; simp; done) | simp)) Slots.nil))))), (by first | exact List.Sublist.refl _ | exact .cons_cons _ (.cons _ (.refl _)) | exact List.nil_sublist _ | exact .cons _ (.refl _) | exact .cons _ (.cons _ (.refl _)) | exact .cons _ (.cons _ (.cons _ (.refl _))) | exact .cons _ (.cons _ (.cons _ (.cons _ (.refl _)))) | exact .cons_cons _ (List.nil_sublist _))⟩, (by omega), ⟨k + 1, rfl, rfl, (by omega)⟩⟩
 ·
  have hge : ls.length ≤ k := by have := of_decide_eq_false hc0; simp at this; omega
  obtain rfl : k = ls.length := by omega
  rw [List.take_length]
  refine awp_exit ?_
  refine x_thenE ?_
  refine x_thenE ?_
  refine x_blockE ?_
  refine x_then ?_
  refine awp_seq ?_
  refine awp_region ?_
  refine r_move rfl rfl ?_
  refine r_callO hq rfl rfl (.cons (.ev rfl rfl) (.cons (.ev rfl rfl) .nil)) (growN_ok ls.flatten.length h0 hl) rfl TF.en72 (by first | exact List.Sublist.refl _ | exact .cons_cons _ (.cons _ (.refl _)) | exact List.nil_sublist _ | exact .cons _ (.refl _) | exact .cons _ (.cons _ (.refl _)) | exact .cons _ (.cons _ (.cons _ (.refl _))) | exact .cons _ (.cons _ (.cons _ (.cons _ (.refl _)))) | exact .cons_cons _ (List.nil_sublist _)) rfl (fun r nobjs hr => ?_)
  obtain ⟨g, cap, ext, rfl, rfl, hcap, hext⟩ := hr
  refine r_assign rfl rfl ?_
  refine awl_nil ?_
  refine x_then ?_
  refine awp_seq ?_
  refine awp_seq ?_
  refine awp_region ?_
  refine r_move rfl rfl ?_
  first | (refine r_lenS rfl rfl TF.sl151 rfl ?_) | (refine r_lenNil rfl TF.sl151 rfl ?_)
  refine r_move rfl rfl ?_
  refine awl_nil ?_
  refine x_then ?_
  refine awp_block ?_
  refine awp_loop (fun nn0 S => ∃ k : Nat, ∃ e : List AV, S = ⟨36, [(0, .a (.sl 1 (ls.map fun l => [.sl 1 l]))), (6, .a (.v (.slice (some ⟨g, 0, none⟩) ((ls.take k).flatten.length) (cap)))), (25, .a (.sl 1 (ls.map fun l => [.sl 1 l]))), (26, .a (.v (.int .i64 (((ls.map fun l => [AV.sl 1 l]).length : Nat))))), (27, .a (.v (.int .i64 ((k : Int)))))], [⟨g, true, .box ((ls.take k).flatten.flatten ++ e)⟩]⟩ ∧ nn0 = ls.length - k ∧ (k ≤ ls.length) ∧ (((ls.take k).flatten.flatten ++ e).length = cap * 1)) (ls.length - (0)) ⟨36, [(0, .a (.sl 1 (ls.map fun l => [.sl 1 l]))), (6, .a (.v (.slice (some ⟨g, 0, none⟩) ((ls.take (0)).flatten.length) (cap)))), (25, .a (.sl 1 (ls.map fun l => [.sl 1 l]))), (26, .a (.v (.int .i64 (((ls.map fun l => [AV.sl 1 l]).length : Nat))))), (27, .a (.v (.int .i64 (((0) : Int)))))], [⟨g, true, .box ((ls.take (0)).flatten.flatten ++ (ext))⟩]⟩ ⟨rfl, (Slots.cons rfl (by first | exact .refl _ | exact .nilOwn _ _ | exact .nilSl _ | exact .ownSl _ _ _  | exact SV.le.of_eq (by simp)) (Slots.cons rfl (by first | exact .refl _ | exact .nilOwn _ _ | exact .nilSl _ | exact .ownSl _ _ _  | exact SV.le.of_eq (by simp)) (Slots.cons rfl (by first | exact .refl _ | exact .nilOwn _ _ | exact .nilSl _ | exact .ownSl _ _ _  | exact SV.le.of_eq (by simp)) (Slots.cons rfl (by first | exact .refl _ | exact .nilOwn _ _ | exact .nilSl _ | exact .ownSl _ _ _  | exact SV.le.of_eq (by simp)) (Slots.cons rfl (by first | exact .refl _ | exact .nilOwn _ _ | exact .nilSl _ | exact .ownSl _ _ _  | exact SV.le.of_eq (by simp)) Slots.nil))))), (by first | exact List.Sublist.refl _ | exact .cons_cons _ (.cons _ (.refl _)) | exact List.nil_sublist _ | exact .cons _ (.refl _) | exact .cons _ (.cons _ (.refl _)) | exact .cons _ (.cons _ (.cons _ (.refl _))) | exact .cons _ (.cons _ (.cons _ (.cons _ (.refl _)))) | exact .cons_cons _ (List.nil_sublist _))⟩ ⟨0, ext, rfl, rfl, Nat.zero_le _, (by simpa using hext)⟩ ?_
  rintro nn0 _ ⟨k, e, rfl, rfl, hk, he⟩
  refine awp_seq ?_
  refine awp_region ?_
  refine r_cmp rfl rfl rfl rfl ?_
  refine awl_nil ?_
  refine x_then ?_
  refine awp_seq ?_
  refine awp_cond rfl (fun hc2 => ?_) (fun hc2 => ?_)
  ·
   have hltx : k < ls.length := by have := of_decide_eq_true hc2; simpa using this
   obtain ⟨x, hx⟩ := get_lt hltx
   have hxz := hz x (List.mem_of_getElem? hx)
   have hxf := flat_len hxz
   have hkf := flat_len (htk k)
   have h2 := sum_take ls (k + 1)
   rw [flat_succ hx, List.length_append] at h2
   have hel : (ls.take k).flatten.length * 1 + e.length = cap * 1 := by rw [← he, List.length_append, hkf]
   refine awp_skip ?_
   refine x_then ?_
   refine awp_seq ?_
   refine awp_block ?_
   refine awp_seq ?_
   refine awp_region ?_
   refine r_index rfl rfl rfl TF.sl151 TF.sz107 (by omega) (get_map hx) rfl ?_
   first | (refine r_load1 rfl TF.agg107 rfl ?_) | (refine r_load1b 0 rfl rfl rfl TF.agg107 rfl ?_)
   refine r_assign rfl rfl ?_
   refine awl_nil ?_
   refine x_then ?_
   refine awp_region ?_
   refine r_move rfl rfl ?_
   refine r_move rfl rfl ?_
   refine r_appendE 0 ((ls.take k).flatten.flatten ++ x.flatten ++ e.drop (x.length * 1)) rfl (srcOk_all rfl rfl) hxf rfl TF.sl107 TF.sz100 (by decide) (by omega) (by rw [List.length_append, hkf]; omega) (by rw [← hkf, List.take_left, ← hxf, List.drop_length_add_append]) rfl ?_
   refine r_assign rfl rfl ?_
   refine awl_nil ?_
   refine x_block ?_
   refine x_then ?_
   refine awp_region ?_
   refine r_ari _ rfl rfl rfl (wrap_id (by first | omega | (simp; omega))) rfl ?_
   refine r_move rfl rfl ?_
   refine awl_nil ?_
   refine x_then ?_
   refine ⟨ls.length - (k + 1), ⟨36, [(0, .a (.sl 1 (ls.map fun l => [.sl 1 l]))), (6, .a (.v (.slice (some ⟨g, 0, none⟩) ((ls.take (k + 1)).flatten.length) (cap)))), (25, .a (.sl 1 (ls.map fun l => [.sl 1 l]))), (26, .a (.v (.int .i64 (((ls.map fun l => [AV.sl 1 l]).length : Nat))))), (27, .a (.v (.int .i64 (((k + 1) : Int)))))], [⟨g, true, .box ((ls.take (k + 1)).flatten.flatten ++ (e.drop (x.length * 1)))⟩]⟩, ⟨rfl, (Slots.cons rfl (by first | exact .refl _ | exact .nilOwn _ _ | exact .nilSl _ | exact .ownSl _ _ _  | exact SV.le.ownEq (by first | (rw [flat_succ hx, List.length_append]; done) | simp) | exact SV.le.of_eq (by first | (rw [flat_succ hx, List.length_append]; done) | simp)) (Slots.cons rfl (by first | exact .refl _ | exact .nilOwn _ _ | exact .nilSl _ | exact .ownSl _ _ _  | exact SV.le.ownEq (by first | (rw [flat_succ hx, List.length_append]; done) | simp) | exact SV.le.of_eq (by first | (rw [flat_succ hx, List.length_append]; done) | simp)) (Slots.cons rfl (by first | exact .refl _ | exact .nilOwn _ _ | exact .nilSl _ | exact .ownSl _ _ _  | exact SV.le.ownEq (by first | (rw [flat_succ hx, List.length_append]; done) | simp) | exact SV.le.of_eq (by first | (rw [flat_succ hx, List.length_append]; done) | simp)) (Slots.cons rfl (by first | exact .refl _ | exact .nilOwn _ _ | exact .nilSl _ | exact .ownSl _ _ _  | exact SV.le.ownEq (by first | (rw [flat_succ hx, List.length_append]; done) | simp) | exact SV.le.of_eq (by first | (rw [flat_succ hx, List.length_append]; done) | simp)) (Slots.cons rfl (by first | exact .refl _ | exact .nilOwn _ _ | exact .nilSl _ | exact .ownSl _ _ _  | exact SV.le.ownEq (by first | (rw [flat_succ hx, List.length_append]; done) | simp) | exact SV.le.of_eq (by first | (rw [flat_succ hx, List.length_append]; done) | simp)) Slots.nil))))), (by rw [flat_succ hx, List.flatten_append]; exact List.Sublist.refl _)⟩, (by omega), ⟨k + 1, e.drop (x.length * 1), rfl, rfl, (by omega), (by rw [flat_succ hx, List.flatten_append, List.length_append, List.length_append, List.length_drop, hxf]; rw [List.length_append] at he; omega)⟩⟩
  ·
   have hge : ls.length ≤ k := by have := of_decide_eq_false hc2; simp at this; omega
   obtain rfl : k = ls.length := by omega
   rw [List.take_length] at he ⊢
   refine awp_exit ?_
   refine x_thenE ?_
   refine x_thenE ?_
   refine x_blockE ?_
   refine x_then ?_
   refine awp_seq ?_
   refine awp_region ?_
   refine awl_imp (imp_commitS 0 6 (sz := 1) (l := ls.flatten) (ext := e) rfl rfl rfl rfl (by omega) hz' he h1') ?_
   refine r_move rfl rfl ?_
   refine r_assign rfl rfl ?_
   refine awl_nil ?_
   refine x_then ?_
   refine awp_ret ?_
   exact ⟨(.inl rfl), _, [], (.one (by first | exact .mk rfl rfl | exact .nil rfl)), ⟨rfl, rfl⟩, (List.nil_sublist _), (by simp)⟩
end Go.Proofs.Ytpkodkoooaldlaa.A
namespace Go.Proofs.Ytpkodkoooaldlaa.A
open Go Go.RowKit
set_option linter.unusedVariables false
set_option linter.unusedSimpArgs false
def Ct : Nat → Type
  | 0 => Sp × Int
  | h + 1 => Nat × List (Ct h)
abbrev Nd (h : Nat) := Nat × List (Ct h)
@[reducible] def itsOf (n : Nd 0) : List (Sp × Int) := n.2
@[reducible] def kdsOf {h : Nat} (n : Nd (h + 1)) : List (Nd h) := n.2
def keysOf : (h : Nat) → List (Ct h) → List Sp
  | 0, l => List.map (fun p : Sp × Int => p.1) l
  | h + 1, l => List.map (fun n : Nd h => (keysOf h n.2).headD Sp.z) l
def valsOf : (h : Nat) → List (Ct h) → List Int
  | 0, l => List.map (fun p : Sp × Int => p.2) l
  | _ + 1, _ => []
def enc : (h : Nat) → Nd h → AV
  | 0, n => ndA n.1 (keysOf 0 n.2) (valsOf 0 n.2) []
  | h + 1, n => ndA n.1 (keysOf (h + 1) n.2) [] (List.map (enc h) n.2)
def kidsOf : (h : Nat) → List (Ct h) → List AV
  | 0, _ => []
  | h + 1, l => List.map (enc h) l
theorem enc_eq : ∀ (h : Nat) (n : Nd h), enc h n = ndA n.1 (keysOf h n.2) (valsOf h n.2) (kidsOf h n.2)
  | 0, _ => rfl
  | _ + 1, _ => rfl
theorem keysOf_len : ∀ (h : Nat) (l : List (Ct h)), (keysOf h l).length = l.length
  | 0, l => show (List.map (fun p : Sp × Int => p.1) l).length = _ from List.length_map _
  | h + 1, l => show (List.map (fun n : Nd h => (keysOf h n.2).headD Sp.z) l).length = _ from List.length_map _
def wfC (lo : Nat) : (h : Nat) → List (Ct h) → Prop
  | 0, l => lo ≤ l.length ∧ l.length ≤ 4
  | h + 1, l => lo ≤ l.length ∧ l.length ≤ 4 ∧ ∀ n ∈ (l : List (Nd h)), wfC 2 h n.2
theorem wfC.lo {lo : Nat} : ∀ {h : Nat} {l : List (Ct h)}, wfC lo h l → lo ≤ l.length
  | 0, _, h => h.1
  | _ + 1, _, h => h.1
theorem wfC.hi {lo : Nat} : ∀ {h : Nat} {l : List (Ct h)}, wfC lo h l → l.length ≤ 4
  | 0, _, h => h.2
  | _ + 1, _, h => h.2.1
theorem wfC.mono {lo lo' : Nat} (hl : lo' ≤ lo) : ∀ {h : Nat} {l : List (Ct h)}, wfC lo h l → wfC lo' h l
  | 0, _, h => ⟨Nat.le_trans hl h.1, h.2⟩
  | _ + 1, _, h => ⟨Nat.le_trans hl h.1, h.2⟩
theorem wfC.to {lo lo' : Nat} : ∀ {h : Nat} {l : List (Ct h)}, wfC lo h l → lo' ≤ l.length → wfC lo' h l
  | 0, _, h, hl => ⟨hl, h.2⟩
  | _ + 1, _, h, hl => ⟨hl, h.2⟩
theorem wfC.kid {lo h : Nat} {l : List (Nd h)} (hw : wfC lo (h + 1) l) {n : Nd h} (hn : n ∈ l) : wfC 2 h n.2 := hw.2.2 n hn
theorem wfC.ne {lo h : Nat} {l : List (Ct h)} (hw : wfC lo h l) (h0 : 0 < lo) : ∃ x, (keysOf h l)[0]? = some x :=
  ⟨_, List.getElem?_eq_getElem (by rw [keysOf_len]; exact Nat.lt_of_lt_of_le h0 hw.lo)⟩
theorem headD_get {l : List Sp} {x : Sp} (h : l[0]? = some x) : l.headD Sp.z = x := by
  cases l with
  | nil => simp at h
  | cons y r => simpa using h
theorem findL_le {k : Sp} : ∀ {l : List Sp}, (findL k l).1 ≤ l.length
  | [] => Nat.le_refl _
  | x :: r => by
    unfold findL
    split
    · exact Nat.zero_le _
    · exact Nat.succ_le_succ findL_le
theorem findL_had {k : Sp} : ∀ {l : List Sp}, (findL k l).2 = true → (findL k l).1 < l.length
  | [], h => by cases h
  | x :: r, h => by
    unfold findL at h ⊢
    split
    · simp
    · rename_i hx
      rw [if_neg hx] at h
      exact Nat.succ_lt_succ (findL_had h)
theorem findR_lt {k : Sp} {l : List Sp} (h0 : 0 < l.length) : ∀ {n : Nat}, n ≤ l.length → (findR k l n).1 < l.length
  | 0, _ => h0
  | n + 1, hn => by
    unfold findR
    split
    · split
      · exact hn
      · exact findR_lt h0 (by omega)
    · exact findR_lt h0 (by omega)
def kksOf (h : Nat) (l : List (Nd h)) : List Sp := keysOf (h + 1) l
theorem kksOf_len (h : Nat) (l : List (Nd h)) : (kksOf h l).length = l.length := keysOf_len (h + 1) l
def wayI (h : Nat) (k : Sp) (l : List (Nd h)) : Nat := (findR k (kksOf h l) (kksOf h l).length).1
theorem wayI_lt {h : Nat} {k : Sp} {l : List (Nd h)} (h0 : 0 < l.length) : wayI h k l < l.length := by
  have hl := kksOf_len h l
  have := findR_lt (k := k) (l := kksOf h l) (by rw [hl]; exact h0) (n := (kksOf h l).length) (Nat.le_refl _)
  unfold wayI
  rw [hl] at this ⊢
  exact this
def halvesG {α : Type} (l : List α) : List (List α) := if l.length ≤ 4 then [l] else [l.take ((l.length + 1) / 2), l.drop ((l.length + 1) / 2)]
def putL (k : Sp) (v : Int) (l : List (Sp × Int)) : List (Sp × Int) :=
  let f := findL k (l.map fun p => p.1)
  if f.2 = true then l.modify f.1 (fun p => (p.1, v)) else l.take f.1 ++ (k, v) :: l.drop f.1
def PutR : (h : Nat) → Nd h → Sp → Int → List (Nd h) → Prop
  | 0, n, k, v, l => l.map itsOf = halvesG (putL k v (itsOf n))
  | h + 1, n, k, v, l => ∃ (kid : Nd h) (l' : List (Nd h)), (kdsOf n)[wayI h k (kdsOf n)]? = some kid ∧ PutR h kid k v l' ∧ l.map kdsOf = halvesG ((kdsOf n).take (wayI h k (kdsOf n)) ++ l' ++ (kdsOf n).drop (wayI h k (kdsOf n) + 1))
def JoinR {h : Nat} (a b : Nd h) (l : List (Nd h)) : Prop := l.map (fun m => m.2) = halvesG (a.2 ++ b.2)
def FixR {h : Nat} (l : List (Nd h)) (i : Nat) (c : Nd h) (l' : List (Nd h)) : Prop :=
  if c.2.length < 2 ∧ 1 < l.length then ∃ j a b m, j = (if i = l.length - 1 then i - 1 else i) ∧ (l.set i c)[j]? = some a ∧ (l.set i c)[j + 1]? = some b ∧ JoinR a b m ∧ l' = (l.set i c).take j ++ m ++ (l.set i c).drop (j + 2)
  else l' = l.set i c
def DelR : (h : Nat) → Nd h → Sp → Option (Nd h) → Prop
  | 0, n, k, r => if (findL k ((itsOf n).map fun p => p.1)).2 = true then ∃ b, r = some (b, (itsOf n).eraseIdx (findL k ((itsOf n).map fun p => p.1)).1) else r = none
  | h + 1, n, k, r => ∃ (kid : Nd h) (r' : Option (Nd h)), (kdsOf n)[wayI h k (kdsOf n)]? = some kid ∧ DelR h kid k r' ∧
      match r' with
      | none => r = none
      | some c => ∃ (b : Nat) (l' : List (Nd h)), FixR (kdsOf n) (wayI h k (kdsOf n)) c l' ∧ r = some (b, l')
theorem halvesG_wf {α : Type} {l : List α} {lo : Nat} (h1 : lo ≤ l.length) (h2 : lo ≤ 2) (h3 : l.length ≤ 8) : ∀ m ∈ halvesG l, lo ≤ m.length ∧ m.length ≤ 4 ∧ ∀ x ∈ m, x ∈ l := by
  intro m hm
  unfold halvesG at hm
  split at hm
  · obtain rfl := List.mem_singleton.1 hm
    exact ⟨h1, by assumption, fun x h => h⟩
  · rename_i h4
    simp only [List.mem_cons, List.not_mem_nil, or_false] at hm
    rcases hm with rfl | rfl
    · exact ⟨by rw [List.length_take]; omega, by rw [List.length_take]; omega, fun x h => List.mem_of_mem_take h⟩
    · exact ⟨by rw [List.length_drop]; omega, by rw [List.length_drop]; omega, fun x h => List.mem_of_mem_drop h⟩
theorem halvesG_len {α : Type} {l : List α} : 1 ≤ (halvesG l).length ∧ (halvesG l).length ≤ 2 := by
  unfold halvesG; split <;> simp
theorem halvesG_flat {α : Type} {l : List α} : (halvesG l).flatten = l := by
  unfold halvesG; split <;> simp
theorem putL_len {k : Sp} {v : Int} {l : List (Sp × Int)} : l.length ≤ (putL k v l).length ∧ (putL k v l).length ≤ l.length + 1 := by
  unfold putL
  simp only
  split
  · simp
  · have := findL_le (k := k) (l := l.map fun p => p.1)
    rw [List.length_map] at this
    simp; omega
theorem putR_wf : ∀ (h : Nat) {lo : Nat} (h0 : 1 ≤ lo) (h2 : lo ≤ 2) {n : Nd h} {k : Sp} {v : Int} {l : List (Nd h)}, wfC lo h n.2 → PutR h n k v l → (∀ m ∈ l, wfC lo h m.2) ∧ 1 ≤ l.length ∧ l.length ≤ 2 ∧ (1 < l.length → ∀ m ∈ l, wfC 2 h m.2)
  | 0, lo, h0, h2, n, k, v, l, hw, hr => by
    have hr' : l.map itsOf = halvesG (putL k v (itsOf n)) := hr
    have hl : l.length = (halvesG (putL k v (itsOf n))).length := by rw [← hr', List.length_map]
    have hp := putL_len (k := k) (v := v) (l := itsOf n)
    have hb := halvesG_len (l := putL k v (itsOf n))
    have w1 : lo ≤ (itsOf n).length := hw.1
    have w2 : (itsOf n).length ≤ 4 := hw.2
    have hm' : ∀ m ∈ l, itsOf m ∈ halvesG (putL k v (itsOf n)) := fun m hm => by rw [← hr']; exact List.mem_map.2 ⟨m, hm, rfl⟩
    refine ⟨fun m hm => ?_, by omega, by omega, fun h1 m hm => ?_⟩
    · have := halvesG_wf (lo := lo) (by omega) h2 (by omega) _ (hm' m hm)
      exact ⟨this.1, this.2.1⟩
    · have h4 : ¬ (putL k v (itsOf n)).length ≤ 4 := fun h4 => by rw [hl] at h1; unfold halvesG at h1; rw [if_pos h4] at h1; simp at h1
      have := halvesG_wf (lo := 2) (by omega) (Nat.le_refl _) (by omega) _ (hm' m hm)
      exact ⟨this.1, this.2.1⟩
  | h + 1, lo, h0, h2, n, k, v, l, hw, ⟨kid, l', hk, hr', hr⟩ => by
    have w1 : lo ≤ (kdsOf n).length := hw.1
    have w2 : (kdsOf n).length ≤ 4 := hw.2.1
    have hw3 : ∀ x ∈ kdsOf n, wfC 2 h x.2 := hw.2.2
    have ih := putR_wf h (Nat.le_succ 1) (Nat.le_refl 2) (hw3 _ (List.mem_of_getElem? hk)) hr'
    have hlt := (List.getElem?_eq_some_iff.1 hk).1
    generalize hL : (kdsOf n).take (wayI h k (kdsOf n)) ++ l' ++ (kdsOf n).drop (wayI h k (kdsOf n) + 1) = L at hr
    have hmem : ∀ x ∈ L, wfC 2 h x.2 := fun x hx => by
      rw [← hL] at hx
      rcases List.mem_append.1 hx with hx | hx
      · rcases List.mem_append.1 hx with hx | hx
        · exact hw3 _ (List.mem_of_mem_take hx)
        · exact ih.1 x hx
      · exact hw3 _ (List.mem_of_mem_drop hx)
    have hl : l.length = (halvesG L).length := by rw [← hr, List.length_map]
    have hlen : L.length = (kdsOf n).length - 1 + l'.length := by
      rw [← hL]; simp only [List.length_append, List.length_take, List.length_drop]; omega
    have hb := halvesG_len (l := L)
    have ih2 := ih.2.1; have ih3 := ih.2.2.1
    have hm' : ∀ m ∈ l, kdsOf m ∈ halvesG L := fun m hm => by rw [← hr]; exact List.mem_map.2 ⟨m, hm, rfl⟩
    refine ⟨fun m hm => ?_, by omega, by omega, fun h1 m hm => ?_⟩
    · have := halvesG_wf (lo := lo) (by rw [hlen]; omega) h2 (by rw [hlen]; omega) _ (hm' m hm)
      exact ⟨this.1, this.2.1, fun x hx => hmem x (this.2.2 x hx)⟩
    · have h4 : ¬ L.length ≤ 4 := fun h4 => by rw [hl] at h1; unfold halvesG at h1; rw [if_pos h4] at h1; simp at h1
      have := halvesG_wf (lo := 2) (by omega) (Nat.le_refl _) (by rw [hlen]; omega) _ (hm' m hm)
      exact ⟨this.1, this.2.1, fun x hx => hmem x (this.2.2 x hx)⟩
def kidsOk : (h : Nat) → List (Ct h) → Prop
  | 0, _ => True
  | h + 1, l => ∀ n ∈ (l : List (Nd h)), wfC 2 h n.2
theorem wfC.kidsOk {lo : Nat} : ∀ {h : Nat} {l : List (Ct h)}, wfC lo h l → kidsOk h l
  | 0, _, _ => trivial
  | _ + 1, _, h => h.2.2
theorem wfC.mk {lo : Nat} : ∀ {h : Nat} {l : List (Ct h)}, lo ≤ l.length → l.length ≤ 4 → Go.Proofs.Ytpkodkoooaldlaa.A.kidsOk h l → wfC lo h l
  | 0, _, h1, h2, _ => ⟨h1, h2⟩
  | _ + 1, _, h1, h2, h3 => ⟨h1, h2, h3⟩
theorem kidsOk_sub : ∀ {h : Nat} {l m : List (Ct h)}, kidsOk h l → (∀ x ∈ m, x ∈ l) → kidsOk h m
  | 0, _, _, _, _ => trivial
  | _ + 1, _, _, hk, hs => fun n hn => hk n (hs n hn)
theorem kidsOk_app : ∀ {h : Nat} {l m : List (Ct h)}, kidsOk h l → kidsOk h m → kidsOk h (l ++ m)
  | 0, _, _, _, _ => trivial
  | _ + 1, _, _, h1, h2 => fun n hn => by rcases List.mem_append.1 hn with hn | hn; exact h1 n hn; exact h2 n hn
theorem joinR_wf {h : Nat} {a b : Nd h} {l : List (Nd h)} {lo : Nat} (h2 : lo ≤ 2) (ha : wfC 1 h a.2) (hb : wfC 1 h b.2) (hs : lo ≤ a.2.length + b.2.length) (hj : JoinR a b l) : (∀ m ∈ l, wfC lo h m.2) ∧ 1 ≤ l.length ∧ l.length ≤ 2 := by
  have hj' : l.map (fun m => m.2) = halvesG (a.2 ++ b.2) := hj
  have hl : l.length = (halvesG (a.2 ++ b.2)).length := by rw [← hj', List.length_map]
  have hb2 := halvesG_len (l := a.2 ++ b.2)
  refine ⟨fun m hm => ?_, by omega, by omega⟩
  have hm' : m.2 ∈ halvesG (a.2 ++ b.2) := by rw [← hj']; exact List.mem_map.2 ⟨m, hm, rfl⟩
  have h3 := ha.hi; have h4 := hb.hi
  have := halvesG_wf (l := a.2 ++ b.2) (lo := lo) (by rw [List.length_append]; exact hs) h2 (by rw [List.length_append]; omega) _ hm'
  exact wfC.mk this.1 this.2.1 (kidsOk_sub (kidsOk_app ha.kidsOk hb.kidsOk) this.2.2)
theorem fixR_wf {h : Nat} {l l' : List (Nd h)} {i : Nat} {c : Nd h} (hi : i < l.length) (hl : 2 ≤ l.length) (h4 : l.length ≤ 4) (hw : ∀ n ∈ l, wfC 2 h n.2) (hc : wfC 1 h c.2) (hf : FixR l i c l') : (∀ n ∈ l', wfC 2 h n.2) ∧ l.length - 1 ≤ l'.length ∧ l'.length ≤ l.length := by
  have hset : ∀ n ∈ l.set i c, n = c ∨ n ∈ l := fun n hn => by
    rcases List.mem_or_eq_of_mem_set hn with h | h
    · exact .inr h
    · exact .inl h
  unfold FixR at hf
  split at hf
  · rename_i hc2
    obtain ⟨j, a, b, m, hj, ha, hb, hm, rfl⟩ := hf
    have hjl : j + 1 < l.length := by have := (List.getElem?_eq_some_iff.1 hb).1; rwa [List.length_set] at this
    have hij : j = i ∨ j + 1 = i := by split at hj <;> omega
    have w1 : ∀ n, n = c ∨ n ∈ l → wfC 1 h n.2 := fun n hn => by rcases hn with rfl | hn; exact hc; exact (hw n hn).mono (by omega)
    have hne : ∀ (q : Nat) (n : Nd h), q ≠ i → (l.set i c)[q]? = some n → n ∈ l := fun q n hq hn => by
      rw [List.getElem?_set, if_neg (fun e => hq e.symm)] at hn; exact List.mem_of_getElem? hn
    have hsum : 2 ≤ a.2.length + b.2.length := by
      have h1 := (w1 a (hset a (List.mem_of_getElem? ha))).lo
      have h2 := (w1 b (hset b (List.mem_of_getElem? hb))).lo
      omega
    obtain ⟨q1, q2, q3⟩ := joinR_wf (lo := 2) (Nat.le_refl _) (w1 a (hset a (List.mem_of_getElem? ha))) (w1 b (hset b (List.mem_of_getElem? hb))) hsum hm
    refine ⟨fun n hn => ?_, ?_, ?_⟩
    · rcases List.mem_append.1 hn with hn | hn
      · rcases List.mem_append.1 hn with hn | hn
        · obtain ⟨q, hq⟩ := List.getElem?_of_mem hn
          rw [List.getElem?_take] at hq
          split at hq
          · exact hw n (hne q n (by omega) hq)
          · cases hq
        · exact q1 n hn
      · obtain ⟨q, hq⟩ := List.getElem?_of_mem hn
        rw [List.getElem?_drop] at hq
        exact hw n (hne _ n (by omega) hq)
    · simp only [List.length_append, List.length_take, List.length_drop, List.length_set]; omega
    · simp only [List.length_append, List.length_take, List.length_drop, List.length_set]; omega
  · rename_i hc2
    subst hf
    refine ⟨fun n hn => ?_, by rw [List.length_set]; omega, by rw [List.length_set]; omega⟩
    rcases hset n hn with rfl | hn
    · exact hc.to (by omega)
    · exact hw n hn
theorem delR_wf : ∀ (h : Nat) {lo : Nat} (h1 : 1 ≤ lo) {n c : Nd h} {k : Sp}, wfC lo h n.2 → (0 < h → 2 ≤ n.2.length) → DelR h n k (some c) → wfC (lo - 1) h c.2
  | 0, lo, h1, n, c, k, hw, _, hd => by
    unfold DelR at hd
    split at hd
    · rename_i hh
      obtain ⟨b, hb⟩ := hd
      have hlt := findL_had hh
      rw [List.length_map] at hlt
      cases hb
      have w1 : lo ≤ (itsOf n).length := hw.1
      have w2 : (itsOf n).length ≤ 4 := hw.2
      have he : ((itsOf n).eraseIdx (findL k ((itsOf n).map fun p => p.1)).1).length = (itsOf n).length - 1 := List.length_eraseIdx_of_lt hlt
      exact ⟨by show lo - 1 ≤ ((itsOf n).eraseIdx _).length; omega, by show ((itsOf n).eraseIdx _).length ≤ 4; omega⟩
    · cases hd
  | h + 1, lo, h1, n, c, k, hw, h2, ⟨kid, r', hk, hd, hr⟩ => by
    have w1 : lo ≤ (kdsOf n).length := hw.1
    have w2 : (kdsOf n).length ≤ 4 := hw.2.1
    have hw3 : ∀ x ∈ kdsOf n, wfC 2 h x.2 := hw.2.2
    have w4 : 2 ≤ (kdsOf n).length := h2 (Nat.succ_pos _)
    cases r' with
    | none => cases hr
    | some c' =>
      obtain ⟨b, l', hf, hb⟩ := hr
      cases hb
      have hkw := hw3 kid (List.mem_of_getElem? hk)
      have hc' := delR_wf h (Nat.le_succ 1) hkw (fun _ => hkw.lo) hd
      obtain ⟨g1, g2, g3⟩ := fixR_wf (List.getElem?_eq_some_iff.1 hk).1 w4 w2 hw3 hc' hf
      exact ⟨by show lo - 1 ≤ l'.length; omega, by show l'.length ≤ 4; omega, g1⟩
theorem enc_one (h : Nat) (n : Nd h) : (enc h n).one = true := by rw [enc_eq]; rfl
theorem encs_ok {h : Nat} {ls : List (List (List AV))} {L : List (Nd h)} (hf : ls.flatten = L.map fun n => [enc h n]) : (∀ l, l ∈ ls → ∀ c, c ∈ l → c.length = 1) ∧ (∀ l, l ∈ ls → l.flatten.all AV.one = true) := by
  have key : ∀ l ∈ ls, ∀ c ∈ l, ∃ n : Nd h, c = [enc h n] := fun l hl c hc => by
    have : c ∈ ls.flatten := List.mem_flatten.2 ⟨l, hl, hc⟩
    rw [hf] at this
    obtain ⟨n, _, rfl⟩ := List.mem_map.1 this
    exact ⟨n, rfl⟩
  refine ⟨fun l hl c hc => ?_, fun l hl => ?_⟩
  · obtain ⟨n, rfl⟩ := key l hl c hc; rfl
  · rw [List.all_eq_true]
    intro x hx
    obtain ⟨c, hc, hxc⟩ := List.mem_flatten.1 hx
    obtain ⟨n, rfl⟩ := key l hl c hc
    obtain rfl := List.mem_singleton.1 hxc
    exact enc_one h n
theorem its_one (its : List Sp) : (∀ c, c ∈ its.map Sp.cs → c.length = 4) ∧ (its.map Sp.cs).flatten.all AV.one = true := by
  refine ⟨fun c h => by obtain ⟨s, _, rfl⟩ := List.mem_map.1 h; rfl, ?_⟩
  rw [List.all_eq_true]; intro x hx; obtain ⟨c, hc, hxc⟩ := List.mem_flatten.1 hx; obtain ⟨s, _, rfl⟩ := List.mem_map.1 hc
  simp only [Sp.cs, List.mem_cons, List.not_mem_nil, or_false] at hxc; rcases hxc with rfl | rfl | rfl | rfl <;> rfl
theorem vls_one (vs : List Int) : (∀ c, c ∈ vs.map u64c → c.length = 1) ∧ (vs.map u64c).flatten.all AV.one = true := by
  refine ⟨fun c h => by obtain ⟨s, _, rfl⟩ := List.mem_map.1 h; rfl, ?_⟩
  rw [List.all_eq_true]; intro x hx; obtain ⟨c, hc, hxc⟩ := List.mem_flatten.1 hx; obtain ⟨s, _, rfl⟩ := List.mem_map.1 hc
  simp only [u64c, List.mem_cons, List.not_mem_nil, or_false] at hxc; subst hxc; rfl
theorem putL_had {k : Sp} {v : Int} {l : List (Sp × Int)} (hh : (findL k (l.map fun p => p.1)).2 = true) : (putL k v l).map (fun p => p.1) = l.map (fun p => p.1) ∧ (putL k v l).map (fun p => p.2) = (l.map fun p => p.2).set (findL k (l.map fun p => p.1)).1 v ∧ (putL k v l).length = l.length := by
  unfold putL
  simp only [hh, if_true]
  refine ⟨?_, ?_, by simp⟩
  · apply List.ext_getElem?; intro i; simp only [List.getElem?_map, List.getElem?_modify]; cases l[i]? with
    | none => rfl
    | some p => simp only [Option.map_some]; split <;> rfl
  · apply List.ext_getElem?; intro i; simp only [List.getElem?_map, List.getElem?_modify, List.getElem?_set, List.length_map]
    cases hl : l[i]? with
    | none => have := List.getElem?_eq_none_iff.1 hl; split <;> (try split) <;> simp <;> omega
    | some p => have := (List.getElem?_eq_some_iff.1 hl).1; split <;> simp_all
theorem putL_new {k : Sp} {v : Int} {l : List (Sp × Int)} (hh : (findL k (l.map fun p => p.1)).2 = false) : putL k v l = l.take (findL k (l.map fun p => p.1)).1 ++ (k, v) :: l.drop (findL k (l.map fun p => p.1)).1 := by
  unfold putL; simp only [hh]; rfl
abbrev Rt := Option (Sigma Nd)
def encR : Rt → AV
  | none => nilP
  | some ⟨h, n⟩ => enc h n
def rootOf : (h : Nat) → Nd h → Rt
  | 0, c => if (itsOf c).isEmpty then none else some ⟨0, c⟩
  | h + 1, c => match (kdsOf c) with
    | [x] => rootOf h x
    | _ => some ⟨h + 1, c⟩
abbrev TreeV := Option (Rt × Int)
def encT : TreeV → AV
  | none => nilP
  | some (r, n) => .cp [encR r, .v (.int .i64 n)]
def rootT : TreeV → Rt
  | none => none
  | some (r, _) => r
def lenT : TreeV → Int
  | none => 0
  | some (_, n) => n
def wfRt : Rt → Prop
  | none => True
  | some ⟨h, n⟩ => wfC 1 h n.2 ∧ (0 < h → 2 ≤ n.2.length)
def leafAt : (h : Nat) → Nd h → Sp → List (Sp × Int)
  | 0, n, _ => itsOf n
  | h + 1, n, k => match (kdsOf n)[wayI h k (kdsOf n)]? with
    | some kid => leafAt h kid k
    | none => []
def getL (k : Sp) (l : List (Sp × Int)) : Option Int := if (findL k (l.map fun p => p.1)).2 = true then (l[(findL k (l.map fun p => p.1)).1]?).map fun p => p.2 else none
def getR : Rt → Sp → Option Int
  | none, _ => none
  | some ⟨h, n⟩, k => getL k (leafAt h n k)
def PutT (t : TreeV) (k : Sp) (v : Int) (t' : TreeV) : Prop := ∃ r', t' = some (r', lenT t + (if (getR (rootT t) k).isSome then 0 else 1)) ∧
  match rootT t with
  | none => ∃ b, r' = some ⟨0, (b, [(k, v)])⟩
  | some ⟨h, n⟩ => ∃ l, PutR h n k v l ∧ ((∃ x, l = [x] ∧ r' = some ⟨h, x⟩) ∨ (1 < l.length ∧ ∃ b, r' = some ⟨h + 1, (b, l)⟩))
def DelT (t : TreeV) (k : Sp) (t' : TreeV) : Prop :=
  match rootT t with
  | none => t' = t
  | some ⟨h, n⟩ => ∃ cr, DelR h n k cr ∧ match cr with | none => t' = t | some c => t' = some (rootOf h c, lenT t - 1)
theorem leafAt_ok {h : Nat} {n : Nd (h + 1)} {k : Sp} {kid : Nd h} (hk : (kdsOf n)[wayI h k (kdsOf n)]? = some kid) : leafAt (h + 1) n k = leafAt h kid k := by
  show (match (kdsOf n)[wayI h k (kdsOf n)]? with | some kid => leafAt h kid k | none => []) = _
  rw [hk]
theorem rootOf_wf : ∀ (h : Nat) (c : Nd h), wfC 0 h c.2 → (0 < h → 1 ≤ c.2.length) → wfRt (rootOf h c)
  | 0, c, hw, _ => by
    unfold rootOf
    split
    · trivial
    · rename_i he
      have h2 : (itsOf c).length ≤ 4 := hw.2
      have : (itsOf c).length ≠ 0 := fun e => he (by rw [List.isEmpty_iff]; exact List.eq_nil_of_length_eq_zero e)
      exact ⟨⟨by show 1 ≤ (itsOf c).length; omega, h2⟩, fun h => absurd h (Nat.lt_irrefl 0)⟩
  | h + 1, c, hw, h1 => by
    have h3 : ∀ n ∈ kdsOf c, wfC 2 h n.2 := hw.2.2
    have h4 : (kdsOf c).length ≤ 4 := hw.2.1
    have h5 : 1 ≤ (kdsOf c).length := h1 (Nat.succ_pos h)
    unfold rootOf
    split
    · rename_i x hx
      have hw2 := h3 x (by rw [hx]; exact List.mem_cons_self)
      exact rootOf_wf h x (hw2.mono (by omega)) (fun _ => Nat.le_trans (by omega) hw2.lo)
    · rename_i hx
      have h6 : 2 ≤ (kdsOf c).length := by
        rcases Nat.lt_or_ge (kdsOf c).length 2 with h7 | h7
        · exfalso
          cases hk : kdsOf c with
          | nil => rw [hk] at h5; simp at h5
          | cons y r =>
            cases r with
            | nil => exact hx y hk
            | cons z r => rw [hk] at h7; simp at h7; omega
        · exact h7
      exact ⟨⟨by show 1 ≤ (kdsOf c).length; omega, h4, h3⟩, fun _ => h6⟩
theorem putT_wf {t t' : TreeV} {k : Sp} {v : Int} (hw : wfRt (rootT t)) (hp : PutT t k v t') : wfRt (rootT t') := by
  obtain ⟨r', rfl, h⟩ := hp
  show wfRt r'
  cases hr : rootT t with
  | none =>
    rw [hr] at h
    obtain ⟨b, rfl⟩ := h
    exact ⟨⟨by show 1 ≤ [(k, v)].length; simp, by show [(k, v)].length ≤ 4; simp⟩, fun h => absurd h (Nat.lt_irrefl 0)⟩
  | some s =>
    obtain ⟨h2, n⟩ := s
    rw [hr] at h hw
    obtain ⟨l, hl, hc⟩ := h
    have h0 : wfC 1 h2 n.2 := hw.1
    rcases hc with ⟨x, rfl, rfl⟩ | ⟨h1, b, rfl⟩
    · have := (putR_wf h2 (Nat.le_refl 1) (by omega) h0 hl).1 x List.mem_cons_self
      refine ⟨this, fun hp => ?_⟩
      have h3 := (putR_wf h2 (Nat.le_succ 1) (Nat.le_refl 2) (h0.to (hw.2 hp)) hl).1 x List.mem_cons_self
      exact h3.lo
    · have := putR_wf h2 (Nat.le_refl 1) (by omega) h0 hl
      exact ⟨⟨by show 1 ≤ l.length; omega, by show l.length ≤ 4; omega, this.2.2.2 h1⟩, fun _ => h1⟩
theorem delT_wf {t t' : TreeV} {k : Sp} (hw : wfRt (rootT t)) (hp : DelT t k t') : wfRt (rootT t') := by
  unfold DelT at hp
  cases hr : rootT t with
  | none => rw [hr] at hp; simp only at hp; subst hp; rw [hr]; trivial
  | some s =>
    obtain ⟨h, n⟩ := s
    rw [hr] at hp hw
    obtain ⟨cr, hd, hc⟩ := hp
    cases cr with
    | none => simp only at hc; subst hc; rw [hr]; exact hw
    | some c =>
      simp only at hc
      subst hc
      exact rootOf_wf h c (delR_wf h (Nat.le_refl 1) hw.1 hw.2 hd) (fun h0 => (delR_wf h (Nat.le_succ 1) (hw.1.to (hw.2 h0)) hw.2 hd).lo)
end Go.Proofs.Ytpkodkoooaldlaa.A
namespace Go.Proofs.Ytpkodkoooaldlaa.A
open Go Go.RowKit
set_option linter.unusedVariables false
set_option linter.unusedSimpArgs false
set_option linter.unusedSectionVars false
variable {P : Program} {w0 : Base} {C0 C : CS} {T : TS} {S S' : AState} {a : Act} {w : World} {ops : Array Oper} {rest : List Oper} {o : Oper} {Q : Exit → AState → Prop}
variable {t : Nat} {ty ty' : TypeId} {pos : String} {aft : Array Edge}
theorem r_litC {bt e : TypeId} {n sz : Nat} {parts : List (Nat × Operand)} {pa : Array (Nat × Operand)} {zs : List Value} {l : List (Nat × AV)} {cells : List AV} (hpa : pa = parts.toArray) (hst : sliceT P bt = some e) (hsz : szT P e = some (sz + 1)) (hz : zeroT P e = some zs) (hzl : zs.length = sz + 1)
    (hsmall : Nat.ble (n * (sz + 1)) 16777216 = true) (hn0 : Nat.blt 0 n = true)
    (hl : S.parts parts = some l) (hf : fillA (fun i => some (i * (sz + 1), sz + 1)) ((zerosT zs (sz + 1) n).map AV.v) l = some cells) (h1 : cells.all AV.one = true) (hcl : Nat.beq cells.length (n * (sz + 1)) = true) (ht : Nat.blt t S.nt = true)
    (hr : AWL P w0 C0 ops rest Q (S.put t (.a (.sl (sz + 1) (chunks (sz + 1) n cells))))) : AWL P w0 C0 ops (⟨some t, .buildSlice bt n pa, ty, pos, aft, none⟩ :: rest) Q S := by
  rintro a w ⟨C, T, hs⟩
  obtain ⟨g1, g2⟩ := hs.parts hl
  obtain ⟨arr, h2, h3⟩ := fill_rel (C := C) (arr := (zerosT zs (sz + 1) n).toArray) (qs := parts.map (fun p => (p.1, a.eval p.2))) (by simpa using rels_vs _) g1 g2 hf
  have hcl' := Nat.eq_of_beq_eq_true hcl
  have hal : arr.size = n * (sz + 1) := by have := h3.1; simp at this; omega
  have hsm := Nat.le_of_ble_eq_true hsmall
  have hn1 : 0 < n := by simpa using hn0
  obtain ⟨z, hz1, hz2⟩ := run_zero hz w
  have hzs : z.cells.size = sz + 1 := by rw [hz2]; simpa using hzl
  have hzz : (Array.range (n * (sz + 1))).map (fun i => z.cells[i % z.cells.size]!) = (zerosT zs (sz + 1) n).toArray := by
    apply Array.ext'
    simp only [Array.toList_map, Array.toList_range, zerosT]
    apply List.map_congr_left
    intro i hi
    rw [hzs, hz2]
    simp [Array.getElem!_eq_getD, Array.getD_eq_getD_getElem?]
  have hrun : (Instr.buildSlice bt n (parts.map (fun p => (p.1, a.eval p.2))).toArray).run P w = .ok (.slice (some ⟨w.heap.size, 0, none⟩) n n) (w.alloc (.cells arr e)) := by
    have hn : ¬ n * (sz + 1) = 0 := fun h => by rcases Nat.mul_eq_zero.1 h with h | h <;> omega
    have hn' : ¬ (16777216 < n * (sz + 1)) := by omega
    simp only [Instr.buildSlice, Sem.run_bind, run_underlying (sliceT_un hst), run_sz hsz, Result.andThen_ok]
    have hp : ¬ (n * (sz + 1) > 2 ^ 24) := by omega
    simp only [hp, hn, if_false, Sem.run_bind, hz1, Result.andThen_ok, Sem.run_pure, hzz]
    simp [h2, newRow]
  refine wpList_plain rfl (fun K hK => ?_)
  unfold Oper.wp
  have hexec : (execOp a.eval ⟨some t, .buildSlice bt n pa, ty, pos, aft, none⟩).run P w = .ok (.value (.slice (some ⟨w.heap.size, 0, none⟩) n n)) (w.alloc (.cells arr e)) := by
    subst hpa; simp [execOp, hrun]
  rw [hexec]
  have hs' := (hs.newObj (.cells arr e) (o := .box cells) ⟨arr, e, heap_alloc_at _ _, h3⟩).put (t := t) (x := .a (.v (.slice (some ⟨w.heap.size, 0, none⟩) n n))) ht (srel_v _)
  have himp := imp_commitS (w0 := w0) (C0 := C0) (S := AState.put ⟨S.nt, S.slots, ⟨w.heap.size, true, .box cells⟩ :: S.objs⟩ t (.a (.v (.slice (some ⟨w.heap.size, 0, none⟩) n n)))) 0 t (sz := sz + 1) (l := chunks (sz + 1) n cells) (ext := []) get_put_same rfl (by rw [chunks_flat hcl', List.append_nil]) chunks_num.symm (Nat.le_refl _) (chunks_len hcl') hcl' (by rw [chunks_flat hcl']; exact h1)
  obtain ⟨C2, T2, h5⟩ := himp _ _ ⟨C, T, hs'⟩
  refine hK _ _ (hr _ _ ⟨C2, T2, h5.below, h5.com, h5.one, h5.old, h5.objs, h5.apart, h5.toks, h5.tokne, h5.size, fun t' x' hx' => h5.slots t' x' ?_, h5.defers, h5.dr⟩)
  simp only [AState.get, AState.put, find_cons] at hx' ⊢
  split
  · rename_i e1; rw [if_pos e1] at hx'; exact hx'
  · rename_i e1; rw [if_neg e1] at hx'; exact hx'
theorem imp_commitBk (i j q : Nat) {bx g n cap sz e : Nat} {cs : List AV} {l : List (List AV)} (hn : n = l.length) (hi : S.objs[i]? = some ⟨g, true, .buf sz l cap e⟩) (hj : (S.objs.eraseIdx i)[j]? = some ⟨bx, true, .box cs⟩) (hq : cs[q]? = some (.v (.slice (some ⟨g, 0, none⟩) n cap))) :
    Imp w0 C0 S ⟨S.nt, S.slots, (S.objs.eraseIdx i).set j ⟨bx, true, .box (cs.set q (.sl sz l))⟩⟩ := by
  rintro a w ⟨C, T, hs⟩
  subst hn
  have hm := mem_of_get hi
  obtain ⟨hob, hnone', hbase⟩ := hs.objs _ hm
  obtain ⟨arr, a1, a2, a3, a4, vs, a5, a6, a7⟩ := hob
  have hnone : ∀ o, C g o = none := hnone'
  have hbase' : w0.ok g := hbase rfl
  have hvl : vs.length = l.length * sz := by rw [a5.1, flat_len a4]
  have hmono := CS.add_mono (C := C) (b := g) (o := 0) (vs := vs) (fun j _ => hnone _)
  have hsub := List.eraseIdx_sublist (l := S.objs) (k := i)
  have hp' : ((⟨g, true, .buf sz l cap e⟩ : OE) :: S.objs.eraseIdx i).Perm S.objs := by
    have hp := set_take (y := (⟨g, true, .buf sz l cap e⟩ : OE)) hi
    rw [objs_same hi] at hp; exact hp
  have hne : ∀ e', e' ∈ S.objs.eraseIdx i → e'.b ≠ g := fun e' he h => by
    have := (hp'.pairwise_iff (R := fun e e' : OE => e.b ≠ e'.b) (fun h => fun e => h e.symm)).2 hs.apart
    exact (List.pairwise_cons.1 this).1 e' he h.symm
  have hstep : SimC w0 C0 (C.add g 0 vs) T ⟨S.nt, S.slots, S.objs.eraseIdx i⟩ a w := by
    refine hs.step (BelowX.refl _) (fun _ => Nat.le_refl _) (fun _ _ h => h) ?_ ?_ (fun b' o' hb' hn => CS.add_other (fun e => by subst e; rcases hbase' with h | h; omega; exact hn h)) ?_ (hs.apart.sublist hsub) ?_ hs.tokne (fun t x hx => ⟨x, hx, fun u r => SRel.mono hmono r⟩)
    · intro b' o' v hc
      rcases CS.add_cases hc with ⟨rfl, j, rfl, hj⟩ | hc'
      · refine ⟨?_, fun _ _ => ⟨arr, e, a1⟩⟩
        rw [cell_of_row w b' _ arr e (0, 0) a1, Nat.zero_add]
        have hlt := (List.getElem?_eq_some_iff.1 hj).1
        rw [← a7, List.getElem?_take, if_pos (by omega)] at hj
        simpa using hj
      · exact hs.com _ _ _ hc'
    · intro b' o' v hc
      rcases CS.add_cases hc with ⟨rfl, j, rfl, hj⟩ | hc'
      · exact a6 v (List.mem_of_getElem? hj)
      · exact hs.one _ _ _ hc'
    · intro e' he
      obtain ⟨k1, k2, k3⟩ := hs.objs e' (hsub.mem he)
      exact ⟨k1.mono hmono rfl, fun o => by rw [CS.add_other (hne e' he)]; exact k2 o, k3⟩
    · intro k j hk
      obtain ⟨k1, k2⟩ := hs.toks k j hk
      have hkb : j.b ≠ g := fun e => k2 _ hm e.symm
      exact ⟨k1.keep rfl (fun o => CS.add_other hkb), fun e he => k2 e (hsub.mem he)⟩
  have hx : Rel (C.add g 0 vs) (.sl sz l) (.slice (some ⟨g, 0, none⟩) l.length cap) :=
    rel_sl_mk g 0 rfl a3 (fun _ => rfl) (row_mk a4 (a5.mono hmono) (fun j v hj => CS.add_at hj))
  have hob := (hstep.objs _ (mem_of_get hj)).1
  obtain ⟨barr, bt, b1, b2⟩ := hob
  refine ⟨_, T, hstep.setObj hj (w' := w) (Nat.le_refl _) rfl rfl rfl rfl (fun _ _ => rfl) ⟨barr, bt, b1, by rw [List.length_set]; exact b2.1, fun j' c u h1 h2 => ?_⟩⟩
  rw [List.getElem?_set] at h1
  split at h1
  · rename_i e1
    subst e1
    split at h1
    · cases h1
      have := b2.2 _ _ _ hq h2
      cases this
      exact hx
    · cases h1
  · exact b2.2 _ _ _ h1 h2
end Go.Proofs.Ytpkodkoooaldlaa.A
namespace Go.Proofs.Ytpkodkoooaldlaa.A
open Go Go.RowKit
set_option linter.unusedVariables false
set_option linter.unusedSimpArgs false
set_option maxRecDepth 100000
theorem TF.en66 : entersT Try.prog 66 := enters_of Try.func66 (by kernel_rfl) (by kernel_rfl)
theorem TF.f115_1 : fieldT Try.prog 115 1 = some (1, 113) := by kernel_rfl
theorem TF.sz113 : szT Try.prog 113 = some 1 := by kernel_rfl
theorem TF.agg113 : aggT Try.prog 113 = some false := by kernel_rfl
theorem TF.en52 : entersT Try.prog 52 := enters_of Try.func52 (by kernel_rfl) (by kernel_rfl)
theorem TF.pl115 : placesT Try.prog 115 = some [(0, 1), (1, 1), (2, 1)] := by kernel_rfl
theorem TF.zero115 : ZeroT Try.prog 115 [.sl 4 [], .sl 1 [], .sl 1 []] := ⟨[(.slice none 0 0), (.slice none 0 0), (.slice none 0 0)], by kernel_rfl, (.cons (.nil 4) (.cons (.nil 1) (.cons (.nil 1) .nil)))⟩
theorem TF.zeroR115 : ZeroT Try.prog 115 [.v (.slice none 0 0), .v (.slice none 0 0), .v (.slice none 0 0)] := ⟨[(.slice none 0 0), (.slice none 0 0), (.slice none 0 0)], by kernel_rfl, LeCells.refl _⟩
theorem TF.agg100 : aggT Try.prog 100 = some false := by kernel_rfl
theorem TF.en44 : entersT Try.prog 44 := enters_of Try.func44 (by kernel_rfl) (by kernel_rfl)
theorem TF.en71 : entersT Try.prog 71 := enters_of Try.func71 (by kernel_rfl) (by kernel_rfl)
theorem leafs_ok (b : Nat) (ks : List Sp) (vs : List Int) (kd : List AV) (hk0 : ks ≠ []) (hl : ks.length ≤ 1000000) (hv : vs.length = ks.length) : AC Try.prog 53 [ndA b ks vs kd] [] (fun r n => ∃ g1 cap ext g2, r = .tup [.v (.slice (some ⟨g1, 0, none⟩) (ks.length) (cap)), .v (.slice (some ⟨g2, 0, none⟩) (ks.length) (ks.length))] ∧ n = [⟨g2, true, .box ((vs.map u64c).flatten ++ [])⟩, ⟨g1, true, .box ((ks.map Sp.cs).flatten ++ ext)⟩] ∧ ks.length ≤ cap ∧ ((ks.map Sp.cs).flatten ++ ext).length = cap * 4) := by
 refine ac_of_awp (rs := [2, 3]) (nt := 25) Try.func53 rfl rfl rfl rfl (fun w0 C0 hq => ?_)
 unfold ndA
 have hz : ∀ c, c ∈ ks.map Sp.cs → c.length = 4 := fun c h => by obtain ⟨s, _, rfl⟩ := List.mem_map.1 h; rfl
 have h1 : (ks.map Sp.cs).flatten.all AV.one = true := by
  rw [List.all_eq_true]; intro x hx; obtain ⟨c, hc, hxc⟩ := List.mem_flatten.1 hx; obtain ⟨s, _, rfl⟩ := List.mem_map.1 hc; simp only [Sp.cs, List.mem_cons, List.not_mem_nil, or_false] at hxc; rcases hxc with rfl | rfl | rfl | rfl <;> rfl
 have hz2 : ∀ c, c ∈ vs.map u64c → c.length = 1 := fun c h => by obtain ⟨s, _, rfl⟩ := List.mem_map.1 h; rfl
 have hvl := flat_len hz2
 rw [List.length_map] at hvl
 refine awp_seq ?_
 refine awp_region ?_
 refine r_assign rfl rfl ?_
 refine r_assign rfl rfl ?_
 refine awl_nil ?_
 refine x_then ?_
 refine awp_seq ?_
 refine awp_any (fun B S => ∃ g1 : Nat, ∃ cap : Nat, ∃ ext : List AV, ∃ g2 : Nat, ∃ sl : List (Nat × SV), S = ⟨25, sl, cond (B 10) [⟨g2, true, .box (List.replicate ks.length (.v (.int .u64 0)))⟩] [] ++ cond (B 4) [⟨g1, true, .box ((ks.map Sp.cs).flatten ++ ext)⟩] []⟩ ∧ find 0 sl = some (.a (.pt b [.sl 4 (ks.map Sp.cs), .sl 1 (vs.map u64c), .sl 1 (kd.map fun x => [x])])) ∧ (B 0 = true → find 6 sl = some (.a (.pt b [.sl 4 (ks.map Sp.cs), .sl 1 (vs.map u64c), .sl 1 (kd.map fun x => [x])]))) ∧ (B 1 = true → find 7 sl = some (.a (.pt b [.sl 4 (ks.map Sp.cs), .sl 1 (vs.map u64c), .sl 1 (kd.map fun x => [x])]))) ∧ (B 2 = true → find 8 sl = some (.a (.cp [.sl 4 (ks.map Sp.cs), .sl 1 (vs.map u64c), .sl 1 (kd.map fun x => [x])]))) ∧ (B 3 = true → find 9 sl = some (.a (.sl 4 (ks.map Sp.cs)))) ∧ (B 4 = true → find 10 sl = some (.a (.v (.slice (some ⟨g1, 0, none⟩) (ks.map Sp.cs).length cap)))) ∧ (B 5 = true → find 11 sl = some (.a (.pt b [.sl 4 (ks.map Sp.cs), .sl 1 (vs.map u64c), .sl 1 (kd.map fun x => [x])]))) ∧ (B 6 = true → find 12 sl = some (.a (.pt b [.sl 4 (ks.map Sp.cs), .sl 1 (vs.map u64c), .sl 1 (kd.map fun x => [x])]))) ∧ (B 7 = true → find 13 sl = some (.a (.cp [.sl 4 (ks.map Sp.cs), .sl 1 (vs.map u64c), .sl 1 (kd.map fun x => [x])]))) ∧ (B 8 = true → find 14 sl = some (.a (.sl 4 (ks.map Sp.cs)))) ∧ (B 9 = true → find 15 sl = some (.a (.v (.int .i64 (((ks.map Sp.cs).length : Nat)))))) ∧ (B 10 = true → find 16 sl = some (.a (.v (.slice (some ⟨g2, 0, none⟩) ks.length ks.length)))) ∧ (B 11 = true → find 4 sl = some (.a (.v (.slice (some ⟨g1, 0, none⟩) (ks.map Sp.cs).length cap)))) ∧ (B 12 = true → find 5 sl = some (.a (.v (.slice (some ⟨g2, 0, none⟩) ks.length ks.length)))) ∧ (B 4 = true → ((ks.map Sp.cs).length ≤ cap ∧ ((ks.map Sp.cs).flatten ++ ext).length = cap * 4))) TF.mixed rfl ⟨0, 0, [], 0, _, rfl, rfl, (fun h => by cases h), (fun h => by cases h), (fun h => by cases h), (fun h => by cases h), (fun h => by cases h), (fun h => by cases h), (fun h => by cases h), (fun h => by cases h), (fun h => by cases h), (fun h => by cases h), (fun h => by cases h), (fun h => by cases h), (fun h => by cases h), (fun h => by cases h)⟩ ⟨⟨⟨⟨⟨⟨⟨⟨⟨⟨⟨⟨⟨trivial
  , ⟨_, rfl, fun B S hBi hdep hcl => by
    rintro ⟨g1, cap, ext, g2, sl, rfl, h0, f0, f1, f2, f3, f4, f5, f6, f7, f8, f9, f10, f11, f12, p4⟩
    refine r_move h0 rfl ?_
    exact awl_nil ⟨rfl, g1, cap, ext, g2, _, rfl, h0, (fun h => rfl), f1, f2, f3, f4, f5, f6, f7, f8, f9, f10, f11, f12, p4⟩⟩⟩
  , ⟨_, rfl, fun B S hBi hdep hcl => by
    rintro ⟨g1, cap, ext, g2, sl, rfl, h0, f0, f1, f2, f3, f4, f5, f6, f7, f8, f9, f10, f11, f12, p4⟩
    refine r_nilCheck (f0 (hdep 0 rfl)) (by first | exact .pt _ _ | exact .v _ | exact .cp _) rfl ?_
    exact awl_nil ⟨rfl, g1, cap, ext, g2, _, rfl, h0, f0, (fun h => rfl), f2, f3, f4, f5, f6, f7, f8, f9, f10, f11, f12, p4⟩⟩⟩
  , ⟨_, rfl, fun B S hBi hdep hcl => by
    rintro ⟨g1, cap, ext, g2, sl, rfl, h0, f0, f1, f2, f3, f4, f5, f6, f7, f8, f9, f10, f11, f12, p4⟩
    first | (refine r_fieldcp (f1 (hdep 1 rfl)) TF.f115_0 TF.sz112 rfl ?_) | (refine r_fieldpt (f1 (hdep 1 rfl)) TF.f115_0 TF.sz112 rfl ?_) | (refine r_fieldb (f1 (hdep 1 rfl)) TF.f115_0 TF.sz112 rfl ?_)
    exact awl_nil ⟨rfl, g1, cap, ext, g2, _, rfl, h0, f0, f1, (fun h => rfl), f3, f4, f5, f6, f7, f8, f9, f10, f11, f12, p4⟩⟩⟩
  , ⟨_, rfl, fun B S hBi hdep hcl => by
    rintro ⟨g1, cap, ext, g2, sl, rfl, h0, f0, f1, f2, f3, f4, f5, f6, f7, f8, f9, f10, f11, f12, p4⟩
    refine r_load1 (f2 (hdep 2 rfl)) TF.agg112 rfl ?_
    exact awl_nil ⟨rfl, g1, cap, ext, g2, _, rfl, h0, f0, f1, f2, (fun h => rfl), f4, f5, f6, f7, f8, f9, f10, f11, f12, p4⟩⟩⟩
  , ⟨_, rfl, fun B S hBi hdep hcl => by
    rintro ⟨g1, cap, ext, g2, sl, rfl, h0, f0, f1, f2, f3, f4, f5, f6, f7, f8, f9, f10, f11, f12, p4⟩
    refine r_callO hq rfl rfl (.cons (.ev (f3 (hdep 3 rfl)) rfl) .nil) (cloneS_ok (ks.map Sp.cs) hz h1 (by simpa using hk0) (by simpa using hl)) rfl TF.en66 (List.nil_sublist _) rfl (fun r nobjs hr => ?_)
    obtain ⟨h1', h2', h3', rfl, rfl, hq1, hq2⟩ := hr
    refine awl_imp (imp_perm (objs := cond (B 10) [⟨g2, true, .box (List.replicate ks.length (.v (.int .u64 0)))⟩] [] ++ [⟨h1', true, .box ((ks.map Sp.cs).flatten ++ h3')⟩]) (by rw [hBi]; cases B 10 <;> (first | exact List.Perm.refl _ | exact List.Perm.swap _ _ _))) ?_
    exact awl_nil ⟨rfl, h1', h2', h3', g2, _, rfl, h0, f0, f1, f2, f3, (fun h => rfl), f5, f6, f7, f8, f9, f10, (fun h => absurd (hcl 11 4 h rfl) (by rw [hBi]; decide)), f12, (fun _ => ⟨hq1, hq2⟩)⟩⟩⟩
  , ⟨_, rfl, fun B S hBi hdep hcl => by
    rintro ⟨g1, cap, ext, g2, sl, rfl, h0, f0, f1, f2, f3, f4, f5, f6, f7, f8, f9, f10, f11, f12, p4⟩
    refine r_move h0 rfl ?_
    exact awl_nil ⟨rfl, g1, cap, ext, g2, _, rfl, h0, f0, f1, f2, f3, f4, (fun h => rfl), f6, f7, f8, f9, f10, f11, f12, p4⟩⟩⟩
  , ⟨_, rfl, fun B S hBi hdep hcl => by
    rintro ⟨g1, cap, ext, g2, sl, rfl, h0, f0, f1, f2, f3, f4, f5, f6, f7, f8, f9, f10, f11, f12, p4⟩
    refine r_nilCheck (f5 (hdep 5 rfl)) (by first | exact .pt _ _ | exact .v _ | exact .cp _) rfl ?_
    exact awl_nil ⟨rfl, g1, cap, ext, g2, _, rfl, h0, f0, f1, f2, f3, f4, f5, (fun h => rfl), f7, f8, f9, f10, f11, f12, p4⟩⟩⟩
  , ⟨_, rfl, fun B S hBi hdep hcl => by
    rintro ⟨g1, cap, ext, g2, sl, rfl, h0, f0, f1, f2, f3, f4, f5, f6, f7, f8, f9, f10, f11, f12, p4⟩
    first | (refine r_fieldcp (f6 (hdep 6 rfl)) TF.f115_0 TF.sz112 rfl ?_) | (refine r_fieldpt (f6 (hdep 6 rfl)) TF.f115_0 TF.sz112 rfl ?_) | (refine r_fieldb (f6 (hdep 6 rfl)) TF.f115_0 TF.sz112 rfl ?_)
    exact awl_nil ⟨rfl, g1, cap, ext, g2, _, rfl, h0, f0, f1, f2, f3, f4, f5, f6, (fun h => rfl), f8, f9, f10, f11, f12, p4⟩⟩⟩
  , ⟨_, rfl, fun B S hBi hdep hcl => by
    rintro ⟨g1, cap, ext, g2, sl, rfl, h0, f0, f1, f2, f3, f4, f5, f6, f7, f8, f9, f10, f11, f12, p4⟩
    refine r_load1 (f7 (hdep 7 rfl)) TF.agg112 rfl ?_
    exact awl_nil ⟨rfl, g1, cap, ext, g2, _, rfl, h0, f0, f1, f2, f3, f4, f5, f6, f7, (fun h => rfl), f9, f10, f11, f12, p4⟩⟩⟩
  , ⟨_, rfl, fun B S hBi hdep hcl => by
    rintro ⟨g1, cap, ext, g2, sl, rfl, h0, f0, f1, f2, f3, f4, f5, f6, f7, f8, f9, f10, f11, f12, p4⟩
    first | (refine r_lenS (f8 (hdep 8 rfl)) rfl TF.sl112 rfl ?_) | (refine r_lenNil (f8 (hdep 8 rfl)) TF.sl112 rfl ?_) | (refine r_lenV (f8 (hdep 8 rfl)) TF.sl112 rfl ?_)
    exact awl_nil ⟨rfl, g1, cap, ext, g2, _, rfl, h0, f0, f1, f2, f3, f4, f5, f6, f7, f8, (fun h => rfl), f10, f11, f12, p4⟩⟩⟩
  , ⟨_, rfl, fun B S hBi hdep hcl => by
    rintro ⟨g1, cap, ext, g2, sl, rfl, h0, f0, f1, f2, f3, f4, f5, f6, f7, f8, f9, f10, f11, f12, p4⟩
    refine r_makeSlice (n := ks.length) (by have := f9 (hdep 9 rfl); rw [List.length_map] at this; exact this) (by have := f9 (hdep 9 rfl); rw [List.length_map] at this; exact this) TF.sl113 TF.sz31 TF.by31 TF.zraw31 (by omega) (by omega) rfl (fun b => ?_)
    refine awl_imp (imp_perm (objs := [⟨b, true, .box (List.replicate ks.length (.v (.int .u64 0)))⟩] ++ cond (B 4) [⟨g1, true, .box ((ks.map Sp.cs).flatten ++ ext)⟩] []) (by rw [hBi]; exact List.Perm.refl _)) ?_
    exact awl_nil ⟨rfl, g1, cap, ext, b, _, rfl, h0, f0, f1, f2, f3, f4, f5, f6, f7, f8, f9, (fun h => rfl), f11, (fun h => absurd (hcl 12 10 h rfl) (by rw [hBi]; decide)), p4⟩⟩⟩
  , ⟨_, rfl, fun B S hBi hdep hcl => by
    rintro ⟨g1, cap, ext, g2, sl, rfl, h0, f0, f1, f2, f3, f4, f5, f6, f7, f8, f9, f10, f11, f12, p4⟩
    refine r_assign (f4 (hdep 4 rfl)) rfl ?_
    exact awl_nil ⟨rfl, g1, cap, ext, g2, _, rfl, h0, f0, f1, f2, f3, f4, f5, f6, f7, f8, f9, f10, (fun h => rfl), f12, p4⟩⟩⟩
  , ⟨_, rfl, fun B S hBi hdep hcl => by
    rintro ⟨g1, cap, ext, g2, sl, rfl, h0, f0, f1, f2, f3, f4, f5, f6, f7, f8, f9, f10, f11, f12, p4⟩
    refine r_assign (f10 (hdep 10 rfl)) rfl ?_
    exact awl_nil ⟨rfl, g1, cap, ext, g2, _, rfl, h0, f0, f1, f2, f3, f4, f5, f6, f7, f8, f9, f10, f11, (fun h => rfl), p4⟩⟩⟩
  (fun B S hall => by
   rintro ⟨g1, cap, ext, g2, sl, rfl, h0, f0, f1, f2, f3, f4, f5, f6, f7, f8, f9, f10, f11, f12, p4⟩
   rw [hall 4 (by decide), hall 10 (by decide)]
   obtain ⟨hq1, hq2⟩ := p4 (hall 4 (by decide))
   rw [List.length_map] at hq1
   refine x_then ?_
   refine awp_weaken (S' := ⟨25, [(0, .a (.pt b [.sl 4 (ks.map Sp.cs), .sl 1 (vs.map u64c), .sl 1 (kd.map fun x => [x])])), (4, .a (.v (.slice (some ⟨g1, 0, none⟩) (ks.map Sp.cs).length cap))), (5, .a (.v (.slice (some ⟨g2, 0, none⟩) ks.length ks.length)))], [⟨g2, true, .box (List.replicate ks.length (.v (.int .u64 0)))⟩, ⟨g1, true, .box ((ks.map Sp.cs).flatten ++ ext)⟩]⟩) ⟨rfl, (Slots.cons h0 (.refl _) (Slots.cons (f11 (hall 11 (by decide))) (.refl _) (Slots.cons (f12 (hall 12 (by decide))) (.refl _) Slots.nil))), (List.Sublist.refl _)⟩ ?_
   refine awp_seq ?_
   refine awp_region ?_
   refine r_move rfl rfl ?_
   refine r_move rfl rfl ?_
   refine r_nilCheck rfl (by first | exact .pt _ _ | exact .v _ | exact .cp _) rfl ?_
   first | (refine r_fieldcp rfl TF.f115_1 TF.sz113 rfl ?_) | (refine r_fieldpt rfl TF.f115_1 TF.sz113 rfl ?_) | (refine r_fieldb rfl TF.f115_1 TF.sz113 rfl ?_)
   first | (refine r_load1 rfl TF.agg113 rfl ?_) | (refine r_load1b 0 rfl rfl rfl TF.agg113 rfl ?_) | (refine r_load1b 1 rfl rfl rfl TF.agg113 rfl ?_)
   refine r_copyE 0 ks.length ((vs.map u64c).flatten ++ []) rfl (by simp [hv]) (List.length_pos_iff.2 hk0) (srcOk_all rfl rfl) rfl rfl TF.sl113 TF.sz31 (by decide) (by rw [hvl, hv]) (by simp) (by simp) rfl ?_
   refine awl_nil ?_
   refine x_then ?_
   refine awp_seq ?_
   refine awp_region ?_
   refine r_move rfl rfl ?_
   refine r_move rfl rfl ?_
   refine r_assign rfl rfl ?_
   refine r_assign rfl rfl ?_
   refine awl_nil ?_
   refine x_then ?_
   refine awp_ret ?_
   exact ⟨(.inl rfl), _, [⟨g2, true, .box ((vs.map u64c).flatten ++ [])⟩, ⟨g1, true, .box ((ks.map Sp.cs).flatten ++ ext)⟩], (.two (by first | exact .mk rfl rfl | exact .nil rfl) (by first | exact .mk rfl rfl | exact .nil rfl)), ⟨g1, cap, ext, g2, by rw [List.length_map]; rfl, rfl, hq1, hq2⟩, (List.Sublist.refl _), (by simp)⟩)
theorem way_ok (h : Nat) (b : Nat) (l : List (Nd h)) (h0 : 0 < l.length) (hl : l.length ≤ 1000) (k : Sp) : AC Try.prog 57 [ndA b (kksOf h l) [] (l.map (enc h)), spA k] [] (fun r n => n = [] ∧ r = .v (.int .i64 (wayI h k l : Nat))) := by
 refine ac_of_awp (rs := [4]) (nt := 21) Try.func57 rfl rfl rfl rfl (fun w0 C0 hq => ?_)
 unfold ndA
 have hemp : (l.map (enc h)).isEmpty = false := by cases l with | nil => simp at h0 | cons => rfl
 refine awp_seq ?_
 refine awp_region ?_
 refine r_box rfl rfl rfl (fun b3 => ?_)
 refine r_assign rfl rfl ?_
 refine awl_nil ?_
 refine x_then ?_
 refine awp_seq ?_
 refine awp_region ?_
 refine r_move rfl rfl ?_
 first | (refine r_loadAb 0 rfl rfl TF.agg73 TF.sz73 rfl rfl ?_) | (refine r_loadA rfl TF.agg73 TF.sz73 rfl rfl ?_)
 refine r_call0 hq rfl rfl (.cons (.ev rfl rfl) (.cons (.ev rfl rfl) .nil)) (find_ok b (kksOf h l) [] (l.map (enc h)) (by rw [kksOf_len]; omega) k) rfl TF.en52 rfl (fun r hr => ?_)
 obtain rfl := hr
 refine r_move rfl rfl ?_
 refine r_extract rfl rfl rfl ?_
 refine r_extract rfl rfl rfl ?_
 refine r_assign rfl rfl ?_
 refine r_assign rfl rfl ?_
 refine awl_nil ?_
 refine x_then ?_
 refine awp_seq ?_
 refine awp_region ?_
 refine r_move rfl rfl ?_
 refine r_move rfl rfl ?_
 refine r_nilCheck rfl (by first | exact .pt _ _ | exact .v _ | exact .cp _) rfl ?_
 first | (refine r_fieldpt rfl TF.f115_2 TF.sz107 rfl ?_) | (refine r_fieldcp rfl TF.f115_2 TF.sz107 rfl ?_) | (refine r_fieldb rfl TF.f115_2 TF.sz107 rfl ?_)
 first | (refine r_load1b 0 rfl rfl rfl TF.agg107 rfl ?_) | (refine r_load1 rfl TF.agg107 rfl ?_)
 first | (refine r_lenS rfl rfl TF.sl107 rfl ?_) | (refine r_lenNil rfl TF.sl107 rfl ?_) | (refine r_lenV rfl TF.sl107 rfl ?_)
 refine r_ari _ rfl rfl rfl (wrap_id (by first | omega | (simp; omega))) rfl ?_
 refine r_min rfl rfl rfl ?_
 refine r_assign rfl rfl ?_
 refine awl_nil ?_
 refine x_then ?_
 refine awp_ret ?_
 exact ⟨(.inl rfl), _, [], (.one (by first | exact .mk rfl rfl | exact .nil rfl)), ⟨rfl, by rw [hemp, findN, if_neg (by decide)]; have := wayI_lt (k := k) h0; unfold wayI at this ⊢; refine congrArg (fun q => AV.v (Value.int .i64 q)) ?_; simp; omega⟩, (List.nil_sublist _), (by simp)⟩
theorem halves_ok (its : List (Sp × Int)) (h7 : its.length ≤ 1000) (kl vl : List (List AV)) (hkl : kl = ((its.map fun p => p.1).map Sp.cs)) (hvl : vl = ((its.map fun p => p.2).map u64c)) : AC Try.prog 54 [.sl 4 kl, .sl 1 vl] [] (fun r n => n = [] ∧ ∃ l : List (Nd 0), l.map itsOf = halvesG its ∧ r = .sl 1 (l.map fun m => [enc 0 m])) := by
 refine ac_of_awp (rs := [4]) (nt := 37) Try.func54 rfl rfl rfl rfl (fun w0 C0 hq => ?_)
 subst hkl hvl
 refine awp_seq ?_
 refine awp_region ?_
 refine r_assign rfl rfl ?_
 refine awl_nil ?_
 refine x_then ?_
 refine awp_seq ?_
 refine awp_seq ?_
 refine awp_region ?_
 refine r_move rfl rfl ?_
 first | (refine r_lenS rfl rfl TF.sl112 rfl ?_) | (refine r_lenNil rfl TF.sl112 rfl ?_) | (refine r_lenV rfl TF.sl112 rfl ?_)
 refine r_cmp rfl rfl rfl rfl ?_
 refine awl_nil ?_
 refine x_then ?_
 refine awp_cond rfl (fun hc0 => ?_) (fun hc0 => ?_)
 ·
  have h4 : its.length ≤ 4 := by have := of_decide_eq_true hc0; simp at this; omega
  refine awp_seq ?_
  refine awp_region ?_
  refine r_move rfl rfl ?_
  refine r_move rfl rfl ?_
  refine r_build (parts := [(0, .tmp 9), (1, .tmp 10)]) rfl TF.pl115 TF.zero115 rfl rfl rfl ?_
  refine r_box rfl rfl rfl (fun b12 => ?_)
  refine awl_imp (imp_commitP 0 12 rfl rfl rfl rfl) ?_
  refine r_lit 13 (parts := [(0, .tmp 12)]) rfl TF.sl107 TF.sz100 TF.zraw100 rfl rfl rfl rfl rfl rfl rfl ?_
  refine r_assign rfl rfl ?_
  refine awl_nil ?_
  refine x_then ?_
  refine awp_ret ?_
  refine x_thenR ?_
  exact ⟨(.inl rfl), _, [], (.one (by first | exact .mk rfl rfl | exact .nil rfl)), ⟨rfl, [(b12, its)], by rw [halvesG, if_pos h4]; rfl, rfl⟩, (List.nil_sublist _), (by simp)⟩
 ·
  have h4 : ¬ its.length ≤ 4 := by have := of_decide_eq_false hc0; simp at this; omega
  refine awp_skip ?_
  refine x_then ?_
  refine awp_seq ?_
  refine awp_region ?_
  refine r_move rfl rfl ?_
  first | (refine r_lenS rfl rfl TF.sl112 rfl ?_) | (refine r_lenNil rfl TF.sl112 rfl ?_) | (refine r_lenV rfl TF.sl112 rfl ?_)
  refine r_ari _ rfl rfl rfl (wrap_id (by simp; omega)) rfl ?_
  refine r_div ((((its.length + 1) / 2) : Nat) : Int) rfl rfl (quo_some (by decide)) (by rw [show (((((its.map fun p => p.1).map Sp.cs).length : Nat) : Int) + 1) = ((its.length + 1 : Nat) : Int) by simp, show (2 : Int) = ((2 : Nat) : Int) from rfl, ← Int.ofNat_tdiv]; exact wrap_id (by omega)) rfl ?_
  refine r_assign rfl rfl ?_
  refine awl_nil ?_
  refine x_then ?_
  refine awp_seq ?_
  refine awp_any (fun B S => ∃ x27 : Nat, ∃ x35 : Nat, ∃ sl : List (Nat × SV), S = ⟨37, sl, []⟩ ∧ find 0 sl = some (.a (.sl 4 ((its.map fun p => p.1).map Sp.cs))) ∧ find 1 sl = some (.a (.sl 1 ((its.map fun p => p.2).map u64c))) ∧ find 5 sl = some (.a (.v (.int .i64 ((((its.length + 1) / 2) : Nat))))) ∧ (B 0 = true → find 18 sl = some (.a (.sl 4 ((its.map fun p => p.1).map Sp.cs)))) ∧ (B 1 = true → find 19 sl = some (.a (.v (.int .i64 ((((its.length + 1) / 2) : Nat)))))) ∧ (B 2 = true → find 20 sl = some (.a (.v (.int .i64 ((((its.length + 1) / 2) : Nat)))))) ∧ (B 3 = true → find 21 sl = some (.a (.sl 4 (((its.map fun p => p.1).map Sp.cs).take ((its.length + 1) / 2))))) ∧ (B 4 = true → find 22 sl = some (.a (.sl 1 ((its.map fun p => p.2).map u64c)))) ∧ (B 5 = true → find 23 sl = some (.a (.v (.int .i64 ((((its.length + 1) / 2) : Nat)))))) ∧ (B 6 = true → find 24 sl = some (.a (.v (.int .i64 ((((its.length + 1) / 2) : Nat)))))) ∧ (B 7 = true → find 25 sl = some (.a (.sl 1 (((its.map fun p => p.2).map u64c).take ((its.length + 1) / 2))))) ∧ (B 8 = true → find 26 sl = some (.a (.agg [.sl 4 (((its.map fun p => p.1).map Sp.cs).take ((its.length + 1) / 2)), .sl 1 (((its.map fun p => p.2).map u64c).take ((its.length + 1) / 2)), .sl 1 []]))) ∧ (B 9 = true → find 27 sl = some (.a (.pt x27 [.sl 4 (((its.map fun p => p.1).map Sp.cs).take ((its.length + 1) / 2)), .sl 1 (((its.map fun p => p.2).map u64c).take ((its.length + 1) / 2)), .sl 1 []]))) ∧ (B 10 = true → find 28 sl = some (.a (.sl 4 ((its.map fun p => p.1).map Sp.cs)))) ∧ (B 11 = true → find 29 sl = some (.a (.v (.int .i64 ((((its.length + 1) / 2) : Nat)))))) ∧ (B 12 = true → find 30 sl = some (.a (.sl 4 (((its.map fun p => p.1).map Sp.cs).drop ((its.length + 1) / 2))))) ∧ (B 13 = true → find 31 sl = some (.a (.sl 1 ((its.map fun p => p.2).map u64c)))) ∧ (B 14 = true → find 32 sl = some (.a (.v (.int .i64 ((((its.length + 1) / 2) : Nat)))))) ∧ (B 15 = true → find 33 sl = some (.a (.sl 1 (((its.map fun p => p.2).map u64c).drop ((its.length + 1) / 2))))) ∧ (B 16 = true → find 34 sl = some (.a (.agg [.sl 4 (((its.map fun p => p.1).map Sp.cs).drop ((its.length + 1) / 2)), .sl 1 (((its.map fun p => p.2).map u64c).drop ((its.length + 1) / 2)), .sl 1 []]))) ∧ (B 17 = true → find 35 sl = some (.a (.pt x35 [.sl 4 (((its.map fun p => p.1).map Sp.cs).drop ((its.length + 1) / 2)), .sl 1 (((its.map fun p => p.2).map u64c).drop ((its.length + 1) / 2)), .sl 1 []]))) ∧ (B 18 = true → find 36 sl = some (.a (.sl 1 [[(.pt x27 [.sl 4 (((its.map fun p => p.1).map Sp.cs).take ((its.length + 1) / 2)), .sl 1 (((its.map fun p => p.2).map u64c).take ((its.length + 1) / 2)), .sl 1 []])], [(.pt x35 [.sl 4 (((its.map fun p => p.1).map Sp.cs).drop ((its.length + 1) / 2)), .sl 1 (((its.map fun p => p.2).map u64c).drop ((its.length + 1) / 2)), .sl 1 []])]]))) ∧ (B 19 = true → find 4 sl = some (.a (.sl 1 [[(.pt x27 [.sl 4 (((its.map fun p => p.1).map Sp.cs).take ((its.length + 1) / 2)), .sl 1 (((its.map fun p => p.2).map u64c).take ((its.length + 1) / 2)), .sl 1 []])], [(.pt x35 [.sl 4 (((its.map fun p => p.1).map Sp.cs).drop ((its.length + 1) / 2)), .sl 1 (((its.map fun p => p.2).map u64c).drop ((its.length + 1) / 2)), .sl 1 []])]])))) TF.mixed rfl ⟨0, 0, _, rfl, rfl, rfl, rfl, (fun h => by cases h), (fun h => by cases h), (fun h => by cases h), (fun h => by cases h), (fun h => by cases h), (fun h => by cases h), (fun h => by cases h), (fun h => by cases h), (fun h => by cases h), (fun h => by cases h), (fun h => by cases h), (fun h => by cases h), (fun h => by cases h), (fun h => by cases h), (fun h => by cases h), (fun h => by cases h), (fun h => by cases h), (fun h => by cases h), (fun h => by cases h), (fun h => by cases h)⟩ ⟨⟨⟨⟨⟨⟨⟨⟨⟨⟨⟨⟨⟨⟨⟨⟨⟨⟨⟨⟨trivial
   , ⟨_, rfl, fun B S hBi hdep hcl => by
     rintro ⟨x27, x35, sl, rfl, h0, h1, h5, f0, f1, f2, f3, f4, f5, f6, f7, f8, f9, f10, f11, f12, f13, f14, f15, f16, f17, f18, f19⟩
     refine r_move h0 rfl ?_
     exact awl_nil ⟨rfl, x27, x35, _, rfl, h0, h1, h5, (fun h => rfl), f1, f2, f3, f4, f5, f6, f7, f8, f9, f10, f11, f12, f13, f14, f15, f16, f17, f18, f19⟩⟩⟩
   , ⟨_, rfl, fun B S hBi hdep hcl => by
     rintro ⟨x27, x35, sl, rfl, h0, h1, h5, f0, f1, f2, f3, f4, f5, f6, f7, f8, f9, f10, f11, f12, f13, f14, f15, f16, f17, f18, f19⟩
     refine r_move h5 rfl ?_
     exact awl_nil ⟨rfl, x27, x35, _, rfl, h0, h1, h5, f0, (fun h => rfl), f2, f3, f4, f5, f6, f7, f8, f9, f10, f11, f12, f13, f14, f15, f16, f17, f18, f19⟩⟩⟩
   , ⟨_, rfl, fun B S hBi hdep hcl => by
     rintro ⟨x27, x35, sl, rfl, h0, h1, h5, f0, f1, f2, f3, f4, f5, f6, f7, f8, f9, f10, f11, f12, f13, f14, f15, f16, f17, f18, f19⟩
     refine r_move h5 rfl ?_
     exact awl_nil ⟨rfl, x27, x35, _, rfl, h0, h1, h5, f0, f1, (fun h => rfl), f3, f4, f5, f6, f7, f8, f9, f10, f11, f12, f13, f14, f15, f16, f17, f18, f19⟩⟩⟩
   , ⟨_, rfl, fun B S hBi hdep hcl => by
     rintro ⟨x27, x35, sl, rfl, h0, h1, h5, f0, f1, f2, f3, f4, f5, f6, f7, f8, f9, f10, f11, f12, f13, f14, f15, f16, f17, f18, f19⟩
     refine r_slice3 (f0 (hdep 0 rfl)) rfl (f1 (hdep 1 rfl)) (f2 (hdep 2 rfl)) TF.sl112 TF.sz73 (by omega) (by omega) (by simp; omega) rfl ?_
     exact awl_nil ⟨rfl, x27, x35, _, rfl, h0, h1, h5, f0, f1, f2, (fun h => rfl), f4, f5, f6, f7, f8, f9, f10, f11, f12, f13, f14, f15, f16, f17, f18, f19⟩⟩⟩
   , ⟨_, rfl, fun B S hBi hdep hcl => by
     rintro ⟨x27, x35, sl, rfl, h0, h1, h5, f0, f1, f2, f3, f4, f5, f6, f7, f8, f9, f10, f11, f12, f13, f14, f15, f16, f17, f18, f19⟩
     refine r_move h1 rfl ?_
     exact awl_nil ⟨rfl, x27, x35, _, rfl, h0, h1, h5, f0, f1, f2, f3, (fun h => rfl), f5, f6, f7, f8, f9, f10, f11, f12, f13, f14, f15, f16, f17, f18, f19⟩⟩⟩
   , ⟨_, rfl, fun B S hBi hdep hcl => by
     rintro ⟨x27, x35, sl, rfl, h0, h1, h5, f0, f1, f2, f3, f4, f5, f6, f7, f8, f9, f10, f11, f12, f13, f14, f15, f16, f17, f18, f19⟩
     refine r_move h5 rfl ?_
     exact awl_nil ⟨rfl, x27, x35, _, rfl, h0, h1, h5, f0, f1, f2, f3, f4, (fun h => rfl), f6, f7, f8, f9, f10, f11, f12, f13, f14, f15, f16, f17, f18, f19⟩⟩⟩
   , ⟨_, rfl, fun B S hBi hdep hcl => by
     rintro ⟨x27, x35, sl, rfl, h0, h1, h5, f0, f1, f2, f3, f4, f5, f6, f7, f8, f9, f10, f11, f12, f13, f14, f15, f16, f17, f18, f19⟩
     refine r_move h5 rfl ?_
     exact awl_nil ⟨rfl, x27, x35, _, rfl, h0, h1, h5, f0, f1, f2, f3, f4, f5, (fun h => rfl), f7, f8, f9, f10, f11, f12, f13, f14, f15, f16, f17, f18, f19⟩⟩⟩
   , ⟨_, rfl, fun B S hBi hdep hcl => by
     rintro ⟨x27, x35, sl, rfl, h0, h1, h5, f0, f1, f2, f3, f4, f5, f6, f7, f8, f9, f10, f11, f12, f13, f14, f15, f16, f17, f18, f19⟩
     refine r_slice3 (f4 (hdep 4 rfl)) rfl (f5 (hdep 5 rfl)) (f6 (hdep 6 rfl)) TF.sl113 TF.sz31 (by omega) (by omega) (by simp; omega) rfl ?_
     exact awl_nil ⟨rfl, x27, x35, _, rfl, h0, h1, h5, f0, f1, f2, f3, f4, f5, f6, (fun h => rfl), f8, f9, f10, f11, f12, f13, f14, f15, f16, f17, f18, f19⟩⟩⟩
   , ⟨_, rfl, fun B S hBi hdep hcl => by
     rintro ⟨x27, x35, sl, rfl, h0, h1, h5, f0, f1, f2, f3, f4, f5, f6, f7, f8, f9, f10, f11, f12, f13, f14, f15, f16, f17, f18, f19⟩
     refine r_build (parts := [(0, .tmp 21), (1, .tmp 25)]) rfl TF.pl115 TF.zero115 (parts_cons (f3 (hdep 3 rfl)) (parts_cons (f7 (hdep 7 rfl)) parts_nil)) rfl rfl ?_
     exact awl_nil ⟨rfl, x27, x35, _, rfl, h0, h1, h5, f0, f1, f2, f3, f4, f5, f6, f7, (fun h => rfl), f9, f10, f11, f12, f13, f14, f15, f16, f17, f18, f19⟩⟩⟩
   , ⟨_, rfl, fun B S hBi hdep hcl => by
     rintro ⟨x27, x35, sl, rfl, h0, h1, h5, f0, f1, f2, f3, f4, f5, f6, f7, f8, f9, f10, f11, f12, f13, f14, f15, f16, f17, f18, f19⟩
     refine r_box (f8 (hdep 8 rfl)) rfl rfl (fun b27 => ?_)
     refine awl_imp (imp_commitP 0 27 rfl rfl rfl rfl) ?_
     exact awl_nil ⟨rfl, b27, x35, _, rfl, h0, h1, h5, f0, f1, f2, f3, f4, f5, f6, f7, f8, (fun h => rfl), f10, f11, f12, f13, f14, f15, f16, f17, (fun h => absurd (hcl 18 9 h rfl) (by rw [hBi]; decide)), (fun h => absurd (hcl 19 9 h rfl) (by rw [hBi]; decide))⟩⟩⟩
   , ⟨_, rfl, fun B S hBi hdep hcl => by
     rintro ⟨x27, x35, sl, rfl, h0, h1, h5, f0, f1, f2, f3, f4, f5, f6, f7, f8, f9, f10, f11, f12, f13, f14, f15, f16, f17, f18, f19⟩
     refine r_move h0 rfl ?_
     exact awl_nil ⟨rfl, x27, x35, _, rfl, h0, h1, h5, f0, f1, f2, f3, f4, f5, f6, f7, f8, f9, (fun h => rfl), f11, f12, f13, f14, f15, f16, f17, f18, f19⟩⟩⟩
   , ⟨_, rfl, fun B S hBi hdep hcl => by
     rintro ⟨x27, x35, sl, rfl, h0, h1, h5, f0, f1, f2, f3, f4, f5, f6, f7, f8, f9, f10, f11, f12, f13, f14, f15, f16, f17, f18, f19⟩
     refine r_move h5 rfl ?_
     exact awl_nil ⟨rfl, x27, x35, _, rfl, h0, h1, h5, f0, f1, f2, f3, f4, f5, f6, f7, f8, f9, f10, (fun h => rfl), f12, f13, f14, f15, f16, f17, f18, f19⟩⟩⟩
   , ⟨_, rfl, fun B S hBi hdep hcl => by
     rintro ⟨x27, x35, sl, rfl, h0, h1, h5, f0, f1, f2, f3, f4, f5, f6, f7, f8, f9, f10, f11, f12, f13, f14, f15, f16, f17, f18, f19⟩
     refine r_sliceL (f10 (hdep 10 rfl)) rfl (f11 (hdep 11 rfl)) TF.sl112 TF.sz73 (by omega) (by simp; omega) rfl ?_
     exact awl_nil ⟨rfl, x27, x35, _, rfl, h0, h1, h5, f0, f1, f2, f3, f4, f5, f6, f7, f8, f9, f10, f11, (fun h => rfl), f13, f14, f15, f16, f17, f18, f19⟩⟩⟩
   , ⟨_, rfl, fun B S hBi hdep hcl => by
     rintro ⟨x27, x35, sl, rfl, h0, h1, h5, f0, f1, f2, f3, f4, f5, f6, f7, f8, f9, f10, f11, f12, f13, f14, f15, f16, f17, f18, f19⟩
     refine r_move h1 rfl ?_
     exact awl_nil ⟨rfl, x27, x35, _, rfl, h0, h1, h5, f0, f1, f2, f3, f4, f5, f6, f7, f8, f9, f10, f11, f12, (fun h => rfl), f14, f15, f16, f17, f18, f19⟩⟩⟩
   , ⟨_, rfl, fun B S hBi hdep hcl => by
     rintro ⟨x27, x35, sl, rfl, h0, h1, h5, f0, f1, f2, f3, f4, f5, f6, f7, f8, f9, f10, f11, f12, f13, f14, f15, f16, f17, f18, f19⟩
     refine r_move h5 rfl ?_
     exact awl_nil ⟨rfl, x27, x35, _, rfl, h0, h1, h5, f0, f1, f2, f3, f4, f5, f6, f7, f8, f9, f10, f11, f12, f13, (fun h => rfl), f15, f16, f17, f18, f19⟩⟩⟩
   , ⟨_, rfl, fun B S hBi hdep hcl => by
     rintro ⟨x27, x35, sl, rfl, h0, h1, h5, f0, f1, f2, f3, f4, f5, f6, f7, f8, f9, f10, f11, f12, f13, f14, f15, f16, f17, f18, f19⟩
     refine r_sliceL (f13 (hdep 13 rfl)) rfl (f14 (hdep 14 rfl)) TF.sl113 TF.sz31 (by omega) (by simp; omega) rfl ?_
     exact awl_nil ⟨rfl, x27, x35, _, rfl, h0, h1, h5, f0, f1, f2, f3, f4, f5, f6, f7, f8, f9, f10, f11, f12, f13, f14, (fun h => rfl), f16, f17, f18, f19⟩⟩⟩
   , ⟨_, rfl, fun B S hBi hdep hcl => by
     rintro ⟨x27, x35, sl, rfl, h0, h1, h5, f0, f1, f2, f3, f4, f5, f6, f7, f8, f9, f10, f11, f12, f13, f14, f15, f16, f17, f18, f19⟩
     refine r_build (parts := [(0, .tmp 30), (1, .tmp 33)]) rfl TF.pl115 TF.zero115 (parts_cons (f12 (hdep 12 rfl)) (parts_cons (f15 (hdep 15 rfl)) parts_nil)) rfl rfl ?_
     exact awl_nil ⟨rfl, x27, x35, _, rfl, h0, h1, h5, f0, f1, f2, f3, f4, f5, f6, f7, f8, f9, f10, f11, f12, f13, f14, f15, (fun h => rfl), f17, f18, f19⟩⟩⟩
   , ⟨_, rfl, fun B S hBi hdep hcl => by
     rintro ⟨x27, x35, sl, rfl, h0, h1, h5, f0, f1, f2, f3, f4, f5, f6, f7, f8, f9, f10, f11, f12, f13, f14, f15, f16, f17, f18, f19⟩
     refine r_box (f16 (hdep 16 rfl)) rfl rfl (fun b35 => ?_)
     refine awl_imp (imp_commitP 0 35 rfl rfl rfl rfl) ?_
     exact awl_nil ⟨rfl, x27, b35, _, rfl, h0, h1, h5, f0, f1, f2, f3, f4, f5, f6, f7, f8, f9, f10, f11, f12, f13, f14, f15, f16, (fun h => rfl), (fun h => absurd (hcl 18 17 h rfl) (by rw [hBi]; decide)), (fun h => absurd (hcl 19 17 h rfl) (by rw [hBi]; decide))⟩⟩⟩
   , ⟨_, rfl, fun B S hBi hdep hcl => by
     rintro ⟨x27, x35, sl, rfl, h0, h1, h5, f0, f1, f2, f3, f4, f5, f6, f7, f8, f9, f10, f11, f12, f13, f14, f15, f16, f17, f18, f19⟩
     refine r_litC (parts := [(0, .tmp 27), (1, .tmp 35)]) rfl TF.sl107 TF.sz100 TF.zraw100 rfl rfl rfl (parts_cons (f9 (hdep 9 rfl)) (parts_cons (f17 (hdep 17 rfl)) parts_nil)) rfl rfl rfl rfl ?_
     exact awl_nil ⟨rfl, x27, x35, _, rfl, h0, h1, h5, f0, f1, f2, f3, f4, f5, f6, f7, f8, f9, f10, f11, f12, f13, f14, f15, f16, f17, (fun h => rfl), f19⟩⟩⟩
   , ⟨_, rfl, fun B S hBi hdep hcl => by
     rintro ⟨x27, x35, sl, rfl, h0, h1, h5, f0, f1, f2, f3, f4, f5, f6, f7, f8, f9, f10, f11, f12, f13, f14, f15, f16, f17, f18, f19⟩
     refine r_assign (f18 (hdep 18 rfl)) rfl ?_
     exact awl_nil ⟨rfl, x27, x35, _, rfl, h0, h1, h5, f0, f1, f2, f3, f4, f5, f6, f7, f8, f9, f10, f11, f12, f13, f14, f15, f16, f17, f18, (fun h => rfl)⟩⟩⟩
   (fun B S hall => by
    rintro ⟨x27, x35, sl, rfl, h0, h1, h5, f0, f1, f2, f3, f4, f5, f6, f7, f8, f9, f10, f11, f12, f13, f14, f15, f16, f17, f18, f19⟩
    skip
    refine x_then ?_
    refine awp_weaken (S' := ⟨37, [(0, .a (.sl 4 ((its.map fun p => p.1).map Sp.cs))), (1, .a (.sl 1 ((its.map fun p => p.2).map u64c))), (5, .a (.v (.int .i64 ((((its.length + 1) / 2) : Nat))))), (4, .a (.sl 1 [[(.pt x27 [.sl 4 (((its.map fun p => p.1).map Sp.cs).take ((its.length + 1) / 2)), .sl 1 (((its.map fun p => p.2).map u64c).take ((its.length + 1) / 2)), .sl 1 []])], [(.pt x35 [.sl 4 (((its.map fun p => p.1).map Sp.cs).drop ((its.length + 1) / 2)), .sl 1 (((its.map fun p => p.2).map u64c).drop ((its.length + 1) / 2)), .sl 1 []])]]))], []⟩) ⟨rfl, (Slots.cons h0 (.refl _) (Slots.cons h1 (.refl _) (Slots.cons h5 (.refl _) (Slots.cons (f19 (hall 19 (by decide))) (.refl _) Slots.nil)))), (List.Sublist.refl _)⟩ ?_
    refine awp_ret ?_
    exact ⟨(.inl rfl), _, [], (.one (by first | exact .mk rfl rfl | exact .nil rfl)), ⟨rfl, [(x27, its.take ((its.length + 1) / 2)), (x35, its.drop ((its.length + 1) / 2))], by rw [halvesG, if_neg h4]; rfl, by simp only [← List.map_take, ← List.map_drop]; rfl⟩, (List.nil_sublist _), (by simp)⟩)
def KeyR (ks : List Sp) (k : Nat) (hd : AV) (os : List OE) : Prop :=
  (k = 0 ∧ hd = .v (.slice none 0 0) ∧ os = []) ∨ ∃ g cap n L, 0 < k ∧ hd = .v (.slice (some ⟨g, 0, none⟩) n cap) ∧ n = L.length ∧ os = [⟨g, true, .buf 4 L cap 73⟩] ∧ L = (ks.take k).map Sp.cs
theorem keyR_next {h : Nat} {l : List (Nd h)} {k : Nat} {x : Nd h} {y : Sp} {L : List (List AV)} (hx : l[k]? = some x) (hy : (keysOf h x.2)[0]? = some y) (hL : L = ((kksOf h l).take k).map Sp.cs) : L ++ [y.cs] = ((kksOf h l).take (k + 1)).map Sp.cs := by
  have : (kksOf h l)[k]? = some y := by
    show (List.map (fun n : Nd h => (keysOf h n.2).headD Sp.z) l)[k]? = some y
    rw [get_map hx, headD_get hy]
  rw [List.take_add_one, this, hL]; simp
theorem enc_over {h : Nat} (l : List (Nd h)) (b : Nat) : AV.pt b [.sl 4 ((kksOf h l).map Sp.cs), .sl 1 [], .sl 1 (l.map fun n => [enc h n])] = enc (h + 1) (b, l) := by
  show _ = ndA b (kksOf h l) [] (List.map (enc h) l)
  unfold ndA
  rw [List.map_map]; rfl
theorem over_ok (h : Nat) (l : List (Nd h)) (hw : ∀ n ∈ l, wfC 1 h n.2) (h0 : 0 < l.length) (hl : l.length ≤ 1000) (kl : List (List AV)) (hkl : kl = (l.map fun n => [enc h n])) : AC Try.prog 71 [.sl 1 kl] [] (fun r n => n = [] ∧ ∃ b, r = enc (h + 1) (b, l)) := by
 refine ac_of_awp (rs := [2]) (nt := 34) Try.func71 rfl rfl rfl rfl (fun w0 C0 hq => ?_)
 subst hkl
 refine awp_seq ?_
 refine awp_region ?_
 refine r_assign rfl rfl ?_
 refine awl_nil ?_
 refine x_then ?_
 refine awp_seq ?_
 refine awp_region ?_
 refine r_move rfl rfl ?_
 refine r_build (parts := [(2, .tmp 8)]) rfl TF.pl115 TF.zeroR115 rfl rfl rfl ?_
 refine r_box rfl rfl rfl (fun b10 => ?_)
 refine r_assign rfl rfl ?_
 refine awl_nil ?_
 refine x_then ?_
 refine awp_seq ?_
 refine awp_seq ?_
 refine awp_region ?_
 refine r_move rfl rfl ?_
 first | (refine r_lenS rfl rfl TF.sl107 rfl ?_) | (refine r_lenNil rfl TF.sl107 rfl ?_) | (refine r_lenV rfl TF.sl107 rfl ?_)
 refine r_move rfl rfl ?_
 refine awl_nil ?_
 refine x_then ?_
 refine awp_block ?_
 refine awp_loop (fun nn0 S => ∃ k : Nat, ∃ hd : AV, ∃ os : List OE, S = ⟨34, [(0, .a (.sl 1 (l.map fun n => [enc h n]))), (3, .a (.v (.pointer (some ⟨b10, 0, none⟩)))), (11, .a (.sl 1 (l.map fun n => [enc h n]))), (12, .a (.v (.int .i64 (((l.map fun n => [enc h n]).length : Nat))))), (13, .a (.v (.int .i64 ((k : Int)))))], os ++ [⟨b10, true, .box [hd, .v (.slice none 0 0), .sl 1 (l.map fun n => [enc h n])]⟩]⟩ ∧ nn0 = l.length - k ∧ (k ≤ l.length) ∧ (KeyR (kksOf h l) k hd os)) (l.length - (0)) ⟨34, [(0, .a (.sl 1 (l.map fun n => [enc h n]))), (3, .a (.v (.pointer (some ⟨b10, 0, none⟩)))), (11, .a (.sl 1 (l.map fun n => [enc h n]))), (12, .a (.v (.int .i64 (((l.map fun n => [enc h n]).length : Nat))))), (13, .a (.v (.int .i64 (((0) : Int)))))], ([]) ++ [⟨b10, true, .box [(.v (.slice none 0 0)), .v (.slice none 0 0), .sl 1 (l.map fun n => [enc h n])]⟩]⟩ ⟨rfl, (Slots.cons rfl (by first | exact .refl _ | exact .nilOwn _ _ | exact .nilSl _ | exact .ownSl _ _ _  | exact SV.le.of_eq (by simp)) (Slots.cons rfl (by first | exact .refl _ | exact .nilOwn _ _ | exact .nilSl _ | exact .ownSl _ _ _  | exact SV.le.of_eq (by simp)) (Slots.cons rfl (by first | exact .refl _ | exact .nilOwn _ _ | exact .nilSl _ | exact .ownSl _ _ _  | exact SV.le.of_eq (by simp)) (Slots.cons rfl (by first | exact .refl _ | exact .nilOwn _ _ | exact .nilSl _ | exact .ownSl _ _ _  | exact SV.le.of_eq (by simp)) (Slots.cons rfl (by first | exact .refl _ | exact .nilOwn _ _ | exact .nilSl _ | exact .ownSl _ _ _  | exact SV.le.of_eq (by simp)) Slots.nil))))), (by first | exact List.Sublist.refl _ | exact .cons_cons _ (.cons _ (.refl _)) | exact List.nil_sublist _ | exact .cons _ (.refl _) | exact .cons _ (.cons _ (.refl _)) | exact .cons _ (.cons _ (.cons _ (.refl _))) | exact .cons _ (.cons _ (.cons _ (.cons _ (.refl _)))) | exact .cons_cons _ (List.nil_sublist _))⟩ ⟨0, .v (.slice none 0 0), [], rfl, rfl, Nat.zero_le _, (.inl ⟨rfl, rfl, rfl⟩)⟩ ?_
 rintro nn0 _ ⟨k, hd, os, rfl, rfl, hk, hK⟩
 refine awp_seq ?_
 refine awp_region ?_
 refine r_cmp rfl rfl rfl rfl ?_
 refine awl_nil ?_
 refine x_then ?_
 refine awp_seq ?_
 refine awp_cond rfl (fun hc0 => ?_) (fun hc0 => ?_)
 ·
  have hltx : k < l.length := by have := of_decide_eq_true hc0; simpa using this
  obtain ⟨x, hx⟩ := get_lt hltx
  have hwx := hw x (List.mem_of_getElem? hx)
  obtain ⟨y, hy⟩ := hwx.ne (by decide)
  refine awp_skip ?_
  refine x_then ?_
  refine awp_seq ?_
  refine awp_block ?_
  refine awp_seq ?_
  refine awp_region ?_
  refine r_index rfl rfl rfl TF.sl107 TF.sz100 (by omega) ((get_map hx).trans (congrArg (fun q => some [q]) (enc_eq h x))) rfl ?_
  first | (refine r_load1b 0 rfl rfl rfl TF.agg100 rfl ?_) | (refine r_load1 rfl TF.agg100 rfl ?_) | (refine r_load1b 1 rfl rfl rfl TF.agg100 rfl ?_)
  refine r_assign rfl rfl ?_
  refine awl_nil ?_
  refine x_then ?_
  refine awp_seq ?_
  refine awp_region ?_
  refine r_move rfl rfl ?_
  refine r_call0 hq rfl rfl (.cons (.ev rfl rfl) .nil) (least_ok x.1 (keysOf h x.2) (valsOf h x.2) (kidsOf h x.2) y hy (by rw [keysOf_len]; have := hwx.hi; omega)) rfl TF.en44 rfl (fun r hr => ?_)
  obtain rfl := hr
  refine r_move rfl rfl ?_
  refine r_extract rfl rfl rfl ?_
  refine r_extract rfl rfl rfl ?_
  refine r_alloc TF.zero73 rfl (fun b6 => ?_)
  first | (refine r_store 0 rfl rfl rfl TF.sz73 rfl rfl rfl ?_) | (refine r_store 1 rfl rfl rfl TF.sz73 rfl rfl rfl ?_) | (refine r_store 2 rfl rfl rfl TF.sz73 rfl rfl rfl ?_)
  refine r_assign rfl rfl ?_
  refine awl_nil ?_
  refine x_then ?_
  rcases hK with ⟨hk0, rfl, rfl⟩ | ⟨g, cap, n, L, hk0, rfl, hnL, rfl, hL⟩
  ·
   refine awp_any (fun B S => ∃ gb : Nat, ∃ gc : Nat, ∃ sl : List (Nat × SV), S = ⟨34, sl, cond (B 10) [⟨gb, true, .buf 4 [y.cs] gc 73⟩, ⟨b6, true, .box y.cs⟩, ⟨b10, true, .box [.v (.slice (some ⟨gb, 0, none⟩) [y.cs].length gc), .v (.slice none 0 0), .sl 1 (l.map fun n => [enc h n])]⟩] (cond (B 7) [⟨gb, true, .buf 4 [y.cs] gc 73⟩, ⟨b6, true, .box y.cs⟩, ⟨b10, true, .box [.v (.slice none 0 0), .v (.slice none 0 0), .sl 1 (l.map fun n => [enc h n])]⟩] [⟨b6, true, .box y.cs⟩, ⟨b10, true, .box [.v (.slice none 0 0), .v (.slice none 0 0), .sl 1 (l.map fun n => [enc h n])]⟩])⟩ ∧ find 0 sl = some (.a (.sl 1 (l.map fun n => [enc h n]))) ∧ find 3 sl = some (.a (.v (.pointer (some ⟨b10, 0, none⟩)))) ∧ find 6 sl = some (.a (.v (.pointer (some ⟨b6, 0, none⟩)))) ∧ find 11 sl = some (.a (.sl 1 (l.map fun n => [enc h n]))) ∧ find 12 sl = some (.a (.v (.int .i64 (((l.map fun n => [enc h n]).length : Nat))))) ∧ find 13 sl = some (.a (.v (.int .i64 ((k : Int))))) ∧ (B 0 = true → find 22 sl = some (.a (.v (.pointer (some ⟨b10, 0, none⟩))))) ∧ (B 1 = true → find 23 sl = some (.a (.v (.pointer (some ⟨b10, 0, none⟩))))) ∧ (B 2 = true → find 24 sl = some (.a (.v (.pointer (some ⟨b10, 0, none⟩))))) ∧ (B 3 = true → find 25 sl = some (.a (.v (.pointer (some ⟨b10, 0, none⟩))))) ∧ (B 4 = true → find 26 sl = some (.a (.v (.slice none 0 0)))) ∧ (B 5 = true → find 27 sl = some (.a (spA y))) ∧ (B 6 = true → find 28 sl = some (.a (.sl 4 [y.cs]))) ∧ (B 7 = true → find 29 sl = some (.a (.v (.slice (some ⟨gb, 0, none⟩) [y.cs].length gc)))) ∧ (B 8 = true → find 30 sl = some (.a (.v (.pointer (some ⟨b10, 0, none⟩))))) ∧ (B 9 = true → find 31 sl = some (.a (.v (.pointer (some ⟨b10, 0, none⟩)))))) TF.mixed rfl ⟨0, 0, _, rfl, rfl, rfl, rfl, rfl, rfl, rfl, (fun h => by cases h), (fun h => by cases h), (fun h => by cases h), (fun h => by cases h), (fun h => by cases h), (fun h => by cases h), (fun h => by cases h), (fun h => by cases h), (fun h => by cases h), (fun h => by cases h)⟩ ⟨⟨⟨⟨⟨⟨⟨⟨⟨⟨⟨trivial
    , ⟨_, rfl, fun B S hBi hdep hcl => by
      rintro ⟨gb, gc, sl, rfl, h0, h3, h6, h11, h12, h13, f0, f1, f2, f3, f4, f5, f6, f7, f8, f9⟩
      refine r_move h3 rfl ?_
      exact awl_nil ⟨rfl, gb, gc, _, rfl, h0, h3, h6, h11, h12, h13, (fun h => rfl), f1, f2, f3, f4, f5, f6, f7, f8, f9⟩⟩⟩
    , ⟨_, rfl, fun B S hBi hdep hcl => by
      rintro ⟨gb, gc, sl, rfl, h0, h3, h6, h11, h12, h13, f0, f1, f2, f3, f4, f5, f6, f7, f8, f9⟩
      refine r_move h3 rfl ?_
      exact awl_nil ⟨rfl, gb, gc, _, rfl, h0, h3, h6, h11, h12, h13, f0, (fun h => rfl), f2, f3, f4, f5, f6, f7, f8, f9⟩⟩⟩
    , ⟨_, rfl, fun B S hBi hdep hcl => by
      rintro ⟨gb, gc, sl, rfl, h0, h3, h6, h11, h12, h13, f0, f1, f2, f3, f4, f5, f6, f7, f8, f9⟩
      refine r_nilCheck (f1 (hdep 1 rfl)) (by first | exact .pt _ _ | exact .v _ | exact .cp _) rfl ?_
      exact awl_nil ⟨rfl, gb, gc, _, rfl, h0, h3, h6, h11, h12, h13, f0, f1, (fun h => rfl), f3, f4, f5, f6, f7, f8, f9⟩⟩⟩
    , ⟨_, rfl, fun B S hBi hdep hcl => by
      rintro ⟨gb, gc, sl, rfl, h0, h3, h6, h11, h12, h13, f0, f1, f2, f3, f4, f5, f6, f7, f8, f9⟩
      first | (refine r_fieldpt (f2 (hdep 2 rfl)) TF.f115_0 TF.sz112 rfl ?_) | (refine r_fieldcp (f2 (hdep 2 rfl)) TF.f115_0 TF.sz112 rfl ?_) | (refine r_fieldb (f2 (hdep 2 rfl)) TF.f115_0 TF.sz112 rfl ?_)
      exact awl_nil ⟨rfl, gb, gc, _, rfl, h0, h3, h6, h11, h12, h13, f0, f1, f2, (fun h => rfl), f4, f5, f6, f7, f8, f9⟩⟩⟩
    , ⟨_, rfl, fun B S hBi hdep hcl => by
      rintro ⟨gb, gc, sl, rfl, h0, h3, h6, h11, h12, h13, f0, f1, f2, f3, f4, f5, f6, f7, f8, f9⟩
      have e7 : B 7 = false := by cases h : B 7 with | false => rfl | true => exact absurd (hcl 7 4 h rfl) (by rw [hBi]; decide)
      have e10 : B 10 = false := by cases h : B 10 with | false => rfl | true => exact absurd (hcl 10 4 h rfl) (by rw [hBi]; decide)
      rw [e7, e10]
      first | (refine r_load1b 0 (f3 (hdep 3 rfl)) rfl rfl TF.agg112 rfl ?_) | (refine r_load1 (f3 (hdep 3 rfl)) TF.agg112 rfl ?_) | (refine r_load1b 1 (f3 (hdep 3 rfl)) rfl rfl TF.agg112 rfl ?_) | (refine r_load1b 2 (f3 (hdep 3 rfl)) rfl rfl TF.agg112 rfl ?_)
      exact awl_nil ⟨rfl, gb, gc, ((26, .a (.v (.slice none 0 0))) :: sl), (by show _ = (⟨34, _, cond (B 10) [⟨gb, true, .buf 4 [y.cs] gc 73⟩, ⟨b6, true, .box y.cs⟩, ⟨b10, true, .box [.v (.slice (some ⟨gb, 0, none⟩) [y.cs].length gc), .v (.slice none 0 0), .sl 1 (l.map fun n => [enc h n])]⟩] (cond (B 7) [⟨gb, true, .buf 4 [y.cs] gc 73⟩, ⟨b6, true, .box y.cs⟩, ⟨b10, true, .box [.v (.slice none 0 0), .v (.slice none 0 0), .sl 1 (l.map fun n => [enc h n])]⟩] [⟨b6, true, .box y.cs⟩, ⟨b10, true, .box [.v (.slice none 0 0), .v (.slice none 0 0), .sl 1 (l.map fun n => [enc h n])]⟩])⟩ : AState); rw [e7, e10]; rfl), h0, h3, h6, h11, h12, h13, f0, f1, f2, f3, (fun h => rfl), f5, f6, f7, f8, f9⟩⟩⟩
    , ⟨_, rfl, fun B S hBi hdep hcl => by
      rintro ⟨gb, gc, sl, rfl, h0, h3, h6, h11, h12, h13, f0, f1, f2, f3, f4, f5, f6, f7, f8, f9⟩
      have e7 : B 7 = false := by cases h : B 7 with | false => rfl | true => exact absurd (hcl 6 5 (hcl 7 6 h rfl) rfl) (by rw [hBi]; decide)
      have e10 : B 10 = false := by cases h : B 10 with | false => rfl | true => exact absurd (hcl 10 5 h rfl) (by rw [hBi]; decide)
      rw [e7, e10]
      first | (refine r_loadAb 0 h6 rfl TF.agg73 TF.sz73 rfl rfl ?_) | (refine r_loadA h6 TF.agg73 TF.sz73 rfl rfl ?_) | (refine r_loadAb 1 h6 rfl TF.agg73 TF.sz73 rfl rfl ?_) | (refine r_loadAb 2 h6 rfl TF.agg73 TF.sz73 rfl rfl ?_)
      exact awl_nil ⟨rfl, gb, gc, ((27, .a (spA y)) :: sl), (by show _ = (⟨34, _, cond (B 10) [⟨gb, true, .buf 4 [y.cs] gc 73⟩, ⟨b6, true, .box y.cs⟩, ⟨b10, true, .box [.v (.slice (some ⟨gb, 0, none⟩) [y.cs].length gc), .v (.slice none 0 0), .sl 1 (l.map fun n => [enc h n])]⟩] (cond (B 7) [⟨gb, true, .buf 4 [y.cs] gc 73⟩, ⟨b6, true, .box y.cs⟩, ⟨b10, true, .box [.v (.slice none 0 0), .v (.slice none 0 0), .sl 1 (l.map fun n => [enc h n])]⟩] [⟨b6, true, .box y.cs⟩, ⟨b10, true, .box [.v (.slice none 0 0), .v (.slice none 0 0), .sl 1 (l.map fun n => [enc h n])]⟩])⟩ : AState); rw [e7, e10]; rfl), h0, h3, h6, h11, h12, h13, f0, f1, f2, f3, f4, (fun h => rfl), f6, f7, f8, f9⟩⟩⟩
    , ⟨_, rfl, fun B S hBi hdep hcl => by
      rintro ⟨gb, gc, sl, rfl, h0, h3, h6, h11, h12, h13, f0, f1, f2, f3, f4, f5, f6, f7, f8, f9⟩
      refine r_litC (parts := [(0, .tmp 27)]) rfl TF.sl112 TF.sz73 TF.zraw73 rfl rfl rfl (parts_cons (f5 (hdep 5 rfl)) parts_nil) rfl rfl rfl rfl ?_
      exact awl_nil ⟨rfl, gb, gc, _, rfl, h0, h3, h6, h11, h12, h13, f0, f1, f2, f3, f4, f5, (fun h => rfl), f7, f8, f9⟩⟩⟩
    , ⟨_, rfl, fun B S hBi hdep hcl => by
      rintro ⟨gb, gc, sl, rfl, h0, h3, h6, h11, h12, h13, f0, f1, f2, f3, f4, f5, f6, f7, f8, f9⟩
      have e10 : B 10 = false := by cases h : B 10 with | false => rfl | true => exact absurd (hcl 10 7 h rfl) (by rw [hBi]; decide)
      rw [hBi, e10]
      refine r_appendBN (f4 (hdep 4 rfl)) (f6 (hdep 6 rfl)) (by first | exact .sl _ | exact .own _ _) (by simp [chunks]) TF.sl112 TF.sz73 TF.by73 TF.zlen73 (by simp [chunks] <;> omega) (by simp [chunks] <;> omega) rfl (fun gb gc => ?_)
      exact awl_nil ⟨rfl, gb, gc, ((29, .a (.v (.slice (some ⟨gb, 0, none⟩) [y.cs].length gc))) :: sl), (by show _ = (⟨34, _, cond (B 10) [⟨gb, true, .buf 4 [y.cs] gc 73⟩, ⟨b6, true, .box y.cs⟩, ⟨b10, true, .box [.v (.slice (some ⟨gb, 0, none⟩) [y.cs].length gc), .v (.slice none 0 0), .sl 1 (l.map fun n => [enc h n])]⟩] (cond true [⟨gb, true, .buf 4 [y.cs] gc 73⟩, ⟨b6, true, .box y.cs⟩, ⟨b10, true, .box [.v (.slice none 0 0), .v (.slice none 0 0), .sl 1 (l.map fun n => [enc h n])]⟩] [⟨b6, true, .box y.cs⟩, ⟨b10, true, .box [.v (.slice none 0 0), .v (.slice none 0 0), .sl 1 (l.map fun n => [enc h n])]⟩])⟩ : AState); rw [e10]; rfl), h0, h3, h6, h11, h12, h13, f0, f1, f2, f3, f4, f5, f6, (fun h => rfl), f8, f9⟩⟩⟩
    , ⟨_, rfl, fun B S hBi hdep hcl => by
      rintro ⟨gb, gc, sl, rfl, h0, h3, h6, h11, h12, h13, f0, f1, f2, f3, f4, f5, f6, f7, f8, f9⟩
      refine r_nilCheck (f0 (hdep 0 rfl)) (by first | exact .pt _ _ | exact .v _ | exact .cp _) rfl ?_
      exact awl_nil ⟨rfl, gb, gc, _, rfl, h0, h3, h6, h11, h12, h13, f0, f1, f2, f3, f4, f5, f6, f7, (fun h => rfl), f9⟩⟩⟩
    , ⟨_, rfl, fun B S hBi hdep hcl => by
      rintro ⟨gb, gc, sl, rfl, h0, h3, h6, h11, h12, h13, f0, f1, f2, f3, f4, f5, f6, f7, f8, f9⟩
      first | (refine r_fieldpt (f8 (hdep 8 rfl)) TF.f115_0 TF.sz112 rfl ?_) | (refine r_fieldcp (f8 (hdep 8 rfl)) TF.f115_0 TF.sz112 rfl ?_) | (refine r_fieldb (f8 (hdep 8 rfl)) TF.f115_0 TF.sz112 rfl ?_)
      exact awl_nil ⟨rfl, gb, gc, _, rfl, h0, h3, h6, h11, h12, h13, f0, f1, f2, f3, f4, f5, f6, f7, f8, (fun h => rfl)⟩⟩⟩
    , ⟨_, rfl, fun B S hBi hdep hcl => by
      rintro ⟨gb, gc, sl, rfl, h0, h3, h6, h11, h12, h13, f0, f1, f2, f3, f4, f5, f6, f7, f8, f9⟩
      have e7 : B 7 = true := hdep 7 rfl
      rw [hBi, e7]
      first | (refine r_store 0 (f9 (hdep 9 rfl)) rfl (f7 (hdep 7 rfl)) TF.sz112 rfl rfl rfl ?_) | (refine r_store 1 (f9 (hdep 9 rfl)) rfl (f7 (hdep 7 rfl)) TF.sz112 rfl rfl rfl ?_) | (refine r_store 2 (f9 (hdep 9 rfl)) rfl (f7 (hdep 7 rfl)) TF.sz112 rfl rfl rfl ?_)
      exact awl_nil ⟨rfl, gb, gc, sl, (by show _ = (⟨34, _, cond true [⟨gb, true, .buf 4 [y.cs] gc 73⟩, ⟨b6, true, .box y.cs⟩, ⟨b10, true, .box [.v (.slice (some ⟨gb, 0, none⟩) [y.cs].length gc), .v (.slice none 0 0), .sl 1 (l.map fun n => [enc h n])]⟩] (cond (B 7) [⟨gb, true, .buf 4 [y.cs] gc 73⟩, ⟨b6, true, .box y.cs⟩, ⟨b10, true, .box [.v (.slice none 0 0), .v (.slice none 0 0), .sl 1 (l.map fun n => [enc h n])]⟩] [⟨b6, true, .box y.cs⟩, ⟨b10, true, .box [.v (.slice none 0 0), .v (.slice none 0 0), .sl 1 (l.map fun n => [enc h n])]⟩])⟩ : AState); rw [e7]; rfl), h0, h3, h6, h11, h12, h13, f0, f1, f2, f3, f4, f5, f6, f7, f8, f9⟩⟩⟩
    (fun B S hall => by
     rintro ⟨gb, gc, sl, rfl, h0, h3, h6, h11, h12, h13, f0, f1, f2, f3, f4, f5, f6, f7, f8, f9⟩
     rw [hall 10 (by decide)]
     refine x_block ?_
     refine x_then ?_
     refine awp_weaken (S' := ⟨34, [(0, .a (.sl 1 (l.map fun n => [enc h n]))), (3, .a (.v (.pointer (some ⟨b10, 0, none⟩)))), (6, .a (.v (.pointer (some ⟨b6, 0, none⟩)))), (11, .a (.sl 1 (l.map fun n => [enc h n]))), (12, .a (.v (.int .i64 (((l.map fun n => [enc h n]).length : Nat))))), (13, .a (.v (.int .i64 ((k : Int)))))], [⟨gb, true, .buf 4 [y.cs] gc 73⟩, ⟨b10, true, .box [.v (.slice (some ⟨gb, 0, none⟩) [y.cs].length gc), .v (.slice none 0 0), .sl 1 (l.map fun n => [enc h n])]⟩]⟩) ⟨rfl, (Slots.cons h0 (.refl _) (Slots.cons h3 (.refl _) (Slots.cons h6 (.refl _) (Slots.cons h11 (.refl _) (Slots.cons h12 (.refl _) (Slots.cons h13 (.refl _) Slots.nil)))))), (.cons_cons _ (.cons _ (List.Sublist.refl _)))⟩ ?_
     refine awp_region ?_
     refine r_ari _ rfl rfl rfl (wrap_id (by first | omega | (simp; omega))) rfl ?_
     refine r_move rfl rfl ?_
     refine awl_nil ?_
     refine x_then ?_
     refine ⟨l.length - (k + 1), ⟨34, [(0, .a (.sl 1 (l.map fun n => [enc h n]))), (3, .a (.v (.pointer (some ⟨b10, 0, none⟩)))), (11, .a (.sl 1 (l.map fun n => [enc h n]))), (12, .a (.v (.int .i64 (((l.map fun n => [enc h n]).length : Nat))))), (13, .a (.v (.int .i64 (((k + 1) : Int)))))], ([⟨gb, true, .buf 4 [y.cs] gc 73⟩]) ++ [⟨b10, true, .box [(.v (.slice (some ⟨gb, 0, none⟩) [y.cs].length gc)), .v (.slice none 0 0), .sl 1 (l.map fun n => [enc h n])]⟩]⟩, ⟨rfl, (Slots.cons rfl (by first | exact .refl _ | exact .nilOwn _ _ | exact .nilSl _ | exact .ownSl _ _ _  | exact SV.le.of_eq (by simp)) (Slots.cons rfl (by first | exact .refl _ | exact .nilOwn _ _ | exact .nilSl _ | exact .ownSl _ _ _  | exact SV.le.of_eq (by simp)) (Slots.cons rfl (by first | exact .refl _ | exact .nilOwn _ _ | exact .nilSl _ | exact .ownSl _ _ _  | exact SV.le.of_eq (by simp)) (Slots.cons rfl (by first | exact .refl _ | exact .nilOwn _ _ | exact .nilSl _ | exact .ownSl _ _ _  | exact SV.le.of_eq (by simp)) (Slots.cons rfl (by first | exact .refl _ | exact .nilOwn _ _ | exact .nilSl _ | exact .ownSl _ _ _  | exact SV.le.of_eq (by simp)) Slots.nil))))), (by first | exact List.Sublist.refl _ | exact .cons_cons _ (.cons _ (.refl _)) | exact List.nil_sublist _ | exact .cons _ (.refl _) | exact .cons _ (.cons _ (.refl _)) | exact .cons _ (.cons _ (.cons _ (.refl _))) | exact .cons _ (.cons _ (.cons _ (.cons _ (.refl _)))) | exact .cons_cons _ (List.nil_sublist _))⟩, (by omega), ⟨k + 1, .v (.slice (some ⟨gb, 0, none⟩) [y.cs].length gc), [⟨gb, true, .buf 4 [y.cs] gc 73⟩], rfl, rfl, (by omega), (.inr ⟨gb, gc, _, _, by omega, rfl, rfl, rfl, keyR_next (L := []) hx hy (by rw [hk0]; rfl)⟩)⟩⟩)
  ·
   have hLl : L.length ≤ k := by rw [hL, List.length_map, List.length_take]; omega
   refine awp_any (fun B S => ∃ gb : Nat, ∃ gc : Nat, ∃ sl : List (Nat × SV), S = ⟨34, sl, cond (B 10) [⟨gb, true, .buf 4 (L ++ [y.cs]) gc 73⟩, ⟨b6, true, .box y.cs⟩, ⟨b10, true, .box [.v (.slice (some ⟨gb, 0, none⟩) (L ++ [y.cs]).length gc), .v (.slice none 0 0), .sl 1 (l.map fun n => [enc h n])]⟩] (cond (B 7) [⟨gb, true, .buf 4 (L ++ [y.cs]) gc 73⟩, ⟨b6, true, .box y.cs⟩, ⟨b10, true, .box [.v (.slice (some ⟨g, 0, none⟩) n cap), .v (.slice none 0 0), .sl 1 (l.map fun n => [enc h n])]⟩] [⟨b6, true, .box y.cs⟩, ⟨g, true, .buf 4 L cap 73⟩, ⟨b10, true, .box [.v (.slice (some ⟨g, 0, none⟩) n cap), .v (.slice none 0 0), .sl 1 (l.map fun n => [enc h n])]⟩])⟩ ∧ find 0 sl = some (.a (.sl 1 (l.map fun n => [enc h n]))) ∧ find 3 sl = some (.a (.v (.pointer (some ⟨b10, 0, none⟩)))) ∧ find 6 sl = some (.a (.v (.pointer (some ⟨b6, 0, none⟩)))) ∧ find 11 sl = some (.a (.sl 1 (l.map fun n => [enc h n]))) ∧ find 12 sl = some (.a (.v (.int .i64 (((l.map fun n => [enc h n]).length : Nat))))) ∧ find 13 sl = some (.a (.v (.int .i64 ((k : Int))))) ∧ (B 0 = true → find 22 sl = some (.a (.v (.pointer (some ⟨b10, 0, none⟩))))) ∧ (B 1 = true → find 23 sl = some (.a (.v (.pointer (some ⟨b10, 0, none⟩))))) ∧ (B 2 = true → find 24 sl = some (.a (.v (.pointer (some ⟨b10, 0, none⟩))))) ∧ (B 3 = true → find 25 sl = some (.a (.v (.pointer (some ⟨b10, 0, none⟩))))) ∧ (B 4 = true → find 26 sl = some (.a (.v (.slice (some ⟨g, 0, none⟩) n cap)))) ∧ (B 5 = true → find 27 sl = some (.a (spA y))) ∧ (B 6 = true → find 28 sl = some (.a (.sl 4 [y.cs]))) ∧ (B 7 = true → find 29 sl = some (.a (.v (.slice (some ⟨gb, 0, none⟩) (L ++ [y.cs]).length gc)))) ∧ (B 8 = true → find 30 sl = some (.a (.v (.pointer (some ⟨b10, 0, none⟩))))) ∧ (B 9 = true → find 31 sl = some (.a (.v (.pointer (some ⟨b10, 0, none⟩)))))) TF.mixed rfl ⟨0, 0, _, rfl, rfl, rfl, rfl, rfl, rfl, rfl, (fun h => by cases h), (fun h => by cases h), (fun h => by cases h), (fun h => by cases h), (fun h => by cases h), (fun h => by cases h), (fun h => by cases h), (fun h => by cases h), (fun h => by cases h), (fun h => by cases h)⟩ ⟨⟨⟨⟨⟨⟨⟨⟨⟨⟨⟨trivial
    , ⟨_, rfl, fun B S hBi hdep hcl => by
      rintro ⟨gb, gc, sl, rfl, h0, h3, h6, h11, h12, h13, f0, f1, f2, f3, f4, f5, f6, f7, f8, f9⟩
      refine r_move h3 rfl ?_
      exact awl_nil ⟨rfl, gb, gc, _, rfl, h0, h3, h6, h11, h12, h13, (fun h => rfl), f1, f2, f3, f4, f5, f6, f7, f8, f9⟩⟩⟩
    , ⟨_, rfl, fun B S hBi hdep hcl => by
      rintro ⟨gb, gc, sl, rfl, h0, h3, h6, h11, h12, h13, f0, f1, f2, f3, f4, f5, f6, f7, f8, f9⟩
      refine r_move h3 rfl ?_
      exact awl_nil ⟨rfl, gb, gc, _, rfl, h0, h3, h6, h11, h12, h13, f0, (fun h => rfl), f2, f3, f4, f5, f6, f7, f8, f9⟩⟩⟩
    , ⟨_, rfl, fun B S hBi hdep hcl => by
      rintro ⟨gb, gc, sl, rfl, h0, h3, h6, h11, h12, h13, f0, f1, f2, f3, f4, f5, f6, f7, f8, f9⟩
      refine r_nilCheck (f1 (hdep 1 rfl)) (by first | exact .pt _ _ | exact .v _ | exact .cp _) rfl ?_
      exact awl_nil ⟨rfl, gb, gc, _, rfl, h0, h3, h6, h11, h12, h13, f0, f1, (fun h => rfl), f3, f4, f5, f6, f7, f8, f9⟩⟩⟩
    , ⟨_, rfl, fun B S hBi hdep hcl => by
      rintro ⟨gb, gc, sl, rfl, h0, h3, h6, h11, h12, h13, f0, f1, f2, f3, f4, f5, f6, f7, f8, f9⟩
      first | (refine r_fieldpt (f2 (hdep 2 rfl)) TF.f115_0 TF.sz112 rfl ?_) | (refine r_fieldcp (f2 (hdep 2 rfl)) TF.f115_0 TF.sz112 rfl ?_) | (refine r_fieldb (f2 (hdep 2 rfl)) TF.f115_0 TF.sz112 rfl ?_)
      exact awl_nil ⟨rfl, gb, gc, _, rfl, h0, h3, h6, h11, h12, h13, f0, f1, f2, (fun h => rfl), f4, f5, f6, f7, f8, f9⟩⟩⟩
    , ⟨_, rfl, fun B S hBi hdep hcl => by
      rintro ⟨gb, gc, sl, rfl, h0, h3, h6, h11, h12, h13, f0, f1, f2, f3, f4, f5, f6, f7, f8, f9⟩
      have e7 : B 7 = false := by cases h : B 7 with | false => rfl | true => exact absurd (hcl 7 4 h rfl) (by rw [hBi]; decide)
      have e10 : B 10 = false := by cases h : B 10 with | false => rfl | true => exact absurd (hcl 10 4 h rfl) (by rw [hBi]; decide)
      rw [e7, e10]
      first | (refine r_load1b 0 (f3 (hdep 3 rfl)) rfl rfl TF.agg112 rfl ?_) | (refine r_load1 (f3 (hdep 3 rfl)) TF.agg112 rfl ?_) | (refine r_load1b 1 (f3 (hdep 3 rfl)) rfl rfl TF.agg112 rfl ?_) | (refine r_load1b 2 (f3 (hdep 3 rfl)) rfl rfl TF.agg112 rfl ?_)
      exact awl_nil ⟨rfl, gb, gc, ((26, .a (.v (.slice (some ⟨g, 0, none⟩) n cap))) :: sl), (by show _ = (⟨34, _, cond (B 10) [⟨gb, true, .buf 4 (L ++ [y.cs]) gc 73⟩, ⟨b6, true, .box y.cs⟩, ⟨b10, true, .box [.v (.slice (some ⟨gb, 0, none⟩) (L ++ [y.cs]).length gc), .v (.slice none 0 0), .sl 1 (l.map fun n => [enc h n])]⟩] (cond (B 7) [⟨gb, true, .buf 4 (L ++ [y.cs]) gc 73⟩, ⟨b6, true, .box y.cs⟩, ⟨b10, true, .box [.v (.slice (some ⟨g, 0, none⟩) n cap), .v (.slice none 0 0), .sl 1 (l.map fun n => [enc h n])]⟩] [⟨b6, true, .box y.cs⟩, ⟨g, true, .buf 4 L cap 73⟩, ⟨b10, true, .box [.v (.slice (some ⟨g, 0, none⟩) n cap), .v (.slice none 0 0), .sl 1 (l.map fun n => [enc h n])]⟩])⟩ : AState); rw [e7, e10]; rfl), h0, h3, h6, h11, h12, h13, f0, f1, f2, f3, (fun h => rfl), f5, f6, f7, f8, f9⟩⟩⟩
    , ⟨_, rfl, fun B S hBi hdep hcl => by
      rintro ⟨gb, gc, sl, rfl, h0, h3, h6, h11, h12, h13, f0, f1, f2, f3, f4, f5, f6, f7, f8, f9⟩
      have e7 : B 7 = false := by cases h : B 7 with | false => rfl | true => exact absurd (hcl 6 5 (hcl 7 6 h rfl) rfl) (by rw [hBi]; decide)
      have e10 : B 10 = false := by cases h : B 10 with | false => rfl | true => exact absurd (hcl 10 5 h rfl) (by rw [hBi]; decide)
      rw [e7, e10]
      first | (refine r_loadAb 0 h6 rfl TF.agg73 TF.sz73 rfl rfl ?_) | (refine r_loadA h6 TF.agg73 TF.sz73 rfl rfl ?_) | (refine r_loadAb 1 h6 rfl TF.agg73 TF.sz73 rfl rfl ?_) | (refine r_loadAb 2 h6 rfl TF.agg73 TF.sz73 rfl rfl ?_)
      exact awl_nil ⟨rfl, gb, gc, ((27, .a (spA y)) :: sl), (by show _ = (⟨34, _, cond (B 10) [⟨gb, true, .buf 4 (L ++ [y.cs]) gc 73⟩, ⟨b6, true, .box y.cs⟩, ⟨b10, true, .box [.v (.slice (some ⟨gb, 0, none⟩) (L ++ [y.cs]).length gc), .v (.slice none 0 0), .sl 1 (l.map fun n => [enc h n])]⟩] (cond (B 7) [⟨gb, true, .buf 4 (L ++ [y.cs]) gc 73⟩, ⟨b6, true, .box y.cs⟩, ⟨b10, true, .box [.v (.slice (some ⟨g, 0, none⟩) n cap), .v (.slice none 0 0), .sl 1 (l.map fun n => [enc h n])]⟩] [⟨b6, true, .box y.cs⟩, ⟨g, true, .buf 4 L cap 73⟩, ⟨b10, true, .box [.v (.slice (some ⟨g, 0, none⟩) n cap), .v (.slice none 0 0), .sl 1 (l.map fun n => [enc h n])]⟩])⟩ : AState); rw [e7, e10]; rfl), h0, h3, h6, h11, h12, h13, f0, f1, f2, f3, f4, (fun h => rfl), f6, f7, f8, f9⟩⟩⟩
    , ⟨_, rfl, fun B S hBi hdep hcl => by
      rintro ⟨gb, gc, sl, rfl, h0, h3, h6, h11, h12, h13, f0, f1, f2, f3, f4, f5, f6, f7, f8, f9⟩
      refine r_litC (parts := [(0, .tmp 27)]) rfl TF.sl112 TF.sz73 TF.zraw73 rfl rfl rfl (parts_cons (f5 (hdep 5 rfl)) parts_nil) rfl rfl rfl rfl ?_
      exact awl_nil ⟨rfl, gb, gc, _, rfl, h0, h3, h6, h11, h12, h13, f0, f1, f2, f3, f4, f5, (fun h => rfl), f7, f8, f9⟩⟩⟩
    , ⟨_, rfl, fun B S hBi hdep hcl => by
      rintro ⟨gb, gc, sl, rfl, h0, h3, h6, h11, h12, h13, f0, f1, f2, f3, f4, f5, f6, f7, f8, f9⟩
      have e10 : B 10 = false := by cases h : B 10 with | false => rfl | true => exact absurd (hcl 10 7 h rfl) (by rw [hBi]; decide)
      rw [hBi, e10]
      refine r_appendBG 1 (f4 (hdep 4 rfl)) hnL rfl (f6 (hdep 6 rfl)) (by first | exact .sl _ | exact .own _ _) (by simp [chunks]) TF.sl112 TF.sz73 TF.by73 TF.zlen73 (by simp [chunks] <;> omega) (by simp [chunks] <;> omega) rfl (fun gb gc => ?_)
      exact awl_nil ⟨rfl, gb, gc, ((29, .a (.v (.slice (some ⟨gb, 0, none⟩) (L ++ [y.cs]).length gc))) :: sl), (by show _ = (⟨34, _, cond (B 10) [⟨gb, true, .buf 4 (L ++ [y.cs]) gc 73⟩, ⟨b6, true, .box y.cs⟩, ⟨b10, true, .box [.v (.slice (some ⟨gb, 0, none⟩) (L ++ [y.cs]).length gc), .v (.slice none 0 0), .sl 1 (l.map fun n => [enc h n])]⟩] (cond true [⟨gb, true, .buf 4 (L ++ [y.cs]) gc 73⟩, ⟨b6, true, .box y.cs⟩, ⟨b10, true, .box [.v (.slice (some ⟨g, 0, none⟩) n cap), .v (.slice none 0 0), .sl 1 (l.map fun n => [enc h n])]⟩] [⟨b6, true, .box y.cs⟩, ⟨g, true, .buf 4 L cap 73⟩, ⟨b10, true, .box [.v (.slice (some ⟨g, 0, none⟩) n cap), .v (.slice none 0 0), .sl 1 (l.map fun n => [enc h n])]⟩])⟩ : AState); rw [e10]; rfl), h0, h3, h6, h11, h12, h13, f0, f1, f2, f3, f4, f5, f6, (fun h => rfl), f8, f9⟩⟩⟩
    , ⟨_, rfl, fun B S hBi hdep hcl => by
      rintro ⟨gb, gc, sl, rfl, h0, h3, h6, h11, h12, h13, f0, f1, f2, f3, f4, f5, f6, f7, f8, f9⟩
      refine r_nilCheck (f0 (hdep 0 rfl)) (by first | exact .pt _ _ | exact .v _ | exact .cp _) rfl ?_
      exact awl_nil ⟨rfl, gb, gc, _, rfl, h0, h3, h6, h11, h12, h13, f0, f1, f2, f3, f4, f5, f6, f7, (fun h => rfl), f9⟩⟩⟩
    , ⟨_, rfl, fun B S hBi hdep hcl => by
      rintro ⟨gb, gc, sl, rfl, h0, h3, h6, h11, h12, h13, f0, f1, f2, f3, f4, f5, f6, f7, f8, f9⟩
      first | (refine r_fieldpt (f8 (hdep 8 rfl)) TF.f115_0 TF.sz112 rfl ?_) | (refine r_fieldcp (f8 (hdep 8 rfl)) TF.f115_0 TF.sz112 rfl ?_) | (refine r_fieldb (f8 (hdep 8 rfl)) TF.f115_0 TF.sz112 rfl ?_)
      exact awl_nil ⟨rfl, gb, gc, _, rfl, h0, h3, h6, h11, h12, h13, f0, f1, f2, f3, f4, f5, f6, f7, f8, (fun h => rfl)⟩⟩⟩
    , ⟨_, rfl, fun B S hBi hdep hcl => by
      rintro ⟨gb, gc, sl, rfl, h0, h3, h6, h11, h12, h13, f0, f1, f2, f3, f4, f5, f6, f7, f8, f9⟩
      have e7 : B 7 = true := hdep 7 rfl
      rw [hBi, e7]
      first | (refine r_store 0 (f9 (hdep 9 rfl)) rfl (f7 (hdep 7 rfl)) TF.sz112 rfl rfl rfl ?_) | (refine r_store 1 (f9 (hdep 9 rfl)) rfl (f7 (hdep 7 rfl)) TF.sz112 rfl rfl rfl ?_) | (refine r_store 2 (f9 (hdep 9 rfl)) rfl (f7 (hdep 7 rfl)) TF.sz112 rfl rfl rfl ?_)
      exact awl_nil ⟨rfl, gb, gc, sl, (by show _ = (⟨34, _, cond true [⟨gb, true, .buf 4 (L ++ [y.cs]) gc 73⟩, ⟨b6, true, .box y.cs⟩, ⟨b10, true, .box [.v (.slice (some ⟨gb, 0, none⟩) (L ++ [y.cs]).length gc), .v (.slice none 0 0), .sl 1 (l.map fun n => [enc h n])]⟩] (cond (B 7) [⟨gb, true, .buf 4 (L ++ [y.cs]) gc 73⟩, ⟨b6, true, .box y.cs⟩, ⟨b10, true, .box [.v (.slice (some ⟨g, 0, none⟩) n cap), .v (.slice none 0 0), .sl 1 (l.map fun n => [enc h n])]⟩] [⟨b6, true, .box y.cs⟩, ⟨g, true, .buf 4 L cap 73⟩, ⟨b10, true, .box [.v (.slice (some ⟨g, 0, none⟩) n cap), .v (.slice none 0 0), .sl 1 (l.map fun n => [enc h n])]⟩])⟩ : AState); rw [e7]; rfl), h0, h3, h6, h11, h12, h13, f0, f1, f2, f3, f4, f5, f6, f7, f8, f9⟩⟩⟩
    (fun B S hall => by
     rintro ⟨gb, gc, sl, rfl, h0, h3, h6, h11, h12, h13, f0, f1, f2, f3, f4, f5, f6, f7, f8, f9⟩
     rw [hall 10 (by decide)]
     refine x_block ?_
     refine x_then ?_
     refine awp_weaken (S' := ⟨34, [(0, .a (.sl 1 (l.map fun n => [enc h n]))), (3, .a (.v (.pointer (some ⟨b10, 0, none⟩)))), (6, .a (.v (.pointer (some ⟨b6, 0, none⟩)))), (11, .a (.sl 1 (l.map fun n => [enc h n]))), (12, .a (.v (.int .i64 (((l.map fun n => [enc h n]).length : Nat))))), (13, .a (.v (.int .i64 ((k : Int)))))], [⟨gb, true, .buf 4 (L ++ [y.cs]) gc 73⟩, ⟨b10, true, .box [.v (.slice (some ⟨gb, 0, none⟩) (L ++ [y.cs]).length gc), .v (.slice none 0 0), .sl 1 (l.map fun n => [enc h n])]⟩]⟩) ⟨rfl, (Slots.cons h0 (.refl _) (Slots.cons h3 (.refl _) (Slots.cons h6 (.refl _) (Slots.cons h11 (.refl _) (Slots.cons h12 (.refl _) (Slots.cons h13 (.refl _) Slots.nil)))))), (.cons_cons _ (.cons _ (List.Sublist.refl _)))⟩ ?_
     refine awp_region ?_
     refine r_ari _ rfl rfl rfl (wrap_id (by first | omega | (simp; omega))) rfl ?_
     refine r_move rfl rfl ?_
     refine awl_nil ?_
     refine x_then ?_
     refine ⟨l.length - (k + 1), ⟨34, [(0, .a (.sl 1 (l.map fun n => [enc h n]))), (3, .a (.v (.pointer (some ⟨b10, 0, none⟩)))), (11, .a (.sl 1 (l.map fun n => [enc h n]))), (12, .a (.v (.int .i64 (((l.map fun n => [enc h n]).length : Nat))))), (13, .a (.v (.int .i64 (((k + 1) : Int)))))], ([⟨gb, true, .buf 4 (L ++ [y.cs]) gc 73⟩]) ++ [⟨b10, true, .box [(.v (.slice (some ⟨gb, 0, none⟩) (L ++ [y.cs]).length gc)), .v (.slice none 0 0), .sl 1 (l.map fun n => [enc h n])]⟩]⟩, ⟨rfl, (Slots.cons rfl (by first | exact .refl _ | exact .nilOwn _ _ | exact .nilSl _ | exact .ownSl _ _ _  | exact SV.le.of_eq (by simp)) (Slots.cons rfl (by first | exact .refl _ | exact .nilOwn _ _ | exact .nilSl _ | exact .ownSl _ _ _  | exact SV.le.of_eq (by simp)) (Slots.cons rfl (by first | exact .refl _ | exact .nilOwn _ _ | exact .nilSl _ | exact .ownSl _ _ _  | exact SV.le.of_eq (by simp)) (Slots.cons rfl (by first | exact .refl _ | exact .nilOwn _ _ | exact .nilSl _ | exact .ownSl _ _ _  | exact SV.le.of_eq (by simp)) (Slots.cons rfl (by first | exact .refl _ | exact .nilOwn _ _ | exact .nilSl _ | exact .ownSl _ _ _  | exact SV.le.of_eq (by simp)) Slots.nil))))), (by first | exact List.Sublist.refl _ | exact .cons_cons _ (.cons _ (.refl _)) | exact List.nil_sublist _ | exact .cons _ (.refl _) | exact .cons _ (.cons _ (.refl _)) | exact .cons _ (.cons _ (.cons _ (.refl _))) | exact .cons _ (.cons _ (.cons _ (.cons _ (.refl _)))) | exact .cons_cons _ (List.nil_sublist _))⟩, (by omega), ⟨k + 1, .v (.slice (some ⟨gb, 0, none⟩) (L ++ [y.cs]).length gc), [⟨gb, true, .buf 4 (L ++ [y.cs]) gc 73⟩], rfl, rfl, (by omega), (.inr ⟨gb, gc, _, _, by omega, rfl, rfl, rfl, keyR_next hx hy hL⟩)⟩⟩)
 ·
  have hge : l.length ≤ k := by have := of_decide_eq_false hc0; simp at this; omega
  obtain rfl : k = l.length := by omega
  refine awp_exit ?_
  refine x_thenE ?_
  refine x_thenE ?_
  refine x_blockE ?_
  refine x_then ?_
  refine awp_seq ?_
  refine awp_region ?_
  rcases hK with ⟨hk0, _, _⟩ | ⟨g, cap, n, L, hk0, rfl, hnL, rfl, hL⟩
  · exfalso; omega
  refine awl_imp (imp_commitBk 0 0 0 hnL rfl rfl rfl) ?_
  refine awl_imp (imp_boxLe 0 rfl (.cons (.refl _) (.cons (.nil 1) (.cons (.refl _) .nil)))) ?_
  refine awl_imp (imp_commitP 0 3 rfl rfl rfl rfl) ?_
  refine r_move rfl rfl ?_
  refine r_assign rfl rfl ?_
  refine awl_nil ?_
  refine x_then ?_
  refine awp_ret ?_
  exact ⟨(.inl rfl), _, [], (.one (by first | exact .mk rfl rfl | exact .nil rfl)), ⟨rfl, b10, by rw [← enc_over, hL, ← kksOf_len, List.take_length]; rfl⟩, (List.nil_sublist _), (by simp)⟩
theorem kidHalves_ok (h : Nat) (l : List (Nd h)) (hw : ∀ n ∈ l, wfC 1 h n.2) (h0 : 0 < l.length) (hl : l.length ≤ 1000) (kl : List (List AV)) (hkl : kl = (l.map fun n => [enc h n])) : AC Try.prog 58 [.sl 1 kl] [] (fun r n => n = [] ∧ ∃ m : List (Nd (h + 1)), m.map kdsOf = halvesG l ∧ r = .sl 1 (m.map fun x => [enc (h + 1) x])) := by
 refine ac_of_awp (rs := [2]) (nt := 24) Try.func58 rfl rfl rfl rfl (fun w0 C0 hq => ?_)
 subst hkl
 refine awp_seq ?_
 refine awp_region ?_
 refine r_assign rfl rfl ?_
 refine awl_nil ?_
 refine x_then ?_
 refine awp_seq ?_
 refine awp_seq ?_
 refine awp_region ?_
 refine r_move rfl rfl ?_
 first | (refine r_lenS rfl rfl TF.sl107 rfl ?_) | (refine r_lenNil rfl TF.sl107 rfl ?_) | (refine r_lenV rfl TF.sl107 rfl ?_)
 refine r_cmp rfl rfl rfl rfl ?_
 refine awl_nil ?_
 refine x_then ?_
 refine awp_cond rfl (fun hc0 => ?_) (fun hc0 => ?_)
 ·
  have h4 : l.length ≤ 4 := by have := of_decide_eq_true hc0; simp at this; omega
  refine awp_seq ?_
  refine awp_region ?_
  refine r_move rfl rfl ?_
  refine r_call0 hq rfl rfl (.cons (.ev rfl rfl) .nil) (over_ok h l hw h0 hl (l.map fun n => [enc h n]) rfl) rfl TF.en71 rfl (fun r hr => ?_)
  obtain ⟨b8, rfl⟩ := hr
  refine r_lit 9 (parts := [(0, .tmp 8)]) rfl TF.sl107 TF.sz100 TF.zraw100 rfl rfl rfl rfl rfl rfl rfl ?_
  refine r_assign rfl rfl ?_
  refine awl_nil ?_
  refine x_then ?_
  refine awp_ret ?_
  refine x_thenR ?_
  exact ⟨(.inl rfl), _, [], (.one (by first | exact .mk rfl rfl | exact .nil rfl)), ⟨rfl, [(b8, l)], by rw [halvesG, if_pos h4]; rfl, rfl⟩, (List.nil_sublist _), (by simp)⟩
 ·
  have h4 : ¬ l.length ≤ 4 := by have := of_decide_eq_false hc0; simp at this; omega
  refine awp_skip ?_
  refine x_then ?_
  refine awp_seq ?_
  refine awp_region ?_
  refine r_move rfl rfl ?_
  first | (refine r_lenS rfl rfl TF.sl107 rfl ?_) | (refine r_lenNil rfl TF.sl107 rfl ?_) | (refine r_lenV rfl TF.sl107 rfl ?_)
  refine r_ari _ rfl rfl rfl (wrap_id (by simp; omega)) rfl ?_
  refine r_div ((((l.length + 1) / 2) : Nat) : Int) rfl rfl (quo_some (by decide)) (by rw [show ((((l.map fun n => [enc h n]).length : Nat) : Int) + 1) = ((l.length + 1 : Nat) : Int) by simp, show (2 : Int) = ((2 : Nat) : Int) from rfl, ← Int.ofNat_tdiv]; exact wrap_id (by omega)) rfl ?_
  refine r_assign rfl rfl ?_
  refine awl_nil ?_
  refine x_then ?_
  refine awp_seq ?_
  refine awp_any (fun B S => ∃ x18 : Nat, ∃ x22 : Nat, ∃ sl : List (Nat × SV), S = ⟨24, sl, []⟩ ∧ find 0 sl = some (.a (.sl 1 (l.map fun n => [enc h n]))) ∧ find 3 sl = some (.a (.v (.int .i64 ((((l.length + 1) / 2) : Nat))))) ∧ (B 0 = true → find 14 sl = some (.a (.sl 1 (l.map fun n => [enc h n])))) ∧ (B 1 = true → find 15 sl = some (.a (.v (.int .i64 ((((l.length + 1) / 2) : Nat)))))) ∧ (B 2 = true → find 16 sl = some (.a (.v (.int .i64 ((((l.length + 1) / 2) : Nat)))))) ∧ (B 3 = true → find 17 sl = some (.a (.sl 1 ((l.map fun n => [enc h n]).take ((l.length + 1) / 2))))) ∧ (B 4 = true → find 18 sl = some (.a (enc (h + 1) (x18, l.take ((l.length + 1) / 2))))) ∧ (B 5 = true → find 19 sl = some (.a (.sl 1 (l.map fun n => [enc h n])))) ∧ (B 6 = true → find 20 sl = some (.a (.v (.int .i64 ((((l.length + 1) / 2) : Nat)))))) ∧ (B 7 = true → find 21 sl = some (.a (.sl 1 ((l.map fun n => [enc h n]).drop ((l.length + 1) / 2))))) ∧ (B 8 = true → find 22 sl = some (.a (enc (h + 1) (x22, l.drop ((l.length + 1) / 2))))) ∧ (B 9 = true → find 23 sl = some (.a (.sl 1 [[enc (h + 1) (x18, l.take ((l.length + 1) / 2))], [enc (h + 1) (x22, l.drop ((l.length + 1) / 2))]]))) ∧ (B 10 = true → find 2 sl = some (.a (.sl 1 [[enc (h + 1) (x18, l.take ((l.length + 1) / 2))], [enc (h + 1) (x22, l.drop ((l.length + 1) / 2))]])))) TF.mixed rfl ⟨0, 0, _, rfl, rfl, rfl, (fun h => by cases h), (fun h => by cases h), (fun h => by cases h), (fun h => by cases h), (fun h => by cases h), (fun h => by cases h), (fun h => by cases h), (fun h => by cases h), (fun h => by cases h), (fun h => by cases h), (fun h => by cases h)⟩ ⟨⟨⟨⟨⟨⟨⟨⟨⟨⟨⟨trivial
   , ⟨_, rfl, fun B S hBi hdep hcl => by
     rintro ⟨x18, x22, sl, rfl, h0, h3, f0, f1, f2, f3, f4, f5, f6, f7, f8, f9, f10⟩
     refine r_move h0 rfl ?_
     exact awl_nil ⟨rfl, x18, x22, _, rfl, h0, h3, (fun h => rfl), f1, f2, f3, f4, f5, f6, f7, f8, f9, f10⟩⟩⟩
   , ⟨_, rfl, fun B S hBi hdep hcl => by
     rintro ⟨x18, x22, sl, rfl, h0, h3, f0, f1, f2, f3, f4, f5, f6, f7, f8, f9, f10⟩
     refine r_move h3 rfl ?_
     exact awl_nil ⟨rfl, x18, x22, _, rfl, h0, h3, f0, (fun h => rfl), f2, f3, f4, f5, f6, f7, f8, f9, f10⟩⟩⟩
   , ⟨_, rfl, fun B S hBi hdep hcl => by
     rintro ⟨x18, x22, sl, rfl, h0, h3, f0, f1, f2, f3, f4, f5, f6, f7, f8, f9, f10⟩
     refine r_move h3 rfl ?_
     exact awl_nil ⟨rfl, x18, x22, _, rfl, h0, h3, f0, f1, (fun h => rfl), f3, f4, f5, f6, f7, f8, f9, f10⟩⟩⟩
   , ⟨_, rfl, fun B S hBi hdep hcl => by
     rintro ⟨x18, x22, sl, rfl, h0, h3, f0, f1, f2, f3, f4, f5, f6, f7, f8, f9, f10⟩
     refine r_slice3 (f0 (hdep 0 rfl)) rfl (f1 (hdep 1 rfl)) (f2 (hdep 2 rfl)) TF.sl107 TF.sz100 (by omega) (by omega) (by simp; omega) rfl ?_
     exact awl_nil ⟨rfl, x18, x22, _, rfl, h0, h3, f0, f1, f2, (fun h => rfl), f4, f5, f6, f7, f8, f9, f10⟩⟩⟩
   , ⟨_, rfl, fun B S hBi hdep hcl => by
     rintro ⟨x18, x22, sl, rfl, h0, h3, f0, f1, f2, f3, f4, f5, f6, f7, f8, f9, f10⟩
     refine r_call0 hq rfl rfl (.cons (.ev (f3 (hdep 3 rfl)) rfl) .nil) (over_ok h (l.take ((l.length + 1) / 2)) (fun n hn => hw n (List.mem_of_mem_take hn)) (by rw [List.length_take]; omega) (by rw [List.length_take]; omega) ((l.map fun n => [enc h n]).take ((l.length + 1) / 2)) (by rw [List.map_take])) rfl TF.en71 rfl (fun r hr => ?_)
     obtain ⟨bq, rfl⟩ := hr
     exact awl_nil ⟨rfl, bq, x22, _, rfl, h0, h3, f0, f1, f2, f3, (fun h => rfl), f5, f6, f7, f8, (fun h => absurd (hcl 9 4 h rfl) (by rw [hBi]; decide)), (fun h => absurd (hcl 10 4 h rfl) (by rw [hBi]; decide))⟩⟩⟩
   , ⟨_, rfl, fun B S hBi hdep hcl => by
     rintro ⟨x18, x22, sl, rfl, h0, h3, f0, f1, f2, f3, f4, f5, f6, f7, f8, f9, f10⟩
     refine r_move h0 rfl ?_
     exact awl_nil ⟨rfl, x18, x22, _, rfl, h0, h3, f0, f1, f2, f3, f4, (fun h => rfl), f6, f7, f8, f9, f10⟩⟩⟩
   , ⟨_, rfl, fun B S hBi hdep hcl => by
     rintro ⟨x18, x22, sl, rfl, h0, h3, f0, f1, f2, f3, f4, f5, f6, f7, f8, f9, f10⟩
     refine r_move h3 rfl ?_
     exact awl_nil ⟨rfl, x18, x22, _, rfl, h0, h3, f0, f1, f2, f3, f4, f5, (fun h => rfl), f7, f8, f9, f10⟩⟩⟩
   , ⟨_, rfl, fun B S hBi hdep hcl => by
     rintro ⟨x18, x22, sl, rfl, h0, h3, f0, f1, f2, f3, f4, f5, f6, f7, f8, f9, f10⟩
     refine r_sliceL (f5 (hdep 5 rfl)) rfl (f6 (hdep 6 rfl)) TF.sl107 TF.sz100 (by omega) (by simp; omega) rfl ?_
     exact awl_nil ⟨rfl, x18, x22, _, rfl, h0, h3, f0, f1, f2, f3, f4, f5, f6, (fun h => rfl), f8, f9, f10⟩⟩⟩
   , ⟨_, rfl, fun B S hBi hdep hcl => by
     rintro ⟨x18, x22, sl, rfl, h0, h3, f0, f1, f2, f3, f4, f5, f6, f7, f8, f9, f10⟩
     refine r_call0 hq rfl rfl (.cons (.ev (f7 (hdep 7 rfl)) rfl) .nil) (over_ok h (l.drop ((l.length + 1) / 2)) (fun n hn => hw n (List.mem_of_mem_drop hn)) (by rw [List.length_drop]; omega) (by rw [List.length_drop]; omega) ((l.map fun n => [enc h n]).drop ((l.length + 1) / 2)) (by rw [List.map_drop])) rfl TF.en71 rfl (fun r hr => ?_)
     obtain ⟨bq, rfl⟩ := hr
     exact awl_nil ⟨rfl, x18, bq, _, rfl, h0, h3, f0, f1, f2, f3, f4, f5, f6, f7, (fun h => rfl), (fun h => absurd (hcl 9 8 h rfl) (by rw [hBi]; decide)), (fun h => absurd (hcl 10 8 h rfl) (by rw [hBi]; decide))⟩⟩⟩
   , ⟨_, rfl, fun B S hBi hdep hcl => by
     rintro ⟨x18, x22, sl, rfl, h0, h3, f0, f1, f2, f3, f4, f5, f6, f7, f8, f9, f10⟩
     refine r_litC (parts := [(0, .tmp 18), (1, .tmp 22)]) rfl TF.sl107 TF.sz100 TF.zraw100 rfl rfl rfl (parts_cons (f4 (hdep 4 rfl)) (parts_cons (f8 (hdep 8 rfl)) parts_nil)) rfl rfl rfl rfl ?_
     exact awl_nil ⟨rfl, x18, x22, _, rfl, h0, h3, f0, f1, f2, f3, f4, f5, f6, f7, f8, (fun h => rfl), f10⟩⟩⟩
   , ⟨_, rfl, fun B S hBi hdep hcl => by
     rintro ⟨x18, x22, sl, rfl, h0, h3, f0, f1, f2, f3, f4, f5, f6, f7, f8, f9, f10⟩
     refine r_assign (f9 (hdep 9 rfl)) rfl ?_
     exact awl_nil ⟨rfl, x18, x22, _, rfl, h0, h3, f0, f1, f2, f3, f4, f5, f6, f7, f8, f9, (fun h => rfl)⟩⟩⟩
   (fun B S hall => by
    rintro ⟨x18, x22, sl, rfl, h0, h3, f0, f1, f2, f3, f4, f5, f6, f7, f8, f9, f10⟩
    skip
    refine x_then ?_
    refine awp_weaken (S' := ⟨24, [(0, .a (.sl 1 (l.map fun n => [enc h n]))), (3, .a (.v (.int .i64 ((((l.length + 1) / 2) : Nat))))), (2, .a (.sl 1 [[enc (h + 1) (x18, l.take ((l.length + 1) / 2))], [enc (h + 1) (x22, l.drop ((l.length + 1) / 2))]]))], []⟩) ⟨rfl, (Slots.cons h0 (.refl _) (Slots.cons h3 (.refl _) (Slots.cons (f10 (hall 10 (by decide))) (.refl _) Slots.nil))), (List.Sublist.refl _)⟩ ?_
    refine awp_ret ?_
    exact ⟨(.inl rfl), _, [], (.one (by first | exact .mk rfl rfl | exact .nil rfl)), ⟨rfl, [(x18, l.take ((l.length + 1) / 2)), (x22, l.drop ((l.length + 1) / 2))], by rw [halvesG, if_neg h4]; rfl, rfl⟩, (List.nil_sublist _), (by simp)⟩)
end Go.Proofs.Ytpkodkoooaldlaa.A
namespace Go.Proofs.Ytpkodkoooaldlaa.A
open Go Go.RowKit
set_option linter.unusedVariables false
set_option linter.unusedSimpArgs false
set_option maxRecDepth 100000
theorem TF.en53 : entersT Try.prog 53 := enters_of Try.func53 (by kernel_rfl) (by kernel_rfl)
theorem TF.en55 : entersT Try.prog 55 := enters_of Try.func55 (by kernel_rfl) (by kernel_rfl)
theorem TF.en56 : entersT Try.prog 56 := enters_of Try.func56 (by kernel_rfl) (by kernel_rfl)
theorem TF.en54 : entersT Try.prog 54 := enters_of Try.func54 (by kernel_rfl) (by kernel_rfl)
theorem TF.en57 : entersT Try.prog 57 := enters_of Try.func57 (by kernel_rfl) (by kernel_rfl)
theorem TF.en42 : entersT Try.prog 42 := enters_of Try.func42 (by kernel_rfl) (by kernel_rfl)
theorem TF.zraw107 : zeroT Try.prog 107 = some [(.slice none 0 0)] := by kernel_rfl
theorem TF.en59 : entersT Try.prog 59 := enters_of Try.func59 (by kernel_rfl) (by kernel_rfl)
theorem TF.en58 : entersT Try.prog 58 := enters_of Try.func58 (by kernel_rfl) (by kernel_rfl)
theorem put_nil (k : Sp) (v : Int) : AC Try.prog 42 [nilP, spA k, .v (.int .u64 (v))] [] (fun r n => n = [] ∧ ∃ b, r = .sl 1 [[enc 0 (b, [(k, v)])]]) := by
 refine ac_of_awp (rs := [6]) (nt := 84) Try.func42 rfl rfl rfl rfl (fun w0 C0 hq => ?_)
 unfold nilP
 refine awp_seq ?_
 refine awp_region ?_
 refine r_box rfl rfl rfl (fun b4 => ?_)
 refine r_assign rfl rfl ?_
 refine awl_nil ?_
 refine x_then ?_
 refine awp_seq ?_
 refine awp_seq ?_
 refine awp_region ?_
 refine r_move rfl rfl ?_
 refine r_pnil rfl (by first | exact .pt _ _ | exact .nil | exact .v _ | exact .cp _) TF.un100 rfl ?_
 refine awl_nil ?_
 refine x_then ?_
 refine awp_cond rfl (fun hc0 => ?_) (fun hc0 => ?_)
 ·
  skip
  refine awp_seq ?_
  refine awp_region ?_
  first | (refine r_loadAb 0 rfl rfl TF.agg73 TF.sz73 rfl rfl ?_) | (refine r_loadA rfl TF.agg73 TF.sz73 rfl rfl ?_)
  refine r_lit 15 (parts := [(0, .tmp 14)]) rfl TF.sl112 TF.sz73 TF.zraw73 rfl rfl rfl rfl rfl rfl rfl ?_
  refine r_move rfl rfl ?_
  refine r_lit 17 (parts := [(0, .tmp 16)]) rfl TF.sl113 TF.sz31 TF.zraw31 rfl rfl rfl rfl rfl rfl rfl ?_
  refine r_build (parts := [(0, .tmp 15), (1, .tmp 17)]) rfl TF.pl115 TF.zero115 rfl rfl rfl ?_
  refine r_box rfl rfl rfl (fun b19 => ?_)
  refine awl_imp (imp_commitP 0 19 rfl rfl rfl rfl) ?_
  refine r_lit 20 (parts := [(0, .tmp 19)]) rfl TF.sl107 TF.sz100 TF.zraw100 rfl rfl rfl rfl rfl rfl rfl ?_
  refine r_assign rfl rfl ?_
  refine awl_nil ?_
  refine x_then ?_
  refine awp_ret ?_
  refine x_thenR ?_
  exact ⟨(.inl rfl), _, [], (.one (by first | exact .mk rfl rfl | exact .nil rfl)), ⟨rfl, b19, rfl⟩, (List.nil_sublist _), (by simp)⟩
 ·
  exfalso; cases hc0
theorem put_leaf (b : Nat) (its : List (Sp × Int)) (hw1 : 1 ≤ its.length) (hw4 : its.length ≤ 4) (k : Sp) (v : Int) : AC Try.prog 42 [ndA b (its.map fun p : Sp × Int => p.1) (its.map fun p : Sp × Int => p.2) [], spA k, .v (.int .u64 (v))] [] (fun r n => n = [] ∧ ∃ l, PutR 0 (b, its) k v l ∧ r = .sl 1 (l.map fun x => [enc 0 x])) := by
 refine ac_of_awp (rs := [6]) (nt := 84) Try.func42 rfl rfl rfl rfl (fun w0 C0 hq => ?_)
 unfold ndA
 obtain ⟨hz4, ho4⟩ := its_one (its.map fun p : Sp × Int => p.1)
 obtain ⟨hz1, ho1⟩ := vls_one (its.map fun p : Sp × Int => p.2)
 have hkn : (its.map fun p : Sp × Int => p.1) ≠ [] := by intro e; have := congrArg List.length e; simp at this; rw [this] at hw1; simp at hw1
 have hvl1 := flat_len hz1
 rw [List.length_map] at hvl1
 refine awp_seq ?_
 refine awp_region ?_
 refine r_box rfl rfl rfl (fun b4 => ?_)
 refine r_assign rfl rfl ?_
 refine awl_nil ?_
 refine x_then ?_
 refine awp_seq ?_
 refine awp_seq ?_
 refine awp_region ?_
 refine r_move rfl rfl ?_
 refine r_pnil rfl (by first | exact .pt _ _ | exact .nil | exact .v _ | exact .cp _) TF.un100 rfl ?_
 refine awl_nil ?_
 refine x_then ?_
 refine awp_cond rfl (fun hc0 => ?_) (fun hc0 => ?_)
 ·
  exfalso; cases hc0
 ·
  refine awp_skip ?_
  refine x_then ?_
  refine awp_seq ?_
  refine awp_seq ?_
  refine awp_region ?_
  refine r_move rfl rfl ?_
  refine r_call0 hq rfl rfl (.cons (.ev rfl rfl) .nil) (leaf_ok b (its.map fun p : Sp × Int => p.1) (its.map fun p : Sp × Int => p.2) []) rfl TF.en51 rfl (fun r hr => ?_)
  obtain rfl := hr
  refine awl_nil ?_
  refine x_then ?_
  refine awp_cond rfl (fun hc1 => ?_) (fun hc1 => ?_)
  ·
   skip
   refine awp_seq ?_
   refine awp_region ?_
   refine r_move rfl rfl ?_
   first | (refine r_loadAb 0 rfl rfl TF.agg73 TF.sz73 rfl rfl ?_) | (refine r_loadA rfl TF.agg73 TF.sz73 rfl rfl ?_)
   refine r_call0 hq rfl rfl (.cons (.ev rfl rfl) (.cons (.ev rfl rfl) .nil)) (find_ok b (its.map fun p : Sp × Int => p.1) (its.map fun p : Sp × Int => p.2) [] (by simp; omega) k) rfl TF.en52 rfl (fun r hr => ?_)
   obtain rfl := hr
   refine r_move rfl rfl ?_
   refine r_extract rfl rfl rfl ?_
   refine r_extract rfl rfl rfl ?_
   refine r_assign rfl rfl ?_
   refine r_assign rfl rfl ?_
   refine awl_nil ?_
   refine x_then ?_
   refine awp_seq ?_
   refine awp_region ?_
   refine r_move rfl rfl ?_
   refine r_callO hq rfl rfl (.cons (.ev rfl rfl) .nil) (leafs_ok b (its.map fun p : Sp × Int => p.1) (its.map fun p : Sp × Int => p.2) [] hkn (by simp; omega) (by simp)) rfl TF.en53 (by first | exact List.Sublist.refl _ | exact .cons_cons _ (.cons _ (.refl _)) | exact List.nil_sublist _ | exact .cons _ (.refl _) | exact .cons _ (.cons _ (.refl _)) | exact .cons _ (.cons _ (.cons _ (.refl _))) | exact .cons _ (.cons _ (.cons _ (.cons _ (.refl _)))) | exact .cons_cons _ (List.nil_sublist _)) rfl (fun r nobjs hr => ?_)
   obtain ⟨g1, cap, ext, g2, rfl, rfl, hq1, hq2⟩ := hr
   refine r_move rfl rfl ?_
   refine r_extract rfl rfl rfl ?_
   refine r_extract rfl rfl rfl ?_
   refine r_assign rfl rfl ?_
   refine r_assign rfl rfl ?_
   refine awl_nil ?_
   refine x_then ?_
   refine awp_seq ?_
   refine awp_seq ?_
   refine awp_region ?_
   refine r_move rfl rfl ?_
   refine awl_nil ?_
   refine x_then ?_
   refine awp_cond rfl (fun hc2 => ?_) (fun hc2 => ?_)
   ·
    have hh : (findL k (its.map fun p : Sp × Int => p.1)).2 = true := hc2
    have hil := findL_had hh
    rw [List.length_map] at hil
    obtain ⟨e1, e2, e3⟩ := putL_had (v := v) hh
    refine awp_seq ?_
    refine awp_region ?_
    refine r_move rfl rfl ?_
    refine r_move rfl rfl ?_
    refine r_move rfl rfl ?_
    refine r_indexV rfl rfl TF.sl113 TF.sz31 (by simp [findN]) (by simp [findN]; omega) rfl ?_
    refine r_store 0 rfl rfl rfl TF.sz31 rfl (Nat.ble_eq_true_of_le (by rw [List.append_nil, hvl1, List.length_map]; show 0 + (findL k (its.map fun p : Sp × Int => p.1)).1 * 1 + 1 ≤ _; omega)) rfl ?_
    refine awl_nil ?_
    refine x_then ?_
    refine awp_seq ?_
    refine awp_region ?_
    refine awl_imp (imp_commitS 0 10 (sz := 1) (l := ((its.map fun p : Sp × Int => p.2).set (findL k (its.map fun p : Sp × Int => p.1)).1 v).map u64c) (ext := []) rfl rfl (flat_set (f := u64c) (n := 1) (fun _ => rfl) (l := (its.map fun p : Sp × Int => p.2)) (k := (findL k (its.map fun p : Sp × Int => p.1)).1) (x := v) (ext := []) (by rw [List.length_map]; exact hil)) (by simp) (Nat.le_refl _) (vls_one _).1 (by rw [List.append_nil]; simp only [List.length_append, List.length_take, List.length_drop, hvl1, List.length_map]; show min (0 + (findL k (its.map fun p : Sp × Int => p.1)).1 * 1) (its.length * 1) + 1 + (its.length * 1 - (0 + (findL k (its.map fun p : Sp × Int => p.1)).1 * 1 + 1)) = its.length * 1; omega) (vls_one _).2) ?_
    refine awl_imp (imp_commitS 0 9 (sz := 4) (l := (its.map fun p : Sp × Int => p.1).map Sp.cs) (ext := ext) rfl rfl rfl (by simp) hq1 hz4 hq2 ho4) ?_
    refine r_move rfl rfl ?_
    refine r_move rfl rfl ?_
    refine r_build (parts := [(0, .tmp 39), (1, .tmp 40)]) rfl TF.pl115 TF.zero115 rfl rfl rfl ?_
    refine r_box rfl rfl rfl (fun b42 => ?_)
    refine awl_imp (imp_commitP 0 42 rfl rfl rfl rfl) ?_
    refine r_lit 43 (parts := [(0, .tmp 42)]) rfl TF.sl107 TF.sz100 TF.zraw100 rfl rfl rfl rfl rfl rfl rfl ?_
    refine r_assign rfl rfl ?_
    refine awl_nil ?_
    refine x_then ?_
    refine awp_ret ?_
    refine x_thenR ?_
    refine x_thenR ?_
    exact ⟨(.inl rfl), _, [], (.one (by first | exact .mk rfl rfl | exact .nil rfl)), ⟨rfl, [(b42, putL k v its)], by show [putL k v its] = halvesG (putL k v its); unfold halvesG; rw [if_pos (by omega)], by show _ = AV.sl 1 [[ndA b42 ((putL k v its).map fun p => p.1) ((putL k v its).map fun p => p.2) []]]; rw [e1, e2]; rfl⟩, (List.nil_sublist _), (by simp)⟩
   ·
    have hh : (findL k (its.map fun p : Sp × Int => p.1)).2 = false := hc2
    have hil := findL_le (k := k) (l := (its.map fun p : Sp × Int => p.1))
    rw [List.length_map] at hil
    have hpn := putL_new (v := v) hh
    refine awp_skip ?_
    refine x_then ?_
    refine awp_seq ?_
    refine awp_region ?_
    refine r_move rfl rfl ?_
    refine r_move rfl rfl ?_
    first | (refine r_loadAb 0 rfl rfl TF.agg73 TF.sz73 rfl rfl ?_) | (refine r_loadA rfl TF.agg73 TF.sz73 rfl rfl ?_) | (refine r_loadAb 1 rfl rfl TF.agg73 TF.sz73 rfl rfl ?_) | (refine r_loadAb 2 rfl rfl TF.agg73 TF.sz73 rfl rfl ?_)
    refine r_lit 47 (parts := [(0, .tmp 46)]) rfl TF.sl112 TF.sz73 TF.zraw73 rfl rfl rfl rfl rfl rfl rfl ?_
    refine r_callW hq [false, true, false] rfl rfl (.cons (.ev rfl rfl) (.cons (.ev rfl rfl) (.cons (.ev rfl rfl) .nil))) (insertS_ok ((its.map fun p : Sp × Int => p.1).map Sp.cs) hz4 ho4 (by simp; omega) k.cs rfl rfl (findL k (its.map fun p : Sp × Int => p.1)).1 (by simp; exact hil) g1 cap ext (by simpa using hq1) hq2 _ (by simp)) rfl TF.en55 rfl rfl (List.nil_sublist _) rfl (fun r nobjs hr => ?_)
    obtain ⟨rfl, rfl⟩ := hr
    refine r_move rfl rfl ?_
    refine r_move rfl rfl ?_
    refine r_move rfl rfl ?_
    refine r_lit 52 (parts := [(0, .tmp 51)]) rfl TF.sl113 TF.sz31 TF.zraw31 rfl rfl rfl rfl rfl rfl rfl ?_
    refine r_callW hq [true, false] rfl rfl (.cons (.ev rfl rfl) (.cons (.ev rfl rfl) (.cons (.ev rfl rfl) .nil))) (insertU_ok ((its.map fun p : Sp × Int => p.2).map u64c) hz1 ho1 (by simp; omega) (u64c v) rfl rfl (findL k (its.map fun p : Sp × Int => p.1)).1 (by simp; exact hil) g2 (its.map fun p : Sp × Int => p.1).length [] (by simp) (by rw [List.append_nil, hvl1]; simp) _ (by simp)) rfl TF.en56 rfl rfl (List.nil_sublist _) rfl (fun r nobjs hr => ?_)
    obtain ⟨rfl, rfl⟩ := hr
    refine r_call0 hq rfl rfl (.cons (.ev rfl rfl) (.cons (.ev rfl rfl) .nil)) (halves_ok (putL k v its) (by have := (putL_len (k := k) (v := v) (l := its)).2; omega) _ _ (by rw [hpn]; simp [List.map_take, List.map_drop]) (by rw [hpn]; simp [List.map_take, List.map_drop, u64c])) rfl TF.en54 rfl (fun r hr => ?_)
    obtain ⟨l, hl1, rfl⟩ := hr
    refine r_assign rfl rfl ?_
    refine awl_nil ?_
    refine x_then ?_
    refine awp_ret ?_
    refine x_thenR ?_
    exact ⟨(.inl rfl), _, [], (.one (by first | exact .mk rfl rfl | exact .nil rfl)), ⟨rfl, l, hl1, rfl⟩, (List.nil_sublist _), (by simp)⟩
  ·
   exfalso; cases hc1
theorem three_eq {h : Nat} (l rl : List (Nd h)) (i : Nat) : [((l.map (enc h)).map fun x => [x]).take i, rl.map fun x => [enc h x], ((l.map (enc h)).map fun x => [x]).drop (i + 1)].flatten = (l.take i ++ rl ++ l.drop (i + 1)).map fun n => [enc h n] := by
  simp [List.map_take, List.map_drop]; rfl
theorem three_len {h : Nat} {l rl : List (Nd h)} {i : Nat} (hi : i < l.length) (h1 : 1 ≤ rl.length) (h2 : rl.length ≤ 2) (h4 : l.length ≤ 4) : 0 < (l.take i ++ rl ++ l.drop (i + 1)).length ∧ (l.take i ++ rl ++ l.drop (i + 1)).length ≤ 5 := by
  simp only [List.length_append, List.length_take, List.length_drop]; omega
theorem three_mem {h : Nat} {l rl : List (Nd h)} {i j : Nat} {lo : Nat} (hl : ∀ n ∈ l, wfC lo h n.2) (hr : ∀ n ∈ rl, wfC lo h n.2) : ∀ n ∈ l.take i ++ rl ++ l.drop j, wfC lo h n.2 := fun n hn => by
  rcases List.mem_append.1 hn with hn | hn
  · rcases List.mem_append.1 hn with hn | hn
    · exact hl n (List.mem_of_mem_take hn)
    · exact hr n hn
  · exact hl n (List.mem_of_mem_drop hn)
theorem put_inner (h : Nat) (ih : ∀ (n : Nd h), wfC 1 h n.2 → ∀ (k : Sp) (v : Int), AC Try.prog 42 [enc h n, spA k, .v (.int .u64 (v))] [] (fun r nb => nb = [] ∧ ∃ l, PutR h n k v l ∧ r = .sl 1 (l.map fun x => [enc h x]))) (b : Nat) (l : List (Nd h)) (h0 : 0 < l.length) (hl4 : l.length ≤ 4) (hw : ∀ n ∈ l, wfC 2 h n.2) (k : Sp) (v : Int) : AC Try.prog 42 [ndA b (kksOf h l) [] (l.map (enc h)), spA k, .v (.int .u64 (v))] [] (fun r n => n = [] ∧ ∃ m : List (Nd (h + 1)), PutR (h + 1) (b, l) k v m ∧ r = .sl 1 (m.map fun x => [enc (h + 1) x])) := by
 refine ac_of_awp (rs := [6]) (nt := 84) Try.func42 rfl rfl rfl rfl (fun w0 C0 hq => ?_)
 unfold ndA
 have hemp : (l.map (enc h)).isEmpty = false := by cases l with | nil => simp at h0 | cons => rfl
 have hil := wayI_lt (k := k) h0
 obtain ⟨kid, hkid⟩ : ∃ kid, l[wayI h k l]? = some kid := get_lt hil
 obtain ⟨i, hi⟩ : ∃ i, i = wayI h k l := ⟨_, rfl⟩
 rw [← hi] at hkid hil
 have hkw := hw kid (List.mem_of_getElem? hkid)
 refine awp_seq ?_
 refine awp_region ?_
 refine r_box rfl rfl rfl (fun b4 => ?_)
 refine r_assign rfl rfl ?_
 refine awl_nil ?_
 refine x_then ?_
 refine awp_seq ?_
 refine awp_seq ?_
 refine awp_region ?_
 refine r_move rfl rfl ?_
 refine r_pnil rfl (by first | exact .pt _ _ | exact .nil | exact .v _ | exact .cp _) TF.un100 rfl ?_
 refine awl_nil ?_
 refine x_then ?_
 refine awp_cond rfl (fun hc0 => ?_) (fun hc0 => ?_)
 ·
  exfalso; cases hc0
 ·
  refine awp_skip ?_
  refine x_then ?_
  refine awp_seq ?_
  refine awp_seq ?_
  refine awp_region ?_
  refine r_move rfl rfl ?_
  refine r_call0 hq rfl rfl (.cons (.ev rfl rfl) .nil) (leaf_ok b (kksOf h l) [] (l.map (enc h))) rfl TF.en51 rfl (fun r hr => ?_)
  obtain rfl := hr
  refine awl_nil ?_
  refine x_then ?_
  refine awp_cond rfl (fun hc1 => ?_) (fun hc1 => ?_)
  ·
   exfalso; rw [hemp] at hc1; cases hc1
  ·
   refine awp_skip ?_
   refine x_then ?_
   refine awp_seq ?_
   refine awp_region ?_
   refine r_move rfl rfl ?_
   first | (refine r_loadAb 0 rfl rfl TF.agg73 TF.sz73 rfl rfl ?_) | (refine r_loadA rfl TF.agg73 TF.sz73 rfl rfl ?_)
   refine r_call0 hq rfl rfl (.cons (.ev rfl rfl) (.cons (.ev rfl rfl) .nil)) (way_ok h b l h0 (by omega) k) rfl TF.en57 rfl (fun r hr => ?_)
   obtain rfl := hr
   rw [← hi]
   refine r_assign rfl rfl ?_
   refine awl_nil ?_
   refine x_then ?_
   refine awp_seq ?_
   refine awp_any (fun B S => ∃ rl : List (Nd h), ∃ ml : List (Nd (h + 1)), ∃ sl : List (Nat × SV), S = ⟨84, sl, [⟨b4, true, .box k.cs⟩]⟩ ∧ find 0 sl = some (.a (.pt b [.sl 4 ((kksOf h l).map Sp.cs), .sl 1 (([] : List Int).map u64c), .sl 1 ((l.map (enc h)).map fun x => [x])])) ∧ find 2 sl = some (.a (.v (.int .u64 (v)))) ∧ find 4 sl = some (.a (.v (.pointer (some ⟨b4, 0, none⟩)))) ∧ find 11 sl = some (.a (.v (.int .i64 ((i : Nat))))) ∧ (B 0 = true → find 58 sl = some (.a (.pt b [.sl 4 ((kksOf h l).map Sp.cs), .sl 1 (([] : List Int).map u64c), .sl 1 ((l.map (enc h)).map fun x => [x])]))) ∧ (B 1 = true → find 59 sl = some (.a (.pt b [.sl 4 ((kksOf h l).map Sp.cs), .sl 1 (([] : List Int).map u64c), .sl 1 ((l.map (enc h)).map fun x => [x])]))) ∧ (B 2 = true → find 60 sl = some (.a (.cp [.sl 1 ((l.map (enc h)).map fun x => [x])]))) ∧ (B 3 = true → find 61 sl = some (.a (.sl 1 ((l.map (enc h)).map fun x => [x])))) ∧ (B 4 = true → find 62 sl = some (.a (.v (.int .i64 ((i : Nat)))))) ∧ (B 5 = true → find 63 sl = some (.a (.sl 1 (((l.map (enc h)).map fun x => [x]).take i)))) ∧ (B 6 = true → find 64 sl = some (.a (.pt b [.sl 4 ((kksOf h l).map Sp.cs), .sl 1 (([] : List Int).map u64c), .sl 1 ((l.map (enc h)).map fun x => [x])]))) ∧ (B 7 = true → find 65 sl = some (.a (.pt b [.sl 4 ((kksOf h l).map Sp.cs), .sl 1 (([] : List Int).map u64c), .sl 1 ((l.map (enc h)).map fun x => [x])]))) ∧ (B 8 = true → find 66 sl = some (.a (.cp [.sl 1 ((l.map (enc h)).map fun x => [x])]))) ∧ (B 9 = true → find 67 sl = some (.a (.sl 1 ((l.map (enc h)).map fun x => [x])))) ∧ (B 10 = true → find 68 sl = some (.a (.v (.int .i64 ((i : Nat)))))) ∧ (B 11 = true → find 69 sl = some (.a (.cp [enc h kid]))) ∧ (B 12 = true → find 70 sl = some (.a (enc h kid))) ∧ (B 13 = true → find 71 sl = some (.a (spA k))) ∧ (B 14 = true → find 72 sl = some (.a (.v (.int .u64 (v))))) ∧ (B 15 = true → find 73 sl = some (.a (.sl 1 (rl.map fun x => [enc h x])))) ∧ (B 16 = true → find 74 sl = some (.a (.pt b [.sl 4 ((kksOf h l).map Sp.cs), .sl 1 (([] : List Int).map u64c), .sl 1 ((l.map (enc h)).map fun x => [x])]))) ∧ (B 17 = true → find 75 sl = some (.a (.pt b [.sl 4 ((kksOf h l).map Sp.cs), .sl 1 (([] : List Int).map u64c), .sl 1 ((l.map (enc h)).map fun x => [x])]))) ∧ (B 18 = true → find 76 sl = some (.a (.cp [.sl 1 ((l.map (enc h)).map fun x => [x])]))) ∧ (B 19 = true → find 77 sl = some (.a (.sl 1 ((l.map (enc h)).map fun x => [x])))) ∧ (B 20 = true → find 78 sl = some (.a (.v (.int .i64 ((i : Nat)))))) ∧ (B 21 = true → find 79 sl = some (.a (.v (.int .i64 (((i + 1 : Nat) : Int)))))) ∧ (B 22 = true → find 80 sl = some (.a (.sl 1 (((l.map (enc h)).map fun x => [x]).drop (i + 1))))) ∧ (B 23 = true → find 81 sl = some (.a (.sl 1 ([((l.map (enc h)).map fun x => [x]).take i, rl.map fun x => [enc h x], ((l.map (enc h)).map fun x => [x]).drop (i + 1)].map fun x => [.sl 1 x])))) ∧ (B 24 = true → find 82 sl = some (.a (.sl 1 ([((l.map (enc h)).map fun x => [x]).take i, rl.map fun x => [enc h x], ((l.map (enc h)).map fun x => [x]).drop (i + 1)].flatten)))) ∧ (B 25 = true → find 83 sl = some (.a (.sl 1 (ml.map fun x => [enc (h + 1) x])))) ∧ (B 26 = true → find 6 sl = some (.a (.sl 1 (ml.map fun x => [enc (h + 1) x])))) ∧ (B 15 = true → PutR h kid k v rl) ∧ (B 25 = true → ml.map kdsOf = halvesG (l.take i ++ rl ++ l.drop (i + 1)))) TF.mixed rfl ⟨[], [], _, rfl, rfl, rfl, rfl, rfl, (fun h => by cases h), (fun h => by cases h), (fun h => by cases h), (fun h => by cases h), (fun h => by cases h), (fun h => by cases h), (fun h => by cases h), (fun h => by cases h), (fun h => by cases h), (fun h => by cases h), (fun h => by cases h), (fun h => by cases h), (fun h => by cases h), (fun h => by cases h), (fun h => by cases h), (fun h => by cases h), (fun h => by cases h), (fun h => by cases h), (fun h => by cases h), (fun h => by cases h), (fun h => by cases h), (fun h => by cases h), (fun h => by cases h), (fun h => by cases h), (fun h => by cases h), (fun h => by cases h), (fun h => by cases h), (fun h => by cases h), (fun h => by cases h)⟩ ⟨⟨⟨⟨⟨⟨⟨⟨⟨⟨⟨⟨⟨⟨⟨⟨⟨⟨⟨⟨⟨⟨⟨⟨⟨⟨⟨trivial
    , ⟨_, rfl, fun B S hBi hdep hcl => by
      rintro ⟨rl, ml, sl, rfl, h0, h2, h4, h11, f0, f1, f2, f3, f4, f5, f6, f7, f8, f9, f10, f11, f12, f13, f14, f15, f16, f17, f18, f19, f20, f21, f22, f23, f24, f25, f26, p15, p25⟩
      refine r_move h0 rfl ?_
      exact awl_nil ⟨rfl, rl, ml, _, rfl, h0, h2, h4, h11, (fun h => rfl), f1, f2, f3, f4, f5, f6, f7, f8, f9, f10, f11, f12, f13, f14, f15, f16, f17, f18, f19, f20, f21, f22, f23, f24, f25, f26, p15, p25⟩⟩⟩
    , ⟨_, rfl, fun B S hBi hdep hcl => by
      rintro ⟨rl, ml, sl, rfl, h0, h2, h4, h11, f0, f1, f2, f3, f4, f5, f6, f7, f8, f9, f10, f11, f12, f13, f14, f15, f16, f17, f18, f19, f20, f21, f22, f23, f24, f25, f26, p15, p25⟩
      refine r_nilCheck (f0 (hdep 0 rfl)) (by first | exact .pt _ _ | exact .v _ | exact .cp _) rfl ?_
      exact awl_nil ⟨rfl, rl, ml, _, rfl, h0, h2, h4, h11, f0, (fun h => rfl), f2, f3, f4, f5, f6, f7, f8, f9, f10, f11, f12, f13, f14, f15, f16, f17, f18, f19, f20, f21, f22, f23, f24, f25, f26, p15, p25⟩⟩⟩
    , ⟨_, rfl, fun B S hBi hdep hcl => by
      rintro ⟨rl, ml, sl, rfl, h0, h2, h4, h11, f0, f1, f2, f3, f4, f5, f6, f7, f8, f9, f10, f11, f12, f13, f14, f15, f16, f17, f18, f19, f20, f21, f22, f23, f24, f25, f26, p15, p25⟩
      first | (refine r_fieldpt (f1 (hdep 1 rfl)) TF.f115_2 TF.sz107 rfl ?_) | (refine r_fieldcp (f1 (hdep 1 rfl)) TF.f115_2 TF.sz107 rfl ?_) | (refine r_fieldb (f1 (hdep 1 rfl)) TF.f115_2 TF.sz107 rfl ?_)
      exact awl_nil ⟨rfl, rl, ml, _, rfl, h0, h2, h4, h11, f0, f1, (fun h => rfl), f3, f4, f5, f6, f7, f8, f9, f10, f11, f12, f13, f14, f15, f16, f17, f18, f19, f20, f21, f22, f23, f24, f25, f26, p15, p25⟩⟩⟩
    , ⟨_, rfl, fun B S hBi hdep hcl => by
      rintro ⟨rl, ml, sl, rfl, h0, h2, h4, h11, f0, f1, f2, f3, f4, f5, f6, f7, f8, f9, f10, f11, f12, f13, f14, f15, f16, f17, f18, f19, f20, f21, f22, f23, f24, f25, f26, p15, p25⟩
      first | (refine r_load1b 0 (f2 (hdep 2 rfl)) rfl rfl TF.agg107 rfl ?_) | (refine r_load1 (f2 (hdep 2 rfl)) TF.agg107 rfl ?_)
      exact awl_nil ⟨rfl, rl, ml, _, rfl, h0, h2, h4, h11, f0, f1, f2, (fun h => rfl), f4, f5, f6, f7, f8, f9, f10, f11, f12, f13, f14, f15, f16, f17, f18, f19, f20, f21, f22, f23, f24, f25, f26, p15, p25⟩⟩⟩
    , ⟨_, rfl, fun B S hBi hdep hcl => by
      rintro ⟨rl, ml, sl, rfl, h0, h2, h4, h11, f0, f1, f2, f3, f4, f5, f6, f7, f8, f9, f10, f11, f12, f13, f14, f15, f16, f17, f18, f19, f20, f21, f22, f23, f24, f25, f26, p15, p25⟩
      refine r_move h11 rfl ?_
      exact awl_nil ⟨rfl, rl, ml, _, rfl, h0, h2, h4, h11, f0, f1, f2, f3, (fun h => rfl), f5, f6, f7, f8, f9, f10, f11, f12, f13, f14, f15, f16, f17, f18, f19, f20, f21, f22, f23, f24, f25, f26, p15, p25⟩⟩⟩
    , ⟨_, rfl, fun B S hBi hdep hcl => by
      rintro ⟨rl, ml, sl, rfl, h0, h2, h4, h11, f0, f1, f2, f3, f4, f5, f6, f7, f8, f9, f10, f11, f12, f13, f14, f15, f16, f17, f18, f19, f20, f21, f22, f23, f24, f25, f26, p15, p25⟩
      refine r_sliceH (f3 (hdep 3 rfl)) rfl (f4 (hdep 4 rfl)) TF.sl107 TF.sz100 (by omega) (by simp; omega) rfl ?_
      exact awl_nil ⟨rfl, rl, ml, _, rfl, h0, h2, h4, h11, f0, f1, f2, f3, f4, (fun h => rfl), f6, f7, f8, f9, f10, f11, f12, f13, f14, f15, f16, f17, f18, f19, f20, f21, f22, f23, f24, f25, f26, p15, p25⟩⟩⟩
    , ⟨_, rfl, fun B S hBi hdep hcl => by
      rintro ⟨rl, ml, sl, rfl, h0, h2, h4, h11, f0, f1, f2, f3, f4, f5, f6, f7, f8, f9, f10, f11, f12, f13, f14, f15, f16, f17, f18, f19, f20, f21, f22, f23, f24, f25, f26, p15, p25⟩
      refine r_move h0 rfl ?_
      exact awl_nil ⟨rfl, rl, ml, _, rfl, h0, h2, h4, h11, f0, f1, f2, f3, f4, f5, (fun h => rfl), f7, f8, f9, f10, f11, f12, f13, f14, f15, f16, f17, f18, f19, f20, f21, f22, f23, f24, f25, f26, p15, p25⟩⟩⟩
    , ⟨_, rfl, fun B S hBi hdep hcl => by
      rintro ⟨rl, ml, sl, rfl, h0, h2, h4, h11, f0, f1, f2, f3, f4, f5, f6, f7, f8, f9, f10, f11, f12, f13, f14, f15, f16, f17, f18, f19, f20, f21, f22, f23, f24, f25, f26, p15, p25⟩
      refine r_nilCheck (f6 (hdep 6 rfl)) (by first | exact .pt _ _ | exact .v _ | exact .cp _) rfl ?_
      exact awl_nil ⟨rfl, rl, ml, _, rfl, h0, h2, h4, h11, f0, f1, f2, f3, f4, f5, f6, (fun h => rfl), f8, f9, f10, f11, f12, f13, f14, f15, f16, f17, f18, f19, f20, f21, f22, f23, f24, f25, f26, p15, p25⟩⟩⟩
    , ⟨_, rfl, fun B S hBi hdep hcl => by
      rintro ⟨rl, ml, sl, rfl, h0, h2, h4, h11, f0, f1, f2, f3, f4, f5, f6, f7, f8, f9, f10, f11, f12, f13, f14, f15, f16, f17, f18, f19, f20, f21, f22, f23, f24, f25, f26, p15, p25⟩
      first | (refine r_fieldpt (f7 (hdep 7 rfl)) TF.f115_2 TF.sz107 rfl ?_) | (refine r_fieldcp (f7 (hdep 7 rfl)) TF.f115_2 TF.sz107 rfl ?_) | (refine r_fieldb (f7 (hdep 7 rfl)) TF.f115_2 TF.sz107 rfl ?_)
      exact awl_nil ⟨rfl, rl, ml, _, rfl, h0, h2, h4, h11, f0, f1, f2, f3, f4, f5, f6, f7, (fun h => rfl), f9, f10, f11, f12, f13, f14, f15, f16, f17, f18, f19, f20, f21, f22, f23, f24, f25, f26, p15, p25⟩⟩⟩
    , ⟨_, rfl, fun B S hBi hdep hcl => by
      rintro ⟨rl, ml, sl, rfl, h0, h2, h4, h11, f0, f1, f2, f3, f4, f5, f6, f7, f8, f9, f10, f11, f12, f13, f14, f15, f16, f17, f18, f19, f20, f21, f22, f23, f24, f25, f26, p15, p25⟩
      first | (refine r_load1b 0 (f8 (hdep 8 rfl)) rfl rfl TF.agg107 rfl ?_) | (refine r_load1 (f8 (hdep 8 rfl)) TF.agg107 rfl ?_)
      exact awl_nil ⟨rfl, rl, ml, _, rfl, h0, h2, h4, h11, f0, f1, f2, f3, f4, f5, f6, f7, f8, (fun h => rfl), f10, f11, f12, f13, f14, f15, f16, f17, f18, f19, f20, f21, f22, f23, f24, f25, f26, p15, p25⟩⟩⟩
    , ⟨_, rfl, fun B S hBi hdep hcl => by
      rintro ⟨rl, ml, sl, rfl, h0, h2, h4, h11, f0, f1, f2, f3, f4, f5, f6, f7, f8, f9, f10, f11, f12, f13, f14, f15, f16, f17, f18, f19, f20, f21, f22, f23, f24, f25, f26, p15, p25⟩
      refine r_move h11 rfl ?_
      exact awl_nil ⟨rfl, rl, ml, _, rfl, h0, h2, h4, h11, f0, f1, f2, f3, f4, f5, f6, f7, f8, f9, (fun h => rfl), f11, f12, f13, f14, f15, f16, f17, f18, f19, f20, f21, f22, f23, f24, f25, f26, p15, p25⟩⟩⟩
    , ⟨_, rfl, fun B S hBi hdep hcl => by
      rintro ⟨rl, ml, sl, rfl, h0, h2, h4, h11, f0, f1, f2, f3, f4, f5, f6, f7, f8, f9, f10, f11, f12, f13, f14, f15, f16, f17, f18, f19, f20, f21, f22, f23, f24, f25, f26, p15, p25⟩
      refine r_index (f9 (hdep 9 rfl)) rfl (f10 (hdep 10 rfl)) TF.sl107 TF.sz100 (by omega) (get_map (get_map hkid)) rfl ?_
      exact awl_nil ⟨rfl, rl, ml, _, rfl, h0, h2, h4, h11, f0, f1, f2, f3, f4, f5, f6, f7, f8, f9, f10, (fun h => rfl), f12, f13, f14, f15, f16, f17, f18, f19, f20, f21, f22, f23, f24, f25, f26, p15, p25⟩⟩⟩
    , ⟨_, rfl, fun B S hBi hdep hcl => by
      rintro ⟨rl, ml, sl, rfl, h0, h2, h4, h11, f0, f1, f2, f3, f4, f5, f6, f7, f8, f9, f10, f11, f12, f13, f14, f15, f16, f17, f18, f19, f20, f21, f22, f23, f24, f25, f26, p15, p25⟩
      first | (refine r_load1b 0 (f11 (hdep 11 rfl)) rfl rfl TF.agg100 rfl ?_) | (refine r_load1 (f11 (hdep 11 rfl)) TF.agg100 rfl ?_)
      exact awl_nil ⟨rfl, rl, ml, _, rfl, h0, h2, h4, h11, f0, f1, f2, f3, f4, f5, f6, f7, f8, f9, f10, f11, (fun h => rfl), f13, f14, f15, f16, f17, f18, f19, f20, f21, f22, f23, f24, f25, f26, p15, p25⟩⟩⟩
    , ⟨_, rfl, fun B S hBi hdep hcl => by
      rintro ⟨rl, ml, sl, rfl, h0, h2, h4, h11, f0, f1, f2, f3, f4, f5, f6, f7, f8, f9, f10, f11, f12, f13, f14, f15, f16, f17, f18, f19, f20, f21, f22, f23, f24, f25, f26, p15, p25⟩
      first | (refine r_loadAb 0 h4 rfl TF.agg73 TF.sz73 rfl rfl ?_) | (refine r_loadA h4 TF.agg73 TF.sz73 rfl rfl ?_)
      exact awl_nil ⟨rfl, rl, ml, _, rfl, h0, h2, h4, h11, f0, f1, f2, f3, f4, f5, f6, f7, f8, f9, f10, f11, f12, (fun h => rfl), f14, f15, f16, f17, f18, f19, f20, f21, f22, f23, f24, f25, f26, p15, p25⟩⟩⟩
    , ⟨_, rfl, fun B S hBi hdep hcl => by
      rintro ⟨rl, ml, sl, rfl, h0, h2, h4, h11, f0, f1, f2, f3, f4, f5, f6, f7, f8, f9, f10, f11, f12, f13, f14, f15, f16, f17, f18, f19, f20, f21, f22, f23, f24, f25, f26, p15, p25⟩
      refine r_move h2 rfl ?_
      exact awl_nil ⟨rfl, rl, ml, _, rfl, h0, h2, h4, h11, f0, f1, f2, f3, f4, f5, f6, f7, f8, f9, f10, f11, f12, f13, (fun h => rfl), f15, f16, f17, f18, f19, f20, f21, f22, f23, f24, f25, f26, p15, p25⟩⟩⟩
    , ⟨_, rfl, fun B S hBi hdep hcl => by
      rintro ⟨rl, ml, sl, rfl, h0, h2, h4, h11, f0, f1, f2, f3, f4, f5, f6, f7, f8, f9, f10, f11, f12, f13, f14, f15, f16, f17, f18, f19, f20, f21, f22, f23, f24, f25, f26, p15, p25⟩
      refine r_call0 hq rfl rfl (.cons (.ev (f12 (hdep 12 rfl)) rfl) (.cons (.ev (f13 (hdep 13 rfl)) rfl) (.cons (.ev (f14 (hdep 14 rfl)) rfl) .nil))) (ih kid (hkw.mono (by omega)) k v) rfl TF.en42 rfl (fun r hr => ?_)
      obtain ⟨rq, hrq, rfl⟩ := hr
      exact awl_nil ⟨rfl, rq, ml, _, rfl, h0, h2, h4, h11, f0, f1, f2, f3, f4, f5, f6, f7, f8, f9, f10, f11, f12, f13, f14, (fun h => rfl), f16, f17, f18, f19, f20, f21, f22, (fun h => absurd (hcl 23 15 h rfl) (by rw [hBi]; decide)), (fun h => absurd (hcl 24 15 h rfl) (by rw [hBi]; decide)), f25, f26, (fun _ => hrq), (fun h => absurd (hcl 24 15 (hcl 25 24 h rfl) rfl) (by rw [hBi]; decide))⟩⟩⟩
    , ⟨_, rfl, fun B S hBi hdep hcl => by
      rintro ⟨rl, ml, sl, rfl, h0, h2, h4, h11, f0, f1, f2, f3, f4, f5, f6, f7, f8, f9, f10, f11, f12, f13, f14, f15, f16, f17, f18, f19, f20, f21, f22, f23, f24, f25, f26, p15, p25⟩
      refine r_move h0 rfl ?_
      exact awl_nil ⟨rfl, rl, ml, _, rfl, h0, h2, h4, h11, f0, f1, f2, f3, f4, f5, f6, f7, f8, f9, f10, f11, f12, f13, f14, f15, (fun h => rfl), f17, f18, f19, f20, f21, f22, f23, f24, f25, f26, p15, p25⟩⟩⟩
    , ⟨_, rfl, fun B S hBi hdep hcl => by
      rintro ⟨rl, ml, sl, rfl, h0, h2, h4, h11, f0, f1, f2, f3, f4, f5, f6, f7, f8, f9, f10, f11, f12, f13, f14, f15, f16, f17, f18, f19, f20, f21, f22, f23, f24, f25, f26, p15, p25⟩
      refine r_nilCheck (f16 (hdep 16 rfl)) (by first | exact .pt _ _ | exact .v _ | exact .cp _) rfl ?_
      exact awl_nil ⟨rfl, rl, ml, _, rfl, h0, h2, h4, h11, f0, f1, f2, f3, f4, f5, f6, f7, f8, f9, f10, f11, f12, f13, f14, f15, f16, (fun h => rfl), f18, f19, f20, f21, f22, f23, f24, f25, f26, p15, p25⟩⟩⟩
    , ⟨_, rfl, fun B S hBi hdep hcl => by
      rintro ⟨rl, ml, sl, rfl, h0, h2, h4, h11, f0, f1, f2, f3, f4, f5, f6, f7, f8, f9, f10, f11, f12, f13, f14, f15, f16, f17, f18, f19, f20, f21, f22, f23, f24, f25, f26, p15, p25⟩
      first | (refine r_fieldpt (f17 (hdep 17 rfl)) TF.f115_2 TF.sz107 rfl ?_) | (refine r_fieldcp (f17 (hdep 17 rfl)) TF.f115_2 TF.sz107 rfl ?_) | (refine r_fieldb (f17 (hdep 17 rfl)) TF.f115_2 TF.sz107 rfl ?_)
      exact awl_nil ⟨rfl, rl, ml, _, rfl, h0, h2, h4, h11, f0, f1, f2, f3, f4, f5, f6, f7, f8, f9, f10, f11, f12, f13, f14, f15, f16, f17, (fun h => rfl), f19, f20, f21, f22, f23, f24, f25, f26, p15, p25⟩⟩⟩
    , ⟨_, rfl, fun B S hBi hdep hcl => by
      rintro ⟨rl, ml, sl, rfl, h0, h2, h4, h11, f0, f1, f2, f3, f4, f5, f6, f7, f8, f9, f10, f11, f12, f13, f14, f15, f16, f17, f18, f19, f20, f21, f22, f23, f24, f25, f26, p15, p25⟩
      first | (refine r_load1b 0 (f18 (hdep 18 rfl)) rfl rfl TF.agg107 rfl ?_) | (refine r_load1 (f18 (hdep 18 rfl)) TF.agg107 rfl ?_)
      exact awl_nil ⟨rfl, rl, ml, _, rfl, h0, h2, h4, h11, f0, f1, f2, f3, f4, f5, f6, f7, f8, f9, f10, f11, f12, f13, f14, f15, f16, f17, f18, (fun h => rfl), f20, f21, f22, f23, f24, f25, f26, p15, p25⟩⟩⟩
    , ⟨_, rfl, fun B S hBi hdep hcl => by
      rintro ⟨rl, ml, sl, rfl, h0, h2, h4, h11, f0, f1, f2, f3, f4, f5, f6, f7, f8, f9, f10, f11, f12, f13, f14, f15, f16, f17, f18, f19, f20, f21, f22, f23, f24, f25, f26, p15, p25⟩
      refine r_move h11 rfl ?_
      exact awl_nil ⟨rfl, rl, ml, _, rfl, h0, h2, h4, h11, f0, f1, f2, f3, f4, f5, f6, f7, f8, f9, f10, f11, f12, f13, f14, f15, f16, f17, f18, f19, (fun h => rfl), f21, f22, f23, f24, f25, f26, p15, p25⟩⟩⟩
    , ⟨_, rfl, fun B S hBi hdep hcl => by
      rintro ⟨rl, ml, sl, rfl, h0, h2, h4, h11, f0, f1, f2, f3, f4, f5, f6, f7, f8, f9, f10, f11, f12, f13, f14, f15, f16, f17, f18, f19, f20, f21, f22, f23, f24, f25, f26, p15, p25⟩
      refine r_ari ((i + 1 : Nat) : Int) (f20 (hdep 20 rfl)) rfl rfl (wrap_id (by omega)) rfl ?_
      exact awl_nil ⟨rfl, rl, ml, _, rfl, h0, h2, h4, h11, f0, f1, f2, f3, f4, f5, f6, f7, f8, f9, f10, f11, f12, f13, f14, f15, f16, f17, f18, f19, f20, (fun h => rfl), f22, f23, f24, f25, f26, p15, p25⟩⟩⟩
    , ⟨_, rfl, fun B S hBi hdep hcl => by
      rintro ⟨rl, ml, sl, rfl, h0, h2, h4, h11, f0, f1, f2, f3, f4, f5, f6, f7, f8, f9, f10, f11, f12, f13, f14, f15, f16, f17, f18, f19, f20, f21, f22, f23, f24, f25, f26, p15, p25⟩
      refine r_sliceL (f19 (hdep 19 rfl)) rfl (f21 (hdep 21 rfl)) TF.sl107 TF.sz100 (by omega) (by simp; omega) rfl ?_
      exact awl_nil ⟨rfl, rl, ml, _, rfl, h0, h2, h4, h11, f0, f1, f2, f3, f4, f5, f6, f7, f8, f9, f10, f11, f12, f13, f14, f15, f16, f17, f18, f19, f20, f21, (fun h => rfl), f23, f24, f25, f26, p15, p25⟩⟩⟩
    , ⟨_, rfl, fun B S hBi hdep hcl => by
      rintro ⟨rl, ml, sl, rfl, h0, h2, h4, h11, f0, f1, f2, f3, f4, f5, f6, f7, f8, f9, f10, f11, f12, f13, f14, f15, f16, f17, f18, f19, f20, f21, f22, f23, f24, f25, f26, p15, p25⟩
      refine r_litC (parts := [(0, .tmp 63), (1, .tmp 73), (2, .tmp 80)]) rfl TF.sl151 TF.sz107 TF.zraw107 rfl rfl rfl (parts_cons (f5 (hdep 5 rfl)) (parts_cons (f15 (hdep 15 rfl)) (parts_cons (f22 (hdep 22 rfl)) parts_nil))) rfl rfl rfl rfl ?_
      exact awl_nil ⟨rfl, rl, ml, _, rfl, h0, h2, h4, h11, f0, f1, f2, f3, f4, f5, f6, f7, f8, f9, f10, f11, f12, f13, f14, f15, f16, f17, f18, f19, f20, f21, f22, (fun h => rfl), f24, f25, f26, p15, p25⟩⟩⟩
    , ⟨_, rfl, fun B S hBi hdep hcl => by
      rintro ⟨rl, ml, sl, rfl, h0, h2, h4, h11, f0, f1, f2, f3, f4, f5, f6, f7, f8, f9, f10, f11, f12, f13, f14, f15, f16, f17, f18, f19, f20, f21, f22, f23, f24, f25, f26, p15, p25⟩
      have hpr := putR_wf h (Nat.le_succ 1) (Nat.le_refl 2) hkw (p15 (hdep 15 rfl))
      have hfl := three_eq l rl i
      have hln := three_len hil hpr.2.1 hpr.2.2.1 hl4
      refine r_call0 hq rfl rfl (.cons (.ev (f23 (hdep 23 rfl)) rfl) .nil) (concatN_ok [((l.map (enc h)).map fun x => [x]).take i, rl.map fun x => [enc h x], ((l.map (enc h)).map fun x => [x]).drop (i + 1)] (encs_ok hfl).1 (encs_ok hfl).2 (by rw [hfl, List.length_map]; exact hln.1) (by rw [hfl, List.length_map]; omega) (by simp)) rfl TF.en59 rfl (fun r hr => ?_)
      obtain rfl := hr
      exact awl_nil ⟨rfl, rl, ml, _, rfl, h0, h2, h4, h11, f0, f1, f2, f3, f4, f5, f6, f7, f8, f9, f10, f11, f12, f13, f14, f15, f16, f17, f18, f19, f20, f21, f22, f23, (fun h => rfl), f25, f26, p15, p25⟩⟩⟩
    , ⟨_, rfl, fun B S hBi hdep hcl => by
      rintro ⟨rl, ml, sl, rfl, h0, h2, h4, h11, f0, f1, f2, f3, f4, f5, f6, f7, f8, f9, f10, f11, f12, f13, f14, f15, f16, f17, f18, f19, f20, f21, f22, f23, f24, f25, f26, p15, p25⟩
      have hpr := putR_wf h (Nat.le_succ 1) (Nat.le_refl 2) hkw (p15 (hcl 24 15 (hdep 24 rfl) rfl))
      have hfl := three_eq l rl i
      have hln := three_len hil hpr.2.1 hpr.2.2.1 hl4
      refine r_call0 hq rfl rfl (.cons (.ev (f24 (hdep 24 rfl)) rfl) .nil) (kidHalves_ok h (l.take i ++ rl ++ l.drop (i + 1)) (fun n hn => (three_mem hw hpr.1 n hn).mono (by omega)) hln.1 (by omega) _ hfl) rfl TF.en58 rfl (fun r hr => ?_)
      obtain ⟨mq, hmq, rfl⟩ := hr
      exact awl_nil ⟨rfl, rl, mq, _, rfl, h0, h2, h4, h11, f0, f1, f2, f3, f4, f5, f6, f7, f8, f9, f10, f11, f12, f13, f14, f15, f16, f17, f18, f19, f20, f21, f22, f23, f24, (fun h => rfl), (fun h => absurd (hcl 26 25 h rfl) (by rw [hBi]; decide)), p15, (fun _ => hmq)⟩⟩⟩
    , ⟨_, rfl, fun B S hBi hdep hcl => by
      rintro ⟨rl, ml, sl, rfl, h0, h2, h4, h11, f0, f1, f2, f3, f4, f5, f6, f7, f8, f9, f10, f11, f12, f13, f14, f15, f16, f17, f18, f19, f20, f21, f22, f23, f24, f25, f26, p15, p25⟩
      refine r_assign (f25 (hdep 25 rfl)) rfl ?_
      exact awl_nil ⟨rfl, rl, ml, _, rfl, h0, h2, h4, h11, f0, f1, f2, f3, f4, f5, f6, f7, f8, f9, f10, f11, f12, f13, f14, f15, f16, f17, f18, f19, f20, f21, f22, f23, f24, f25, (fun h => rfl), p15, p25⟩⟩⟩
    (fun B S hall => by
     rintro ⟨rl, ml, sl, rfl, h0, h2, h4, h11, f0, f1, f2, f3, f4, f5, f6, f7, f8, f9, f10, f11, f12, f13, f14, f15, f16, f17, f18, f19, f20, f21, f22, f23, f24, f25, f26, p15, p25⟩
     have hp15 := p15 (hall 15 (by decide))
     have hp25 := p25 (hall 25 (by decide))
     refine x_then ?_
     refine awp_weaken (S' := ⟨84, [(0, .a (.pt b [.sl 4 ((kksOf h l).map Sp.cs), .sl 1 (([] : List Int).map u64c), .sl 1 ((l.map (enc h)).map fun x => [x])])), (2, .a (.v (.int .u64 (v)))), (4, .a (.v (.pointer (some ⟨b4, 0, none⟩)))), (11, .a (.v (.int .i64 ((i : Nat))))), (6, .a (.sl 1 (ml.map fun x => [enc (h + 1) x])))], []⟩) ⟨rfl, (Slots.cons h0 (.refl _) (Slots.cons h2 (.refl _) (Slots.cons h4 (.refl _) (Slots.cons h11 (.refl _) (Slots.cons (f26 (hall 26 (by decide))) (.refl _) Slots.nil))))), (List.nil_sublist _)⟩ ?_
     refine awp_ret ?_
     exact ⟨(.inl rfl), _, [], (.one (by first | exact .mk rfl rfl | exact .nil rfl)), ⟨rfl, ml, ⟨kid, rl, by rw [← hi]; exact hkid, hp15, by rw [← hi]; exact hp25⟩, rfl⟩, (List.nil_sublist _), (by simp)⟩)
theorem put_ok : ∀ (h : Nat) (n : Nd h), wfC 1 h n.2 → ∀ (k : Sp) (v : Int), AC Try.prog 42 [enc h n, spA k, .v (.int .u64 v)] [] (fun r nb => nb = [] ∧ ∃ l, PutR h n k v l ∧ r = .sl 1 (l.map fun x => [enc h x]))
  | 0, n, hw, k, v => put_leaf n.1 (itsOf n) hw.1 hw.2 k v
  | h + 1, n, hw, k, v => put_inner h (put_ok h) n.1 (kdsOf n) (Nat.lt_of_lt_of_le Nat.zero_lt_one hw.1) hw.2.1 hw.2.2 k v
end Go.Proofs.Ytpkodkoooaldlaa.A

/- The rules of a walk over abstract states: parameters in boxes, nil slices, bytes and strings, parts of slices. -/
import Derived.Test.YtmbfmnhcahhciaaJ
import Derived.Laws.IdiomStrings
import Derived.Laws.BytesArg
namespace Go.Proofs.Ytmbfmnhcahhciaa.A
open Go Go.RowKit
set_option linter.unusedVariables false
set_option linter.unusedSimpArgs false
set_option linter.unusedSectionVars false
variable {P : Program} {w0 : Base} {C0 C : CS} {T : TS} {S S' : AState} {a : Act} {w : World} {ops : Array Oper} {rest : List Oper} {o : Oper} {Q : Exit → AState → Prop}
variable {t : Nat} {ty ty' : TypeId} {pos : String} {aft : Array Edge}

theorem r_box {e : TypeId} {x : Operand} {sv : SV} {cs : List AV} (hx : S.ev x = some sv) (hcs : sv.av.cells = cs) (ht : Nat.blt t S.nt = true)
    (hr : ∀ b, AWL P w0 C0 ops rest Q (AState.put ⟨S.nt, S.slots, ⟨b, true, .box cs⟩ :: S.objs⟩ t (.a (.v (.pointer (some ⟨b, 0, none⟩)))))) :
    AWL P w0 C0 ops (⟨some t, .box e x, ty, pos, aft, none⟩ :: rest) Q S := by
  subst hcs
  rintro a w ⟨C, T, hs⟩
  have hrun : (execOp a.eval ⟨some t, .box e x, ty, pos, aft, none⟩).run P w = .ok (.value (.pointer (some ⟨w.heap.size, 0, none⟩))) (w.alloc (.cells (a.eval x).cells e)) := by
    simp [execOp, Instr.box, Sem.run_bind, newVar, newRow]
  refine wpList_plain rfl (fun K hK => ?_)
  unfold Oper.wp
  rw [hrun]
  have hs' := hs.newObj (.cells (a.eval x).cells e) (o := .box sv.av.cells) ⟨_, e, heap_alloc_at _ _, (hs.ev hx).av.cells⟩
  exact hK _ _ (hr w.heap.size _ _ ⟨C, T, hs'.put ht (srel_v _)⟩)

/-- a call that reads objects of one's own -/
theorem r_callO (hq : w0.q = false) {x : Operand} {xs : List Operand} {xa : Array Operand} {tys : Array TypeId} {f : FuncId} {caps args args' : List AV} {objs : List OE} {R : AV → List OE → Prop} (hx : S.ev x = some (.a (.fn f caps))) (hxa : xa = xs.toArray) (hargs : Args S xs args) (hc : AC P f args' objs R) (he : args' = args ++ caps)
    (hen : entersT P f) (ho : objs.Sublist S.objs) (ht : Nat.blt t S.nt = true)
    (hr : ∀ r nobjs, R r nobjs → AWL P w0 C0 ops rest Q (AState.put ⟨S.nt, S.slots, nobjs ++ S.objs⟩ t (.a r))) :
    AWL P w0 C0 ops (⟨some t, .call ⟨.value x, xa, tys⟩, ty, pos, aft, none⟩ :: rest) Q S := by
  intro a w hs
  have hin : ObjsIn S objs := by
    obtain ⟨C, T, hs'⟩ := hs
    exact ⟨fun e he => ⟨e, ho.mem he, rfl, rfl⟩, hs'.apart.sublist ho⟩
  exact r_call hq hx hxa hargs hc he hen hin ht hr a w hs

/-! ### a slice against nil -/
theorem run_equalIn_sl (w : World) (d : Nat) (t e : TypeId) (A : Option Addr) (n c : Nat) (h : P.underlying t = some (.slice e)) :
    (Op.equalIn (d + 1) t (.slice A n c) (.slice none 0 0)).run P w = .ok A.isNone w := by
  cases A <;> simp [Op.equalIn, Sem.run_bind, run_underlying h]
theorem run_eql_sl (w : World) (t e : TypeId) (A : Option Addr) (n c : Nat) (h : P.underlying t = some (.slice e)) :
    (binOp .eql t (.slice A n c) (.slice none 0 0)).run P w = .ok (.bool A.isNone) w := by
  simp only [binOp]
  simp [Op.equal, Op.maxDepth, run_equalIn_sl w 9999 t e A n c h]
theorem run_neq_sl (w : World) (t e : TypeId) (A : Option Addr) (n c : Nat) (h : P.underlying t = some (.slice e)) :
    (binOp .neq t (.slice A n c) (.slice none 0 0)).run P w = .ok (.bool (!A.isNone)) w := by
  simp only [binOp]
  simp [Op.equal, Op.maxDepth, run_equalIn_sl w 9999 t e A n c h]
theorem eqGuard_sl (op : BinOp) (t : TypeId) (p q : Operand) (A B : Option Addr) (n c m d : Nat) : eqGuard op t p q (.slice A n c) (.slice B m d) = pure () := by
  cases op <;> simp [eqGuard]
theorem r_slnil {xt yt e : TypeId} {x : Operand} {sv : SV} {sz : Nat} {l : List (List AV)} (hx : S.ev x = some sv) (hl : sv.av = .sl sz l) (hst : sliceT P xt = some e) (ht : Nat.blt t S.nt = true)
    (hr : ∀ b, (b = true → l = []) → AWL P w0 C0 ops rest Q (S.put t (.a (.v (.bool b))))) : AWL P w0 C0 ops (⟨some t, .binOp .eql xt x (.const (.slice none 0 0)) yt, ty, pos, aft, none⟩ :: rest) Q S := by
  rintro a w ⟨C, T, hs⟩
  have h := (hs.ev hx).av
  rw [hl] at h
  obtain ⟨A, cap, b, o, hv, hcap, hA, hR⟩ := rel_sl_inv h
  have hrun : (execOp a.eval ⟨some t, .binOp .eql xt x (.const (.slice none 0 0)) yt, ty, pos, aft, none⟩).run P w = .ok (.value (.bool A.isNone)) w := by
    simp [execOp, hv, show a.eval (.const (.slice none 0 0)) = .slice none 0 0 from rfl, eqGuard_sl, run_eql_sl _ _ _ _ _ _ (sliceT_un hst)]
  refine wpList_plain rfl (fun K hK => ?_)
  unfold Oper.wp
  rw [hrun]
  refine hK _ _ (hr A.isNone (fun hb => ?_) _ _ ⟨C, T, hs.put ht (srel_v _)⟩)
  cases l with
  | nil => rfl
  | cons y ys => rw [hA (by simp)] at hb; cases hb
theorem r_slnnil {xt yt e : TypeId} {x : Operand} {sv : SV} {sz : Nat} {l : List (List AV)} (hx : S.ev x = some sv) (hl : sv.av = .sl sz l) (hst : sliceT P xt = some e) (ht : Nat.blt t S.nt = true)
    (hr : ∀ b, (b = false → l = []) → AWL P w0 C0 ops rest Q (S.put t (.a (.v (.bool b))))) : AWL P w0 C0 ops (⟨some t, .binOp .neq xt x (.const (.slice none 0 0)) yt, ty, pos, aft, none⟩ :: rest) Q S := by
  rintro a w ⟨C, T, hs⟩
  have h := (hs.ev hx).av
  rw [hl] at h
  obtain ⟨A, cap, b, o, hv, hcap, hA, hR⟩ := rel_sl_inv h
  have hrun : (execOp a.eval ⟨some t, .binOp .neq xt x (.const (.slice none 0 0)) yt, ty, pos, aft, none⟩).run P w = .ok (.value (.bool (!A.isNone))) w := by
    simp [execOp, hv, show a.eval (.const (.slice none 0 0)) = .slice none 0 0 from rfl, eqGuard_sl, run_neq_sl _ _ _ _ _ _ (sliceT_un hst)]
  refine wpList_plain rfl (fun K hK => ?_)
  unfold Oper.wp
  rw [hrun]
  refine hK _ _ (hr (!A.isNone) (fun hb => ?_) _ _ ⟨C, T, hs.put ht (srel_v _)⟩)
  cases l with
  | nil => rfl
  | cons y ys => rw [hA (by simp)] at hb; cases hb

/-! ### bytes and strings -/
def u8s (l : List UInt8) : List (List AV) := l.map fun x => [.v (.int .u8 x.toNat)]
theorem u8s_length (l : List UInt8) : (u8s l).length = l.length := by simp [u8s]
theorem u8s_append (l m : List UInt8) : u8s l ++ u8s m = u8s (l ++ m) := by simp [u8s]
theorem addr_add0 (b o j : Nat) : (⟨b, o, none⟩ : Addr).add j = ⟨b, o + j, none⟩ := addr_add b o j
theorem r_convBS {src dst e : TypeId} (bs : List UInt8) {x : Operand} {sv : SV} (hx : S.ev x = some sv) (hl : sv.av = .sl 1 (u8s bs)) (hst : sliceT P src = some e) (he : P.underlying e = some (.int .u8)) (hd : P.underlying dst = some .string)
    (ht : Nat.blt t S.nt = true) (hr : AWL P w0 C0 ops rest Q (S.put t (.a (.v (.string ⟨bs.toArray⟩))))) : AWL P w0 C0 ops (⟨some t, .convert src dst x, ty, pos, aft, none⟩ :: rest) Q S :=
  awl_pure ht (fun C T a w hs => by
    have h := (hs.ev hx).av
    rw [hl] at h
    obtain ⟨A, cap, b, o, hv, hcap, hA, hR⟩ := rel_sl_inv h
    rw [u8s_length] at hv
    refine ⟨.string ⟨bs.toArray⟩, ?_, srel_v _⟩
    have : (convert src dst (a.eval x)).run P w = .ok (.string ⟨bs.toArray⟩) w := by
      rw [hv]
      cases A with
      | none =>
        have hb : bs = [] := by
          cases bs with
          | nil => rfl
          | cons y ys => have := hA (by simp [u8s]); cases this
        subst hb
        rw [run_convert_bytes_nil w src e (sliceT_un hst) he _ _ dst hd]; rfl
      | some A =>
        refine run_convert_bytes_back w src dst e (some A |>.get rfl) cap bs (sliceT_un hst) he hd (fun j hj => ?_)
        have hA' := hA (by intro e; have := congrArg List.length e; rw [u8s_length] at this; simp at this; subst this; simp at hj)
        cases hA'
        have hg : (u8s bs)[j]? = some [.v (.int .u8 (bs[j].toNat : Int))] := by simp [u8s, List.getElem?_eq_getElem hj]
        obtain ⟨u, hu, hr⟩ := hR.2 j _ 0 _ hg rfl
        cases hr
        have := hs.com _ _ _ hu
        simp only [Nat.mul_one, Nat.add_zero] at this
        simpa [addr_add0] using this
    simp [execOp, this]) hr

/-! ### parts of slices -/
theorem Row.drop {b o sz : Nat} {l : List (List AV)} (h : Row C b o sz l) (k : Nat) : Row C b (o + k * sz) sz (l.drop k) :=
  ⟨fun cs hm => h.1 cs (List.mem_of_mem_drop hm), fun i cs j c h1 h2 => by
    rw [List.getElem?_drop] at h1
    obtain ⟨u, hu, hr⟩ := h.2 _ _ _ _ h1 h2
    exact ⟨u, by rw [show o + k * sz + i * sz + j = o + (k + i) * sz + j by rw [Nat.add_mul]; omega]; exact hu, hr⟩⟩
theorem Row.take {b o sz : Nat} {l : List (List AV)} (h : Row C b o sz l) (k : Nat) : Row C b o sz (l.take k) :=
  ⟨fun cs hm => h.1 cs (List.mem_of_mem_take hm), fun i cs j c h1 h2 => by
    rw [List.getElem?_take] at h1
    split at h1
    · exact h.2 _ _ _ _ h1 h2
    · cases h1⟩
theorem rel_part {sz : Nat} {l : List (List AV)} {A : Option Addr} {cap b o lo hi : Nat} (hcap : l.length ≤ cap) (hA : l ≠ [] → A = some ⟨b, o, none⟩) (hR : Row C b o sz l) (h1 : lo ≤ hi) (h2 : hi ≤ l.length) :
    Rel C (.sl sz ((l.take hi).drop lo)) (sliced A lo hi cap sz) := by
  unfold sliced
  refine rel_sl_mk b (o + lo * sz) (by simp; omega) (by omega) (fun hne => ?_) ((hR.take hi).drop lo)
  have hlt : lo < hi := by
    rcases Nat.lt_or_ge lo hi with h | h
    · exact h
    · exact absurd (by rw [List.drop_eq_nil_iff]; simp; omega) hne
  have hne' : l ≠ [] := by intro e; rw [e] at h2; simp at h2; omega
  rw [hA hne', if_neg (by omega)]
  simp [addr_add]
theorem r_sliceH {xt e sz : Nat} {x : Operand} {sv : SV} {l : List (List AV)} {y : Operand} {k : IntKind} {hi : Int} (hx : S.ev x = some sv) (hl : sv.av = .sl sz l) (hy : S.ev y = some (.a (.v (.int k hi)))) (hst : sliceT P xt = some e) (hsz : szT P e = some sz)
    (h0 : 0 ≤ hi) (h1 : hi ≤ l.length) (ht : Nat.blt t S.nt = true) (hr : AWL P w0 C0 ops rest Q (S.put t (.a (.sl sz (l.take hi.toNat))))) : AWL P w0 C0 ops (⟨some t, .slice xt x none (some y) none, ty, pos, aft, none⟩ :: rest) Q S :=
  awl_pure ht (fun C T a w hs => by
    have h := (hs.ev hx).av
    rw [hl] at h
    obtain ⟨A, cap, b, o, hv, hcap, hA, hR⟩ := rel_sl_inv h
    have hu : P.underlying xt = some (.slice (P.elem xt)) := by have := sliceT_un hst; simp [Program.elem, this]
    have he : P.elem xt = e := by have := sliceT_un hst; simp [Program.elem, this]
    refine ⟨sliced A 0 hi.toNat cap sz, ?_, show Rel C _ _ from by have := rel_part (lo := 0) (hi := hi.toNat) hcap hA hR (by omega) (by omega); simpa using this⟩
    simp [execOp, hv, hs.evv hy, run_sliceAt_slice w xt _ _ _ _ hu, run_slice_h w xt A l.length cap hu k hi h0 (by omega), he, run_sz hsz]) hr
theorem r_sliceL {xt e sz : Nat} {x : Operand} {sv : SV} {l : List (List AV)} {y : Operand} {k : IntKind} {lo : Int} (hx : S.ev x = some sv) (hl : sv.av = .sl sz l) (hy : S.ev y = some (.a (.v (.int k lo)))) (hst : sliceT P xt = some e) (hsz : szT P e = some sz)
    (h0 : 0 ≤ lo) (h1 : lo ≤ l.length) (ht : Nat.blt t S.nt = true) (hr : AWL P w0 C0 ops rest Q (S.put t (.a (.sl sz (l.drop lo.toNat))))) : AWL P w0 C0 ops (⟨some t, .slice xt x (some y) none none, ty, pos, aft, none⟩ :: rest) Q S :=
  awl_pure ht (fun C T a w hs => by
    have h := (hs.ev hx).av
    rw [hl] at h
    obtain ⟨A, cap, b, o, hv, hcap, hA, hR⟩ := rel_sl_inv h
    have hu : P.underlying xt = some (.slice (P.elem xt)) := by have := sliceT_un hst; simp [Program.elem, this]
    have he : P.elem xt = e := by have := sliceT_un hst; simp [Program.elem, this]
    refine ⟨sliced A lo.toNat l.length cap sz, ?_, show Rel C _ _ from by have := rel_part (lo := lo.toNat) (hi := l.length) hcap hA hR (by omega) (by omega); simpa using this⟩
    simp [execOp, hv, hs.evv hy, run_sliceAt_slice w xt _ _ _ _ hu, run_slice_l w xt A l.length cap hu k lo h0 h1, he, run_sz hsz]) hr
theorem r_sliceLH {xt e sz : Nat} {x : Operand} {sv : SV} {l : List (List AV)} {y z : Operand} {k k' : IntKind} {lo hi : Int} (hx : S.ev x = some sv) (hl : sv.av = .sl sz l) (hy : S.ev y = some (.a (.v (.int k lo)))) (hz : S.ev z = some (.a (.v (.int k' hi)))) (hst : sliceT P xt = some e) (hsz : szT P e = some sz)
    (h0 : 0 ≤ lo) (h01 : lo ≤ hi) (h1 : hi ≤ l.length) (ht : Nat.blt t S.nt = true) (hr : AWL P w0 C0 ops rest Q (S.put t (.a (.sl sz ((l.take hi.toNat).drop lo.toNat))))) : AWL P w0 C0 ops (⟨some t, .slice xt x (some y) (some z) none, ty, pos, aft, none⟩ :: rest) Q S :=
  awl_pure ht (fun C T a w hs => by
    have h := (hs.ev hx).av
    rw [hl] at h
    obtain ⟨A, cap, b, o, hv, hcap, hA, hR⟩ := rel_sl_inv h
    have hu : P.underlying xt = some (.slice (P.elem xt)) := by have := sliceT_un hst; simp [Program.elem, this]
    have he : P.elem xt = e := by have := sliceT_un hst; simp [Program.elem, this]
    refine ⟨sliced A lo.toNat hi.toNat cap sz, ?_, rel_part hcap hA hR (by omega) (by omega)⟩
    simp [execOp, hv, hs.evv hy, hs.evv hz, run_sliceAt_slice w xt _ _ _ _ hu, run_slice_lh w xt A l.length cap hu k k' lo hi h0 h01 (by omega), he, run_sz hsz]) hr

/-! ### the smaller, the greater -/
theorem r_min {x y : Operand} {k : IntKind} {i j : Int} {ts : Array TypeId} (hx : S.ev x = some (.a (.v (.int k i)))) (hy : S.ev y = some (.a (.v (.int k j)))) (ht : Nat.blt t S.nt = true)
    (hr : AWL P w0 C0 ops rest Q (S.put t (.a (.v (.int k (min i j)))))) : AWL P w0 C0 ops (⟨some t, .call ⟨.builtin .min, #[x, y], ts⟩, ty, pos, aft, none⟩ :: rest) Q S :=
  awl_pure ht (fun C T a w hs => ⟨.int k (min i j), by
    have : (if j < i then j else i) = min i j := by simp only [Int.min_def]; split <;> split <;> omega
    simp [execOp, resolve, invoke, builtin, Builtin.min_, Builtin.min2, hs.evv hx, hs.evv hy, this], srel_v _⟩) hr
theorem r_max {x y : Operand} {k : IntKind} {i j : Int} {ts : Array TypeId} (hx : S.ev x = some (.a (.v (.int k i)))) (hy : S.ev y = some (.a (.v (.int k j)))) (ht : Nat.blt t S.nt = true)
    (hr : AWL P w0 C0 ops rest Q (S.put t (.a (.v (.int k (max i j)))))) : AWL P w0 C0 ops (⟨some t, .call ⟨.builtin .max, #[x, y], ts⟩, ty, pos, aft, none⟩ :: rest) Q S :=
  awl_pure ht (fun C T a w hs => ⟨.int k (max i j), by
    have : (if i < j then j else i) = max i j := by simp only [Int.max_def]; split <;> split <;> omega
    simp [execOp, resolve, invoke, builtin, Builtin.max_, Builtin.max2, hs.evv hx, hs.evv hy, this], srel_v _⟩) hr

/-! ### bytes that are seen as another type of bytes: marked, and no more one's own -/
theorem run_markStringish (b o : Nat) {arr : Array Value} {e : TypeId} {z : Nat × Nat} (h : w.heap[b]? = some (.cells arr e z)) :
    ∃ w' z', (markStringish ⟨b, o, none⟩).run P w = .ok () w' ∧ w'.os = w.os ∧ w'.tape = w.tape ∧ w'.output = w.output ∧ w'.heap.size = w.heap.size ∧ w'.heap[b]? = some (.cells arr e z') ∧ ∀ k, k ≠ b → w'.heap[k]? = w.heap[k]? := by
  have hs : (shape b).run P w = .ok (some (e, arr.size)) w := by simp [World.shape?, h]
  have hm : (w.freeze ⟨b, arr.size, none⟩ 1).heap = w.heap.modify b fun
      | .cells c elem (lo, hi) => .cells c elem (if lo == hi then (arr.size, arr.size + 1) else (min lo arr.size, max hi (arr.size + 1)))
      | o => o := by unfold World.freeze; rw [if_neg (by decide)]; rfl
  have hblt := (Array.getElem?_eq_some_iff.1 h).1
  refine ⟨w.freeze ⟨b, arr.size, none⟩ 1, (if z.1 == z.2 then (arr.size, arr.size + 1) else (min z.1 arr.size, max z.2 (arr.size + 1))), ?_, rfl, rfl, rfl, by rw [hm]; simp, ?_, fun k hk => ?_⟩
  · simp [markStringish, hs]
  · rw [hm, Array.getElem?_modify, if_pos rfl, h]; rfl
  · rw [hm, Array.getElem?_modify, if_neg (fun e => hk e.symm)]
theorem r_convBB (hq : w0.q = false) (tok : Nat) {bt e : TypeId} {x : Operand} {sz : Nat} {l : List (List AV)} (hx : S.ev x = some (.own tok sz l)) (hl : l ≠ []) (hst : sliceT P bt = some e) (he : P.underlying e = some (.int .u8)) (ht : Nat.blt t S.nt = true)
    (hr : AWL P w0 C0 ops rest Q ((S.dem tok).put t (.a (.sl sz l)))) : AWL P w0 C0 ops (⟨some t, .convert bt bt x, ty, pos, aft, none⟩ :: rest) Q S := by
  refine awl_op rfl (fun C T a w hs => ?_) hr
  rcases hs.ev hx with ⟨rfl, _⟩ | ⟨b, cap, e', hT, hle, hv, hR⟩
  · exact absurd rfl hl
  obtain ⟨hk, hko⟩ := hs.toks _ _ hT
  obtain ⟨arr, hb, harr⟩ := hk.blk
  simp only at hb
  obtain ⟨w', z', hrun, h1, h2, h3, h4, h5, h6⟩ := run_markStringish (P := P) b 0 hb
  have hcell : ∀ b' o' v, w.cell? ⟨b', o', none⟩ = some v → w'.cell? ⟨b', o', none⟩ = some v := by
    intro b' o' v hc
    by_cases hbb : b' = b
    · subst hbb
      unfold World.cell? at hc ⊢
      simp only [hb] at hc
      simp only [h5]; exact hc
    · rw [← hc]; unfold World.cell?; simp only [h6 b' hbb]
  refine ⟨a.eval x, w', C, T.upd tok none, ?_, SimC.put ?_ ht ?_⟩
  · have : (convert bt bt (a.eval x)).run P w = .ok (a.eval x) w' := by
      rw [hv]
      simp [convert, Sem.run_bind, run_underlying (sliceT_un hst), run_underlying he, hrun]
    simp [execOp, this]
  · refine hs.step (BelowX.of (Below.mk h1 h2 h3 (by omega) (fun k hk' => h6 k (by have := hk.base; simp only at this; omega)))) (fun h => by rw [hq] at h; cases h) (fun D _ hD => (h6 D (fun e => by subst e; rw [hb] at hD; cases hD)).trans hD) (fun b' o' v hc => hcell _ _ _ (hs.com _ _ _ hc)) hs.one (fun _ _ _ _ => rfl) ?_ hs.apart ?_ ?_ (fun t x hx => ?_)
    · intro e he'
      obtain ⟨g1, g2, g3⟩ := hs.objs e he'
      exact ⟨g1.mono (fun _ _ _ x => x) (h6 _ (hko e he')), g2, g3⟩
    · intro k i hki
      unfold TS.upd at hki
      split at hki
      · cases hki
      · rename_i hne
        obtain ⟨g1, g2⟩ := hs.toks k i hki
        exact ⟨g1.keep (h6 _ (hs.tokne _ _ _ _ hki hT hne)) (fun _ => rfl), g2⟩
    · intro k k' i i' hk1 hk2 hne
      unfold TS.upd at hk1 hk2
      split at hk1
      · cases hk1
      · split at hk2
        · cases hk2
        · exact hs.tokne _ _ _ _ hk1 hk2 hne
    · obtain ⟨y, hy, rfl⟩ := find_map hx
      exact ⟨y, hy, fun u r => SRel.retok (fun _ _ _ x => x) (fun k hk => by unfold TS.upd; rw [if_neg hk]) r⟩
  · have : Rel C (.sl sz l) (a.eval x) := by rw [hv]; exact rel_sl_mk b 0 rfl hle (fun _ => rfl) hR
    exact this
end Go.Proofs.Ytmbfmnhcahhciaa.A

/- The rules of a walk over abstract states: slices that are made and grow. -/
import Derived.Test.YtmbfmnhcahhciaaD
namespace Go.Proofs.Ytmbfmnhcahhciaa.A
open Go Go.RowKit
set_option linter.unusedVariables false
set_option linter.unusedSimpArgs false
variable {P : Program} {w0 : Base} {C0 C : CS} {T : TS} {S S' : AState} {a : Act} {w : World} {ops : Array Oper} {rest : List Oper} {o : Oper} {Q : Exit → AState → Prop}
variable {t : Nat} {ty ty' : TypeId} {pos : String} {aft : Array Edge}

/-! ### rows as flat lists -/
theorem flat_inv {sz : Nat} : ∀ {m : List (List AV)} (hz : ∀ cs, cs ∈ m → cs.length = sz) {j : Nat} {c : AV}, m.flatten[j]? = some c → ∃ i cs jj, m[i]? = some cs ∧ cs[jj]? = some c ∧ j = i * sz + jj
  | [], _, j, c, h => by simp at h
  | cs :: m, hz, j, c, h => by
    rw [List.flatten_cons] at h
    have hl := hz cs (by simp)
    by_cases hj : j < cs.length
    · rw [List.getElem?_append_left hj] at h
      exact ⟨0, cs, j, rfl, h, by simp⟩
    · rw [List.getElem?_append_right (by omega)] at h
      obtain ⟨i, cs', jj, h1, h2, h3⟩ := flat_inv (fun cs h => hz cs (by simp [h])) h
      exact ⟨i + 1, cs', jj, by simpa using h1, h2, by rw [Nat.add_mul]; omega⟩
theorem flat_get {sz : Nat} : ∀ {m : List (List AV)} (hz : ∀ cs, cs ∈ m → cs.length = sz) {i jj : Nat} {cs : List AV} {c : AV}, m[i]? = some cs → cs[jj]? = some c → m.flatten[i * sz + jj]? = some c
  | [], _, i, jj, cs, c, h, _ => by simp at h
  | cs0 :: m, hz, i, jj, cs, c, h, h2 => by
    rw [List.flatten_cons]
    have hl := hz cs0 (by simp)
    cases i with
    | zero =>
      simp at h; subst h
      rw [List.getElem?_append_left (by have := (List.getElem?_eq_some_iff.1 h2).1; omega)]; simpa using h2
    | succ i =>
      rw [List.getElem?_append_right (by rw [hl, Nat.add_mul]; omega)]
      have := flat_get (m := m) (fun cs h' => hz cs (List.mem_cons_of_mem _ h')) (by simpa using h) h2
      rw [← this]; congr 1; rw [hl, Nat.add_mul]; omega
theorem flat_len {sz : Nat} : ∀ {m : List (List AV)} (hz : ∀ cs, cs ∈ m → cs.length = sz), m.flatten.length = m.length * sz
  | [], _ => by simp
  | cs :: m, hz => by rw [List.flatten_cons, List.length_append, hz cs (by simp), flat_len (fun cs h => hz cs (by simp [h])), List.length_cons, Nat.add_mul]; omega
theorem Row.vals {b o sz : Nat} {l : List (List AV)} (r : Row C b o sz l) : ∃ vs, Rels C l.flatten vs ∧ vs.length = l.length * sz ∧ ∀ (j : Nat) (v : Value), vs[j]? = some v → C b (o + j) = some v := by
  obtain ⟨vs, h1, h2⟩ := rels_of_cells (C := C) (cs := l.flatten) (f := fun j => C b (o + j)) (fun j c hj => by
    obtain ⟨i, cs, jj, g1, g2, rfl⟩ := flat_inv r.1 hj
    obtain ⟨u, hu, hr⟩ := r.2 i cs jj c g1 g2
    exact ⟨u, by rw [← Nat.add_assoc]; exact hu, hr⟩)
  exact ⟨vs, h1, by rw [h1.1, flat_len r.1], h2⟩
theorem row_mk {b o sz : Nat} {l : List (List AV)} {vs : List Value} (hz : ∀ cs, cs ∈ l → cs.length = sz) (h1 : Rels C l.flatten vs) (h2 : ∀ (j : Nat) (v : Value), vs[j]? = some v → C b (o + j) = some v) : Row C b o sz l :=
  ⟨hz, fun i cs j c g1 g2 => by
    obtain ⟨u, hu, hr⟩ := h1.get (flat_get hz g1 g2)
    exact ⟨u, by rw [Nat.add_assoc]; exact h2 _ _ hu, hr⟩⟩

/-! ### what is committed anew -/
def CS.add (C : CS) (b o : Nat) (vs : List Value) : CS := fun b' o' => if b' = b ∧ o ≤ o' ∧ o' < o + vs.length then vs[o' - o]? else C b' o'
theorem CS.add_mono {b o : Nat} {vs : List Value} (h : ∀ j, j < vs.length → C b (o + j) = none) : ∀ b' o' v, C b' o' = some v → (C.add b o vs) b' o' = some v := by
  intro b' o' v hc
  unfold CS.add
  split
  · rename_i h'
    obtain ⟨rfl, h1, h2⟩ := h'
    have := h (o' - o) (by omega)
    rw [show o + (o' - o) = o' from by omega] at this
    rw [this] at hc; cases hc
  · exact hc
theorem CS.add_at {b o : Nat} {vs : List Value} {j : Nat} {v : Value} (h : vs[j]? = some v) : (C.add b o vs) b (o + j) = some v := by
  have := (List.getElem?_eq_some_iff.1 h).1
  unfold CS.add
  rw [if_pos ⟨rfl, by omega, by omega⟩, show o + j - o = j from by omega]; exact h
theorem CS.add_cases {b o : Nat} {vs : List Value} {b' o' : Nat} {v : Value} (h : (C.add b o vs) b' o' = some v) : (b' = b ∧ ∃ j, o' = o + j ∧ vs[j]? = some v) ∨ C b' o' = some v := by
  unfold CS.add at h
  split at h
  · rename_i h'; exact Or.inl ⟨h'.1, o' - o, by omega, h⟩
  · exact Or.inr h
theorem CS.add_other {b o : Nat} {vs : List Value} {b' o' : Nat} (h : b' ≠ b) : (C.add b o vs) b' o' = C b' o' := by
  unfold CS.add; rw [if_neg (fun e => h e.1)]
theorem CS.add_past {b o : Nat} {vs : List Value} {o' : Nat} (h : o + vs.length ≤ o') : (C.add b o vs) b o' = C b o' := by
  unfold CS.add; rw [if_neg (by omega)]

/-! ### what grows -/
def SV.dem (tok : Nat) : SV → SV
  | .own k sz l => cond (Nat.beq k tok) (.a (.sl sz l)) (.own k sz l)
  | .a x => .a x
def AState.dem (S : AState) (tok : Nat) : AState := ⟨S.nt, S.slots.map (fun p => (p.1, p.2.dem tok)), S.objs⟩
theorem find_map {f : SV → SV} {t : Nat} {x : SV} : ∀ {l : List (Nat × SV)}, find t (l.map (fun p => (p.1, f p.2))) = some x → ∃ y, find t l = some y ∧ x = f y
  | [], h => by simp [find] at h
  | (k, y) :: l, h => by
    rw [List.map_cons, find_cons] at h
    split at h
    · rename_i e; cases h; exact ⟨y, by rw [find_cons, if_pos e], rfl⟩
    · rename_i e; obtain ⟨z, h1, h2⟩ := find_map h; exact ⟨z, by rw [find_cons, if_neg e]; exact h1, h2⟩
theorem SRel.dem {tok : Nat} {y : SV} {u : Value} (h : SRel C T y u) : Rel C y.av u := h.av
theorem SRel.retok {C' : CS} {T' : TS} {tok : Nat} (hC : ∀ b o v, C b o = some v → C' b o = some v) (hT : ∀ k, k ≠ tok → T' k = T k) {y : SV} {u : Value} (h : SRel C T y u) : SRel C' T' (y.dem tok) u := by
  cases y with
  | a x => exact Rel.mono hC h
  | own k sz l =>
    unfold SV.dem
    by_cases hk : k = tok
    · subst hk
      have : Nat.beq k k = true := by simp
      simp only [this, cond_true]
      exact Rel.mono hC (SRel.av h)
    · have : Nat.beq k tok = false := by
        cases hb : Nat.beq k tok with
        | false => rfl
        | true => exact absurd (Nat.eq_of_beq_eq_true hb) hk
      simp only [this, cond_false]
      rcases h with h | ⟨b, cap, e, h1, h2, h3, h4⟩
      · exact Or.inl h
      · exact Or.inr ⟨b, cap, e, by rw [hT k hk]; exact h1, h2, h3, h4.mono hC⟩

def TS.upd (T : TS) (tok : Nat) (k : Option Tok) : TS := fun t => if t = tok then k else T t

/-- a new row, all of it told by a token, so many cells committed -/
theorem SimC.newRow (h : SimC w0 C0 C T S a w) (tok n cap sz : Nat) (e : TypeId) {arr : Array Value} {vs : List Value} (hv : vs.length = n * sz) (hle : n ≤ cap) (harr : arr.size = cap * sz) (hpre : ∀ (j : Nat) (v : Value), vs[j]? = some v → arr[j]? = some v)
    (h1 : ∀ v ∈ vs, v.oneCell' = true) :
    SimC w0 C0 (C.add w.heap.size 0 vs) (T.upd tok (some ⟨w.heap.size, n, cap, sz, e⟩)) (S.dem tok) a (w.alloc (.cells arr e)) := by
  have hb0 : w0.heap.size ≤ w.heap.size := h.below.size
  have hfr : ∀ o, C w.heap.size o = none := fun o => h.fresh (Nat.le_refl _) o
  have hmono := CS.add_mono (C := C) (b := w.heap.size) (o := 0) (vs := vs) (fun j _ => hfr _)
  have hlt : ∀ b o v, C b o = some v → b < w.heap.size := fun b o v hc => by have := World.block_lt_of_cell? w _ (h.com _ _ _ hc); simpa using this
  refine h.step (BelowX.of ((Below.refl _ _).alloc hb0 _)) (fun _ => Nat.le_refl _) (fun D _ hD => (Below.heap_alloc _ _ _ (Array.getElem?_eq_some_iff.1 hD).1).trans hD) ?_ ?_ ?_ ?_ h.apart ?_ ?_ ?_
  · intro b o v hc
    rcases CS.add_cases hc with ⟨rfl, j, rfl, hj⟩ | hc
    · rw [Nat.zero_add, cell_of_row _ _ j arr e (0, 0) (heap_alloc_new w _)]; exact hpre j v hj
    · exact (World.cell?_of_block (w := w) (a := ⟨b, o, none⟩) (Below.heap_alloc _ _ _ (hlt _ _ _ hc))).trans (h.com _ _ _ hc)
  · intro b o v hc
    rcases CS.add_cases hc with ⟨rfl, j, rfl, hj⟩ | hc
    · exact h1 v (List.mem_of_getElem? hj)
    · exact h.one _ _ _ hc
  · intro b o hb _
    exact CS.add_other (by omega)
  · intro ob hob
    obtain ⟨g1, g2, g3⟩ := h.objs ob hob
    have := h.objlt hob
    exact ⟨g1.mono hmono (Below.heap_alloc _ _ _ this), fun o => by rw [CS.add_other (by omega)]; exact g2 o, g3⟩
  · intro k i hk
    unfold TS.upd at hk
    split at hk
    · cases hk
      refine ⟨⟨hb0, hle, ⟨arr, heap_alloc_new w _, harr⟩, fun o ho => ?_⟩, fun ob hob => ?_⟩
      · rw [CS.add_past (by rw [hv, Nat.zero_add]; exact ho)]; exact hfr _
      · have := h.objlt hob; show ob.b ≠ w.heap.size; omega
    · obtain ⟨g1, g2⟩ := h.toks k i hk
      have := g1.lt
      exact ⟨g1.keep (Below.heap_alloc _ _ _ this) (fun o => CS.add_other (by omega)), g2⟩
  · intro k k' i i' h1 h2 hne
    unfold TS.upd at h1 h2
    split at h1 <;> split at h2
    · omega
    · cases h1; have := (h.toks _ _ h2).1.lt; show w.heap.size ≠ i'.b; omega
    · cases h2; have := (h.toks _ _ h1).1.lt; show i.b ≠ w.heap.size; omega
    · exact h.tokne _ _ _ _ h1 h2 hne
  · intro i x hx
    obtain ⟨y, hy, rfl⟩ := find_map hx
    exact ⟨y, hy, fun u hu => hu.retok hmono (fun k hk => by simp [TS.upd, hk])⟩

/-- a row grows in its place -/
theorem SimC.growRow (h : SimC w0 C0 C T S a w) (tok : Nat) {b n cap sz : Nat} {e : TypeId} (m : Nat) (hT : T tok = some ⟨b, n, cap, sz, e⟩) {arr : Array Value} (hb : w.heap[b]? = some (.cells arr e (0, 0))) (harr : arr.size = cap * sz)
    {vs : List Value} (hv : vs.length = m * sz) (hle : n + m ≤ cap) (h1 : ∀ v ∈ vs, v.oneCell' = true) :
    SimC w0 C0 (C.add b (n * sz) vs) (T.upd tok (some ⟨b, n + m, cap, sz, e⟩)) (S.dem tok) a (w.setRow b (arr.toList.take (n * sz) ++ vs ++ arr.toList.drop (n * sz + vs.length)).toArray) := by
  obtain ⟨g1, g2⟩ := h.toks _ _ hT
  have hbase : w0.heap.size ≤ b := g1.base
  have hfree : ∀ o, n * sz ≤ o → C b o = none := g1.free
  have hmono := CS.add_mono (C := C) (b := b) (o := n * sz) (vs := vs) (fun j _ => hfree _ (by omega))
  have hfit : (n + m) * sz ≤ cap * sz := Nat.mul_le_mul_right _ hle
  rw [Nat.add_mul] at hfit
  have htl : (arr.toList.take (n * sz)).length = n * sz := by rw [List.length_take, Array.length_toList]; omega
  have hnew := setRow_heap w b arr (arr.toList.take (n * sz) ++ vs ++ arr.toList.drop (n * sz + vs.length)).toArray e _ hb
  have hcell : ∀ j, (w.setRow b (arr.toList.take (n * sz) ++ vs ++ arr.toList.drop (n * sz + vs.length)).toArray).cell? ⟨b, j, none⟩ = (arr.toList.take (n * sz) ++ vs ++ arr.toList.drop (n * sz + vs.length))[j]? := by
    intro j; rw [cell_of_row _ b j _ e (0, 0) hnew]; simp
  refine h.step ⟨rfl, rfl, rfl, by simp, fun k hk _ => setRow_other w b k _ (by omega)⟩ (fun _ => Nat.le_refl _) (fun D _ hD => (setRow_other w b D _ (fun e => by subst e; rw [hb] at hD; cases hD)).trans hD) ?_ ?_ ?_ ?_ h.apart ?_ ?_ ?_
  · intro b' o v hc
    rcases CS.add_cases hc with ⟨rfl, j, rfl, hj⟩ | hc'
    · rw [hcell, List.append_assoc, List.getElem?_append_right (by omega), htl, show n * sz + j - n * sz = j from by omega, List.getElem?_append_left (List.getElem?_eq_some_iff.1 hj).1]; exact hj
    · by_cases hbb : b' = b
      · subst hbb
        have ho : o < n * sz := by
          rcases Nat.lt_or_ge o (n * sz) with h' | h'
          · exact h'
          · rw [hfree o h'] at hc'; cases hc'
        have := h.com _ _ _ hc'
        rw [cell_of_row w b' o arr e (0, 0) hb] at this
        rw [hcell, List.append_assoc, List.getElem?_append_left (by omega), List.getElem?_take, if_pos ho]; simpa using this
      · exact (World.cell?_of_block (w := w) (a := ⟨b', o, none⟩) (setRow_other w b b' _ hbb)).trans (h.com _ _ _ hc')
  · intro b' o v hc
    rcases CS.add_cases hc with ⟨rfl, j, rfl, hj⟩ | hc
    · exact h1 v (List.mem_of_getElem? hj)
    · exact h.one _ _ _ hc
  · intro b' o hb' _
    exact CS.add_other (by omega)
  · intro ob hob
    obtain ⟨k1, k2, k3⟩ := h.objs ob hob
    have hne : ob.b ≠ b := g2 ob hob
    exact ⟨k1.mono hmono (setRow_other w b _ _ hne), fun o => by rw [CS.add_other hne]; exact k2 o, k3⟩
  · intro k i hk
    unfold TS.upd at hk
    split at hk
    · cases hk
      refine ⟨⟨hbase, hle, ⟨_, hnew, ?_⟩, fun o ho => ?_⟩, g2⟩
      · simp only [List.size_toArray, List.length_append, List.length_drop, Array.length_toList, htl]; omega
      · show (C.add b (n * sz) vs) b o = none
        have ho' : (n + m) * sz ≤ o := ho
        rw [Nat.add_mul] at ho'
        rw [CS.add_past (by omega)]; exact hfree _ (by omega)
    · rename_i hkt
      obtain ⟨k1, k2⟩ := h.toks k i hk
      have hne : i.b ≠ b := h.tokne _ _ _ _ hk hT hkt
      exact ⟨k1.keep (setRow_other w b _ _ hne) (fun o => CS.add_other hne), k2⟩
  · intro k k' i i' h1 h2 hne
    unfold TS.upd at h1 h2
    split at h1 <;> split at h2
    · omega
    · rename_i e1 e2; cases h1; have := h.tokne _ _ _ _ hT h2 (fun e => e2 e.symm); exact this
    · rename_i e1 e2; cases h2; have := h.tokne _ _ _ _ h1 hT e1; exact this
    · exact h.tokne _ _ _ _ h1 h2 hne
  · intro i x hx
    obtain ⟨y, hy, rfl⟩ := find_map hx
    exact ⟨y, hy, fun u hu => hu.retok hmono (fun k hk => by simp [TS.upd, hk])⟩

/-! ### append -/
inductive Growable (tok sz : Nat) : SV → List (List AV) → Prop where
  | own (l : List (List AV)) : Growable tok sz (.own tok sz l) l
  | nil : Growable tok sz (.a (.v (.slice none 0 0))) []
theorem Growable.rel {tok sz : Nat} {x : SV} {l : List (List AV)} {u : Value} (h : Growable tok sz x l) (r : SRel C T x u) :
    (l = [] ∧ u = .slice none 0 0) ∨ ∃ b cap e, T tok = some ⟨b, l.length, cap, sz, e⟩ ∧ l.length ≤ cap ∧ u = .slice (some ⟨b, 0, none⟩) l.length cap ∧ Row C b 0 sz l := by
  cases h with
  | own l => exact r
  | nil => cases r; exact Or.inl ⟨rfl, rfl⟩
/-- a slice's content: of a nil one, too -/
inductive Content (sz : Nat) : SV → List (List AV) → Prop where
  | sl (l : List (List AV)) : Content sz (.a (.sl sz l)) l
  | own (tok : Nat) (l : List (List AV)) : Content sz (.own tok sz l) l
  | nil : Content sz (.a (.v (.slice none 0 0))) []
theorem Content.rel {sz : Nat} {x : SV} {l : List (List AV)} {u : Value} (h : Content sz x l) (r : SRel C T x u) : Rel C (.sl sz l) u := by
  cases h with
  | sl l => exact r
  | own tok l => exact SRel.av r
  | nil => cases r; exact rel_sl_mk 0 0 rfl (Nat.le_refl _) (fun e => absurd rfl e) ⟨fun _ h => by simp at h, fun i cs j c h => by simp at h⟩

def bytesT (P : Program) (t : TypeId) : Option Nat := (P.info? t).map (·.bytes)

theorem run_append_zero {st e sz : Nat} (hst : sliceT P st = some e) (hsz : szT P e = some sz) (A B : Option Addr) (n cap c : Nat) (hn : n ≤ cap) :
    (Builtin.append_ #[st, st] ty #[.slice A n cap, .slice B 0 c]).run P w = .ok (.slice A n cap) w := by
  have hf : (Builtin.firstCells sz 0 (.slice B 0 c)).run P w = .ok #[] w := by
    cases B <;> simp [Builtin.firstCells, loadCells, loadCellsFrom]
  cases A <;> simp [Builtin.append_, run_underlying (sliceT_un hst), run_sz hsz, Builtin.lenOf, hn, hf, storeCells]

theorem run_append_room' {st e sz : Nat} (hst : sliceT P st = some e) (hsz : szT P e = some sz) (t0 : TypeId)
    (g sLen sCap : Nat) (cur : Array Value) (hg : w.heap[g]? = some (.cells cur t0 (0, 0)))
    (a : Addr) (m c : Nat) (news : List Value) (hl : news.length = m * sz) (hnews : ∀ j u, news[j]? = some u → w.cell? (a.add j) = some u) (h1 : ∀ u ∈ news, u.oneCell' = true)
    (hroom : sLen + m ≤ sCap) (hfit : sLen * sz + news.length ≤ cur.size) :
    (Builtin.append_ #[st, st] ty #[.slice (some ⟨g, 0, none⟩) sLen sCap, .slice (some a) m c]).run P w =
      .ok (.slice (some ⟨g, 0, none⟩) (sLen + m) sCap) (w.setRow g (cur.toList.take (sLen * sz) ++ news ++ cur.toList.drop (sLen * sz + news.length)).toArray) := by
  have hf := run_firstCells_some (P := P) w sz m a m c news hl hnews
  have hst' := run_storeCells_at P g (sLen * sz) t0 news 0 cur w hg (by simpa using hfit) h1
  simp only [Nat.add_zero] at hst'
  simp [Builtin.append_, run_underlying (sliceT_un hst), run_sz hsz, Builtin.lenOf, hroom, hf, addr_add, hst']

theorem Row.append {b sz : Nat} {l m : List (List AV)} {vs ws : List Value} (hl : ∀ cs, cs ∈ l → cs.length = sz) (hm : ∀ cs, cs ∈ m → cs.length = sz) (h1 : Rels C l.flatten vs) (h2 : Rels C m.flatten ws)
    (hv : ∀ (j : Nat) (v : Value), (vs ++ ws)[j]? = some v → C b (0 + j) = some v) : Row C b 0 sz (l ++ m) :=
  row_mk (fun cs h => by rcases List.mem_append.1 h with h | h; exact hl cs h; exact hm cs h) (by rw [List.flatten_append]; exact h1.append h2) hv

theorem r_append (tok : Nat) {x y : Operand} {sx sy : SV} {st e sz bytes : Nat} {l m : List (List AV)} (hx : S.ev x = some sx) (hg : Growable tok sz sx l) (hy : S.ev y = some sy) (hm : Content sz sy m)
    (hst : sliceT P st = some e) (hsz : szT P e = some sz) (hpos : 0 < sz) (hby : bytesT P e = some bytes) (hz : (zeroT P e).map (·.length) = some sz)
    (hb : (l.length + m.length) * bytes ≤ 140737488355328) (h63 : l.length + m.length ≤ 9223372036854775807) (ht : Nat.blt t S.nt = true)
    (hr : AWL P w0 C0 ops rest Q ((S.dem tok).put t (.own tok sz (l ++ m)))) :
    AWL P w0 C0 ops (⟨some t, .call ⟨.builtin .append, #[x, y], #[st, st]⟩, ty, pos, aft, none⟩ :: rest) Q S := by
  refine awl_op rfl (fun C T a w hs => ?_) hr
  have hexec : ∀ (v : Value) (w' : World), (Builtin.append_ #[st, st] ty #[a.eval x, a.eval y]).run P w = .ok v w' → (execOp a.eval ⟨some t, .call ⟨.builtin .append, #[x, y], #[st, st]⟩, ty, pos, aft, none⟩).run P w = .ok (.value v) w' := by
    intro v w' h
    simp [execOp, resolve, invoke, builtin, h]
  have rx := hg.rel (hs.ev hx)
  obtain ⟨A, capy, by_, oy, hvy, hcapy, hA, hRy⟩ := rel_sl_inv (hm.rel (hs.ev hy))
  obtain ⟨ws, w1, w2, w3⟩ := hRy.vals
  have hone : ∀ v ∈ ws, v.oneCell' = true := fun v hv => by obtain ⟨j, hj⟩ := List.getElem?_of_mem hv; exact hs.one _ _ _ (w3 j v hj)
  rw [hvy] at hexec
  -- the types' facts
  obtain ⟨i, hi, hi1, hi2, z, hiz, hzl⟩ : ∃ i, P.info? e = some i ∧ i.size = sz ∧ i.bytes = bytes ∧ ∃ z, i.zero = some z ∧ z.cells.size = sz := by
    unfold szT at hsz; unfold bytesT at hby; unfold zeroT at hz
    cases hi : P.info? e with
    | none => simp [hi] at hsz
    | some i =>
      cases hiz : i.zero with
      | none => simp [hi, hiz] at hz
      | some z => simp [hi] at hsz hby; simp [hi, hiz] at hz; exact ⟨i, rfl, hsz, hby, z, hiz, hz⟩
  by_cases hm0 : m = []
  · -- nothing is appended
    subst hm0
    rcases rx with ⟨rfl, hux⟩ | ⟨b, cap, e', hT, hle, hux, hR⟩
    · rw [hux] at hexec
      refine ⟨.slice none 0 0, w, C, T, hexec _ _ (run_append_zero hst hsz none A 0 0 capy (Nat.le_refl _)), SimC.put ?_ ht (Or.inl ⟨rfl, rfl⟩)⟩
      refine hs.step (BelowX.refl _) (fun _ => Nat.le_refl _) (fun _ _ h => h) hs.com hs.one (fun _ _ _ _ => rfl) hs.objs hs.apart hs.toks hs.tokne (fun t x hx => ?_)
      obtain ⟨y, hy, rfl⟩ := find_map hx
      exact ⟨y, hy, fun u hu => hu.retok (fun _ _ _ h => h) (fun _ _ => rfl)⟩
    · rw [hux] at hexec
      refine ⟨_, w, C, T, hexec _ _ (run_append_zero hst hsz _ A _ cap capy hle), SimC.put ?_ ht (Or.inr ⟨b, cap, e', by simpa using hT, by simpa using hle, by simp, by simpa using hR⟩)⟩
      refine hs.step (BelowX.refl _) (fun _ => Nat.le_refl _) (fun _ _ h => h) hs.com hs.one (fun _ _ _ _ => rfl) hs.objs hs.apart hs.toks hs.tokne (fun t x hx => ?_)
      obtain ⟨y, hy, rfl⟩ := find_map hx
      exact ⟨y, hy, fun u hu => hu.retok (fun _ _ _ h => h) (fun _ _ => rfl)⟩
  · obtain rfl := hA hm0
    have hm1 : 0 < m.length := List.length_pos_iff.2 hm0
    have hws : ∀ (j : Nat) (v : Value), ws[j]? = some v → w.cell? ((⟨by_, oy, none⟩ : Addr).add j) = some v := fun j v hj => by rw [addr_add]; exact hs.com _ _ _ (w3 j v hj)
    rcases rx with ⟨rfl, hux⟩ | ⟨b, cap, e', hT, hle, hux, hR⟩
    · -- onto nil
      rw [hux] at hexec
      simp only [List.length_nil, Nat.zero_add] at hb h63
      have hrun := run_append_nil (P := P) w st ty e i z (sliceT_un hst) hi hiz ⟨by_, oy, none⟩ m.length capy ws (by rw [w2, hi1]) hws hm1 (by omega) (by rw [hi2]; omega)
      have hge := grownCap_ge w m.length 0 e
      refine ⟨_, _, _, _, hexec _ _ hrun, SimC.put (SimC.newRow hs.drew tok m.length (grownCap w m.length 0 e) sz e (vs := ws) w2 hge ?_ ?_ hone) ht (Or.inr ⟨w.heap.size, grownCap w m.length 0 e, e, by simp [TS.upd], by simpa using hge, by simp, ?_⟩)⟩
      · simp only [Array.size_append, List.size_toArray, size_zeroCells, hzl, w2, ← Nat.add_mul]; congr 1; omega
      · intro j v hj
        rw [Array.getElem?_append_left (by simpa using (List.getElem?_eq_some_iff.1 hj).1)]; simpa using hj
      · refine row_mk (vs := ws) hRy.1 (w1.mono (CS.add_mono (fun j _ => hs.fresh (Nat.le_refl _) _))) (fun j v hj => CS.add_at hj)
    · obtain ⟨k1, k2⟩ := hs.toks _ _ hT
      obtain ⟨arr, harr1, harr2⟩ := k1.blk
      obtain ⟨vs, v1, v2, v3⟩ := hR.vals
      simp only [Nat.zero_add] at v3
      have hfree : ∀ o, l.length * sz ≤ o → C b o = none := k1.free
      rw [hux] at hexec
      by_cases hroom : l.length + m.length ≤ cap
      · -- in its place
        have hfit : (l.length + m.length) * sz ≤ cap * sz := Nat.mul_le_mul_right _ hroom
        rw [Nat.add_mul] at hfit
        have hrun := run_append_room' (P := P) (w := w) (ty := ty) hst hsz e' b l.length cap arr harr1 ⟨by_, oy, none⟩ m.length capy ws w2 hws hone hroom (by rw [harr2, w2]; exact hfit)
        have hmono := CS.add_mono (C := C) (b := b) (o := l.length * sz) (vs := ws) (fun j _ => hfree _ (by omega))
        refine ⟨_, _, _, _, hexec _ _ hrun, SimC.put (hs.growRow tok m.length hT harr1 harr2 w2 hroom hone) ht (Or.inr ⟨b, cap, e', by simp [TS.upd], by simpa using hroom, by simp, ?_⟩)⟩
        refine Row.append hR.1 hRy.1 (v1.mono hmono) (w1.mono hmono) (fun j v hj => ?_)
        rw [Nat.zero_add]
        by_cases hj' : j < vs.length
        · rw [List.getElem?_append_left hj'] at hj; exact hmono _ _ _ (v3 j v hj)
        · rw [List.getElem?_append_right (by omega)] at hj
          have := CS.add_at (C := C) (b := b) (o := l.length * sz) hj
          rw [v2, show l.length * sz + (j - l.length * sz) = j from by omega] at this; exact this
      · -- anew
        have hrun := run_append_grow (P := P) w st ty e i z (sliceT_un hst) hi hiz ⟨b, 0, none⟩ l.length cap vs (by rw [v2, hi1]) (fun j v hj => by rw [addr_add, Nat.zero_add]; exact hs.com _ _ _ (v3 j v hj)) ⟨by_, oy, none⟩ m.length capy ws (by rw [w2, hi1]) hws (by omega) (by omega) (by rw [hi2]; exact growslice_fits (by omega) hb)
        have hge := grownCap_ge w (l.length + m.length) cap e
        have hlen : (vs ++ ws).length = (l.length + m.length) * sz := by rw [List.length_append, v2, w2, Nat.add_mul]
        have hone2 : ∀ v ∈ vs ++ ws, v.oneCell' = true := fun v hv => by
          rcases List.mem_append.1 hv with hv | hv
          · obtain ⟨j, hj⟩ := List.getElem?_of_mem hv; exact hs.one _ _ _ (v3 j v hj)
          · exact hone v hv
        have hmono := CS.add_mono (C := C) (b := w.heap.size) (o := 0) (vs := vs ++ ws) (fun j _ => hs.fresh (Nat.le_refl _) _)
        refine ⟨_, _, _, _, hexec _ _ hrun, SimC.put (SimC.newRow hs.drew tok (l.length + m.length) (grownCap w (l.length + m.length) cap e) sz e (vs := vs ++ ws) hlen hge ?_ ?_ hone2) ht (Or.inr ⟨w.heap.size, grownCap w (l.length + m.length) cap e, e, by simp [TS.upd], by simpa using hge, by simp, ?_⟩)⟩
        · simp only [Array.size_append, List.size_toArray, size_zeroCells, hzl, v2, w2, ← Nat.add_mul]; congr 1; omega
        · intro j v hj
          have := (List.getElem?_eq_some_iff.1 hj).1
          rw [Array.getElem?_append_left (by simpa using this)]; simpa using hj
        · exact Row.append hR.1 hRy.1 (v1.mono hmono) (w1.mono hmono) (fun j v hj => CS.add_at hj)
end Go.Proofs.Ytmbfmnhcahhciaa.A

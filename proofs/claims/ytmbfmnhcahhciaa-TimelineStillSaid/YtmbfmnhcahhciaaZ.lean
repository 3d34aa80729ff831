/- The rules of a walk over abstract states: arrays of integers as keys of maps, arrays in boxes and committed, maps.Clone. -/
import Derived.Test.YtmbfmnhcahhciaaQ
import Derived.Test.YtmbfmnhcahhciaaT
import Derived.ChangeKeysEq
namespace Go.Proofs.Ytmbfmnhcahhciaa.A
open Go Go.RowKit
set_option linter.unusedVariables false
set_option linter.unusedSimpArgs false
set_option linter.unusedSectionVars false
variable {P : Program} {w0 : Base} {C0 C : CS} {T : TS} {S S' : AState} {a : Act} {w : World} {ops : Array Oper} {rest : List Oper} {o : Oper} {Q : Exit → AState → Prop}
variable {t : Nat} {ty ty' : TypeId} {pos : String} {aft : Array Edge}

theorem eqItems_ints {q : IntKind} {e : TypeId} (he : P.underlying e = some (.int q)) (ha : aggT P e = some false) (d : Nat) (w : World) (us bs : List Int) :
    ∀ is : List Nat, (∀ i ∈ is, i < us.length ∧ i < bs.length) → (Op.eqItems (d + 1) e 1 (us.map (Value.int q)).toArray (bs.map (Value.int q)).toArray is).run P w = .ok (is.all fun i => us[i]? == bs[i]?) w
  | [], _ => by simp [Op.eqItems]
  | i :: is, h => by
    have ⟨h1, h2⟩ := h i (by simp)
    have ih := eqItems_ints he ha d w us bs is (fun j hj => h j (by simp [hj]))
    have px := run_part1 (P := P) ha (xs := (us.map (Value.int q)).toArray) (off := i * 1) (v := .int q us[i]) (by simp [h1]) w
    have py := run_part1 (P := P) ha (xs := (bs.map (Value.int q)).toArray) (off := i * 1) (v := .int q bs[i]) (by simp [h2]) w
    simp only [Op.eqItems, Sem.run_bind, px, py, Result.andThen_ok, run_equalIn_int w d _ q q _ _ he, List.all_cons, List.getElem?_eq_getElem h1, List.getElem?_eq_getElem h2]
    by_cases hxy : us[i] = bs[i]
    · simp [hxy, ih]
    · simp [hxy]
theorem range_all_eq : ∀ (us bs : List Int) (n : Nat), us.length = n → bs.length = n → ((List.range n).all fun i => us[i]? == bs[i]?) = decide (bs = us) := by
  intro us bs n h1 h2
  by_cases h : bs = us
  · subst h; simp
  · simp only [h, decide_false]
    rw [Bool.eq_false_iff]
    intro hall
    apply h
    apply List.ext_getElem?
    intro i
    by_cases hi : i < n
    · have := List.all_eq_true.1 hall i (by simpa using hi); simp at this; exact this.symm
    · rw [List.getElem?_eq_none (by omega), List.getElem?_eq_none (by omega)]
theorem checkKey_int {q : IntKind} {e : TypeId} (he : P.underlying e = some (.int q)) (em : Bool) (d : Nat) (x : Int) (w : World) : (Instr.checkKey em (d + 1) e (.int q x)).run P w = .ok () w := by simp [Instr.checkKey, run_underlying he]
/-- arrays of integers -/
theorem keyEnc_arr {K : Type} [DecidableEq K] {kt e : TypeId} {q : IntKind} {n : Nat} (cells : K → List Int) (hinj : ∀ a b, cells a = cells b → a = b) (hS : P.underlying kt = some (.array n e)) (he : isIntT P e q = true) (ha : aggT P e = some false) (hc : P.cellsOf e = 1) (hi : (P.info? e).isSome = true) (hsz : szT P e = some 1)
    (hl : ∀ k, (cells k).length = n) : KeyEnc P kt (fun k => ekL q (cells k)) := by
  have he' := isIntT_un he
  refine keyEnc_of_eq hS (fun k => ⟨_, rfl⟩) (fun a b w => ?_) (fun em k w => ?_) (fun k => sameBits_ekL q _)
  · obtain ⟨i, hi⟩ := Option.isSome_iff_exists.1 hi
    simp only [Op.equal, Op.maxDepth, ekL]
    rw [show (10000 : Nat) = 9999 + 1 from rfl, run_equalIn_array w 9999 _ _ hS hi, hc, show (9999 : Nat) = 9998 + 1 from rfl, eqItems_ints he' ha 9998 w (cells a) (cells b) _ (fun i hi => by rw [hl, hl]; exact ⟨List.mem_range.1 hi, List.mem_range.1 hi⟩), range_all_eq _ _ n (hl a) (hl b)]
    by_cases h : b = a
    · subst h; simp
    · have : cells b ≠ cells a := fun e => h (hinj _ _ e)
      simp [h, this]
  · simp only [ekL]
    rw [show (10000 : Nat) = 9999 + 1 from rfl]
    unfold Instr.checkKey
    simp only [Sem.run_bind, run_underlying hS, Result.andThen_ok]
    simp only [Std.Legacy.Range.forIn_eq_forIn_range', Std.Legacy.Range.size, Nat.sub_zero, Nat.add_one_sub_one, Nat.div_one]
    have : ∀ is : List Nat, (∀ i ∈ is, i < n) → ∀ g : Nat → PUnit → Sem (ForInStep PUnit), (∀ i < n, (g i PUnit.unit).run P w = .ok (.yield PUnit.unit) w) → (forIn (m := Sem) is PUnit.unit g).run P w = .ok PUnit.unit w := by
      intro is
      induction is with
      | nil => intro _ g _; simp
      | cons i is ih =>
        intro hi g hg
        rw [List.forIn_cons]
        simp only [Sem.run_bind, hg i (hi i (by simp)), Result.andThen_ok]
        exact ih (fun j hj => hi j (by simp [hj])) g hg
    rw [this]
    · rfl
    · intro i hi; rw [List.mem_range'_1] at hi; omega
    · intro i hi
      have px := run_part1 (P := P) ha (xs := ((cells k).map (Value.int q)).toArray) (off := i * 1) (v := .int q ((cells k)[i]'(by rw [hl]; exact hi))) (by simp [hl, hi]) w
      have hck := checkKey_int (P := P) he' em 9998 ((cells k)[i]'(by rw [hl]; exact hi)) w
      simp only [Sem.run_bind, run_sz hsz, Result.andThen_ok, px, hck, Sem.run_pure]

theorem arrT_un {t e : TypeId} {n : Nat} (h : P.underlying t = some (.array n e)) : P.underlying t = some (.array (P.arrayLen t) (P.elem t)) ∧ P.elem t = e ∧ P.arrayLen t = n := by
  have h1 : P.elem t = e := by simp [Program.elem, h]
  have h2 : P.arrayLen t = n := by simp [Program.arrayLen, h]
  rw [h1, h2]; exact ⟨h, rfl, rfl⟩
/-- an element of an array in a box -/
theorem r_indexArrB {st e n sz b off : Nat} {x y : Operand} {k : IntKind} {i : Int} (hx : S.ev x = some (.a (.v (.pointer (some ⟨b, off, none⟩))))) (hy : S.ev y = some (.a (.v (.int k i)))) (hu : P.underlying st = some (.array n e)) (hsz : szT P e = some sz) (h0 : 0 ≤ i) (h1 : i < n) (ht : Nat.blt t S.nt = true)
    (hr : AWL P w0 C0 ops rest Q (S.put t (.a (.v (.pointer (some ⟨b, off + i.toNat * sz, none⟩)))))) : AWL P w0 C0 ops (⟨some t, .indexAddr st x y, ty, pos, aft, none⟩ :: rest) Q S :=
  awl_pure ht (fun C T a w hs => ⟨_, by simp [execOp, hs.evv hx, hs.evv hy, Instr.indexAt, asIntOf, Sem.run_bind, run_underlying hu, Instr.sureAddr, h0, h1, run_sz hsz, addr_add], srel_v _⟩) hr
/-- a committed array, as a slice -/
theorem r_sliceArr {st e n : Nat} {x : Operand} {cs : List AV} (hx : S.ev x = some (.a (.cp cs))) (hu : P.underlying st = some (.array n e)) (hsz : szT P e = some 1) (hn : cs.length = n) (ht : Nat.blt t S.nt = true)
    (hr : AWL P w0 C0 ops rest Q (S.put t (.a (.sl 1 (cs.map fun c => [c]))))) : AWL P w0 C0 ops (⟨some t, .slice st x none none none, ty, pos, aft, none⟩ :: rest) Q S :=
  awl_pure ht (fun C T a w hs => by
    have h := hs.ev hx
    generalize hv : a.eval x = u at h
    obtain ⟨b, off, rfl, hc⟩ := rel_cp_inv h
    obtain ⟨g1, g2, g3⟩ := arrT_un hu
    have hrun := run_sliceAt_array_all w st ⟨b, off, none⟩ g1
    rw [g2, g3, run_sz hsz] at hrun
    refine ⟨.slice (some ⟨b, off, none⟩) n n, by
      simp only [execOp, hv, hrun, slicedAt, Result.andThen]
      by_cases h : n = 0
      · simp [h, hrun, slicedAt, Result.andThen]
      · simp [h, hrun, slicedAt, Result.andThen, Addr.add], ?_⟩
    refine rel_sl_mk b off (by simp [hn]) (Nat.le_refl _) (fun _ => rfl) ⟨fun c hc => ?_, fun i c j x h1 h2 => ?_⟩
    · obtain ⟨y, _, rfl⟩ := List.mem_map.1 hc; rfl
    · rw [List.getElem?_map] at h1
      cases hi : cs[i]? with
      | none => simp [hi] at h1
      | some y =>
        simp [hi] at h1
        subst h1
        cases j with
        | succ j => simp at h2
        | zero =>
          simp at h2; subst h2
          simpa using hc i y hi) hr
/-- maps.Clone, out of what the kit says of it -/
theorem ac_clone {f : FuncId} {es : List (Value × AV)} {b : Nat} {fl : Bool} (h : ∀ (ents : Array MapEntry) (clock : Nat) (w : World), w.heap[b]? = some (.map ents clock) → Calls P f #[.map (some b)] w fun e w' => e = .returned (.map (some w.heap.size)) ∧ w' = w.alloc (.map ents clock)) :
    AC P f [.v (.map (some b))] [⟨b, fl, .map es⟩] (fun r n => ∃ b', r = .v (.map (some b')) ∧ n = [⟨b', true, .map es⟩]) := by
  intro C w vals hcom hrels hobjs
  obtain ⟨v0, vs0, hvv, hr0, hr1⟩ := hrels.cons_inv
  obtain rfl := hr1.nil_inv
  cases hr0
  obtain rfl : vals = #[.map (some b)] := by apply Array.ext'; simpa using hvv
  obtain ⟨⟨ents, clock, h1, h2, h3, h4, h5⟩, hnone⟩ := hobjs.1 ⟨b, fl, .map es⟩ (List.mem_singleton.2 rfl)
  refine (h ents clock w h1).mono ?_
  rintro e w' ⟨rfl, rfl⟩
  have hlt : ∀ b o v, C b o = some v → b < w.heap.size := fun b o v hc => by have := World.block_lt_of_cell? w _ (hcom.1 _ _ _ hc); simpa using this
  refine ⟨_, C, _, _, rfl, ⟨w.heap.size, rfl, rfl⟩, (Below.refl _ w).alloc (Nat.le_refl _) _, fun _ _ _ => rfl, ⟨com_keep hcom.1 (fun b o v hc => Below.heap_alloc _ _ _ (hlt b o v hc)), hcom.2⟩, .v _, ⟨fun e he => ?_, by simp⟩, by simp⟩
  obtain rfl := List.mem_singleton.1 he
  refine ⟨⟨ents, clock, (MapKept.heap_alloc w _).1, h2, h3, h4, h5⟩, fun o => ?_⟩
  cases hc : C w.heap.size o with
  | none => rfl
  | some v => exact absurd (hlt _ _ _ hc) (Nat.lt_irrefl _)
end Go.Proofs.Ytmbfmnhcahhciaa.A

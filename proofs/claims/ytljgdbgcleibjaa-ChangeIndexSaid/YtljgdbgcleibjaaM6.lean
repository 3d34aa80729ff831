import Derived.WalkKit
import Derived.Below
import Derived.Laws.Rows
import Derived.Laws.CopyRow
import Derived.Laws.AppendOwn
import Derived.RangeFuncLeaves
import Derived.RangeFuncSeq
import Derived.RangeFuncCalls
import Derived.MapKept
import Derived.Orders
import Derived.Laws.IdiomStrings
import Derived.Laws.BytesArg
import Derived.Shelf.SlIter.Nil
import Derived.RangeFuncBound
import Derived.Maps.RangeRun
import Derived.DeepKeys3
import Derived.Laws.StructEq
import Derived.Shelf.SlSortCmp.NoneTotal
import Derived.ChangeKeysEq
import Derived.Laws.MakeOwn
import Derived.ChangeArms
import Derived.ChangeOld
import Derived.Laws.DeepStrings4
import Derived.OpenShut
import Derived.Test.YtljgdbgcleibjaaProg
import Derived.KernelRfl
import Derived.OrdersIn
import Derived.Lib.AppendZeros
import Derived.Lib.AppendZerosOnto
import Derived.Lib.Overlaps
import Derived.Deep.AppendSrc
import Derived.Shelf.SlGeneric
import Derived.Ground.SlsfProg
import Derived.Scope
import Derived.Test.YtljgdbgcleibjaaM5
namespace Go.Proofs.Ytljgdbgcleibjaa.A
open Go Go.RowKit
set_option linter.unusedVariables false
set_option linter.unusedSimpArgs false
set_option linter.unusedSectionVars false
variable {P : Program} {w0 : Base} {C0 C : CS} {T : TS} {S S' : AState} {a : Act} {w : World} {ops : Array Oper} {rest : List Oper} {o : Oper} {Q : Exit → AState → Prop}
variable {t : Nat} {ty ty' : TypeId} {pos : String} {aft : Array Edge}
inductive VK where
  | int (q : IntKind)
  | bool
  deriving DecidableEq
def VK.is : VK → Value → Prop
  | .int q, v => ∃ n, v = .int q n
  | .bool, v => ∃ b, v = .bool b
def Kn : List VK → List Value → Prop
  | [], [] => True
  | k :: ks, v :: vs => k.is v ∧ Kn ks vs
  | _, _ => False
theorem Kn.len : ∀ {ks : List VK} {vs : List Value}, Kn ks vs → vs.length = ks.length
  | [], [], _ => rfl
  | _ :: _, _ :: _, h => congrArg (· + 1) h.2.len
theorem Kn.split : ∀ {ks kr : List VK} {vs : List Value}, Kn (ks ++ kr) vs → ∃ v1 v2, vs = v1 ++ v2 ∧ Kn ks v1 ∧ Kn kr v2
  | [], kr, vs, h => ⟨[], vs, rfl, trivial, h⟩
  | k :: ks, kr, [], h => by cases h
  | k :: ks, kr, v :: vs, h => by
    obtain ⟨v1, v2, rfl, h1, h2⟩ := Kn.split (ks := ks) h.2
    exact ⟨v :: v1, v2, rfl, ⟨h.1, h1⟩, h2⟩
theorem Kn.mem : ∀ {ks : List VK} {vs : List Value}, Kn ks vs → ∀ v ∈ vs, ∃ k : VK, k.is v
  | [], [], _, v, h => by cases h
  | k :: _, x :: _, hk, v, h => by
    rcases List.mem_cons.1 h with rfl | h
    · exact ⟨k, hk.1⟩
    · exact hk.2.mem v h
def isAggB (P : Program) (t : TypeId) : Bool := match aggT P t with | some true => true | _ => false
theorem isAggB_eq {t : TypeId} (h : isAggB P t = true) : aggT P t = some true := by
  unfold isAggB at h; split at h
  · assumption
  · cases h
def eqFs (P : Program) (g : TypeId → Option (List VK)) : Nat → List Field → Option (List VK)
  | _, [] => some []
  | o, f :: fs => if decide (f.name ≠ "_") && Nat.beq f.offset o then
      match g f.type with
      | some q => if decide (szT P f.type = some q.length) then (eqFs P g (o + q.length) fs).map (q ++ ·) else none
      | none => none
    else none
def eqF (P : Program) : Nat → TypeId → Option (List VK)
  | 0, _ => none
  | d + 1, t => match P.underlying t with
    | some (.int q) => if notAgg P t then some [.int q] else none
    | some .bool => if notAgg P t then some [.bool] else none
    | some (.struct fs) => if !P.stoodInHeld t && isAggB P t then eqFs P (eqF P d) 0 fs.toList else none
    | _ => none
def mkV (P : Program) (t : TypeId) (us : List Value) : Value := if aggT P t = some true then .agg us.toArray else us.headD undef
theorem run_partF {t : TypeId} {q : List VK} (hs : szT P t = some q.length) {xs : Array Value} {o : Nat} {u1 u2 : List Value} (hx : xs.toList.drop o = u1 ++ u2) (hk : Kn q u1) (ha : aggT P t = some true ∨ (aggT P t = some false ∧ ∃ k, q = [k])) (w : World) : (part t xs o).run P w = .ok (mkV P t u1) w := by
  have hl := hk.len
  have hol : o + u1.length ≤ xs.size ∨ u1 = [] := by
    by_cases h : u1 = []
    · exact .inr h
    · left
      have h1 : 0 < u1.length := List.length_pos_iff.2 h
      have := congrArg List.length hx
      simp at this; omega
  rcases ha with ha | ⟨ha, k, rfl⟩
  · have he : xs.extract o (o + q.length) = u1.toArray := by
      apply Array.ext'
      have : (xs.toList.drop o).take q.length = u1 := by rw [hx, ← hl, List.take_left]
      rw [Array.toList_extract, ← this]
      simp [List.extract_eq_take_drop]
    simp [part, run_isAgg ha, run_sz hs, mkV, ha, he]
  · match u1, hk with
    | [v], _ =>
      have h0 : xs[o]? = some v := by
        have := congrArg (fun l => l[0]?) hx
        simpa using this
      rw [run_part1 ha h0]
      simp [mkV, ha]
theorem eqF_agg : ∀ {d : Nat} {t : TypeId} {q : List VK}, eqF P d t = some q → aggT P t = some true ∨ (aggT P t = some false ∧ ∃ k, q = [k])
  | 0, _, _, h => by cases h
  | d + 1, t, q, h => by
    unfold eqF at h
    split at h
    · split at h
      · cases h; exact .inr ⟨notAgg_eq (by assumption), _, rfl⟩
      · cases h
    · split at h
      · cases h; exact .inr ⟨notAgg_eq (by assumption), _, rfl⟩
      · cases h
    · split at h
      · rename_i hc
        simp only [Bool.and_eq_true] at hc
        exact .inl (isAggB_eq hc.2)
      · cases h
    · cases h
theorem eqFs_cons {g : TypeId → Option (List VK)} {o : Nat} {f : Field} {fs : List Field} {qs : List VK} (h : eqFs P g o (f :: fs) = some qs) : f.name ≠ "_" ∧ f.offset = o ∧ ∃ q qr, g f.type = some q ∧ szT P f.type = some q.length ∧ eqFs P g (o + q.length) fs = some qr ∧ qs = q ++ qr := by
  unfold eqFs at h
  split at h
  · rename_i hc
    simp only [Bool.and_eq_true, decide_eq_true_eq] at hc
    split at h
    · rename_i q hq
      split at h
      · rename_i hs
        cases hr : eqFs P g (o + q.length) fs with
        | none => rw [hr] at h; cases h
        | some qr =>
          rw [hr] at h
          cases h
          exact ⟨hc.1, Nat.eq_of_beq_eq_true hc.2, q, qr, hq, by simpa using hs, hr, rfl⟩
      · cases h
    · cases h
  · cases h
theorem run_eqFs {d : Nat} (ih : ∀ t q, eqF P d t = some q → ∀ e, d ≤ e → ∀ us vs, Kn q us → Kn q vs → ∀ (b : Bool), (b = true ↔ us = vs) → ∀ w, (Op.equalIn e t (mkV P t us) (mkV P t vs)).run P w = .ok b w) :
    ∀ (fs : List Field) (o : Nat) (qs : List VK), eqFs P (eqF P d) o fs = some qs → ∀ e, d ≤ e → ∀ (xs ys : Array Value) (us vs : List Value), xs.toList.drop o = us → ys.toList.drop o = vs → Kn qs us → Kn qs vs → ∀ (b : Bool), (b = true ↔ us = vs) → ∀ w, (Op.eqFields e xs ys fs).run P w = .ok b w
  | [], o, qs, h, e, he, xs, ys, us, vs, _, _, hu, hv, b, hb, w => by
    cases h
    have h1 : us = [] := List.eq_nil_of_length_eq_zero hu.len
    have h2 : vs = [] := List.eq_nil_of_length_eq_zero hv.len
    subst h1 h2
    obtain rfl := hb.2 rfl
    simp [Op.eqFields]
  | f :: fs, o, qs, h, e, he, xs, ys, us, vs, hx, hy, hu, hv, b, hb, w => by
    obtain ⟨f1, f2, q, qr, hq, hs, hr, rfl⟩ := eqFs_cons h
    obtain ⟨u1, u2, rfl, hu1, hu2⟩ := hu.split
    obtain ⟨v1, v2, rfl, hv1, hv2⟩ := hv.split
    have ha := eqF_agg hq
    have px := run_partF hs hx hu1 ha w
    have py := run_partF hs hy hv1 ha w
    have hx2 : xs.toList.drop (o + q.length) = u2 := by rw [← List.drop_drop, hx, ← hu1.len, List.drop_left]
    have hy2 : ys.toList.drop (o + q.length) = v2 := by rw [← List.drop_drop, hy, ← hv1.len, List.drop_left]
    have hl : u1.length = v1.length := hu1.len.trans hv1.len.symm
    by_cases h1 : u1 = v1
    · have ihr := run_eqFs ih fs _ qr hr e he xs ys u2 v2 hx2 hy2 hu2 hv2 b (by rw [hb, h1]; simp) w
      simp only [Op.eqFields, f1, f2, if_true, ne_eq, not_false_eq_true, Sem.run_bind, px, py, Result.andThen, ih _ _ hq e he u1 v1 hu1 hv1 true (by simp [h1]) w, Sem.run_ite, ihr]
      rfl
    · have hn : ¬ (u1 ++ u2 = v1 ++ v2) := fun h2 => h1 (List.append_inj_left h2 hl)
      obtain rfl : b = false := by cases b with | false => rfl | true => exact absurd (hb.1 rfl) hn
      simp [Op.eqFields, f1, f2, Sem.run_bind, px, py, Result.andThen, ih _ _ hq e he u1 v1 hu1 hv1 false (by simp [h1]) w]
theorem run_eqF : ∀ (d : Nat) (t : TypeId) (q : List VK), eqF P d t = some q → ∀ e, d ≤ e → ∀ us vs, Kn q us → Kn q vs → ∀ (b : Bool), (b = true ↔ us = vs) → ∀ w, (Op.equalIn e t (mkV P t us) (mkV P t vs)).run P w = .ok b w
  | 0, _, _, h, _, _, _, _, _, _, _, _, _ => by cases h
  | d + 1, t, q, h, 0, he, _, _, _, _, _, _, _ => by omega
  | d + 1, t, q, h, e + 1, he, us, vs, hu, hv, b, hb, w => by
    have ha := eqF_agg h
    unfold eqF at h
    split at h
    · rename_i q' hd
      split at h
      · rename_i hna
        cases h
        match us, hu, vs, hv with
        | [u], hu, [v], hv =>
          obtain ⟨n, rfl⟩ := hu.1
          obtain ⟨m, rfl⟩ := hv.1
          have hna' := notAgg_eq hna
          simp only [mkV, hna', List.headD_cons]
          rw [if_neg (by simp), if_neg (by simp), run_equalIn_int w e t q' q' n m hd]
          have hbb : b = (n == m) := by
            rw [Bool.eq_iff_iff, hb]; simp
          subst hbb
          simp
      · cases h
    · rename_i hd
      split at h
      · rename_i hna
        cases h
        match us, hu, vs, hv with
        | [u], hu, [v], hv =>
          obtain ⟨n, rfl⟩ := hu.1
          obtain ⟨m, rfl⟩ := hv.1
          have hna' := notAgg_eq hna
          simp only [mkV, hna', List.headD_cons]
          rw [if_neg (by simp), if_neg (by simp), run_equalIn_b w e t n m hd]
          have hbb : b = (n == m) := by
            rw [Bool.eq_iff_iff, hb]; simp
          subst hbb
          rfl
      · cases h
    · rename_i fs hd
      split at h
      · rename_i hc
        simp only [Bool.and_eq_true, Bool.not_eq_true'] at hc
        have hag := isAggB_eq hc.2
        simp only [mkV, hag, if_true]
        have hd' : P.underlying t = some (.struct (P.fieldsOf t)) := by simp [Program.fieldsOf, hd]
        have hfs : P.fieldsOf t = fs := by simp [Program.fieldsOf, hd]
        rw [run_equalIn_struct w e t _ _ hd' hc.1, hfs]
        exact run_eqFs (fun t q h => run_eqF d t q h) fs.toList 0 q h e (by omega) _ _ us vs (by simp) (by simp) hu hv b hb w
      · cases h
    · cases h
theorem run_checkFs {d : Nat} (em : Bool) (ih : ∀ t q, eqF P d t = some q → ∀ e, d ≤ e → ∀ us, Kn q us → ∀ w, (Instr.checkKey em e t (mkV P t us)).run P w = .ok () w) (e : Nat) (he : d ≤ e) (xs : Array Value) (g : Field → PUnit → Sem (ForInStep PUnit))
    (hg : ∀ (f : Field) (v : Value) (w : World), f.name ≠ "_" → (part f.type xs f.offset).run P w = .ok v w → (Instr.checkKey em e f.type v).run P w = .ok () w → (g f PUnit.unit).run P w = .ok (.yield PUnit.unit) w) (w : World) :
    ∀ (fs : List Field) (o : Nat) (qs : List VK), eqFs P (eqF P d) o fs = some qs → ∀ (us : List Value), xs.toList.drop o = us → Kn qs us → (forIn (m := Sem) fs PUnit.unit g).run P w = .ok PUnit.unit w
  | [], o, qs, h, us, _, _ => by simp
  | f :: fs, o, qs, h, us, hx, hu => by
    obtain ⟨f1, f2, q, qr, hq, hs, hr, rfl⟩ := eqFs_cons h
    obtain ⟨u1, u2, rfl, hu1, hu2⟩ := hu.split
    have px := run_partF hs hx hu1 (eqF_agg hq) w
    have hx2 : xs.toList.drop (o + q.length) = u2 := by rw [← List.drop_drop, hx, ← hu1.len, List.drop_left]
    have ihr := run_checkFs em ih e he xs g hg w fs _ qr hr u2 hx2 hu2
    have hgf := hg f _ w f1 (by rw [f2]; exact px) (ih _ _ hq e he u1 hu1 w)
    rw [List.forIn_cons]
    simp only [Sem.run_bind, hgf, Result.andThen]
    exact ihr
theorem run_checkF (em : Bool) : ∀ (d : Nat) (t : TypeId) (q : List VK), eqF P d t = some q → ∀ e, d ≤ e → ∀ us, Kn q us → ∀ w, (Instr.checkKey em e t (mkV P t us)).run P w = .ok () w
  | 0, _, _, h, _, _, _, _, _ => by cases h
  | d + 1, t, q, h, 0, he, _, _, _ => by omega
  | d + 1, t, q, h, e + 1, he, us, hu, w => by
    unfold eqF at h
    split at h
    · rename_i q' hd
      split at h
      · rename_i hna
        cases h
        match us, hu with
        | [u], hu =>
          obtain ⟨n, rfl⟩ := hu.1
          simp [mkV, notAgg_eq hna, Instr.checkKey, run_underlying hd]
      · cases h
    · rename_i hd
      split at h
      · rename_i hna
        cases h
        match us, hu with
        | [u], hu =>
          obtain ⟨n, rfl⟩ := hu.1
          simp [mkV, notAgg_eq hna, Instr.checkKey, run_underlying hd]
      · cases h
    · rename_i fs hd
      split at h
      · rename_i hc
        simp only [Bool.and_eq_true, Bool.not_eq_true'] at hc
        have hag := isAggB_eq hc.2
        simp only [mkV, hag, if_true]
        unfold Instr.checkKey
        simp only [Sem.run_bind, run_underlying hd, Result.andThen]
        rw [← Array.forIn_toList]
        rw [run_checkFs em (fun t q h => run_checkF em d t q h) e (by omega) us.toArray _ ?hg w fs.toList 0 q h us (by simp) hu]
        · rfl
        · intro f v w h1 h2 h3
          simp [h1, Sem.run_bind, h2, h3]
      · cases h
    · cases h
theorem sameBits_kn {n : Nat} {v : Value} {k : VK} (h : k.is v) : Instr.sameBits n v v = true := by
  cases k with
  | int q => obtain ⟨m, rfl⟩ := h; simp [Instr.sameBits]
  | bool => obtain ⟨m, rfl⟩ := h; simp [Instr.sameBits]
theorem sameBits_flat {us : List Value} (h : ∀ v ∈ us, ∃ k : VK, k.is v) : Instr.sameBits 10000 (.agg us.toArray) (.agg us.toArray) = true := by
  unfold Instr.sameBits
  simp only [beq_self_eq_true, Bool.true_and, List.all_eq_true]
  intro p hp
  have : ∀ (l : List Value), (∀ v ∈ l, ∃ k : VK, k.is v) → ∀ p ∈ l.zip l, ∃ v, p = (v, v) ∧ ∃ k : VK, k.is v := by
    intro l
    induction l with
    | nil => intro _ p hp; simp at hp
    | cons v l ih =>
      intro hl p hp
      rw [List.zip_cons_cons] at hp
      rcases List.mem_cons.1 hp with rfl | hp
      · exact ⟨v, rfl, hl v (by simp)⟩
      · exact ih (fun v hv => hl v (List.mem_cons_of_mem _ hv)) p hp
  obtain ⟨v, rfl, k, hk⟩ := this us h p (by simpa using hp)
  exact sameBits_kn hk
structure FlatT (P : Program) (t : TypeId) (q : List VK) : Prop where
  str : P.underlying t = some (.struct (P.fieldsOf t))
  agg : aggT P t = some true
  eq : eqF P 5 t = some q
  guard : P.eqGuardType P.depth t = false
theorem run_flat {t : TypeId} {q : List VK} (h : FlatT P t q) {us vs : List Value} (hu : Kn q us) (hv : Kn q vs) (b : Bool) (hb : b = true ↔ us = vs) (w : World) : (Op.equalIn 10000 t (.agg us.toArray) (.agg vs.toArray)).run P w = .ok b w := by
  have := run_eqF 5 t q h.eq 10000 (by omega) us vs hu hv b hb w
  simpa only [mkV, h.agg, if_true] using this
theorem r_feq {x y : Operand} {sx sy : SV} {xt yt : TypeId} {q : List VK} {us vs : List Value} (hx : S.ev x = some sx) (hy : S.ev y = some sy) (h : FlatT P xt q) (hxv : IsVal sx.av (.agg us.toArray)) (hyv : IsVal sy.av (.agg vs.toArray)) (hu : Kn q us) (hv : Kn q vs) (b : Bool) (hb : b = true ↔ us = vs) (ht : Nat.blt t S.nt = true)
    (hr : AWL P w0 C0 ops rest Q (S.put t (.a (.v (.bool b))))) : AWL P w0 C0 ops (⟨some t, .binOp .eql xt x y yt, ty, pos, aft, none⟩ :: rest) Q S := by
  exact awl_pure ht (fun C T a w hs => ⟨.bool b, by
    have hg := run_eqGuard_agg (P := P) w .eql xt x y us.toArray vs.toArray h.guard
    simp only [execOp, (hxv C _).1 (hs.ev hx).av, (hyv C _).1 (hs.ev hy).av, Sem.run_bind, hg, Result.andThen, run_eql_struct, run_flat h hu hv b hb, Sem.run_pure], srel_v _⟩) hr
theorem r_fne {x y : Operand} {sx sy : SV} {xt yt : TypeId} {q : List VK} {us vs : List Value} (hx : S.ev x = some sx) (hy : S.ev y = some sy) (h : FlatT P xt q) (hxv : IsVal sx.av (.agg us.toArray)) (hyv : IsVal sy.av (.agg vs.toArray)) (hu : Kn q us) (hv : Kn q vs) (b : Bool) (hb : b = true ↔ us = vs) (ht : Nat.blt t S.nt = true)
    (hr : AWL P w0 C0 ops rest Q (S.put t (.a (.v (.bool (!b)))))) : AWL P w0 C0 ops (⟨some t, .binOp .neq xt x y yt, ty, pos, aft, none⟩ :: rest) Q S := by
  exact awl_pure ht (fun C T a w hs => ⟨.bool (!b), by
    have hg := run_eqGuard_agg (P := P) w .neq xt x y us.toArray vs.toArray h.guard
    simp only [execOp, (hxv C _).1 (hs.ev hx).av, (hyv C _).1 (hs.ev hy).av, Sem.run_bind, hg, Result.andThen, run_neq_struct, run_flat h hu hv b hb, Sem.run_pure], srel_v _⟩) hr
theorem keyEnc_flat {K : Type} [DecidableEq K] {kt : TypeId} {q : List VK} (h : FlatT P kt q) (cells : K → List Value) (hinj : ∀ a b, cells a = cells b → a = b) (hk : ∀ k, Kn q (cells k)) : KeyEnc P kt (fun k => .agg (cells k).toArray) := by
  refine keyEnc_of_eq h.str (fun k => ⟨_, rfl⟩) (fun a b w => ?_) (fun e k w => ?_) (fun k => sameBits_flat (hk k).mem)
  · simp only [Op.equal, Op.maxDepth]
    rw [run_flat h (hk a) (hk b) (decide (b = a)) (by rw [decide_eq_true_eq]; exact ⟨fun e => by rw [e], fun e => (hinj _ _ e).symm⟩) w]
  · have := run_checkF e 5 kt q h.eq 10000 (by omega) (cells k) (hk k) w
    simpa only [mkV, h.agg, if_true] using this
end Go.Proofs.Ytljgdbgcleibjaa.A
namespace Go.Proofs.Ytljgdbgcleibjaa.A
open Go Go.RowKit Go.Sort Go.Shelf
set_option linter.unusedVariables false
set_option linter.unusedSimpArgs false
theorem cmpI_neg (x y : Int) : cmpI x y < 0 ↔ x < y := by unfold cmpI; split <;> (try split) <;> omega
theorem cmpI_zero (x y : Int) : cmpI x y = 0 ↔ x = y := by unfold cmpI; split <;> (try split) <;> omega
theorem cmpI_pos (x y : Int) : 0 < cmpI x y ↔ y < x := by unfold cmpI; split <;> (try split) <;> omega
theorem orI_neg (x : Int) (r : List Int) : orI (x :: r) < 0 ↔ x < 0 ∨ (x = 0 ∧ orI r < 0) := by rw [orI]; split <;> omega
theorem orI_pos (x : Int) (r : List Int) : 0 < orI (x :: r) ↔ 0 < x ∨ (x = 0 ∧ 0 < orI r) := by rw [orI]; split <;> omega
theorem orI_zero (x : Int) (r : List Int) : orI (x :: r) = 0 ↔ x = 0 ∧ orI r = 0 := by rw [orI]; split <;> omega
theorem Sp.lt_iff (a b : Sp) : a.lt b ↔ a.br < b.br ∨ (a.br = b.br ∧ (a.vo < b.vo ∨ (a.vo = b.vo ∧ (a.bl < b.bl ∨ (a.bl = b.bl ∧ a.nu < b.nu))))) := by
  unfold Sp.lt Sp.ord
  rw [orI_neg, orI_neg, orI_neg, orI_neg, cmpI_neg, cmpI_neg, cmpI_neg, cmpI_neg, cmpI_zero, cmpI_zero, cmpI_zero]
  simp [orI]
theorem Sp.ord_zero (a b : Sp) : a.ord b = 0 ↔ a = b := by
  have : a = b ↔ a.br = b.br ∧ a.vo = b.vo ∧ a.bl = b.bl ∧ a.nu = b.nu := by
    constructor
    · rintro rfl; simp
    · rintro ⟨h1, h2, h3, h4⟩; cases a; cases b; simp_all
  rw [this]
  unfold Sp.ord
  rw [orI_zero, orI_zero, orI_zero, orI_zero, cmpI_zero, cmpI_zero, cmpI_zero, cmpI_zero]
  simp [orI]
theorem Sp.ord_neg (a b : Sp) : a.ord b < 0 ↔ a.lt b := Iff.rfl
theorem Sp.ord_pos (a b : Sp) : 0 < a.ord b ↔ b.lt a := by
  rw [Sp.lt_iff]
  unfold Sp.ord
  rw [orI_pos, orI_pos, orI_pos, orI_pos, cmpI_pos, cmpI_pos, cmpI_pos, cmpI_pos, cmpI_zero, cmpI_zero, cmpI_zero]
  simp [orI]
  omega
theorem Sp.ext' {a b : Sp} (h1 : a.br = b.br) (h2 : a.vo = b.vo) (h3 : a.bl = b.bl) (h4 : a.nu = b.nu) : a = b := by cases a; cases b; simp_all
theorem Sp.irrefl (a : Sp) : ¬ a.lt a := by rw [Sp.lt_iff]; omega
theorem Sp.trans {a b c : Sp} (h1 : a.lt b) (h2 : b.lt c) : a.lt c := by rw [Sp.lt_iff] at *; omega
theorem Sp.asym {a b : Sp} (h1 : a.lt b) : ¬ b.lt a := by rw [Sp.lt_iff] at *; omega
theorem Sp.tri {a b : Sp} (h1 : ¬ a.lt b) (h2 : ¬ b.lt a) : a = b := by
  rw [Sp.lt_iff] at *
  exact Sp.ext' (by omega) (by omega) (by omega) (by omega)
theorem Sp.ne {a b : Sp} (h : a.lt b) : a ≠ b := fun e => by subst e; exact Sp.irrefl a h
def Sp.vs (s : Sp) : List Value := [.int .i64 s.br, .int .i64 s.vo, .int .i64 s.bl, .int .u64 s.nu]
theorem Sp.vs_inj {a b : Sp} (h : a.vs = b.vs) : a = b := by
  simp [Sp.vs] at h; exact Sp.ext' h.1 h.2.1 h.2.2.1 h.2.2.2
def spK : List VK := [.int .i64, .int .i64, .int .i64, .int .u64]
theorem Sp.kn (s : Sp) : Kn spK s.vs := ⟨⟨_, rfl⟩, ⟨_, rfl⟩, ⟨_, rfl⟩, ⟨_, rfl⟩, trivial⟩
theorem isVal_sp (s : Sp) : IsVal (spA s) (.agg s.vs.toArray) := isVal_agg (areVals_v s.vs)
theorem entOrd_iff (a b : En) : entOrd a b < 0 ↔ a.k.lt b.k ∨ (a.k = b.k ∧ a.c = false ∧ b.c = true) := by
  unfold entOrd
  by_cases h1 : a.k.lt b.k
  · simp [h1]
  · by_cases h2 : b.k.lt a.k
    · have : a.k ≠ b.k := fun e => by rw [e] at h2; exact Sp.irrefl _ h2
      simp [h1, h2, this]
    · have := Sp.tri h1 h2
      simp only [h1, h2, if_false, this, true_and, false_or]
      cases a.c <;> cases b.c <;> simp [Sp.irrefl]
def cfK (x y : Sp × Bool) : Int := entOrd ⟨x.1, 0, x.2⟩ ⟨y.1, 0, y.2⟩
theorem entOrd_cf (a b : En) : entOrd a b = cfK (a.k, a.c) (b.k, b.c) := rfl
theorem cfK_iff (x y : Sp × Bool) : ltOf cfK x y = true ↔ x.1.lt y.1 ∨ (x.1 = y.1 ∧ x.2 = false ∧ y.2 = true) := by
  unfold ltOf cfK; rw [decide_eq_true_eq, entOrd_iff]
theorem cfK_false (x y : Sp × Bool) : ltOf cfK x y = false ↔ ¬ (x.1.lt y.1 ∨ (x.1 = y.1 ∧ x.2 = false ∧ y.2 = true)) := by
  rw [← cfK_iff]; cases ltOf cfK x y <;> simp
theorem cfK_part (x y : Sp × Bool) (h1 : ltOf cfK x y = false) (h2 : ltOf cfK y x = false) : x = y := by
  rw [cfK_false] at h1 h2
  have e : x.1 = y.1 := Sp.tri (fun h => h1 (.inl h)) (fun h => h2 (.inl h))
  obtain ⟨xk, xc⟩ := x
  obtain ⟨yk, yc⟩ := y
  simp only at e h1 h2
  subst e
  have : xc = yc := by cases xc <;> cases yc <;> simp_all
  rw [this]
theorem cfK_swo : Go.Sort.SWO (ltOf cfK) where
  irrefl x := by rw [cfK_false]; rintro (h | ⟨_, h1, h2⟩); exact Sp.irrefl _ h; rw [h1] at h2; cases h2
  trans x y z h1 h2 := by
    rw [cfK_iff] at *
    rcases h1 with h1 | ⟨e1, a1, b1⟩
    · rcases h2 with h2 | ⟨e2, _, _⟩
      · exact .inl (Sp.trans h1 h2)
      · left; rw [← e2]; exact h1
    · rcases h2 with h2 | ⟨e2, a2, b2⟩
      · left; rw [e1]; exact h2
      · rw [b1] at a2; cases a2
  ntrans x y z h1 h2 := by
    cases h : ltOf cfK x z with
    | false => rfl
    | true =>
      exfalso
      rw [cfK_false] at h1 h2
      rw [cfK_iff] at h
      have k1 : ¬ x.1.lt y.1 := fun h => h1 (.inl h)
      have k2 : ¬ y.1.lt z.1 := fun h => h2 (.inl h)
      rcases h with h | ⟨e, a, b⟩
      · by_cases k3 : y.1.lt x.1
        · exact k2 (Sp.trans k3 h)
        · rw [Sp.tri k1 k3] at h; exact k2 h
      · have e1 : x.1 = y.1 := Sp.tri k1 (fun k3 => k2 (e ▸ k3))
        have h1' : ¬ (x.2 = false ∧ y.2 = true) := fun h => h1 (.inr ⟨e1, h⟩)
        have h2' : ¬ (y.2 = false ∧ z.2 = true) := fun h => h2 (.inr ⟨e1 ▸ e, h⟩)
        rw [a] at h1'
        rw [b] at h2'
        cases hy : y.2 <;> rw [hy] at h1' h2' <;> simp at h1' h2'
def En.vs (e : En) : List Value := e.k.vs ++ [.int .u64 e.v, .bool e.c]
def sortE (l : List En) : List En := l.mergeSort (fun x y => !(decide (entOrd y x < 0)))
def SortedE (l : List En) : Prop := l.Pairwise (fun x y => ¬ entOrd y x < 0)
def keyE (e : En) : Sp × Bool := (e.k, e.c)
def valE (l : List En) (p : Sp × Bool) : Int := ((l.find? (fun e => decide (keyE e = p))).map (·.v)).getD 0
def backE (l : List En) (p : Sp × Bool) : En := ⟨p.1, valE l p, p.2⟩
theorem backE_key {l : List En} (hn : (l.map keyE).Nodup) {e : En} (he : e ∈ l) : backE l (keyE e) = e := by
  have : l.find? (fun x => decide (keyE x = keyE e)) = some e := by
    induction l with
    | nil => cases he
    | cons x l ih =>
      simp only [List.map_cons, List.nodup_cons] at hn
      rcases List.mem_cons.1 he with rfl | he
      · simp
      · have hne : keyE x ≠ keyE e := fun h => hn.1 (h ▸ List.mem_map.2 ⟨e, he, rfl⟩)
        rw [List.find?_cons_of_neg (by simpa using hne)]
        exact ih hn.2 he
  unfold backE valE
  rw [this]
  rfl
theorem backE_map {l : List En} (hn : (l.map keyE).Nodup) : (l.map keyE).map (backE l) = l := by
  rw [List.map_map]
  conv => rhs; rw [← List.map_id l]
  exact List.map_congr_left (fun e he => backE_key hn he)
theorem sortE_spec {l : List En} : (sortE l).Perm l ∧ SortedE (sortE l) := by
  refine ⟨List.mergeSort_perm _ _, ?_⟩
  have := List.pairwise_mergeSort (le := fun x y => !(decide (entOrd y x < 0))) (fun a b c h1 h2 => by
    simp only [Bool.not_eq_true', decide_eq_false_iff_not, entOrd_cf] at *
    have n1 : ltOf cfK (c.k, c.c) (b.k, b.c) = false := h2
    have n2 : ltOf cfK (b.k, b.c) (a.k, a.c) = false := h1
    exact cfK_swo.ntrans _ _ _ n1 n2) (fun a b => by
    simp only [Bool.or_eq_true, Bool.not_eq_true', decide_eq_false_iff_not, entOrd_cf]
    by_cases h : cfK (b.k, b.c) (a.k, a.c) < 0
    · right
      refine decide_eq_false (fun h' => ?_)
      have h1 : ltOf cfK (b.k, b.c) (a.k, a.c) = true := by unfold ltOf; exact decide_eq_true h
      have h2 : ltOf cfK (a.k, a.c) (b.k, b.c) = true := by unfold ltOf; exact decide_eq_true h'
      have := cfK_swo.trans _ _ _ h1 h2
      rw [cfK_swo.irrefl] at this; cases this
    · exact .inl (decide_eq_false h)) l
  exact this.imp (fun h => by simpa using h)
theorem key_inj {l : List En} (hn : (l.map keyE).Nodup) {x y : En} (hx : x ∈ l) (hy : y ∈ l) (h : keyE x = keyE y) : x = y := by
  rw [← backE_key hn hx, ← backE_key hn hy, h]
theorem sorted_uniq {l m : List En} (hn : (l.map keyE).Nodup) (hp : m.Perm l) (hs : SortedE m) : m = sortE l := by
  obtain ⟨h1, h2⟩ := sortE_spec (l := l)
  refine List.Perm.eq_of_pairwise (le := fun x y => ¬ entOrd y x < 0) (fun a b ha hb h3 h4 => ?_) hs h2 (hp.trans h1.symm)
  refine key_inj hn (hp.mem_iff.1 ha) (h1.mem_iff.1 hb) ?_
  exact cfK_part _ _ (by unfold ltOf; exact decide_eq_false h4) (by unfold ltOf; exact decide_eq_false h3)
theorem sortE_perm {l m : List En} (hn : (l.map keyE).Nodup) (hp : m.Perm l) : sortE m = sortE l :=
  sorted_uniq hn ((sortE_spec (l := m)).1.trans hp) (sortE_spec (l := m)).2
theorem sort_back {l : List En} (hn : (l.map keyE).Nodup) : (((l.map keyE).mergeSort fun x y => !(ltOf cfK) y x).map (backE l)) = sortE l := by
  have hpm : ((l.map keyE).mergeSort fun x y => !(ltOf cfK) y x).Perm (l.map keyE) := List.mergeSort_perm _ _
  refine sorted_uniq hn ?_ ?_
  · have := hpm.map (backE l)
    rwa [backE_map hn] at this
  · have := List.pairwise_mergeSort (le := fun x y => !(ltOf cfK) y x) (fun a b c h1 h2 => by
      simp only [Bool.not_eq_true'] at *
      exact cfK_swo.ntrans _ _ _ h2 h1) (fun a b => by
      simp only [Bool.or_eq_true, Bool.not_eq_true']
      cases h : ltOf cfK b a with
      | false => exact .inl rfl
      | true =>
        right
        cases h' : ltOf cfK a b with
        | false => rfl
        | true => have := cfK_swo.trans _ _ _ h h'; rw [cfK_swo.irrefl] at this; cases this) (l.map keyE)
    refine List.pairwise_map.2 (this.imp (fun h => ?_))
    rename_i x y
    show ¬ entOrd (backE l y) (backE l x) < 0
    rw [entOrd_cf]
    simp only [Bool.not_eq_true'] at h
    unfold ltOf at h
    exact of_decide_eq_false h
theorem back_cells {l : List En} (hk : (l.map keyE).Nodup) : (l.map keyE).map (fun p => (backE l p).cs) = l.map En.cs := by
  have := congrArg (List.map En.cs) (backE_map hk)
  rw [List.map_map] at this
  exact this
theorem sort_cells {l : List En} (hk : (l.map keyE).Nodup) : ((l.map keyE).mergeSort fun x y => !(ltOf cfK) y x).map (fun p => (backE l p).cs) = (sortE l).map En.cs := by
  have := congrArg (List.map En.cs) (sort_back hk)
  rw [List.map_map] at this
  exact this
theorem sortE_nil : sortE [] = [] := by unfold sortE; simp
theorem encT_one : ∀ (t : TreeV), [encT t].all AV.one = true
  | none => rfl
  | some (_, _) => rfl
theorem encT_cells : ∀ (t : TreeV), (encT t).cells = [encT t]
  | none => rfl
  | some (_, _) => rfl
def tell : List En → List (Sp × Bool)
  | [] => []
  | [e] => [(e.k, e.c)]
  | e :: e' :: r => if e.k = e'.k ∧ e.v = e'.v then tell r else (e.k, e.c) :: tell (e' :: r)
def ownTwo (a b : TreeV) : List En := ownL a (idl b) false (idl a) ++ ownL b (idl a) true (idl b)
def chg (a b : TreeV) : List (Sp × Bool) := tell (sortE (ownTwo a b))
def chA (c : Sp × Bool) : List AV := [spA c.1, boolA c.2]
theorem tell_step {S : List En} {i : Nat} {e e' : En} (h1 : S[i]? = some e) (h2 : S[i + 1]? = some e') (hs : e.k = e'.k ∧ e.v = e'.v) : tell (S.drop i) = tell (S.drop (i + 2)) := by
  have hl := (List.getElem?_eq_some_iff.1 h2).1
  rw [List.drop_eq_getElem_cons (by omega), List.drop_eq_getElem_cons (l := S) (i := i + 1) hl]
  rw [(List.getElem?_eq_some_iff.1 h1).2, (List.getElem?_eq_some_iff.1 h2).2]
  rw [tell, if_pos hs]
theorem tell_one {S : List En} {i : Nat} {e : En} (h1 : S[i]? = some e) (h : ∀ e', S[i + 1]? = some e' → ¬ (e.k = e'.k ∧ e.v = e'.v)) : tell (S.drop i) = (e.k, e.c) :: tell (S.drop (i + 1)) := by
  have hl := (List.getElem?_eq_some_iff.1 h1).1
  rw [List.drop_eq_getElem_cons hl, (List.getElem?_eq_some_iff.1 h1).2]
  cases hd : S.drop (i + 1) with
  | nil => rfl
  | cons e' r =>
    have h2 : S[i + 1]? = some e' := by
      have := congrArg (fun l => l[0]?) hd
      simpa using this
    conv => lhs; unfold tell
    rw [if_neg (h e' h2)]
def betA (l : List (Sp × Bool)) (pre : List (List AV)) (x : List AV) : Prop := ∃ c, l[pre.length]? = some c ∧ pre = (l.take pre.length).map chA ∧ x = chA c
theorem drop_cons {α : Type} {l : List α} {n : Nat} {x : α} {r : List α} (h : l.drop n = x :: r) : l[n]? = some x ∧ l.drop (n + 1) = r := by
  constructor
  · have := congrArg (fun m => m[0]?) h
    simpa using this
  · rw [← List.drop_drop, h]; rfl
theorem betA_next {l : List (Sp × Bool)} {pr : List (List AV)} {c : Sp × Bool} {S : List (Sp × Bool)} (h1 : pr = (l.take pr.length).map chA) (h2 : l[pr.length]? = some c) (h3 : l.drop (pr.length + 1) = S) : (pr ++ [chA c]) = (l.take (pr ++ [chA c]).length).map chA ∧ S = l.drop (pr ++ [chA c]).length := by
  have e : (pr ++ [chA c]).length = pr.length + 1 := by simp
  rw [e]
  refine ⟨?_, h3.symm⟩
  rw [List.take_add_one, h2, List.map_append, ← h1]
  rfl
theorem betA_end {l : List (Sp × Bool)} {pr : List (List AV)} (h1 : pr = (l.take pr.length).map chA) (h2 : l.drop pr.length = []) : pr = l.map chA := by
  have : l.length ≤ pr.length := by
    have := congrArg List.length h2
    simp at this; omega
  rw [List.take_of_length_le this] at h1
  exact h1
theorem ownL_perm (t : TreeV) {oks oks' ps ps' : List Nat} (came : Bool) (hp : ps.Perm ps') (ho : ∀ p, p ∈ oks ↔ p ∈ oks') : (ownL t oks came ps).Perm (ownL t oks' came ps') := by
  have e : ∀ p, ownAt t oks came p = ownAt t oks' came p := fun p => by
    unfold ownAt
    split
    · simp [ho]
    · rfl
  unfold ownL
  rw [show ownAt t oks came = ownAt t oks' came from funext e]
  exact hp.flatMap_right _
end Go.Proofs.Ytljgdbgcleibjaa.A
namespace Go.Proofs.Ytljgdbgcleibjaa.A
open Go Go.RowKit
set_option linter.unusedVariables false
set_option linter.unusedSimpArgs false
set_option linter.unusedSectionVars false
variable {P : Program} {w0 : Base} {C0 C : CS} {T : TS} {S S' : AState} {a : Act} {w : World} {ops : Array Oper} {rest : List Oper} {o : Oper} {Q : Exit → AState → Prop}
variable {t : Nat} {ty ty' : TypeId} {pos : String} {aft : Array Edge}
theorem r_appendBNs {x y : Operand} {st e sz bytes : Nat} {m : List (List AV)} (hx : S.ev x = some (.a (.v (.slice none 0 0)))) (hsrc : ∀ C T a w, SimC w0 C0 C T S a w → ∃ by_ oy capy ws, a.eval y = .slice (some ⟨by_, oy, none⟩) m.length capy ∧ Rels C m.flatten ws ∧ ws.length = m.length * sz ∧ (∀ (j : Nat) (v : Value), ws[j]? = some v → w.cell? ⟨by_, oy + j, none⟩ = some v) ∧ (∀ cs, cs ∈ m → cs.length = sz) ∧ ∀ v ∈ ws, v.oneCell' = true) (hm0 : m ≠ [])
    (hst : sliceT P st = some e) (hsz : szT P e = some sz) (hby : bytesT P e = some bytes) (hz : (zeroT P e).map (·.length) = some sz)
    (hb : m.length * bytes ≤ 140737488355328) (h63 : m.length ≤ 9223372036854775807) (ht : Nat.blt t S.nt = true)
    (hr : ∀ g cap, AWL P w0 C0 ops rest Q (AState.put ⟨S.nt, S.slots, ⟨g, true, .buf sz m cap e⟩ :: S.objs⟩ t (.a (.v (.slice (some ⟨g, 0, none⟩) m.length cap))))) :
    AWL P w0 C0 ops (⟨some t, .call ⟨.builtin .append, #[x, y], #[st, st]⟩, ty, pos, aft, none⟩ :: rest) Q S := by
  rintro a w ⟨C, T, hs⟩
  obtain ⟨by_, oy, capy, ws, hvy, w1, w2, w3, hz0, hone⟩ := hsrc C T a w hs
  obtain ⟨i, hi, hi1, hi2, z, hiz, hzl⟩ := append_facts hsz hby hz
  have hm1 : 0 < m.length := List.length_pos_iff.2 hm0
  have hws : ∀ (j : Nat) (v : Value), ws[j]? = some v → w.cell? ((⟨by_, oy, none⟩ : Addr).add j) = some v := fun j v hj => by rw [addr_add]; exact w3 j v hj
  have hrun := run_append_nil (P := P) w st ty e i z (sliceT_un hst) hi hiz ⟨by_, oy, none⟩ m.length capy ws (by rw [w2, hi1]) hws hm1 (by omega) (by rw [hi2]; omega)
  have hge := grownCap_ge w m.length 0 e
  have hexec : ∀ (v : Value) (w' : World), (Builtin.append_ #[st, st] ty #[a.eval x, a.eval y]).run P w = .ok v w' → (execOp a.eval ⟨some t, .call ⟨.builtin .append, #[x, y], #[st, st]⟩, ty, pos, aft, none⟩).run P w = .ok (.value v) w' := by
    intro v w' h
    simp [execOp, resolve, invoke, builtin, h]
  rw [hs.evv hx, hvy] at hexec
  refine wpList_plain rfl (fun K hK => ?_)
  unfold Oper.wp
  rw [hexec _ _ hrun]
  refine hK _ _ (hr w.heap.size (grownCap w m.length 0 e) _ _ ⟨C, T, SimC.put (hs.drew.newObj (o := .buf sz m (grownCap w m.length 0 e) e) _ ⟨_, heap_alloc_at _ _, ?_, hge, hz0, ws, w1, hone, ?_⟩) ht (srel_v _)⟩)
  · simp only [Array.size_append, List.size_toArray, size_zeroCells, hzl, w2, ← Nat.add_mul]; congr 1; omega
  · rw [Array.toList_append]; exact take_append_exact _ _ _ w2
theorem r_appendBGs (i : Nat) {x y : Operand} {st e sz bytes g cap : Nat} {l m : List (List AV)} {n : Nat} (hx : S.ev x = some (.a (.v (.slice (some ⟨g, 0, none⟩) n cap)))) (hn : n = l.length) (hi : S.objs[i]? = some ⟨g, true, .buf sz l cap e⟩) (hsrc : ∀ C T a w, SimC w0 C0 C T S a w → ∃ by_ oy capy ws, a.eval y = .slice (some ⟨by_, oy, none⟩) m.length capy ∧ Rels C m.flatten ws ∧ ws.length = m.length * sz ∧ (∀ (j : Nat) (v : Value), ws[j]? = some v → w.cell? ⟨by_, oy + j, none⟩ = some v) ∧ (∀ cs, cs ∈ m → cs.length = sz) ∧ ∀ v ∈ ws, v.oneCell' = true) (hm0 : m ≠ [])
    (hst : sliceT P st = some e) (hsz : szT P e = some sz) (hby : bytesT P e = some bytes) (hz : (zeroT P e).map (·.length) = some sz)
    (hb : (l.length + m.length) * bytes ≤ 140737488355328) (h63 : l.length + m.length ≤ 9223372036854775807) (ht : Nat.blt t S.nt = true)
    (hr : ∀ g' cap', AWL P w0 C0 ops rest Q (AState.put ⟨S.nt, S.slots, ⟨g', true, .buf sz (l ++ m) cap' e⟩ :: S.objs.eraseIdx i⟩ t (.a (.v (.slice (some ⟨g', 0, none⟩) (l ++ m).length cap'))))) :
    AWL P w0 C0 ops (⟨some t, .call ⟨.builtin .append, #[x, y], #[st, st]⟩, ty, pos, aft, none⟩ :: rest) Q S := by
  rintro a w ⟨C, T, hs⟩
  subst hn
  obtain ⟨by_, oy, capy, ws, hvy, w1, w2, w3, hz0, hone⟩ := hsrc C T a w hs
  obtain ⟨i0, hi0, hi1, hi2, z, hiz, hzl⟩ := append_facts hsz hby hz
  have hm1 : 0 < m.length := List.length_pos_iff.2 hm0
  have hws : ∀ (j : Nat) (v : Value), ws[j]? = some v → w.cell? ((⟨by_, oy, none⟩ : Addr).add j) = some v := fun j v hj => by rw [addr_add]; exact w3 j v hj
  obtain ⟨hob, hnone, hrw⟩ := hs.objs _ (mem_of_get hi)
  obtain ⟨arr, a1, a2, a3, a4, vs, a5, a6, a7⟩ := hob
  have hvl : vs.length = l.length * sz := by rw [a5.1, flat_len a4]
  have hvs : ∀ (j : Nat) (v : Value), vs[j]? = some v → w.cell? ((⟨g, 0, none⟩ : Addr).add j) = some v := fun j v hj => by
    rw [addr_add, Nat.zero_add, cell_of_row w g j arr e (0, 0) a1]
    have hlt := (List.getElem?_eq_some_iff.1 hj).1
    rw [← a7, List.getElem?_take, if_pos (by omega)] at hj
    simpa using hj
  have hexec : ∀ (v : Value) (w' : World), (Builtin.append_ #[st, st] ty #[a.eval x, a.eval y]).run P w = .ok v w' → (execOp a.eval ⟨some t, .call ⟨.builtin .append, #[x, y], #[st, st]⟩, ty, pos, aft, none⟩).run P w = .ok (.value v) w' := by
    intro v w' h
    simp [execOp, resolve, invoke, builtin, h]
  rw [hs.evv hx, hvy] at hexec
  have hz4 : ∀ cs, cs ∈ l ++ m → cs.length = sz := fun cs h => by rcases List.mem_append.1 h with h | h; exact a4 cs h; exact hz0 cs h
  have hfl : Rels C (l ++ m).flatten (vs ++ ws) := by rw [List.flatten_append]; exact a5.append w1
  have hone2 : ∀ v ∈ vs ++ ws, v.oneCell' = true := fun v hv => by
    rcases List.mem_append.1 hv with hv | hv
    · exact a6 v hv
    · exact hone v hv
  have hlen : (vs ++ ws).length = (l ++ m).length * sz := by rw [List.length_append, hvl, w2, List.length_append, Nat.add_mul]
  refine wpList_plain rfl (fun K hK => ?_)
  unfold Oper.wp
  by_cases hroom : l.length + m.length ≤ cap
  · have hfit : (l.length + m.length) * sz ≤ cap * sz := Nat.mul_le_mul_right _ hroom
    rw [Nat.add_mul] at hfit
    have hrun := run_append_room' (P := P) (w := w) (ty := ty) hst hsz e g l.length cap arr a1 ⟨by_, oy, none⟩ m.length capy ws w2 hws hone hroom (by rw [a2, w2]; exact hfit)
    rw [hexec _ _ hrun]
    have hnew := setRow_heap w g arr (arr.toList.take (l.length * sz) ++ ws ++ arr.toList.drop (l.length * sz + ws.length)).toArray e _ a1
    have hs1 := hs.setObj (ob' := .buf sz (l ++ m) cap e) hi (w' := w.setRow g (arr.toList.take (l.length * sz) ++ ws ++ arr.toList.drop (l.length * sz + ws.length)).toArray) (Nat.le_refl _) rfl rfl rfl (by simp) (fun k hk => setRow_other w g k _ hk)
      ⟨_, hnew, by simp only [List.size_toArray, List.length_append, List.length_drop, Array.length_toList, a7, hvl]; omega, by simpa using hroom, hz4, vs ++ ws, hfl, hone2, by
        rw [a7]
        simp only
        rw [take_append_exact _ _ _ hlen]⟩
    have hs2 := hs1.perm (set_take hi)
    rw [show l.length + m.length = (l ++ m).length from by simp]
    exact hK _ _ (hr g cap _ _ ⟨C, T, hs2.put ht (srel_v _)⟩)
  · have hrun := run_append_grow (P := P) w st ty e i0 z (sliceT_un hst) hi0 hiz ⟨g, 0, none⟩ l.length cap vs (by rw [hvl, hi1]) hvs ⟨by_, oy, none⟩ m.length capy ws (by rw [w2, hi1]) hws (by omega) (by omega) (by rw [hi2]; exact growslice_fits (by omega) hb)
    have hge := grownCap_ge w (l.length + m.length) cap e
    rw [hexec _ _ hrun]
    have hs1 := (hs.drew.newObj (o := .buf sz (l ++ m) (grownCap w (l.length + m.length) cap e) e) (.cells (vs.toArray ++ ws.toArray ++ Builtin.zeroCells z.cells (grownCap w (l.length + m.length) cap e - (l.length + m.length))) e)
      ⟨_, heap_alloc_at _ _, by simp only [Array.size_append, List.size_toArray, size_zeroCells, hzl, hvl, w2, ← Nat.add_mul]; congr 1; omega, by simpa using hge, hz4, vs ++ ws, hfl, hone2, by
        have e1 : (vs.toArray ++ ws.toArray ++ Builtin.zeroCells z.cells (grownCap w (l.length + m.length) cap e - (l.length + m.length))).toList = (vs ++ ws) ++ (Builtin.zeroCells z.cells (grownCap w (l.length + m.length) cap e - (l.length + m.length))).toList := by simp
        rw [e1]
        exact take_append_exact _ _ _ hlen⟩).sub (objs := ⟨w.heap.size, true, .buf sz (l ++ m) (grownCap w (l.length + m.length) cap e) e⟩ :: S.objs.eraseIdx i) ((List.eraseIdx_sublist _ _).cons_cons _)
    rw [show l.length + m.length = (l ++ m).length from by simp] at hs1 ⊢
    exact hK _ _ (hr w.heap.size _ _ _ ⟨C, T, hs1.put ht (srel_v _)⟩)
theorem src_buf (j : Nat) {y : Operand} {g n cap sz e : Nat} {m : List (List AV)} (hy : S.ev y = some (.a (.v (.slice (some ⟨g, 0, none⟩) n cap)))) (hn : n = m.length) (hj : S.objs[j]? = some ⟨g, true, .buf sz m cap e⟩) :
    ∀ C T a w, SimC w0 C0 C T S a w → ∃ by_ oy capy ws, a.eval y = .slice (some ⟨by_, oy, none⟩) m.length capy ∧ Rels C m.flatten ws ∧ ws.length = m.length * sz ∧ (∀ (j : Nat) (v : Value), ws[j]? = some v → w.cell? ⟨by_, oy + j, none⟩ = some v) ∧ (∀ cs, cs ∈ m → cs.length = sz) ∧ ∀ v ∈ ws, v.oneCell' = true := by
  intro C T a w hs
  subst hn
  obtain ⟨hob, hnone, hrw⟩ := hs.objs _ (mem_of_get hj)
  obtain ⟨arr, a1, a2, a3, a4, vs, a5, a6, a7⟩ := hob
  have hvl : vs.length = m.length * sz := by rw [a5.1, flat_len a4]
  refine ⟨g, 0, cap, vs, hs.evv hy, a5, hvl, fun j v hj => ?_, a4, a6⟩
  rw [Nat.zero_add, cell_of_row w g j arr e (0, 0) a1]
  have hlt := (List.getElem?_eq_some_iff.1 hj).1
  rw [← a7, List.getElem?_take, if_pos (by omega)] at hj
  simpa using hj
theorem r_appendNil {x y : Operand} {A : Option Addr} {n cap : Nat} {st e sz : Nat} (hx : S.ev x = some (.a (.v (.slice A n cap)))) (hle : ∀ C T a w, SimC w0 C0 C T S a w → n ≤ cap) (hy : S.ev y = some (.a (.v (.slice none 0 0)))) (hst : sliceT P st = some e) (hsz : szT P e = some sz) (ht : Nat.blt t S.nt = true)
    (hr : AWL P w0 C0 ops rest Q (S.put t (.a (.v (.slice A n cap))))) : AWL P w0 C0 ops (⟨some t, .call ⟨.builtin .append, #[x, y], #[st, st]⟩, ty, pos, aft, none⟩ :: rest) Q S :=
  awl_pure ht (fun C T a w hs => by
    refine ⟨.slice A n cap, ?_, srel_v _⟩
    have hrun := run_append_zero (P := P) (w := w) (ty := ty) hst hsz A none n cap 0 (hle C T a w hs)
    simp [execOp, resolve, invoke, builtin, hs.evv hx, hs.evv hy, hrun]) hr
theorem r_appendRows {x y : Operand} {rx ry : AV} {osx osy r' : List OE} {la lb : List En} {st bytes : Nat} (hx : S.ev x = some (.a rx)) (hy : S.ev y = some (.a ry)) (hX : RowE rx osx la) (hY : RowE ry osy lb) (hobjs : (osx ++ (osy ++ r')).Perm S.objs) (hst : sliceT P st = some 89) (hsz : szT P 89 = some 6) (hby : bytesT P 89 = some bytes) (hz : (zeroT P 89).map (·.length) = some 6)
    (hb : (la.length + lb.length) * bytes ≤ 140737488355328) (h63 : la.length + lb.length ≤ 9223372036854775807) (ht : Nat.blt t S.nt = true)
    (hr : ∀ r os, RowE r os (la ++ lb) → AWL P w0 C0 ops rest Q (AState.put ⟨S.nt, S.slots, os ++ r'⟩ t (.a r))) :
    AWL P w0 C0 ops (⟨some t, .call ⟨.builtin .append, #[x, y], #[st, st]⟩, ty, pos, aft, none⟩ :: rest) Q S := by
  refine awl_imp (imp_perm hobjs) ?_
  have ex : ∀ (ob : List OE), AState.ev ⟨S.nt, S.slots, ob⟩ x = S.ev x := fun _ => by cases x <;> rfl
  have ey : ∀ (ob : List OE), AState.ev ⟨S.nt, S.slots, ob⟩ y = S.ev y := fun _ => by cases y <;> rfl
  rcases hX with ⟨rfl, rfl, rfl⟩ | ⟨g, cap, n, L, hla, rfl, hnL, rfl, hL⟩
  · rcases hY with ⟨rfl, rfl, rfl⟩ | ⟨g', cap', n', L', hlb, rfl, hnL', rfl, hL'⟩
    · exact r_appendNil ((ex _).trans hx) (fun _ _ _ _ _ => Nat.le_refl 0) ((ey _).trans hy) hst hsz ht (hr _ [] (.inl ⟨rfl, rfl, rfl⟩))
    · have hl : L'.length = lb.length := by rw [hL', List.length_map]
      refine r_appendBNs (m := L') ((ex _).trans hx) (src_buf 0 ((ey _).trans hy) hnL' rfl) (by intro e; rw [e] at hL'; exact hlb (List.map_eq_nil_iff.1 hL'.symm)) hst hsz hby hz (by rw [hl]; simpa using hb) (by rw [hl]; simpa using h63) ht (fun gb gc => ?_)
      refine awl_imp (imp_sub (objs := [⟨gb, true, .buf 6 L' gc 89⟩] ++ r') (.cons_cons _ (.cons _ (.refl _)))) ?_
      exact hr _ _ (.inr ⟨gb, gc, _, L', by simpa using hlb, rfl, rfl, rfl, by simpa using hL'⟩)
  · have hl0 : L.length = la.length := by rw [hL, List.length_map]
    rcases hY with ⟨rfl, rfl, rfl⟩ | ⟨g', cap', n', L', hlb, rfl, hnL', rfl, hL'⟩
    · refine r_appendNil ((ex _).trans hx) (fun C T a w hs => ?_) ((ey _).trans hy) hst hsz ht (hr _ _ (.inr ⟨g, cap, n, L, by simpa using hla, rfl, hnL, rfl, by simpa using hL⟩))
      obtain ⟨arr, _, _, h3, _⟩ := (hs.objs ⟨g, true, .buf 6 L cap 89⟩ List.mem_cons_self).1
      rw [hnL]; exact h3
    · have hl : L'.length = lb.length := by rw [hL', List.length_map]
      refine r_appendBGs 0 (l := L) (m := L') ((ex _).trans hx) hnL rfl (src_buf 1 ((ey _).trans hy) hnL' rfl) (by intro e; rw [e] at hL'; exact hlb (List.map_eq_nil_iff.1 hL'.symm)) hst hsz hby hz (by rw [hl, hl0]; exact hb) (by rw [hl, hl0]; exact h63) ht (fun gb gc => ?_)
      refine awl_imp (imp_sub (objs := [⟨gb, true, .buf 6 (L ++ L') gc 89⟩] ++ r') (.cons_cons _ (.cons _ (.refl _)))) ?_
      exact hr _ _ (.inr ⟨gb, gc, _, L ++ L', by simp [hla], rfl, rfl, rfl, by rw [hL, hL', List.map_append]⟩)
end Go.Proofs.Ytljgdbgcleibjaa.A
namespace Go.Proofs
open Go.Shelf
def Try.sortK39_ren : Go.Shelf.Ren := ⟨fun | 6 => 39 | 15 => 52 | 14 => 51 | 28 => 75 | 29 => 76 | 20 => 67 | 21 => 68 | 22 => 69 | 23 => 70 | 24 => 71 | 25 => 72 | 26 => 73 | 27 => 74 | 46 => 95 | 47 => 96 | 48 => 97 | 49 => 98 | 50 => 99 | 57 => 106 | n => n, fun | 22 => 85 | 24 => 89 | 25 => 90 | 3 => 3 | 39 => 110 | 0 => 0 | 53 => 135 | 55 => 45 | 4 => 4 | 46 => 129 | 45 => 128 | 50 => 95 | 5 => 5 | 9 => 9 | 66 => 154 | 70 => 158 | 76 => 165 | 77 => 166 | n => n, fun | n => n⟩
theorem Try.sortK39 : Go.Proofs.SlLaysF0.n6 Try.prog Try.sortK39_ren := {
  mixed := by kernel_rfl
  f6 := ⟨Try.f39.name, by decide, Try.func39.trans (congrArg some (by kernel_rfl))⟩
  f14 := ⟨Try.f51.name, by decide, Try.func51.trans (congrArg some (by kernel_rfl))⟩
  f15 := Try.func52.trans (congrArg some (by kernel_rfl))
  f20 := ⟨Try.f67.name, by decide, Try.func67.trans (congrArg some (by kernel_rfl))⟩
  f21 := ⟨Try.f68.name, by decide, Try.func68.trans (congrArg some (by kernel_rfl))⟩
  f22 := ⟨Try.f69.name, by decide, Try.func69.trans (congrArg some (by kernel_rfl))⟩
  f23 := ⟨Try.f70.name, by decide, Try.func70.trans (congrArg some (by kernel_rfl))⟩
  f24 := ⟨Try.f71.name, by decide, Try.func71.trans (congrArg some (by kernel_rfl))⟩
  f25 := ⟨Try.f72.name, by decide, Try.func72.trans (congrArg some (by kernel_rfl))⟩
  f26 := ⟨Try.f73.name, by decide, Try.func73.trans (congrArg some (by kernel_rfl))⟩
  f27 := ⟨Try.f74.name, by decide, Try.func74.trans (congrArg some (by kernel_rfl))⟩
  f28 := Try.func75.trans (congrArg some (by kernel_rfl))
  f29 := Try.func76.trans (congrArg some (by kernel_rfl))
  f46 := ⟨Try.f95.name, by decide, Try.func95.trans (congrArg some (by kernel_rfl))⟩
  f47 := Try.func96.trans (congrArg some (by kernel_rfl))
  f48 := Try.func97.trans (congrArg some (by kernel_rfl))
  f49 := ⟨Try.f98.name, by decide, Try.func98.trans (congrArg some (by kernel_rfl))⟩
  f50 := ⟨Try.f99.name, by decide, Try.func99.trans (congrArg some (by kernel_rfl))⟩
  f57 := ⟨Try.f106.name, by decide, Try.func106.trans (congrArg some (by kernel_rfl))⟩
  t0 := Try.underlying0
  a0 := Try.isAgg0
  z0 := Try.sizeOf0
  v0 := Try.zeroValue0
  t3 := Try.underlying3
  a3 := Try.isAgg3
  z3 := Try.sizeOf3
  v3 := Try.zeroValue3
  t4 := Try.underlying4
  a4 := Try.isAgg4
  z4 := Try.sizeOf4
  v4 := Try.zeroValue4
  t5 := Try.underlying5
  a5 := Try.isAgg5
  z5 := Try.sizeOf5
  v5 := Try.zeroValue5
  t9 := Try.underlying9
  a9 := Try.isAgg9
  z9 := Try.sizeOf9
  v9 := Try.zeroValue9
  t22 := Try.underlying85
  a22 := Try.isAgg85
  z22 := Try.sizeOf85
  v22 := Try.zeroValue85
  t25 := Try.underlying90
  a25 := Try.isAgg90
  z25 := Try.sizeOf90
  v25 := Try.zeroValue90
  t39 := Try.underlying110
  a39 := Try.isAgg110
  z39 := Try.sizeOf110
  v39 := Try.zeroValue110
  t45 := Try.underlying128
  a45 := Try.isAgg128
  z45 := Try.sizeOf128
  v45 := Try.zeroValue128
  t46 := Try.underlying129
  a46 := Try.isAgg129
  z46 := Try.sizeOf129
  v46 := Try.zeroValue129
  t50 := Try.underlying95
  a50 := Try.isAgg95
  z50 := Try.sizeOf95
  v50 := Try.zeroValue95
  t53 := Try.underlying135
  a53 := Try.isAgg135
  z53 := Try.sizeOf135
  v53 := Try.zeroValue135
  t55 := Try.underlying45
  a55 := Try.isAgg45
  z55 := Try.sizeOf45
  v55 := Try.zeroValue45
  t66 := Try.underlying154
  a66 := Try.isAgg154
  z66 := Try.sizeOf154
  v66 := Try.zeroValue154
  t70 := Try.underlying158
  a70 := Try.isAgg158
  z70 := Try.sizeOf158
  v70 := Try.zeroValue158
  t76 := Try.underlying165
  a76 := Try.isAgg165
  z76 := Try.sizeOf165
  v76 := Try.zeroValue165
  t77 := Try.underlying166
  a77 := Try.isAgg166
  z77 := Try.sizeOf166
  v77 := Try.zeroValue166 }
end Go.Proofs
namespace Go.Proofs.Ytljgdbgcleibjaa.A
open Go Go.RowKit Go.Maps Go.Sort Go.Shelf
theorem sortFunc39 : SortFuncK Try.prog 39 6 := fun α _ enc hk h1 cf hO g cb blk off cap d w eg hcmp hH hblk hsz hT =>
  AnyQ.slices_SortFunc_total Try.sortK39 6 (run_isAgg (by kernel_rfl)) (fun w => run_sz (by kernel_rfl) w) enc hk h1 cf hO g cb blk off cap d w eg hcmp hH hblk hsz hT
theorem sortFunc0_39 : SortFunc0 Try.prog 39 := fun p cap fv w => AnyF.slices_SortFunc_none { Try.sortK39 with } p cap fv w
end Go.Proofs.Ytljgdbgcleibjaa.A
namespace Go.Proofs.Ytljgdbgcleibjaa.A
open Go Go.RowKit
set_option linter.unusedVariables false
set_option linter.unusedSimpArgs false
set_option maxRecDepth 100000
theorem TF.en38 : entersT Try.prog 38 := enters_of Try.func38 (by kernel_rfl) (by kernel_rfl)
theorem TF.agg24 : aggT Try.prog 24 = some false := by kernel_rfl
theorem TF.en39 : entersT Try.prog 39 := enters_of Try.func39 (by kernel_rfl) (by kernel_rfl)
theorem TF.f89_1 : fieldT Try.prog 89 1 = some (4, 45) := by kernel_rfl
theorem sortNilE : AC Try.prog 39 [.v (.slice none 0 0), .fn 40 []] [] (fun r n => n = [] ∧ r = .tup []) := by
  intro C w vals hcom hrels hobjs
  obtain ⟨v0, vs0, hvv, hr0, hr1⟩ := hrels.cons_inv
  obtain ⟨v1, vs1, rfl, hr2, hr3⟩ := hr1.cons_inv
  obtain rfl := hr3.nil_inv
  cases hr0
  obtain rfl : vals = #[.slice none 0 0, v1] := by apply Array.ext'; simpa using hvv
  refine (sortFunc0_39 none 0 v1 w).mono ?_
  rintro e w' ⟨rfl, rfl⟩
  exact ⟨_, C, _, [], rfl, ⟨rfl, rfl⟩, Below.refl _ _, fun _ _ _ => rfl, hcom, rel_tup.2 Rels.nil, ⟨by simp, by simp⟩, by simp⟩
theorem en_one (e : En) : ∀ v ∈ e.vs, v.oneCell' = true := by
  intro v hv; simp [En.vs, Sp.vs] at hv; rcases hv with rfl | rfl | rfl | rfl | rfl | rfl <;> rfl
theorem aw_sortE {g cap cap' n : Nat} {fl : Bool} {l : List En} (hn : n = (l.map En.cs).length) (hl : l.length ≤ 1000000) (hk : (l.map keyE).Nodup) :
    AW Try.prog 39 [.v (.slice (some ⟨g, 0, none⟩) n cap'), .fn 40 []] [] [⟨g, fl, .buf 6 (l.map En.cs) cap 89⟩] (fun r nobjs => r = .tup [] ∧ nobjs = [⟨g, true, .buf 6 ((sortE l).map En.cs) cap 89⟩]) := by
  rw [← back_cells hk, ← sort_cells hk]
  exact aw_sortFunc (encA := fun p => (backE l p).cs) (enc := fun p => (backE l p).vs) cfK sortFunc39 sortFunc0_39 (enters_of Try.func40 (by kernel_rfl) (by kernel_rfl)) (fun p => areVals_v (backE l p).vs) (fun _ => rfl) (fun p => en_one _) cfK_swo cfK_part (fun x y => compare_ok_q (backE l x) (backE l y)) (by rw [hn, List.length_map, List.length_map]) (by rw [List.length_map]; omega)
theorem perm_rows {α : Type} (A B R : List α) (x y : α) : (A ++ (B ++ (x :: y :: R))).Perm (B ++ (x :: (A ++ (y :: R)))) :=
  (List.perm_append_comm_assoc _ _ _).trans (List.Perm.append_left _ List.perm_middle)
theorem Between_ok (a b : TreeV) : AC Try.prog 20 [encT a, encT b] [] (fun r n => n = [] ∧ r = .fn 37 [.cp [encT a], .cp [encT b]]) := by
 refine ac_of_awp (rs := [4]) (nt := 6) Try.func20 rfl rfl rfl rfl (fun w0 C0 hq => ?_)
 refine awp_seq ?_
 refine awp_region ?_
 refine r_box rfl (encT_cells a) rfl (fun b2 => ?_)
 refine r_box rfl (encT_cells b) rfl (fun b3 => ?_)
 refine r_assign rfl rfl ?_
 refine awl_nil ?_
 refine x_then ?_
 refine awp_seq ?_
 refine awp_region ?_
 refine awl_imp (imp_commit 0 3 rfl rfl (encT_one b) rfl) ?_
 refine awl_imp (imp_commit 0 2 rfl rfl (encT_one a) rfl) ?_
 refine r_makeFunc rfl (.cons (.ev rfl rfl) (.cons (.ev rfl rfl) .nil)) rfl ?_
 refine r_assign rfl rfl ?_
 refine awl_nil ?_
 refine x_then ?_
 refine awp_ret ?_
 exact ⟨(.inl rfl), _, [], (.one (by first | exact .mk rfl rfl | exact .nil rfl)), ⟨rfl, rfl⟩, (List.nil_sublist _), (by simp)⟩
theorem two_len {a b : TreeV} {la lb : List En} (hwa : wfRt (rootT a)) (hwb : wfRt (rootT b)) (haN : (idl a).length ≤ 100000) (hbN : (idl b).length ≤ 100000) (h3 : la.Perm (ownL a (idl b) false (idl a))) (h7 : lb.Perm (ownL b (idl a) true (idl b))) : la.length + lb.length ≤ 800000 := by
  have h1 := ownL_len hwa (idl b) false (idl a)
  have h2 := ownL_len hwb (idl a) true (idl b)
  have := h3.length_eq; have := h7.length_eq
  omega
theorem flat47 : FlatT Try.prog 47 spK := ⟨by kernel_rfl, by kernel_rfl, by kernel_rfl, by kernel_rfl⟩
set_option maxHeartbeats 2000000 in
theorem Between1_ok (a b : TreeV) (hwa : wfRt (rootT a)) (hwb : wfRt (rootT b)) (haN : (idl a).length ≤ 100000) (hbN : (idl b).length ≤ 100000) (hkey : ((ownTwo a b).map keyE).Nodup) : IterS Try.prog 37 [.cp [encT a], .cp [encT b]] [] (betA (chg a b)) (fun xs => xs = (chg a b).map chA) := by
 intro l0 Cs J D hY wo hJ0
 refine awc_of_awpG Cs (so := Tr wo) (nt := 71) (fun S r => Result1 S [] r) Try.func37 rfl rfl rfl rfl (result1_run rfl) (fun w0 C0 hq hcs => ?_)
 refine awp_seq ?_
 refine awp_any (fun B S => ∃ m1 : Nat, ∃ ks1 : List Nat, ∃ r3 : AV, ∃ os3 : List OE, ∃ la : List En, ∃ m2 : Nat, ∃ ks2 : List Nat, ∃ r7 : AV, ∃ os7 : List OE, ∃ lb : List En, ∃ r8 : AV, ∃ os8 : List OE, ∃ sl : List (Nat × SV), S = ⟨71, sl, cond (B 8) (os8 ++ (⟨m2, true, .nset ks2⟩ :: ⟨m1, true, .nset ks1⟩ :: Tr wo)) (cond (B 7) (os7 ++ (⟨m2, true, .nset ks2⟩ :: (os3 ++ (⟨m1, true, .nset ks1⟩ :: Tr wo)))) (cond (B 6) (⟨m2, true, .nset ks2⟩ :: (os3 ++ (⟨m1, true, .nset ks1⟩ :: Tr wo))) (cond (B 3) (os3 ++ (⟨m1, true, .nset ks1⟩ :: Tr wo)) (cond (B 2) (⟨m1, true, .nset ks1⟩ :: Tr wo) (Tr wo)))))⟩ ∧ find 0 sl = some (.a (.v (.func (.yield l0) #[] #[]))) ∧ find 1 sl = some (.a (.cp [encT a])) ∧ find 2 sl = some (.a (.cp [encT b])) ∧ (B 0 = true → find 6 sl = some (.a (encT a))) ∧ (B 1 = true → find 7 sl = some (.a (encT b))) ∧ (B 2 = true → find 8 sl = some (.a (.v (.map (some m1))))) ∧ (B 3 = true → find 9 sl = some (.a r3)) ∧ (B 4 = true → find 10 sl = some (.a (encT b))) ∧ (B 5 = true → find 11 sl = some (.a (encT a))) ∧ (B 6 = true → find 12 sl = some (.a (.v (.map (some m2))))) ∧ (B 7 = true → find 13 sl = some (.a r7)) ∧ (B 8 = true → find 14 sl = some (.a r8)) ∧ (B 9 = true → find 4 sl = some (.a r8)) ∧ (B 2 = true → (ks1.Nodup ∧ ∀ p, p ∈ ks1 ↔ p ∈ idsT b)) ∧ (B 3 = true → (RowE r3 os3 la ∧ la.Perm (ownL a (idl b) false (idl a)))) ∧ (B 6 = true → (ks2.Nodup ∧ ∀ p, p ∈ ks2 ↔ p ∈ idsT a)) ∧ (B 7 = true → (RowE r7 os7 lb ∧ lb.Perm (ownL b (idl a) true (idl b)))) ∧ (B 8 = true → RowE r8 os8 (la ++ lb))) TF.mixed rfl ⟨0, [], .v (.bool false), [], [], 0, [], .v (.bool false), [], [], .v (.bool false), [], _, rfl, rfl, rfl, rfl, (fun h => by cases h), (fun h => by cases h), (fun h => by cases h), (fun h => by cases h), (fun h => by cases h), (fun h => by cases h), (fun h => by cases h), (fun h => by cases h), (fun h => by cases h), (fun h => by cases h), (fun h => by cases h), (fun h => by cases h), (fun h => by cases h), (fun h => by cases h), (fun h => by cases h)⟩ ⟨⟨⟨⟨⟨⟨⟨⟨⟨⟨trivial
  , ⟨_, rfl, fun B S hBi hdep hcl => by
    rintro ⟨m1, ks1, r3, os3, la, m2, ks2, r7, os7, lb, r8, os8, sl, rfl, h0, h1, h2, f0, f1, f2, f3, f4, f5, f6, f7, f8, f9, p2, p3, p6, p7, p8⟩
    refine r_load1 h1 TF.agg24 rfl ?_
    exact awl_nil ⟨rfl, m1, ks1, r3, os3, la, m2, ks2, r7, os7, lb, r8, os8, _, rfl, h0, h1, h2, (fun h => rfl), f1, f2, f3, f4, f5, f6, f7, f8, f9, p2, p3, p6, p7, p8⟩⟩⟩
  , ⟨_, rfl, fun B S hBi hdep hcl => by
    rintro ⟨m1, ks1, r3, os3, la, m2, ks2, r7, os7, lb, r8, os8, sl, rfl, h0, h1, h2, f0, f1, f2, f3, f4, f5, f6, f7, f8, f9, p2, p3, p6, p7, p8⟩
    refine r_load1 h2 TF.agg24 rfl ?_
    exact awl_nil ⟨rfl, m1, ks1, r3, os3, la, m2, ks2, r7, os7, lb, r8, os8, _, rfl, h0, h1, h2, f0, (fun h => rfl), f2, f3, f4, f5, f6, f7, f8, f9, p2, p3, p6, p7, p8⟩⟩⟩
  , ⟨_, rfl, fun B S hBi hdep hcl => by
    rintro ⟨m1, ks1, r3, os3, la, m2, ks2, r7, os7, lb, r8, os8, sl, rfl, h0, h1, h2, f0, f1, f2, f3, f4, f5, f6, f7, f8, f9, p2, p3, p6, p7, p8⟩
    have e8 : B 8 = false := by cases h : B 8 with | false => rfl | true => exact absurd (hcl 3 2 (hcl 8 3 h rfl) rfl) (by rw [hBi]; decide)
    have e7 : B 7 = false := by cases h : B 7 with | false => rfl | true => exact absurd (hcl 3 2 (hcl 6 3 (hcl 7 6 h rfl) rfl) rfl) (by rw [hBi]; decide)
    have e6 : B 6 = false := by cases h : B 6 with | false => rfl | true => exact absurd (hcl 3 2 (hcl 6 3 h rfl) rfl) (by rw [hBi]; decide)
    have e3 : B 3 = false := by cases h : B 3 with | false => rfl | true => exact absurd (hcl 3 2 h rfl) (by rw [hBi]; decide)
    rw [e8, e7, e6, e3, hBi]
    refine r_callO hq rfl rfl (.cons (.ev (f1 (hdep 1 rfl)) rfl) .nil) (nodes_ok b hwb) rfl TF.en36 (List.nil_sublist _) rfl (fun rr nobjs hr => ?_)
    obtain ⟨m1, ks1, rfl, rfl, hndq, hksq⟩ := hr
    exact awl_nil ⟨rfl, m1, ks1, r3, os3, la, m2, ks2, r7, os7, lb, r8, os8, ((8, .a (.v (.map (some m1)))) :: sl), (by show _ = (⟨71, _, cond (B 8) (os8 ++ (⟨m2, true, .nset ks2⟩ :: ⟨m1, true, .nset ks1⟩ :: Tr wo)) (cond (B 7) (os7 ++ (⟨m2, true, .nset ks2⟩ :: (os3 ++ (⟨m1, true, .nset ks1⟩ :: Tr wo)))) (cond (B 6) (⟨m2, true, .nset ks2⟩ :: (os3 ++ (⟨m1, true, .nset ks1⟩ :: Tr wo))) (cond (B 3) (os3 ++ (⟨m1, true, .nset ks1⟩ :: Tr wo)) (cond true (⟨m1, true, .nset ks1⟩ :: Tr wo) (Tr wo)))))⟩ : AState); rw [e8, e7, e6, e3]; rfl), h0, h1, h2, f0, f1, (fun h => rfl), f3, f4, f5, f6, f7, f8, f9, (fun _ => ⟨hndq, hksq⟩), p3, p6, p7, p8⟩⟩⟩
  , ⟨_, rfl, fun B S hBi hdep hcl => by
    rintro ⟨m1, ks1, r3, os3, la, m2, ks2, r7, os7, lb, r8, os8, sl, rfl, h0, h1, h2, f0, f1, f2, f3, f4, f5, f6, f7, f8, f9, p2, p3, p6, p7, p8⟩
    have e8 : B 8 = false := by cases h : B 8 with | false => rfl | true => exact absurd (hcl 8 3 h rfl) (by rw [hBi]; decide)
    have e7 : B 7 = false := by cases h : B 7 with | false => rfl | true => exact absurd (hcl 6 3 (hcl 7 6 h rfl) rfl) (by rw [hBi]; decide)
    have e6 : B 6 = false := by cases h : B 6 with | false => rfl | true => exact absurd (hcl 6 3 h rfl) (by rw [hBi]; decide)
    have e2 : B 2 = true := hdep 2 rfl
    rw [e8, e7, e6, hBi, e2]
    refine r_callO hq rfl rfl (.cons (.ev (f0 (hdep 0 rfl)) rfl) (.cons (.ev (f2 (hdep 2 rfl)) rfl) (.cons (.ev rfl rfl) .nil))) (own_ok a hwa haN m1 true ks1 false) rfl TF.en38 (.cons_cons _ (List.nil_sublist _)) rfl (fun r3 os3 hr => ?_)
    obtain ⟨ps, hpn, hpm, hrow⟩ := hr
    obtain ⟨la, hlq⟩ : ∃ l, l = ownL a ks1 false ps := ⟨_, rfl⟩
    rw [← hlq] at hrow
    exact awl_nil ⟨rfl, m1, ks1, r3, os3, la, m2, ks2, r7, os7, lb, r8, os8, ((9, .a r3) :: sl), (by show _ = (⟨71, _, cond (B 8) (os8 ++ (⟨m2, true, .nset ks2⟩ :: ⟨m1, true, .nset ks1⟩ :: Tr wo)) (cond (B 7) (os7 ++ (⟨m2, true, .nset ks2⟩ :: (os3 ++ (⟨m1, true, .nset ks1⟩ :: Tr wo)))) (cond (B 6) (⟨m2, true, .nset ks2⟩ :: (os3 ++ (⟨m1, true, .nset ks1⟩ :: Tr wo))) (cond true (os3 ++ (⟨m1, true, .nset ks1⟩ :: Tr wo)) (cond (B 2) (⟨m1, true, .nset ks1⟩ :: Tr wo) (Tr wo)))))⟩ : AState); rw [e8, e7, e6, e2]; rfl), h0, h1, h2, f0, f1, f2, (fun h => rfl), f4, f5, f6, f7, f8, f9, p2, (fun _ => ⟨hrow, by rw [hlq]; exact ownL_perm a false (nodup_perm hpn (idl_nodup a) (fun p => (hpm p).trans (idl_mem a p).symm)) (fun p => ((p2 (hdep 2 rfl)).2 p).trans (idl_mem b p).symm)⟩), p6, p7, (fun h => absurd (hcl 8 3 h rfl) (by rw [hBi]; decide))⟩⟩⟩
  , ⟨_, rfl, fun B S hBi hdep hcl => by
    rintro ⟨m1, ks1, r3, os3, la, m2, ks2, r7, os7, lb, r8, os8, sl, rfl, h0, h1, h2, f0, f1, f2, f3, f4, f5, f6, f7, f8, f9, p2, p3, p6, p7, p8⟩
    refine r_load1 h2 TF.agg24 rfl ?_
    exact awl_nil ⟨rfl, m1, ks1, r3, os3, la, m2, ks2, r7, os7, lb, r8, os8, _, rfl, h0, h1, h2, f0, f1, f2, f3, (fun h => rfl), f5, f6, f7, f8, f9, p2, p3, p6, p7, p8⟩⟩⟩
  , ⟨_, rfl, fun B S hBi hdep hcl => by
    rintro ⟨m1, ks1, r3, os3, la, m2, ks2, r7, os7, lb, r8, os8, sl, rfl, h0, h1, h2, f0, f1, f2, f3, f4, f5, f6, f7, f8, f9, p2, p3, p6, p7, p8⟩
    refine r_load1 h1 TF.agg24 rfl ?_
    exact awl_nil ⟨rfl, m1, ks1, r3, os3, la, m2, ks2, r7, os7, lb, r8, os8, _, rfl, h0, h1, h2, f0, f1, f2, f3, f4, (fun h => rfl), f6, f7, f8, f9, p2, p3, p6, p7, p8⟩⟩⟩
  , ⟨_, rfl, fun B S hBi hdep hcl => by
    rintro ⟨m1, ks1, r3, os3, la, m2, ks2, r7, os7, lb, r8, os8, sl, rfl, h0, h1, h2, f0, f1, f2, f3, f4, f5, f6, f7, f8, f9, p2, p3, p6, p7, p8⟩
    have e8 : B 8 = false := by cases h : B 8 with | false => rfl | true => exact absurd (hcl 7 6 (hcl 8 7 h rfl) rfl) (by rw [hBi]; decide)
    have e7 : B 7 = false := by cases h : B 7 with | false => rfl | true => exact absurd (hcl 7 6 h rfl) (by rw [hBi]; decide)
    have e3 : B 3 = true := hdep 3 rfl
    rw [e8, e7, hBi, e3]
    refine r_callO hq rfl rfl (.cons (.ev (f5 (hdep 5 rfl)) rfl) .nil) (nodes_ok a hwa) rfl TF.en36 (List.nil_sublist _) rfl (fun rr nobjs hr => ?_)
    obtain ⟨m2, ks2, rfl, rfl, hndq, hksq⟩ := hr
    exact awl_nil ⟨rfl, m1, ks1, r3, os3, la, m2, ks2, r7, os7, lb, r8, os8, ((12, .a (.v (.map (some m2)))) :: sl), (by show _ = (⟨71, _, cond (B 8) (os8 ++ (⟨m2, true, .nset ks2⟩ :: ⟨m1, true, .nset ks1⟩ :: Tr wo)) (cond (B 7) (os7 ++ (⟨m2, true, .nset ks2⟩ :: (os3 ++ (⟨m1, true, .nset ks1⟩ :: Tr wo)))) (cond true (⟨m2, true, .nset ks2⟩ :: (os3 ++ (⟨m1, true, .nset ks1⟩ :: Tr wo))) (cond (B 3) (os3 ++ (⟨m1, true, .nset ks1⟩ :: Tr wo)) (cond (B 2) (⟨m1, true, .nset ks1⟩ :: Tr wo) (Tr wo)))))⟩ : AState); rw [e8, e7, e3]; rfl), h0, h1, h2, f0, f1, f2, f3, f4, f5, (fun h => rfl), f7, f8, f9, p2, p3, (fun _ => ⟨hndq, hksq⟩), p7, p8⟩⟩⟩
  , ⟨_, rfl, fun B S hBi hdep hcl => by
    rintro ⟨m1, ks1, r3, os3, la, m2, ks2, r7, os7, lb, r8, os8, sl, rfl, h0, h1, h2, f0, f1, f2, f3, f4, f5, f6, f7, f8, f9, p2, p3, p6, p7, p8⟩
    have e8 : B 8 = false := by cases h : B 8 with | false => rfl | true => exact absurd (hcl 8 7 h rfl) (by rw [hBi]; decide)
    have e6 : B 6 = true := hdep 6 rfl
    rw [e8, hBi, e6]
    refine r_callO hq rfl rfl (.cons (.ev (f4 (hdep 4 rfl)) rfl) (.cons (.ev (f6 (hdep 6 rfl)) rfl) (.cons (.ev rfl rfl) .nil))) (own_ok b hwb hbN m2 true ks2 true) rfl TF.en38 (.cons_cons _ (List.nil_sublist _)) rfl (fun r7 os7 hr => ?_)
    obtain ⟨ps, hpn, hpm, hrow⟩ := hr
    obtain ⟨lb, hlq⟩ : ∃ l, l = ownL b ks2 true ps := ⟨_, rfl⟩
    rw [← hlq] at hrow
    exact awl_nil ⟨rfl, m1, ks1, r3, os3, la, m2, ks2, r7, os7, lb, r8, os8, ((13, .a r7) :: sl), (by show _ = (⟨71, _, cond (B 8) (os8 ++ (⟨m2, true, .nset ks2⟩ :: ⟨m1, true, .nset ks1⟩ :: Tr wo)) (cond true (os7 ++ (⟨m2, true, .nset ks2⟩ :: (os3 ++ (⟨m1, true, .nset ks1⟩ :: Tr wo)))) (cond (B 6) (⟨m2, true, .nset ks2⟩ :: (os3 ++ (⟨m1, true, .nset ks1⟩ :: Tr wo))) (cond (B 3) (os3 ++ (⟨m1, true, .nset ks1⟩ :: Tr wo)) (cond (B 2) (⟨m1, true, .nset ks1⟩ :: Tr wo) (Tr wo)))))⟩ : AState); rw [e8, e6]; rfl), h0, h1, h2, f0, f1, f2, f3, f4, f5, f6, (fun h => rfl), f8, f9, p2, p3, p6, (fun _ => ⟨hrow, by rw [hlq]; exact ownL_perm b true (nodup_perm hpn (idl_nodup b) (fun p => (hpm p).trans (idl_mem b p).symm)) (fun p => ((p6 (hdep 6 rfl)).2 p).trans (idl_mem a p).symm)⟩), (fun h => absurd (hcl 8 7 h rfl) (by rw [hBi]; decide))⟩⟩⟩
  , ⟨_, rfl, fun B S hBi hdep hcl => by
    rintro ⟨m1, ks1, r3, os3, la, m2, ks2, r7, os7, lb, r8, os8, sl, rfl, h0, h1, h2, f0, f1, f2, f3, f4, f5, f6, f7, f8, f9, p2, p3, p6, p7, p8⟩
    have e7 : B 7 = true := hdep 7 rfl
    rw [hBi, e7]
    have hp3 := p3 (hdep 3 rfl)
    have hp7 := p7 (hdep 7 rfl)
    have hln := two_len hwa hwb haN hbN hp3.2 hp7.2
    refine r_appendRows (r' := ⟨m2, true, .nset ks2⟩ :: ⟨m1, true, .nset ks1⟩ :: Tr wo) (f3 (hdep 3 rfl)) (f7 (hdep 7 rfl)) hp3.1 hp7.1 (perm_rows _ _ _ _ _) TF.sl85 TF.sz89 TF.by89 TF.zlen89 (by omega) (by omega) rfl (fun r8 os8 hr8 => ?_)
    exact awl_nil ⟨rfl, m1, ks1, r3, os3, la, m2, ks2, r7, os7, lb, r8, os8, ((14, .a r8) :: sl), (by show _ = (⟨71, _, cond true (os8 ++ (⟨m2, true, .nset ks2⟩ :: ⟨m1, true, .nset ks1⟩ :: Tr wo)) (cond (B 7) (os7 ++ (⟨m2, true, .nset ks2⟩ :: (os3 ++ (⟨m1, true, .nset ks1⟩ :: Tr wo)))) (cond (B 6) (⟨m2, true, .nset ks2⟩ :: (os3 ++ (⟨m1, true, .nset ks1⟩ :: Tr wo))) (cond (B 3) (os3 ++ (⟨m1, true, .nset ks1⟩ :: Tr wo)) (cond (B 2) (⟨m1, true, .nset ks1⟩ :: Tr wo) (Tr wo)))))⟩ : AState); rw [e7]; rfl), h0, h1, h2, f0, f1, f2, f3, f4, f5, f6, f7, (fun h => rfl), (fun h => absurd (hcl 9 8 h rfl) (by rw [hBi]; decide)), p2, p3, p6, p7, (fun _ => hr8)⟩⟩⟩
  , ⟨_, rfl, fun B S hBi hdep hcl => by
    rintro ⟨m1, ks1, r3, os3, la, m2, ks2, r7, os7, lb, r8, os8, sl, rfl, h0, h1, h2, f0, f1, f2, f3, f4, f5, f6, f7, f8, f9, p2, p3, p6, p7, p8⟩
    refine r_assign (f8 (hdep 8 rfl)) rfl ?_
    exact awl_nil ⟨rfl, m1, ks1, r3, os3, la, m2, ks2, r7, os7, lb, r8, os8, _, rfl, h0, h1, h2, f0, f1, f2, f3, f4, f5, f6, f7, f8, (fun h => rfl), p2, p3, p6, p7, p8⟩⟩⟩
  (fun B S hall => by
   rintro ⟨m1, ks1, r3, os3, la, m2, ks2, r7, os7, lb, r8, os8, sl, rfl, h0, h1, h2, f0, f1, f2, f3, f4, f5, f6, f7, f8, f9, p2, p3, p6, p7, p8⟩
   rw [hall 8 (by decide)]
   have hp3 := p3 (hall 3 (by decide))
   have hp7 := p7 (hall 7 (by decide))
   have hp8 := p8 (hall 8 (by decide))
   have hpm : (la ++ lb).Perm (ownTwo a b) := hp3.2.append hp7.2
   have hse : sortE (la ++ lb) = sortE (ownTwo a b) := sortE_perm hkey hpm
   have hkl : ((la ++ lb).map keyE).Nodup := (hpm.map keyE).nodup_iff.2 hkey
   obtain ⟨SE, hSE⟩ : ∃ l, l = sortE (ownTwo a b) := ⟨_, rfl⟩
   have hSl : SE.length ≤ 1000000 := by have := two_len hwa hwb haN hbN hp3.2 hp7.2; rw [hSE, (sortE_spec (l := ownTwo a b)).1.length_eq, ← hpm.length_eq, List.length_append]; omega
   rw [← hSE] at hse
   refine x_then ?_
   refine awp_weaken (S' := ⟨71, [(0, .a (.v (.func (.yield l0) #[] #[]))), (1, .a (.cp [encT a])), (2, .a (.cp [encT b])), (4, .a r8)], os8 ++ Tr wo⟩) ⟨rfl, (Slots.cons h0 (.refl _) (Slots.cons h1 (.refl _) (Slots.cons h2 (.refl _) (Slots.cons (f9 (hall 9 (by decide))) (.refl _) Slots.nil)))), (List.Sublist.append_left (.cons _ (.cons _ (.refl _))) _)⟩ ?_
   refine awp_seq ?_
   rcases hp8 with ⟨hl0, rfl, rfl⟩ | ⟨g, cap, n, L, hl0, rfl, hnL, rfl, hL⟩
   ·
    have hS0 : SE = [] := by rw [← hse, hl0]; exact sortE_nil
    refine awp_region ?_
    refine r_move rfl rfl ?_
    refine r_call0 hq rfl rfl (.cons (.ev rfl rfl) (.cons (.ev rfl rfl) .nil)) (sortNilE) rfl TF.en39 rfl (fun r hr => ?_)
    obtain rfl := hr
    refine awl_imp (imp_le 4 rfl (.nilSl 6)) ?_
    refine awl_nil ?_
    refine x_then ?_
    refine awp_seq ?_
    refine awp_region ?_
    refine r_assign rfl rfl ?_
    refine awl_nil ?_
    refine x_then ?_
    refine awp_block ?_
    refine awp_loop (fun nn0 S => ∃ i : Nat, ∃ pr : List (List AV), ∃ wv : List OE, S = ⟨71, [(0, .a (.v (.func (.yield l0) #[] #[]))), (4, .a (.sl 6 (SE.map En.cs))), (5, .a (.v (.int .i64 ((i : Int)))))], Tr wv⟩ ∧ nn0 = SE.length - i ∧ (i ≤ SE.length) ∧ (pr = ((chg a b).take pr.length).map chA ∧ tell (SE.drop i) = (chg a b).drop pr.length) ∧ (J pr wv)) (SE.length - (0)) ⟨71, [(0, .a (.v (.func (.yield l0) #[] #[]))), (4, .a (.sl 6 (SE.map En.cs))), (5, .a (.v (.int .i64 (((0) : Int)))))], Tr (wo)⟩ ⟨rfl, (Slots.cons rfl (by first | exact .refl _ | exact .nilOwn _ _ | exact .nilSl _ | exact .ownSl _ _ _  | exact SV.le.ownEq (by first | rfl | (rw [hS0]; rfl)) | exact SV.le.of_eq (by first | rfl | (rw [hS0]; rfl))) (Slots.cons rfl (by first | exact .refl _ | exact .nilOwn _ _ | exact .nilSl _ | exact .ownSl _ _ _  | exact SV.le.ownEq (by first | rfl | (rw [hS0]; rfl)) | exact SV.le.of_eq (by first | rfl | (rw [hS0]; rfl))) (Slots.cons rfl (by first | exact .refl _ | exact .nilOwn _ _ | exact .nilSl _ | exact .ownSl _ _ _  | exact SV.le.ownEq (by first | rfl | (rw [hS0]; rfl)) | exact SV.le.of_eq (by first | rfl | (rw [hS0]; rfl))) Slots.nil))), (by first | exact List.Sublist.refl _ | exact .cons_cons _ (.cons _ (.refl _)) | exact List.nil_sublist _ | exact .cons _ (.refl _) | exact .cons _ (.cons _ (.refl _)) | exact .cons _ (.cons _ (.cons _ (.refl _))) | exact .cons _ (.cons _ (.cons _ (.cons _ (.refl _)))) | exact .cons_cons _ (List.nil_sublist _))⟩ ⟨0, [], wo, rfl, rfl, Nat.zero_le _, ⟨rfl, by rw [hSE]; rfl⟩, hJ0⟩ ?_
    rintro nn0 _ ⟨i, pr, wv, rfl, rfl, hi, hpr, hJ⟩
    refine awp_seq ?_
    refine awp_seq ?_
    refine awp_region ?_
    refine r_move rfl rfl ?_
    refine r_move rfl rfl ?_
    refine r_lenS rfl rfl TF.sl85 rfl ?_
    refine r_cmp rfl rfl rfl rfl ?_
    refine awl_nil ?_
    refine x_then ?_
    refine awp_cond rfl (fun hc0 => ?_) (fun hc0 => ?_)
    ·
     have hlt : i < SE.length := by have := of_decide_eq_true hc0; rw [List.length_map] at this; omega
     obtain ⟨e, he⟩ := get_lt hlt
     refine awp_skip ?_
     refine x_then ?_
     refine awp_seq ?_
     refine awp_block ?_
     refine awp_seq ?_
     refine awp_seq ?_
     rcases Bool.eq_false_or_eq_true (decide ((i : Int) + 1 < (((SE.map En.cs).length : Nat) : Int))) with hg28 | hg28
     ·
      have hlt2 : i + 1 < SE.length := by have := of_decide_eq_true hg28; rw [List.length_map] at this; omega
      obtain ⟨e', he'⟩ := get_lt hlt2
      rcases Bool.eq_false_or_eq_true (decide (e.k = e'.k)) with hg42 | hg42
      ·
       have hkk : e.k = e'.k := of_decide_eq_true hg42
       refine awp_drawS [23, 24, 25, 26, 27, 28, 29, 30, 31, 32, 33, 34, 35, 36, 37, 38, 39, 40, 41, 42, 43, 44, 45, 46, 47, 48, 49, 50, 51, 52, 53] [_, _, _, _, _, _, _, _, _, _, _, _, _, _, _, _, _, _, _, _, _, _, _, _, _, _, _, _, _, _, _] [] [] TF.mixed rfl rfl rfl ⟨⟨⟨⟨⟨⟨⟨⟨⟨⟨⟨⟨⟨⟨⟨⟨⟨⟨⟨⟨⟨⟨⟨⟨⟨⟨⟨⟨⟨⟨⟨trivial
        , ⟨_, rfl, fun sl hd hr ho => by
          refine r_move (hr 5 _ rfl rfl rfl) rfl ?_
          exact awl_nil ⟨rfl, post_put⟩⟩⟩
        , ⟨_, rfl, fun sl hd hr ho => by
          refine r_ari _ (hd 0 _ rfl rfl rfl) rfl rfl (wrap_id (by first | omega | (simp; omega))) rfl ?_
          exact awl_nil ⟨rfl, post_put⟩⟩⟩
        , ⟨_, rfl, fun sl hd hr ho => by
          refine r_move (hr 4 _ rfl rfl rfl) rfl ?_
          exact awl_nil ⟨rfl, post_put⟩⟩⟩
        , ⟨_, rfl, fun sl hd hr ho => by
          refine r_lenS (hd 2 _ rfl rfl rfl) rfl TF.sl85 rfl ?_
          exact awl_nil ⟨rfl, post_put⟩⟩⟩
        , ⟨_, rfl, fun sl hd hr ho => by
          refine r_cmp (hd 1 _ rfl rfl rfl) (hd 3 _ rfl rfl rfl) rfl rfl ?_
          exact awl_nil ⟨rfl, post_put⟩⟩⟩
        , ⟨_, rfl, fun sl hd hr ho => by
          refine r_move (hd 4 _ rfl rfl rfl) rfl ?_
          exact awl_nil ⟨rfl, post_put⟩⟩⟩
        , ⟨_, rfl, fun sl hd hr ho => by
          refine g_run rfl (hd 5 _ rfl rfl rfl) hg28 ?_
          refine r_move (hr 4 _ rfl rfl rfl) rfl ?_
          exact awl_nil ⟨rfl, post_put⟩⟩⟩
        , ⟨_, rfl, fun sl hd hr ho => by
          refine g_run rfl (hd 5 _ rfl rfl rfl) hg28 ?_
          refine r_move (hr 5 _ rfl rfl rfl) rfl ?_
          exact awl_nil ⟨rfl, post_put⟩⟩⟩
        , ⟨_, rfl, fun sl hd hr ho => by
          refine g_run rfl (hd 5 _ rfl rfl rfl) hg28 ?_
          refine r_index (hd 6 _ rfl rfl rfl) rfl (hd 7 _ rfl rfl rfl) TF.sl85 TF.sz89 (by omega) (get_map he) rfl ?_
          exact awl_nil ⟨rfl, post_put⟩⟩⟩
        , ⟨_, rfl, fun sl hd hr ho => by
          refine g_run rfl (hd 5 _ rfl rfl rfl) hg28 ?_
          refine r_fieldcp (hd 8 _ rfl rfl rfl) TF.f89_0 TF.sz47 rfl ?_
          exact awl_nil ⟨rfl, post_put⟩⟩⟩
        , ⟨_, rfl, fun sl hd hr ho => by
          refine g_run rfl (hd 5 _ rfl rfl rfl) hg28 ?_
          refine r_loadA (hd 9 _ rfl rfl rfl) TF.agg47 TF.sz47 rfl rfl ?_
          exact awl_nil ⟨rfl, post_put⟩⟩⟩
        , ⟨_, rfl, fun sl hd hr ho => by
          refine g_run rfl (hd 5 _ rfl rfl rfl) hg28 ?_
          refine r_move (hr 4 _ rfl rfl rfl) rfl ?_
          exact awl_nil ⟨rfl, post_put⟩⟩⟩
        , ⟨_, rfl, fun sl hd hr ho => by
          refine g_run rfl (hd 5 _ rfl rfl rfl) hg28 ?_
          refine r_move (hr 5 _ rfl rfl rfl) rfl ?_
          exact awl_nil ⟨rfl, post_put⟩⟩⟩
        , ⟨_, rfl, fun sl hd hr ho => by
          refine g_run rfl (hd 5 _ rfl rfl rfl) hg28 ?_
          refine r_ari _ (hd 12 _ rfl rfl rfl) rfl rfl (wrap_id (by first | omega | (simp; omega))) rfl ?_
          exact awl_nil ⟨rfl, post_put⟩⟩⟩
        , ⟨_, rfl, fun sl hd hr ho => by
          refine g_run rfl (hd 5 _ rfl rfl rfl) hg28 ?_
          refine r_index (hd 11 _ rfl rfl rfl) rfl (hd 13 _ rfl rfl rfl) TF.sl85 TF.sz89 (by omega) (get_map he') rfl ?_
          exact awl_nil ⟨rfl, post_put⟩⟩⟩
        , ⟨_, rfl, fun sl hd hr ho => by
          refine g_run rfl (hd 5 _ rfl rfl rfl) hg28 ?_
          refine r_fieldcp (hd 14 _ rfl rfl rfl) TF.f89_0 TF.sz47 rfl ?_
          exact awl_nil ⟨rfl, post_put⟩⟩⟩
        , ⟨_, rfl, fun sl hd hr ho => by
          refine g_run rfl (hd 5 _ rfl rfl rfl) hg28 ?_
          refine r_loadA (hd 15 _ rfl rfl rfl) TF.agg47 TF.sz47 rfl rfl ?_
          exact awl_nil ⟨rfl, post_put⟩⟩⟩
        , ⟨_, rfl, fun sl hd hr ho => by
          refine g_run rfl (hd 5 _ rfl rfl rfl) hg28 ?_
          refine r_feq (hd 10 _ rfl rfl rfl) (hd 16 _ rfl rfl rfl) flat47 (isVal_sp e.k) (isVal_sp e'.k) (Sp.kn _) (Sp.kn _) (decide (e.k = e'.k)) (by rw [decide_eq_true_eq]; exact ⟨fun h => by rw [h], Sp.vs_inj⟩) rfl ?_
          exact awl_nil ⟨rfl, post_put⟩⟩⟩
        , ⟨_, rfl, fun sl hd hr ho => by
          refine r_pickT (hd 5 _ rfl rfl rfl) hg28 (hd 17 _ rfl rfl rfl) rfl ?_
          exact awl_nil ⟨rfl, post_put⟩⟩⟩
        , ⟨_, rfl, fun sl hd hr ho => by
          refine r_move (hd 18 _ rfl rfl rfl) rfl ?_
          exact awl_nil ⟨rfl, post_put⟩⟩⟩
        , ⟨_, rfl, fun sl hd hr ho => by
          refine g_run rfl (hd 19 _ rfl rfl rfl) hg42 ?_
          refine r_move (hr 4 _ rfl rfl rfl) rfl ?_
          exact awl_nil ⟨rfl, post_put⟩⟩⟩
        , ⟨_, rfl, fun sl hd hr ho => by
          refine g_run rfl (hd 19 _ rfl rfl rfl) hg42 ?_
          refine r_move (hr 5 _ rfl rfl rfl) rfl ?_
          exact awl_nil ⟨rfl, post_put⟩⟩⟩
        , ⟨_, rfl, fun sl hd hr ho => by
          refine g_run rfl (hd 19 _ rfl rfl rfl) hg42 ?_
          refine r_index (hd 20 _ rfl rfl rfl) rfl (hd 21 _ rfl rfl rfl) TF.sl85 TF.sz89 (by omega) (get_map he) rfl ?_
          exact awl_nil ⟨rfl, post_put⟩⟩⟩
        , ⟨_, rfl, fun sl hd hr ho => by
          refine g_run rfl (hd 19 _ rfl rfl rfl) hg42 ?_
          refine r_fieldcp (hd 22 _ rfl rfl rfl) TF.f89_1 TF.sz45 rfl ?_
          exact awl_nil ⟨rfl, post_put⟩⟩⟩
        , ⟨_, rfl, fun sl hd hr ho => by
          refine g_run rfl (hd 19 _ rfl rfl rfl) hg42 ?_
          refine r_load1 (hd 23 _ rfl rfl rfl) TF.agg45 rfl ?_
          exact awl_nil ⟨rfl, post_put⟩⟩⟩
        , ⟨_, rfl, fun sl hd hr ho => by
          refine g_run rfl (hd 19 _ rfl rfl rfl) hg42 ?_
          refine r_move (hr 4 _ rfl rfl rfl) rfl ?_
          exact awl_nil ⟨rfl, post_put⟩⟩⟩
        , ⟨_, rfl, fun sl hd hr ho => by
          refine g_run rfl (hd 19 _ rfl rfl rfl) hg42 ?_
          refine r_move (hr 5 _ rfl rfl rfl) rfl ?_
          exact awl_nil ⟨rfl, post_put⟩⟩⟩
        , ⟨_, rfl, fun sl hd hr ho => by
          refine g_run rfl (hd 19 _ rfl rfl rfl) hg42 ?_
          refine r_ari _ (hd 26 _ rfl rfl rfl) rfl rfl (wrap_id (by first | omega | (simp; omega))) rfl ?_
          exact awl_nil ⟨rfl, post_put⟩⟩⟩
        , ⟨_, rfl, fun sl hd hr ho => by
          refine g_run rfl (hd 19 _ rfl rfl rfl) hg42 ?_
          refine r_index (hd 25 _ rfl rfl rfl) rfl (hd 27 _ rfl rfl rfl) TF.sl85 TF.sz89 (by omega) (get_map he') rfl ?_
          exact awl_nil ⟨rfl, post_put⟩⟩⟩
        , ⟨_, rfl, fun sl hd hr ho => by
          refine g_run rfl (hd 19 _ rfl rfl rfl) hg42 ?_
          refine r_fieldcp (hd 28 _ rfl rfl rfl) TF.f89_1 TF.sz45 rfl ?_
          exact awl_nil ⟨rfl, post_put⟩⟩⟩
        , ⟨_, rfl, fun sl hd hr ho => by
          refine g_run rfl (hd 19 _ rfl rfl rfl) hg42 ?_
          refine r_load1 (hd 29 _ rfl rfl rfl) TF.agg45 rfl ?_
          exact awl_nil ⟨rfl, post_put⟩⟩⟩
        (by rfl) ?_
       refine g_run rfl rfl hg42 ?_
       refine r_cmp rfl rfl rfl rfl ?_
       refine r_pickT rfl hg42 rfl rfl ?_
       refine awl_nil ?_
       refine x_then ?_
       refine awp_cond rfl (fun hc1 => ?_) (fun hc1 => ?_)
       ·
        have hvv : e.v = e'.v := by simpa using hc1
        have hstep := tell_step he he' ⟨hkk, hvv⟩
        refine awp_seq ?_
        refine awp_region ?_
        refine r_move rfl rfl ?_
        refine r_ari ((i + 1 : Nat) : Int) rfl rfl rfl (wrap_id (by omega)) rfl ?_
        refine r_assign rfl rfl ?_
        refine awl_nil ?_
        refine x_then ?_
        refine awp_exit ?_
        refine x_thenE ?_
        refine x_blockE ?_
        refine x_then ?_
        refine awp_region ?_
        refine r_move rfl rfl ?_
        refine r_ari _ rfl rfl rfl (wrap_id (by first | omega | (simp; omega))) rfl ?_
        refine r_assign rfl rfl ?_
        refine awl_nil ?_
        refine x_then ?_
        refine ⟨SE.length - (i + 2), ⟨71, [(0, .a (.v (.func (.yield l0) #[] #[]))), (4, .a (.sl 6 (SE.map En.cs))), (5, .a (.v (.int .i64 (((i + 2) : Int)))))], Tr (wv)⟩, ⟨rfl, (Slots.cons rfl (by first | exact .refl _ | exact .nilOwn _ _ | exact .nilSl _ | exact .ownSl _ _ _  | exact SV.le.of_eq (by simp)) (Slots.cons rfl (by first | exact .refl _ | exact .nilOwn _ _ | exact .nilSl _ | exact .ownSl _ _ _  | exact SV.le.of_eq (by simp)) (Slots.cons rfl (by first | exact .refl _ | exact .nilOwn _ _ | exact .nilSl _ | exact .ownSl _ _ _  | exact SV.le.of_eq (by simp)) Slots.nil))), (by first | exact List.Sublist.refl _ | exact .cons_cons _ (.cons _ (.refl _)) | exact List.nil_sublist _ | exact .cons _ (.refl _) | exact .cons _ (.cons _ (.refl _)) | exact .cons _ (.cons _ (.cons _ (.refl _))) | exact .cons _ (.cons _ (.cons _ (.cons _ (.refl _)))) | exact .cons_cons _ (List.nil_sublist _))⟩, (by omega), ⟨i + 2, pr, wv, rfl, rfl, (by omega), ⟨hpr.1, by rw [← hstep]; exact hpr.2⟩, hJ⟩⟩
       ·
        have hno : ∀ x, SE[i + 1]? = some x → ¬ (e.k = x.k ∧ e.v = x.v) := fun x h => by rw [he'] at h; cases h; exact fun h => by have := hc1; simp at this; exact this h.2
        refine awp_skip ?_
        refine x_then ?_
        refine awp_seq ?_
        refine awp_drawSI [58, 59, 60, 61, 62, 63, 64, 65, 66, 67, 68] [_, _, _, _, _, _, _, _, _, _, _] [] [] TF.mixed rfl rfl rfl ⟨⟨⟨⟨⟨⟨⟨⟨⟨⟨⟨trivial
         , ⟨_, rfl, fun sl hd hr ho => by
           refine r_move (hr 0 _ rfl rfl rfl) rfl ?_
           exact awl_nil ⟨rfl, post_put⟩⟩⟩
         , ⟨_, rfl, fun sl hd hr ho => by
           refine r_move (hr 4 _ rfl rfl rfl) rfl ?_
           exact awl_nil ⟨rfl, post_put⟩⟩⟩
         , ⟨_, rfl, fun sl hd hr ho => by
           refine r_move (hr 5 _ rfl rfl rfl) rfl ?_
           exact awl_nil ⟨rfl, post_put⟩⟩⟩
         , ⟨_, rfl, fun sl hd hr ho => by
           refine r_index (hd 1 _ rfl rfl rfl) rfl (hd 2 _ rfl rfl rfl) TF.sl85 TF.sz89 (by omega) (get_map he) rfl ?_
           exact awl_nil ⟨rfl, post_put⟩⟩⟩
         , ⟨_, rfl, fun sl hd hr ho => by
           refine r_fieldcp (hd 3 _ rfl rfl rfl) TF.f89_0 TF.sz47 rfl ?_
           exact awl_nil ⟨rfl, post_put⟩⟩⟩
         , ⟨_, rfl, fun sl hd hr ho => by
           refine r_loadA (hd 4 _ rfl rfl rfl) TF.agg47 TF.sz47 rfl rfl ?_
           exact awl_nil ⟨rfl, post_put⟩⟩⟩
         , ⟨_, rfl, fun sl hd hr ho => by
           refine r_move (hr 4 _ rfl rfl rfl) rfl ?_
           exact awl_nil ⟨rfl, post_put⟩⟩⟩
         , ⟨_, rfl, fun sl hd hr ho => by
           refine r_move (hr 5 _ rfl rfl rfl) rfl ?_
           exact awl_nil ⟨rfl, post_put⟩⟩⟩
         , ⟨_, rfl, fun sl hd hr ho => by
           refine r_index (hd 6 _ rfl rfl rfl) rfl (hd 7 _ rfl rfl rfl) TF.sl85 TF.sz89 (by omega) (get_map he) rfl ?_
           exact awl_nil ⟨rfl, post_put⟩⟩⟩
         , ⟨_, rfl, fun sl hd hr ho => by
           refine r_fieldcp (hd 8 _ rfl rfl rfl) TF.f89_2 TF.sz4 rfl ?_
           exact awl_nil ⟨rfl, post_put⟩⟩⟩
         , ⟨_, rfl, fun sl hd hr ho => by
           refine r_load1 (hd 9 _ rfl rfl rfl) TF.agg4 rfl ?_
           exact awl_nil ⟨rfl, post_put⟩⟩⟩
         (by rfl) (by rfl) ?_
        have hone := tell_one he hno
        obtain ⟨hct, hcd⟩ := drop_cons (hpr.2.symm.trans hone)
        refine r_yieldS hq (un := []) (fun n => Tr n) rfl rfl (.cons (.ev rfl rfl) (.cons (.ev rfl rfl) .nil)) Cs hcs (hY pr (chA (e.k, e.c)) wv hJ ⟨(e.k, e.c), hct, hpr.1, rfl⟩) (by rw [List.append_nil]; exact List.Perm.refl _) (fun n => by rw [List.append_nil]) rfl (fun bb nobjs hJ' => ?_)
        refine awli_op (fun c h => (by cases h)) ?_
        refine r_not rfl rfl ?_
        refine awl_nil ⟨rfl, ?_⟩
        refine awli_nil ?_
        refine x_then ?_
        refine awp_cond rfl (fun hc2 => ?_) (fun hc2 => ?_)
        ·
         have hbb : bb = false := by simpa using hc2
         subst hbb
         have hD2 : D _ _ := hJ'
         refine awp_ret ?_
         refine x_blockR ?_
         refine x_thenR ?_
         refine x_thenR ?_
         refine x_blockR ?_
         exact ⟨(.inl rfl), _, Tr nobjs, .none, ⟨_, nobjs, rfl, .inr hD2⟩, (List.Sublist.refl _), tr_rwS⟩
        ·
         have hbb : bb = true := by simpa using hc2
         subst hbb
         have hJ2 : J _ _ := hJ'
         refine awp_skip ?_
         refine x_block ?_
         refine x_then ?_
         refine awp_region ?_
         refine r_move rfl rfl ?_
         refine r_ari _ rfl rfl rfl (wrap_id (by first | omega | (simp; omega))) rfl ?_
         refine r_assign rfl rfl ?_
         refine awl_nil ?_
         refine x_then ?_
         refine ⟨SE.length - (i + 1), ⟨71, [(0, .a (.v (.func (.yield l0) #[] #[]))), (4, .a (.sl 6 (SE.map En.cs))), (5, .a (.v (.int .i64 (((i + 1) : Int)))))], Tr (nobjs)⟩, ⟨rfl, (Slots.cons rfl (by first | exact .refl _ | exact .nilOwn _ _ | exact .nilSl _ | exact .ownSl _ _ _  | exact SV.le.of_eq (by simp)) (Slots.cons rfl (by first | exact .refl _ | exact .nilOwn _ _ | exact .nilSl _ | exact .ownSl _ _ _  | exact SV.le.of_eq (by simp)) (Slots.cons rfl (by first | exact .refl _ | exact .nilOwn _ _ | exact .nilSl _ | exact .ownSl _ _ _  | exact SV.le.of_eq (by simp)) Slots.nil))), (by first | exact List.Sublist.refl _ | exact .cons_cons _ (.cons _ (.refl _)) | exact List.nil_sublist _ | exact .cons _ (.refl _) | exact .cons _ (.cons _ (.refl _)) | exact .cons _ (.cons _ (.cons _ (.refl _))) | exact .cons _ (.cons _ (.cons _ (.cons _ (.refl _)))) | exact .cons_cons _ (List.nil_sublist _))⟩, (by omega), ⟨i + 1, pr ++ [chA (e.k, e.c)], nobjs, rfl, rfl, (by omega), (betA_next hpr.1 hct hcd), hJ2⟩⟩
      ·
       have hkk : ¬ e.k = e'.k := of_decide_eq_false hg42
       have hno : ∀ x, SE[i + 1]? = some x → ¬ (e.k = x.k ∧ e.v = x.v) := fun x h => by rw [he'] at h; cases h; exact fun h => hkk h.1
       refine awp_drawS [23, 24, 25, 26, 27, 28, 29, 30, 31, 32, 33, 34, 35, 36, 37, 38, 39, 40, 41, 42, 43, 44, 45, 46, 47, 48, 49, 50, 51, 52, 53] [_, _, _, _, _, _, _, _, _, _, _, _, _, _, _, _, _, _, _, _, _, _, _, _, _, _, _, _, _, _, _] [] [] TF.mixed rfl rfl rfl ⟨⟨⟨⟨⟨⟨⟨⟨⟨⟨⟨⟨⟨⟨⟨⟨⟨⟨⟨⟨⟨⟨⟨⟨⟨⟨⟨⟨⟨⟨⟨trivial
        , ⟨_, rfl, fun sl hd hr ho => by
          refine r_move (hr 5 _ rfl rfl rfl) rfl ?_
          exact awl_nil ⟨rfl, post_put⟩⟩⟩
        , ⟨_, rfl, fun sl hd hr ho => by
          refine r_ari _ (hd 0 _ rfl rfl rfl) rfl rfl (wrap_id (by first | omega | (simp; omega))) rfl ?_
          exact awl_nil ⟨rfl, post_put⟩⟩⟩
        , ⟨_, rfl, fun sl hd hr ho => by
          refine r_move (hr 4 _ rfl rfl rfl) rfl ?_
          exact awl_nil ⟨rfl, post_put⟩⟩⟩
        , ⟨_, rfl, fun sl hd hr ho => by
          refine r_lenS (hd 2 _ rfl rfl rfl) rfl TF.sl85 rfl ?_
          exact awl_nil ⟨rfl, post_put⟩⟩⟩
        , ⟨_, rfl, fun sl hd hr ho => by
          refine r_cmp (hd 1 _ rfl rfl rfl) (hd 3 _ rfl rfl rfl) rfl rfl ?_
          exact awl_nil ⟨rfl, post_put⟩⟩⟩
        , ⟨_, rfl, fun sl hd hr ho => by
          refine r_move (hd 4 _ rfl rfl rfl) rfl ?_
          exact awl_nil ⟨rfl, post_put⟩⟩⟩
        , ⟨_, rfl, fun sl hd hr ho => by
          refine g_run rfl (hd 5 _ rfl rfl rfl) hg28 ?_
          refine r_move (hr 4 _ rfl rfl rfl) rfl ?_
          exact awl_nil ⟨rfl, post_put⟩⟩⟩
        , ⟨_, rfl, fun sl hd hr ho => by
          refine g_run rfl (hd 5 _ rfl rfl rfl) hg28 ?_
          refine r_move (hr 5 _ rfl rfl rfl) rfl ?_
          exact awl_nil ⟨rfl, post_put⟩⟩⟩
        , ⟨_, rfl, fun sl hd hr ho => by
          refine g_run rfl (hd 5 _ rfl rfl rfl) hg28 ?_
          refine r_index (hd 6 _ rfl rfl rfl) rfl (hd 7 _ rfl rfl rfl) TF.sl85 TF.sz89 (by omega) (get_map he) rfl ?_
          exact awl_nil ⟨rfl, post_put⟩⟩⟩
        , ⟨_, rfl, fun sl hd hr ho => by
          refine g_run rfl (hd 5 _ rfl rfl rfl) hg28 ?_
          refine r_fieldcp (hd 8 _ rfl rfl rfl) TF.f89_0 TF.sz47 rfl ?_
          exact awl_nil ⟨rfl, post_put⟩⟩⟩
        , ⟨_, rfl, fun sl hd hr ho => by
          refine g_run rfl (hd 5 _ rfl rfl rfl) hg28 ?_
          refine r_loadA (hd 9 _ rfl rfl rfl) TF.agg47 TF.sz47 rfl rfl ?_
          exact awl_nil ⟨rfl, post_put⟩⟩⟩
        , ⟨_, rfl, fun sl hd hr ho => by
          refine g_run rfl (hd 5 _ rfl rfl rfl) hg28 ?_
          refine r_move (hr 4 _ rfl rfl rfl) rfl ?_
          exact awl_nil ⟨rfl, post_put⟩⟩⟩
        , ⟨_, rfl, fun sl hd hr ho => by
          refine g_run rfl (hd 5 _ rfl rfl rfl) hg28 ?_
          refine r_move (hr 5 _ rfl rfl rfl) rfl ?_
          exact awl_nil ⟨rfl, post_put⟩⟩⟩
        , ⟨_, rfl, fun sl hd hr ho => by
          refine g_run rfl (hd 5 _ rfl rfl rfl) hg28 ?_
          refine r_ari _ (hd 12 _ rfl rfl rfl) rfl rfl (wrap_id (by first | omega | (simp; omega))) rfl ?_
          exact awl_nil ⟨rfl, post_put⟩⟩⟩
        , ⟨_, rfl, fun sl hd hr ho => by
          refine g_run rfl (hd 5 _ rfl rfl rfl) hg28 ?_
          refine r_index (hd 11 _ rfl rfl rfl) rfl (hd 13 _ rfl rfl rfl) TF.sl85 TF.sz89 (by omega) (get_map he') rfl ?_
          exact awl_nil ⟨rfl, post_put⟩⟩⟩
        , ⟨_, rfl, fun sl hd hr ho => by
          refine g_run rfl (hd 5 _ rfl rfl rfl) hg28 ?_
          refine r_fieldcp (hd 14 _ rfl rfl rfl) TF.f89_0 TF.sz47 rfl ?_
          exact awl_nil ⟨rfl, post_put⟩⟩⟩
        , ⟨_, rfl, fun sl hd hr ho => by
          refine g_run rfl (hd 5 _ rfl rfl rfl) hg28 ?_
          refine r_loadA (hd 15 _ rfl rfl rfl) TF.agg47 TF.sz47 rfl rfl ?_
          exact awl_nil ⟨rfl, post_put⟩⟩⟩
        , ⟨_, rfl, fun sl hd hr ho => by
          refine g_run rfl (hd 5 _ rfl rfl rfl) hg28 ?_
          refine r_feq (hd 10 _ rfl rfl rfl) (hd 16 _ rfl rfl rfl) flat47 (isVal_sp e.k) (isVal_sp e'.k) (Sp.kn _) (Sp.kn _) (decide (e.k = e'.k)) (by rw [decide_eq_true_eq]; exact ⟨fun h => by rw [h], Sp.vs_inj⟩) rfl ?_
          exact awl_nil ⟨rfl, post_put⟩⟩⟩
        , ⟨_, rfl, fun sl hd hr ho => by
          refine r_pickT (hd 5 _ rfl rfl rfl) hg28 (hd 17 _ rfl rfl rfl) rfl ?_
          exact awl_nil ⟨rfl, post_put⟩⟩⟩
        , ⟨_, rfl, fun sl hd hr ho => by
          refine r_move (hd 18 _ rfl rfl rfl) rfl ?_
          exact awl_nil ⟨rfl, post_put⟩⟩⟩
        , ⟨_, rfl, fun sl hd hr ho => by
          refine g_skip rfl (hd 19 _ rfl rfl rfl) hg42 rfl ?_
          exact awl_nil ⟨rfl, post_put⟩⟩⟩
        , ⟨_, rfl, fun sl hd hr ho => by
          refine g_skip rfl (hd 19 _ rfl rfl rfl) hg42 rfl ?_
          exact awl_nil ⟨rfl, post_put⟩⟩⟩
        , ⟨_, rfl, fun sl hd hr ho => by
          refine g_skip rfl (hd 19 _ rfl rfl rfl) hg42 rfl ?_
          exact awl_nil ⟨rfl, post_put⟩⟩⟩
        , ⟨_, rfl, fun sl hd hr ho => by
          refine g_skip rfl (hd 19 _ rfl rfl rfl) hg42 rfl ?_
          exact awl_nil ⟨rfl, post_put⟩⟩⟩
        , ⟨_, rfl, fun sl hd hr ho => by
          refine g_skip rfl (hd 19 _ rfl rfl rfl) hg42 rfl ?_
          exact awl_nil ⟨rfl, post_put⟩⟩⟩
        , ⟨_, rfl, fun sl hd hr ho => by
          refine g_skip rfl (hd 19 _ rfl rfl rfl) hg42 rfl ?_
          exact awl_nil ⟨rfl, post_put⟩⟩⟩
        , ⟨_, rfl, fun sl hd hr ho => by
          refine g_skip rfl (hd 19 _ rfl rfl rfl) hg42 rfl ?_
          exact awl_nil ⟨rfl, post_put⟩⟩⟩
        , ⟨_, rfl, fun sl hd hr ho => by
          refine g_skip rfl (hd 19 _ rfl rfl rfl) hg42 rfl ?_
          exact awl_nil ⟨rfl, post_put⟩⟩⟩
        , ⟨_, rfl, fun sl hd hr ho => by
          refine g_skip rfl (hd 19 _ rfl rfl rfl) hg42 rfl ?_
          exact awl_nil ⟨rfl, post_put⟩⟩⟩
        , ⟨_, rfl, fun sl hd hr ho => by
          refine g_skip rfl (hd 19 _ rfl rfl rfl) hg42 rfl ?_
          exact awl_nil ⟨rfl, post_put⟩⟩⟩
        , ⟨_, rfl, fun sl hd hr ho => by
          refine g_skip rfl (hd 19 _ rfl rfl rfl) hg42 rfl ?_
          exact awl_nil ⟨rfl, post_put⟩⟩⟩
        (by rfl) ?_
       refine g_skip rfl rfl hg42 rfl ?_
       refine r_pickF rfl hg42 rfl rfl ?_
       refine awl_nil ?_
       refine x_then ?_
       refine awp_condF rfl ?_
       refine awp_skip ?_
       refine x_then ?_
       refine awp_seq ?_
       refine awp_drawSI [58, 59, 60, 61, 62, 63, 64, 65, 66, 67, 68] [_, _, _, _, _, _, _, _, _, _, _] [] [] TF.mixed rfl rfl rfl ⟨⟨⟨⟨⟨⟨⟨⟨⟨⟨⟨trivial
        , ⟨_, rfl, fun sl hd hr ho => by
          refine r_move (hr 0 _ rfl rfl rfl) rfl ?_
          exact awl_nil ⟨rfl, post_put⟩⟩⟩
        , ⟨_, rfl, fun sl hd hr ho => by
          refine r_move (hr 4 _ rfl rfl rfl) rfl ?_
          exact awl_nil ⟨rfl, post_put⟩⟩⟩
        , ⟨_, rfl, fun sl hd hr ho => by
          refine r_move (hr 5 _ rfl rfl rfl) rfl ?_
          exact awl_nil ⟨rfl, post_put⟩⟩⟩
        , ⟨_, rfl, fun sl hd hr ho => by
          refine r_index (hd 1 _ rfl rfl rfl) rfl (hd 2 _ rfl rfl rfl) TF.sl85 TF.sz89 (by omega) (get_map he) rfl ?_
          exact awl_nil ⟨rfl, post_put⟩⟩⟩
        , ⟨_, rfl, fun sl hd hr ho => by
          refine r_fieldcp (hd 3 _ rfl rfl rfl) TF.f89_0 TF.sz47 rfl ?_
          exact awl_nil ⟨rfl, post_put⟩⟩⟩
        , ⟨_, rfl, fun sl hd hr ho => by
          refine r_loadA (hd 4 _ rfl rfl rfl) TF.agg47 TF.sz47 rfl rfl ?_
          exact awl_nil ⟨rfl, post_put⟩⟩⟩
        , ⟨_, rfl, fun sl hd hr ho => by
          refine r_move (hr 4 _ rfl rfl rfl) rfl ?_
          exact awl_nil ⟨rfl, post_put⟩⟩⟩
        , ⟨_, rfl, fun sl hd hr ho => by
          refine r_move (hr 5 _ rfl rfl rfl) rfl ?_
          exact awl_nil ⟨rfl, post_put⟩⟩⟩
        , ⟨_, rfl, fun sl hd hr ho => by
          refine r_index (hd 6 _ rfl rfl rfl) rfl (hd 7 _ rfl rfl rfl) TF.sl85 TF.sz89 (by omega) (get_map he) rfl ?_
          exact awl_nil ⟨rfl, post_put⟩⟩⟩
        , ⟨_, rfl, fun sl hd hr ho => by
          refine r_fieldcp (hd 8 _ rfl rfl rfl) TF.f89_2 TF.sz4 rfl ?_
          exact awl_nil ⟨rfl, post_put⟩⟩⟩
        , ⟨_, rfl, fun sl hd hr ho => by
          refine r_load1 (hd 9 _ rfl rfl rfl) TF.agg4 rfl ?_
          exact awl_nil ⟨rfl, post_put⟩⟩⟩
        (by rfl) (by rfl) ?_
       have hone := tell_one he hno
       obtain ⟨hct, hcd⟩ := drop_cons (hpr.2.symm.trans hone)
       refine r_yieldS hq (un := []) (fun n => Tr n) rfl rfl (.cons (.ev rfl rfl) (.cons (.ev rfl rfl) .nil)) Cs hcs (hY pr (chA (e.k, e.c)) wv hJ ⟨(e.k, e.c), hct, hpr.1, rfl⟩) (by rw [List.append_nil]; exact List.Perm.refl _) (fun n => by rw [List.append_nil]) rfl (fun bb nobjs hJ' => ?_)
       refine awli_op (fun c h => (by cases h)) ?_
       refine r_not rfl rfl ?_
       refine awl_nil ⟨rfl, ?_⟩
       refine awli_nil ?_
       refine x_then ?_
       refine awp_cond rfl (fun hc2 => ?_) (fun hc2 => ?_)
       ·
        have hbb : bb = false := by simpa using hc2
        subst hbb
        have hD2 : D _ _ := hJ'
        refine awp_ret ?_
        refine x_blockR ?_
        refine x_thenR ?_
        refine x_thenR ?_
        refine x_blockR ?_
        exact ⟨(.inl rfl), _, Tr nobjs, .none, ⟨_, nobjs, rfl, .inr hD2⟩, (List.Sublist.refl _), tr_rwS⟩
       ·
        have hbb : bb = true := by simpa using hc2
        subst hbb
        have hJ2 : J _ _ := hJ'
        refine awp_skip ?_
        refine x_block ?_
        refine x_then ?_
        refine awp_region ?_
        refine r_move rfl rfl ?_
        refine r_ari _ rfl rfl rfl (wrap_id (by first | omega | (simp; omega))) rfl ?_
        refine r_assign rfl rfl ?_
        refine awl_nil ?_
        refine x_then ?_
        refine ⟨SE.length - (i + 1), ⟨71, [(0, .a (.v (.func (.yield l0) #[] #[]))), (4, .a (.sl 6 (SE.map En.cs))), (5, .a (.v (.int .i64 (((i + 1) : Int)))))], Tr (nobjs)⟩, ⟨rfl, (Slots.cons rfl (by first | exact .refl _ | exact .nilOwn _ _ | exact .nilSl _ | exact .ownSl _ _ _  | exact SV.le.of_eq (by simp)) (Slots.cons rfl (by first | exact .refl _ | exact .nilOwn _ _ | exact .nilSl _ | exact .ownSl _ _ _  | exact SV.le.of_eq (by simp)) (Slots.cons rfl (by first | exact .refl _ | exact .nilOwn _ _ | exact .nilSl _ | exact .ownSl _ _ _  | exact SV.le.of_eq (by simp)) Slots.nil))), (by first | exact List.Sublist.refl _ | exact .cons_cons _ (.cons _ (.refl _)) | exact List.nil_sublist _ | exact .cons _ (.refl _) | exact .cons _ (.cons _ (.refl _)) | exact .cons _ (.cons _ (.cons _ (.refl _))) | exact .cons _ (.cons _ (.cons _ (.cons _ (.refl _)))) | exact .cons_cons _ (List.nil_sublist _))⟩, (by omega), ⟨i + 1, pr ++ [chA (e.k, e.c)], nobjs, rfl, rfl, (by omega), (betA_next hpr.1 hct hcd), hJ2⟩⟩
     ·
      have hge2 : SE.length ≤ i + 1 := by have := of_decide_eq_false hg28; rw [List.length_map] at this; omega
      have hno : ∀ e', SE[i + 1]? = some e' → ¬ (e.k = e'.k ∧ e.v = e'.v) := fun e' h => by have := (List.getElem?_eq_some_iff.1 h).1; omega
      refine awp_drawS [23, 24, 25, 26, 27, 28, 29, 30, 31, 32, 33, 34, 35, 36, 37, 38, 39, 40, 41, 42, 43, 44, 45, 46, 47, 48, 49, 50, 51, 52, 53] [_, _, _, _, _, _, _, _, _, _, _, _, _, _, _, _, _, _, _, _, _, _, _, _, _, _, _, _, _, _, _] [] [] TF.mixed rfl rfl rfl ⟨⟨⟨⟨⟨⟨⟨⟨⟨⟨⟨⟨⟨⟨⟨⟨⟨⟨⟨⟨⟨⟨⟨⟨⟨⟨⟨⟨⟨⟨⟨trivial
       , ⟨_, rfl, fun sl hd hr ho => by
         refine r_move (hr 5 _ rfl rfl rfl) rfl ?_
         exact awl_nil ⟨rfl, post_put⟩⟩⟩
       , ⟨_, rfl, fun sl hd hr ho => by
         refine r_ari _ (hd 0 _ rfl rfl rfl) rfl rfl (wrap_id (by first | omega | (simp; omega))) rfl ?_
         exact awl_nil ⟨rfl, post_put⟩⟩⟩
       , ⟨_, rfl, fun sl hd hr ho => by
         refine r_move (hr 4 _ rfl rfl rfl) rfl ?_
         exact awl_nil ⟨rfl, post_put⟩⟩⟩
       , ⟨_, rfl, fun sl hd hr ho => by
         refine r_lenS (hd 2 _ rfl rfl rfl) rfl TF.sl85 rfl ?_
         exact awl_nil ⟨rfl, post_put⟩⟩⟩
       , ⟨_, rfl, fun sl hd hr ho => by
         refine r_cmp (hd 1 _ rfl rfl rfl) (hd 3 _ rfl rfl rfl) rfl rfl ?_
         exact awl_nil ⟨rfl, post_put⟩⟩⟩
       , ⟨_, rfl, fun sl hd hr ho => by
         refine r_move (hd 4 _ rfl rfl rfl) rfl ?_
         exact awl_nil ⟨rfl, post_put⟩⟩⟩
       , ⟨_, rfl, fun sl hd hr ho => by
         refine g_skip rfl (hd 5 _ rfl rfl rfl) hg28 rfl ?_
         exact awl_nil ⟨rfl, post_put⟩⟩⟩
       , ⟨_, rfl, fun sl hd hr ho => by
         refine g_skip rfl (hd 5 _ rfl rfl rfl) hg28 rfl ?_
         exact awl_nil ⟨rfl, post_put⟩⟩⟩
       , ⟨_, rfl, fun sl hd hr ho => by
         refine g_skip rfl (hd 5 _ rfl rfl rfl) hg28 rfl ?_
         exact awl_nil ⟨rfl, post_put⟩⟩⟩
       , ⟨_, rfl, fun sl hd hr ho => by
         refine g_skip rfl (hd 5 _ rfl rfl rfl) hg28 rfl ?_
         exact awl_nil ⟨rfl, post_put⟩⟩⟩
       , ⟨_, rfl, fun sl hd hr ho => by
         refine g_skip rfl (hd 5 _ rfl rfl rfl) hg28 rfl ?_
         exact awl_nil ⟨rfl, post_put⟩⟩⟩
       , ⟨_, rfl, fun sl hd hr ho => by
         refine g_skip rfl (hd 5 _ rfl rfl rfl) hg28 rfl ?_
         exact awl_nil ⟨rfl, post_put⟩⟩⟩
       , ⟨_, rfl, fun sl hd hr ho => by
         refine g_skip rfl (hd 5 _ rfl rfl rfl) hg28 rfl ?_
         exact awl_nil ⟨rfl, post_put⟩⟩⟩
       , ⟨_, rfl, fun sl hd hr ho => by
         refine g_skip rfl (hd 5 _ rfl rfl rfl) hg28 rfl ?_
         exact awl_nil ⟨rfl, post_put⟩⟩⟩
       , ⟨_, rfl, fun sl hd hr ho => by
         refine g_skip rfl (hd 5 _ rfl rfl rfl) hg28 rfl ?_
         exact awl_nil ⟨rfl, post_put⟩⟩⟩
       , ⟨_, rfl, fun sl hd hr ho => by
         refine g_skip rfl (hd 5 _ rfl rfl rfl) hg28 rfl ?_
         exact awl_nil ⟨rfl, post_put⟩⟩⟩
       , ⟨_, rfl, fun sl hd hr ho => by
         refine g_skip rfl (hd 5 _ rfl rfl rfl) hg28 rfl ?_
         exact awl_nil ⟨rfl, post_put⟩⟩⟩
       , ⟨_, rfl, fun sl hd hr ho => by
         refine g_skip rfl (hd 5 _ rfl rfl rfl) hg28 rfl ?_
         exact awl_nil ⟨rfl, post_put⟩⟩⟩
       , ⟨_, rfl, fun sl hd hr ho => by
         refine r_pickF (hd 5 _ rfl rfl rfl) hg28 rfl rfl ?_
         exact awl_nil ⟨rfl, post_put⟩⟩⟩
       , ⟨_, rfl, fun sl hd hr ho => by
         refine r_move (hd 18 _ rfl rfl rfl) rfl ?_
         exact awl_nil ⟨rfl, post_put⟩⟩⟩
       , ⟨_, rfl, fun sl hd hr ho => by
         refine g_skip rfl (hd 19 _ rfl rfl rfl) rfl rfl ?_
         exact awl_nil ⟨rfl, post_put⟩⟩⟩
       , ⟨_, rfl, fun sl hd hr ho => by
         refine g_skip rfl (hd 19 _ rfl rfl rfl) rfl rfl ?_
         exact awl_nil ⟨rfl, post_put⟩⟩⟩
       , ⟨_, rfl, fun sl hd hr ho => by
         refine g_skip rfl (hd 19 _ rfl rfl rfl) rfl rfl ?_
         exact awl_nil ⟨rfl, post_put⟩⟩⟩
       , ⟨_, rfl, fun sl hd hr ho => by
         refine g_skip rfl (hd 19 _ rfl rfl rfl) rfl rfl ?_
         exact awl_nil ⟨rfl, post_put⟩⟩⟩
       , ⟨_, rfl, fun sl hd hr ho => by
         refine g_skip rfl (hd 19 _ rfl rfl rfl) rfl rfl ?_
         exact awl_nil ⟨rfl, post_put⟩⟩⟩
       , ⟨_, rfl, fun sl hd hr ho => by
         refine g_skip rfl (hd 19 _ rfl rfl rfl) rfl rfl ?_
         exact awl_nil ⟨rfl, post_put⟩⟩⟩
       , ⟨_, rfl, fun sl hd hr ho => by
         refine g_skip rfl (hd 19 _ rfl rfl rfl) rfl rfl ?_
         exact awl_nil ⟨rfl, post_put⟩⟩⟩
       , ⟨_, rfl, fun sl hd hr ho => by
         refine g_skip rfl (hd 19 _ rfl rfl rfl) rfl rfl ?_
         exact awl_nil ⟨rfl, post_put⟩⟩⟩
       , ⟨_, rfl, fun sl hd hr ho => by
         refine g_skip rfl (hd 19 _ rfl rfl rfl) rfl rfl ?_
         exact awl_nil ⟨rfl, post_put⟩⟩⟩
       , ⟨_, rfl, fun sl hd hr ho => by
         refine g_skip rfl (hd 19 _ rfl rfl rfl) rfl rfl ?_
         exact awl_nil ⟨rfl, post_put⟩⟩⟩
       , ⟨_, rfl, fun sl hd hr ho => by
         refine g_skip rfl (hd 19 _ rfl rfl rfl) rfl rfl ?_
         exact awl_nil ⟨rfl, post_put⟩⟩⟩
       (by rfl) ?_
      refine g_skip rfl rfl rfl rfl ?_
      refine r_pickF rfl rfl rfl rfl ?_
      refine awl_nil ?_
      refine x_then ?_
      refine awp_condF rfl ?_
      refine awp_skip ?_
      refine x_then ?_
      refine awp_seq ?_
      refine awp_drawSI [58, 59, 60, 61, 62, 63, 64, 65, 66, 67, 68] [_, _, _, _, _, _, _, _, _, _, _] [] [] TF.mixed rfl rfl rfl ⟨⟨⟨⟨⟨⟨⟨⟨⟨⟨⟨trivial
       , ⟨_, rfl, fun sl hd hr ho => by
         refine r_move (hr 0 _ rfl rfl rfl) rfl ?_
         exact awl_nil ⟨rfl, post_put⟩⟩⟩
       , ⟨_, rfl, fun sl hd hr ho => by
         refine r_move (hr 4 _ rfl rfl rfl) rfl ?_
         exact awl_nil ⟨rfl, post_put⟩⟩⟩
       , ⟨_, rfl, fun sl hd hr ho => by
         refine r_move (hr 5 _ rfl rfl rfl) rfl ?_
         exact awl_nil ⟨rfl, post_put⟩⟩⟩
       , ⟨_, rfl, fun sl hd hr ho => by
         refine r_index (hd 1 _ rfl rfl rfl) rfl (hd 2 _ rfl rfl rfl) TF.sl85 TF.sz89 (by omega) (get_map he) rfl ?_
         exact awl_nil ⟨rfl, post_put⟩⟩⟩
       , ⟨_, rfl, fun sl hd hr ho => by
         refine r_fieldcp (hd 3 _ rfl rfl rfl) TF.f89_0 TF.sz47 rfl ?_
         exact awl_nil ⟨rfl, post_put⟩⟩⟩
       , ⟨_, rfl, fun sl hd hr ho => by
         refine r_loadA (hd 4 _ rfl rfl rfl) TF.agg47 TF.sz47 rfl rfl ?_
         exact awl_nil ⟨rfl, post_put⟩⟩⟩
       , ⟨_, rfl, fun sl hd hr ho => by
         refine r_move (hr 4 _ rfl rfl rfl) rfl ?_
         exact awl_nil ⟨rfl, post_put⟩⟩⟩
       , ⟨_, rfl, fun sl hd hr ho => by
         refine r_move (hr 5 _ rfl rfl rfl) rfl ?_
         exact awl_nil ⟨rfl, post_put⟩⟩⟩
       , ⟨_, rfl, fun sl hd hr ho => by
         refine r_index (hd 6 _ rfl rfl rfl) rfl (hd 7 _ rfl rfl rfl) TF.sl85 TF.sz89 (by omega) (get_map he) rfl ?_
         exact awl_nil ⟨rfl, post_put⟩⟩⟩
       , ⟨_, rfl, fun sl hd hr ho => by
         refine r_fieldcp (hd 8 _ rfl rfl rfl) TF.f89_2 TF.sz4 rfl ?_
         exact awl_nil ⟨rfl, post_put⟩⟩⟩
       , ⟨_, rfl, fun sl hd hr ho => by
         refine r_load1 (hd 9 _ rfl rfl rfl) TF.agg4 rfl ?_
         exact awl_nil ⟨rfl, post_put⟩⟩⟩
       (by rfl) (by rfl) ?_
      have hone := tell_one he hno
      obtain ⟨hct, hcd⟩ := drop_cons (hpr.2.symm.trans hone)
      refine r_yieldS hq (un := []) (fun n => Tr n) rfl rfl (.cons (.ev rfl rfl) (.cons (.ev rfl rfl) .nil)) Cs hcs (hY pr (chA (e.k, e.c)) wv hJ ⟨(e.k, e.c), hct, hpr.1, rfl⟩) (by rw [List.append_nil]; exact List.Perm.refl _) (fun n => by rw [List.append_nil]) rfl (fun bb nobjs hJ' => ?_)
      refine awli_op (fun c h => (by cases h)) ?_
      refine r_not rfl rfl ?_
      refine awl_nil ⟨rfl, ?_⟩
      refine awli_nil ?_
      refine x_then ?_
      refine awp_cond rfl (fun hc2 => ?_) (fun hc2 => ?_)
      ·
       have hbb : bb = false := by simpa using hc2
       subst hbb
       have hD2 : D _ _ := hJ'
       refine awp_ret ?_
       refine x_blockR ?_
       refine x_thenR ?_
       refine x_thenR ?_
       refine x_blockR ?_
       exact ⟨(.inl rfl), _, Tr nobjs, .none, ⟨_, nobjs, rfl, .inr hD2⟩, (List.Sublist.refl _), tr_rwS⟩
      ·
       have hbb : bb = true := by simpa using hc2
       subst hbb
       have hJ2 : J _ _ := hJ'
       refine awp_skip ?_
       refine x_block ?_
       refine x_then ?_
       refine awp_region ?_
       refine r_move rfl rfl ?_
       refine r_ari _ rfl rfl rfl (wrap_id (by first | omega | (simp; omega))) rfl ?_
       refine r_assign rfl rfl ?_
       refine awl_nil ?_
       refine x_then ?_
       refine ⟨SE.length - (i + 1), ⟨71, [(0, .a (.v (.func (.yield l0) #[] #[]))), (4, .a (.sl 6 (SE.map En.cs))), (5, .a (.v (.int .i64 (((i + 1) : Int)))))], Tr (nobjs)⟩, ⟨rfl, (Slots.cons rfl (by first | exact .refl _ | exact .nilOwn _ _ | exact .nilSl _ | exact .ownSl _ _ _  | exact SV.le.of_eq (by simp)) (Slots.cons rfl (by first | exact .refl _ | exact .nilOwn _ _ | exact .nilSl _ | exact .ownSl _ _ _  | exact SV.le.of_eq (by simp)) (Slots.cons rfl (by first | exact .refl _ | exact .nilOwn _ _ | exact .nilSl _ | exact .ownSl _ _ _  | exact SV.le.of_eq (by simp)) Slots.nil))), (by first | exact List.Sublist.refl _ | exact .cons_cons _ (.cons _ (.refl _)) | exact List.nil_sublist _ | exact .cons _ (.refl _) | exact .cons _ (.cons _ (.refl _)) | exact .cons _ (.cons _ (.cons _ (.refl _))) | exact .cons _ (.cons _ (.cons _ (.cons _ (.refl _)))) | exact .cons_cons _ (List.nil_sublist _))⟩, (by omega), ⟨i + 1, pr ++ [chA (e.k, e.c)], nobjs, rfl, rfl, (by omega), (betA_next hpr.1 hct hcd), hJ2⟩⟩
    ·
     have hge : SE.length ≤ i := by have := of_decide_eq_false hc0; rw [List.length_map] at this; omega
     refine awp_exit ?_
     refine x_thenE ?_
     refine x_thenE ?_
     refine x_blockE ?_
     exact ⟨(.inr rfl), _, Tr wv, .none, ⟨pr, wv, rfl, .inl ⟨betA_end hpr.1 (hpr.2.symm.trans (by rw [List.drop_of_length_le hge]; rfl)), hJ⟩⟩, (List.Sublist.refl _), tr_rwS⟩
   ·
    subst hL
    have hS0 : True := trivial
    refine awp_region ?_
    refine r_move rfl rfl ?_
    refine r_callP hq (wo := [⟨g, true, .buf 6 ((la ++ lb).map En.cs) cap 89⟩]) (un := Tr wo) rfl rfl (.cons (.ev rfl rfl) (.cons (.ev rfl rfl) .nil)) (aw_sortE hnL (by have := two_len hwa hwb haN hbN hp3.2 hp7.2; rw [List.length_append]; omega) hkl) rfl TF.en39 (List.Perm.refl _) (rfl) (List.nil_sublist _) rfl (fun r nobjs hr => ?_)
    obtain ⟨rfl, rfl⟩ := hr
    rw [hse]
    refine awl_imp (imp_commitB 0 4 (l := (SE.map En.cs)) rfl (by rw [hnL, List.length_map, List.length_map, ← hse, (sortE_spec (l := la ++ lb)).1.length_eq]) rfl) ?_
    refine awl_nil ?_
    refine x_then ?_
    refine awp_seq ?_
    refine awp_region ?_
    refine r_assign rfl rfl ?_
    refine awl_nil ?_
    refine x_then ?_
    refine awp_block ?_
    refine awp_loop (fun nn0 S => ∃ i : Nat, ∃ pr : List (List AV), ∃ wv : List OE, S = ⟨71, [(0, .a (.v (.func (.yield l0) #[] #[]))), (4, .a (.sl 6 (SE.map En.cs))), (5, .a (.v (.int .i64 ((i : Int)))))], Tr wv⟩ ∧ nn0 = SE.length - i ∧ (i ≤ SE.length) ∧ (pr = ((chg a b).take pr.length).map chA ∧ tell (SE.drop i) = (chg a b).drop pr.length) ∧ (J pr wv)) (SE.length - (0)) ⟨71, [(0, .a (.v (.func (.yield l0) #[] #[]))), (4, .a (.sl 6 (SE.map En.cs))), (5, .a (.v (.int .i64 (((0) : Int)))))], Tr (wo)⟩ ⟨rfl, (Slots.cons rfl (by first | exact .refl _ | exact .nilOwn _ _ | exact .nilSl _ | exact .ownSl _ _ _  | exact SV.le.ownEq (by first | rfl | (rw [hS0]; rfl)) | exact SV.le.of_eq (by first | rfl | (rw [hS0]; rfl))) (Slots.cons rfl (by first | exact .refl _ | exact .nilOwn _ _ | exact .nilSl _ | exact .ownSl _ _ _  | exact SV.le.ownEq (by first | rfl | (rw [hS0]; rfl)) | exact SV.le.of_eq (by first | rfl | (rw [hS0]; rfl))) (Slots.cons rfl (by first | exact .refl _ | exact .nilOwn _ _ | exact .nilSl _ | exact .ownSl _ _ _  | exact SV.le.ownEq (by first | rfl | (rw [hS0]; rfl)) | exact SV.le.of_eq (by first | rfl | (rw [hS0]; rfl))) Slots.nil))), (by first | exact List.Sublist.refl _ | exact .cons_cons _ (.cons _ (.refl _)) | exact List.nil_sublist _ | exact .cons _ (.refl _) | exact .cons _ (.cons _ (.refl _)) | exact .cons _ (.cons _ (.cons _ (.refl _))) | exact .cons _ (.cons _ (.cons _ (.cons _ (.refl _)))) | exact .cons_cons _ (List.nil_sublist _))⟩ ⟨0, [], wo, rfl, rfl, Nat.zero_le _, ⟨rfl, by rw [hSE]; rfl⟩, hJ0⟩ ?_
    rintro nn0 _ ⟨i, pr, wv, rfl, rfl, hi, hpr, hJ⟩
    refine awp_seq ?_
    refine awp_seq ?_
    refine awp_region ?_
    refine r_move rfl rfl ?_
    refine r_move rfl rfl ?_
    refine r_lenS rfl rfl TF.sl85 rfl ?_
    refine r_cmp rfl rfl rfl rfl ?_
    refine awl_nil ?_
    refine x_then ?_
    refine awp_cond rfl (fun hc0 => ?_) (fun hc0 => ?_)
    ·
     have hlt : i < SE.length := by have := of_decide_eq_true hc0; rw [List.length_map] at this; omega
     obtain ⟨e, he⟩ := get_lt hlt
     refine awp_skip ?_
     refine x_then ?_
     refine awp_seq ?_
     refine awp_block ?_
     refine awp_seq ?_
     refine awp_seq ?_
     rcases Bool.eq_false_or_eq_true (decide ((i : Int) + 1 < (((SE.map En.cs).length : Nat) : Int))) with hg28 | hg28
     ·
      have hlt2 : i + 1 < SE.length := by have := of_decide_eq_true hg28; rw [List.length_map] at this; omega
      obtain ⟨e', he'⟩ := get_lt hlt2
      rcases Bool.eq_false_or_eq_true (decide (e.k = e'.k)) with hg42 | hg42
      ·
       have hkk : e.k = e'.k := of_decide_eq_true hg42
       refine awp_drawS [23, 24, 25, 26, 27, 28, 29, 30, 31, 32, 33, 34, 35, 36, 37, 38, 39, 40, 41, 42, 43, 44, 45, 46, 47, 48, 49, 50, 51, 52, 53] [_, _, _, _, _, _, _, _, _, _, _, _, _, _, _, _, _, _, _, _, _, _, _, _, _, _, _, _, _, _, _] [] [] TF.mixed rfl rfl rfl ⟨⟨⟨⟨⟨⟨⟨⟨⟨⟨⟨⟨⟨⟨⟨⟨⟨⟨⟨⟨⟨⟨⟨⟨⟨⟨⟨⟨⟨⟨⟨trivial
        , ⟨_, rfl, fun sl hd hr ho => by
          refine r_move (hr 5 _ rfl rfl rfl) rfl ?_
          exact awl_nil ⟨rfl, post_put⟩⟩⟩
        , ⟨_, rfl, fun sl hd hr ho => by
          refine r_ari _ (hd 0 _ rfl rfl rfl) rfl rfl (wrap_id (by first | omega | (simp; omega))) rfl ?_
          exact awl_nil ⟨rfl, post_put⟩⟩⟩
        , ⟨_, rfl, fun sl hd hr ho => by
          refine r_move (hr 4 _ rfl rfl rfl) rfl ?_
          exact awl_nil ⟨rfl, post_put⟩⟩⟩
        , ⟨_, rfl, fun sl hd hr ho => by
          refine r_lenS (hd 2 _ rfl rfl rfl) rfl TF.sl85 rfl ?_
          exact awl_nil ⟨rfl, post_put⟩⟩⟩
        , ⟨_, rfl, fun sl hd hr ho => by
          refine r_cmp (hd 1 _ rfl rfl rfl) (hd 3 _ rfl rfl rfl) rfl rfl ?_
          exact awl_nil ⟨rfl, post_put⟩⟩⟩
        , ⟨_, rfl, fun sl hd hr ho => by
          refine r_move (hd 4 _ rfl rfl rfl) rfl ?_
          exact awl_nil ⟨rfl, post_put⟩⟩⟩
        , ⟨_, rfl, fun sl hd hr ho => by
          refine g_run rfl (hd 5 _ rfl rfl rfl) hg28 ?_
          refine r_move (hr 4 _ rfl rfl rfl) rfl ?_
          exact awl_nil ⟨rfl, post_put⟩⟩⟩
        , ⟨_, rfl, fun sl hd hr ho => by
          refine g_run rfl (hd 5 _ rfl rfl rfl) hg28 ?_
          refine r_move (hr 5 _ rfl rfl rfl) rfl ?_
          exact awl_nil ⟨rfl, post_put⟩⟩⟩
        , ⟨_, rfl, fun sl hd hr ho => by
          refine g_run rfl (hd 5 _ rfl rfl rfl) hg28 ?_
          refine r_index (hd 6 _ rfl rfl rfl) rfl (hd 7 _ rfl rfl rfl) TF.sl85 TF.sz89 (by omega) (get_map he) rfl ?_
          exact awl_nil ⟨rfl, post_put⟩⟩⟩
        , ⟨_, rfl, fun sl hd hr ho => by
          refine g_run rfl (hd 5 _ rfl rfl rfl) hg28 ?_
          refine r_fieldcp (hd 8 _ rfl rfl rfl) TF.f89_0 TF.sz47 rfl ?_
          exact awl_nil ⟨rfl, post_put⟩⟩⟩
        , ⟨_, rfl, fun sl hd hr ho => by
          refine g_run rfl (hd 5 _ rfl rfl rfl) hg28 ?_
          refine r_loadA (hd 9 _ rfl rfl rfl) TF.agg47 TF.sz47 rfl rfl ?_
          exact awl_nil ⟨rfl, post_put⟩⟩⟩
        , ⟨_, rfl, fun sl hd hr ho => by
          refine g_run rfl (hd 5 _ rfl rfl rfl) hg28 ?_
          refine r_move (hr 4 _ rfl rfl rfl) rfl ?_
          exact awl_nil ⟨rfl, post_put⟩⟩⟩
        , ⟨_, rfl, fun sl hd hr ho => by
          refine g_run rfl (hd 5 _ rfl rfl rfl) hg28 ?_
          refine r_move (hr 5 _ rfl rfl rfl) rfl ?_
          exact awl_nil ⟨rfl, post_put⟩⟩⟩
        , ⟨_, rfl, fun sl hd hr ho => by
          refine g_run rfl (hd 5 _ rfl rfl rfl) hg28 ?_
          refine r_ari _ (hd 12 _ rfl rfl rfl) rfl rfl (wrap_id (by first | omega | (simp; omega))) rfl ?_
          exact awl_nil ⟨rfl, post_put⟩⟩⟩
        , ⟨_, rfl, fun sl hd hr ho => by
          refine g_run rfl (hd 5 _ rfl rfl rfl) hg28 ?_
          refine r_index (hd 11 _ rfl rfl rfl) rfl (hd 13 _ rfl rfl rfl) TF.sl85 TF.sz89 (by omega) (get_map he') rfl ?_
          exact awl_nil ⟨rfl, post_put⟩⟩⟩
        , ⟨_, rfl, fun sl hd hr ho => by
          refine g_run rfl (hd 5 _ rfl rfl rfl) hg28 ?_
          refine r_fieldcp (hd 14 _ rfl rfl rfl) TF.f89_0 TF.sz47 rfl ?_
          exact awl_nil ⟨rfl, post_put⟩⟩⟩
        , ⟨_, rfl, fun sl hd hr ho => by
          refine g_run rfl (hd 5 _ rfl rfl rfl) hg28 ?_
          refine r_loadA (hd 15 _ rfl rfl rfl) TF.agg47 TF.sz47 rfl rfl ?_
          exact awl_nil ⟨rfl, post_put⟩⟩⟩
        , ⟨_, rfl, fun sl hd hr ho => by
          refine g_run rfl (hd 5 _ rfl rfl rfl) hg28 ?_
          refine r_feq (hd 10 _ rfl rfl rfl) (hd 16 _ rfl rfl rfl) flat47 (isVal_sp e.k) (isVal_sp e'.k) (Sp.kn _) (Sp.kn _) (decide (e.k = e'.k)) (by rw [decide_eq_true_eq]; exact ⟨fun h => by rw [h], Sp.vs_inj⟩) rfl ?_
          exact awl_nil ⟨rfl, post_put⟩⟩⟩
        , ⟨_, rfl, fun sl hd hr ho => by
          refine r_pickT (hd 5 _ rfl rfl rfl) hg28 (hd 17 _ rfl rfl rfl) rfl ?_
          exact awl_nil ⟨rfl, post_put⟩⟩⟩
        , ⟨_, rfl, fun sl hd hr ho => by
          refine r_move (hd 18 _ rfl rfl rfl) rfl ?_
          exact awl_nil ⟨rfl, post_put⟩⟩⟩
        , ⟨_, rfl, fun sl hd hr ho => by
          refine g_run rfl (hd 19 _ rfl rfl rfl) hg42 ?_
          refine r_move (hr 4 _ rfl rfl rfl) rfl ?_
          exact awl_nil ⟨rfl, post_put⟩⟩⟩
        , ⟨_, rfl, fun sl hd hr ho => by
          refine g_run rfl (hd 19 _ rfl rfl rfl) hg42 ?_
          refine r_move (hr 5 _ rfl rfl rfl) rfl ?_
          exact awl_nil ⟨rfl, post_put⟩⟩⟩
        , ⟨_, rfl, fun sl hd hr ho => by
          refine g_run rfl (hd 19 _ rfl rfl rfl) hg42 ?_
          refine r_index (hd 20 _ rfl rfl rfl) rfl (hd 21 _ rfl rfl rfl) TF.sl85 TF.sz89 (by omega) (get_map he) rfl ?_
          exact awl_nil ⟨rfl, post_put⟩⟩⟩
        , ⟨_, rfl, fun sl hd hr ho => by
          refine g_run rfl (hd 19 _ rfl rfl rfl) hg42 ?_
          refine r_fieldcp (hd 22 _ rfl rfl rfl) TF.f89_1 TF.sz45 rfl ?_
          exact awl_nil ⟨rfl, post_put⟩⟩⟩
        , ⟨_, rfl, fun sl hd hr ho => by
          refine g_run rfl (hd 19 _ rfl rfl rfl) hg42 ?_
          refine r_load1 (hd 23 _ rfl rfl rfl) TF.agg45 rfl ?_
          exact awl_nil ⟨rfl, post_put⟩⟩⟩
        , ⟨_, rfl, fun sl hd hr ho => by
          refine g_run rfl (hd 19 _ rfl rfl rfl) hg42 ?_
          refine r_move (hr 4 _ rfl rfl rfl) rfl ?_
          exact awl_nil ⟨rfl, post_put⟩⟩⟩
        , ⟨_, rfl, fun sl hd hr ho => by
          refine g_run rfl (hd 19 _ rfl rfl rfl) hg42 ?_
          refine r_move (hr 5 _ rfl rfl rfl) rfl ?_
          exact awl_nil ⟨rfl, post_put⟩⟩⟩
        , ⟨_, rfl, fun sl hd hr ho => by
          refine g_run rfl (hd 19 _ rfl rfl rfl) hg42 ?_
          refine r_ari _ (hd 26 _ rfl rfl rfl) rfl rfl (wrap_id (by first | omega | (simp; omega))) rfl ?_
          exact awl_nil ⟨rfl, post_put⟩⟩⟩
        , ⟨_, rfl, fun sl hd hr ho => by
          refine g_run rfl (hd 19 _ rfl rfl rfl) hg42 ?_
          refine r_index (hd 25 _ rfl rfl rfl) rfl (hd 27 _ rfl rfl rfl) TF.sl85 TF.sz89 (by omega) (get_map he') rfl ?_
          exact awl_nil ⟨rfl, post_put⟩⟩⟩
        , ⟨_, rfl, fun sl hd hr ho => by
          refine g_run rfl (hd 19 _ rfl rfl rfl) hg42 ?_
          refine r_fieldcp (hd 28 _ rfl rfl rfl) TF.f89_1 TF.sz45 rfl ?_
          exact awl_nil ⟨rfl, post_put⟩⟩⟩
        , ⟨_, rfl, fun sl hd hr ho => by
          refine g_run rfl (hd 19 _ rfl rfl rfl) hg42 ?_
          refine r_load1 (hd 29 _ rfl rfl rfl) TF.agg45 rfl ?_
          exact awl_nil ⟨rfl, post_put⟩⟩⟩
        (by rfl) ?_
       refine g_run rfl rfl hg42 ?_
       refine r_cmp rfl rfl rfl rfl ?_
       refine r_pickT rfl hg42 rfl rfl ?_
       refine awl_nil ?_
       refine x_then ?_
       refine awp_cond rfl (fun hc1 => ?_) (fun hc1 => ?_)
       ·
        have hvv : e.v = e'.v := by simpa using hc1
        have hstep := tell_step he he' ⟨hkk, hvv⟩
        refine awp_seq ?_
        refine awp_region ?_
        refine r_move rfl rfl ?_
        refine r_ari ((i + 1 : Nat) : Int) rfl rfl rfl (wrap_id (by omega)) rfl ?_
        refine r_assign rfl rfl ?_
        refine awl_nil ?_
        refine x_then ?_
        refine awp_exit ?_
        refine x_thenE ?_
        refine x_blockE ?_
        refine x_then ?_
        refine awp_region ?_
        refine r_move rfl rfl ?_
        refine r_ari _ rfl rfl rfl (wrap_id (by first | omega | (simp; omega))) rfl ?_
        refine r_assign rfl rfl ?_
        refine awl_nil ?_
        refine x_then ?_
        refine ⟨SE.length - (i + 2), ⟨71, [(0, .a (.v (.func (.yield l0) #[] #[]))), (4, .a (.sl 6 (SE.map En.cs))), (5, .a (.v (.int .i64 (((i + 2) : Int)))))], Tr (wv)⟩, ⟨rfl, (Slots.cons rfl (by first | exact .refl _ | exact .nilOwn _ _ | exact .nilSl _ | exact .ownSl _ _ _  | exact SV.le.of_eq (by simp)) (Slots.cons rfl (by first | exact .refl _ | exact .nilOwn _ _ | exact .nilSl _ | exact .ownSl _ _ _  | exact SV.le.of_eq (by simp)) (Slots.cons rfl (by first | exact .refl _ | exact .nilOwn _ _ | exact .nilSl _ | exact .ownSl _ _ _  | exact SV.le.of_eq (by simp)) Slots.nil))), (by first | exact List.Sublist.refl _ | exact .cons_cons _ (.cons _ (.refl _)) | exact List.nil_sublist _ | exact .cons _ (.refl _) | exact .cons _ (.cons _ (.refl _)) | exact .cons _ (.cons _ (.cons _ (.refl _))) | exact .cons _ (.cons _ (.cons _ (.cons _ (.refl _)))) | exact .cons_cons _ (List.nil_sublist _))⟩, (by omega), ⟨i + 2, pr, wv, rfl, rfl, (by omega), ⟨hpr.1, by rw [← hstep]; exact hpr.2⟩, hJ⟩⟩
       ·
        have hno : ∀ x, SE[i + 1]? = some x → ¬ (e.k = x.k ∧ e.v = x.v) := fun x h => by rw [he'] at h; cases h; exact fun h => by have := hc1; simp at this; exact this h.2
        refine awp_skip ?_
        refine x_then ?_
        refine awp_seq ?_
        refine awp_drawSI [58, 59, 60, 61, 62, 63, 64, 65, 66, 67, 68] [_, _, _, _, _, _, _, _, _, _, _] [] [] TF.mixed rfl rfl rfl ⟨⟨⟨⟨⟨⟨⟨⟨⟨⟨⟨trivial
         , ⟨_, rfl, fun sl hd hr ho => by
           refine r_move (hr 0 _ rfl rfl rfl) rfl ?_
           exact awl_nil ⟨rfl, post_put⟩⟩⟩
         , ⟨_, rfl, fun sl hd hr ho => by
           refine r_move (hr 4 _ rfl rfl rfl) rfl ?_
           exact awl_nil ⟨rfl, post_put⟩⟩⟩
         , ⟨_, rfl, fun sl hd hr ho => by
           refine r_move (hr 5 _ rfl rfl rfl) rfl ?_
           exact awl_nil ⟨rfl, post_put⟩⟩⟩
         , ⟨_, rfl, fun sl hd hr ho => by
           refine r_index (hd 1 _ rfl rfl rfl) rfl (hd 2 _ rfl rfl rfl) TF.sl85 TF.sz89 (by omega) (get_map he) rfl ?_
           exact awl_nil ⟨rfl, post_put⟩⟩⟩
         , ⟨_, rfl, fun sl hd hr ho => by
           refine r_fieldcp (hd 3 _ rfl rfl rfl) TF.f89_0 TF.sz47 rfl ?_
           exact awl_nil ⟨rfl, post_put⟩⟩⟩
         , ⟨_, rfl, fun sl hd hr ho => by
           refine r_loadA (hd 4 _ rfl rfl rfl) TF.agg47 TF.sz47 rfl rfl ?_
           exact awl_nil ⟨rfl, post_put⟩⟩⟩
         , ⟨_, rfl, fun sl hd hr ho => by
           refine r_move (hr 4 _ rfl rfl rfl) rfl ?_
           exact awl_nil ⟨rfl, post_put⟩⟩⟩
         , ⟨_, rfl, fun sl hd hr ho => by
           refine r_move (hr 5 _ rfl rfl rfl) rfl ?_
           exact awl_nil ⟨rfl, post_put⟩⟩⟩
         , ⟨_, rfl, fun sl hd hr ho => by
           refine r_index (hd 6 _ rfl rfl rfl) rfl (hd 7 _ rfl rfl rfl) TF.sl85 TF.sz89 (by omega) (get_map he) rfl ?_
           exact awl_nil ⟨rfl, post_put⟩⟩⟩
         , ⟨_, rfl, fun sl hd hr ho => by
           refine r_fieldcp (hd 8 _ rfl rfl rfl) TF.f89_2 TF.sz4 rfl ?_
           exact awl_nil ⟨rfl, post_put⟩⟩⟩
         , ⟨_, rfl, fun sl hd hr ho => by
           refine r_load1 (hd 9 _ rfl rfl rfl) TF.agg4 rfl ?_
           exact awl_nil ⟨rfl, post_put⟩⟩⟩
         (by rfl) (by rfl) ?_
        have hone := tell_one he hno
        obtain ⟨hct, hcd⟩ := drop_cons (hpr.2.symm.trans hone)
        refine r_yieldS hq (un := []) (fun n => Tr n) rfl rfl (.cons (.ev rfl rfl) (.cons (.ev rfl rfl) .nil)) Cs hcs (hY pr (chA (e.k, e.c)) wv hJ ⟨(e.k, e.c), hct, hpr.1, rfl⟩) (by rw [List.append_nil]; exact List.Perm.refl _) (fun n => by rw [List.append_nil]) rfl (fun bb nobjs hJ' => ?_)
        refine awli_op (fun c h => (by cases h)) ?_
        refine r_not rfl rfl ?_
        refine awl_nil ⟨rfl, ?_⟩
        refine awli_nil ?_
        refine x_then ?_
        refine awp_cond rfl (fun hc2 => ?_) (fun hc2 => ?_)
        ·
         have hbb : bb = false := by simpa using hc2
         subst hbb
         have hD2 : D _ _ := hJ'
         refine awp_ret ?_
         refine x_blockR ?_
         refine x_thenR ?_
         refine x_thenR ?_
         refine x_blockR ?_
         exact ⟨(.inl rfl), _, Tr nobjs, .none, ⟨_, nobjs, rfl, .inr hD2⟩, (List.Sublist.refl _), tr_rwS⟩
        ·
         have hbb : bb = true := by simpa using hc2
         subst hbb
         have hJ2 : J _ _ := hJ'
         refine awp_skip ?_
         refine x_block ?_
         refine x_then ?_
         refine awp_region ?_
         refine r_move rfl rfl ?_
         refine r_ari _ rfl rfl rfl (wrap_id (by first | omega | (simp; omega))) rfl ?_
         refine r_assign rfl rfl ?_
         refine awl_nil ?_
         refine x_then ?_
         refine ⟨SE.length - (i + 1), ⟨71, [(0, .a (.v (.func (.yield l0) #[] #[]))), (4, .a (.sl 6 (SE.map En.cs))), (5, .a (.v (.int .i64 (((i + 1) : Int)))))], Tr (nobjs)⟩, ⟨rfl, (Slots.cons rfl (by first | exact .refl _ | exact .nilOwn _ _ | exact .nilSl _ | exact .ownSl _ _ _  | exact SV.le.of_eq (by simp)) (Slots.cons rfl (by first | exact .refl _ | exact .nilOwn _ _ | exact .nilSl _ | exact .ownSl _ _ _  | exact SV.le.of_eq (by simp)) (Slots.cons rfl (by first | exact .refl _ | exact .nilOwn _ _ | exact .nilSl _ | exact .ownSl _ _ _  | exact SV.le.of_eq (by simp)) Slots.nil))), (by first | exact List.Sublist.refl _ | exact .cons_cons _ (.cons _ (.refl _)) | exact List.nil_sublist _ | exact .cons _ (.refl _) | exact .cons _ (.cons _ (.refl _)) | exact .cons _ (.cons _ (.cons _ (.refl _))) | exact .cons _ (.cons _ (.cons _ (.cons _ (.refl _)))) | exact .cons_cons _ (List.nil_sublist _))⟩, (by omega), ⟨i + 1, pr ++ [chA (e.k, e.c)], nobjs, rfl, rfl, (by omega), (betA_next hpr.1 hct hcd), hJ2⟩⟩
      ·
       have hkk : ¬ e.k = e'.k := of_decide_eq_false hg42
       have hno : ∀ x, SE[i + 1]? = some x → ¬ (e.k = x.k ∧ e.v = x.v) := fun x h => by rw [he'] at h; cases h; exact fun h => hkk h.1
       refine awp_drawS [23, 24, 25, 26, 27, 28, 29, 30, 31, 32, 33, 34, 35, 36, 37, 38, 39, 40, 41, 42, 43, 44, 45, 46, 47, 48, 49, 50, 51, 52, 53] [_, _, _, _, _, _, _, _, _, _, _, _, _, _, _, _, _, _, _, _, _, _, _, _, _, _, _, _, _, _, _] [] [] TF.mixed rfl rfl rfl ⟨⟨⟨⟨⟨⟨⟨⟨⟨⟨⟨⟨⟨⟨⟨⟨⟨⟨⟨⟨⟨⟨⟨⟨⟨⟨⟨⟨⟨⟨⟨trivial
        , ⟨_, rfl, fun sl hd hr ho => by
          refine r_move (hr 5 _ rfl rfl rfl) rfl ?_
          exact awl_nil ⟨rfl, post_put⟩⟩⟩
        , ⟨_, rfl, fun sl hd hr ho => by
          refine r_ari _ (hd 0 _ rfl rfl rfl) rfl rfl (wrap_id (by first | omega | (simp; omega))) rfl ?_
          exact awl_nil ⟨rfl, post_put⟩⟩⟩
        , ⟨_, rfl, fun sl hd hr ho => by
          refine r_move (hr 4 _ rfl rfl rfl) rfl ?_
          exact awl_nil ⟨rfl, post_put⟩⟩⟩
        , ⟨_, rfl, fun sl hd hr ho => by
          refine r_lenS (hd 2 _ rfl rfl rfl) rfl TF.sl85 rfl ?_
          exact awl_nil ⟨rfl, post_put⟩⟩⟩
        , ⟨_, rfl, fun sl hd hr ho => by
          refine r_cmp (hd 1 _ rfl rfl rfl) (hd 3 _ rfl rfl rfl) rfl rfl ?_
          exact awl_nil ⟨rfl, post_put⟩⟩⟩
        , ⟨_, rfl, fun sl hd hr ho => by
          refine r_move (hd 4 _ rfl rfl rfl) rfl ?_
          exact awl_nil ⟨rfl, post_put⟩⟩⟩
        , ⟨_, rfl, fun sl hd hr ho => by
          refine g_run rfl (hd 5 _ rfl rfl rfl) hg28 ?_
          refine r_move (hr 4 _ rfl rfl rfl) rfl ?_
          exact awl_nil ⟨rfl, post_put⟩⟩⟩
        , ⟨_, rfl, fun sl hd hr ho => by
          refine g_run rfl (hd 5 _ rfl rfl rfl) hg28 ?_
          refine r_move (hr 5 _ rfl rfl rfl) rfl ?_
          exact awl_nil ⟨rfl, post_put⟩⟩⟩
        , ⟨_, rfl, fun sl hd hr ho => by
          refine g_run rfl (hd 5 _ rfl rfl rfl) hg28 ?_
          refine r_index (hd 6 _ rfl rfl rfl) rfl (hd 7 _ rfl rfl rfl) TF.sl85 TF.sz89 (by omega) (get_map he) rfl ?_
          exact awl_nil ⟨rfl, post_put⟩⟩⟩
        , ⟨_, rfl, fun sl hd hr ho => by
          refine g_run rfl (hd 5 _ rfl rfl rfl) hg28 ?_
          refine r_fieldcp (hd 8 _ rfl rfl rfl) TF.f89_0 TF.sz47 rfl ?_
          exact awl_nil ⟨rfl, post_put⟩⟩⟩
        , ⟨_, rfl, fun sl hd hr ho => by
          refine g_run rfl (hd 5 _ rfl rfl rfl) hg28 ?_
          refine r_loadA (hd 9 _ rfl rfl rfl) TF.agg47 TF.sz47 rfl rfl ?_
          exact awl_nil ⟨rfl, post_put⟩⟩⟩
        , ⟨_, rfl, fun sl hd hr ho => by
          refine g_run rfl (hd 5 _ rfl rfl rfl) hg28 ?_
          refine r_move (hr 4 _ rfl rfl rfl) rfl ?_
          exact awl_nil ⟨rfl, post_put⟩⟩⟩
        , ⟨_, rfl, fun sl hd hr ho => by
          refine g_run rfl (hd 5 _ rfl rfl rfl) hg28 ?_
          refine r_move (hr 5 _ rfl rfl rfl) rfl ?_
          exact awl_nil ⟨rfl, post_put⟩⟩⟩
        , ⟨_, rfl, fun sl hd hr ho => by
          refine g_run rfl (hd 5 _ rfl rfl rfl) hg28 ?_
          refine r_ari _ (hd 12 _ rfl rfl rfl) rfl rfl (wrap_id (by first | omega | (simp; omega))) rfl ?_
          exact awl_nil ⟨rfl, post_put⟩⟩⟩
        , ⟨_, rfl, fun sl hd hr ho => by
          refine g_run rfl (hd 5 _ rfl rfl rfl) hg28 ?_
          refine r_index (hd 11 _ rfl rfl rfl) rfl (hd 13 _ rfl rfl rfl) TF.sl85 TF.sz89 (by omega) (get_map he') rfl ?_
          exact awl_nil ⟨rfl, post_put⟩⟩⟩
        , ⟨_, rfl, fun sl hd hr ho => by
          refine g_run rfl (hd 5 _ rfl rfl rfl) hg28 ?_
          refine r_fieldcp (hd 14 _ rfl rfl rfl) TF.f89_0 TF.sz47 rfl ?_
          exact awl_nil ⟨rfl, post_put⟩⟩⟩
        , ⟨_, rfl, fun sl hd hr ho => by
          refine g_run rfl (hd 5 _ rfl rfl rfl) hg28 ?_
          refine r_loadA (hd 15 _ rfl rfl rfl) TF.agg47 TF.sz47 rfl rfl ?_
          exact awl_nil ⟨rfl, post_put⟩⟩⟩
        , ⟨_, rfl, fun sl hd hr ho => by
          refine g_run rfl (hd 5 _ rfl rfl rfl) hg28 ?_
          refine r_feq (hd 10 _ rfl rfl rfl) (hd 16 _ rfl rfl rfl) flat47 (isVal_sp e.k) (isVal_sp e'.k) (Sp.kn _) (Sp.kn _) (decide (e.k = e'.k)) (by rw [decide_eq_true_eq]; exact ⟨fun h => by rw [h], Sp.vs_inj⟩) rfl ?_
          exact awl_nil ⟨rfl, post_put⟩⟩⟩
        , ⟨_, rfl, fun sl hd hr ho => by
          refine r_pickT (hd 5 _ rfl rfl rfl) hg28 (hd 17 _ rfl rfl rfl) rfl ?_
          exact awl_nil ⟨rfl, post_put⟩⟩⟩
        , ⟨_, rfl, fun sl hd hr ho => by
          refine r_move (hd 18 _ rfl rfl rfl) rfl ?_
          exact awl_nil ⟨rfl, post_put⟩⟩⟩
        , ⟨_, rfl, fun sl hd hr ho => by
          refine g_skip rfl (hd 19 _ rfl rfl rfl) hg42 rfl ?_
          exact awl_nil ⟨rfl, post_put⟩⟩⟩
        , ⟨_, rfl, fun sl hd hr ho => by
          refine g_skip rfl (hd 19 _ rfl rfl rfl) hg42 rfl ?_
          exact awl_nil ⟨rfl, post_put⟩⟩⟩
        , ⟨_, rfl, fun sl hd hr ho => by
          refine g_skip rfl (hd 19 _ rfl rfl rfl) hg42 rfl ?_
          exact awl_nil ⟨rfl, post_put⟩⟩⟩
        , ⟨_, rfl, fun sl hd hr ho => by
          refine g_skip rfl (hd 19 _ rfl rfl rfl) hg42 rfl ?_
          exact awl_nil ⟨rfl, post_put⟩⟩⟩
        , ⟨_, rfl, fun sl hd hr ho => by
          refine g_skip rfl (hd 19 _ rfl rfl rfl) hg42 rfl ?_
          exact awl_nil ⟨rfl, post_put⟩⟩⟩
        , ⟨_, rfl, fun sl hd hr ho => by
          refine g_skip rfl (hd 19 _ rfl rfl rfl) hg42 rfl ?_
          exact awl_nil ⟨rfl, post_put⟩⟩⟩
        , ⟨_, rfl, fun sl hd hr ho => by
          refine g_skip rfl (hd 19 _ rfl rfl rfl) hg42 rfl ?_
          exact awl_nil ⟨rfl, post_put⟩⟩⟩
        , ⟨_, rfl, fun sl hd hr ho => by
          refine g_skip rfl (hd 19 _ rfl rfl rfl) hg42 rfl ?_
          exact awl_nil ⟨rfl, post_put⟩⟩⟩
        , ⟨_, rfl, fun sl hd hr ho => by
          refine g_skip rfl (hd 19 _ rfl rfl rfl) hg42 rfl ?_
          exact awl_nil ⟨rfl, post_put⟩⟩⟩
        , ⟨_, rfl, fun sl hd hr ho => by
          refine g_skip rfl (hd 19 _ rfl rfl rfl) hg42 rfl ?_
          exact awl_nil ⟨rfl, post_put⟩⟩⟩
        , ⟨_, rfl, fun sl hd hr ho => by
          refine g_skip rfl (hd 19 _ rfl rfl rfl) hg42 rfl ?_
          exact awl_nil ⟨rfl, post_put⟩⟩⟩
        (by rfl) ?_
       refine g_skip rfl rfl hg42 rfl ?_
       refine r_pickF rfl hg42 rfl rfl ?_
       refine awl_nil ?_
       refine x_then ?_
       refine awp_condF rfl ?_
       refine awp_skip ?_
       refine x_then ?_
       refine awp_seq ?_
       refine awp_drawSI [58, 59, 60, 61, 62, 63, 64, 65, 66, 67, 68] [_, _, _, _, _, _, _, _, _, _, _] [] [] TF.mixed rfl rfl rfl ⟨⟨⟨⟨⟨⟨⟨⟨⟨⟨⟨trivial
        , ⟨_, rfl, fun sl hd hr ho => by
          refine r_move (hr 0 _ rfl rfl rfl) rfl ?_
          exact awl_nil ⟨rfl, post_put⟩⟩⟩
        , ⟨_, rfl, fun sl hd hr ho => by
          refine r_move (hr 4 _ rfl rfl rfl) rfl ?_
          exact awl_nil ⟨rfl, post_put⟩⟩⟩
        , ⟨_, rfl, fun sl hd hr ho => by
          refine r_move (hr 5 _ rfl rfl rfl) rfl ?_
          exact awl_nil ⟨rfl, post_put⟩⟩⟩
        , ⟨_, rfl, fun sl hd hr ho => by
          refine r_index (hd 1 _ rfl rfl rfl) rfl (hd 2 _ rfl rfl rfl) TF.sl85 TF.sz89 (by omega) (get_map he) rfl ?_
          exact awl_nil ⟨rfl, post_put⟩⟩⟩
        , ⟨_, rfl, fun sl hd hr ho => by
          refine r_fieldcp (hd 3 _ rfl rfl rfl) TF.f89_0 TF.sz47 rfl ?_
          exact awl_nil ⟨rfl, post_put⟩⟩⟩
        , ⟨_, rfl, fun sl hd hr ho => by
          refine r_loadA (hd 4 _ rfl rfl rfl) TF.agg47 TF.sz47 rfl rfl ?_
          exact awl_nil ⟨rfl, post_put⟩⟩⟩
        , ⟨_, rfl, fun sl hd hr ho => by
          refine r_move (hr 4 _ rfl rfl rfl) rfl ?_
          exact awl_nil ⟨rfl, post_put⟩⟩⟩
        , ⟨_, rfl, fun sl hd hr ho => by
          refine r_move (hr 5 _ rfl rfl rfl) rfl ?_
          exact awl_nil ⟨rfl, post_put⟩⟩⟩
        , ⟨_, rfl, fun sl hd hr ho => by
          refine r_index (hd 6 _ rfl rfl rfl) rfl (hd 7 _ rfl rfl rfl) TF.sl85 TF.sz89 (by omega) (get_map he) rfl ?_
          exact awl_nil ⟨rfl, post_put⟩⟩⟩
        , ⟨_, rfl, fun sl hd hr ho => by
          refine r_fieldcp (hd 8 _ rfl rfl rfl) TF.f89_2 TF.sz4 rfl ?_
          exact awl_nil ⟨rfl, post_put⟩⟩⟩
        , ⟨_, rfl, fun sl hd hr ho => by
          refine r_load1 (hd 9 _ rfl rfl rfl) TF.agg4 rfl ?_
          exact awl_nil ⟨rfl, post_put⟩⟩⟩
        (by rfl) (by rfl) ?_
       have hone := tell_one he hno
       obtain ⟨hct, hcd⟩ := drop_cons (hpr.2.symm.trans hone)
       refine r_yieldS hq (un := []) (fun n => Tr n) rfl rfl (.cons (.ev rfl rfl) (.cons (.ev rfl rfl) .nil)) Cs hcs (hY pr (chA (e.k, e.c)) wv hJ ⟨(e.k, e.c), hct, hpr.1, rfl⟩) (by rw [List.append_nil]; exact List.Perm.refl _) (fun n => by rw [List.append_nil]) rfl (fun bb nobjs hJ' => ?_)
       refine awli_op (fun c h => (by cases h)) ?_
       refine r_not rfl rfl ?_
       refine awl_nil ⟨rfl, ?_⟩
       refine awli_nil ?_
       refine x_then ?_
       refine awp_cond rfl (fun hc2 => ?_) (fun hc2 => ?_)
       ·
        have hbb : bb = false := by simpa using hc2
        subst hbb
        have hD2 : D _ _ := hJ'
        refine awp_ret ?_
        refine x_blockR ?_
        refine x_thenR ?_
        refine x_thenR ?_
        refine x_blockR ?_
        exact ⟨(.inl rfl), _, Tr nobjs, .none, ⟨_, nobjs, rfl, .inr hD2⟩, (List.Sublist.refl _), tr_rwS⟩
       ·
        have hbb : bb = true := by simpa using hc2
        subst hbb
        have hJ2 : J _ _ := hJ'
        refine awp_skip ?_
        refine x_block ?_
        refine x_then ?_
        refine awp_region ?_
        refine r_move rfl rfl ?_
        refine r_ari _ rfl rfl rfl (wrap_id (by first | omega | (simp; omega))) rfl ?_
        refine r_assign rfl rfl ?_
        refine awl_nil ?_
        refine x_then ?_
        refine ⟨SE.length - (i + 1), ⟨71, [(0, .a (.v (.func (.yield l0) #[] #[]))), (4, .a (.sl 6 (SE.map En.cs))), (5, .a (.v (.int .i64 (((i + 1) : Int)))))], Tr (nobjs)⟩, ⟨rfl, (Slots.cons rfl (by first | exact .refl _ | exact .nilOwn _ _ | exact .nilSl _ | exact .ownSl _ _ _  | exact SV.le.of_eq (by simp)) (Slots.cons rfl (by first | exact .refl _ | exact .nilOwn _ _ | exact .nilSl _ | exact .ownSl _ _ _  | exact SV.le.of_eq (by simp)) (Slots.cons rfl (by first | exact .refl _ | exact .nilOwn _ _ | exact .nilSl _ | exact .ownSl _ _ _  | exact SV.le.of_eq (by simp)) Slots.nil))), (by first | exact List.Sublist.refl _ | exact .cons_cons _ (.cons _ (.refl _)) | exact List.nil_sublist _ | exact .cons _ (.refl _) | exact .cons _ (.cons _ (.refl _)) | exact .cons _ (.cons _ (.cons _ (.refl _))) | exact .cons _ (.cons _ (.cons _ (.cons _ (.refl _)))) | exact .cons_cons _ (List.nil_sublist _))⟩, (by omega), ⟨i + 1, pr ++ [chA (e.k, e.c)], nobjs, rfl, rfl, (by omega), (betA_next hpr.1 hct hcd), hJ2⟩⟩
     ·
      have hge2 : SE.length ≤ i + 1 := by have := of_decide_eq_false hg28; rw [List.length_map] at this; omega
      have hno : ∀ e', SE[i + 1]? = some e' → ¬ (e.k = e'.k ∧ e.v = e'.v) := fun e' h => by have := (List.getElem?_eq_some_iff.1 h).1; omega
      refine awp_drawS [23, 24, 25, 26, 27, 28, 29, 30, 31, 32, 33, 34, 35, 36, 37, 38, 39, 40, 41, 42, 43, 44, 45, 46, 47, 48, 49, 50, 51, 52, 53] [_, _, _, _, _, _, _, _, _, _, _, _, _, _, _, _, _, _, _, _, _, _, _, _, _, _, _, _, _, _, _] [] [] TF.mixed rfl rfl rfl ⟨⟨⟨⟨⟨⟨⟨⟨⟨⟨⟨⟨⟨⟨⟨⟨⟨⟨⟨⟨⟨⟨⟨⟨⟨⟨⟨⟨⟨⟨⟨trivial
       , ⟨_, rfl, fun sl hd hr ho => by
         refine r_move (hr 5 _ rfl rfl rfl) rfl ?_
         exact awl_nil ⟨rfl, post_put⟩⟩⟩
       , ⟨_, rfl, fun sl hd hr ho => by
         refine r_ari _ (hd 0 _ rfl rfl rfl) rfl rfl (wrap_id (by first | omega | (simp; omega))) rfl ?_
         exact awl_nil ⟨rfl, post_put⟩⟩⟩
       , ⟨_, rfl, fun sl hd hr ho => by
         refine r_move (hr 4 _ rfl rfl rfl) rfl ?_
         exact awl_nil ⟨rfl, post_put⟩⟩⟩
       , ⟨_, rfl, fun sl hd hr ho => by
         refine r_lenS (hd 2 _ rfl rfl rfl) rfl TF.sl85 rfl ?_
         exact awl_nil ⟨rfl, post_put⟩⟩⟩
       , ⟨_, rfl, fun sl hd hr ho => by
         refine r_cmp (hd 1 _ rfl rfl rfl) (hd 3 _ rfl rfl rfl) rfl rfl ?_
         exact awl_nil ⟨rfl, post_put⟩⟩⟩
       , ⟨_, rfl, fun sl hd hr ho => by
         refine r_move (hd 4 _ rfl rfl rfl) rfl ?_
         exact awl_nil ⟨rfl, post_put⟩⟩⟩
       , ⟨_, rfl, fun sl hd hr ho => by
         refine g_skip rfl (hd 5 _ rfl rfl rfl) hg28 rfl ?_
         exact awl_nil ⟨rfl, post_put⟩⟩⟩
       , ⟨_, rfl, fun sl hd hr ho => by
         refine g_skip rfl (hd 5 _ rfl rfl rfl) hg28 rfl ?_
         exact awl_nil ⟨rfl, post_put⟩⟩⟩
       , ⟨_, rfl, fun sl hd hr ho => by
         refine g_skip rfl (hd 5 _ rfl rfl rfl) hg28 rfl ?_
         exact awl_nil ⟨rfl, post_put⟩⟩⟩
       , ⟨_, rfl, fun sl hd hr ho => by
         refine g_skip rfl (hd 5 _ rfl rfl rfl) hg28 rfl ?_
         exact awl_nil ⟨rfl, post_put⟩⟩⟩
       , ⟨_, rfl, fun sl hd hr ho => by
         refine g_skip rfl (hd 5 _ rfl rfl rfl) hg28 rfl ?_
         exact awl_nil ⟨rfl, post_put⟩⟩⟩
       , ⟨_, rfl, fun sl hd hr ho => by
         refine g_skip rfl (hd 5 _ rfl rfl rfl) hg28 rfl ?_
         exact awl_nil ⟨rfl, post_put⟩⟩⟩
       , ⟨_, rfl, fun sl hd hr ho => by
         refine g_skip rfl (hd 5 _ rfl rfl rfl) hg28 rfl ?_
         exact awl_nil ⟨rfl, post_put⟩⟩⟩
       , ⟨_, rfl, fun sl hd hr ho => by
         refine g_skip rfl (hd 5 _ rfl rfl rfl) hg28 rfl ?_
         exact awl_nil ⟨rfl, post_put⟩⟩⟩
       , ⟨_, rfl, fun sl hd hr ho => by
         refine g_skip rfl (hd 5 _ rfl rfl rfl) hg28 rfl ?_
         exact awl_nil ⟨rfl, post_put⟩⟩⟩
       , ⟨_, rfl, fun sl hd hr ho => by
         refine g_skip rfl (hd 5 _ rfl rfl rfl) hg28 rfl ?_
         exact awl_nil ⟨rfl, post_put⟩⟩⟩
       , ⟨_, rfl, fun sl hd hr ho => by
         refine g_skip rfl (hd 5 _ rfl rfl rfl) hg28 rfl ?_
         exact awl_nil ⟨rfl, post_put⟩⟩⟩
       , ⟨_, rfl, fun sl hd hr ho => by
         refine g_skip rfl (hd 5 _ rfl rfl rfl) hg28 rfl ?_
         exact awl_nil ⟨rfl, post_put⟩⟩⟩
       , ⟨_, rfl, fun sl hd hr ho => by
         refine r_pickF (hd 5 _ rfl rfl rfl) hg28 rfl rfl ?_
         exact awl_nil ⟨rfl, post_put⟩⟩⟩
       , ⟨_, rfl, fun sl hd hr ho => by
         refine r_move (hd 18 _ rfl rfl rfl) rfl ?_
         exact awl_nil ⟨rfl, post_put⟩⟩⟩
       , ⟨_, rfl, fun sl hd hr ho => by
         refine g_skip rfl (hd 19 _ rfl rfl rfl) rfl rfl ?_
         exact awl_nil ⟨rfl, post_put⟩⟩⟩
       , ⟨_, rfl, fun sl hd hr ho => by
         refine g_skip rfl (hd 19 _ rfl rfl rfl) rfl rfl ?_
         exact awl_nil ⟨rfl, post_put⟩⟩⟩
       , ⟨_, rfl, fun sl hd hr ho => by
         refine g_skip rfl (hd 19 _ rfl rfl rfl) rfl rfl ?_
         exact awl_nil ⟨rfl, post_put⟩⟩⟩
       , ⟨_, rfl, fun sl hd hr ho => by
         refine g_skip rfl (hd 19 _ rfl rfl rfl) rfl rfl ?_
         exact awl_nil ⟨rfl, post_put⟩⟩⟩
       , ⟨_, rfl, fun sl hd hr ho => by
         refine g_skip rfl (hd 19 _ rfl rfl rfl) rfl rfl ?_
         exact awl_nil ⟨rfl, post_put⟩⟩⟩
       , ⟨_, rfl, fun sl hd hr ho => by
         refine g_skip rfl (hd 19 _ rfl rfl rfl) rfl rfl ?_
         exact awl_nil ⟨rfl, post_put⟩⟩⟩
       , ⟨_, rfl, fun sl hd hr ho => by
         refine g_skip rfl (hd 19 _ rfl rfl rfl) rfl rfl ?_
         exact awl_nil ⟨rfl, post_put⟩⟩⟩
       , ⟨_, rfl, fun sl hd hr ho => by
         refine g_skip rfl (hd 19 _ rfl rfl rfl) rfl rfl ?_
         exact awl_nil ⟨rfl, post_put⟩⟩⟩
       , ⟨_, rfl, fun sl hd hr ho => by
         refine g_skip rfl (hd 19 _ rfl rfl rfl) rfl rfl ?_
         exact awl_nil ⟨rfl, post_put⟩⟩⟩
       , ⟨_, rfl, fun sl hd hr ho => by
         refine g_skip rfl (hd 19 _ rfl rfl rfl) rfl rfl ?_
         exact awl_nil ⟨rfl, post_put⟩⟩⟩
       , ⟨_, rfl, fun sl hd hr ho => by
         refine g_skip rfl (hd 19 _ rfl rfl rfl) rfl rfl ?_
         exact awl_nil ⟨rfl, post_put⟩⟩⟩
       (by rfl) ?_
      refine g_skip rfl rfl rfl rfl ?_
      refine r_pickF rfl rfl rfl rfl ?_
      refine awl_nil ?_
      refine x_then ?_
      refine awp_condF rfl ?_
      refine awp_skip ?_
      refine x_then ?_
      refine awp_seq ?_
      refine awp_drawSI [58, 59, 60, 61, 62, 63, 64, 65, 66, 67, 68] [_, _, _, _, _, _, _, _, _, _, _] [] [] TF.mixed rfl rfl rfl ⟨⟨⟨⟨⟨⟨⟨⟨⟨⟨⟨trivial
       , ⟨_, rfl, fun sl hd hr ho => by
         refine r_move (hr 0 _ rfl rfl rfl) rfl ?_
         exact awl_nil ⟨rfl, post_put⟩⟩⟩
       , ⟨_, rfl, fun sl hd hr ho => by
         refine r_move (hr 4 _ rfl rfl rfl) rfl ?_
         exact awl_nil ⟨rfl, post_put⟩⟩⟩
       , ⟨_, rfl, fun sl hd hr ho => by
         refine r_move (hr 5 _ rfl rfl rfl) rfl ?_
         exact awl_nil ⟨rfl, post_put⟩⟩⟩
       , ⟨_, rfl, fun sl hd hr ho => by
         refine r_index (hd 1 _ rfl rfl rfl) rfl (hd 2 _ rfl rfl rfl) TF.sl85 TF.sz89 (by omega) (get_map he) rfl ?_
         exact awl_nil ⟨rfl, post_put⟩⟩⟩
       , ⟨_, rfl, fun sl hd hr ho => by
         refine r_fieldcp (hd 3 _ rfl rfl rfl) TF.f89_0 TF.sz47 rfl ?_
         exact awl_nil ⟨rfl, post_put⟩⟩⟩
       , ⟨_, rfl, fun sl hd hr ho => by
         refine r_loadA (hd 4 _ rfl rfl rfl) TF.agg47 TF.sz47 rfl rfl ?_
         exact awl_nil ⟨rfl, post_put⟩⟩⟩
       , ⟨_, rfl, fun sl hd hr ho => by
         refine r_move (hr 4 _ rfl rfl rfl) rfl ?_
         exact awl_nil ⟨rfl, post_put⟩⟩⟩
       , ⟨_, rfl, fun sl hd hr ho => by
         refine r_move (hr 5 _ rfl rfl rfl) rfl ?_
         exact awl_nil ⟨rfl, post_put⟩⟩⟩
       , ⟨_, rfl, fun sl hd hr ho => by
         refine r_index (hd 6 _ rfl rfl rfl) rfl (hd 7 _ rfl rfl rfl) TF.sl85 TF.sz89 (by omega) (get_map he) rfl ?_
         exact awl_nil ⟨rfl, post_put⟩⟩⟩
       , ⟨_, rfl, fun sl hd hr ho => by
         refine r_fieldcp (hd 8 _ rfl rfl rfl) TF.f89_2 TF.sz4 rfl ?_
         exact awl_nil ⟨rfl, post_put⟩⟩⟩
       , ⟨_, rfl, fun sl hd hr ho => by
         refine r_load1 (hd 9 _ rfl rfl rfl) TF.agg4 rfl ?_
         exact awl_nil ⟨rfl, post_put⟩⟩⟩
       (by rfl) (by rfl) ?_
      have hone := tell_one he hno
      obtain ⟨hct, hcd⟩ := drop_cons (hpr.2.symm.trans hone)
      refine r_yieldS hq (un := []) (fun n => Tr n) rfl rfl (.cons (.ev rfl rfl) (.cons (.ev rfl rfl) .nil)) Cs hcs (hY pr (chA (e.k, e.c)) wv hJ ⟨(e.k, e.c), hct, hpr.1, rfl⟩) (by rw [List.append_nil]; exact List.Perm.refl _) (fun n => by rw [List.append_nil]) rfl (fun bb nobjs hJ' => ?_)
      refine awli_op (fun c h => (by cases h)) ?_
      refine r_not rfl rfl ?_
      refine awl_nil ⟨rfl, ?_⟩
      refine awli_nil ?_
      refine x_then ?_
      refine awp_cond rfl (fun hc2 => ?_) (fun hc2 => ?_)
      ·
       have hbb : bb = false := by simpa using hc2
       subst hbb
       have hD2 : D _ _ := hJ'
       refine awp_ret ?_
       refine x_blockR ?_
       refine x_thenR ?_
       refine x_thenR ?_
       refine x_blockR ?_
       exact ⟨(.inl rfl), _, Tr nobjs, .none, ⟨_, nobjs, rfl, .inr hD2⟩, (List.Sublist.refl _), tr_rwS⟩
      ·
       have hbb : bb = true := by simpa using hc2
       subst hbb
       have hJ2 : J _ _ := hJ'
       refine awp_skip ?_
       refine x_block ?_
       refine x_then ?_
       refine awp_region ?_
       refine r_move rfl rfl ?_
       refine r_ari _ rfl rfl rfl (wrap_id (by first | omega | (simp; omega))) rfl ?_
       refine r_assign rfl rfl ?_
       refine awl_nil ?_
       refine x_then ?_
       refine ⟨SE.length - (i + 1), ⟨71, [(0, .a (.v (.func (.yield l0) #[] #[]))), (4, .a (.sl 6 (SE.map En.cs))), (5, .a (.v (.int .i64 (((i + 1) : Int)))))], Tr (nobjs)⟩, ⟨rfl, (Slots.cons rfl (by first | exact .refl _ | exact .nilOwn _ _ | exact .nilSl _ | exact .ownSl _ _ _  | exact SV.le.of_eq (by simp)) (Slots.cons rfl (by first | exact .refl _ | exact .nilOwn _ _ | exact .nilSl _ | exact .ownSl _ _ _  | exact SV.le.of_eq (by simp)) (Slots.cons rfl (by first | exact .refl _ | exact .nilOwn _ _ | exact .nilSl _ | exact .ownSl _ _ _  | exact SV.le.of_eq (by simp)) Slots.nil))), (by first | exact List.Sublist.refl _ | exact .cons_cons _ (.cons _ (.refl _)) | exact List.nil_sublist _ | exact .cons _ (.refl _) | exact .cons _ (.cons _ (.refl _)) | exact .cons _ (.cons _ (.cons _ (.refl _))) | exact .cons _ (.cons _ (.cons _ (.cons _ (.refl _)))) | exact .cons_cons _ (List.nil_sublist _))⟩, (by omega), ⟨i + 1, pr ++ [chA (e.k, e.c)], nobjs, rfl, rfl, (by omega), (betA_next hpr.1 hct hcd), hJ2⟩⟩
    ·
     have hge : SE.length ≤ i := by have := of_decide_eq_false hc0; rw [List.length_map] at this; omega
     refine awp_exit ?_
     refine x_thenE ?_
     refine x_thenE ?_
     refine x_blockE ?_
     exact ⟨(.inr rfl), _, Tr wv, .none, ⟨pr, wv, rfl, .inl ⟨betA_end hpr.1 (hpr.2.symm.trans (by rw [List.drop_of_length_le hge]; rfl)), hJ⟩⟩, (List.Sublist.refl _), tr_rwS⟩)
end Go.Proofs.Ytljgdbgcleibjaa.A
namespace Go.Proofs.Ytljgdbgcleibjaa.A
open Go Go.RowKit
set_option linter.unusedVariables false
set_option linter.unusedSimpArgs false
abbrev It := Sp × Int
def refPutGo (k : Sp) (v : Int) : Bool → List It → List It
  | d, [] => if d then [] else [(k, v)]
  | d, x :: r => if x.1 = k then (k, v) :: refPutGo k v true r else if d = false ∧ k.lt x.1 then (k, v) :: x :: refPutGo k v true r else x :: refPutGo k v d r
def refPut (l : List It) (k : Sp) (v : Int) : List It := refPutGo k v false l
def refDel (l : List It) (k : Sp) : List It := l.filter (fun x => decide (x.1 ≠ k))
def mis (l : List It) (x : It) (c : Bool) : List (Sp × Bool) := if x ∈ l then [] else [(x.1, c)]
def btwGo (A B : List It) : List It → List It → List (Sp × Bool)
  | [], [] => []
  | x :: a, [] => mis B x false ++ btwGo A B a []
  | [], y :: b => mis A y true ++ btwGo A B [] b
  | x :: a, y :: b => if ¬ y.1.lt x.1 then mis B x false ++ btwGo A B a (y :: b) else mis A y true ++ btwGo A B (x :: a) b
termination_by a b => a.length + b.length
def refBtw (a b : List It) : List (Sp × Bool) := btwGo a b a b
theorem drop_get {α : Type} {l : List α} {i : Nat} {x : α} (h : l[i]? = some x) : l.drop i = x :: l.drop (i + 1) := by
  obtain ⟨h1, h2⟩ := List.getElem?_eq_some_iff.1 h
  rw [List.drop_eq_getElem_cons h1, h2]
theorem mis_len (l : List It) (x : It) (c : Bool) : (mis l x c).length ≤ 1 := by unfold mis; split <;> simp
theorem btwLen (A B : List It) : ∀ (a b : List It), (btwGo A B a b).length ≤ a.length + b.length := by
  intro a b
  induction a, b using btwGo.induct with
  | case1 => rw [btwGo]; simp
  | case2 x a ih => rw [btwGo, List.length_append]; have := mis_len B x false; simp at *; omega
  | case3 y b ih => rw [btwGo, List.length_append]; have := mis_len A y true; simp at *; omega
  | case4 x a y b h ih => rw [btwGo, if_pos h, List.length_append]; have := mis_len B x false; simp at *; omega
  | case5 x a y b h ih => rw [btwGo, if_neg h, List.length_append]; have := mis_len A y true; simp at *; omega
theorem refPut_len (l : List It) (k : Sp) (v : Int) : (refPut l k v).length ≤ l.length + 1 := by
  have : ∀ (l : List It) (d : Bool), (refPutGo k v d l).length ≤ l.length + (if d then 0 else 1) := by
    intro l
    induction l with
    | nil => intro d; unfold refPutGo; split <;> simp [*]
    | cons x r ih =>
      intro d
      unfold refPutGo
      have h1 := ih true
      have h2 := ih d
      split
      · cases d <;> simp at * <;> omega
      · split
        · rename_i h; cases d <;> simp at * <;> omega
        · cases d <;> simp at * <;> omega
  exact this l false
end Go.Proofs.Ytljgdbgcleibjaa.A
namespace Go.Proofs.Ytljgdbgcleibjaa.A
open Go Go.RowKit
set_option linter.unusedVariables false
set_option linter.unusedSimpArgs false
def Srt (l : List It) : Prop := l.Pairwise (fun x y => x.1.lt y.1)
instance (a b : Sp) : Decidable (a.lt b) := inferInstance
def canP (l : List It) (k : Sp) (v : Int) : List It := l.filter (fun x => decide (x.1.lt k)) ++ (k, v) :: l.filter (fun x => decide (k.lt x.1))
def look (l : List It) (k : Sp) : Option Int := (l.find? (fun x => decide (x.1 = k))).map (fun x => x.2)
def flat : (h : Nat) → List (Ct h) → List It
  | 0, l => l
  | h + 1, l => List.flatMap (fun n : Nd h => flat h n.2) l
def flatK {h : Nat} (l : List (Nd h)) : List It := l.flatMap (fun n => flat h n.2)
theorem flatK_app {h : Nat} (l m : List (Nd h)) : flatK (l ++ m) = flatK l ++ flatK m := by simp [flatK]
theorem flatK_split {h : Nat} {l : List (Nd h)} {i : Nat} {x : Nd h} (hx : l[i]? = some x) : flatK l = flatK (l.take i) ++ flat h x.2 ++ flatK (l.drop (i + 1)) := by
  conv => lhs; rw [← List.take_append_drop i l, drop_get hx]
  rw [flatK_app]
  simp [flatK]
theorem allk {l : List It} {p : It → Bool} (h : ∀ x ∈ l, p x = true) : l.filter p = l := List.filter_eq_self.2 h
theorem nonek {l : List It} {p : It → Bool} (h : ∀ x ∈ l, p x = false) : l.filter p = [] := List.filter_eq_nil_iff.2 (fun x hx => by rw [h x hx]; decide)
theorem canP_mid {A M B : List It} {k : Sp} {v : Int} (hA : ∀ x ∈ A, x.1.lt k) (hB : ∀ x ∈ B, k.lt x.1) : canP (A ++ M ++ B) k v = A ++ canP M k v ++ B := by
  unfold canP
  simp only [List.filter_append]
  rw [allk (l := A) (fun x hx => decide_eq_true (hA x hx)), nonek (l := B) (fun x hx => decide_eq_false (Sp.asym (hB x hx))), nonek (l := A) (fun x hx => decide_eq_false (Sp.asym (hA x hx))), allk (l := B) (fun x hx => decide_eq_true (hB x hx))]
  simp
theorem refDel_mid {A M B : List It} {k : Sp} (hA : ∀ x ∈ A, x.1.lt k) (hB : ∀ x ∈ B, k.lt x.1) : refDel (A ++ M ++ B) k = A ++ refDel M k ++ B := by
  unfold refDel
  simp only [List.filter_append]
  rw [allk (l := A) (fun x hx => decide_eq_true (Sp.ne (hA x hx))), allk (l := B) (fun x hx => decide_eq_true (Sp.ne (hB x hx)).symm)]
theorem look_none {l : List It} {k : Sp} (h : ∀ x ∈ l, x.1 ≠ k) : look l k = none := by
  unfold look
  rw [List.find?_eq_none.2 (fun x hx => by simpa using h x hx)]; rfl
theorem look_app {l m : List It} {k : Sp} (h : ∀ x ∈ l, x.1 ≠ k) : look (l ++ m) k = look m k := by
  unfold look
  rw [List.find?_append, List.find?_eq_none.2 (fun x hx => by simpa using h x hx)]; rfl
theorem look_app' {l m : List It} {k : Sp} (h : ∀ x ∈ m, x.1 ≠ k) : look (l ++ m) k = look l k := by
  unfold look
  have hm : m.find? (fun x => decide (x.1 = k)) = none := List.find?_eq_none.2 (fun x hx => by simpa using h x hx)
  rw [List.find?_append, hm]; simp
theorem look_mid {A M B : List It} {k : Sp} (hA : ∀ x ∈ A, x.1.lt k) (hB : ∀ x ∈ B, k.lt x.1) : look (A ++ M ++ B) k = look M k := by
  rw [look_app' (fun x hx => (Sp.ne (hB x hx)).symm), look_app (fun x hx => Sp.ne (hA x hx))]
theorem look_some {l : List It} {k : Sp} {v : Int} (h : look l k = some v) : (k, v) ∈ l := by
  unfold look at h
  cases hf : l.find? (fun x => decide (x.1 = k)) with
  | none => rw [hf] at h; cases h
  | some x =>
    rw [hf] at h
    have h1 := List.find?_some hf
    have h2 := List.mem_of_find?_eq_some hf
    simp at h1 h
    subst h1 h
    exact h2
theorem srt_key {l : List It} (hs : Srt l) {x y : It} (hx : x ∈ l) (hy : y ∈ l) (h : x.1 = y.1) : x = y := by
  induction l with
  | nil => cases hx
  | cons z r ih =>
    obtain ⟨h1, h2⟩ := List.pairwise_cons.1 hs
    rcases List.mem_cons.1 hx with hx' | hx'
    · rcases List.mem_cons.1 hy with hy' | hy'
      · rw [hx', hy']
      · exact absurd (by rw [← hx', h]) (Sp.ne (h1 y hy'))
    · rcases List.mem_cons.1 hy with hy' | hy'
      · exact absurd (by rw [← hy', h]) (Sp.ne (h1 x hx'))
      · exact ih h2 hx' hy'
theorem look_mem {l : List It} (hs : Srt l) {k : Sp} {v : Int} (h : (k, v) ∈ l) : look l k = some v := by
  unfold look
  cases hf : l.find? (fun x => decide (x.1 = k)) with
  | none => have := List.find?_eq_none.1 hf _ h; simp at this
  | some x =>
    have h1 := List.find?_some hf
    have h2 := List.mem_of_find?_eq_some hf
    simp at h1
    have := srt_key hs h2 h h1
    rw [this]; rfl
theorem srt_put {l : List It} (hs : Srt l) (k : Sp) (v : Int) : refPut l k v = canP l k v ∧ putL k v l = canP l k v := by
  have done : ∀ r : List It, (∀ x ∈ r, k.lt x.1) → refPutGo k v true r = r := by
    intro r
    induction r with
    | nil => intro _; rfl
    | cons x r ih =>
      intro h
      unfold refPutGo
      rw [if_neg (fun e => Sp.irrefl k (by have := h x List.mem_cons_self; rw [e] at this; exact this)), if_neg (by simp), ih (fun y hy => h y (List.mem_cons_of_mem _ hy))]
  induction l with
  | nil => exact ⟨rfl, rfl⟩
  | cons x r ih =>
    obtain ⟨h1, h2⟩ := List.pairwise_cons.1 hs
    obtain ⟨ih1, ih2⟩ := ih h2
    by_cases e : x.1 = k
    · have hr : ∀ y ∈ r, k.lt y.1 := fun y hy => by rw [← e]; exact h1 y hy
      have hc : canP (x :: r) k v = (k, v) :: r := by
        unfold canP
        rw [List.filter_cons, if_neg (by rw [e]; simpa using Sp.irrefl k), List.filter_cons, if_neg (by rw [e]; simpa using Sp.irrefl k), nonek (fun y hy => decide_eq_false (Sp.asym (hr y hy))), allk (fun y hy => decide_eq_true (hr y hy))]
        rfl
      have ho : x.1.ord k = 0 := (Sp.ord_zero _ _).2 e
      constructor
      · rw [hc]; unfold refPut refPutGo; rw [if_pos e, done r hr]
      · rw [hc]
        have hf : findL k ((x :: r).map fun p => p.1) = (0, true) := by simp [findL, ho]
        unfold putL
        rw [hf]
        simp [e]
    · by_cases hk : k.lt x.1
      · have hr : ∀ y ∈ x :: r, k.lt y.1 := fun y hy => by
          rcases List.mem_cons.1 hy with rfl | hy
          · exact hk
          · exact Sp.trans hk (h1 y hy)
        have hc : canP (x :: r) k v = (k, v) :: x :: r := by
          unfold canP
          rw [nonek (fun y hy => decide_eq_false (Sp.asym (hr y hy))), allk (fun y hy => decide_eq_true (hr y hy))]
          rfl
        have ho : 0 < x.1.ord k := (Sp.ord_pos _ _).2 hk
        constructor
        · rw [hc]; unfold refPut refPutGo; rw [if_neg e, if_pos ⟨rfl, hk⟩, done r (fun y hy => hr y (List.mem_cons_of_mem _ hy))]
        · rw [hc]; unfold putL
          have h0 : 0 ≤ x.1.ord k := by omega
          have h3 : ¬ x.1.ord k = 0 := by omega
          simp [findL, h0, h3]
      · have hx : x.1.lt k := by
          by_cases h : x.1.lt k
          · exact h
          · exact absurd (Sp.tri h hk) e
        have hc : canP (x :: r) k v = x :: canP r k v := by
          unfold canP
          rw [List.filter_cons, if_pos (decide_eq_true hx), List.filter_cons, if_neg (by simpa using hk)]
          rfl
        have ho : ¬ 0 ≤ x.1.ord k := by have := (Sp.ord_neg _ _).2 hx; omega
        constructor
        · rw [hc, ← ih1]; unfold refPut; conv => lhs; unfold refPutGo
          rw [if_neg e, if_neg (fun h => hk h.2)]
        · rw [hc, ← ih2]; unfold putL
          simp only [List.map_cons, findL, ho, if_false]
          split
          · simp
          · simp
theorem findL_srt {l : List It} (hs : Srt l) (k : Sp) : ((findL k (l.map fun p => p.1)).2 = true → l.eraseIdx (findL k (l.map fun p => p.1)).1 = refDel l k ∧ ∃ v, l[(findL k (l.map fun p => p.1)).1]? = some (k, v)) ∧ ((findL k (l.map fun p => p.1)).2 = false → ∀ x ∈ l, x.1 ≠ k) := by
  induction l with
  | nil => exact ⟨fun h => (by simp [findL] at h), fun _ x hx => (by cases hx)⟩
  | cons x r ih =>
    obtain ⟨h1, h2⟩ := List.pairwise_cons.1 hs
    obtain ⟨ih1, ih2⟩ := ih h2
    by_cases h0 : 0 ≤ x.1.ord k
    · have hf : findL k ((x :: r).map fun p => p.1) = (0, decide (x.1.ord k = 0)) := by simp [findL, h0]
      rw [hf]
      refine ⟨fun h => ?_, fun h => ?_⟩
      · have e : x.1 = k := (Sp.ord_zero _ _).1 (of_decide_eq_true h)
        refine ⟨?_, x.2, by rw [← e]; rfl⟩
        unfold refDel
        rw [List.filter_cons, if_neg (by simpa using e)]
        exact (allk (fun y hy => decide_eq_true (by rw [← e]; exact (Sp.ne (h1 y hy)).symm))).symm
      · have e : ¬ x.1.ord k = 0 := of_decide_eq_false h
        have hk : k.lt x.1 := (Sp.ord_pos _ _).1 (by omega)
        intro y hy
        rcases List.mem_cons.1 hy with rfl | hy
        · exact (Sp.ne hk).symm
        · exact (Sp.ne (Sp.trans hk (h1 y hy))).symm
    · have hf : findL k ((x :: r).map fun p => p.1) = ((findL k (r.map fun p => p.1)).1 + 1, (findL k (r.map fun p => p.1)).2) := by simp [findL, h0]
      rw [hf]
      have hx : x.1.lt k := (Sp.ord_neg _ _).1 (by omega)
      refine ⟨fun h => ?_, fun h y hy => ?_⟩
      · obtain ⟨e1, v, e2⟩ := ih1 h
        refine ⟨?_, v, by simpa using e2⟩
        show (x :: r).eraseIdx ((findL k (r.map fun p => p.1)).1 + 1) = _
        rw [List.eraseIdx_cons_succ, e1]
        unfold refDel
        rw [List.filter_cons, if_pos (decide_eq_true (Sp.ne hx))]
      · rcases List.mem_cons.1 hy with rfl | hy
        · exact Sp.ne hx
        · exact ih2 h y hy
theorem getL_look {l : List It} (hs : Srt l) (k : Sp) : getL k l = look l k := by
  obtain ⟨h1, h2⟩ := findL_srt hs k
  unfold getL
  split
  · rename_i h
    obtain ⟨_, v, hv⟩ := h1 h
    rw [hv, look_mem hs (List.mem_of_getElem? hv)]; rfl
  · rename_i h
    rw [look_none (h2 (by simpa using h))]
theorem findR_spec {k : Sp} {l : List Sp} : ∀ {n : Nat}, n ≤ l.length → (∀ j x, (findR k l n).1 < j → j < n → l[j]? = some x → k.lt x) ∧ (0 < (findR k l n).1 → ∃ x, l[(findR k l n).1]? = some x ∧ ¬ k.lt x)
  | 0, _ => ⟨fun j x _ h => by omega, fun h => absurd h (Nat.lt_irrefl 0)⟩
  | n + 1, hn => by
    obtain ⟨x, hx⟩ := get_lt (l := l) (i := n) (by omega)
    by_cases h0 : x.ord k ≤ 0
    · rw [findR_hit hx h0]
      refine ⟨fun j y h1 h2 => by simp at h1; omega, fun _ => ⟨x, hx, fun h => ?_⟩⟩
      have := (Sp.ord_pos x k).2 h; omega
    · rw [findR_step hx h0]
      obtain ⟨i1, i2⟩ := findR_spec (k := k) (l := l) (n := n) (by omega)
      refine ⟨fun j y h1 h2 hy => ?_, i2⟩
      by_cases hj : j = n
      · subst hj; rw [hx] at hy; cases hy; exact (Sp.ord_pos _ _).1 (by omega)
      · exact i1 j y h1 (by omega) hy
theorem head_flat : ∀ (h : Nat) (l : List (Ct h)) {lo : Nat}, 1 ≤ lo → wfC lo h l → ∃ x r, flat h l = x :: r ∧ (keysOf h l).headD Sp.z = x.1
  | 0, l, lo, hl, hw => by
    have h1 : 1 ≤ l.length := Nat.le_trans hl hw.1
    cases l with
    | nil => simp at h1
    | cons x r => exact ⟨x, r, rfl, rfl⟩
  | h + 1, l, lo, hl, hw => by
    have h1 : 1 ≤ List.length (α := Nd h) l := Nat.le_trans hl hw.1
    match l, h1, hw with
    | (x :: r : List (Nd h)), _, hw =>
      obtain ⟨y, s, h2, h3⟩ := head_flat h x.2 (Nat.le_succ 1) (hw.2.2 x List.mem_cons_self)
      refine ⟨y, s ++ flatK r, ?_, ?_⟩
      · show flat h x.2 ++ _ = _
        rw [h2]; rfl
      · show (keysOf h x.2).headD Sp.z = _
        exact h3
theorem flatK_mem {h : Nat} {l : List (Nd h)} {x : It} (hx : x ∈ flatK l) : ∃ (i : Nat) (n : Nd h), l[i]? = some n ∧ x ∈ flat h n.2 := by
  obtain ⟨n, hn, hxn⟩ := List.mem_flatMap.1 (show x ∈ l.flatMap (fun n : Nd h => flat h n.2) from hx)
  obtain ⟨i, hi⟩ := List.getElem?_of_mem hn
  exact ⟨i, n, hi, hxn⟩
theorem kks_get {h : Nat} {l : List (Nd h)} {i : Nat} {n : Nd h} (hn : l[i]? = some n) : (kksOf h l)[i]? = some ((keysOf h n.2).headD Sp.z) := by
  show (List.map (fun n : Nd h => (keysOf h n.2).headD Sp.z) l)[i]? = _
  rw [get_map hn]
theorem way_spec {h : Nat} {l : List (Nd h)} (hw : ∀ n ∈ l, wfC 1 h n.2) (hs : Srt (flatK l)) {k : Sp} {kid : Nd h} (hk : l[wayI h k l]? = some kid) :
    flatK l = flatK (l.take (wayI h k l)) ++ flat h kid.2 ++ flatK (l.drop (wayI h k l + 1)) ∧ (∀ x ∈ flatK (l.take (wayI h k l)), x.1.lt k) ∧ (∀ x ∈ flatK (l.drop (wayI h k l + 1)), k.lt x.1) := by
  have hsp := flatK_split hk
  obtain ⟨s1, s2⟩ := findR_spec (k := k) (l := kksOf h l) (n := (kksOf h l).length) (Nat.le_refl _)
  have hlen := kksOf_len h l
  rw [hsp] at hs
  refine ⟨hsp, fun x hx => ?_, fun x hx => ?_⟩
  · by_cases h0 : 0 < wayI h k l
    · obtain ⟨y, hy, hyk⟩ := s2 h0
      have hy' : (kksOf h l)[wayI h k l]? = some y := hy
      rw [kks_get hk] at hy'
      obtain ⟨z, r, h3, h4⟩ := head_flat h kid.2 (Nat.le_refl 1) (hw kid (List.mem_of_getElem? hk))
      rw [h4] at hy'
      cases hy'
      have hxz : x.1.lt z.1 := by
        have := (List.pairwise_append.1 (List.pairwise_append.1 hs).1).2.2 x hx z (by rw [h3]; exact List.mem_cons_self)
        exact this
      by_cases hzk : z.1.lt k
      · exact Sp.trans hxz hzk
      · rw [Sp.tri hzk hyk] at hxz; exact hxz
    · have h0' : wayI h k l = 0 := by omega
      rw [h0'] at hx
      simp [flatK] at hx
  · obtain ⟨j, n, hj, hxn⟩ := flatK_mem hx
    rw [List.getElem?_drop] at hj
    have hjl := (List.getElem?_eq_some_iff.1 hj).1
    obtain ⟨z, r, h3, h4⟩ := head_flat h n.2 (Nat.le_refl 1) (hw n (List.mem_of_getElem? hj))
    have hlt := s1 (wayI h k l + 1 + j) z.1 (by show wayI h k l < _; omega) (by rw [hlen]; exact hjl) (by rw [kks_get hj, h4])
    have hz : z = x ∨ z.1.lt x.1 := by
      rw [h3] at hxn
      rcases List.mem_cons.1 hxn with rfl | hxr
      · exact .inl rfl
      · right
        have hsub : Srt (flat h n.2) := by
          have h5 : n ∈ l.drop (wayI h k l + 1) := List.mem_of_getElem? (by rw [List.getElem?_drop]; exact hj)
          have h6 : Srt (flatK (l.drop (wayI h k l + 1))) := (List.pairwise_append.1 hs).2.1
          obtain ⟨A, B, hAB⟩ := List.append_of_mem h5
          rw [hAB] at h6
          have : flatK (A ++ n :: B) = flatK A ++ (flat h n.2 ++ flatK B) := by simp [flatK]
          rw [this] at h6
          exact (List.pairwise_append.1 (List.pairwise_append.1 h6).2.1).1
        rw [h3] at hsub
        exact (List.pairwise_cons.1 hsub).1 x hxr
    rcases hz with rfl | hz
    · exact hlt
    · exact Sp.trans hlt hz
end Go.Proofs.Ytljgdbgcleibjaa.A
namespace Go.Proofs.Ytljgdbgcleibjaa.A
open Go Go.RowKit
set_option linter.unusedVariables false
set_option linter.unusedSimpArgs false
theorem flatK_of {h : Nat} {l : List (Nd (h + 1))} {L : List (Nd h)} (he : l.map kdsOf = halvesG L) : flatK l = flatK L := by
  have : flatK l = flatK (l.map kdsOf).flatten := by
    clear he
    induction l with
    | nil => rfl
    | cons x l ih =>
      show flat (h + 1) x.2 ++ flatK l = flatK ((kdsOf x) ++ (l.map kdsOf).flatten)
      rw [flatK_app, ← ih]; rfl
  rw [this, he, halvesG_flat]
theorem flatK_zero (l : List (Nd 0)) : flatK l = (l.map itsOf).flatten := by
  induction l with
  | nil => rfl
  | cons x l ih => show itsOf x ++ flatK l = _; rw [ih]; rfl
theorem wf_kids1 {lo h : Nat} {n : Nd (h + 1)} (hw : wfC lo (h + 1) n.2) : ∀ x ∈ kdsOf n, wfC 1 h x.2 := fun x hx => (hw.2.2 x hx).mono (by omega)
theorem srt_mid {A M B : List It} (h : Srt (A ++ M ++ B)) : Srt M := (List.pairwise_append.1 (List.pairwise_append.1 h).1).2.1
theorem putR_flat : ∀ (h : Nat) {lo : Nat} {n : Nd h} {k : Sp} {v : Int} {l : List (Nd h)}, wfC lo h n.2 → Srt (flat h n.2) → PutR h n k v l → flatK l = canP (flat h n.2) k v
  | 0, lo, n, k, v, l, _, hs, hr => by
    have hr' : l.map itsOf = halvesG (putL k v (itsOf n)) := hr
    rw [flatK_zero, hr', halvesG_flat]
    exact (srt_put (l := itsOf n) hs k v).2
  | h + 1, lo, n, k, v, l, hw, hs, ⟨kid, l', hk, hr', hr⟩ => by
    have hs' : Srt (flatK (kdsOf n)) := hs
    obtain ⟨w1, w2, w3⟩ := way_spec (wf_kids1 hw) hs' hk
    rw [flatK_of hr, flatK_app, flatK_app]
    show _ = canP (flatK (kdsOf n)) k v
    rw [w1] at hs'
    have ih := putR_flat h (hw.2.2 kid (List.mem_of_getElem? hk)) (srt_mid hs') hr'
    rw [ih]
    conv => rhs; rw [w1]
    rw [canP_mid w2 w3]
theorem flat_app : ∀ (h : Nat) (a b : List (Ct h)), flat h (a ++ b) = flat h a ++ flat h b
  | 0, _, _ => rfl
  | h + 1, a, b => flatK_app (h := h) a b
theorem flatK_map : ∀ {h : Nat} (l : List (Nd h)), flatK l = flat h (l.map (fun m => m.2)).flatten
  | h, [] => by cases h <;> rfl
  | h, x :: l => by
    show flat h x.2 ++ flatK l = flat h (x.2 ++ (l.map (fun m => m.2)).flatten)
    rw [flat_app, flatK_map l]
theorem joinR_flat {h : Nat} {a b : Nd h} {l : List (Nd h)} (hj : JoinR a b l) : flatK l = flat h a.2 ++ flat h b.2 := by
  have hj' : l.map (fun m => m.2) = halvesG (a.2 ++ b.2) := hj
  rw [flatK_map, hj', halvesG_flat, flat_app]
theorem flatK_two {h : Nat} {l : List (Nd h)} {j : Nat} {a b : Nd h} (ha : l[j]? = some a) (hb : l[j + 1]? = some b) : flatK l = flatK (l.take j) ++ (flat h a.2 ++ flat h b.2) ++ flatK (l.drop (j + 2)) := by
  rw [flatK_split ha]
  have : flatK (l.drop (j + 1)) = flat h b.2 ++ flatK (l.drop (j + 2)) := by rw [drop_get hb]; rfl
  rw [this]; simp
theorem fixR_flat {h : Nat} {l l' : List (Nd h)} {i : Nat} {c : Nd h} (hf : FixR l i c l') : flatK l' = flatK (l.set i c) := by
  unfold FixR at hf
  split at hf
  · obtain ⟨j, a, b, m, hj, ha, hb, hm, rfl⟩ := hf
    rw [flatK_app, flatK_app, joinR_flat hm, flatK_two ha hb]
  · rw [hf]
theorem refDel_none {l : List It} {k : Sp} (h : ∀ x ∈ l, x.1 ≠ k) : refDel l k = l := allk (fun x hx => decide_eq_true (h x hx))
theorem delR_flat : ∀ (h : Nat) {lo : Nat} {n : Nd h} {k : Sp} {r : Option (Nd h)}, wfC lo h n.2 → Srt (flat h n.2) → DelR h n k r → match r with
    | none => ∀ x ∈ flat h n.2, x.1 ≠ k
    | some c => flat h c.2 = refDel (flat h n.2) k ∧ ∃ v, (k, v) ∈ flat h n.2
  | 0, lo, n, k, r, _, hs, hd => by
    obtain ⟨f1, f2⟩ := findL_srt (l := itsOf n) hs k
    unfold DelR at hd
    split at hd
    · rename_i hh
      obtain ⟨b, rfl⟩ := hd
      obtain ⟨e1, v, e2⟩ := f1 hh
      exact ⟨e1, v, List.mem_of_getElem? e2⟩
    · rename_i hh
      subst hd
      exact f2 (by simpa using hh)
  | h + 1, lo, n, k, r, hw, hs, ⟨kid, r', hk, hd, hr⟩ => by
    have hs' : Srt (flatK (kdsOf n)) := hs
    obtain ⟨w1, w2, w3⟩ := way_spec (wf_kids1 hw) hs' hk
    have hs2 := hs'
    rw [w1] at hs2
    have ih := delR_flat h (hw.2.2 kid (List.mem_of_getElem? hk)) (srt_mid hs2) hd
    cases r' with
    | none =>
      simp only at hr; subst hr
      show ∀ x ∈ flatK (kdsOf n), x.1 ≠ k
      rw [w1]
      intro x hx
      rcases List.mem_append.1 hx with hx | hx
      · rcases List.mem_append.1 hx with hx | hx
        · exact Sp.ne (w2 x hx)
        · exact ih x hx
      · exact (Sp.ne (w3 x hx)).symm
    | some c =>
      obtain ⟨b, l', hf, rfl⟩ := hr
      obtain ⟨i1, v, i2⟩ := ih
      have hlt := (List.getElem?_eq_some_iff.1 hk).1
      refine ⟨?_, v, ?_⟩
      · show flatK l' = refDel (flatK (kdsOf n)) k
        have hset : ((kdsOf n).set (wayI h k (kdsOf n)) c)[wayI h k (kdsOf n)]? = some c := by rw [List.getElem?_set]; simp [hlt]
        rw [fixR_flat hf, flatK_split hset, List.take_set_of_le (Nat.le_refl _), List.drop_set_of_lt (Nat.lt_succ_self _), i1]
        conv => rhs; rw [w1]
        rw [refDel_mid w2 w3]
      · show (k, v) ∈ flatK (kdsOf n)
        rw [w1]
        exact List.mem_append.2 (.inl (List.mem_append.2 (.inr i2)))
theorem leafAt_look : ∀ (h : Nat) {lo : Nat} {n : Nd h} {k : Sp}, wfC lo h n.2 → 1 ≤ lo → Srt (flat h n.2) → getL k (leafAt h n k) = look (flat h n.2) k
  | 0, lo, n, k, _, _, hs => getL_look (l := itsOf n) hs k
  | h + 1, lo, n, k, hw, hlo, hs => by
    have hs' : Srt (flatK (kdsOf n)) := hs
    have h0 : 0 < (kdsOf n).length := Nat.lt_of_lt_of_le hlo hw.1
    obtain ⟨kid, hk⟩ : ∃ kid, (kdsOf n)[wayI h k (kdsOf n)]? = some kid := get_lt (wayI_lt h0)
    obtain ⟨w1, w2, w3⟩ := way_spec (wf_kids1 hw) hs' hk
    have hs2 := hs'
    rw [w1] at hs2
    rw [leafAt_ok hk, leafAt_look h (hw.2.2 kid (List.mem_of_getElem? hk)) (by omega) (srt_mid hs2)]
    show _ = look (flatK (kdsOf n)) k
    rw [w1, look_mid w2 w3]
def flatR : Rt → List It
  | none => []
  | some ⟨h, n⟩ => flat h n.2
structure Good (t : TreeV) (x : List It) : Prop where
  wf : wfRt (rootT t)
  fl : flatR (rootT t) = x
  st : Srt x
  ln : lenT t = (x.length : Int)
theorem srt_canP {l : List It} (hs : Srt l) (k : Sp) (v : Int) : Srt (canP l k v) := by
  unfold canP
  refine List.pairwise_append.2 ⟨hs.filter _, List.pairwise_cons.2 ⟨fun x hx => of_decide_eq_true (List.mem_filter.1 hx).2, hs.filter _⟩, fun x hx y hy => ?_⟩
  have h1 : x.1.lt k := of_decide_eq_true (List.mem_filter.1 hx).2
  rcases List.mem_cons.1 hy with rfl | hy
  · exact h1
  · exact Sp.trans h1 (of_decide_eq_true (List.mem_filter.1 hy).2)
theorem canP_len {l : List It} (hs : Srt l) (k : Sp) (v : Int) : (canP l k v).length = l.length + (if (look l k).isSome then 0 else 1) := by
  rw [← (srt_put hs k v).2]
  have hg := getL_look hs k
  unfold getL at hg
  unfold putL
  simp only
  split
  · rename_i hh
    rw [if_pos hh] at hg
    obtain ⟨_, w, hw⟩ := (findL_srt hs k).1 hh
    rw [hw] at hg
    rw [← hg]; simp
  · rename_i hh
    rw [if_neg hh] at hg
    have := findL_le (k := k) (l := l.map fun p => p.1)
    rw [List.length_map] at this
    rw [← hg]
    simp; omega
theorem refDel_len {l : List It} (hs : Srt l) {k : Sp} {v : Int} (h : (k, v) ∈ l) : (refDel l k).length + 1 = l.length := by
  cases hh : (findL k (l.map fun p => p.1)).2 with
  | false => exact absurd rfl ((findL_srt hs k).2 hh _ h)
  | true =>
    rw [← ((findL_srt hs k).1 hh).1]
    have h1 := findL_had hh
    rw [List.length_map] at h1
    rw [List.length_eraseIdx_of_lt h1]; omega
theorem rootOf_flat : ∀ (h : Nat) (c : Nd h), flatR (rootOf h c) = flat h c.2
  | 0, c => by
    unfold rootOf
    split
    · rename_i he
      have : itsOf c = [] := by simpa using he
      exact this.symm
    · rfl
  | h + 1, c => by
    unfold rootOf
    split
    · rename_i x hx
      rw [rootOf_flat h x]
      show _ = flatK (kdsOf c)
      rw [hx]; simp [flatK]
    · rfl
theorem good_get {t : TreeV} {x : List It} (h : Good t x) (k : Sp) : getR (rootT t) k = look x k := by
  have h1 := h.wf; have h2 := h.fl; have h3 := h.st
  cases hr : rootT t with
  | none => rw [hr] at h2; rw [← h2]; rfl
  | some s =>
    obtain ⟨q, n⟩ := s
    rw [hr] at h1 h2
    rw [← h2] at h3 ⊢
    exact leafAt_look q h1.1 (Nat.le_refl 1) h3
theorem good_put {t t' : TreeV} {x : List It} {k : Sp} {v : Int} (h : Good t x) (hp : PutT t k v t') : Good t' (refPut x k v) := by
  have hg := good_get h k
  have hwf := putT_wf h.wf hp
  have hx := (srt_put h.st k v).1
  have hlen : (refPut x k v).length = x.length + (if (look x k).isSome then 0 else 1) := by rw [hx]; exact canP_len h.st k v
  obtain ⟨r', rfl, hc⟩ := hp
  have hfl : flatR r' = refPut x k v := by
    have h2 := h.fl; have h1 := h.wf; have h3 := h.st
    rw [hx]
    cases hr : rootT t with
    | none =>
      rw [hr] at hc h2
      obtain ⟨b, rfl⟩ := hc
      rw [← h2]; rfl
    | some s =>
      obtain ⟨q, n⟩ := s
      rw [hr] at hc h2 h1
      rw [← h2] at h3 ⊢
      obtain ⟨l, hl, hcc⟩ := hc
      have hf := putR_flat q h1.1 h3 hl
      rcases hcc with ⟨y, rfl, rfl⟩ | ⟨_, b, rfl⟩
      · show flat q y.2 = _
        rw [show flat q y.2 = flatK [y] by simp [flatK]]
        exact hf
      · exact hf
  refine ⟨hwf, hfl, by rw [hx]; exact srt_canP h.st k v, ?_⟩
  show lenT t + (if (getR (rootT t) k).isSome then 0 else 1) = _
  rw [hlen, hg, h.ln]
  split <;> simp
theorem good_del {t t' : TreeV} {x : List It} {k : Sp} (h : Good t x) (hd : DelT t k t') : Good t' (refDel x k) := by
  have h1 := h.wf; have h2 := h.fl; have h3 := h.st; have h4 := h.ln
  have hwf := delT_wf h1 hd
  unfold DelT at hd
  cases hr : rootT t with
  | none =>
    rw [hr] at hd h2
    simp only at hd
    subst hd
    have : x = [] := h2.symm
    subst this
    exact ⟨hwf, by rw [hr]; rfl, h3, h4⟩
  | some s =>
    obtain ⟨q, n⟩ := s
    rw [hr] at hd h1 h2
    rw [← h2] at h3
    obtain ⟨cr, hc, hm⟩ := hd
    have hf := delR_flat q h1.1 h3 hc
    cases cr with
    | none =>
      simp only at hm hf
      subst hm
      rw [refDel_none (by rw [← h2]; exact hf)]
      exact h
    | some c =>
      simp only at hm hf
      subst hm
      obtain ⟨f1, v, f2⟩ := hf
      refine ⟨hwf, ?_, (h.st).filter _, ?_⟩
      · show flatR (rootOf q c) = _
        rw [rootOf_flat, f1, ← h2]; rfl
      · show lenT t - 1 = _
        have := refDel_len (l := flat q n.2) h3 f2
        rw [← h2] at h4 ⊢
        show lenT t - 1 = ((refDel (flat q n.2) k).length : Int)
        rw [h4]
        show ((flat q n.2).length : Int) - 1 = ((refDel (flat q n.2) k).length : Int)
        omega
theorem good_new : Good (some (none, 0)) [] := ⟨trivial, rfl, List.Pairwise.nil, rfl⟩
theorem subs_len : ∀ (h : Nat) {lo : Nat} {n : Nd h}, wfC lo h n.2 → 1 ≤ lo → (0 < h → 2 ≤ lo) → (subs h n).length + 1 ≤ 2 * (flat h n.2).length
  | 0, lo, n, hw, hlo, _ => by
    have : lo ≤ (itsOf n).length := hw.1
    show 1 + 1 ≤ 2 * (itsOf n).length
    omega
  | h + 1, lo, n, hw, hlo, h2 => by
    have h2' := h2 (Nat.succ_pos h)
    have hl : lo ≤ (kdsOf n).length := hw.1
    have hk : ∀ x ∈ kdsOf n, wfC 2 h x.2 := hw.2.2
    have key : ∀ (l : List (Nd h)), (∀ x ∈ l, wfC 2 h x.2) → (l.flatMap (subs h)).length + l.length ≤ 2 * (flatK l).length := by
      intro l
      induction l with
      | nil => intro _; simp [flatK]
      | cons x l ih =>
        intro hx
        have h3 := subs_len h (hx x List.mem_cons_self) (by omega) (fun _ => Nat.le_refl 2)
        have h4 := ih (fun y hy => hx y (List.mem_cons_of_mem _ hy))
        have e : flatK (x :: l) = flat h x.2 ++ flatK l := rfl
        rw [List.flatMap_cons, List.length_append, e, List.length_append, List.length_cons]
        omega
    have := key (kdsOf n) hk
    show ((kdsOf n).flatMap (subs h)).length + 1 + 1 ≤ 2 * (flatK (kdsOf n)).length
    omega
theorem idl_len {t : TreeV} {x : List It} (h : Good t x) : (idl t).length ≤ 2 * x.length := by
  have h1 := h.wf; have h2 := h.fl
  obtain ⟨r, hr⟩ := nodup_sub (idl_nodup t) (l := idsT t) (fun i hi => (idl_mem t i).1 hi)
  have e := hr.length_eq
  rw [List.length_append] at e
  have e2 : (idsT t).length ≤ 2 * x.length := by
    unfold idsT subT
    rw [List.length_map]
    cases hr : rootT t with
    | none => simp
    | some s =>
      obtain ⟨q, n⟩ := s
      rw [hr] at h1 h2
      rw [← h2]
      show (subs q n).length ≤ 2 * (flat q n.2).length
      cases q with
      | zero => have := subs_len 0 h1.1 (Nat.le_refl 1) (fun h => absurd h (Nat.lt_irrefl 0)); omega
      | succ q => have := subs_len (q + 1) (h1.1.to (h1.2 (Nat.succ_pos q))) (by omega) (fun _ => Nat.le_refl 2); omega
  omega
end Go.Proofs.Ytljgdbgcleibjaa.A
namespace Go.Proofs.Ytljgdbgcleibjaa.A
open Go Go.RowKit Go.Sort Go.Shelf
set_option linter.unusedVariables false
set_option linter.unusedSimpArgs false
theorem sl_same {C : CS} {sz : Nat} {l m : List (List AV)} {v : Value} (h : Rel C (.sl sz l) v) (h' : Rel C (.sl sz m) v) : l.length = m.length ∧ ∀ (i : Nat) (cs ds : List AV) (j : Nat) (c d : AV), l[i]? = some cs → m[i]? = some ds → cs[j]? = some c → ds[j]? = some d → ∃ u, Rel C c u ∧ Rel C d u := by
  obtain ⟨A, cap, b, o, hv, _, hA, hR⟩ := rel_sl_inv h
  obtain ⟨A', cap', b', o', hv', _, hA', hR'⟩ := rel_sl_inv h'
  rw [hv] at hv'
  simp only [Value.slice.injEq] at hv'
  obtain ⟨e1, e2, _⟩ := hv'
  refine ⟨e2, fun i cs ds j c d h1 h2 h3 h4 => ?_⟩
  have hl : l ≠ [] := fun e => by subst e; simp at h1
  have hm : m ≠ [] := fun e => by subst e; simp at h2
  have hb := hA hl
  rw [e1, hA' hm] at hb
  simp only [Option.some.injEq, Addr.mk.injEq, and_true] at hb
  obtain ⟨u, hu1, hu2⟩ := hR.2 i cs j c h1 h3
  obtain ⟨u', hu1', hu2'⟩ := hR'.2 i ds j d h2 h4
  rw [hb.1, hb.2, hu1] at hu1'
  cases hu1'
  exact ⟨u, hu2, hu2'⟩
theorem rel_vv {C : CS} {x y u : Value} (h : Rel C (.v x) u) (h' : Rel C (.v y) u) : x = y := by cases h; cases h'; rfl
theorem sps_same {C : CS} {ks ks' : List Sp} {v : Value} (h : Rel C (.sl 4 (ks.map Sp.cs)) v) (h' : Rel C (.sl 4 (ks'.map Sp.cs)) v) : ks = ks' := by
  obtain ⟨hl, hc⟩ := sl_same h h'
  rw [List.length_map, List.length_map] at hl
  refine List.ext_getElem hl (fun i h1 h2 => ?_)
  have k1 := List.getElem?_eq_getElem h1
  have k2 := List.getElem?_eq_getElem h2
  have q := fun j c d => hc i ks[i].cs ks'[i].cs j c d (get_map k1) (get_map k2)
  obtain ⟨u0, a0, b0⟩ := q 0 _ _ rfl rfl
  obtain ⟨u1, a1, b1⟩ := q 1 _ _ rfl rfl
  obtain ⟨u2, a2, b2⟩ := q 2 _ _ rfl rfl
  obtain ⟨u3, a3, b3⟩ := q 3 _ _ rfl rfl
  have e0 := rel_vv a0 b0; have e1 := rel_vv a1 b1; have e2 := rel_vv a2 b2; have e3 := rel_vv a3 b3
  simp only [Value.int.injEq, true_and] at e0 e1 e2 e3
  exact Sp.ext' e0 e1 e2 e3
theorem ints_same {C : CS} {vs vs' : List Int} {v : Value} (h : Rel C (.sl 1 (vs.map u64c)) v) (h' : Rel C (.sl 1 (vs'.map u64c)) v) : vs = vs' := by
  obtain ⟨hl, hc⟩ := sl_same h h'
  rw [List.length_map, List.length_map] at hl
  refine List.ext_getElem hl (fun i h1 h2 => ?_)
  obtain ⟨u0, a0, b0⟩ := hc i _ _ 0 _ _ (get_map (List.getElem?_eq_getElem h1)) (get_map (List.getElem?_eq_getElem h2)) rfl rfl
  have e0 := rel_vv a0 b0
  simp only [Value.int.injEq, true_and] at e0
  exact e0
theorem its_ext {l m : List It} (h1 : l.map (fun p => p.1) = m.map (fun p => p.1)) (h2 : l.map (fun p => p.2) = m.map (fun p => p.2)) : l = m := by
  have hl : l.length = m.length := by have := congrArg List.length h1; simpa using this
  refine List.ext_getElem hl (fun i a b => ?_)
  have e1 := congrArg (fun q => q[i]?) h1
  have e2 := congrArg (fun q => q[i]?) h2
  simp only [List.getElem?_map, List.getElem?_eq_getElem a, List.getElem?_eq_getElem b, Option.map_some, Option.some.injEq] at e1 e2
  exact Prod.ext e1 e2
theorem enc_parts {C : CS} {h : Nat} {n : Nd h} {u : Value} (hr : Rel C (enc h n) u) : u = ptr n.1 ∧ ∃ v0 v1 v2, C n.1 0 = some v0 ∧ C n.1 1 = some v1 ∧ C n.1 2 = some v2 ∧ Rel C (.sl 4 ((keysOf h n.2).map Sp.cs)) v0 ∧ Rel C (.sl 1 ((valsOf h n.2).map u64c)) v1 ∧ Rel C (.sl 1 ((kidsOf h n.2).map fun x => [x])) v2 := by
  rw [enc_eq] at hr
  obtain ⟨hu, hc⟩ := rel_pt_inv (show Rel C (.pt n.1 [_, _, _]) u from hr)
  obtain ⟨v0, a0, b0⟩ := hc 0 _ rfl
  obtain ⟨v1, a1, b1⟩ := hc 1 _ rfl
  obtain ⟨v2, a2, b2⟩ := hc 2 _ rfl
  exact ⟨hu, v0, v1, v2, a0, a1, a2, b0, b1, b2⟩
theorem coh_enc {C : CS} : ∀ (h : Nat) (n : Nd h) (h' : Nat) (n' : Nd h') {u u' : Value}, wfC 1 h n.2 → wfC 1 h' n'.2 → Rel C (enc h n) u → Rel C (enc h' n') u' → n.1 = n'.1 → (⟨h, n⟩ : Sigma Nd) = ⟨h', n'⟩
  | 0, n, 0, n', u, u', hw, hw', hr, hr', he => by
    obtain ⟨_, v0, v1, v2, a0, a1, a2, b0, b1, b2⟩ := enc_parts hr
    obtain ⟨_, v0', v1', v2', a0', a1', a2', b0', b1', b2'⟩ := enc_parts hr'
    rw [← he] at a0' a1' a2'
    rw [a0] at a0'; cases a0'
    rw [a1] at a1'; cases a1'
    have e1 : (itsOf n).map (fun p => p.1) = (itsOf n').map (fun p => p.1) := sps_same b0 b0'
    have e2 : (itsOf n).map (fun p => p.2) = (itsOf n').map (fun p => p.2) := ints_same b1 b1'
    have e3 := its_ext e1 e2
    obtain ⟨i, l⟩ := n
    obtain ⟨i', l'⟩ := n'
    simp only at he
    have e3' : l = l' := e3
    subst he e3'
    rfl
  | 0, n, h' + 1, n', u, u', hw, hw', hr, hr', he => by
    exfalso
    obtain ⟨_, v0, v1, v2, a0, a1, a2, b0, b1, b2⟩ := enc_parts hr
    obtain ⟨_, v0', v1', v2', a0', a1', a2', b0', b1', b2'⟩ := enc_parts hr'
    rw [← he, a2] at a2'; cases a2'
    have hl := (sl_same b2 b2').1
    have h2 : (kidsOf (h' + 1) n'.2).length = (kdsOf n').length := show (List.map (enc h') (kdsOf n')).length = _ from List.length_map _
    rw [List.length_map, List.length_map, h2] at hl
    have h3 : 1 ≤ (kdsOf n').length := hw'.1
    have h4 : (kidsOf 0 n.2).length = 0 := rfl
    omega
  | h + 1, n, 0, n', u, u', hw, hw', hr, hr', he => by
    exfalso
    obtain ⟨_, v0, v1, v2, a0, a1, a2, b0, b1, b2⟩ := enc_parts hr
    obtain ⟨_, v0', v1', v2', a0', a1', a2', b0', b1', b2'⟩ := enc_parts hr'
    rw [← he, a2] at a2'; cases a2'
    have hl := (sl_same b2 b2').1
    have h2 : (kidsOf (h + 1) n.2).length = (kdsOf n).length := show (List.map (enc h) (kdsOf n)).length = _ from List.length_map _
    rw [List.length_map, List.length_map, h2] at hl
    have h3 : 1 ≤ (kdsOf n).length := hw.1
    have h4 : (kidsOf 0 n'.2).length = 0 := rfl
    omega
  | h + 1, n, h' + 1, n', u, u', hw, hw', hr, hr', he => by
    obtain ⟨_, v0, v1, v2, a0, a1, a2, b0, b1, b2⟩ := enc_parts hr
    obtain ⟨_, v0', v1', v2', a0', a1', a2', b0', b1', b2'⟩ := enc_parts hr'
    rw [← he, a2] at a2'; cases a2'
    obtain ⟨hl, hc⟩ := sl_same b2 b2'
    have h2 : (kidsOf (h + 1) n.2).length = (kdsOf n).length := show (List.map (enc h) (kdsOf n)).length = _ from List.length_map _
    have h2' : (kidsOf (h' + 1) n'.2).length = (kdsOf n').length := show (List.map (enc h') (kdsOf n')).length = _ from List.length_map _
    rw [List.length_map, List.length_map, h2, h2'] at hl
    have key : ∀ (i : Nat) (x : Nd h) (y : Nd h'), (kdsOf n)[i]? = some x → (kdsOf n')[i]? = some y → (⟨h, x⟩ : Sigma Nd) = ⟨h', y⟩ := fun i x y hx hy => by
      obtain ⟨w, hw1, hw2⟩ := hc i [enc h x] [enc h' y] 0 (enc h x) (enc h' y) (get_map (get_map hx)) (get_map (get_map hy)) rfl rfl
      have e1 := (enc_parts hw1).1
      have e2 := (enc_parts hw2).1
      rw [e1] at e2
      have e3 : x.1 = y.1 := by unfold ptr at e2; simpa using e2
      exact coh_enc h x h' y ((hw.2.2 x (List.mem_of_getElem? hx)).mono (by omega)) ((hw'.2.2 y (List.mem_of_getElem? hy)).mono (by omega)) hw1 hw2 e3
    have h3 : 1 ≤ (kdsOf n).length := hw.1
    obtain ⟨x0, hx0⟩ := get_lt (l := kdsOf n) (i := 0) (by omega)
    obtain ⟨y0, hy0⟩ := get_lt (l := kdsOf n') (i := 0) (by omega)
    have hh := key 0 x0 y0 hx0 hy0
    obtain rfl : h = h' := congrArg Sigma.fst hh
    have hk : kdsOf n = kdsOf n' := by
      refine List.ext_getElem hl (fun i p q => ?_)
      have := key i _ _ (List.getElem?_eq_getElem p) (List.getElem?_eq_getElem q)
      simpa using this
    obtain ⟨i, l⟩ := n
    obtain ⟨i', l'⟩ := n'
    simp only at he
    have hk' : l = l' := hk
    subst he hk'
    rfl
def Coh (a b : TreeV) : Prop := ∀ s ∈ subT a ++ subT b, ∀ s' ∈ subT a ++ subT b, sid s = sid s' → s = s'
theorem coh_of {C : CS} {a b : TreeV} {u v : Value} (hwa : wfRt (rootT a)) (hwb : wfRt (rootT b)) (ha : Rel C (encT a) u) (hb : Rel C (encT b) v) : Coh a b := by
  have key : ∀ s ∈ subT a ++ subT b, wfC 1 s.1 s.2.2 ∧ Rel C (enc s.1 s.2) (ptr s.2.1) := fun s hs => by
    rcases List.mem_append.1 hs with hs | hs
    · exact ⟨wf_subT hwa s hs, rel_subT ha s hs⟩
    · exact ⟨wf_subT hwb s hs, rel_subT hb s hs⟩
  intro s hs s' hs' he
  obtain ⟨k1, k2⟩ := key s hs
  obtain ⟨k3, k4⟩ := key s' hs'
  exact coh_enc s.1 s.2 s'.1 s'.2 k1 k3 k2 k4 he
theorem Coh.symm {a b : TreeV} (h : Coh a b) : Coh b a := fun s hs s' hs' => h s (by rw [List.mem_append] at *; exact hs.symm) s' (by rw [List.mem_append] at *; exact hs'.symm)
theorem flat_leaf : ∀ (h : Nat) (n : Nd h) (z : It), z ∈ flat h n.2 ↔ ∃ m : Nd 0, (⟨0, m⟩ : Sigma Nd) ∈ subs h n ∧ z ∈ itsOf m
  | 0, n, z => by
    constructor
    · intro hz; exact ⟨n, List.mem_singleton.2 rfl, hz⟩
    · rintro ⟨m, hm, hz⟩
      have := List.mem_singleton.1 hm
      simp only [Sigma.mk.injEq, heq_eq_eq, true_and] at this
      subst this; exact hz
  | h + 1, n, z => by
    show z ∈ flatK (kdsOf n) ↔ _
    constructor
    · intro hz
      obtain ⟨x, hx, hzx⟩ := List.mem_flatMap.1 (show z ∈ (kdsOf n).flatMap (fun n : Nd h => flat h n.2) from hz)
      obtain ⟨m, hm, hzm⟩ := (flat_leaf h x z).1 hzx
      exact ⟨m, List.mem_cons_of_mem _ (List.mem_flatMap.2 ⟨x, hx, hm⟩), hzm⟩
    · rintro ⟨m, hm, hzm⟩
      have hm' : (⟨0, m⟩ : Sigma Nd) = ⟨h + 1, n⟩ ∨ (⟨0, m⟩ : Sigma Nd) ∈ (kdsOf n).flatMap (subs h) := List.mem_cons.1 hm
      rcases hm' with hm' | hm'
      · have := congrArg Sigma.fst hm'; simp at this
      · obtain ⟨x, hx, hmx⟩ := List.mem_flatMap.1 hm'
        exact List.mem_flatMap.2 ⟨x, hx, (flat_leaf h x z).2 ⟨m, hmx, hzm⟩⟩
theorem leaf_uniq : ∀ (h : Nat) (n : Nd h), Srt (flat h n.2) → ∀ (m m' : Nd 0) (z z' : It), (⟨0, m⟩ : Sigma Nd) ∈ subs h n → (⟨0, m'⟩ : Sigma Nd) ∈ subs h n → z ∈ itsOf m → z' ∈ itsOf m' → z.1 = z'.1 → m = m'
  | 0, n, _, m, m', z, z', hm, hm', _, _, _ => by
    have e1 := List.mem_singleton.1 hm
    have e2 := List.mem_singleton.1 hm'
    simp only [Sigma.mk.injEq, heq_eq_eq, true_and] at e1 e2
    rw [e1, e2]
  | h + 1, n, hs, m, m', z, z', hm, hm', hz, hz', he => by
    have hd : ∀ (m : Nd 0), (⟨0, m⟩ : Sigma Nd) ∈ subs (h + 1) n → (⟨0, m⟩ : Sigma Nd) ∈ (kdsOf n).flatMap (subs h) := fun m hm => by
      have hm' : (⟨0, m⟩ : Sigma Nd) = ⟨h + 1, n⟩ ∨ (⟨0, m⟩ : Sigma Nd) ∈ (kdsOf n).flatMap (subs h) := List.mem_cons.1 hm
      rcases hm' with hm' | hm'
      · have := congrArg Sigma.fst hm'; simp at this
      · exact hm'
    have key : ∀ (l : List (Nd h)), Srt (flatK l) → (⟨0, m⟩ : Sigma Nd) ∈ l.flatMap (subs h) → (⟨0, m'⟩ : Sigma Nd) ∈ l.flatMap (subs h) → m = m' := by
      intro l
      induction l with
      | nil => intro _ h1 _; simp at h1
      | cons x l ih =>
        intro hs h1 h2
        have hs' : Srt (flat h x.2 ++ flatK l) := hs
        obtain ⟨s1, s2, s3⟩ := List.pairwise_append.1 hs'
        rw [List.flatMap_cons, List.mem_append] at h1 h2
        have inK : ∀ (q : Nd 0) (y : It), (⟨0, q⟩ : Sigma Nd) ∈ l.flatMap (subs h) → y ∈ itsOf q → y ∈ flatK l := fun q y hq hy => by
          obtain ⟨x', hx', hq'⟩ := List.mem_flatMap.1 hq
          exact List.mem_flatMap.2 ⟨x', hx', (flat_leaf h x' y).2 ⟨q, hq', hy⟩⟩
        rcases h1 with h1 | h1
        · rcases h2 with h2 | h2
          · exact leaf_uniq h x s1 m m' z z' h1 h2 hz hz' he
          · exact absurd he (Sp.ne (s3 z ((flat_leaf h x z).2 ⟨m, h1, hz⟩) z' (inK m' z' h2 hz')))
        · rcases h2 with h2 | h2
          · exact absurd he.symm (Sp.ne (s3 z' ((flat_leaf h x z').2 ⟨m', h2, hz'⟩) z (inK m z h1 hz)))
          · exact ih s2 h1 h2
    exact key (kdsOf n) hs (hd m hm) (hd m' hm')
theorem treeLeaf {t : TreeV} {x : List It} (h : Good t x) (z : It) : z ∈ x ↔ ∃ m : Nd 0, (⟨0, m⟩ : Sigma Nd) ∈ subT t ∧ z ∈ itsOf m := by
  rw [← h.fl]
  unfold subT
  cases rootT t with
  | none => simp [flatR]
  | some s => obtain ⟨q, n⟩ := s; exact flat_leaf q n z
theorem treeUniq {t : TreeV} {x : List It} (h : Good t x) {m m' : Nd 0} {z z' : It} (hm : (⟨0, m⟩ : Sigma Nd) ∈ subT t) (hm' : (⟨0, m'⟩ : Sigma Nd) ∈ subT t) (hz : z ∈ itsOf m) (hz' : z' ∈ itsOf m') (he : z.1 = z'.1) : m = m' := by
  have h2 := h.fl; have h3 := h.st
  rw [← h2] at h3
  unfold subT at hm hm'
  cases hr : rootT t with
  | none => rw [hr] at hm; cases hm
  | some s => obtain ⟨q, n⟩ := s; rw [hr] at hm hm' h3; exact leaf_uniq q n h3 m m' z z' hm hm' hz hz' he
theorem leaf_srt : ∀ (h : Nat) (n : Nd h), Srt (flat h n.2) → ∀ (m : Nd 0), (⟨0, m⟩ : Sigma Nd) ∈ subs h n → Srt (itsOf m)
  | 0, n, hs, m, hm => by
    have e1 := List.mem_singleton.1 hm
    simp only [Sigma.mk.injEq, heq_eq_eq, true_and] at e1
    rw [e1]; exact hs
  | h + 1, n, hs, m, hm => by
    have hm' : (⟨0, m⟩ : Sigma Nd) = ⟨h + 1, n⟩ ∨ (⟨0, m⟩ : Sigma Nd) ∈ (kdsOf n).flatMap (subs h) := List.mem_cons.1 hm
    rcases hm' with hm' | hm'
    · have := congrArg Sigma.fst hm'; simp at this
    · obtain ⟨x, hx, hmx⟩ := List.mem_flatMap.1 hm'
      obtain ⟨i, hi⟩ := List.getElem?_of_mem hx
      have hs' : Srt (flatK (kdsOf n)) := hs
      rw [flatK_split hi] at hs'
      exact leaf_srt h x (srt_mid hs') m hmx
theorem treeSrt {t : TreeV} {x : List It} (h : Good t x) {m : Nd 0} (hm : (⟨0, m⟩ : Sigma Nd) ∈ subT t) : Srt (itsOf m) := by
  have h2 := h.fl; have h3 := h.st
  rw [← h2] at h3
  unfold subT at hm
  cases hr : rootT t with
  | none => rw [hr] at hm; cases hm
  | some s => obtain ⟨q, n⟩ := s; rw [hr] at hm h3; exact leaf_srt q n h3 m hm
def Own1 (t : TreeV) : Prop := ∀ s ∈ subT t, ∀ s' ∈ subT t, sid s = sid s' → s = s'
theorem Coh.own {a b : TreeV} (h : Coh a b) : Own1 a := fun s hs s' hs' => h s (List.mem_append.2 (.inl hs)) s' (List.mem_append.2 (.inl hs'))
theorem subAt_eq {t : TreeV} (h : Own1 t) {s : Sigma Nd} (hs : s ∈ subT t) : subAt t (sid s) = some s := by
  obtain ⟨s', h1, h2, h3⟩ := subAt_some (t := t) (p := sid s) (List.mem_map.2 ⟨s, hs, rfl⟩)
  rw [h1, h s' h2 s hs h3]
theorem own_mem {t : TreeV} (h : Own1 t) {oks : List Nat} {came : Bool} {e : En} : e ∈ ownL t oks came (idl t) ↔ e.c = came ∧ ∃ m : Nd 0, (⟨0, m⟩ : Sigma Nd) ∈ subT t ∧ m.1 ∉ oks ∧ (e.k, e.v) ∈ itsOf m := by
  unfold ownL
  rw [List.mem_flatMap]
  constructor
  · rintro ⟨p, hp, he⟩
    unfold ownAt at he
    split at he
    · rename_i n hn
      split at he
      · cases he
      · rename_i hno
        obtain ⟨z, hz, rfl⟩ := List.mem_map.1 he
        have h1 := List.mem_of_find?_eq_some hn
        have h2 : sid ⟨0, n⟩ = p := by unfold subAt at hn; have := List.find?_some hn; exact of_decide_eq_true this
        have h3 : n.1 = p := h2
        exact ⟨rfl, n, h1, by rw [h3]; exact hno, hz⟩
    · cases he
  · rintro ⟨hc, m, hm, hno, hz⟩
    refine ⟨m.1, (idl_mem t _).2 (List.mem_map.2 ⟨_, hm, rfl⟩), ?_⟩
    have := subAt_eq h hm
    unfold ownAt
    rw [show subAt t m.1 = some ⟨0, m⟩ from this]
    simp only
    rw [if_neg hno]
    exact List.mem_map.2 ⟨_, hz, by cases e; simp at hc ⊢; exact hc.symm⟩
end Go.Proofs.Ytljgdbgcleibjaa.A
namespace Go.Proofs.Ytljgdbgcleibjaa.A
open Go Go.RowKit Go.Sort Go.Shelf
set_option linter.unusedVariables false
set_option linter.unusedSimpArgs false
def ltE (x y : En) : Prop := x.k.lt y.k ∨ (x.k = y.k ∧ x.c = false ∧ y.c = true)
def ltC (x y : Sp × Bool) : Prop := x.1.lt y.1 ∨ (x.1 = y.1 ∧ x.2 = false ∧ y.2 = true)
theorem ltC_irrefl (x : Sp × Bool) : ¬ ltC x x := by rintro (h | ⟨_, h1, h2⟩); exact Sp.irrefl _ h; rw [h1] at h2; cases h2
theorem ltC_trans {x y z : Sp × Bool} (h : ltC x y) (h' : ltC y z) : ltC x z := by
  rcases h with h | ⟨e, h1, h2⟩
  · rcases h' with h' | ⟨e', _, _⟩
    · exact .inl (Sp.trans h h')
    · left; rw [← e']; exact h
  · rcases h' with h' | ⟨e', h1', _⟩
    · left; rw [e]; exact h'
    · rw [h2] at h1'; cases h1'
theorem ltC_asym {x y : Sp × Bool} (h : ltC x y) : ¬ ltC y x := fun h' => ltC_irrefl x (ltC_trans h h')
theorem srtC_ext {l m : List (Sp × Bool)} (hl : l.Pairwise ltC) (hm : m.Pairwise ltC) (h : ∀ p, p ∈ l ↔ p ∈ m) : l = m := by
  induction l generalizing m with
  | nil =>
    cases m with
    | nil => rfl
    | cons y r => have := (h y).2 List.mem_cons_self; cases this
  | cons x r ih =>
    cases m with
    | nil => have := (h x).1 List.mem_cons_self; cases this
    | cons y s =>
      obtain ⟨h1, h2⟩ := List.pairwise_cons.1 hl
      obtain ⟨h3, h4⟩ := List.pairwise_cons.1 hm
      have e : x = y := by
        rcases List.mem_cons.1 ((h x).1 List.mem_cons_self) with e | hx
        · exact e
        · rcases List.mem_cons.1 ((h y).2 List.mem_cons_self) with e | hy
          · exact e.symm
          · exact absurd (h1 y hy) (ltC_asym (h3 x hx))
      subst e
      rw [ih h2 h4 (fun p => ?_)]
      constructor
      · intro hp
        rcases List.mem_cons.1 ((h p).1 (List.mem_cons_of_mem _ hp)) with e | h5
        · subst e; exact absurd (h1 p hp) (ltC_irrefl p)
        · exact h5
      · intro hp
        rcases List.mem_cons.1 ((h p).2 (List.mem_cons_of_mem _ hp)) with e | h5
        · subst e; exact absurd (h3 p hp) (ltC_irrefl p)
        · exact h5
theorem tell_sub : ∀ (S : List En), (tell S).Sublist (S.map keyE)
  | [] => List.Sublist.refl _
  | [e] => List.Sublist.refl _
  | e :: e' :: r => by
    rw [tell]
    split
    · exact .cons _ (.cons _ (tell_sub r))
    · exact .cons_cons _ (tell_sub (e' :: r))
theorem tell_srt {S : List En} (h : S.Pairwise ltE) : (tell S).Pairwise ltC := (List.pairwise_map.2 h : (S.map keyE).Pairwise ltC).sublist (tell_sub S)
theorem tell_mem : ∀ (S : List En), S.Pairwise ltE → ∀ p, p ∈ tell S ↔ ∃ e ∈ S, keyE e = p ∧ ∀ e' ∈ S, e'.k = e.k → e'.c ≠ e.c → e'.v ≠ e.v
  | [], _, p => by simp [tell]
  | [e], _, p => by
    simp only [tell, List.mem_singleton]
    constructor
    · rintro rfl; exact ⟨e, rfl, rfl, fun e' he' _ hc => absurd (by rw [he']) hc⟩
    · rintro ⟨e', rfl, rfl, _⟩; rfl
  | e :: e' :: r, hs, p => by
    obtain ⟨h1, h2⟩ := List.pairwise_cons.1 hs
    obtain ⟨h3, h4⟩ := List.pairwise_cons.1 h2
    have hee := h1 e' List.mem_cons_self
    rw [tell]
    split
    · rename_i hc
      have hcc : e.c = false ∧ e'.c = true := by
        rcases hee with h | h
        · rw [hc.1] at h; exact absurd h (Sp.irrefl _)
        · exact h.2
      have hr : ∀ x ∈ r, e'.k.lt x.k := fun x hx => by
        rcases h3 x hx with h | ⟨_, h, _⟩
        · exact h
        · rw [hcc.2] at h; cases h
      rw [tell_mem r h4 p]
      constructor
      · rintro ⟨x, hx, hp, hn⟩
        refine ⟨x, List.mem_cons_of_mem _ (List.mem_cons_of_mem _ hx), hp, fun y hy hk hcy => ?_⟩
        rcases List.mem_cons.1 hy with rfl | hy
        · exact absurd (hc.1.symm.trans hk) (Sp.ne (hr x hx))
        · rcases List.mem_cons.1 hy with rfl | hy
          · exact absurd hk (Sp.ne (hr x hx))
          · exact hn y hy hk hcy
      · rintro ⟨x, hx, hp, hn⟩
        rcases List.mem_cons.1 hx with rfl | hx
        · exact absurd hc.2.symm (hn e' (List.mem_cons_of_mem _ List.mem_cons_self) hc.1.symm (by rw [hcc.1, hcc.2]; decide))
        · rcases List.mem_cons.1 hx with rfl | hx
          · exact absurd hc.2 (hn e List.mem_cons_self hc.1 (by rw [hcc.1, hcc.2]; decide))
          · exact ⟨x, hx, hp, fun y hy => hn y (List.mem_cons_of_mem _ (List.mem_cons_of_mem _ hy))⟩
    · rename_i hc
      rw [List.mem_cons, tell_mem (e' :: r) h2 p]
      constructor
      · rintro (rfl | ⟨x, hx, hp, hn⟩)
        · refine ⟨e, List.mem_cons_self, rfl, fun y hy hk hcy hv => ?_⟩
          rcases List.mem_cons.1 hy with rfl | hy
          · exact hcy rfl
          · have hey := h1 y hy
            have hq : e.c = false ∧ y.c = true := by
              rcases hey with h | h
              · rw [hk] at h; exact absurd h (Sp.irrefl _)
              · exact h.2
            rcases List.mem_cons.1 hy with rfl | hy
            · exact hc ⟨hk.symm, hv.symm⟩
            · -- e < e' < y, of one spot
              rcases hee with h | ⟨h5, h6, h7⟩
              · rcases h3 y hy with h8 | ⟨h8, _, _⟩
                · exact absurd hk.symm (Sp.ne (Sp.trans h h8))
                · rw [h8, hk] at h; exact absurd h (Sp.irrefl _)
              · rcases h3 y hy with h8 | ⟨_, h8, _⟩
                · rw [← h5, ← hk] at h8; exact absurd h8 (Sp.irrefl _)
                · rw [h7] at h8; cases h8
        · refine ⟨x, List.mem_cons_of_mem _ hx, hp, fun y hy hk hcy hv => ?_⟩
          rcases List.mem_cons.1 hy with rfl | hy
          · have hex := h1 x hx
            have hq : y.c = false ∧ x.c = true := by
              rcases hex with h | h
              · rw [hk] at h; exact absurd h (Sp.irrefl _)
              · exact h.2
            rcases List.mem_cons.1 hx with rfl | hx
            · exact hc ⟨hk, hv⟩
            · rcases hee with h | ⟨h5, h6, h7⟩
              · rcases h3 x hx with h8 | ⟨h8, _, _⟩
                · exact absurd hk (Sp.ne (Sp.trans h h8))
                · rw [h8, ← hk] at h; exact absurd h (Sp.irrefl _)
              · rcases h3 x hx with h8 | ⟨_, h8, _⟩
                · rw [← h5, hk] at h8; exact absurd h8 (Sp.irrefl _)
                · rw [h7] at h8; cases h8
          · exact hn y hy hk hcy hv
      · rintro ⟨x, hx, hp, hn⟩
        rcases List.mem_cons.1 hx with rfl | hx
        · exact .inl hp.symm
        · exact .inr ⟨x, hx, hp, fun y hy => hn y (List.mem_cons_of_mem _ hy)⟩
theorem sortE_lt {l : List En} (hn : (l.map keyE).Nodup) : (sortE l).Pairwise ltE := by
  obtain ⟨h1, h2⟩ := sortE_spec (l := l)
  have hnd : ((sortE l).map keyE).Nodup := (h1.map keyE).nodup_iff.2 hn
  have := (List.pairwise_map.1 hnd : (sortE l).Pairwise (fun x y => keyE x ≠ keyE y))
  refine (List.Pairwise.and h2 this).imp (fun {x y} h => ?_)
  obtain ⟨h3, h4⟩ := h
  rw [entOrd_iff] at h3
  by_cases h5 : x.k.lt y.k
  · exact .inl h5
  · have e : x.k = y.k := Sp.tri h5 (fun h => h3 (.inl h))
    refine .inr ⟨e, ?_⟩
    have h6 : ¬ (y.c = false ∧ x.c = true) := fun h => h3 (.inr ⟨e.symm, h⟩)
    have h7 : x.c ≠ y.c := fun h => h4 (by unfold keyE; rw [e, h])
    cases hx : x.c <;> cases hy : y.c <;> simp_all
theorem ownAt_keys {t : TreeV} {x : List It} (h : Good t x) (oks : List Nat) (came : Bool) (p : Nat) : ((ownAt t oks came p).map keyE).Nodup := by
  unfold ownAt
  split
  · rename_i n hn
    split
    · exact List.nodup_nil
    · have h1 : (⟨0, n⟩ : Sigma Nd) ∈ subT t := List.mem_of_find?_eq_some hn
      rw [List.map_map]
      refine List.pairwise_map.2 ((treeSrt h h1).imp (fun {y z} hyz e => ?_))
      have e' : keyE ⟨y.1, y.2, came⟩ = keyE ⟨z.1, z.2, came⟩ := e
      have h5 := congrArg Prod.fst e'
      exact Sp.ne hyz h5
  · exact List.nodup_nil
theorem ownL_keys {t : TreeV} {x : List It} (h : Good t x) (oks : List Nat) (came : Bool) : ∀ (ps : List Nat), ps.Nodup → ((ownL t oks came ps).map keyE).Nodup
  | [], _ => List.nodup_nil
  | p :: ps, hp => by
    obtain ⟨h1, h2⟩ := List.nodup_cons.1 hp
    have e : ownL t oks came (p :: ps) = ownAt t oks came p ++ ownL t oks came ps := by simp [ownL]
    rw [e, List.map_append]
    refine List.nodup_append.2 ⟨ownAt_keys h oks came p, ownL_keys h oks came ps h2, fun a ha b hb hab => ?_⟩
    obtain ⟨u, hu, rfl⟩ := List.mem_map.1 ha
    obtain ⟨w, hw, rfl⟩ := List.mem_map.1 hb
    obtain ⟨q, hq, hwq⟩ := List.mem_flatMap.1 (show w ∈ ps.flatMap (ownAt t oks came) from hw)
    have key : ∀ (p : Nat) (u : En), u ∈ ownAt t oks came p → ∃ m : Nd 0, (⟨0, m⟩ : Sigma Nd) ∈ subT t ∧ m.1 = p ∧ (u.k, u.v) ∈ itsOf m := by
      intro p u hu
      unfold ownAt at hu
      split at hu
      · rename_i n hn
        split at hu
        · cases hu
        · obtain ⟨z, hz, rfl⟩ := List.mem_map.1 hu
          refine ⟨n, List.mem_of_find?_eq_some hn, ?_, hz⟩
          unfold subAt at hn
          have := List.find?_some hn
          exact of_decide_eq_true this
      · cases hu
    obtain ⟨m, hm1, hm2, hm3⟩ := key p u hu
    obtain ⟨m', hm1', hm2', hm3'⟩ := key q w hwq
    have hk : u.k = w.k := congrArg Prod.fst hab
    have := treeUniq h hm1 hm1' hm3 hm3' hk
    subst this
    rw [hm2] at hm2'
    rw [← hm2'] at hq
    exact h1 hq
theorem two_keys {a b : TreeV} {x y : List It} (ha : Good a x) (hb : Good b y) : ((ownTwo a b).map keyE).Nodup := by
  unfold ownTwo
  rw [List.map_append]
  refine List.nodup_append.2 ⟨ownL_keys ha _ _ _ (idl_nodup a), ownL_keys hb _ _ _ (idl_nodup b), fun p hp q hq hpq => ?_⟩
  have key : ∀ (t : TreeV) (oks ps : List Nat) (came : Bool) (e : En), e ∈ ownL t oks came ps → e.c = came := by
    intro t oks ps came e he
    obtain ⟨r, _, hr⟩ := List.mem_flatMap.1 (show e ∈ ps.flatMap (ownAt t oks came) from he)
    unfold ownAt at hr
    split at hr
    · split at hr
      · cases hr
      · obtain ⟨z, _, rfl⟩ := List.mem_map.1 hr; rfl
    · cases hr
  obtain ⟨u, hu, rfl⟩ := List.mem_map.1 hp
  obtain ⟨w, hw, rfl⟩ := List.mem_map.1 hq
  have h1 := key _ _ _ _ u hu
  have h2 := key _ _ _ _ w hw
  have h3 : u.c = w.c := congrArg Prod.snd hpq
  rw [h1, h2] at h3; cases h3
theorem own_val {a b : TreeV} {x y : List It} (hc : Coh a b) (ha : Good a x) (hb : Good b y) (k : Sp) (v : Int) (came : Bool) : (⟨k, v, came⟩ : En) ∈ ownL a (idl b) came (idl a) → (k, v) ∈ x := fun h => by
  obtain ⟨_, m, hm, _, hz⟩ := (own_mem hc.own).1 h
  exact (treeLeaf ha _).2 ⟨m, hm, hz⟩
theorem told_side {a b : TreeV} {x y : List It} (hc : Coh a b) (ha : Good a x) (hb : Good b y) (k : Sp) (came : Bool) :
    (∃ v, (⟨k, v, came⟩ : En) ∈ ownL a (idl b) came (idl a) ∧ (⟨k, v, !came⟩ : En) ∉ ownL b (idl a) (!came) (idl b)) ↔ ∃ v, (k, v) ∈ x ∧ (k, v) ∉ y := by
  constructor
  · rintro ⟨v, h1, h2⟩
    refine ⟨v, own_val hc ha hb k v came h1, fun hy => ?_⟩
    obtain ⟨_, m, hm, hmo, hz⟩ := (own_mem hc.own).1 h1
    obtain ⟨m', hm', hz'⟩ := (treeLeaf hb _).1 hy
    refine h2 ((own_mem hc.symm.own).2 ⟨rfl, m', hm', fun hs => ?_, hz'⟩)
    obtain ⟨s, hs1, hs2⟩ := List.mem_map.1 ((idl_mem a _).1 hs)
    have e : s = ⟨0, m'⟩ := hc s (List.mem_append.2 (.inl hs1)) ⟨0, m'⟩ (List.mem_append.2 (.inr hm')) hs2
    subst e
    have := treeUniq ha hm hs1 hz hz' rfl
    subst this
    exact hmo ((idl_mem b _).2 (List.mem_map.2 ⟨_, hm', rfl⟩))
  · rintro ⟨v, h1, h2⟩
    obtain ⟨m, hm, hz⟩ := (treeLeaf ha _).1 h1
    refine ⟨v, (own_mem hc.own).2 ⟨rfl, m, hm, fun hs => ?_, hz⟩, fun h3 => ?_⟩
    · obtain ⟨s, hs1, hs2⟩ := List.mem_map.1 ((idl_mem b _).1 hs)
      have e : s = ⟨0, m⟩ := hc s (List.mem_append.2 (.inr hs1)) ⟨0, m⟩ (List.mem_append.2 (.inl hm)) hs2
      subst e
      exact h2 ((treeLeaf hb _).2 ⟨m, hs1, hz⟩)
    · exact h2 (own_val hc.symm hb ha k v (!came) h3)
theorem chg_mem {a b : TreeV} {x y : List It} (hc : Coh a b) (ha : Good a x) (hb : Good b y) (p : Sp × Bool) : p ∈ chg a b ↔ if p.2 = true then ∃ v, (p.1, v) ∈ y ∧ (p.1, v) ∉ x else ∃ v, (p.1, v) ∈ x ∧ (p.1, v) ∉ y := by
  have hk := two_keys ha hb
  unfold chg
  rw [tell_mem _ (sortE_lt hk)]
  have hm : ∀ e, e ∈ sortE (ownTwo a b) ↔ e ∈ ownL a (idl b) false (idl a) ∨ e ∈ ownL b (idl a) true (idl b) := fun e => by
    rw [(sortE_spec (l := ownTwo a b)).1.mem_iff]; unfold ownTwo; rw [List.mem_append]
  have hca : ∀ e, e ∈ ownL a (idl b) false (idl a) → e.c = false := fun e he => ((own_mem hc.own).1 he).1
  have hcb : ∀ e, e ∈ ownL b (idl a) true (idl b) → e.c = true := fun e he => ((own_mem hc.symm.own).1 he).1
  obtain ⟨k, c⟩ := p
  cases c with
  | false =>
    rw [if_neg (show ¬ (false = true) by decide), ← told_side hc ha hb k false]
    constructor
    · rintro ⟨e, he, hp, hn⟩
      obtain ⟨ek, ev, ec⟩ := e
      simp only [keyE, Prod.mk.injEq] at hp
      obtain ⟨rfl, rfl⟩ := hp
      rcases (hm _).1 he with he | he
      · refine ⟨ev, he, fun h2 => ?_⟩
        exact hn ⟨ek, ev, true⟩ ((hm _).2 (.inr h2)) rfl (show true ≠ false by decide) rfl
      · have := hcb _ he; cases this
    · rintro ⟨v, h1, h2⟩
      refine ⟨⟨k, v, false⟩, (hm _).2 (.inl h1), rfl, fun e' he' hk' hc' hv' => ?_⟩
      rcases (hm _).1 he' with he' | he'
      · exact hc' (hca _ he')
      · have := hcb _ he'
        obtain ⟨ek, ev, ec⟩ := e'
        simp only at hk' hv' this
        subst hk' hv' this
        exact h2 he'
  | true =>
    rw [if_pos rfl, ← told_side hc.symm hb ha k true]
    constructor
    · rintro ⟨e, he, hp, hn⟩
      obtain ⟨ek, ev, ec⟩ := e
      simp only [keyE, Prod.mk.injEq] at hp
      obtain ⟨rfl, rfl⟩ := hp
      rcases (hm _).1 he with he | he
      · have := hca _ he; cases this
      · refine ⟨ev, he, fun h2 => ?_⟩
        exact hn ⟨ek, ev, false⟩ ((hm _).2 (.inl h2)) rfl (show false ≠ true by decide) rfl
    · rintro ⟨v, h1, h2⟩
      refine ⟨⟨k, v, true⟩, (hm _).2 (.inr h1), rfl, fun e' he' hk' hc' hv' => ?_⟩
      rcases (hm _).1 he' with he' | he'
      · have := hca _ he'
        obtain ⟨ek, ev, ec⟩ := e'
        simp only at hk' hv' this
        subst hk' hv' this
        exact h2 he'
      · exact hc' (hcb _ he')
theorem chg_srt {a b : TreeV} {x y : List It} (ha : Good a x) (hb : Good b y) : (chg a b).Pairwise ltC := tell_srt (sortE_lt (two_keys ha hb))
theorem mis_mem {l : List It} {z : It} {c : Bool} {p : Sp × Bool} : p ∈ mis l z c ↔ p = (z.1, c) ∧ z ∉ l := by
  unfold mis; split <;> simp_all
theorem btw_mem (A B : List It) : ∀ (a b : List It) (p : Sp × Bool), p ∈ btwGo A B a b ↔ (p.2 = false ∧ ∃ z ∈ a, z.1 = p.1 ∧ z ∉ B) ∨ (p.2 = true ∧ ∃ z ∈ b, z.1 = p.1 ∧ z ∉ A) := by
  intro a b
  induction a, b using btwGo.induct with
  | case1 => intro p; rw [btwGo]; simp
  | case2 x a ih =>
    intro p; rw [btwGo, List.mem_append, ih, mis_mem]
    obtain ⟨k, c⟩ := p
    constructor
    · rintro (⟨h1, h2⟩ | ⟨h1, z, hz, h2⟩ | ⟨h1, z, hz, h2⟩)
      · cases h1; exact .inl ⟨rfl, x, List.mem_cons_self, rfl, h2⟩
      · exact .inl ⟨h1, z, List.mem_cons_of_mem _ hz, h2⟩
      · cases hz
    · rintro (⟨h1, z, hz, h2, h3⟩ | ⟨h1, z, hz, h2⟩)
      · rcases List.mem_cons.1 hz with rfl | hz
        · simp only at h1 h2; subst h1 h2; exact .inl ⟨rfl, h3⟩
        · exact .inr (.inl ⟨h1, z, hz, h2, h3⟩)
      · cases hz
  | case3 y b ih =>
    intro p; rw [btwGo, List.mem_append, ih, mis_mem]
    obtain ⟨k, c⟩ := p
    constructor
    · rintro (⟨h1, h2⟩ | ⟨h1, z, hz, h2⟩ | ⟨h1, z, hz, h2⟩)
      · cases h1; exact .inr ⟨rfl, y, List.mem_cons_self, rfl, h2⟩
      · cases hz
      · exact .inr ⟨h1, z, List.mem_cons_of_mem _ hz, h2⟩
    · rintro (⟨h1, z, hz, h2⟩ | ⟨h1, z, hz, h2, h3⟩)
      · cases hz
      · rcases List.mem_cons.1 hz with rfl | hz
        · simp only at h1 h2; subst h1 h2; exact .inl ⟨rfl, h3⟩
        · exact .inr (.inr ⟨h1, z, hz, h2, h3⟩)
  | case4 x a y b hlt ih =>
    intro p; rw [btwGo, if_pos hlt, List.mem_append, ih, mis_mem]
    obtain ⟨k, c⟩ := p
    constructor
    · rintro (⟨h1, h2⟩ | ⟨h1, z, hz, h2⟩ | ⟨h1, z, hz, h2⟩)
      · cases h1; exact .inl ⟨rfl, x, List.mem_cons_self, rfl, h2⟩
      · exact .inl ⟨h1, z, List.mem_cons_of_mem _ hz, h2⟩
      · exact .inr ⟨h1, z, hz, h2⟩
    · rintro (⟨h1, z, hz, h2, h3⟩ | ⟨h1, z, hz, h2⟩)
      · rcases List.mem_cons.1 hz with rfl | hz
        · simp only at h1 h2; subst h1 h2; exact .inl ⟨rfl, h3⟩
        · exact .inr (.inl ⟨h1, z, hz, h2, h3⟩)
      · exact .inr (.inr ⟨h1, z, hz, h2⟩)
  | case5 x a y b hlt ih =>
    intro p; rw [btwGo, if_neg hlt, List.mem_append, ih, mis_mem]
    obtain ⟨k, c⟩ := p
    constructor
    · rintro (⟨h1, h2⟩ | ⟨h1, z, hz, h2⟩ | ⟨h1, z, hz, h2⟩)
      · cases h1; exact .inr ⟨rfl, y, List.mem_cons_self, rfl, h2⟩
      · exact .inl ⟨h1, z, hz, h2⟩
      · exact .inr ⟨h1, z, List.mem_cons_of_mem _ hz, h2⟩
    · rintro (⟨h1, z, hz, h2⟩ | ⟨h1, z, hz, h2, h3⟩)
      · exact .inr (.inl ⟨h1, z, hz, h2⟩)
      · rcases List.mem_cons.1 hz with rfl | hz
        · simp only at h1 h2; subst h1 h2; exact .inl ⟨rfl, h3⟩
        · exact .inr (.inr ⟨h1, z, hz, h2, h3⟩)
theorem btw_srt (A B : List It) : ∀ (a b : List It), Srt a → Srt b → (btwGo A B a b).Pairwise ltC := by
  intro a b
  have sing : ∀ (l : List It) (z : It) (c : Bool), (mis l z c).Pairwise ltC := fun l z c => by unfold mis; split <;> simp
  induction a, b using btwGo.induct with
  | case1 => intro _ _; rw [btwGo]; exact List.Pairwise.nil
  | case2 x a ih =>
    intro ha hb
    obtain ⟨h1, h2⟩ := List.pairwise_cons.1 ha
    rw [btwGo]
    refine List.pairwise_append.2 ⟨sing _ _ _, ih h2 hb, fun p hp q hq => ?_⟩
    obtain ⟨rfl, _⟩ := mis_mem.1 hp
    rcases (btw_mem A B a [] q).1 hq with ⟨_, z, hz, e, _⟩ | ⟨_, z, hz, _⟩
    · left; show x.1.lt q.1; rw [← e]; exact h1 z hz
    · cases hz
  | case3 y b ih =>
    intro ha hb
    obtain ⟨h1, h2⟩ := List.pairwise_cons.1 hb
    rw [btwGo]
    refine List.pairwise_append.2 ⟨sing _ _ _, ih ha h2, fun p hp q hq => ?_⟩
    obtain ⟨rfl, _⟩ := mis_mem.1 hp
    rcases (btw_mem A B [] b q).1 hq with ⟨_, z, hz, _⟩ | ⟨_, z, hz, e, _⟩
    · cases hz
    · left; show y.1.lt q.1; rw [← e]; exact h1 z hz
  | case4 x a y b hlt ih =>
    intro ha hb
    obtain ⟨h1, h2⟩ := List.pairwise_cons.1 ha
    obtain ⟨h3, h4⟩ := List.pairwise_cons.1 hb
    rw [btwGo, if_pos hlt]
    refine List.pairwise_append.2 ⟨sing _ _ _, ih h2 hb, fun p hp q hq => ?_⟩
    obtain ⟨rfl, _⟩ := mis_mem.1 hp
    rcases (btw_mem A B a (y :: b) q).1 hq with ⟨_, z, hz, e, _⟩ | ⟨hq2, z, hz, e, _⟩
    · left; show x.1.lt q.1; rw [← e]; exact h1 z hz
    · have hyz : z = y ∨ y.1.lt z.1 := by rcases List.mem_cons.1 hz with rfl | hz; exact .inl rfl; exact .inr (h3 z hz)
      have hxq : ¬ q.1.lt x.1 := by
        rw [← e]
        rcases hyz with rfl | hyz
        · exact hlt
        · exact fun h => hlt (Sp.trans hyz h)
      by_cases hxk : x.1.lt q.1
      · exact .inl hxk
      · exact .inr ⟨Sp.tri hxk hxq, rfl, hq2⟩
  | case5 x a y b hlt ih =>
    intro ha hb
    obtain ⟨h1, h2⟩ := List.pairwise_cons.1 ha
    obtain ⟨h3, h4⟩ := List.pairwise_cons.1 hb
    have hlt' : y.1.lt x.1 := by simpa using hlt
    rw [btwGo, if_neg hlt]
    refine List.pairwise_append.2 ⟨sing _ _ _, ih ha h4, fun p hp q hq => ?_⟩
    obtain ⟨rfl, _⟩ := mis_mem.1 hp
    rcases (btw_mem A B (x :: a) b q).1 hq with ⟨_, z, hz, e, _⟩ | ⟨_, z, hz, e, _⟩
    · left; show y.1.lt q.1; rw [← e]
      rcases List.mem_cons.1 hz with rfl | hz
      · exact hlt'
      · exact Sp.trans hlt' (h1 z hz)
    · left; show y.1.lt q.1; rw [← e]; exact h3 z hz
theorem chg_ref {a b : TreeV} {x y : List It} (hc : Coh a b) (ha : Good a x) (hb : Good b y) : chg a b = refBtw x y := by
  refine srtC_ext (chg_srt ha hb) (btw_srt x y x y ha.st hb.st) (fun p => ?_)
  rw [chg_mem hc ha hb]
  unfold refBtw
  rw [btw_mem]
  obtain ⟨k, c⟩ := p
  cases c with
  | false =>
    rw [if_neg (show ¬ (false = true) by decide)]
    constructor
    · rintro ⟨v, h1, h2⟩; exact .inl ⟨rfl, (k, v), h1, rfl, h2⟩
    · rintro (⟨_, z, h1, h2, h3⟩ | ⟨h, _⟩)
      · obtain ⟨zk, zv⟩ := z; simp only at h2; subst h2; exact ⟨zv, h1, h3⟩
      · cases h
  | true =>
    rw [if_pos rfl]
    constructor
    · rintro ⟨v, h1, h2⟩; exact .inr ⟨rfl, (k, v), h1, rfl, h2⟩
    · rintro (⟨h, _⟩ | ⟨_, z, h1, h2, h3⟩)
      · cases h
      · obtain ⟨zk, zv⟩ := z; simp only at h2; subst h2; exact ⟨zv, h1, h3⟩
theorem miss_self (l : List Nat) : missL l l = 0 := by
  unfold missL
  rw [List.length_eq_zero_iff, List.filter_eq_nil_iff]
  intro p hp
  simpa using hp
theorem look_self (t : TreeV) : lookN t t = 0 := by unfold lookN; rw [miss_self]
theorem put_first {k : Sp} {v : Int} {t : TreeV} (h : PutT (some (none, 0)) k v t) : lookN none t = 1 := by
  obtain ⟨r', rfl, b, rfl⟩ := h
  rfl
end Go.Proofs.Ytljgdbgcleibjaa.A
namespace Go.Proofs.Ytljgdbgcleibjaa.A
open Go Go.RowKit
set_option linter.unusedVariables false
set_option linter.unusedSimpArgs false
structure Ac where
  del : Bool
  k : Sp
  v : Int
  deriving Inhabited
def Ac.cs (a : Ac) : List AV := [.v (.bool a.del)] ++ a.k.cs ++ [.v (.int .u64 a.v)]
theorem good_len {t : TreeV} {x : List It} (h : Good t x) (hx : x.length ≤ 1000) : 0 ≤ lenT t ∧ lenT t ≤ 1000000 := by rw [h.ln]; omega
theorem good_ids {t : TreeV} {x : List It} (h : Good t x) (hx : x.length ≤ 1000) : (idl t).length ≤ 100000 := Nat.le_trans (idl_len h) (by omega)
end Go.Proofs.Ytljgdbgcleibjaa.A
namespace Go.Proofs.Ytljgdbgcleibjaa.A
open Go Go.RowKit
set_option linter.unusedVariables false
set_option linter.unusedSimpArgs false
set_option maxRecDepth 100000
theorem TF.en37 : entersT Try.prog 37 := enters_of Try.func37 (by kernel_rfl) (by kernel_rfl)
theorem TF.en20 : entersT Try.prog 20 := enters_of Try.func20 (by kernel_rfl) (by kernel_rfl)
theorem TF.sl22 : sliceT Try.prog 22 = some 63 := by kernel_rfl
theorem TF.sz63 : szT Try.prog 63 = some 6 := by kernel_rfl
theorem TF.agg63 : aggT Try.prog 63 = some true := by kernel_rfl
theorem TF.zero63 : ZeroT Try.prog 63 [.v (.bool false), .v (.int .i64 0), .v (.int .i64 0), .v (.int .i64 0), .v (.int .u64 0), .v (.int .u64 0)] := ⟨[(.bool false), (.int .i64 0), (.int .i64 0), (.int .i64 0), (.int .u64 0), (.int .u64 0)], by kernel_rfl, (LeCells.refl _)⟩
theorem TF.f63_0 : fieldT Try.prog 63 0 = some (0, 4) := by kernel_rfl
theorem TF.f63_1 : fieldT Try.prog 63 1 = some (1, 47) := by kernel_rfl
theorem TF.en21 : entersT Try.prog 21 := enters_of Try.func21 (by kernel_rfl) (by kernel_rfl)
theorem TF.f63_2 : fieldT Try.prog 63 2 = some (5, 45) := by kernel_rfl
theorem TF.en23 : entersT Try.prog 23 := enters_of Try.func23 (by kernel_rfl) (by kernel_rfl)
end Go.Proofs.Ytljgdbgcleibjaa.A
namespace Go.Proofs.Ytljgdbgcleibjaa.A
open Go Go.RowKit
set_option linter.unusedVariables false
set_option linter.unusedSimpArgs false
set_option maxRecDepth 100000
theorem TF.pl47 : placesT Try.prog 47 = some [(0, 3), (3, 1)] := by kernel_rfl
theorem TF.en13 : entersT Try.prog 13 := enters_of Try.func13 (by kernel_rfl) (by kernel_rfl)
theorem TF.un41 : Try.prog.underlying 41 = some (.func #[84] #[] false) := by kernel_rfl
theorem TF.en19 : entersT Try.prog 19 := enters_of Try.func19 (by kernel_rfl) (by kernel_rfl)
theorem wk_lists : refPut [] (⟨0, 0, 0, 3⟩ : Sp) 3 = [((⟨0, 0, 0, 3⟩ : Sp), 3)] ∧ refPut [((⟨0, 0, 0, 3⟩ : Sp), 3)] (⟨0, 0, 0, 7⟩ : Sp) 7 = [((⟨0, 0, 0, 3⟩ : Sp), 3), ((⟨0, 0, 0, 7⟩ : Sp), 7)] ∧ refBtw [((⟨0, 0, 0, 3⟩ : Sp), 3)] [((⟨0, 0, 0, 3⟩ : Sp), 3), ((⟨0, 0, 0, 7⟩ : Sp), 7)] = [((⟨0, 0, 0, 7⟩ : Sp), true)] := by
  refine ⟨by decide, by decide, ?_⟩
  unfold refBtw
  simp [btwGo, mis, Sp.lt_iff]
set_option maxHeartbeats 1000000 in
theorem awake_ok : AC Try.prog 11 [] [] (fun r n => n = [] ∧ r = boolA true) := by
 refine ac_of_awp (rs := [0]) (nt := 46) Try.func11 rfl rfl rfl rfl (fun w0 C0 hq => ?_)
 refine awp_seq ?_
 refine awp_region ?_
 refine r_assign rfl rfl ?_
 refine awl_nil ?_
 refine x_then ?_
 refine awp_seq ?_
 refine awp_region ?_
 refine r_build (parts := [(1, .const ((Go.Value.int Go.IntKind.u64 7)))]) rfl TF.pl47 TF.zero47 rfl rfl rfl ?_
 refine r_alloc TF.zero47 rfl (fun b1 => ?_)
 refine r_store 0 rfl rfl rfl TF.sz47 rfl rfl rfl ?_
 refine awl_nil ?_
 refine x_then ?_
 refine awp_seq ?_
 refine awp_region ?_
 refine r_call0 hq rfl rfl .nil (New_ok) rfl TF.en13 rfl (fun r hr => ?_)
 obtain rfl := hr
 refine r_build (parts := [(1, .const ((Go.Value.int Go.IntKind.u64 3)))]) rfl TF.pl47 TF.zero47 rfl rfl rfl ?_
 refine r_call0 hq rfl rfl (.cons (.ev rfl rfl) (.cons (.ev rfl rfl) (.cons (.ev rfl rfl) .nil))) (TPut_ok (some (none, 0)) trivial ⟨by decide, by decide⟩ (⟨0, 0, 0, 3⟩ : Sp) 3) rfl TF.en23 rfl (fun r hr => ?_)
 obtain ⟨ta, hta, rfl⟩ := hr
 have hga := good_put good_new hta
 rw [wk_lists.1] at hga
 have hla : 0 ≤ lenT ta ∧ lenT ta ≤ 1000000 := good_len hga (by decide)
 refine r_assign rfl rfl ?_
 refine awl_nil ?_
 refine x_then ?_
 refine awp_seq ?_
 refine awp_region ?_
 refine r_alloc TF.zero3 rfl (fun b3 => ?_)
 refine r_alloc TF.zero4 rfl (fun b4 => ?_)
 refine r_store 1 rfl rfl rfl TF.sz3 rfl rfl rfl ?_
 refine r_store 0 rfl rfl rfl TF.sz4 rfl rfl rfl ?_
 refine awl_nil ?_
 refine x_then ?_
 refine awp_seq ?_
 refine awp_seq ?_
 refine awp_region ?_
 refine r_move rfl rfl ?_
 refine r_move rfl rfl ?_
 refine r_loadAb 2 rfl rfl TF.agg47 TF.sz47 rfl rfl ?_
 refine r_call0 hq rfl rfl (.cons (.ev rfl rfl) (.cons (.ev rfl rfl) (.cons (.ev rfl rfl) .nil))) (TPut_ok ta hga.wf hla (⟨0, 0, 0, 7⟩ : Sp) 7) rfl TF.en23 rfl (fun r hr => ?_)
 obtain ⟨tc, htc, rfl⟩ := hr
 refine r_call0 hq rfl rfl (.cons (.ev rfl rfl) (.cons (.ev rfl rfl) .nil)) (Between_ok ta tc) rfl TF.en20 rfl (fun r hr => ?_)
 obtain rfl := hr
 refine r_fn_eq rfl TF.un41 rfl ?_
 refine awl_nil ?_
 refine x_then ?_
 refine awp_cond rfl (fun hc0 => ?_) (fun hc0 => ?_)
 ·
  exfalso; cases hc0
 ·
  refine awp_skip ?_
  refine x_then ?_
  refine awp_seq ?_
  refine awp_seq ?_
  refine awp_region ?_
  refine r_move rfl rfl ?_
  refine r_move rfl rfl ?_
  refine r_loadAb 2 rfl rfl TF.agg47 TF.sz47 rfl rfl ?_
  refine r_call0 hq rfl rfl (.cons (.ev rfl rfl) (.cons (.ev rfl rfl) (.cons (.ev rfl rfl) .nil))) (TPut_ok ta hga.wf hla (⟨0, 0, 0, 7⟩ : Sp) 7) rfl TF.en23 rfl (fun r hr => ?_)
  obtain ⟨tb, htb, rfl⟩ := hr
  have hgb := good_put hga htb
  rw [wk_lists.2.1] at hgb
  refine r_call0 hq rfl rfl (.cons (.ev rfl rfl) (.cons (.ev rfl rfl) .nil)) (Between_ok ta tb) rfl TF.en20 rfl (fun r hr => ?_)
  obtain rfl := hr
  refine awl_nil ?_
  refine x_then ?_
  refine awp_block ?_
  refine awp_fact (φ := Coh ta tb) (fun C T a w hs => coh_of hga.wf hgb.wf (hs.slots 2 (.a (encT ta)) rfl) (hs.slots 20 (.a (encT tb)) rfl)) (fun hcoh => ?_)
  have hch : chg ta tb = [((⟨0, 0, 0, 7⟩ : Sp), true)] := by rw [chg_ref hcoh hga hgb]; exact wk_lists.2.2
  refine awp_rangeFuncS (fun pre wo => ∃ (n : Int) (c : Bool), ((pre.length = 0 ∧ n = 0 ∧ c = false) ∨ (pre.length = 1 ∧ n = 1 ∧ c = true)) ∧ wo = [⟨b4, true, .box [.v (.bool c)]⟩, ⟨b3, true, .box [.v (.int .i64 n)]⟩, ⟨b1, true, .box (⟨0, 0, 0, 7⟩ : Sp).cs⟩]) (fun _ _ _ => False) [(1, .a (.v (.pointer (some ⟨b1, 0, none⟩)))), (2, .a (encT ta)), (3, .a (.v (.pointer (some ⟨b3, 0, none⟩)))), (4, .a (.v (.pointer (some ⟨b4, 0, none⟩))))] [true, true, true] hq rfl (Between1_ok ta tb hga.wf hgb.wf (good_ids hga (by decide)) (good_ids hgb (by decide)) (two_keys hga hgb)) TF.en37 (fun pre x ⟨c, _, _, h⟩ => by subst h; rfl) rfl rfl rfl (by first | exact List.Sublist.refl _ | exact .cons_cons _ (.cons _ (.refl _)) | exact List.nil_sublist _ | exact .cons _ (.refl _) | exact .cons _ (.cons _ (.refl _)) | exact .cons _ (.cons _ (.cons _ (.refl _))) | exact .cons _ (.cons _ (.cons _ (.cons _ (.refl _)))) | exact .cons_cons _ (List.nil_sublist _)) (Slots.cons rfl (by first | exact .refl _ | exact .nilOwn _ _ | exact .nilSl _ | exact .ownSl _ _ _  | exact SV.le.of_eq (by simp)) (Slots.cons rfl (by first | exact .refl _ | exact .nilOwn _ _ | exact .nilSl _ | exact .ownSl _ _ _  | exact SV.le.of_eq (by simp)) (Slots.cons rfl (by first | exact .refl _ | exact .nilOwn _ _ | exact .nilSl _ | exact .ownSl _ _ _  | exact SV.le.of_eq (by simp)) (Slots.cons rfl (by first | exact .refl _ | exact .nilOwn _ _ | exact .nilSl _ | exact .ownSl _ _ _  | exact SV.le.of_eq (by simp)) Slots.nil)))) rfl rfl ⟨0, false, .inl ⟨rfl, rfl, rfl⟩, rfl⟩ ?_ ?_ ?_
  ·
   intro lr pre x wo rec busy w0 C0 hq hj hax
   obtain ⟨n, c, hnc, rfl⟩ := hj
   obtain ⟨y, hyt, hpre, rfl⟩ := hax
   rw [hch] at hyt
   have hp0 : pre.length = 0 := by have := (List.getElem?_eq_some_iff.1 hyt).1; simp at this; simp [this]
   rw [hp0] at hyt
   cases hyt
   obtain ⟨rfl, rfl⟩ : n = 0 ∧ c = false := by rcases hnc with ⟨_, h1, h2⟩ | ⟨h, _⟩; exact ⟨h1, h2⟩; omega
   refine awpi_seq ?_
   refine awpi_region ?_
   refine awli_op (fun c h => (by cases h)) ?_
   refine r_alloc TF.zero47 rfl (fun b5 => ?_)
   refine awl_nil ⟨rfl, ?_⟩
   refine awli_op (fun c h => (by cases h)) ?_
   refine r_store 0 rfl rfl rfl TF.sz47 rfl rfl rfl ?_
   refine awl_nil ⟨rfl, ?_⟩
   refine awli_nil ?_
   refine x_then ?_
   refine awpi_region ?_
   refine awli_op (fun c h => (by cases h)) ?_
   refine r_assign rfl rfl ?_
   refine awl_nil ⟨rfl, ?_⟩
   refine awli_nil ?_
   refine ⟨rfl, 4, rfl, ?_⟩
   refine awpi_block ?_
   refine awpi_seq ?_
   refine awpi_seq ?_
   refine awpi_region ?_
   refine awli_op (fun c h => (by cases h)) ?_
   refine r_loadAb 0 rfl rfl TF.agg47 TF.sz47 rfl rfl ?_
   refine awl_nil ⟨rfl, ?_⟩
   refine awli_op (fun c h => (by cases h)) ?_
   refine r_loadAb 3 rfl rfl TF.agg47 TF.sz47 rfl rfl ?_
   refine awl_nil ⟨rfl, ?_⟩
   refine awli_op (fun c h => (by cases h)) ?_
   refine r_feq rfl rfl flat47 (isVal_sp (⟨0, 0, 0, 7⟩ : Sp)) (isVal_sp (⟨0, 0, 0, 7⟩ : Sp)) (Sp.kn _) (Sp.kn _) true (by simp) rfl ?_
   refine awl_nil ⟨rfl, ?_⟩
   refine awli_nil ?_
   refine x_then ?_
   refine awpi_cond rfl (fun hc1 => ?_) (fun hc1 => ?_)
   ·
    skip
    refine awpi_region ?_
    refine awli_op (fun c h => (by cases h)) ?_
    refine r_move rfl rfl ?_
    refine awl_nil ⟨rfl, ?_⟩
    refine awli_op (fun c h => (by cases h)) ?_
    refine r_store 1 rfl rfl rfl TF.sz4 rfl rfl rfl ?_
    refine awl_nil ⟨rfl, ?_⟩
    refine awli_nil ?_
    refine x_then ?_
    refine awpi_region ?_
    refine awli_op (fun c h => (by cases h)) ?_
    refine r_load1b 2 rfl rfl rfl TF.agg3 rfl ?_
    refine awl_nil ⟨rfl, ?_⟩
    refine awli_op (fun c h => (by cases h)) ?_
    refine r_ari 1 rfl rfl rfl rfl rfl ?_
    refine awl_nil ⟨rfl, ?_⟩
    refine awli_op (fun c h => (by cases h)) ?_
    refine r_store 2 rfl rfl rfl TF.sz3 rfl rfl rfl ?_
    refine awl_nil ⟨rfl, ?_⟩
    refine awli_nil ?_
    refine x_block ?_
    refine ⟨[⟨b4, true, .box [.v (.bool true)]⟩, ⟨b3, true, .box [.v (.int .i64 1)]⟩, ⟨b1, true, .box (⟨0, 0, 0, 7⟩ : Sp).cs⟩], .inl ⟨rfl, 1, true, .inr ⟨by simp [hp0], rfl, rfl⟩, rfl⟩, ?_, by simp⟩
    · exact .cons _ (List.Sublist.refl _)
   ·
    exfalso; cases hc1
  ·
   intro xs wo' hG hJ
   obtain ⟨n, c, hnc, rfl⟩ := hJ
   rw [hch] at hG
   obtain ⟨rfl, rfl⟩ : n = 1 ∧ c = true := by rcases hnc with ⟨h, _⟩ | ⟨_, h1, h2⟩; (rw [hG] at h; simp at h); exact ⟨h1, h2⟩
   refine x_block ?_
   refine x_then ?_
   refine awp_seq ?_
   refine awp_region ?_
   refine r_load1b 1 rfl rfl rfl TF.agg3 rfl ?_
   refine r_cmp rfl rfl rfl rfl ?_
   refine r_move rfl rfl ?_
   refine g_run rfl rfl (by decide) ?_
   refine r_load1b 0 rfl rfl rfl TF.agg4 rfl ?_
   refine r_pickT rfl (by decide) rfl rfl ?_
   refine r_move rfl rfl ?_
   refine g_run rfl rfl rfl ?_
   refine r_move rfl rfl ?_
   refine g_run rfl rfl rfl ?_
   refine r_move rfl rfl ?_
   refine g_run rfl rfl rfl ?_
   refine r_call0 hq rfl rfl (.cons (.ev rfl rfl) (.cons (.ev rfl rfl) .nil)) (Looked_ok ta ta hga.wf hga.wf (good_ids hga (by decide)) (good_ids hga (by decide))) rfl TF.en19 rfl (fun r hr => ?_)
   obtain rfl := hr
   rw [look_self ta]
   refine g_run rfl rfl rfl ?_
   refine r_cmp rfl rfl rfl rfl ?_
   refine r_pickT rfl rfl rfl rfl ?_
   refine r_move rfl rfl ?_
   refine g_run rfl rfl (by decide) ?_
   refine r_move rfl rfl ?_
   refine g_run rfl rfl (by decide) ?_
   refine r_call0 hq rfl rfl (.cons (.ev rfl rfl) (.cons (.ev rfl rfl) .nil)) (Looked_ok none ta trivial hga.wf (by decide) (good_ids hga (by decide))) rfl TF.en19 rfl (fun r hr => ?_)
   obtain rfl := hr
   rw [put_first hta]
   refine g_run rfl rfl (by decide) ?_
   refine r_cmp rfl rfl rfl rfl ?_
   refine r_pickT rfl (by decide) rfl rfl ?_
   refine r_assign rfl rfl ?_
   refine awl_nil ?_
   refine x_then ?_
   refine awp_ret ?_
   exact ⟨(.inl rfl), _, [], (.one (by first | exact .mk rfl rfl | exact .nil rfl)), ⟨rfl, rfl⟩, (List.nil_sublist _), (by simp)⟩
  ·
   intro c xs wo' hX
   exact hX.elim
end Go.Proofs.Ytljgdbgcleibjaa.A
namespace Go.Proofs.Ytljgdbgcleibjaa.A
open Go Go.RowKit
set_option linter.unusedVariables false
set_option linter.unusedSimpArgs false
theorem put_mem {l : List It} (hs : Srt l) {k : Sp} {v : Int} {x : It} : x ∈ refPut l k v ↔ x = (k, v) ∨ (x ∈ l ∧ x.1 ≠ k) := by
  rw [(srt_put hs k v).1]
  unfold canP
  simp only [List.mem_append, List.mem_cons, List.mem_filter, decide_eq_true_eq]
  constructor
  · rintro (⟨h1, h2⟩ | h | ⟨h1, h2⟩)
    · exact .inr ⟨h1, Sp.ne h2⟩
    · exact .inl h
    · exact .inr ⟨h1, fun e => Sp.ne h2 e.symm⟩
  · rintro (h | ⟨h1, h2⟩)
    · exact .inr (.inl h)
    · by_cases h3 : x.1.lt k
      · exact .inl ⟨h1, h3⟩
      · by_cases h4 : k.lt x.1
        · exact .inr (.inr ⟨h1, h4⟩)
        · exact absurd (Sp.tri h3 h4) h2
theorem srt_del' {l : List It} (hs : Srt l) (k : Sp) : Srt (refDel l k) := hs.sublist List.filter_sublist
section
variable {P : Program} {w0 : Base} {C0 C : CS} {T : TS} {S S' : AState} {a : Act} {w : World} {ops : Array Oper} {rest : List Oper} {o : Oper} {Q : Exit → AState → Prop}
variable {t : Nat} {ty ty' : TypeId} {pos : String} {aft : Array Edge}
theorem r_storeT (i : Nat) {x y : Operand} {b : Nat} {c : AV} {tv : TreeV} (hx : S.ev x = some (.a (.v (.pointer (some ⟨b, 0, none⟩))))) (hi : S.objs[i]? = some ⟨b, true, .box [c]⟩) (hy : S.ev y = some (.a (encT tv))) (hn : szT P ty' = some 1)
    (hr : AWL P w0 C0 ops rest Q ⟨S.nt, S.slots, S.objs.set i ⟨b, true, .box [encT tv]⟩⟩) :
    AWL P w0 C0 ops (⟨none, .store ty' x y, ty, pos, aft, none⟩ :: rest) Q S := by
  have e : (SV.a (encT tv)).av.cells = [encT tv] := encT_cells tv
  refine r_store i hx hi hy hn (by rw [e]; rfl) rfl (by rw [e]; exact encT_one tv) ?_
  rw [e]; exact hr
end
end Go.Proofs.Ytljgdbgcleibjaa.A

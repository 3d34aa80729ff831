import Derived.WalkKit
import Derived.Below
import Derived.Laws.Rows
import Derived.Laws.CopyRow
import Derived.Laws.AppendOwn
import Derived.RangeFuncLeaves
import Derived.RangeFuncSeq
import Derived.RangeFuncCalls
import Derived.MapKept
import Derived.Orders
import Derived.Laws.IdiomStrings
import Derived.Laws.BytesArg
import Derived.Shelf.SlIter.Nil
import Derived.RangeFuncBound
import Derived.Maps.RangeRun
import Derived.DeepKeys3
import Derived.Laws.StructEq
import Derived.Shelf.SlSortCmp.NoneTotal
import Derived.ChangeKeysEq
import Derived.Laws.MakeOwn
import Derived.ChangeArms
import Derived.ChangeOld
import Derived.Laws.DeepStrings4
import Derived.OpenShut
import Derived.Test.YtljgdbgcleibjaaProg
import Derived.KernelRfl
import Derived.OrdersIn
import Derived.Lib.AppendZeros
import Derived.Lib.AppendZerosOnto
import Derived.Lib.Overlaps
import Derived.Deep.AppendSrc
import Derived.Shelf.SlGeneric
import Derived.Ground.SlsfProg
import Derived.Test.YtljgdbgcleibjaaM7
namespace Go.Proofs.Ytljgdbgcleibjaa.A
open Go Go.RowKit
set_option linter.unusedVariables false
set_option linter.unusedSimpArgs false
set_option linter.unusedSectionVars false
variable {P : Program} {w0 : Base} {C0 C : CS} {T : TS} {S S' : AState} {a : Act} {w : World} {ops : Array Oper} {rest : List Oper} {o : Oper} {Q : Exit → AState → Prop}
variable {t : Nat} {ty ty' : TypeId} {pos : String} {aft : Array Edge}
theorem awp_cut {x y : Code} (Mid : AState → Prop) (h : AWP P w0 C0 x (XThen (fun S => ∃ S', S.le S' ∧ Mid S') Q) S) (hy : ∀ S, Mid S → AWP P w0 C0 y Q S) : AWP P w0 C0 (.seq x y) Q S := by
  refine awp_seq (fun a w hs => wp_mono (h a w hs) ?_)
  rintro e a' w' ⟨S1, hs1, hq⟩
  cases e with
  | normal => obtain ⟨S2, hle, hm⟩ := hq; exact ⟨S1, hs1, awp_weaken hle (hy S2 hm)⟩
  | _ => exact ⟨S1, hs1, hq⟩
end Go.Proofs.Ytljgdbgcleibjaa.A
namespace Go.Proofs.Ytljgdbgcleibjaa.A
open Go Go.RowKit
set_option linter.unusedVariables false
set_option linter.unusedSimpArgs false
set_option maxRecDepth 100000
theorem Height_none (t : TreeV) (hrt : rootT t = none) : AC Try.prog 25 [encT t] [] (fun r nb => nb = [] ∧ r = .v (.int .i64 0)) := by
 refine ac_of_awp (rs := [2]) (nt := 22) Try.func25 rfl rfl rfl rfl (fun w0 C0 hq => ?_)
 refine awp_seq ?_
 refine awp_region ?_
 refine r_assign rfl rfl ?_
 refine awl_nil ?_
 refine x_then ?_
 refine awp_seq ?_
 refine awp_region ?_
 refine r_assign rfl rfl ?_
 refine awl_nil ?_
 refine x_then ?_
 refine awp_seq ?_
 refine awp_seq ?_
 refine awp_region ?_
 refine r_move rfl rfl ?_
 refine r_call0 hq rfl rfl (.cons (.ev rfl rfl) .nil) (Root_ok t) rfl TF.en18 rfl (fun r hr => ?_)
 obtain rfl := hr
 rw [hrt]
 refine r_assign rfl rfl ?_
 refine awl_nil ?_
 refine x_then ?_
 refine awp_block ?_
 refine awp_loop (fun nn0 S => ∃ q : Nat, S = ⟨22, [(3, .a (.v (.int .i64 (0)))), (4, .a nilP)], []⟩ ∧ nn0 = 2 * q) (2 * (0)) ⟨22, [(3, .a (.v (.int .i64 (0)))), (4, .a nilP)], []⟩ ⟨rfl, (Slots.cons rfl (by first | exact .refl _ | exact .nilOwn _ _ | exact .nilSl _ | exact .ownSl _ _ _  | exact SV.le.of_eq (by simp)) (Slots.cons rfl (by first | exact .refl _ | exact .nilOwn _ _ | exact .nilSl _ | exact .ownSl _ _ _  | exact SV.le.of_eq (by simp)) Slots.nil)), (by first | exact List.Sublist.refl _ | exact .cons_cons _ (.cons _ (.refl _)) | exact List.nil_sublist _ | exact .cons _ (.refl _) | exact .cons _ (.cons _ (.refl _)) | exact .cons _ (.cons _ (.cons _ (.refl _))) | exact .cons _ (.cons _ (.cons _ (.cons _ (.refl _)))) | exact .cons_cons _ (List.nil_sublist _))⟩ ⟨0, rfl, rfl⟩ ?_
 rintro nn0 _ ⟨q, rfl, rfl⟩
 refine awp_seq ?_
 refine awp_seq ?_
 refine awp_region ?_
 refine r_move rfl rfl ?_
 refine r_pnnil rfl (by first | exact .pt _ _ | exact .nil | exact .v _ | exact .cp _) TF.un36 rfl ?_
 refine awl_nil ?_
 refine x_then ?_
 refine awp_cond rfl (fun hc0 => ?_) (fun hc0 => ?_)
 ·
  exfalso; cases hc0
 ·
  refine awp_exit ?_
  refine x_thenE ?_
  refine x_thenE ?_
  refine x_blockE ?_
  refine x_then ?_
  refine awp_seq ?_
  refine awp_region ?_
  refine r_move rfl rfl ?_
  refine r_assign rfl rfl ?_
  refine awl_nil ?_
  refine x_then ?_
  refine awp_ret ?_
  exact ⟨(.inl rfl), _, [], (.one (by first | exact .mk rfl rfl | exact .nil rfl)), ⟨rfl, rfl⟩, (List.nil_sublist _), (by simp)⟩
theorem Height_some (t : TreeV) (h : Nat) (n : Nd h) (hrt : rootT t = some ⟨h, n⟩) (hw : wfC 1 h n.2) (hh : h ≤ 1000) : AC Try.prog 25 [encT t] [] (fun r nb => nb = [] ∧ r = .v (.int .i64 ((h : Int) + 1))) := by
 refine ac_of_awp (rs := [2]) (nt := 22) Try.func25 rfl rfl rfl rfl (fun w0 C0 hq => ?_)
 refine awp_seq ?_
 refine awp_region ?_
 refine r_assign rfl rfl ?_
 refine awl_nil ?_
 refine x_then ?_
 refine awp_seq ?_
 refine awp_region ?_
 refine r_assign rfl rfl ?_
 refine awl_nil ?_
 refine x_then ?_
 refine awp_seq ?_
 refine awp_seq ?_
 refine awp_region ?_
 refine r_move rfl rfl ?_
 refine r_call0 hq rfl rfl (.cons (.ev rfl rfl) .nil) (Root_ok t) rfl TF.en18 rfl (fun r hr => ?_)
 obtain rfl := hr
 rw [hrt]
 refine awl_imp (imp_le 6 rfl (SV.le.avEq (enc_eq h n))) ?_
 refine r_assign rfl rfl ?_
 refine awl_nil ?_
 refine x_then ?_
 refine awp_block ?_
 refine awp_loop (fun nn0 S => ∃ q : Nat, ∃ e : Nd q, ∃ j : Nat, S = ⟨22, [(3, .a (.v (.int .i64 ((j : Int))))), (4, .a (ndA e.1 (keysOf q e.2) (valsOf q e.2) (kidsOf q e.2)))], []⟩ ∧ nn0 = 2 * q ∧ (wfC 1 q e.2) ∧ (q + j = h)) (2 * (h)) ⟨22, [(3, .a (.v (.int .i64 (((0) : Int))))), (4, .a (ndA (n).1 (keysOf (h) (n).2) (valsOf (h) (n).2) (kidsOf (h) (n).2)))], []⟩ ⟨rfl, (Slots.cons rfl (by first | exact .refl _ | exact .nilOwn _ _ | exact .nilSl _ | exact .ownSl _ _ _  | exact SV.le.of_eq (by simp)) (Slots.cons rfl (by first | exact .refl _ | exact .nilOwn _ _ | exact .nilSl _ | exact .ownSl _ _ _  | exact SV.le.of_eq (by simp)) Slots.nil)), (by first | exact List.Sublist.refl _ | exact .cons_cons _ (.cons _ (.refl _)) | exact List.nil_sublist _ | exact .cons _ (.refl _) | exact .cons _ (.cons _ (.refl _)) | exact .cons _ (.cons _ (.cons _ (.refl _))) | exact .cons _ (.cons _ (.cons _ (.cons _ (.refl _)))) | exact .cons_cons _ (List.nil_sublist _))⟩ ⟨h, n, 0, rfl, rfl, hw, rfl⟩ ?_
 rintro nn0 _ ⟨q, e, j, rfl, rfl, hwe, hqj⟩
 refine awp_seq ?_
 refine awp_seq ?_
 refine awp_region ?_
 refine r_move rfl rfl ?_
 refine r_pnnil rfl (by first | exact .pt _ _ | exact .nil | exact .v _ | exact .cp _) TF.un36 rfl ?_
 refine awl_nil ?_
 refine x_then ?_
 refine awp_cond rfl (fun hc0 => ?_) (fun hc0 => ?_)
 ·
  skip
  refine awp_skip ?_
  refine x_then ?_
  refine awp_seq ?_
  refine awp_block ?_
  refine awp_seq ?_
  refine awp_seq ?_
  refine awp_region ?_
  refine r_move rfl rfl ?_
  refine r_call0 hq rfl rfl (.cons (.ev rfl rfl) .nil) (leaf_ok e.1 (keysOf q e.2) (valsOf q e.2) (kidsOf q e.2)) rfl TF.en46 rfl (fun r hr => ?_)
  obtain rfl := hr
  refine awl_nil ?_
  refine x_then ?_
  refine awp_cond rfl (fun hc1 => ?_) (fun hc1 => ?_)
  ·
   have hki : (kidsOf q e.2).isEmpty = true := hc1
   obtain rfl := kids_leaf q e (fun _ => hwe.lo) hki
   refine awp_seq ?_
   refine awp_region ?_
   refine r_move rfl rfl ?_
   refine r_ari ((h : Int) + 1) rfl rfl rfl (by rw [wrap_id (by omega)]; omega) rfl ?_
   refine r_assign rfl rfl ?_
   refine awl_nil ?_
   refine x_then ?_
   refine awp_ret ?_
   refine x_thenR ?_
   refine x_blockR ?_
   refine x_thenR ?_
   refine x_thenR ?_
   refine x_blockR ?_
   refine x_thenR ?_
   exact ⟨(.inl rfl), _, [], (.one (by first | exact .mk rfl rfl | exact .nil rfl)), ⟨rfl, rfl⟩, (List.nil_sublist _), (by simp)⟩
  ·
   have hki : (kidsOf q e.2).isEmpty = false := hc1
   obtain ⟨q2, rfl⟩ : ∃ q2, q = q2 + 1 := ⟨q - 1, by have := kids_inner q e hki; omega⟩
   have hl0 : 0 < (kdsOf e).length := hwe.1
   obtain ⟨x, hx⟩ : ∃ x, (kdsOf e)[0]? = some x := get_lt hl0
   refine awp_skip ?_
   refine x_then ?_
   refine awp_region ?_
   refine r_move rfl rfl ?_
   refine r_nilCheck rfl (by first | exact .pt _ _ | exact .v _ | exact .cp _) rfl ?_
   first | (refine r_fieldcp rfl TF.f82_2 TF.sz80 rfl ?_) | (refine r_fieldpt rfl TF.f82_2 TF.sz80 rfl ?_) | (refine r_fieldb rfl TF.f82_2 TF.sz80 rfl ?_)
   refine r_load1 rfl TF.agg80 rfl ?_
   refine r_index rfl rfl rfl TF.sl80 TF.sz36 (by decide) ((get_map (get_map hx)).trans (congrArg (fun y => some [y]) (enc_eq q2 x))) rfl ?_
   refine r_load1 rfl TF.agg36 rfl ?_
   refine r_assign rfl rfl ?_
   refine awl_nil ?_
   refine x_block ?_
   refine x_then ?_
   refine awp_region ?_
   refine r_move rfl rfl ?_
   refine r_ari _ rfl rfl rfl (wrap_id (by first | omega | (simp; omega))) rfl ?_
   refine r_assign rfl rfl ?_
   refine awl_nil ?_
   refine x_then ?_
   refine ⟨2 * (q2), ⟨22, [(3, .a (.v (.int .i64 (((j + 1) : Int))))), (4, .a (ndA (x).1 (keysOf (q2) (x).2) (valsOf (q2) (x).2) (kidsOf (q2) (x).2)))], []⟩, ⟨rfl, (Slots.cons rfl (by first | exact .refl _ | exact .nilOwn _ _ | exact .nilSl _ | exact .ownSl _ _ _  | exact SV.le.of_eq (by simp)) (Slots.cons rfl (by first | exact .refl _ | exact .nilOwn _ _ | exact .nilSl _ | exact .ownSl _ _ _  | exact SV.le.of_eq (by simp)) Slots.nil)), (by first | exact List.Sublist.refl _ | exact .cons_cons _ (.cons _ (.refl _)) | exact List.nil_sublist _ | exact .cons _ (.refl _) | exact .cons _ (.cons _ (.refl _)) | exact .cons _ (.cons _ (.cons _ (.refl _))) | exact .cons _ (.cons _ (.cons _ (.cons _ (.refl _)))) | exact .cons_cons _ (List.nil_sublist _))⟩, (by omega), ⟨q2, x, j + 1, rfl, rfl, ((hwe.kid (List.mem_of_getElem? hx)).mono (by omega)), (by omega)⟩⟩
 ·
  exfalso; cases hc0
end Go.Proofs.Ytljgdbgcleibjaa.A
namespace Go.Proofs.Ytljgdbgcleibjaa.A
open Go Go.RowKit
set_option linter.unusedVariables false
set_option linter.unusedSimpArgs false
theorem high_pow : ∀ (h : Nat) {lo : Nat} {n : Nd h}, wfC lo h n.2 → 1 ≤ lo → (0 < h → 2 ≤ lo) → 2 ^ h ≤ (flat h n.2).length
  | 0, lo, n, hw, hlo, _ => by
    have : lo ≤ (itsOf n).length := hw.1
    show 1 ≤ (itsOf n).length
    omega
  | h + 1, lo, n, hw, hlo, h2 => by
    have h2' := h2 (Nat.succ_pos h)
    have hl : lo ≤ (kdsOf n).length := hw.1
    have hk : ∀ x ∈ kdsOf n, wfC 2 h x.2 := hw.2.2
    obtain ⟨x, hx⟩ := get_lt (l := kdsOf n) (i := 0) (by omega)
    obtain ⟨y, hy⟩ := get_lt (l := kdsOf n) (i := 1) (by omega)
    have h3 := high_pow h (hk x (List.mem_of_getElem? hx)) (by omega) (fun _ => Nat.le_refl 2)
    have h4 := high_pow h (hk y (List.mem_of_getElem? hy)) (by omega) (fun _ => Nat.le_refl 2)
    show 2 ^ (h + 1) ≤ (flatK (kdsOf n)).length
    rw [flatK_two hx hy, Nat.pow_succ]
    simp only [List.length_append]
    omega
theorem high_small {h : Nat} {N : Nat} (h1 : 2 ^ h ≤ N) (h2 : N ≤ 1000) : h ≤ 9 := by
  rcases Nat.lt_or_ge h 10 with h3 | h3
  · omega
  · have := Nat.pow_le_pow_right (n := 2) (by omega) h3
    omega
end Go.Proofs.Ytljgdbgcleibjaa.A
namespace Go.Proofs.Ytljgdbgcleibjaa.A
open Go Go.RowKit
set_option linter.unusedVariables false
set_option linter.unusedSimpArgs false
set_option maxRecDepth 100000
theorem RD.argS {P : Program} {t : TypeId} {α : Type} {E : α → List AV} {G : α → Prop} (h : RD P t E G) {H : Type} {enc : TypeId × Value → H} {W : World} {arr : Array Value} {d : DataW H} {p : List MemPlace} (hv : DataW.Trod enc P W 0 (fun _ => true) true t (.agg arr) d p) :
    ∃ a, G a ∧ Rel (C0 W) (.agg (E a)) (.agg arr) := by
  obtain ⟨fuel, hf⟩ := hv
  obtain ⟨a, h1, h2, h3⟩ := h enc W fuel _ _ hf
  exact ⟨a, h1, rel_agg.2 h2⟩
end Go.Proofs.Ytljgdbgcleibjaa.A
namespace Go.Proofs.Ytljgdbgcleibjaa.A
open Go Go.RowKit
set_option linter.unusedVariables false
set_option linter.unusedSimpArgs false
theorem miss_in {ps oks N : List Nat} (h1 : ps.Nodup) (h : ∀ p ∈ ps, p ∈ oks ∨ p ∈ N) : missL ps oks ≤ N.length := by
  unfold missL
  obtain ⟨r, hr⟩ := nodup_sub (h1.filter (fun p => decide (p ∉ oks))) (l := N) (fun i hi => by
    simp only [List.mem_filter, decide_eq_true_eq] at hi
    exact (h i hi.1).resolve_left hi.2)
  have := hr.length_eq
  rw [List.length_append] at this; omega
theorem kds_of {h : Nat} {l : List (Nd (h + 1))} {L : List (Nd h)} (e : l.map kdsOf = halvesG L) (y : Nd h) : y ∈ L ↔ ∃ x ∈ l, y ∈ kdsOf x := by
  have h1 : (l.map kdsOf).flatten = L := by rw [e, halvesG_flat]
  rw [← h1, List.mem_flatten]
  simp only [List.mem_map]
  constructor
  · rintro ⟨m, ⟨x, hx, rfl⟩, hy⟩; exact ⟨x, hx, hy⟩
  · rintro ⟨x, hx, hy⟩; exact ⟨_, ⟨x, hx, rfl⟩, hy⟩
def idsL (h : Nat) (l : List (Nd h)) : List Nat := (l.flatMap (subs h)).map sid
theorem idsL_mem {h : Nat} {l : List (Nd h)} {p : Nat} : p ∈ idsL h l ↔ ∃ x ∈ l, p ∈ (subs h x).map sid := by
  unfold idsL
  simp only [List.mem_map, List.mem_flatMap]
  constructor
  · rintro ⟨s, ⟨x, hx, hs⟩, rfl⟩; exact ⟨x, hx, s, hs, rfl⟩
  · rintro ⟨x, hx, s, hs, rfl⟩; exact ⟨s, ⟨x, hx, hs⟩, rfl⟩
theorem subs_mem {h : Nat} {n : Nd (h + 1)} {p : Nat} : p ∈ (subs (h + 1) n).map sid ↔ p = n.1 ∨ ∃ x ∈ kdsOf n, p ∈ (subs h x).map sid := by
  have e : (subs (h + 1) n).map sid = n.1 :: idsL h (kdsOf n) := rfl
  rw [e, List.mem_cons, idsL_mem]
theorem putR_ids : ∀ (h : Nat) {lo : Nat} (h0 : 1 ≤ lo) (h2 : lo ≤ 2) {n : Nd h} {k : Sp} {v : Int} {l : List (Nd h)}, wfC lo h n.2 → PutR h n k v l → ∃ new old : List Nat, new.length ≤ 2 * (h + 1) ∧ old.length ≤ h + 1 ∧ (∀ p ∈ idsL h l, p ∈ (subs h n).map sid ∨ p ∈ new) ∧ (∀ p ∈ (subs h n).map sid, p ∈ idsL h l ∨ p ∈ old)
  | 0, lo, h0, h2, n, k, v, l, hw, hr => by
    have hl := (putR_wf 0 h0 h2 hw hr).2.2.1
    refine ⟨l.map (fun x => x.1), [n.1], by rw [List.length_map]; exact hl, by simp, fun p hp => .inr ?_, fun p hp => .inr hp⟩
    obtain ⟨x, hx, hp⟩ := idsL_mem.1 hp
    obtain rfl : p = x.1 := List.mem_singleton.1 hp
    exact List.mem_map.2 ⟨x, hx, rfl⟩
  | h + 1, lo, h0, h2, n, k, v, l, hw, hput => by
    have hl := (putR_wf (h + 1) h0 h2 hw hput).2.2.1
    obtain ⟨kid, l', hk, hr', hr⟩ := hput
    have hwk : wfC 2 h kid.2 := hw.2.2 kid (List.mem_of_getElem? hk)
    obtain ⟨new, old, n1, n2, n3, n4⟩ := putR_ids h (by omega) (Nat.le_refl 2) hwk hr'
    generalize wayI h k (kdsOf n) = w at hk hr
    have hsplit : kdsOf n = (kdsOf n).take w ++ kid :: (kdsOf n).drop (w + 1) := by
      conv => lhs; rw [← List.take_append_drop w (kdsOf n)]
      rw [drop_get hk]
    refine ⟨l.map (fun x => x.1) ++ new, n.1 :: old, by rw [List.length_append, List.length_map]; omega, by rw [List.length_cons]; omega, fun p hp => ?_, fun p hp => ?_⟩
    · obtain ⟨x, hx, hp⟩ := idsL_mem.1 hp
      rcases subs_mem.1 hp with rfl | ⟨y, hy, hp⟩
      · exact .inr (List.mem_append.2 (.inl (List.mem_map.2 ⟨x, hx, rfl⟩)))
      · have hyL := (kds_of hr y).2 ⟨x, hx, hy⟩
        rw [List.mem_append, List.mem_append] at hyL
        rcases hyL with (h3 | h3) | h3
        · exact .inl (subs_mem.2 (.inr ⟨y, List.mem_of_mem_take h3, hp⟩))
        · rcases n3 p (idsL_mem.2 ⟨y, h3, hp⟩) with h4 | h4
          · exact .inl (subs_mem.2 (.inr ⟨kid, List.mem_of_getElem? hk, h4⟩))
          · exact .inr (List.mem_append.2 (.inr h4))
        · exact .inl (subs_mem.2 (.inr ⟨y, List.mem_of_mem_drop h3, hp⟩))
    · rcases subs_mem.1 hp with rfl | ⟨y, hy, hp⟩
      · exact .inr List.mem_cons_self
      · have out : ∀ {y : Nd h} {p : Nat}, y ∈ (kdsOf n).take w ++ l' ++ (kdsOf n).drop (w + 1) → p ∈ (subs h y).map sid → p ∈ idsL (h + 1) l := fun hy hp => by
          obtain ⟨x, hx, hyx⟩ := (kds_of hr _).1 hy
          exact idsL_mem.2 ⟨x, hx, subs_mem.2 (.inr ⟨_, hyx, hp⟩)⟩
        rw [hsplit, List.mem_append, List.mem_cons] at hy
        rcases hy with h3 | rfl | h3
        · exact .inl (out (by simp [h3]) hp)
        · rcases n4 p hp with h4 | h4
          · obtain ⟨z, hz, h5⟩ := idsL_mem.1 h4
            exact .inl (out (by simp [hz]) h5)
          · exact .inr (List.mem_cons_of_mem _ h4)
        · exact .inl (out (by simp [h3]) hp)
def highT (t : TreeV) : Nat := match rootT t with
  | none => 0
  | some ⟨h, _⟩ => h + 1
theorem put_few {t u : TreeV} {k : Sp} {v : Int} (hw : wfRt (rootT t)) (hp : PutT t k v u) : lookN t u ≤ 12 * (highT u + 1) := by
  obtain ⟨r', rfl, hp⟩ := hp
  have hu : rootT (some (r', lenT t + (if (getR (rootT t) k).isSome then 0 else 1)) : TreeV) = r' := rfl
  generalize (some (r', lenT t + (if (getR (rootT t) k).isSome then 0 else 1)) : TreeV) = u at hu ⊢
  have key : ∀ (new old : List Nat), (∀ p ∈ idsT u, p ∈ idsT t ∨ p ∈ new) → (∀ p ∈ idsT t, p ∈ idsT u ∨ p ∈ old) → lookN t u ≤ old.length + new.length := fun new old h1 h2 => by
    have a := miss_in (ps := idl t) (oks := idl u) (N := old) (idl_nodup t) (fun p hp => (h2 p ((idl_mem t p).1 hp)).imp_left (idl_mem u p).2)
    have b := miss_in (ps := idl u) (oks := idl t) (N := new) (idl_nodup u) (fun p hp => (h1 p ((idl_mem u p).1 hp)).imp_left (idl_mem t p).2)
    unfold lookN; omega
  cases hr : rootT t with
  | none =>
    rw [hr] at hp
    obtain ⟨b, rfl⟩ := hp
    have := key (idsT u) [] (fun p hp => .inr hp) (fun p hp => by unfold idsT subT at hp; rw [hr] at hp; cases hp)
    have e : (idsT u).length = 1 := by unfold idsT subT; rw [hu]; rfl
    rw [e] at this
    simp only [List.length_nil] at this
    omega
  | some s =>
    obtain ⟨h, n⟩ := s
    rw [hr] at hp hw
    obtain ⟨l, hl, hp⟩ := hp
    obtain ⟨new, old, n1, n2, n3, n4⟩ := putR_ids h (Nat.le_refl 1) (by omega) hw.1 hl
    have et : idsT t = (subs h n).map sid := by unfold idsT subT; rw [hr]
    rcases hp with ⟨x, rfl, hx⟩ | ⟨_, b, hx⟩
    · rw [hx] at hu
      have eu : idsT u = idsL h [x] := by unfold idsT subT idsL; rw [hu]; simp
      have := key new old (by rw [eu, et]; exact n3) (by rw [eu, et]; exact n4)
      have eh : highT u = h + 1 := by unfold highT; rw [hu]
      omega
    · rw [hx] at hu
      have eu : idsT u = b :: idsL h l := by unfold idsT subT; rw [hu]; rfl
      have := key (b :: new) old (by
        rw [eu, et]; intro p hp
        rcases List.mem_cons.1 hp with rfl | hp
        · exact .inr List.mem_cons_self
        · exact (n3 p hp).imp_right (List.mem_cons_of_mem _)) (by
        rw [eu, et]; intro p hp
        exact (n4 p hp).imp_left (List.mem_cons_of_mem _))
      have eh : highT u = h + 1 + 1 := by unfold highT; rw [hu]
      rw [List.length_cons] at this
      omega
theorem high_le {t : TreeV} {x : List It} (h : Good t x) (hx : x.length ≤ 1000) : highT t ≤ 10 := by
  have h1 := h.wf; have h2 := h.fl
  unfold highT
  cases hr : rootT t with
  | none => simp
  | some s =>
    obtain ⟨q, n⟩ := s
    rw [hr] at h1 h2
    have h3 : (flat q n.2).length = x.length := congrArg List.length h2
    have h4 : 2 ^ q ≤ (flat q n.2).length := by
      cases q with
      | zero => exact high_pow 0 h1.1 (Nat.le_refl 1) (fun h => absurd h (Nat.lt_irrefl 0))
      | succ q => exact high_pow (q + 1) (h1.1.to (h1.2 (Nat.succ_pos q))) (by omega) (fun _ => Nat.le_refl 2)
    have := high_small h4 (by omega)
    show q + 1 ≤ 10
    omega
def oneF (X : List It) (k : Sp) (v : Int) : List (Sp × Bool) := if look X k = some v then [] else if (look X k).isSome then [(k, false), (k, true)] else [(k, true)]
theorem btw_one {X : List It} (hX : Srt X) (k : Sp) (v : Int) : refBtw X (refPut X k v) = oneF X k v := by
  refine srtC_ext (btw_pw hX (srt_put' hX k v)) ?_ (fun p => ?_)
  · unfold oneF; split
    · exact List.Pairwise.nil
    · split
      · refine List.pairwise_cons.2 ⟨fun q hq => ?_, List.pairwise_singleton _ _⟩
        obtain rfl := List.mem_singleton.1 hq
        exact .inr ⟨rfl, rfl, rfl⟩
      · exact List.pairwise_singleton _ _
  · unfold refBtw; rw [btw_mem]
    have hm : ∀ z, z ∈ refPut X k v ↔ z = (k, v) ∨ (z ∈ X ∧ z.1 ≠ k) := fun z => put_mem hX
    obtain ⟨q, c⟩ := p
    simp only [hm]
    unfold oneF
    cases hl : look X k with
    | none =>
      have hn : ∀ z ∈ X, z.1 ≠ k := fun z hz e => by have := look_mem hX (k := k) (v := z.2) (by rw [← e]; exact hz); rw [hl] at this; cases this
      rw [if_neg (by simp), if_neg (by simp), List.mem_singleton]
      constructor
      · rintro (⟨_, z, hz, _, hnz⟩ | ⟨hc, z, hz | hz, hk, hnz⟩)
        · exact absurd (.inr ⟨hz, hn z hz⟩) hnz
        · subst hz; try simp only at hk hc; rw [hc, ← hk]
        · exact absurd hz.1 hnz
      · rintro h; cases h
        exact .inr ⟨rfl, (k, v), .inl rfl, rfl, fun h => hn _ h rfl⟩
    | some w =>
      have hin : (k, w) ∈ X := look_some hl
      have huq : ∀ z ∈ X, z.1 = k → z = (k, w) := fun z hz e => srt_key hX hz hin e
      by_cases hv : w = v
      · subst hv
        rw [if_pos rfl]
        refine iff_of_false ?_ (by simp)
        rintro (⟨_, z, hz, hk, hnz⟩ | ⟨_, z, hz | hz, hk, hnz⟩)
        · by_cases e : z.1 = k
          · exact hnz (.inl (huq z hz e))
          · exact hnz (.inr ⟨hz, e⟩)
        · subst hz; exact hnz hin
        · exact hnz hz.1
      · rw [if_neg (by simpa using hv), if_pos (show (some w).isSome = true from rfl)]
        simp only [List.mem_cons, List.not_mem_nil, or_false]
        constructor
        · rintro (⟨hc, z, hz, hk, hnz⟩ | ⟨hc, z, hz | hz, hk, hnz⟩)
          · have e : z.1 = k := by
              by_cases e : z.1 = k
              · exact e
              · exact absurd (.inr ⟨hz, e⟩) hnz
            left; rw [show c = false from hc, show q = k from hk.symm.trans e]
          · subst hz; right; try simp only at hc hk; rw [hc, ← hk]
          · exact absurd hz.1 hnz
        · rintro (h | h) <;> cases h
          · refine .inl ⟨rfl, (k, w), hin, rfl, ?_⟩
            rintro (h | ⟨_, h⟩)
            · exact hv (congrArg (·.2) h)
            · exact h rfl
          · exact .inr ⟨rfl, (k, v), .inl rfl, rfl, fun h => hv (congrArg (·.2) (huq _ h rfl)).symm⟩
def delF (X : List It) (k : Sp) : List (Sp × Bool) := if (look X k).isSome then [(k, false)] else []
theorem btw_del {X : List It} (hX : Srt X) (k : Sp) : refBtw X (refDel X k) = delF X k := by
  refine srtC_ext (btw_pw hX (srt_del' hX k)) ?_ (fun p => ?_)
  · unfold delF; split
    · exact List.pairwise_singleton _ _
    · exact List.Pairwise.nil
  · unfold refBtw; rw [btw_mem]
    have hm : ∀ z, z ∈ refDel X k ↔ z ∈ X ∧ z.1 ≠ k := fun z => by unfold refDel; rw [List.mem_filter, decide_eq_true_eq]
    obtain ⟨q, c⟩ := p
    simp only [hm]
    unfold delF
    cases hl : look X k with
    | none =>
      have hn : ∀ z ∈ X, z.1 ≠ k := fun z hz e => by have := look_mem hX (k := k) (v := z.2) (by rw [← e]; exact hz); rw [hl] at this; cases this
      rw [if_neg (by simp)]
      refine iff_of_false ?_ (by simp)
      rintro (⟨_, z, hz, hk, hnz⟩ | ⟨_, z, hz, hk, hnz⟩)
      · exact hnz ⟨hz, hn z hz⟩
      · exact hnz hz.1
    | some w =>
      have hin : (k, w) ∈ X := look_some hl
      rw [if_pos (show (some w).isSome = true from rfl), List.mem_singleton]
      constructor
      · rintro (⟨hc, z, hz, hk, hnz⟩ | ⟨_, z, hz, hk, hnz⟩)
        · have e : z.1 = k := by
            by_cases e : z.1 = k
            · exact e
            · exact absurd ⟨hz, e⟩ hnz
          rw [show c = false from hc, show q = k from hk.symm.trans e]
        · exact absurd hz.1 hnz
      · intro h; cases h
        exact .inl ⟨rfl, (k, w), hin, rfl, fun h => h.2 rfl⟩
theorem one_zero {X : List It} {k : Sp} {v : Int} (h1 : (look X k).isSome = true) (h2 : (look X k).getD 0 = v) : (oneF X k v).length = 0 := by
  unfold oneF
  cases hl : look X k with
  | none => rw [hl] at h1; cases h1
  | some w => rw [hl] at h2; simp only [Option.getD_some] at h2; rw [h2, if_pos rfl]; rfl
theorem one_two {X : List It} {k : Sp} {v : Int} (h1 : (look X k).isSome = true) (h2 : ¬ (look X k).getD 0 = v) : (oneF X k v).length = 2 := by
  unfold oneF
  cases hl : look X k with
  | none => rw [hl] at h1; cases h1
  | some w => rw [hl] at h2; rw [if_neg (by simpa using h2), if_pos (show (some w).isSome = true from rfl)]; rfl
theorem one_one {X : List It} {k : Sp} {v : Int} (h1 : (look X k).isSome = false) : (oneF X k v).length = 1 := by
  unfold oneF
  cases hl : look X k with
  | none => rw [if_neg (by simp), if_neg (by simp)]; rfl
  | some w => rw [hl] at h1; cases h1
theorem one_len (X : List It) (k : Sp) (v : Int) : (oneF X k v).length ≤ 2 := by
  unfold oneF; split
  · simp
  · split <;> simp
theorem one_at {X : List It} {k : Sp} {v : Int} {i : Nat} {z : Sp × Bool} (h : (oneF X k v)[i]? = some z) : z.1 = k ∧ z.2 = decide (i + 1 = (oneF X k v).length) := by
  unfold oneF at h ⊢
  split at h
  · cases h
  · rename_i h1
    rw [if_neg h1]
    split at h
    · rename_i h2
      rw [if_pos h2]
      match i, h with
      | 0, h => cases h; exact ⟨rfl, by simp⟩
      | 1, h => cases h; exact ⟨rfl, by simp⟩
      | n + 2, h => cases h
    · rename_i h2
      rw [if_neg h2]
      match i, h with
      | 0, h => cases h; exact ⟨rfl, by simp⟩
      | n + 1, h => cases h
theorem del_had (X : List It) (k : Sp) : ((((((delF X k).map chC).length : Nat) : Int) == 1) == (look X k).isSome) = true := by
  unfold delF
  cases (look X k).isSome <;> simp
theorem del_some {X : List It} {k : Sp} (h : ((((delF X k).map chC).length : Nat) : Int) ≠ 0) : delF X k = [(k, false)] := by
  unfold delF at h ⊢
  split at h
  · rename_i h1; rw [if_pos h1]
  · simp at h
theorem del_len (X : List It) (k : Sp) : (delF X k).length ≤ 1 := by unfold delF; split <;> simp
end Go.Proofs.Ytljgdbgcleibjaa.A
namespace Go.Proofs.Ytljgdbgcleibjaa.A
open Go Go.RowKit
set_option linter.unusedVariables false
set_option linter.unusedSimpArgs false
set_option maxRecDepth 100000
theorem TF.en25 : entersT Try.prog 25 := enters_of Try.func25 (by kernel_rfl) (by kernel_rfl)
theorem Height_ok (t : TreeV) (x : List It) (hG : Good t x) (hx : x.length ≤ 1000) : AC Try.prog 25 [encT t] [] (fun r nb => nb = [] ∧ r = .v (.int .i64 (highT t : Nat))) := by
  have hw := hG.wf; have hh := high_le hG hx
  unfold highT at hh ⊢
  cases hr : rootT t with
  | none => exact Height_none t hr
  | some s =>
    obtain ⟨h, n⟩ := s
    rw [hr] at hw hh
    have := Height_some t h n hr hw.1 (by show h ≤ 1000; have : h + 1 ≤ 10 := hh; omega)
    exact this
set_option maxHeartbeats 1000000 in
theorem one_walk (l : List Ac) (k : Sp) (v : Int) : AC Try.prog 9 [.sl 6 (l.map Ac.cs), spA k, .v (.int .u64 (v))] [] (fun r n => n = [] ∧ r = boolA true) := by
 refine ac_of_awp (rs := [6]) (nt := 107) Try.func9 rfl rfl rfl rfl (fun w0 C0 hq => ?_)
 refine awp_seq ?_
 refine awp_region ?_
 refine r_box rfl rfl rfl (fun b4 => ?_)
 refine r_assign rfl rfl ?_
 refine awl_nil ?_
 refine x_then ?_
 refine awp_seq ?_
 refine awp_seq ?_
 refine awp_region ?_
 refine r_call0 hq rfl rfl .nil (awake_ok) rfl TF.en11 rfl (fun r hr => ?_)
 obtain rfl := hr
 refine r_not rfl rfl ?_
 refine awl_nil ?_
 refine x_then ?_
 refine awp_cond rfl (fun hc0 => ?_) (fun hc0 => ?_)
 ·
  exfalso; cases hc0
 ·
  refine awp_skip ?_
  refine x_then ?_
  refine awp_seq ?_
  refine awp_seq ?_
  refine awp_region ?_
  refine r_move rfl rfl ?_
  first | (refine r_lenS rfl rfl TF.sl22 rfl ?_) | (refine r_lenNil rfl TF.sl22 rfl ?_) | (refine r_lenV rfl TF.sl22 rfl ?_)
  refine r_cmp rfl rfl rfl rfl ?_
  refine awl_nil ?_
  refine x_then ?_
  refine awp_cond rfl (fun hc1 => ?_) (fun hc1 => ?_)
  ·
   refine awp_seq ?_
   refine awp_region ?_
   refine r_assign rfl rfl ?_
   refine awl_nil ?_
   refine x_then ?_
   refine awp_ret ?_
   refine x_thenR ?_
   exact ⟨(.inl rfl), _, [], (.one (by first | exact .mk rfl rfl | exact .nil rfl)), ⟨rfl, rfl⟩, (List.nil_sublist _), (by simp)⟩
  ·
   have hl_l : l.length ≤ 60 := by have := of_decide_eq_false hc1; simp at this; omega
   refine awp_skip ?_
   refine x_then ?_
   refine awp_seq ?_
   refine awp_region ?_
   refine r_call0 hq rfl rfl .nil (New_ok) rfl TF.en13 rfl (fun r hr => ?_)
   obtain rfl := hr
   refine r_move rfl rfl ?_
   refine r_call0 hq rfl rfl (.cons (.ev rfl rfl) (.cons (.nil rfl) (.cons (.ev rfl rfl) .nil))) (play_ok (some (none, 0)) [] good_new l (by simp; omega)) rfl TF.en12 rfl (fun r hr => ?_)
   obtain ⟨tt, hgtt, rfl⟩ := hr
   have hp_X := refPlay_len [] l
   try simp only [List.length_nil, Nat.zero_add] at hp_X
   generalize refPlay [] l = X at hgtt hp_X ⊢
   refine r_move rfl rfl ?_
   refine r_extract rfl rfl rfl ?_
   refine r_extract rfl rfl rfl ?_
   refine r_assign rfl rfl ?_
   refine r_assign rfl rfl ?_
   refine awl_nil ?_
   refine x_then ?_
   refine awp_seq ?_
   refine awp_region ?_
   refine r_move rfl rfl ?_
   first | (refine r_loadAb 0 rfl rfl TF.agg47 TF.sz47 rfl rfl ?_) | (refine r_loadA rfl TF.agg47 TF.sz47 rfl rfl ?_)
   refine r_call0 hq rfl rfl (.cons (.ev rfl rfl) (.cons (.ev rfl rfl) .nil)) (Get_ok tt hgtt.wf k) rfl TF.en22 rfl (fun r hr => ?_)
   obtain rfl := hr
   rw [good_get hgtt]
   have htn := good_len hgtt (by omega)
   refine r_move rfl rfl ?_
   refine r_extract rfl rfl rfl ?_
   refine r_extract rfl rfl rfl ?_
   refine r_assign rfl rfl ?_
   refine r_assign rfl rfl ?_
   refine awl_nil ?_
   refine x_then ?_
   refine awp_seq ?_
   refine awp_region ?_
   refine r_move rfl rfl ?_
   first | (refine r_loadAb 0 rfl rfl TF.agg47 TF.sz47 rfl rfl ?_) | (refine r_loadA rfl TF.agg47 TF.sz47 rfl rfl ?_)
   refine r_move rfl rfl ?_
   refine r_call0 hq rfl rfl (.cons (.ev rfl rfl) (.cons (.ev rfl rfl) (.cons (.ev rfl rfl) .nil))) (TPut_ok tt hgtt.wf htn k v) rfl TF.en23 rfl (fun r hr => ?_)
   obtain ⟨tu, htu, rfl⟩ := hr
   have hgtu := good_put hgtt htu
   have hfew := put_few hgtt.wf htu
   have hp_U := refPut_len X k v
   generalize hU : refPut X k v = U at hgtu hp_U
   refine r_assign rfl rfl ?_
   refine awl_nil ?_
   refine x_then ?_
   refine awp_seq ?_
   refine awp_region ?_
   refine awl_fact (φ := Coh tt tu) (fun C T a w hs => coh_of hgtt.wf hgtu.wf (hs.slots 7 (.a (encT tt)) rfl) (hs.slots 11 (.a (encT tu)) rfl)) (fun hcoh => ?_)
   have hch := chg_ref hcoh hgtt hgtu
   rw [← hU, btw_one hgtt.st] at hch
   have hol := one_len X k v
   have hhl := high_le hgtu (by omega)
   refine r_move rfl rfl ?_
   refine r_move rfl rfl ?_
   refine r_call0 hq rfl rfl (.cons (.ev rfl rfl) (.cons (.ev rfl rfl) (.cons (.ev rfl rfl) .nil))) (told_ok tt tu hgtt.wf hgtu.wf (good_ids hgtt (x := X) (by omega)) (good_ids hgtu (x := U) (by omega)) (two_keys hgtt hgtu) 10 (by omega) (by omega)) rfl TF.en16 rfl (fun r hr => ?_)
   obtain rfl := hr
   rw [hch, show (oneF X k v).take (10 : Int).toNat = oneF X k v from List.take_of_length_le (by show _ ≤ 10; omega)]
   refine r_assign rfl rfl ?_
   refine awl_nil ?_
   refine x_then ?_
   refine awp_seq ?_
   refine awp_region ?_
   refine r_assign rfl rfl ?_
   refine awl_nil ?_
   refine x_then ?_
   refine awp_cut (fun S => S = ⟨107, [(4, .a (.v (.pointer (some ⟨b4, 0, none⟩)))), (7, .a (encT tt)), (10, .a (boolA (look X k).isSome)), (11, .a (encT tu)), (12, .a (.sl 5 ((oneF X k v).map chC))), (13, .a (.v (.int .i64 (((oneF X k v).length : Nat)))))], [⟨b4, true, .box k.cs⟩]⟩) ?_ ?_
   ·
    refine awp_seq ?_
    refine awp_region ?_
    refine r_move rfl rfl ?_
    refine r_move rfl rfl ?_
    refine g_cases (t' := 42) rfl (fun hg42 => ?_) (fun hg42 => ?_)
    ·
     refine g_run rfl rfl hg42 ?_
     refine r_move rfl rfl ?_
     refine g_run rfl rfl hg42 ?_
     refine r_move rfl rfl ?_
     refine g_run rfl rfl hg42 ?_
     refine r_cmp rfl rfl rfl rfl ?_
     refine r_pickT rfl hg42 rfl rfl ?_
     refine awl_nil ?_
     refine x_then ?_
     refine awp_cond rfl (fun hc2 => ?_) (fun hc2 => ?_)
     ·
      have e1 : (oneF X k v).length = 0 := one_zero hg42 (eq_of_beq hc2)
      refine awp_region ?_
      refine r_assign rfl rfl ?_
      refine awl_nil ?_
      refine x_then ?_
      refine ⟨⟨107, [(4, .a (.v (.pointer (some ⟨b4, 0, none⟩)))), (7, .a (encT tt)), (10, .a (boolA (look X k).isSome)), (11, .a (encT tu)), (12, .a (.sl 5 ((oneF X k v).map chC))), (13, .a (.v (.int .i64 (((oneF X k v).length : Nat)))))], [⟨b4, true, .box k.cs⟩]⟩, ⟨rfl, (Slots.cons rfl (by first | exact .refl _ | exact .nilOwn _ _ | exact .nilSl _ | exact .ownSl _ _ _  | exact SV.le.ownEq (by rw [e1]; rfl) | exact SV.le.of_eq (by rw [e1]; rfl)) (Slots.cons rfl (by first | exact .refl _ | exact .nilOwn _ _ | exact .nilSl _ | exact .ownSl _ _ _  | exact SV.le.ownEq (by rw [e1]; rfl) | exact SV.le.of_eq (by rw [e1]; rfl)) (Slots.cons rfl (by first | exact .refl _ | exact .nilOwn _ _ | exact .nilSl _ | exact .ownSl _ _ _  | exact SV.le.ownEq (by rw [e1]; rfl) | exact SV.le.of_eq (by rw [e1]; rfl)) (Slots.cons rfl (by first | exact .refl _ | exact .nilOwn _ _ | exact .nilSl _ | exact .ownSl _ _ _  | exact SV.le.ownEq (by rw [e1]; rfl) | exact SV.le.of_eq (by rw [e1]; rfl)) (Slots.cons rfl (by first | exact .refl _ | exact .nilOwn _ _ | exact .nilSl _ | exact .ownSl _ _ _  | exact SV.le.ownEq (by rw [e1]; rfl) | exact SV.le.of_eq (by rw [e1]; rfl)) (Slots.cons rfl (by first | exact .refl _ | exact .nilOwn _ _ | exact .nilSl _ | exact .ownSl _ _ _  | exact SV.le.ownEq (by rw [e1]; rfl) | exact SV.le.of_eq (by rw [e1]; rfl)) Slots.nil)))))), (by first | exact List.Sublist.refl _ | exact .cons_cons _ (.cons _ (.refl _)) | exact List.nil_sublist _ | exact .cons _ (.refl _) | exact .cons _ (.cons _ (.refl _)) | exact .cons _ (.cons _ (.cons _ (.refl _))) | exact .cons _ (.cons _ (.cons _ (.cons _ (.refl _)))) | exact .cons_cons _ (List.nil_sublist _))⟩, rfl⟩
     ·
      have hne : ¬ (look X k).getD 0 = v := fun h => by rw [h] at hc2; simp at hc2
      refine awp_seq ?_
      refine awp_region ?_
      refine r_move rfl rfl ?_
      refine awl_nil ?_
      refine x_then ?_
      refine awp_cond rfl (fun hc3 => ?_) (fun hc3 => ?_)
      ·
       have e1 : (oneF X k v).length = 2 := by first | exact one_two hg42 hne | exact absurd (hc3.symm.trans hg42) (by decide)
       refine awp_region ?_
       refine r_assign rfl rfl ?_
       refine awl_nil ?_
       refine x_then ?_
       refine ⟨⟨107, [(4, .a (.v (.pointer (some ⟨b4, 0, none⟩)))), (7, .a (encT tt)), (10, .a (boolA (look X k).isSome)), (11, .a (encT tu)), (12, .a (.sl 5 ((oneF X k v).map chC))), (13, .a (.v (.int .i64 (((oneF X k v).length : Nat)))))], [⟨b4, true, .box k.cs⟩]⟩, ⟨rfl, (Slots.cons rfl (by first | exact .refl _ | exact .nilOwn _ _ | exact .nilSl _ | exact .ownSl _ _ _  | exact SV.le.ownEq (by rw [e1]; rfl) | exact SV.le.of_eq (by rw [e1]; rfl)) (Slots.cons rfl (by first | exact .refl _ | exact .nilOwn _ _ | exact .nilSl _ | exact .ownSl _ _ _  | exact SV.le.ownEq (by rw [e1]; rfl) | exact SV.le.of_eq (by rw [e1]; rfl)) (Slots.cons rfl (by first | exact .refl _ | exact .nilOwn _ _ | exact .nilSl _ | exact .ownSl _ _ _  | exact SV.le.ownEq (by rw [e1]; rfl) | exact SV.le.of_eq (by rw [e1]; rfl)) (Slots.cons rfl (by first | exact .refl _ | exact .nilOwn _ _ | exact .nilSl _ | exact .ownSl _ _ _  | exact SV.le.ownEq (by rw [e1]; rfl) | exact SV.le.of_eq (by rw [e1]; rfl)) (Slots.cons rfl (by first | exact .refl _ | exact .nilOwn _ _ | exact .nilSl _ | exact .ownSl _ _ _  | exact SV.le.ownEq (by rw [e1]; rfl) | exact SV.le.of_eq (by rw [e1]; rfl)) (Slots.cons rfl (by first | exact .refl _ | exact .nilOwn _ _ | exact .nilSl _ | exact .ownSl _ _ _  | exact SV.le.ownEq (by rw [e1]; rfl) | exact SV.le.of_eq (by rw [e1]; rfl)) Slots.nil)))))), (by first | exact List.Sublist.refl _ | exact .cons_cons _ (.cons _ (.refl _)) | exact List.nil_sublist _ | exact .cons _ (.refl _) | exact .cons _ (.cons _ (.refl _)) | exact .cons _ (.cons _ (.cons _ (.refl _))) | exact .cons _ (.cons _ (.cons _ (.cons _ (.refl _)))) | exact .cons_cons _ (List.nil_sublist _))⟩, rfl⟩
      ·
       have e1 : (oneF X k v).length = 1 := by first | exact one_one hg42 | exact absurd (hc3.symm.trans hg42) (by decide)
       refine awp_skip ?_
       refine x_then ?_
       refine ⟨⟨107, [(4, .a (.v (.pointer (some ⟨b4, 0, none⟩)))), (7, .a (encT tt)), (10, .a (boolA (look X k).isSome)), (11, .a (encT tu)), (12, .a (.sl 5 ((oneF X k v).map chC))), (13, .a (.v (.int .i64 (((oneF X k v).length : Nat)))))], [⟨b4, true, .box k.cs⟩]⟩, ⟨rfl, (Slots.cons rfl (by first | exact .refl _ | exact .nilOwn _ _ | exact .nilSl _ | exact .ownSl _ _ _  | exact SV.le.ownEq (by rw [e1]; rfl) | exact SV.le.of_eq (by rw [e1]; rfl)) (Slots.cons rfl (by first | exact .refl _ | exact .nilOwn _ _ | exact .nilSl _ | exact .ownSl _ _ _  | exact SV.le.ownEq (by rw [e1]; rfl) | exact SV.le.of_eq (by rw [e1]; rfl)) (Slots.cons rfl (by first | exact .refl _ | exact .nilOwn _ _ | exact .nilSl _ | exact .ownSl _ _ _  | exact SV.le.ownEq (by rw [e1]; rfl) | exact SV.le.of_eq (by rw [e1]; rfl)) (Slots.cons rfl (by first | exact .refl _ | exact .nilOwn _ _ | exact .nilSl _ | exact .ownSl _ _ _  | exact SV.le.ownEq (by rw [e1]; rfl) | exact SV.le.of_eq (by rw [e1]; rfl)) (Slots.cons rfl (by first | exact .refl _ | exact .nilOwn _ _ | exact .nilSl _ | exact .ownSl _ _ _  | exact SV.le.ownEq (by rw [e1]; rfl) | exact SV.le.of_eq (by rw [e1]; rfl)) (Slots.cons rfl (by first | exact .refl _ | exact .nilOwn _ _ | exact .nilSl _ | exact .ownSl _ _ _  | exact SV.le.ownEq (by rw [e1]; rfl) | exact SV.le.of_eq (by rw [e1]; rfl)) Slots.nil)))))), (by first | exact List.Sublist.refl _ | exact .cons_cons _ (.cons _ (.refl _)) | exact List.nil_sublist _ | exact .cons _ (.refl _) | exact .cons _ (.cons _ (.refl _)) | exact .cons _ (.cons _ (.cons _ (.refl _))) | exact .cons _ (.cons _ (.cons _ (.cons _ (.refl _)))) | exact .cons_cons _ (List.nil_sublist _))⟩, rfl⟩
    ·
     refine g_skip rfl rfl hg42 rfl ?_
     refine g_skip rfl rfl hg42 rfl ?_
     refine g_skip rfl rfl hg42 rfl ?_
     refine r_pickF rfl hg42 rfl rfl ?_
     refine awl_nil ?_
     refine x_then ?_
     refine awp_condF rfl ?_
     refine awp_seq ?_
     refine awp_region ?_
     refine r_move rfl rfl ?_
     refine awl_nil ?_
     refine x_then ?_
     refine awp_cond rfl (fun hc3 => ?_) (fun hc3 => ?_)
     ·
      have e1 : (oneF X k v).length = 2 := by first | exact one_two hg42 hne | exact absurd (hc3.symm.trans hg42) (by decide)
      refine awp_region ?_
      refine r_assign rfl rfl ?_
      refine awl_nil ?_
      refine x_then ?_
      refine ⟨⟨107, [(4, .a (.v (.pointer (some ⟨b4, 0, none⟩)))), (7, .a (encT tt)), (10, .a (boolA (look X k).isSome)), (11, .a (encT tu)), (12, .a (.sl 5 ((oneF X k v).map chC))), (13, .a (.v (.int .i64 (((oneF X k v).length : Nat)))))], [⟨b4, true, .box k.cs⟩]⟩, ⟨rfl, (Slots.cons rfl (by first | exact .refl _ | exact .nilOwn _ _ | exact .nilSl _ | exact .ownSl _ _ _  | exact SV.le.ownEq (by rw [e1]; rfl) | exact SV.le.of_eq (by rw [e1]; rfl)) (Slots.cons rfl (by first | exact .refl _ | exact .nilOwn _ _ | exact .nilSl _ | exact .ownSl _ _ _  | exact SV.le.ownEq (by rw [e1]; rfl) | exact SV.le.of_eq (by rw [e1]; rfl)) (Slots.cons rfl (by first | exact .refl _ | exact .nilOwn _ _ | exact .nilSl _ | exact .ownSl _ _ _  | exact SV.le.ownEq (by rw [e1]; rfl) | exact SV.le.of_eq (by rw [e1]; rfl)) (Slots.cons rfl (by first | exact .refl _ | exact .nilOwn _ _ | exact .nilSl _ | exact .ownSl _ _ _  | exact SV.le.ownEq (by rw [e1]; rfl) | exact SV.le.of_eq (by rw [e1]; rfl)) (Slots.cons rfl (by first | exact .refl _ | exact .nilOwn _ _ | exact .nilSl _ | exact .ownSl _ _ _  | exact SV.le.ownEq (by rw [e1]; rfl) | exact SV.le.of_eq (by rw [e1]; rfl)) (Slots.cons rfl (by first | exact .refl _ | exact .nilOwn _ _ | exact .nilSl _ | exact .ownSl _ _ _  | exact SV.le.ownEq (by rw [e1]; rfl) | exact SV.le.of_eq (by rw [e1]; rfl)) Slots.nil)))))), (by first | exact List.Sublist.refl _ | exact .cons_cons _ (.cons _ (.refl _)) | exact List.nil_sublist _ | exact .cons _ (.refl _) | exact .cons _ (.cons _ (.refl _)) | exact .cons _ (.cons _ (.cons _ (.refl _))) | exact .cons _ (.cons _ (.cons _ (.cons _ (.refl _)))) | exact .cons_cons _ (List.nil_sublist _))⟩, rfl⟩
     ·
      have e1 : (oneF X k v).length = 1 := by first | exact one_one hg42 | exact absurd (hc3.symm.trans hg42) (by decide)
      refine awp_skip ?_
      refine x_then ?_
      refine ⟨⟨107, [(4, .a (.v (.pointer (some ⟨b4, 0, none⟩)))), (7, .a (encT tt)), (10, .a (boolA (look X k).isSome)), (11, .a (encT tu)), (12, .a (.sl 5 ((oneF X k v).map chC))), (13, .a (.v (.int .i64 (((oneF X k v).length : Nat)))))], [⟨b4, true, .box k.cs⟩]⟩, ⟨rfl, (Slots.cons rfl (by first | exact .refl _ | exact .nilOwn _ _ | exact .nilSl _ | exact .ownSl _ _ _  | exact SV.le.ownEq (by rw [e1]; rfl) | exact SV.le.of_eq (by rw [e1]; rfl)) (Slots.cons rfl (by first | exact .refl _ | exact .nilOwn _ _ | exact .nilSl _ | exact .ownSl _ _ _  | exact SV.le.ownEq (by rw [e1]; rfl) | exact SV.le.of_eq (by rw [e1]; rfl)) (Slots.cons rfl (by first | exact .refl _ | exact .nilOwn _ _ | exact .nilSl _ | exact .ownSl _ _ _  | exact SV.le.ownEq (by rw [e1]; rfl) | exact SV.le.of_eq (by rw [e1]; rfl)) (Slots.cons rfl (by first | exact .refl _ | exact .nilOwn _ _ | exact .nilSl _ | exact .ownSl _ _ _  | exact SV.le.ownEq (by rw [e1]; rfl) | exact SV.le.of_eq (by rw [e1]; rfl)) (Slots.cons rfl (by first | exact .refl _ | exact .nilOwn _ _ | exact .nilSl _ | exact .ownSl _ _ _  | exact SV.le.ownEq (by rw [e1]; rfl) | exact SV.le.of_eq (by rw [e1]; rfl)) (Slots.cons rfl (by first | exact .refl _ | exact .nilOwn _ _ | exact .nilSl _ | exact .ownSl _ _ _  | exact SV.le.ownEq (by rw [e1]; rfl) | exact SV.le.of_eq (by rw [e1]; rfl)) Slots.nil)))))), (by first | exact List.Sublist.refl _ | exact .cons_cons _ (.cons _ (.refl _)) | exact List.nil_sublist _ | exact .cons _ (.refl _) | exact .cons _ (.cons _ (.refl _)) | exact .cons _ (.cons _ (.cons _ (.refl _))) | exact .cons _ (.cons _ (.cons _ (.cons _ (.refl _)))) | exact .cons_cons _ (List.nil_sublist _))⟩, rfl⟩
   ·
    rintro _ ⟨rfl⟩
    refine awp_seq ?_
    refine awp_seq ?_
    refine awp_region ?_
    refine r_move rfl rfl ?_
    first | (refine r_lenS rfl rfl TF.sl29 rfl ?_) | (refine r_lenNil rfl TF.sl29 rfl ?_) | (refine r_lenV rfl TF.sl29 rfl ?_)
    refine r_move rfl rfl ?_
    refine r_cmp rfl rfl rfl rfl ?_
    refine r_move rfl rfl ?_
    refine g_cases (t' := 52) rfl (fun hg52 => ?_) (fun hg52 => ?_)
    ·
     exfalso; simp at hg52
    ·
     refine g_run rfl rfl hg52 ?_
     refine r_move rfl rfl ?_
     refine g_run rfl rfl hg52 ?_
     refine r_move rfl rfl ?_
     refine g_run rfl rfl hg52 ?_
     refine r_call0 hq rfl rfl (.cons (.ev rfl rfl) (.cons (.ev rfl rfl) .nil)) (Looked_ok tt tu hgtt.wf hgtu.wf (good_ids hgtt (x := X) (by omega)) (good_ids hgtu (x := U) (by omega))) rfl TF.en19 rfl (fun r hr => ?_)
     obtain rfl := hr
     refine g_run rfl rfl hg52 ?_
     refine r_move rfl rfl ?_
     refine g_run rfl rfl hg52 ?_
     refine r_call0 hq rfl rfl (.cons (.ev rfl rfl) .nil) (Height_ok tu U hgtu (by omega)) rfl TF.en25 rfl (fun r hr => ?_)
     obtain rfl := hr
     refine g_run rfl rfl hg52 ?_
     refine r_ari (((highT tu : Nat) : Int) + 1) rfl rfl rfl (wrap_id (by omega)) rfl ?_
     refine g_run rfl rfl hg52 ?_
     refine r_ari (12 * (((highT tu : Nat) : Int) + 1)) rfl rfl rfl (wrap_id (by omega)) rfl ?_
     refine g_run rfl rfl hg52 ?_
     refine r_cmp rfl rfl rfl rfl ?_
     refine r_pickF rfl hg52 rfl rfl ?_
     refine awl_nil ?_
     refine x_then ?_
     refine awp_cond rfl (fun hc4 => ?_) (fun hc4 => ?_)
     ·
      exfalso; have := of_decide_eq_true hc4; omega
     ·
      refine awp_skip ?_
      refine x_then ?_
      refine awp_seq ?_
      refine awp_seq ?_
      refine awp_region ?_
      refine r_move rfl rfl ?_
      first | (refine r_lenS rfl rfl TF.sl29 rfl ?_) | (refine r_lenNil rfl TF.sl29 rfl ?_) | (refine r_lenV rfl TF.sl29 rfl ?_)
      refine r_move rfl rfl ?_
      refine awl_nil ?_
      refine x_then ?_
      refine awp_block ?_
      refine awp_loop (fun nn0 S => ∃ i : Nat, S = ⟨107, [(4, .a (.v (.pointer (some ⟨b4, 0, none⟩)))), (7, .a (encT tt)), (10, .a (boolA (look X k).isSome)), (12, .a (.sl 5 ((oneF X k v).map chC))), (62, .a (.sl 5 ((oneF X k v).map chC))), (63, .a (.v (.int .i64 ((((oneF X k v).map chC).length : Nat))))), (64, .a (.v (.int .i64 ((i : Int)))))], [⟨b4, true, .box k.cs⟩]⟩ ∧ nn0 = (oneF X k v).length - i ∧ (i ≤ (oneF X k v).length)) ((oneF X k v).length - (0)) ⟨107, [(4, .a (.v (.pointer (some ⟨b4, 0, none⟩)))), (7, .a (encT tt)), (10, .a (boolA (look X k).isSome)), (12, .a (.sl 5 ((oneF X k v).map chC))), (62, .a (.sl 5 ((oneF X k v).map chC))), (63, .a (.v (.int .i64 ((((oneF X k v).map chC).length : Nat))))), (64, .a (.v (.int .i64 (((0) : Int)))))], [⟨b4, true, .box k.cs⟩]⟩ ⟨rfl, (Slots.cons rfl (by first | exact .refl _ | exact .nilOwn _ _ | exact .nilSl _ | exact .ownSl _ _ _  | exact SV.le.of_eq (by simp)) (Slots.cons rfl (by first | exact .refl _ | exact .nilOwn _ _ | exact .nilSl _ | exact .ownSl _ _ _  | exact SV.le.of_eq (by simp)) (Slots.cons rfl (by first | exact .refl _ | exact .nilOwn _ _ | exact .nilSl _ | exact .ownSl _ _ _  | exact SV.le.of_eq (by simp)) (Slots.cons rfl (by first | exact .refl _ | exact .nilOwn _ _ | exact .nilSl _ | exact .ownSl _ _ _  | exact SV.le.of_eq (by simp)) (Slots.cons rfl (by first | exact .refl _ | exact .nilOwn _ _ | exact .nilSl _ | exact .ownSl _ _ _  | exact SV.le.of_eq (by simp)) (Slots.cons rfl (by first | exact .refl _ | exact .nilOwn _ _ | exact .nilSl _ | exact .ownSl _ _ _  | exact SV.le.of_eq (by simp)) (Slots.cons rfl (by first | exact .refl _ | exact .nilOwn _ _ | exact .nilSl _ | exact .ownSl _ _ _  | exact SV.le.of_eq (by simp)) Slots.nil))))))), (by first | exact List.Sublist.refl _ | exact .cons_cons _ (.cons _ (.refl _)) | exact List.nil_sublist _ | exact .cons _ (.refl _) | exact .cons _ (.cons _ (.refl _)) | exact .cons _ (.cons _ (.cons _ (.refl _))) | exact .cons _ (.cons _ (.cons _ (.cons _ (.refl _)))) | exact .cons_cons _ (List.nil_sublist _))⟩ ⟨0, rfl, rfl, Nat.zero_le _⟩ ?_
      rintro nn0 _ ⟨i, rfl, rfl, hi⟩
      refine awp_seq ?_
      refine awp_region ?_
      refine r_cmp rfl rfl rfl rfl ?_
      refine awl_nil ?_
      refine x_then ?_
      refine awp_seq ?_
      refine awp_cond rfl (fun hc5 => ?_) (fun hc5 => ?_)
      ·
       have hltz : i < (oneF X k v).length := by have := of_decide_eq_true hc5; simpa using this
       obtain ⟨z, hz⟩ := get_lt hltz
       obtain ⟨hz1, hz2⟩ := one_at hz
       refine awp_skip ?_
       refine x_then ?_
       refine awp_seq ?_
       refine awp_block ?_
       refine awp_seq ?_
       refine awp_region ?_
       refine r_move rfl rfl ?_
       refine r_index rfl rfl rfl TF.sl29 TF.sz55 (by omega) (get_map hz) rfl ?_
       first | (refine r_loadAb 0 rfl rfl TF.agg55 TF.sz55 rfl rfl ?_) | (refine r_loadA rfl TF.agg55 TF.sz55 rfl rfl ?_)
       refine r_alloc TF.zero55 rfl (fun b15 => ?_)
       refine r_assign rfl rfl ?_
       first | (refine r_store 0 rfl rfl rfl TF.sz55 rfl rfl rfl ?_) | (refine r_store 1 rfl rfl rfl TF.sz55 rfl rfl rfl ?_)
       refine awl_nil ?_
       refine x_then ?_
       refine awp_seq ?_
       refine awp_region ?_
       first | (refine r_fieldpt rfl TF.f55_0 TF.sz47 rfl ?_) | (refine r_fieldcp rfl TF.f55_0 TF.sz47 rfl ?_) | (refine r_fieldb rfl TF.f55_0 TF.sz47 rfl ?_)
       first | (refine r_loadAb 0 rfl rfl TF.agg47 TF.sz47 rfl rfl ?_) | (refine r_loadA rfl TF.agg47 TF.sz47 rfl rfl ?_) | (refine r_loadAb 1 rfl rfl TF.agg47 TF.sz47 rfl rfl ?_)
       first | (refine r_loadAb 0 rfl rfl TF.agg47 TF.sz47 rfl rfl ?_) | (refine r_loadA rfl TF.agg47 TF.sz47 rfl rfl ?_) | (refine r_loadAb 1 rfl rfl TF.agg47 TF.sz47 rfl rfl ?_)
       refine r_fne rfl rfl flat47 (isVal_sp z.1) (isVal_sp k) (Sp.kn _) (Sp.kn _) true (by simp [hz1]) rfl ?_
       refine r_move rfl rfl ?_
       refine g_cases (t' := 73) rfl (fun hg73 => ?_) (fun hg73 => ?_)
       ·
        cases hg73
       ·
        refine g_run rfl rfl hg73 ?_
        first | (refine r_fieldpt rfl TF.f55_1 TF.sz4 rfl ?_) | (refine r_fieldcp rfl TF.f55_1 TF.sz4 rfl ?_) | (refine r_fieldb rfl TF.f55_1 TF.sz4 rfl ?_)
        refine g_run rfl rfl hg73 ?_
        first | (refine r_load1b 0 rfl rfl rfl TF.agg4 rfl ?_) | (refine r_load1 rfl TF.agg4 rfl ?_) | (refine r_load1b 1 rfl rfl rfl TF.agg4 rfl ?_)
        refine g_run rfl rfl hg73 ?_
        refine r_move rfl rfl ?_
        refine g_run rfl rfl hg73 ?_
        refine r_move rfl rfl ?_
        refine g_run rfl rfl hg73 ?_
        first | (refine r_lenS rfl rfl TF.sl29 rfl ?_) | (refine r_lenNil rfl TF.sl29 rfl ?_) | (refine r_lenV rfl TF.sl29 rfl ?_)
        refine g_run rfl rfl hg73 ?_
        refine r_ari _ rfl rfl rfl (wrap_id (by first | omega | (simp; omega))) rfl ?_
        refine g_run rfl rfl hg73 ?_
        refine r_cmp rfl rfl rfl rfl ?_
        refine g_run rfl rfl hg73 ?_
        refine r_bne rfl rfl TF.un4 rfl ?_
        refine r_pickF rfl hg73 rfl rfl ?_
        refine awl_nil ?_
        refine x_then ?_
        refine awp_cond rfl (fun hc6 => ?_) (fun hc6 => ?_)
        ·
         exfalso; rw [hz2, List.length_map] at hc6
         have e : decide (i + 1 = (oneF X k v).length) = ((i : Int) == (((oneF X k v).length : Nat) : Int) - 1) := by rw [Bool.eq_iff_iff, decide_eq_true_eq, beq_iff_eq]; omega
         rw [e] at hc6; simp at hc6
        ·
         refine awp_skip ?_
         refine x_block ?_
         refine x_then ?_
         refine awp_region ?_
         refine r_ari _ rfl rfl rfl (wrap_id (by first | omega | (simp; omega))) rfl ?_
         refine r_move rfl rfl ?_
         refine awl_nil ?_
         refine x_then ?_
         refine ⟨(oneF X k v).length - (i + 1), ⟨107, [(4, .a (.v (.pointer (some ⟨b4, 0, none⟩)))), (7, .a (encT tt)), (10, .a (boolA (look X k).isSome)), (12, .a (.sl 5 ((oneF X k v).map chC))), (62, .a (.sl 5 ((oneF X k v).map chC))), (63, .a (.v (.int .i64 ((((oneF X k v).map chC).length : Nat))))), (64, .a (.v (.int .i64 (((i + 1) : Int)))))], [⟨b4, true, .box k.cs⟩]⟩, ⟨rfl, (Slots.cons rfl (by first | exact .refl _ | exact .nilOwn _ _ | exact .nilSl _ | exact .ownSl _ _ _  | exact SV.le.of_eq (by simp)) (Slots.cons rfl (by first | exact .refl _ | exact .nilOwn _ _ | exact .nilSl _ | exact .ownSl _ _ _  | exact SV.le.of_eq (by simp)) (Slots.cons rfl (by first | exact .refl _ | exact .nilOwn _ _ | exact .nilSl _ | exact .ownSl _ _ _  | exact SV.le.of_eq (by simp)) (Slots.cons rfl (by first | exact .refl _ | exact .nilOwn _ _ | exact .nilSl _ | exact .ownSl _ _ _  | exact SV.le.of_eq (by simp)) (Slots.cons rfl (by first | exact .refl _ | exact .nilOwn _ _ | exact .nilSl _ | exact .ownSl _ _ _  | exact SV.le.of_eq (by simp)) (Slots.cons rfl (by first | exact .refl _ | exact .nilOwn _ _ | exact .nilSl _ | exact .ownSl _ _ _  | exact SV.le.of_eq (by simp)) (Slots.cons rfl (by first | exact .refl _ | exact .nilOwn _ _ | exact .nilSl _ | exact .ownSl _ _ _  | exact SV.le.of_eq (by simp)) Slots.nil))))))), (by first | exact List.Sublist.refl _ | exact .cons_cons _ (.cons _ (.refl _)) | exact List.nil_sublist _ | exact .cons _ (.refl _) | exact .cons _ (.cons _ (.refl _)) | exact .cons _ (.cons _ (.cons _ (.refl _))) | exact .cons _ (.cons _ (.cons _ (.cons _ (.refl _)))) | exact .cons_cons _ (List.nil_sublist _))⟩, (by omega), ⟨i + 1, rfl, rfl, (by omega)⟩⟩
      ·
       refine awp_exit ?_
       refine x_thenE ?_
       refine x_thenE ?_
       refine x_blockE ?_
       refine x_then ?_
       refine awp_seq ?_
       refine awp_region ?_
       refine r_move rfl rfl ?_
       refine r_move rfl rfl ?_
       first | (refine r_loadAb 0 rfl rfl TF.agg47 TF.sz47 rfl rfl ?_) | (refine r_loadA rfl TF.agg47 TF.sz47 rfl rfl ?_)
       refine r_call0 hq rfl rfl (.cons (.ev rfl rfl) (.cons (.ev rfl rfl) .nil)) (TDel_ok tt hgtt.wf htn k) rfl TF.en21 rfl (fun r hr => ?_)
       obtain ⟨td, htd, rfl⟩ := hr
       have hgtd := good_del hgtt htd
       have hp_D : (refDel X k).length ≤ X.length := List.length_filter_le _ _
       refine awl_fact (φ := Coh tt td) (fun C T a w hs => coh_of hgtt.wf hgtd.wf (hs.slots 7 (.a (encT tt)) rfl) (hs.slots 87 (.a (encT td)) rfl)) (fun hcod => ?_)
       have hcd := chg_ref hcod hgtt hgtd
       rw [btw_del hgtt.st] at hcd
       have hdl := del_len X k
       refine r_call0 hq rfl rfl (.cons (.ev rfl rfl) (.cons (.ev rfl rfl) (.cons (.ev rfl rfl) .nil))) (told_ok tt td hgtt.wf hgtd.wf (good_ids hgtt (x := X) (by omega)) (good_ids hgtd (x := (refDel X k)) (by omega)) (two_keys hgtt hgtd) 10 (by omega) (by omega)) rfl TF.en16 rfl (fun r hr => ?_)
       obtain rfl := hr
       rw [hcd, show (delF X k).take (10 : Int).toNat = delF X k from List.take_of_length_le (by show _ ≤ 10; omega)]
       refine r_assign rfl rfl ?_
       refine awl_nil ?_
       refine x_then ?_
       refine awp_seq ?_
       rcases Bool.eq_false_or_eq_true (((((delF X k).map chC).length : Nat) : Int) == 0) with hg98 | hg98
       ·
        refine awp_drawS [89, 90, 91, 92, 93, 94, 95, 96, 97, 98, 99, 100, 101, 102, 103] [_, _, _, _, _, _, _, _, _, _, _, _, _, _, _] [] [] TF.mixed rfl rfl rfl ⟨⟨⟨⟨⟨⟨⟨⟨⟨⟨⟨⟨⟨⟨⟨trivial
         , ⟨_, rfl, fun sl hd hr ho => by
           refine r_move (hr 16 _ rfl rfl rfl) rfl ?_
           exact awl_nil ⟨rfl, post_put⟩⟩⟩
         , ⟨_, rfl, fun sl hd hr ho => by
           first | (refine r_lenS (hd 0 _ rfl rfl rfl) rfl TF.sl29 rfl ?_) | (refine r_lenNil (hd 0 _ rfl rfl rfl) TF.sl29 rfl ?_) | (refine r_lenV (hd 0 _ rfl rfl rfl) TF.sl29 rfl ?_)
           exact awl_nil ⟨rfl, post_put⟩⟩⟩
         , ⟨_, rfl, fun sl hd hr ho => by
           refine r_cmp (hd 1 _ rfl rfl rfl) rfl rfl rfl ?_
           exact awl_nil ⟨rfl, post_put⟩⟩⟩
         , ⟨_, rfl, fun sl hd hr ho => by
           refine r_move (hr 10 _ rfl rfl rfl) rfl ?_
           exact awl_nil ⟨rfl, post_put⟩⟩⟩
         , ⟨_, rfl, fun sl hd hr ho => by
           refine r_beq (hd 2 _ rfl rfl rfl) (hd 3 _ rfl rfl rfl) TF.un4 rfl ?_
           exact awl_nil ⟨rfl, post_put⟩⟩⟩
         , ⟨_, rfl, fun sl hd hr ho => by
           refine r_move (hd 4 _ rfl rfl rfl) rfl ?_
           exact awl_nil ⟨rfl, post_put⟩⟩⟩
         , ⟨_, rfl, fun sl hd hr ho => by
           refine g_run rfl (hd 5 _ rfl rfl rfl) (by exact del_had X k) ?_
           refine r_move (hr 16 _ rfl rfl rfl) rfl ?_
           exact awl_nil ⟨rfl, post_put⟩⟩⟩
         , ⟨_, rfl, fun sl hd hr ho => by
           refine g_run rfl (hd 5 _ rfl rfl rfl) (by exact del_had X k) ?_
           first | (refine r_lenS (hd 6 _ rfl rfl rfl) rfl TF.sl29 rfl ?_) | (refine r_lenNil (hd 6 _ rfl rfl rfl) TF.sl29 rfl ?_) | (refine r_lenV (hd 6 _ rfl rfl rfl) TF.sl29 rfl ?_)
           exact awl_nil ⟨rfl, post_put⟩⟩⟩
         , ⟨_, rfl, fun sl hd hr ho => by
           refine g_run rfl (hd 5 _ rfl rfl rfl) (by exact del_had X k) ?_
           refine r_cmp (hd 7 _ rfl rfl rfl) rfl rfl rfl ?_
           exact awl_nil ⟨rfl, post_put⟩⟩⟩
         , ⟨_, rfl, fun sl hd hr ho => by
           refine g_run rfl (hd 5 _ rfl rfl rfl) (by exact del_had X k) ?_
           refine r_move (hd 8 _ rfl rfl rfl) rfl ?_
           exact awl_nil ⟨rfl, post_put⟩⟩⟩
         , ⟨_, rfl, fun sl hd hr ho => by
           refine g_skip rfl (hd 9 _ rfl rfl rfl) hg98 rfl ?_
           exact awl_nil ⟨rfl, post_put⟩⟩⟩
         , ⟨_, rfl, fun sl hd hr ho => by
           refine g_skip rfl (hd 9 _ rfl rfl rfl) hg98 rfl ?_
           exact awl_nil ⟨rfl, post_put⟩⟩⟩
         , ⟨_, rfl, fun sl hd hr ho => by
           refine g_skip rfl (hd 9 _ rfl rfl rfl) hg98 rfl ?_
           exact awl_nil ⟨rfl, post_put⟩⟩⟩
         , ⟨_, rfl, fun sl hd hr ho => by
           refine g_skip rfl (hd 9 _ rfl rfl rfl) hg98 rfl ?_
           exact awl_nil ⟨rfl, post_put⟩⟩⟩
         , ⟨_, rfl, fun sl hd hr ho => by
           refine g_skip rfl (hd 9 _ rfl rfl rfl) hg98 rfl ?_
           exact awl_nil ⟨rfl, post_put⟩⟩⟩
         (by rfl) ?_
        refine g_skip rfl rfl hg98 rfl ?_
        refine g_run rfl rfl (by exact del_had X k) ?_
        refine r_pickT rfl hg98 rfl rfl ?_
        refine r_pickT rfl (by exact del_had X k) rfl rfl ?_
        refine r_assign rfl rfl ?_
        refine awl_nil ?_
        refine x_then ?_
        refine awp_ret ?_
        exact ⟨(.inl rfl), _, [], (.one (by first | exact .mk rfl rfl | exact .nil rfl)), ⟨rfl, rfl⟩, (List.nil_sublist _), (by simp)⟩
       ·
        have hdd := del_some (X := X) (k := k) (fun h => by rw [h] at hg98; cases hg98)
        refine awp_drawS [89, 90, 91, 92, 93, 94, 95, 96, 97, 98, 99, 100, 101, 102, 103] [_, _, _, _, _, _, _, _, _, _, _, _, _, _, _] [] [] TF.mixed rfl rfl rfl ⟨⟨⟨⟨⟨⟨⟨⟨⟨⟨⟨⟨⟨⟨⟨trivial
         , ⟨_, rfl, fun sl hd hr ho => by
           refine r_move (hr 16 _ rfl rfl rfl) rfl ?_
           exact awl_nil ⟨rfl, post_put⟩⟩⟩
         , ⟨_, rfl, fun sl hd hr ho => by
           first | (refine r_lenS (hd 0 _ rfl rfl rfl) rfl TF.sl29 rfl ?_) | (refine r_lenNil (hd 0 _ rfl rfl rfl) TF.sl29 rfl ?_) | (refine r_lenV (hd 0 _ rfl rfl rfl) TF.sl29 rfl ?_)
           exact awl_nil ⟨rfl, post_put⟩⟩⟩
         , ⟨_, rfl, fun sl hd hr ho => by
           refine r_cmp (hd 1 _ rfl rfl rfl) rfl rfl rfl ?_
           exact awl_nil ⟨rfl, post_put⟩⟩⟩
         , ⟨_, rfl, fun sl hd hr ho => by
           refine r_move (hr 10 _ rfl rfl rfl) rfl ?_
           exact awl_nil ⟨rfl, post_put⟩⟩⟩
         , ⟨_, rfl, fun sl hd hr ho => by
           refine r_beq (hd 2 _ rfl rfl rfl) (hd 3 _ rfl rfl rfl) TF.un4 rfl ?_
           exact awl_nil ⟨rfl, post_put⟩⟩⟩
         , ⟨_, rfl, fun sl hd hr ho => by
           refine r_move (hd 4 _ rfl rfl rfl) rfl ?_
           exact awl_nil ⟨rfl, post_put⟩⟩⟩
         , ⟨_, rfl, fun sl hd hr ho => by
           refine g_run rfl (hd 5 _ rfl rfl rfl) (by exact del_had X k) ?_
           refine r_move (hr 16 _ rfl rfl rfl) rfl ?_
           exact awl_nil ⟨rfl, post_put⟩⟩⟩
         , ⟨_, rfl, fun sl hd hr ho => by
           refine g_run rfl (hd 5 _ rfl rfl rfl) (by exact del_had X k) ?_
           first | (refine r_lenS (hd 6 _ rfl rfl rfl) rfl TF.sl29 rfl ?_) | (refine r_lenNil (hd 6 _ rfl rfl rfl) TF.sl29 rfl ?_) | (refine r_lenV (hd 6 _ rfl rfl rfl) TF.sl29 rfl ?_)
           exact awl_nil ⟨rfl, post_put⟩⟩⟩
         , ⟨_, rfl, fun sl hd hr ho => by
           refine g_run rfl (hd 5 _ rfl rfl rfl) (by exact del_had X k) ?_
           refine r_cmp (hd 7 _ rfl rfl rfl) rfl rfl rfl ?_
           exact awl_nil ⟨rfl, post_put⟩⟩⟩
         , ⟨_, rfl, fun sl hd hr ho => by
           refine g_run rfl (hd 5 _ rfl rfl rfl) (by exact del_had X k) ?_
           refine r_move (hd 8 _ rfl rfl rfl) rfl ?_
           exact awl_nil ⟨rfl, post_put⟩⟩⟩
         , ⟨_, rfl, fun sl hd hr ho => by
           refine g_run rfl (hd 9 _ rfl rfl rfl) hg98 ?_
           refine r_move (hr 16 _ rfl rfl rfl) rfl ?_
           exact awl_nil ⟨rfl, post_put⟩⟩⟩
         , ⟨_, rfl, fun sl hd hr ho => by
           refine g_run rfl (hd 9 _ rfl rfl rfl) hg98 ?_
           refine r_index (hd 10 _ rfl rfl rfl) rfl rfl TF.sl29 TF.sz55 (by decide) (show (List.map chC (delF X k))[(0 : Int).toNat]? = some (chC (k, false)) by rw [hdd]; rfl) rfl ?_
           exact awl_nil ⟨rfl, post_put⟩⟩⟩
         , ⟨_, rfl, fun sl hd hr ho => by
           refine g_run rfl (hd 9 _ rfl rfl rfl) hg98 ?_
           first | (refine r_loadAb 0 (hd 11 _ rfl rfl rfl) rfl TF.agg55 TF.sz55 rfl rfl ?_) | (refine r_loadA (hd 11 _ rfl rfl rfl) TF.agg55 TF.sz55 rfl rfl ?_)
           exact awl_nil ⟨rfl, post_put⟩⟩⟩
         , ⟨_, rfl, fun sl hd hr ho => by
           refine g_run rfl (hd 9 _ rfl rfl rfl) hg98 ?_
           first | (refine r_loadAb 0 (hr 4 _ rfl rfl rfl) rfl TF.agg47 TF.sz47 rfl rfl ?_) | (refine r_loadA (hr 4 _ rfl rfl rfl) TF.agg47 TF.sz47 rfl rfl ?_)
           exact awl_nil ⟨rfl, post_put⟩⟩⟩
         , ⟨_, rfl, fun sl hd hr ho => by
           refine g_run rfl (hd 9 _ rfl rfl rfl) hg98 ?_
           refine r_build (parts := [(0, .tmp 102)]) rfl TF.pl55 TF.zero55 (parts_cons (hd 13 _ rfl rfl rfl) parts_nil) rfl rfl ?_
           exact awl_nil ⟨rfl, post_put⟩⟩⟩
         (by rfl) ?_
        refine g_run rfl rfl hg98 ?_
        refine r_feq rfl rfl flat55 (isVal_ch (k, false)) (isVal_ch (k, false)) (chV_kn _) (chV_kn _) true (by simp) rfl ?_
        refine g_run rfl rfl (by exact del_had X k) ?_
        refine r_pickF rfl hg98 rfl rfl ?_
        refine r_pickT rfl (by exact del_had X k) rfl rfl ?_
        refine r_assign rfl rfl ?_
        refine awl_nil ?_
        refine x_then ?_
        refine awp_ret ?_
        exact ⟨(.inl rfl), _, [], (.one (by first | exact .mk rfl rfl | exact .nil rfl)), ⟨rfl, rfl⟩, (List.nil_sublist _), (by simp)⟩
theorem one_law (l : List Ac) (s : Sp) (v : Int) : AC Try.prog 9 [.sl 6 (l.map Ac.cs), spA s, .v (.int .u64 v)] [] (fun r n => n = [] ∧ r = boolA true) := one_walk l s v
end Go.Proofs.Ytljgdbgcleibjaa.A

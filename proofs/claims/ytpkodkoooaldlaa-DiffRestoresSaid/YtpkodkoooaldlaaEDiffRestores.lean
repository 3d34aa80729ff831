import Derived.WalkKit
import Derived.Below
import Derived.Laws.Rows
import Derived.Laws.CopyRow
import Derived.Laws.AppendOwn
import Derived.RangeFuncLeaves
import Derived.RangeFuncSeq
import Derived.RangeFuncCalls
import Derived.MapKept
import Derived.Orders
import Derived.Laws.IdiomStrings
import Derived.Laws.BytesArg
import Derived.Shelf.SlIter.Nil
import Derived.RangeFuncBound
import Derived.Maps.RangeRun
import Derived.DeepKeys3
import Derived.Laws.StructEq
import Derived.Shelf.SlSortCmp.NoneTotal
import Derived.ChangeKeysEq
import Derived.Laws.MakeOwn
import Derived.ChangeArms
import Derived.ChangeOld
import Derived.Laws.DeepStrings4
import Derived.OpenShut
import Derived.Test.YtpkodkoooaldlaaProg
import Derived.KernelRfl
import Derived.OrdersIn
import Derived.Lib.AppendZeros
import Derived.Lib.AppendZerosOnto
import Derived.Lib.Overlaps
import Derived.Deep.AppendSrc
import Derived.Scope
import Derived.Shelf.SlGeneric
import Derived.Ground.SlsfProg
import Derived.Ground.SlmcProg
import Derived.Shelf.SlMaps.Clone
import Derived.Test.YtpkodkoooaldlaaM6
namespace Go.Proofs.Ytpkodkoooaldlaa.A
open Go Go.RowKit
set_option linter.unusedVariables false
set_option linter.unusedSimpArgs false
set_option linter.unusedSectionVars false
variable {P : Program} {w0 : Base} {C0 C : CS} {T : TS} {S S' : AState} {a : Act} {w : World} {ops : Array Oper} {rest : List Oper} {o : Oper} {Q : Exit → AState → Prop}
theorem imp_commitBx (i j : Nat) {bx g n cap sz e : Nat} {l : List (List AV)} (hn : n = l.length) (hi : S.objs[i]? = some ⟨g, true, .buf sz l cap e⟩) (hj : (S.objs.eraseIdx i)[j]? = some ⟨bx, true, .box [.v (.slice (some ⟨g, 0, none⟩) n cap)]⟩) :
    Imp w0 C0 S ⟨S.nt, S.slots, (S.objs.eraseIdx i).set j ⟨bx, true, .box [.sl sz l]⟩⟩ := by
  rintro a w ⟨C, T, hs⟩
  subst hn
  have hm := mem_of_get hi
  obtain ⟨hob, hnone', hbase⟩ := hs.objs _ hm
  obtain ⟨arr, a1, a2, a3, a4, vs, a5, a6, a7⟩ := hob
  have hnone : ∀ o, C g o = none := hnone'
  have hbase' : w0.ok g := hbase rfl
  have hvl : vs.length = l.length * sz := by rw [a5.1, flat_len a4]
  have hmono := CS.add_mono (C := C) (b := g) (o := 0) (vs := vs) (fun j _ => hnone _)
  have hsub := List.eraseIdx_sublist (l := S.objs) (k := i)
  have hp := set_take (y := (⟨g, true, .buf sz l cap e⟩ : OE)) hi
  have hp' : ((⟨g, true, .buf sz l cap e⟩ : OE) :: S.objs.eraseIdx i).Perm S.objs := by
    have : S.objs.set i ⟨g, true, .buf sz l cap e⟩ = S.objs := by
      apply List.ext_getElem?
      intro j
      rw [List.getElem?_set]
      by_cases hij : i = j
      · subst hij; rw [if_pos rfl]; split
        · exact hi.symm
        · rename_i h; rw [List.getElem?_eq_none (by omega)]
      · simp [hij]
    rw [this] at hp; exact hp
  have hne : ∀ e', e' ∈ S.objs.eraseIdx i → e'.b ≠ g := fun e' he h => by
    have := (hp'.pairwise_iff (R := fun e e' : OE => e.b ≠ e'.b) (fun h => fun e => h e.symm)).2 hs.apart
    exact (List.pairwise_cons.1 this).1 e' he h.symm
  have hstep : SimC w0 C0 (C.add g 0 vs) T ⟨S.nt, S.slots, S.objs.eraseIdx i⟩ a w := by
    refine hs.step (BelowX.refl _) (fun _ => Nat.le_refl _) (fun _ _ h => h) ?_ ?_ (fun b' o' hb' hn => CS.add_other (fun e => by subst e; rcases hbase' with h | h; omega; exact hn h)) ?_ (hs.apart.sublist hsub) ?_ hs.tokne (fun t x hx => ⟨x, hx, fun u r => SRel.mono hmono r⟩)
    · intro b' o' v hc
      rcases CS.add_cases hc with ⟨rfl, j, rfl, hj⟩ | hc'
      · refine ⟨?_, fun _ _ => ⟨arr, e, a1⟩⟩
        rw [cell_of_row w b' _ arr e (0, 0) a1, Nat.zero_add]
        have hlt := (List.getElem?_eq_some_iff.1 hj).1
        rw [← a7, List.getElem?_take, if_pos (by omega)] at hj
        simpa using hj
      · exact hs.com _ _ _ hc'
    · intro b' o' v hc
      rcases CS.add_cases hc with ⟨rfl, j, rfl, hj⟩ | hc'
      · exact a6 v (List.mem_of_getElem? hj)
      · exact hs.one _ _ _ hc'
    · intro e' he
      obtain ⟨k1, k2, k3⟩ := hs.objs e' (hsub.mem he)
      exact ⟨k1.mono hmono rfl, fun o => by rw [CS.add_other (hne e' he)]; exact k2 o, k3⟩
    · intro k j hk
      obtain ⟨k1, k2⟩ := hs.toks k j hk
      have hkb : j.b ≠ g := fun e => k2 _ hm e.symm
      exact ⟨k1.keep rfl (fun o => CS.add_other hkb), fun e he => k2 e (hsub.mem he)⟩
  have hx : Rel (C.add g 0 vs) (.sl sz l) (.slice (some ⟨g, 0, none⟩) l.length cap) :=
    rel_sl_mk g 0 rfl a3 (fun _ => rfl) (row_mk a4 (a5.mono hmono) (fun j v hj => CS.add_at hj))
  have hob := (hstep.objs _ (mem_of_get hj)).1
  obtain ⟨barr, bt, b1, b2⟩ := hob
  have hcells : barr.toList = [.slice (some ⟨g, 0, none⟩) l.length cap] := by
    obtain ⟨u, us, hu, hu1, hu2⟩ := b2.cons_inv
    have := hu2.nil_inv; subst this
    cases hu1
    exact hu
  exact ⟨_, T, hstep.setObj hj (w' := w) (Nat.le_refl _) rfl rfl rfl rfl (fun _ _ => rfl) ⟨barr, bt, b1, by rw [hcells]; exact Rels.cons hx Rels.nil⟩⟩
end Go.Proofs.Ytpkodkoooaldlaa.A
namespace Go.Proofs.Ytpkodkoooaldlaa.A
open Go Go.RowKit
set_option linter.unusedVariables false
set_option linter.unusedSimpArgs false
theorem entries_len (x y : List Ent) : (entriesF x y).length ≤ x.length + y.length := by
  have h1 := places_len [x, y]
  have h2 := List.length_filterMap_le (chgAt x y) (placesF [x, y])
  simp at h1; unfold entriesF; omega
theorem shows_cons (e : Ent) (l : List Ent) (p : PL) : shows (e :: l) p = if e.pl = p then e.num else shows l p := by
  unfold shows
  rw [List.find?_cons]
  by_cases h : e.pl = p <;> simp [h]
theorem places_out {ls : List (List Ent)} {p : PL} (h : p ∉ placesF ls) {l : List Ent} (hl : l ∈ ls) : shows l p = 0 :=
  shows_zero fun ⟨e, he, hp⟩ => h ((places_mem ls).2 ⟨l, hl, e, he, hp⟩)
theorem sorted_nodup {l : List PL} (h : SortedP l) : l.Nodup := List.Pairwise.imp (fun {a b} hab => by intro e; rw [e, ltP_irrefl] at hab; cases hab) h
theorem clean_eq (l : List Ent) : cleanF l = ((placesF [l]).filter (fun p => !decide (shows l p = 0))).map (fun p => ⟨p.1, p.2, shows l p⟩) := by
  unfold cleanF
  induction placesF [l] with
  | nil => rfl
  | cons p r ih =>
    rw [List.filterMap_cons, List.filter_cons]
    by_cases h : shows l p = 0
    · simp only [cleanAt, h, if_true, decide_true, Bool.not_true, Bool.false_eq_true, if_false]
      exact ih
    · simp only [cleanAt, h, if_false, decide_false, Bool.not_false, if_true, List.map_cons]
      rw [← ih]
theorem clean_ext {l l' : List Ent} (h : ∀ p, shows l p = shows l' p) : cleanF l = cleanF l' := by
  rw [clean_eq, clean_eq]
  have e : (placesF [l]).filter (fun p => !decide (shows l p = 0)) = (placesF [l']).filter (fun p => !decide (shows l' p = 0)) := by
    refine sortedP_ext (List.Pairwise.filter _ (places_sorted _)) (List.Pairwise.filter _ (places_sorted _)) (fun p => ?_)
    simp only [List.mem_filter, h p, and_congr_left_iff]
    intro hp
    simp only [Bool.not_eq_true', decide_eq_false_iff_not] at hp
    constructor
    · intro _
      by_cases hm : p ∈ placesF [l']
      · exact hm
      · exact absurd (places_out hm (by simp)) hp
    · intro _
      by_cases hm : p ∈ placesF [l]
      · exact hm
      · exact absurd ((h p).symm.trans (places_out hm (by simp))) hp
  rw [e]
  refine List.map_congr_left fun p _ => ?_
  rw [h p]
theorem apply_at (a b : List Ent) : ∀ (pl : List PL), pl.Nodup → ∀ l : List Ent, (∀ p ∈ pl, shows l p = shows a p) →
    ∃ l', applyF l (pl.filterMap (chgAt a b)) = some l' ∧ ∀ p, shows l' p = if p ∈ pl then shows b p else shows l p
  | [], _, l, _ => ⟨l, rfl, fun p => by simp⟩
  | q :: pl, hnd, l, hs => by
    have hq : q ∉ pl := (List.nodup_cons.1 hnd).1
    have hq0 := hs q (by simp)
    by_cases h : shows a q = shows b q
    · obtain ⟨l', h1, h2⟩ := apply_at a b pl (List.nodup_cons.1 hnd).2 l (fun p hp => hs p (by simp [hp]))
      refine ⟨l', by rw [List.filterMap_cons]; simp only [chgAt, h, if_true]; exact h1, fun p => ?_⟩
      rw [h2]
      by_cases hp : p ∈ pl
      · simp [hp]
      · by_cases hpq : p = q
        · subst hpq; simp [hp, hq0, h]
        · simp [hp, hpq]
    · obtain ⟨l', h1, h2⟩ := apply_at a b pl (List.nodup_cons.1 hnd).2 (⟨q.1, q.2, shows b q⟩ :: l) (fun p hp => by
        rw [shows_cons, if_neg (fun e => hq (by rw [show q = p from e]; exact hp))]; exact hs p (by simp [hp]))
      refine ⟨l', ?_, fun p => ?_⟩
      · rw [List.filterMap_cons]
        simp only [chgAt, h, if_false]
        have : applyF l (⟨q.1, q.2, shows a q, shows b q⟩ :: List.filterMap (chgAt a b) pl) = applyF (⟨q.1, q.2, shows b q⟩ :: l) (List.filterMap (chgAt a b) pl) := by
          unfold applyF
          rw [List.foldl_cons]
          have : applyS (some l) ⟨q.1, q.2, shows a q, shows b q⟩ = some (⟨q.1, q.2, shows b q⟩ :: l) := by simp [applyS, Chg.pl, hq0]
          rw [this]
        exact this.trans h1
      · rw [h2, shows_cons]
        by_cases hp : p ∈ pl
        · simp [hp]
        · by_cases hpq : q = p
          · subst hpq; simp [Ent.pl]
          · have h3 : ¬ p = q := fun e => hpq e.symm
            have h4 : ¬ ((⟨q.1, q.2, shows b q⟩ : Ent).pl = p) := hpq
            simp [hp, h3, h4]
theorem apply_entries (l a b : List Ent) (h : ∀ p, shows l p = shows a p) : ∃ l', applyF l (entriesF a b) = some l' ∧ ∀ p, shows l' p = shows b p := by
  obtain ⟨l', h1, h2⟩ := apply_at a b (placesF [a, b]) (sorted_nodup (places_sorted _)) l (fun p _ => h p)
  refine ⟨l', h1, fun p => ?_⟩
  rw [h2]
  by_cases hm : p ∈ placesF [a, b]
  · simp [hm]
  · rw [if_neg hm, h, places_out hm (l := a) (by simp), places_out hm (l := b) (by simp)]
end Go.Proofs.Ytpkodkoooaldlaa.A
namespace Go.Proofs.Ytpkodkoooaldlaa.A
open Go Go.RowKit
set_option linter.unusedVariables false
set_option linter.unusedSimpArgs false
set_option maxRecDepth 100000
theorem TD.mix57 : MixT Try.prog 57 [.i64, .i64, .u64] := ⟨by kernel_rfl, by kernel_rfl, by kernel_rfl, by kernel_rfl⟩
theorem sameE_ok (l : List Ent) (hl : l.length ≤ 1000000) : AC Try.prog 16 [entsA l, entsA l] [] (fun r n => n = [] ∧ r = bA true) := by
 refine ac_of_awp (rs := [4]) (nt := 26) Try.func16 rfl rfl rfl rfl (fun w0 C0 hq => ?_)
 refine awp_seq ?_
 refine awp_region ?_
 refine r_assign rfl rfl ?_
 refine awl_nil ?_
 refine x_then ?_
 refine awp_seq ?_
 refine awp_seq ?_
 refine awp_region ?_
 refine r_move rfl rfl ?_
 first | (refine r_lenS rfl rfl TD.sl52 rfl ?_) | (refine r_lenNil rfl TD.sl52 rfl ?_) | (refine r_lenV rfl TD.sl52 rfl ?_)
 refine r_move rfl rfl ?_
 first | (refine r_lenS rfl rfl TD.sl52 rfl ?_) | (refine r_lenNil rfl TD.sl52 rfl ?_) | (refine r_lenV rfl TD.sl52 rfl ?_)
 refine r_cmp rfl rfl rfl rfl ?_
 refine awl_nil ?_
 refine x_then ?_
 refine awp_cond rfl (fun hc0 => ?_) (fun hc0 => ?_)
 ·
  exfalso; simp at hc0
 ·
  refine awp_skip ?_
  refine x_then ?_
  refine awp_seq ?_
  refine awp_seq ?_
  refine awp_region ?_
  refine r_move rfl rfl ?_
  first | (refine r_lenS rfl rfl TD.sl52 rfl ?_) | (refine r_lenNil rfl TD.sl52 rfl ?_) | (refine r_lenV rfl TD.sl52 rfl ?_)
  refine r_move rfl rfl ?_
  refine awl_nil ?_
  refine x_then ?_
  refine awp_block ?_
  refine awp_loop (fun nn0 S => ∃ k : Nat, S = ⟨26, [(0, .a (entsA l)), (1, .a (entsA l)), (12, .a (.v (.int .i64 ((l.map Ent.cs).length)))), (13, .a (.v (.int .i64 ((k : Int)))))], []⟩ ∧ nn0 = l.length - k ∧ (k ≤ l.length)) (l.length - (0)) ⟨26, [(0, .a (entsA l)), (1, .a (entsA l)), (12, .a (.v (.int .i64 ((l.map Ent.cs).length)))), (13, .a (.v (.int .i64 (((0) : Int)))))], []⟩ ⟨rfl, (Slots.cons rfl (by first | exact .refl _ | exact .nilOwn _ _ | exact .nilSl _ | exact .ownSl _ _ _  | exact SV.le.of_eq (by simp)) (Slots.cons rfl (by first | exact .refl _ | exact .nilOwn _ _ | exact .nilSl _ | exact .ownSl _ _ _  | exact SV.le.of_eq (by simp)) (Slots.cons rfl (by first | exact .refl _ | exact .nilOwn _ _ | exact .nilSl _ | exact .ownSl _ _ _  | exact SV.le.of_eq (by simp)) (Slots.cons rfl (by first | exact .refl _ | exact .nilOwn _ _ | exact .nilSl _ | exact .ownSl _ _ _  | exact SV.le.of_eq (by simp)) Slots.nil)))), (by first | exact List.Sublist.refl _ | exact .cons_cons _ (.cons _ (.refl _)) | exact List.nil_sublist _ | exact .cons _ (.refl _) | exact .cons _ (.cons _ (.refl _)) | exact .cons _ (.cons _ (.cons _ (.refl _))) | exact .cons _ (.cons _ (.cons _ (.cons _ (.refl _)))) | exact .cons_cons _ (List.nil_sublist _))⟩ ⟨0, rfl, rfl, Nat.zero_le _⟩ ?_
  rintro nn0 _ ⟨k, rfl, rfl, hk⟩
  refine awp_seq ?_
  refine awp_region ?_
  refine r_cmp rfl rfl rfl rfl ?_
  refine awl_nil ?_
  refine x_then ?_
  refine awp_seq ?_
  refine awp_cond rfl (fun hc1 => ?_) (fun hc1 => ?_)
  ·
   have hltx : k < l.length := by have := of_decide_eq_true hc1; simpa using this
   obtain ⟨x, hx⟩ := get_lt hltx
   refine awp_skip ?_
   refine x_then ?_
   refine awp_seq ?_
   refine awp_block ?_
   refine awp_seq ?_
   refine awp_region ?_
   refine r_move rfl rfl ?_
   refine r_assign rfl rfl ?_
   refine awl_nil ?_
   refine x_then ?_
   refine awp_seq ?_
   refine awp_drawS [16, 17, 18, 19, 20, 21, 22, 23] [_, _, _, _, _, _, _, _] [] [] TD.mixed rfl rfl rfl ⟨⟨⟨⟨⟨⟨⟨⟨trivial
    , ⟨_, rfl, fun sl hd hr ho => by
      refine r_move (hr 0 _ rfl rfl rfl) rfl ?_
      exact awl_nil ⟨rfl, post_put⟩⟩⟩
    , ⟨_, rfl, fun sl hd hr ho => by
      refine r_move (hr 5 _ rfl rfl rfl) rfl ?_
      exact awl_nil ⟨rfl, post_put⟩⟩⟩
    , ⟨_, rfl, fun sl hd hr ho => by
      refine r_index (hd 0 _ rfl rfl rfl) rfl (hd 1 _ rfl rfl rfl) TD.sl52 TD.sz57 (by omega) (get_map hx) rfl ?_
      exact awl_nil ⟨rfl, post_put⟩⟩⟩
    , ⟨_, rfl, fun sl hd hr ho => by
      refine r_loadA (hd 2 _ rfl rfl rfl) TD.agg57 TD.sz57 rfl rfl ?_
      exact awl_nil ⟨rfl, post_put⟩⟩⟩
    , ⟨_, rfl, fun sl hd hr ho => by
      refine r_move (hr 1 _ rfl rfl rfl) rfl ?_
      exact awl_nil ⟨rfl, post_put⟩⟩⟩
    , ⟨_, rfl, fun sl hd hr ho => by
      refine r_move (hr 5 _ rfl rfl rfl) rfl ?_
      exact awl_nil ⟨rfl, post_put⟩⟩⟩
    , ⟨_, rfl, fun sl hd hr ho => by
      refine r_index (hd 4 _ rfl rfl rfl) rfl (hd 5 _ rfl rfl rfl) TD.sl52 TD.sz57 (by omega) (get_map hx) rfl ?_
      exact awl_nil ⟨rfl, post_put⟩⟩⟩
    , ⟨_, rfl, fun sl hd hr ho => by
      refine r_loadA (hd 6 _ rfl rfl rfl) TD.agg57 TD.sz57 rfl rfl ?_
      exact awl_nil ⟨rfl, post_put⟩⟩⟩
    (by rfl) ?_
   refine r_sne (us := (Ent.ns x)) (vs := (Ent.ns x)) rfl rfl TD.mix57 (isVal_cells rfl) (isVal_cells rfl) rfl rfl rfl ?_
   refine awl_nil ?_
   refine x_then ?_
   refine awp_cond rfl (fun hc2 => ?_) (fun hc2 => ?_)
   ·
    exfalso; simp at hc2
   ·
    refine awp_skip ?_
    refine x_block ?_
    refine x_then ?_
    refine awp_region ?_
    refine r_ari _ rfl rfl rfl (wrap_id (by first | omega | (simp; omega))) rfl ?_
    refine r_move rfl rfl ?_
    refine awl_nil ?_
    refine x_then ?_
    refine ⟨l.length - (k + 1), ⟨26, [(0, .a (entsA l)), (1, .a (entsA l)), (12, .a (.v (.int .i64 ((l.map Ent.cs).length)))), (13, .a (.v (.int .i64 (((k + 1) : Int)))))], []⟩, ⟨rfl, (Slots.cons rfl (by first | exact .refl _ | exact .nilOwn _ _ | exact .nilSl _ | exact .ownSl _ _ _  | exact SV.le.of_eq (by simp)) (Slots.cons rfl (by first | exact .refl _ | exact .nilOwn _ _ | exact .nilSl _ | exact .ownSl _ _ _  | exact SV.le.of_eq (by simp)) (Slots.cons rfl (by first | exact .refl _ | exact .nilOwn _ _ | exact .nilSl _ | exact .ownSl _ _ _  | exact SV.le.of_eq (by simp)) (Slots.cons rfl (by first | exact .refl _ | exact .nilOwn _ _ | exact .nilSl _ | exact .ownSl _ _ _  | exact SV.le.of_eq (by simp)) Slots.nil)))), (by first | exact List.Sublist.refl _ | exact .cons_cons _ (.cons _ (.refl _)) | exact List.nil_sublist _ | exact .cons _ (.refl _) | exact .cons _ (.cons _ (.refl _)) | exact .cons _ (.cons _ (.cons _ (.refl _))) | exact .cons _ (.cons _ (.cons _ (.cons _ (.refl _)))) | exact .cons_cons _ (List.nil_sublist _))⟩, (by omega), ⟨k + 1, rfl, rfl, (by omega)⟩⟩
  ·
   refine awp_exit ?_
   refine x_thenE ?_
   refine x_thenE ?_
   refine x_blockE ?_
   refine x_then ?_
   refine awp_seq ?_
   refine awp_region ?_
   refine r_assign rfl rfl ?_
   refine awl_nil ?_
   refine x_then ?_
   refine awp_ret ?_
   exact ⟨(.inl rfl), _, [], (.one (by first | exact .mk rfl rfl | exact .nil rfl)), ⟨rfl, rfl⟩, (List.nil_sublist _), (by simp)⟩
end Go.Proofs.Ytpkodkoooaldlaa.A
namespace Go.Proofs.Ytpkodkoooaldlaa.A
open Go Go.RowKit
set_option linter.unusedVariables false
set_option linter.unusedSimpArgs false
theorem clean_view {x : List It} {L : List St} {m n : Nat} (h0 : ∀ vol blk v, numV x L vol blk = some v → v ≠ 0) : cleanF (allV x L m n) = allV x L m n := by
  unfold cleanF
  rw [fm_sorted (Q := gridP m n) (places_sorted _) (grid_sorted m n) (fun p hp => ?_), grid_fm, allV_allG]
  · refine allG_congr (fun vol blk h1 h2 => ?_)
    unfold cleanAt
    rw [← allV_allG, allV_shows x L h1 h2]
    unfold entV
    cases hv : numV x L vol blk with
    | none => rfl
    | some v => exact if_neg (h0 _ _ v hv)
  · rw [places_mem]
    constructor
    · rintro ⟨l, hl, e, he, rfl⟩
      simp at hl; subst hl; exact allV_place he
    · intro _
      unfold cleanAt at hp
      by_cases h1 : ∃ e ∈ allV x L m n, e.pl = p
      · exact ⟨_, by simp, h1⟩
      · rw [shows_zero h1] at hp; simp at hp
theorem undone {x : List It} {L K : List St} (hs : Srt x) (h1 : ∀ z ∈ x, 1 ≤ z.1.nu) {m n : Nat} : ∃ l', applyF (allV x L m n) (entriesF (allV x L m n) (allV x K m n)) = some l' ∧ cleanF l' = allV x K m n := by
  obtain ⟨l', h2, h3⟩ := apply_entries (allV x L m n) (allV x L m n) (allV x K m n) (fun _ => rfl)
  exact ⟨l', h2, (clean_ext h3).trans (clean_view (fun vol blk v hv => by obtain ⟨z, hz, e⟩ := numV_num hs hv; have := h1 z hz; omega))⟩
end Go.Proofs.Ytpkodkoooaldlaa.A
namespace Go.Proofs.Ytpkodkoooaldlaa.A
open Go Go.RowKit
set_option linter.unusedVariables false
set_option linter.unusedSimpArgs false
set_option maxRecDepth 100000
theorem TW.en28 : entersT Try.prog 28 := enters_of Try.func28 (by kernel_rfl) (by kernel_rfl)
theorem TW.zero52 : ZeroT Try.prog 52 [.v (.slice none 0 0)] := ⟨[(.slice none 0 0)], by kernel_rfl, (LeCells.refl _)⟩
theorem TW.en14 : entersT Try.prog 14 := enters_of Try.func14 (by kernel_rfl) (by kernel_rfl)
theorem TW.zero57 : ZeroT Try.prog 57 [.v (.int .i64 0), .v (.int .i64 0), .v (.int .u64 0)] := ⟨[(.int .i64 0), (.int .i64 0), (.int .u64 0)], by kernel_rfl, (LeCells.refl _)⟩
theorem TW.sz57 : szT Try.prog 57 = some 3 := by kernel_rfl
theorem TW.agg52 : aggT Try.prog 52 = some false := by kernel_rfl
theorem TW.agg57 : aggT Try.prog 57 = some true := by kernel_rfl
theorem TW.sl52 : sliceT Try.prog 52 = some 57 := by kernel_rfl
theorem TW.zraw57 : zeroT Try.prog 57 = some [(.int .i64 0), (.int .i64 0), (.int .u64 0)] := by kernel_rfl
theorem TW.by57 : bytesT Try.prog 57 = some 24 := by kernel_rfl
theorem TW.zlen57 : (zeroT Try.prog 57).map (·.length) = some 3 := by kernel_rfl
theorem TW.sz52 : szT Try.prog 52 = some 1 := by kernel_rfl
theorem TW.en15 : entersT Try.prog 15 := enters_of Try.func15 (by kernel_rfl) (by kernel_rfl)
theorem TW.en16 : entersT Try.prog 16 := enters_of Try.func16 (by kernel_rfl) (by kernel_rfl)
set_option maxHeartbeats 2000000 in
theorem restores_walk (l : List FA) (hok : ∀ a ∈ l, a.ok) (u w : Nat) (hu : u < 256) (hw : w < 256) : AC Try.prog 6 [.sl 5 (l.map FA.cs), .v (.int .u8 (u : Int)), .v (.int .u8 (w : Int))] [] (fun r n => n = [] ∧ r = boolA true) := by
 refine ac_of_awp (rs := [6]) (nt := 92) Try.func6 rfl rfl rfl rfl (fun w0 C0 hq => ?_)
 refine awp_seq ?_
 refine awp_region ?_
 refine r_assign rfl rfl ?_
 refine awl_nil ?_
 refine x_then ?_
 refine awp_seq ?_
 refine awp_seq ?_
 refine awp_region ?_
 refine r_call0 hq rfl rfl .nil (awake_ok) rfl TW.en7 rfl (fun r hr => ?_)
 obtain rfl := hr
 refine r_not rfl rfl ?_
 refine awl_nil ?_
 refine x_then ?_
 refine awp_cond rfl (fun hc0 => ?_) (fun hc0 => ?_)
 ·
  exfalso; exact absurd hc0 (by decide)
 ·
  refine awp_skip ?_
  refine x_then ?_
  refine awp_seq ?_
  refine awp_seq ?_
  refine awp_region ?_
  refine r_move rfl rfl ?_
  first | (refine r_lenS rfl rfl TW.sl22 rfl ?_) | (refine r_lenNil rfl TW.sl22 rfl ?_) | (refine r_lenV rfl TW.sl22 rfl ?_)
  refine r_cmp rfl rfl rfl rfl ?_
  refine awl_nil ?_
  refine x_then ?_
  refine awp_cond rfl (fun hc1 => ?_) (fun hc1 => ?_)
  ·
   refine awp_seq ?_
   refine awp_region ?_
   refine r_assign rfl rfl ?_
   refine awl_nil ?_
   refine x_then ?_
   refine awp_ret ?_
   refine x_thenR ?_
   exact ⟨(.inl rfl), _, [], (.one (by first | exact .mk rfl rfl | exact .nil rfl)), ⟨rfl, rfl⟩, (List.nil_sublist _), (by simp)⟩
  ·
   have hl_l : l.length ≤ 40 := by have := of_decide_eq_false hc1; simp at this; omega
   refine awp_skip ?_
   refine x_then ?_
   refine awp_seq ?_
   refine awp_region ?_
   refine r_move rfl rfl ?_
   refine r_callO hq rfl rfl (.cons (.ev rfl rfl) .nil) (laid_ok l hok (by omega)) rfl TW.en8 (List.nil_sublist _) rfl (fun r nobjs hr => ?_)
   obtain ⟨g, gf, t0, X, F, rfl, rfl, hL⟩ := hr
   obtain ⟨⟨rt, nn⟩, rfl⟩ := hL.idx.so
   have hXs := hL.idx.good.st
   have hG := hL.idx.good
   refine r_move rfl rfl ?_
   refine r_extract rfl rfl rfl ?_
   refine r_extract rfl rfl rfl ?_
   refine r_assign rfl rfl ?_
   refine r_assign rfl rfl ?_
   refine awl_nil ?_
   refine x_then ?_
   refine awp_seq ?_
   refine awp_region ?_
   refine r_move rfl rfl ?_
   refine r_conv ((u : Nat) : Int) rfl TW.un5 TW.un3 (wrap_id (by omega)) rfl ?_
   refine r_div ((u % 3 : Nat) : Int) rfl rfl (rem_some (by omega)) (by rw [Int.tmod_eq_emod_of_nonneg (by omega)]; omega) rfl ?_
   refine r_move rfl rfl ?_
   first | (refine r_lenS rfl rfl TW.sl22 rfl ?_) | (refine r_lenNil rfl TW.sl22 rfl ?_) | (refine r_lenV rfl TW.sl22 rfl ?_)
   refine r_conv (l.length : Int) rfl TW.un3 TW.un31 (by rw [List.length_map]; exact wrap_u64 (by omega)) rfl ?_
   refine r_assign rfl rfl ?_
   refine r_assign rfl rfl ?_
   refine awl_nil ?_
   refine x_then ?_
   refine awp_seq ?_
   refine awp_region ?_
   refine r_move rfl rfl ?_
   refine r_move rfl rfl ?_
   refine r_move rfl rfl ?_
   refine r_move rfl rfl ?_
   refine r_callO hq rfl rfl (.cons (.ev rfl rfl) (.cons (.ev rfl rfl) (.cons (.ev rfl rfl) (.cons (.ev rfl rfl) .nil)))) (viewNew_ok' (rt, nn) F hL.fo (u % 3) (by omega) (l.length : Int) g gf true true) rfl TW.en9 (.cons_cons _ (.cons_cons _ (List.nil_sublist _))) rfl (fun r nobjs hr => ?_)
   obtain ⟨rfl, hr⟩ := hr
   rcases hr with ⟨hok1, rfl⟩ | ⟨hok1, rfl⟩
   ·
    refine r_move rfl rfl ?_
    refine r_extract rfl rfl rfl ?_
    refine r_extract rfl rfl rfl ?_
    refine r_alloc TW.zero33 rfl (fun b11 => ?_)
    first | (refine r_store 0 rfl rfl rfl TW.sz33 rfl rfl rfl ?_) | (refine r_store 1 rfl rfl rfl TW.sz33 rfl rfl rfl ?_) | (refine r_store 2 rfl rfl rfl TW.sz33 rfl rfl rfl ?_)
    refine r_assign rfl rfl ?_
    refine awl_nil ?_
    refine x_then ?_
    refine awp_seq ?_
    refine awp_region ?_
    refine r_move rfl rfl ?_
    refine r_move rfl rfl ?_
    refine r_move rfl rfl ?_
    refine r_move rfl rfl ?_
    refine r_conv ((w : Nat) : Int) rfl TW.un5 TW.un31 (wrap_u64 (by omega)) rfl ?_
    refine r_move rfl rfl ?_
    refine r_ari ((l.length + 1 : Nat) : Int) rfl rfl rfl (by rw [wrap_u64 (by omega)]; omega) rfl ?_
    refine r_div ((w % (l.length + 1) : Nat) : Int) rfl rfl (rem_some (by omega)) (by rw [Int.tmod_eq_emod_of_nonneg (by omega)]; rfl) rfl ?_
    refine r_callO hq rfl rfl (.cons (.ev rfl rfl) (.cons (.ev rfl rfl) (.cons (.ev rfl rfl) (.cons (.ev rfl rfl) .nil)))) (viewNew_ok' (rt, nn) F hL.fo (u % 3) (by omega) ((w % (l.length + 1) : Nat) : Int) g gf true true) rfl TW.en9 (.cons _ (.cons_cons _ (.cons_cons _ (List.nil_sublist _)))) rfl (fun r nobjs hr => ?_)
    obtain ⟨rfl, hr⟩ := hr
    rcases hr with ⟨hok2, rfl⟩ | ⟨hok2, rfl⟩
    ·
     obtain ⟨L1, hL1⟩ : ∃ L, L = lineF F (u % 3) (l.length : Int) := ⟨_, rfl⟩
     obtain ⟨L2, hL2⟩ : ∃ L, L = lineF F (u % 3) ((w % (l.length + 1) : Nat) : Int) := ⟨_, rfl⟩
     rw [← hL1, ← hL2]
     have hl1 : L1.length ≤ 1000 := by rw [hL1]; exact lineF_len _ _ _
     have hl2 : L2.length ≤ 1000 := by rw [hL2]; exact lineF_len _ _ _
     have hs1 : (allV X L1 2 5).length ≤ 10 := Nat.le_trans (allV_len _ _ _ _) (by decide)
     have hs2 : (allV X L2 2 5).length ≤ 10 := Nat.le_trans (allV_len _ _ _ _) (by decide)
     obtain ⟨l', hap, hcl⟩ := undone (L := L1) (K := L2) (m := 2) (n := 5) hXs (fun z hz => (hL.nums z hz).1)
     refine r_move rfl rfl ?_
     refine r_extract rfl rfl rfl ?_
     refine r_extract rfl rfl rfl ?_
     refine r_alloc TW.zero33 rfl (fun b13 => ?_)
     first | (refine r_store 0 rfl rfl rfl TW.sz33 rfl rfl rfl ?_) | (refine r_store 1 rfl rfl rfl TW.sz33 rfl rfl rfl ?_) | (refine r_store 2 rfl rfl rfl TW.sz33 rfl rfl rfl ?_) | (refine r_store 3 rfl rfl rfl TW.sz33 rfl rfl rfl ?_)
     refine r_assign rfl rfl ?_
     refine awl_nil ?_
     refine x_then ?_
     refine awp_cut (fun S => ∃ L1 : List St, ∃ L2 : List St, S = ⟨92, [(11, .a (.v (.pointer (some ⟨b11, 0, none⟩)))), (13, .a (.v (.pointer (some ⟨b13, 0, none⟩))))], [⟨b13, true, .box [encT (some (rt, nn)), .sl 3 (L2.map St.cs), .v (.int .u64 (((w % (l.length + 1) : Nat) : Int)))]⟩, ⟨b11, true, .box [encT (some (rt, nn)), .sl 3 (L1.map St.cs), .v (.int .u64 ((l.length : Int)))]⟩]⟩ ∧ (L1 = lineF F (u % 3) (l.length : Int)) ∧ (L2 = lineF F (u % 3) ((w % (l.length + 1) : Nat) : Int))) ?_ ?_
     ·
      refine awp_seq ?_
      refine awp_region ?_
      refine r_move rfl rfl ?_
      refine r_cmp rfl rfl rfl rfl ?_
      refine r_move rfl rfl ?_
      refine g_run rfl rfl rfl ?_
      refine r_move rfl rfl ?_
      refine g_run rfl rfl rfl ?_
      refine r_cmp rfl rfl rfl rfl ?_
      refine r_pickF rfl rfl rfl rfl ?_
      refine awl_nil ?_
      refine x_then ?_
      refine awp_cond rfl (fun hc2 => ?_) (fun hc2 => ?_)
      ·
       exfalso; exact absurd hc2 (by decide)
      ·
       refine awp_skip ?_
       refine x_then ?_
       refine ⟨⟨92, [(11, .a (.v (.pointer (some ⟨b11, 0, none⟩)))), (13, .a (.v (.pointer (some ⟨b13, 0, none⟩))))], [⟨b13, true, .box [encT (some (rt, nn)), .sl 3 ((L2).map St.cs), .v (.int .u64 (((w % (l.length + 1) : Nat) : Int)))]⟩, ⟨b11, true, .box [encT (some (rt, nn)), .sl 3 ((L1).map St.cs), .v (.int .u64 ((l.length : Int)))]⟩]⟩, ⟨rfl, (Slots.cons rfl (by first | exact .refl _ | exact .nilOwn _ _ | exact .nilSl _ | exact .ownSl _ _ _  | exact SV.le.of_eq (by simp)) (Slots.cons rfl (by first | exact .refl _ | exact .nilOwn _ _ | exact .nilSl _ | exact .ownSl _ _ _  | exact SV.le.of_eq (by simp)) Slots.nil)), (.cons_cons _ (.cons_cons _ (List.nil_sublist _)))⟩, ⟨L1, L2, rfl, hL1, hL2⟩⟩
     ·
      rintro _ ⟨L1, L2, rfl, hL1, hL2⟩
      have hl1 : L1.length ≤ 1000 := by rw [hL1]; exact lineF_len _ _ _
      have hl2 : L2.length ≤ 1000 := by rw [hL2]; exact lineF_len _ _ _
      have hs1 : (allV X L1 2 5).length ≤ 10 := Nat.le_trans (allV_len _ _ _ _) (by decide)
      have hs2 : (allV X L2 2 5).length ≤ 10 := Nat.le_trans (allV_len _ _ _ _) (by decide)
      obtain ⟨l', hap, hcl⟩ := undone (L := L1) (K := L2) (m := 2) (n := 5) hXs (fun z hz => (hL.nums z hz).1)
      refine awp_seq ?_
      refine awp_region ?_
      refine r_alloc TW.zero52 rfl (fun b15 => ?_)
      refine r_alloc TW.zero52 rfl (fun b16 => ?_)
      refine awl_nil ?_
      refine x_then ?_
      refine awp_seq ?_
      refine awp_seq ?_
      refine awp_region ?_
      refine r_loadAb 3 rfl rfl TW.agg33 TW.sz33 rfl rfl ?_
      refine r_call0 hq rfl rfl (.cons (.ev rfl rfl) (.cons (.ev rfl rfl) (.cons (.ev rfl rfl) .nil))) (viewAll_ok (some (rt, nn)) L1 (l.length : Int) 2 5 (by omega) (by omega)) rfl TW.en14 rfl (fun r hr => ?_)
      obtain rfl := hr
      refine awl_nil ?_
      refine x_then ?_
      refine awp_block ?_
      refine awp_rangeFuncS (fun pre wo => ∃ l : List Ent, pre = l.map eA ∧ GrowB b15 3 57 (l.map Ent.cs) wo) (fun _ _ _ => False) [(15, .a (.v (.pointer (some ⟨b15, 0, none⟩))))] [false, true] hq rfl (viewAll1_ok (some (rt, nn)) X hL.idx.good L1 hl1 (l.length : Int) 2 5 (by omega) (by omega)) TW.en28 (fun pre x ⟨e, _, _, h⟩ => by subst h; rfl) rfl rfl rfl (List.nil_sublist _) (Slots.cons rfl (by first | exact .refl _ | exact .nilOwn _ _ | exact .nilSl _ | exact .ownSl _ _ _  | exact SV.le.of_eq (by simp)) Slots.nil) rfl rfl ⟨[], rfl, .inl ⟨rfl, rfl⟩⟩ ?_ ?_ ?_
      ·
       intro lr pre x wo rec busy w0 C0 hq hj hax
       obtain ⟨l, rfl, hgb⟩ := hj
       obtain ⟨e, het, _, rfl⟩ := hax
       have hll : l.length < (allV X L1 2 5).length := by have := (List.getElem?_eq_some_iff.1 het).1; simpa using this
       have hal := hs1
       rcases hgb with ⟨h0, rfl⟩ | ⟨h0, g, cap, rfl⟩
       ·
        obtain rfl : l = [] := by simpa using h0
        refine awpi_region ?_
        refine awli_op (fun c h => (by cases h)) ?_
        refine r_alloc TW.zero57 rfl (fun b17 => ?_)
        refine awl_nil ⟨rfl, ?_⟩
        refine awli_op (fun c h => (by cases h)) ?_
        first | (refine r_store 0 rfl rfl rfl TW.sz57 rfl rfl rfl ?_) | (refine r_store 1 rfl rfl rfl TW.sz57 rfl rfl rfl ?_) | (refine r_store 2 rfl rfl rfl TW.sz57 rfl rfl rfl ?_) | (refine r_store 3 rfl rfl rfl TW.sz57 rfl rfl rfl ?_)
        refine awl_nil ⟨rfl, ?_⟩
        refine awli_nil ?_
        refine ⟨rfl, 2, rfl, ?_⟩
        refine awpi_block ?_
        refine awpi_region ?_
        refine awli_op (fun c h => (by cases h)) ?_
        first | (refine r_load1b 0 rfl rfl rfl TW.agg52 rfl ?_) | (refine r_load1 rfl TW.agg52 rfl ?_) | (refine r_load1b 1 rfl rfl rfl TW.agg52 rfl ?_) | (refine r_load1b 2 rfl rfl rfl TW.agg52 rfl ?_) | (refine r_load1b 3 rfl rfl rfl TW.agg52 rfl ?_)
        refine awl_nil ⟨rfl, ?_⟩
        refine awli_op (fun c h => (by cases h)) ?_
        first | (refine r_loadAb 0 rfl rfl TW.agg57 TW.sz57 rfl rfl ?_) | (refine r_loadA rfl TW.agg57 TW.sz57 rfl rfl ?_) | (refine r_loadAb 1 rfl rfl TW.agg57 TW.sz57 rfl rfl ?_) | (refine r_loadAb 2 rfl rfl TW.agg57 TW.sz57 rfl rfl ?_) | (refine r_loadAb 3 rfl rfl TW.agg57 TW.sz57 rfl rfl ?_)
        refine awl_nil ⟨rfl, ?_⟩
        refine awli_op (fun c h => (by cases h)) ?_
        refine r_lit 68 (parts := [(0, .tmp 67)]) rfl TW.sl52 TW.sz57 TW.zraw57 rfl rfl rfl rfl rfl rfl rfl ?_
        refine awl_nil ⟨rfl, ?_⟩
        refine awli_op (fun c h => (by cases h)) ?_
        refine r_appendBN rfl rfl (by first | exact .sl _ | exact .own _ _) (by simp [chunks]) TW.sl52 TW.sz57 TW.by57 TW.zlen57 (by simp [chunks] <;> omega) (by simp [chunks] <;> omega) rfl (fun gb gc => ?_)
        refine awl_nil ⟨rfl, ?_⟩
        refine awli_op (fun c h => (by cases h)) ?_
        first | (refine r_store 0 rfl rfl rfl TW.sz52 rfl rfl rfl ?_) | (refine r_store 1 rfl rfl rfl TW.sz52 rfl rfl rfl ?_) | (refine r_store 2 rfl rfl rfl TW.sz52 rfl rfl rfl ?_) | (refine r_store 3 rfl rfl rfl TW.sz52 rfl rfl rfl ?_) | (refine r_store 4 rfl rfl rfl TW.sz52 rfl rfl rfl ?_)
        refine awl_nil ⟨rfl, ?_⟩
        refine awli_nil ?_
        refine x_block ?_
        refine ⟨_, .inl ⟨rfl, [e], rfl, .inr ⟨by simp, gb, gc, rfl⟩⟩, ?_, by simp⟩
        first | exact List.Sublist.refl _ | exact .cons_cons _ (.cons _ (.refl _)) | exact List.nil_sublist _ | exact .cons _ (.refl _) | exact .cons _ (.cons _ (.refl _)) | exact .cons _ (.cons _ (.cons _ (.refl _))) | exact .cons _ (.cons _ (.cons _ (.cons _ (.refl _)))) | exact .cons_cons _ (List.nil_sublist _)
       ·
        refine awpi_region ?_
        refine awli_op (fun c h => (by cases h)) ?_
        refine r_alloc TW.zero57 rfl (fun b17 => ?_)
        refine awl_nil ⟨rfl, ?_⟩
        refine awli_op (fun c h => (by cases h)) ?_
        first | (refine r_store 0 rfl rfl rfl TW.sz57 rfl rfl rfl ?_) | (refine r_store 1 rfl rfl rfl TW.sz57 rfl rfl rfl ?_) | (refine r_store 2 rfl rfl rfl TW.sz57 rfl rfl rfl ?_) | (refine r_store 3 rfl rfl rfl TW.sz57 rfl rfl rfl ?_) | (refine r_store 4 rfl rfl rfl TW.sz57 rfl rfl rfl ?_)
        refine awl_nil ⟨rfl, ?_⟩
        refine awli_nil ?_
        refine ⟨rfl, 3, rfl, ?_⟩
        refine awpi_block ?_
        refine awpi_region ?_
        refine awli_op (fun c h => (by cases h)) ?_
        first | (refine r_load1b 0 rfl rfl rfl TW.agg52 rfl ?_) | (refine r_load1 rfl TW.agg52 rfl ?_) | (refine r_load1b 1 rfl rfl rfl TW.agg52 rfl ?_) | (refine r_load1b 2 rfl rfl rfl TW.agg52 rfl ?_) | (refine r_load1b 3 rfl rfl rfl TW.agg52 rfl ?_) | (refine r_load1b 4 rfl rfl rfl TW.agg52 rfl ?_)
        refine awl_nil ⟨rfl, ?_⟩
        refine awli_op (fun c h => (by cases h)) ?_
        first | (refine r_loadAb 0 rfl rfl TW.agg57 TW.sz57 rfl rfl ?_) | (refine r_loadA rfl TW.agg57 TW.sz57 rfl rfl ?_) | (refine r_loadAb 1 rfl rfl TW.agg57 TW.sz57 rfl rfl ?_) | (refine r_loadAb 2 rfl rfl TW.agg57 TW.sz57 rfl rfl ?_) | (refine r_loadAb 3 rfl rfl TW.agg57 TW.sz57 rfl rfl ?_) | (refine r_loadAb 4 rfl rfl TW.agg57 TW.sz57 rfl rfl ?_)
        refine awl_nil ⟨rfl, ?_⟩
        refine awli_op (fun c h => (by cases h)) ?_
        refine r_lit 68 (parts := [(0, .tmp 67)]) rfl TW.sl52 TW.sz57 TW.zraw57 rfl rfl rfl rfl rfl rfl rfl ?_
        refine awl_nil ⟨rfl, ?_⟩
        refine awli_op (fun c h => (by cases h)) ?_
        refine r_appendBG 1 rfl rfl rfl rfl (by first | exact .sl _ | exact .own _ _) (by simp [chunks]) TW.sl52 TW.sz57 TW.by57 TW.zlen57 (by simp [chunks] <;> omega) (by simp [chunks] <;> omega) rfl (fun gb gc => ?_)
        refine awl_nil ⟨rfl, ?_⟩
        refine awli_op (fun c h => (by cases h)) ?_
        first | (refine r_store 0 rfl rfl rfl TW.sz52 rfl rfl rfl ?_) | (refine r_store 1 rfl rfl rfl TW.sz52 rfl rfl rfl ?_) | (refine r_store 2 rfl rfl rfl TW.sz52 rfl rfl rfl ?_) | (refine r_store 3 rfl rfl rfl TW.sz52 rfl rfl rfl ?_) | (refine r_store 4 rfl rfl rfl TW.sz52 rfl rfl rfl ?_)
        refine awl_nil ⟨rfl, ?_⟩
        refine awli_nil ?_
        refine x_block ?_
        refine ⟨_, .inl ⟨rfl, l ++ [e], by simp, .inr ⟨by simp, gb, gc, rfl⟩⟩, ?_, by simp⟩
        simp only [List.map_append, List.map_cons, List.map_nil]
        first | exact List.Sublist.refl _ | exact .cons_cons _ (.cons _ (.refl _)) | exact List.nil_sublist _ | exact .cons _ (.refl _) | exact .cons _ (.cons _ (.refl _)) | exact .cons _ (.cons _ (.cons _ (.refl _))) | exact .cons _ (.cons _ (.cons _ (.cons _ (.refl _)))) | exact .cons_cons _ (List.nil_sublist _)
      ·
       intro xs wo' hG hJ
       obtain ⟨lq, rfl, hgb⟩ := hJ
       obtain rfl := eA_inj hG
       rcases hgb with ⟨h0, rfl⟩ | ⟨h0, g1, cap, rfl⟩
       ·
        have hP0 : ((allV X L1 2 5).map Ent.cs) = [] := h0
        refine x_block ?_
        refine x_then ?_
        refine awp_seq ?_
        refine awp_seq ?_
        refine awp_region ?_
        refine awl_imp (imp_boxLe (cs' := [.sl 3 ((allV X L1 2 5).map Ent.cs)]) 0 rfl (by rw [h0]; exact .cons (.nil 3) .nil)) ?_
        refine r_loadAb 2 rfl rfl TW.agg33 TW.sz33 rfl rfl ?_
        refine r_call0 hq rfl rfl (.cons (.ev rfl rfl) (.cons (.ev rfl rfl) (.cons (.ev rfl rfl) .nil))) (viewAll_ok (some (rt, nn)) L2 ((w % (l.length + 1) : Nat) : Int) 2 5 (by omega) (by omega)) rfl TW.en14 rfl (fun r hr => ?_)
        obtain rfl := hr
        refine awl_nil ?_
        refine x_then ?_
        refine awp_block ?_
        refine awp_rangeFuncS (fun pre wo => ∃ l : List Ent, pre = l.map eA ∧ GrowB b16 3 57 (l.map Ent.cs) wo) (fun _ _ _ => False) [(16, .a (.v (.pointer (some ⟨b16, 0, none⟩))))] [false, true] hq rfl (viewAll1_ok (some (rt, nn)) X hL.idx.good L2 hl2 ((w % (l.length + 1) : Nat) : Int) 2 5 (by omega) (by omega)) TW.en28 (fun pre x ⟨e, _, _, h⟩ => by subst h; rfl) rfl rfl rfl (List.nil_sublist _) (Slots.cons rfl (by first | exact .refl _ | exact .nilOwn _ _ | exact .nilSl _ | exact .ownSl _ _ _  | exact SV.le.of_eq (by simp)) Slots.nil) rfl rfl ⟨[], rfl, .inl ⟨rfl, rfl⟩⟩ ?_ ?_ ?_
        ·
         intro lr pre x wo rec busy w0 C0 hq hj hax
         obtain ⟨l, rfl, hgb⟩ := hj
         obtain ⟨e, het, _, rfl⟩ := hax
         have hll : l.length < (allV X L2 2 5).length := by have := (List.getElem?_eq_some_iff.1 het).1; simpa using this
         have hal := hs2
         rcases hgb with ⟨h0, rfl⟩ | ⟨h0, g, cap, rfl⟩
         ·
          obtain rfl : l = [] := by simpa using h0
          refine awpi_region ?_
          refine awli_op (fun c h => (by cases h)) ?_
          refine r_alloc TW.zero57 rfl (fun b18 => ?_)
          refine awl_nil ⟨rfl, ?_⟩
          refine awli_op (fun c h => (by cases h)) ?_
          first | (refine r_store 0 rfl rfl rfl TW.sz57 rfl rfl rfl ?_) | (refine r_store 1 rfl rfl rfl TW.sz57 rfl rfl rfl ?_) | (refine r_store 2 rfl rfl rfl TW.sz57 rfl rfl rfl ?_) | (refine r_store 3 rfl rfl rfl TW.sz57 rfl rfl rfl ?_)
          refine awl_nil ⟨rfl, ?_⟩
          refine awli_nil ?_
          refine ⟨rfl, 2, rfl, ?_⟩
          refine awpi_block ?_
          refine awpi_region ?_
          refine awli_op (fun c h => (by cases h)) ?_
          first | (refine r_load1b 0 rfl rfl rfl TW.agg52 rfl ?_) | (refine r_load1 rfl TW.agg52 rfl ?_) | (refine r_load1b 1 rfl rfl rfl TW.agg52 rfl ?_) | (refine r_load1b 2 rfl rfl rfl TW.agg52 rfl ?_) | (refine r_load1b 3 rfl rfl rfl TW.agg52 rfl ?_)
          refine awl_nil ⟨rfl, ?_⟩
          refine awli_op (fun c h => (by cases h)) ?_
          first | (refine r_loadAb 0 rfl rfl TW.agg57 TW.sz57 rfl rfl ?_) | (refine r_loadA rfl TW.agg57 TW.sz57 rfl rfl ?_) | (refine r_loadAb 1 rfl rfl TW.agg57 TW.sz57 rfl rfl ?_) | (refine r_loadAb 2 rfl rfl TW.agg57 TW.sz57 rfl rfl ?_) | (refine r_loadAb 3 rfl rfl TW.agg57 TW.sz57 rfl rfl ?_)
          refine awl_nil ⟨rfl, ?_⟩
          refine awli_op (fun c h => (by cases h)) ?_
          refine r_lit 75 (parts := [(0, .tmp 74)]) rfl TW.sl52 TW.sz57 TW.zraw57 rfl rfl rfl rfl rfl rfl rfl ?_
          refine awl_nil ⟨rfl, ?_⟩
          refine awli_op (fun c h => (by cases h)) ?_
          refine r_appendBN rfl rfl (by first | exact .sl _ | exact .own _ _) (by simp [chunks]) TW.sl52 TW.sz57 TW.by57 TW.zlen57 (by simp [chunks] <;> omega) (by simp [chunks] <;> omega) rfl (fun gb gc => ?_)
          refine awl_nil ⟨rfl, ?_⟩
          refine awli_op (fun c h => (by cases h)) ?_
          first | (refine r_store 0 rfl rfl rfl TW.sz52 rfl rfl rfl ?_) | (refine r_store 1 rfl rfl rfl TW.sz52 rfl rfl rfl ?_) | (refine r_store 2 rfl rfl rfl TW.sz52 rfl rfl rfl ?_) | (refine r_store 3 rfl rfl rfl TW.sz52 rfl rfl rfl ?_) | (refine r_store 4 rfl rfl rfl TW.sz52 rfl rfl rfl ?_)
          refine awl_nil ⟨rfl, ?_⟩
          refine awli_nil ?_
          refine x_block ?_
          refine ⟨_, .inl ⟨rfl, [e], rfl, .inr ⟨by simp, gb, gc, rfl⟩⟩, ?_, by simp⟩
          first | exact List.Sublist.refl _ | exact .cons_cons _ (.cons _ (.refl _)) | exact List.nil_sublist _ | exact .cons _ (.refl _) | exact .cons _ (.cons _ (.refl _)) | exact .cons _ (.cons _ (.cons _ (.refl _))) | exact .cons _ (.cons _ (.cons _ (.cons _ (.refl _)))) | exact .cons_cons _ (List.nil_sublist _)
         ·
          refine awpi_region ?_
          refine awli_op (fun c h => (by cases h)) ?_
          refine r_alloc TW.zero57 rfl (fun b18 => ?_)
          refine awl_nil ⟨rfl, ?_⟩
          refine awli_op (fun c h => (by cases h)) ?_
          first | (refine r_store 0 rfl rfl rfl TW.sz57 rfl rfl rfl ?_) | (refine r_store 1 rfl rfl rfl TW.sz57 rfl rfl rfl ?_) | (refine r_store 2 rfl rfl rfl TW.sz57 rfl rfl rfl ?_) | (refine r_store 3 rfl rfl rfl TW.sz57 rfl rfl rfl ?_) | (refine r_store 4 rfl rfl rfl TW.sz57 rfl rfl rfl ?_)
          refine awl_nil ⟨rfl, ?_⟩
          refine awli_nil ?_
          refine ⟨rfl, 3, rfl, ?_⟩
          refine awpi_block ?_
          refine awpi_region ?_
          refine awli_op (fun c h => (by cases h)) ?_
          first | (refine r_load1b 0 rfl rfl rfl TW.agg52 rfl ?_) | (refine r_load1 rfl TW.agg52 rfl ?_) | (refine r_load1b 1 rfl rfl rfl TW.agg52 rfl ?_) | (refine r_load1b 2 rfl rfl rfl TW.agg52 rfl ?_) | (refine r_load1b 3 rfl rfl rfl TW.agg52 rfl ?_) | (refine r_load1b 4 rfl rfl rfl TW.agg52 rfl ?_)
          refine awl_nil ⟨rfl, ?_⟩
          refine awli_op (fun c h => (by cases h)) ?_
          first | (refine r_loadAb 0 rfl rfl TW.agg57 TW.sz57 rfl rfl ?_) | (refine r_loadA rfl TW.agg57 TW.sz57 rfl rfl ?_) | (refine r_loadAb 1 rfl rfl TW.agg57 TW.sz57 rfl rfl ?_) | (refine r_loadAb 2 rfl rfl TW.agg57 TW.sz57 rfl rfl ?_) | (refine r_loadAb 3 rfl rfl TW.agg57 TW.sz57 rfl rfl ?_) | (refine r_loadAb 4 rfl rfl TW.agg57 TW.sz57 rfl rfl ?_)
          refine awl_nil ⟨rfl, ?_⟩
          refine awli_op (fun c h => (by cases h)) ?_
          refine r_lit 75 (parts := [(0, .tmp 74)]) rfl TW.sl52 TW.sz57 TW.zraw57 rfl rfl rfl rfl rfl rfl rfl ?_
          refine awl_nil ⟨rfl, ?_⟩
          refine awli_op (fun c h => (by cases h)) ?_
          refine r_appendBG 1 rfl rfl rfl rfl (by first | exact .sl _ | exact .own _ _) (by simp [chunks]) TW.sl52 TW.sz57 TW.by57 TW.zlen57 (by simp [chunks] <;> omega) (by simp [chunks] <;> omega) rfl (fun gb gc => ?_)
          refine awl_nil ⟨rfl, ?_⟩
          refine awli_op (fun c h => (by cases h)) ?_
          first | (refine r_store 0 rfl rfl rfl TW.sz52 rfl rfl rfl ?_) | (refine r_store 1 rfl rfl rfl TW.sz52 rfl rfl rfl ?_) | (refine r_store 2 rfl rfl rfl TW.sz52 rfl rfl rfl ?_) | (refine r_store 3 rfl rfl rfl TW.sz52 rfl rfl rfl ?_) | (refine r_store 4 rfl rfl rfl TW.sz52 rfl rfl rfl ?_)
          refine awl_nil ⟨rfl, ?_⟩
          refine awli_nil ?_
          refine x_block ?_
          refine ⟨_, .inl ⟨rfl, l ++ [e], by simp, .inr ⟨by simp, gb, gc, rfl⟩⟩, ?_, by simp⟩
          simp only [List.map_append, List.map_cons, List.map_nil]
          first | exact List.Sublist.refl _ | exact .cons_cons _ (.cons _ (.refl _)) | exact List.nil_sublist _ | exact .cons _ (.refl _) | exact .cons _ (.cons _ (.refl _)) | exact .cons _ (.cons _ (.cons _ (.refl _))) | exact .cons _ (.cons _ (.cons _ (.cons _ (.refl _)))) | exact .cons_cons _ (List.nil_sublist _)
        ·
         intro xs wo' hG hJ
         obtain ⟨lq, rfl, hgb⟩ := hJ
         obtain rfl := eA_inj hG
         rcases hgb with ⟨h0, rfl⟩ | ⟨h0, g1, cap, rfl⟩
         ·
          refine x_block ?_
          refine x_then ?_
          refine awp_seq ?_
          refine awp_imp (imp_boxLe (cs' := [.sl 3 ((allV X L2 2 5).map Ent.cs)]) 0 rfl (by rw [h0]; exact .cons (.nil 3) .nil)) ?_
          refine awp_drawS [78, 79, 80, 81, 82, 77, 83, 84, 19] [_, _, _, _, _, _, _, _, _] [] [] TW.mixed rfl rfl rfl ⟨⟨⟨⟨⟨⟨⟨⟨⟨trivial
           , ⟨_, rfl, fun sl hd hr ho => by
             refine r_load1b 1 (hr 15 _ rfl rfl rfl) rfl rfl TW.agg52 rfl ?_
             exact awl_nil ⟨rfl, post_put⟩⟩⟩
           , ⟨_, rfl, fun sl hd hr ho => by
             refine r_loadAb 3 (hr 11 _ rfl rfl rfl) rfl TW.agg33 TW.sz33 rfl rfl ?_
             exact awl_nil ⟨rfl, post_put⟩⟩⟩
           , ⟨_, rfl, fun sl hd hr ho => by
             refine r_loadAb 2 (hr 13 _ rfl rfl rfl) rfl TW.agg33 TW.sz33 rfl rfl ?_
             exact awl_nil ⟨rfl, post_put⟩⟩⟩
           , ⟨_, rfl, fun sl hd hr ho => by
             refine r_call0 hq rfl rfl (.cons (.ev (hd 1 _ rfl rfl rfl) rfl) (.cons (.ev (hd 2 _ rfl rfl rfl) rfl) (.cons (.ev rfl rfl) (.cons (.ev rfl rfl) .nil)))) (of_ok (some (rt, nn)) X hL.idx.good L1 hl1 (l.length : Int) 2 5 (by omega) (by omega) (some (rt, nn)) X hL.idx.good L2 hl2 ((w % (l.length + 1) : Nat) : Int)) rfl TW.en10 rfl (fun r hr => ?_)
             obtain rfl := hr
             exact awl_nil ⟨rfl, post_put⟩⟩⟩
           , ⟨_, rfl, fun sl hd hr ho => by
             refine r_call0 hq rfl rfl (.cons (.ev (hd 0 _ rfl rfl rfl) rfl) (.cons (.ev (hd 3 _ rfl rfl rfl) rfl) .nil)) (apply_ok (allV X L1 2 5) (entriesF (allV X L1 2 5) (allV X L2 2 5)) (by omega) (by have := entries_len (allV X L1 2 5) (allV X L2 2 5); omega)) rfl TW.en15 rfl (fun r hr => ?_)
             obtain rfl : r = .tup [entsA (allV X L2 2 5), .v (.int .i64 0)] := by
              rcases hr with ⟨l2, h1, h2⟩ | ⟨h1, _⟩
              · rw [hap] at h1; cases h1; rw [h2, hcl]
              · rw [hap] at h1; cases h1
             exact awl_nil ⟨rfl, post_put⟩⟩⟩
           , ⟨_, rfl, fun sl hd hr ho => by
             refine r_move (hd 4 _ rfl rfl rfl) rfl ?_
             exact awl_nil ⟨rfl, post_put⟩⟩⟩
           , ⟨_, rfl, fun sl hd hr ho => by
             refine r_extract (hd 5 _ rfl rfl rfl) rfl rfl ?_
             exact awl_nil ⟨rfl, post_put⟩⟩⟩
           , ⟨_, rfl, fun sl hd hr ho => by
             refine r_extract (hd 5 _ rfl rfl rfl) rfl rfl ?_
             exact awl_nil ⟨rfl, post_put⟩⟩⟩
           , ⟨_, rfl, fun sl hd hr ho => by
             refine r_assign (hd 6 _ rfl rfl rfl) rfl ?_
             exact awl_nil ⟨rfl, post_put⟩⟩⟩
           (by rfl) ?_
          refine r_assign rfl rfl ?_
          refine awl_nil ?_
          refine x_then ?_
          refine awp_seq ?_
          refine awp_region ?_
          refine r_move rfl rfl ?_
          refine r_cmp rfl rfl rfl rfl ?_
          refine r_move rfl rfl ?_
          refine g_run rfl rfl rfl ?_
          refine r_move rfl rfl ?_
          refine g_run rfl rfl rfl ?_
          refine r_load1b 0 rfl rfl rfl TW.agg52 rfl ?_
          refine g_run rfl rfl rfl ?_
          refine r_call0 hq rfl rfl (.cons (.ev rfl rfl) (.cons (.ev rfl rfl) .nil)) (sameE_ok (allV X L2 2 5) (by omega)) rfl TW.en16 rfl (fun r hr => ?_)
          obtain rfl := hr
          refine r_pickT rfl rfl rfl rfl ?_
          refine r_assign rfl rfl ?_
          refine awl_nil ?_
          refine x_then ?_
          refine awp_ret ?_
          exact ⟨(.inl rfl), _, [], (.one (by first | exact .mk rfl rfl | exact .nil rfl)), ⟨rfl, rfl⟩, (List.nil_sublist _), (by simp)⟩
         ·
          refine x_block ?_
          refine x_then ?_
          refine awp_seq ?_
          refine awp_imp (imp_commitBx 0 0 rfl rfl rfl) ?_
          refine awp_drawS [78, 79, 80, 81, 82, 77, 83, 84, 19] [_, _, _, _, _, _, _, _, _] [] [] TW.mixed rfl rfl rfl ⟨⟨⟨⟨⟨⟨⟨⟨⟨trivial
           , ⟨_, rfl, fun sl hd hr ho => by
             refine r_load1b 1 (hr 15 _ rfl rfl rfl) rfl rfl TW.agg52 rfl ?_
             exact awl_nil ⟨rfl, post_put⟩⟩⟩
           , ⟨_, rfl, fun sl hd hr ho => by
             refine r_loadAb 3 (hr 11 _ rfl rfl rfl) rfl TW.agg33 TW.sz33 rfl rfl ?_
             exact awl_nil ⟨rfl, post_put⟩⟩⟩
           , ⟨_, rfl, fun sl hd hr ho => by
             refine r_loadAb 2 (hr 13 _ rfl rfl rfl) rfl TW.agg33 TW.sz33 rfl rfl ?_
             exact awl_nil ⟨rfl, post_put⟩⟩⟩
           , ⟨_, rfl, fun sl hd hr ho => by
             refine r_call0 hq rfl rfl (.cons (.ev (hd 1 _ rfl rfl rfl) rfl) (.cons (.ev (hd 2 _ rfl rfl rfl) rfl) (.cons (.ev rfl rfl) (.cons (.ev rfl rfl) .nil)))) (of_ok (some (rt, nn)) X hL.idx.good L1 hl1 (l.length : Int) 2 5 (by omega) (by omega) (some (rt, nn)) X hL.idx.good L2 hl2 ((w % (l.length + 1) : Nat) : Int)) rfl TW.en10 rfl (fun r hr => ?_)
             obtain rfl := hr
             exact awl_nil ⟨rfl, post_put⟩⟩⟩
           , ⟨_, rfl, fun sl hd hr ho => by
             refine r_call0 hq rfl rfl (.cons (.ev (hd 0 _ rfl rfl rfl) rfl) (.cons (.ev (hd 3 _ rfl rfl rfl) rfl) .nil)) (apply_ok (allV X L1 2 5) (entriesF (allV X L1 2 5) (allV X L2 2 5)) (by omega) (by have := entries_len (allV X L1 2 5) (allV X L2 2 5); omega)) rfl TW.en15 rfl (fun r hr => ?_)
             obtain rfl : r = .tup [entsA (allV X L2 2 5), .v (.int .i64 0)] := by
              rcases hr with ⟨l2, h1, h2⟩ | ⟨h1, _⟩
              · rw [hap] at h1; cases h1; rw [h2, hcl]
              · rw [hap] at h1; cases h1
             exact awl_nil ⟨rfl, post_put⟩⟩⟩
           , ⟨_, rfl, fun sl hd hr ho => by
             refine r_move (hd 4 _ rfl rfl rfl) rfl ?_
             exact awl_nil ⟨rfl, post_put⟩⟩⟩
           , ⟨_, rfl, fun sl hd hr ho => by
             refine r_extract (hd 5 _ rfl rfl rfl) rfl rfl ?_
             exact awl_nil ⟨rfl, post_put⟩⟩⟩
           , ⟨_, rfl, fun sl hd hr ho => by
             refine r_extract (hd 5 _ rfl rfl rfl) rfl rfl ?_
             exact awl_nil ⟨rfl, post_put⟩⟩⟩
           , ⟨_, rfl, fun sl hd hr ho => by
             refine r_assign (hd 6 _ rfl rfl rfl) rfl ?_
             exact awl_nil ⟨rfl, post_put⟩⟩⟩
           (by rfl) ?_
          refine r_assign rfl rfl ?_
          refine awl_nil ?_
          refine x_then ?_
          refine awp_seq ?_
          refine awp_region ?_
          refine r_move rfl rfl ?_
          refine r_cmp rfl rfl rfl rfl ?_
          refine r_move rfl rfl ?_
          refine g_run rfl rfl rfl ?_
          refine r_move rfl rfl ?_
          refine g_run rfl rfl rfl ?_
          refine r_load1b 0 rfl rfl rfl TW.agg52 rfl ?_
          refine g_run rfl rfl rfl ?_
          refine r_call0 hq rfl rfl (.cons (.ev rfl rfl) (.cons (.ev rfl rfl) .nil)) (sameE_ok (allV X L2 2 5) (by omega)) rfl TW.en16 rfl (fun r hr => ?_)
          obtain rfl := hr
          refine r_pickT rfl rfl rfl rfl ?_
          refine r_assign rfl rfl ?_
          refine awl_nil ?_
          refine x_then ?_
          refine awp_ret ?_
          exact ⟨(.inl rfl), _, [], (.one (by first | exact .mk rfl rfl | exact .nil rfl)), ⟨rfl, rfl⟩, (List.nil_sublist _), (by simp)⟩
        ·
         intro c xs wo' hX
         exact hX.elim
       ·
        refine x_block ?_
        refine x_then ?_
        refine awp_seq ?_
        refine awp_seq ?_
        refine awp_region ?_
        refine awl_imp (imp_commitBx 0 0 rfl rfl rfl) ?_
        refine r_loadAb 2 rfl rfl TW.agg33 TW.sz33 rfl rfl ?_
        refine r_call0 hq rfl rfl (.cons (.ev rfl rfl) (.cons (.ev rfl rfl) (.cons (.ev rfl rfl) .nil))) (viewAll_ok (some (rt, nn)) L2 ((w % (l.length + 1) : Nat) : Int) 2 5 (by omega) (by omega)) rfl TW.en14 rfl (fun r hr => ?_)
        obtain rfl := hr
        refine awl_nil ?_
        refine x_then ?_
        refine awp_block ?_
        refine awp_rangeFuncS (fun pre wo => ∃ l : List Ent, pre = l.map eA ∧ GrowB b16 3 57 (l.map Ent.cs) wo) (fun _ _ _ => False) [(16, .a (.v (.pointer (some ⟨b16, 0, none⟩))))] [false, true] hq rfl (viewAll1_ok (some (rt, nn)) X hL.idx.good L2 hl2 ((w % (l.length + 1) : Nat) : Int) 2 5 (by omega) (by omega)) TW.en28 (fun pre x ⟨e, _, _, h⟩ => by subst h; rfl) rfl rfl rfl (List.nil_sublist _) (Slots.cons rfl (by first | exact .refl _ | exact .nilOwn _ _ | exact .nilSl _ | exact .ownSl _ _ _  | exact SV.le.of_eq (by simp)) Slots.nil) rfl rfl ⟨[], rfl, .inl ⟨rfl, rfl⟩⟩ ?_ ?_ ?_
        ·
         intro lr pre x wo rec busy w0 C0 hq hj hax
         obtain ⟨l, rfl, hgb⟩ := hj
         obtain ⟨e, het, _, rfl⟩ := hax
         have hll : l.length < (allV X L2 2 5).length := by have := (List.getElem?_eq_some_iff.1 het).1; simpa using this
         have hal := hs2
         rcases hgb with ⟨h0, rfl⟩ | ⟨h0, g, cap, rfl⟩
         ·
          obtain rfl : l = [] := by simpa using h0
          refine awpi_region ?_
          refine awli_op (fun c h => (by cases h)) ?_
          refine r_alloc TW.zero57 rfl (fun b18 => ?_)
          refine awl_nil ⟨rfl, ?_⟩
          refine awli_op (fun c h => (by cases h)) ?_
          first | (refine r_store 0 rfl rfl rfl TW.sz57 rfl rfl rfl ?_) | (refine r_store 1 rfl rfl rfl TW.sz57 rfl rfl rfl ?_) | (refine r_store 2 rfl rfl rfl TW.sz57 rfl rfl rfl ?_) | (refine r_store 3 rfl rfl rfl TW.sz57 rfl rfl rfl ?_)
          refine awl_nil ⟨rfl, ?_⟩
          refine awli_nil ?_
          refine ⟨rfl, 2, rfl, ?_⟩
          refine awpi_block ?_
          refine awpi_region ?_
          refine awli_op (fun c h => (by cases h)) ?_
          first | (refine r_load1b 0 rfl rfl rfl TW.agg52 rfl ?_) | (refine r_load1 rfl TW.agg52 rfl ?_) | (refine r_load1b 1 rfl rfl rfl TW.agg52 rfl ?_) | (refine r_load1b 2 rfl rfl rfl TW.agg52 rfl ?_) | (refine r_load1b 3 rfl rfl rfl TW.agg52 rfl ?_)
          refine awl_nil ⟨rfl, ?_⟩
          refine awli_op (fun c h => (by cases h)) ?_
          first | (refine r_loadAb 0 rfl rfl TW.agg57 TW.sz57 rfl rfl ?_) | (refine r_loadA rfl TW.agg57 TW.sz57 rfl rfl ?_) | (refine r_loadAb 1 rfl rfl TW.agg57 TW.sz57 rfl rfl ?_) | (refine r_loadAb 2 rfl rfl TW.agg57 TW.sz57 rfl rfl ?_) | (refine r_loadAb 3 rfl rfl TW.agg57 TW.sz57 rfl rfl ?_)
          refine awl_nil ⟨rfl, ?_⟩
          refine awli_op (fun c h => (by cases h)) ?_
          refine r_lit 75 (parts := [(0, .tmp 74)]) rfl TW.sl52 TW.sz57 TW.zraw57 rfl rfl rfl rfl rfl rfl rfl ?_
          refine awl_nil ⟨rfl, ?_⟩
          refine awli_op (fun c h => (by cases h)) ?_
          refine r_appendBN rfl rfl (by first | exact .sl _ | exact .own _ _) (by simp [chunks]) TW.sl52 TW.sz57 TW.by57 TW.zlen57 (by simp [chunks] <;> omega) (by simp [chunks] <;> omega) rfl (fun gb gc => ?_)
          refine awl_nil ⟨rfl, ?_⟩
          refine awli_op (fun c h => (by cases h)) ?_
          first | (refine r_store 0 rfl rfl rfl TW.sz52 rfl rfl rfl ?_) | (refine r_store 1 rfl rfl rfl TW.sz52 rfl rfl rfl ?_) | (refine r_store 2 rfl rfl rfl TW.sz52 rfl rfl rfl ?_) | (refine r_store 3 rfl rfl rfl TW.sz52 rfl rfl rfl ?_) | (refine r_store 4 rfl rfl rfl TW.sz52 rfl rfl rfl ?_)
          refine awl_nil ⟨rfl, ?_⟩
          refine awli_nil ?_
          refine x_block ?_
          refine ⟨_, .inl ⟨rfl, [e], rfl, .inr ⟨by simp, gb, gc, rfl⟩⟩, ?_, by simp⟩
          first | exact List.Sublist.refl _ | exact .cons_cons _ (.cons _ (.refl _)) | exact List.nil_sublist _ | exact .cons _ (.refl _) | exact .cons _ (.cons _ (.refl _)) | exact .cons _ (.cons _ (.cons _ (.refl _))) | exact .cons _ (.cons _ (.cons _ (.cons _ (.refl _)))) | exact .cons_cons _ (List.nil_sublist _)
         ·
          refine awpi_region ?_
          refine awli_op (fun c h => (by cases h)) ?_
          refine r_alloc TW.zero57 rfl (fun b18 => ?_)
          refine awl_nil ⟨rfl, ?_⟩
          refine awli_op (fun c h => (by cases h)) ?_
          first | (refine r_store 0 rfl rfl rfl TW.sz57 rfl rfl rfl ?_) | (refine r_store 1 rfl rfl rfl TW.sz57 rfl rfl rfl ?_) | (refine r_store 2 rfl rfl rfl TW.sz57 rfl rfl rfl ?_) | (refine r_store 3 rfl rfl rfl TW.sz57 rfl rfl rfl ?_) | (refine r_store 4 rfl rfl rfl TW.sz57 rfl rfl rfl ?_)
          refine awl_nil ⟨rfl, ?_⟩
          refine awli_nil ?_
          refine ⟨rfl, 3, rfl, ?_⟩
          refine awpi_block ?_
          refine awpi_region ?_
          refine awli_op (fun c h => (by cases h)) ?_
          first | (refine r_load1b 0 rfl rfl rfl TW.agg52 rfl ?_) | (refine r_load1 rfl TW.agg52 rfl ?_) | (refine r_load1b 1 rfl rfl rfl TW.agg52 rfl ?_) | (refine r_load1b 2 rfl rfl rfl TW.agg52 rfl ?_) | (refine r_load1b 3 rfl rfl rfl TW.agg52 rfl ?_) | (refine r_load1b 4 rfl rfl rfl TW.agg52 rfl ?_)
          refine awl_nil ⟨rfl, ?_⟩
          refine awli_op (fun c h => (by cases h)) ?_
          first | (refine r_loadAb 0 rfl rfl TW.agg57 TW.sz57 rfl rfl ?_) | (refine r_loadA rfl TW.agg57 TW.sz57 rfl rfl ?_) | (refine r_loadAb 1 rfl rfl TW.agg57 TW.sz57 rfl rfl ?_) | (refine r_loadAb 2 rfl rfl TW.agg57 TW.sz57 rfl rfl ?_) | (refine r_loadAb 3 rfl rfl TW.agg57 TW.sz57 rfl rfl ?_) | (refine r_loadAb 4 rfl rfl TW.agg57 TW.sz57 rfl rfl ?_)
          refine awl_nil ⟨rfl, ?_⟩
          refine awli_op (fun c h => (by cases h)) ?_
          refine r_lit 75 (parts := [(0, .tmp 74)]) rfl TW.sl52 TW.sz57 TW.zraw57 rfl rfl rfl rfl rfl rfl rfl ?_
          refine awl_nil ⟨rfl, ?_⟩
          refine awli_op (fun c h => (by cases h)) ?_
          refine r_appendBG 1 rfl rfl rfl rfl (by first | exact .sl _ | exact .own _ _) (by simp [chunks]) TW.sl52 TW.sz57 TW.by57 TW.zlen57 (by simp [chunks] <;> omega) (by simp [chunks] <;> omega) rfl (fun gb gc => ?_)
          refine awl_nil ⟨rfl, ?_⟩
          refine awli_op (fun c h => (by cases h)) ?_
          first | (refine r_store 0 rfl rfl rfl TW.sz52 rfl rfl rfl ?_) | (refine r_store 1 rfl rfl rfl TW.sz52 rfl rfl rfl ?_) | (refine r_store 2 rfl rfl rfl TW.sz52 rfl rfl rfl ?_) | (refine r_store 3 rfl rfl rfl TW.sz52 rfl rfl rfl ?_) | (refine r_store 4 rfl rfl rfl TW.sz52 rfl rfl rfl ?_)
          refine awl_nil ⟨rfl, ?_⟩
          refine awli_nil ?_
          refine x_block ?_
          refine ⟨_, .inl ⟨rfl, l ++ [e], by simp, .inr ⟨by simp, gb, gc, rfl⟩⟩, ?_, by simp⟩
          simp only [List.map_append, List.map_cons, List.map_nil]
          first | exact List.Sublist.refl _ | exact .cons_cons _ (.cons _ (.refl _)) | exact List.nil_sublist _ | exact .cons _ (.refl _) | exact .cons _ (.cons _ (.refl _)) | exact .cons _ (.cons _ (.cons _ (.refl _))) | exact .cons _ (.cons _ (.cons _ (.cons _ (.refl _)))) | exact .cons_cons _ (List.nil_sublist _)
        ·
         intro xs wo' hG hJ
         obtain ⟨lq, rfl, hgb⟩ := hJ
         obtain rfl := eA_inj hG
         rcases hgb with ⟨h0, rfl⟩ | ⟨h0, g1, cap, rfl⟩
         ·
          refine x_block ?_
          refine x_then ?_
          refine awp_seq ?_
          refine awp_imp (imp_boxLe (cs' := [.sl 3 ((allV X L2 2 5).map Ent.cs)]) 0 rfl (by rw [h0]; exact .cons (.nil 3) .nil)) ?_
          refine awp_drawS [78, 79, 80, 81, 82, 77, 83, 84, 19] [_, _, _, _, _, _, _, _, _] [] [] TW.mixed rfl rfl rfl ⟨⟨⟨⟨⟨⟨⟨⟨⟨trivial
           , ⟨_, rfl, fun sl hd hr ho => by
             refine r_load1b 1 (hr 15 _ rfl rfl rfl) rfl rfl TW.agg52 rfl ?_
             exact awl_nil ⟨rfl, post_put⟩⟩⟩
           , ⟨_, rfl, fun sl hd hr ho => by
             refine r_loadAb 3 (hr 11 _ rfl rfl rfl) rfl TW.agg33 TW.sz33 rfl rfl ?_
             exact awl_nil ⟨rfl, post_put⟩⟩⟩
           , ⟨_, rfl, fun sl hd hr ho => by
             refine r_loadAb 2 (hr 13 _ rfl rfl rfl) rfl TW.agg33 TW.sz33 rfl rfl ?_
             exact awl_nil ⟨rfl, post_put⟩⟩⟩
           , ⟨_, rfl, fun sl hd hr ho => by
             refine r_call0 hq rfl rfl (.cons (.ev (hd 1 _ rfl rfl rfl) rfl) (.cons (.ev (hd 2 _ rfl rfl rfl) rfl) (.cons (.ev rfl rfl) (.cons (.ev rfl rfl) .nil)))) (of_ok (some (rt, nn)) X hL.idx.good L1 hl1 (l.length : Int) 2 5 (by omega) (by omega) (some (rt, nn)) X hL.idx.good L2 hl2 ((w % (l.length + 1) : Nat) : Int)) rfl TW.en10 rfl (fun r hr => ?_)
             obtain rfl := hr
             exact awl_nil ⟨rfl, post_put⟩⟩⟩
           , ⟨_, rfl, fun sl hd hr ho => by
             refine r_call0 hq rfl rfl (.cons (.ev (hd 0 _ rfl rfl rfl) rfl) (.cons (.ev (hd 3 _ rfl rfl rfl) rfl) .nil)) (apply_ok (allV X L1 2 5) (entriesF (allV X L1 2 5) (allV X L2 2 5)) (by omega) (by have := entries_len (allV X L1 2 5) (allV X L2 2 5); omega)) rfl TW.en15 rfl (fun r hr => ?_)
             obtain rfl : r = .tup [entsA (allV X L2 2 5), .v (.int .i64 0)] := by
              rcases hr with ⟨l2, h1, h2⟩ | ⟨h1, _⟩
              · rw [hap] at h1; cases h1; rw [h2, hcl]
              · rw [hap] at h1; cases h1
             exact awl_nil ⟨rfl, post_put⟩⟩⟩
           , ⟨_, rfl, fun sl hd hr ho => by
             refine r_move (hd 4 _ rfl rfl rfl) rfl ?_
             exact awl_nil ⟨rfl, post_put⟩⟩⟩
           , ⟨_, rfl, fun sl hd hr ho => by
             refine r_extract (hd 5 _ rfl rfl rfl) rfl rfl ?_
             exact awl_nil ⟨rfl, post_put⟩⟩⟩
           , ⟨_, rfl, fun sl hd hr ho => by
             refine r_extract (hd 5 _ rfl rfl rfl) rfl rfl ?_
             exact awl_nil ⟨rfl, post_put⟩⟩⟩
           , ⟨_, rfl, fun sl hd hr ho => by
             refine r_assign (hd 6 _ rfl rfl rfl) rfl ?_
             exact awl_nil ⟨rfl, post_put⟩⟩⟩
           (by rfl) ?_
          refine r_assign rfl rfl ?_
          refine awl_nil ?_
          refine x_then ?_
          refine awp_seq ?_
          refine awp_region ?_
          refine r_move rfl rfl ?_
          refine r_cmp rfl rfl rfl rfl ?_
          refine r_move rfl rfl ?_
          refine g_run rfl rfl rfl ?_
          refine r_move rfl rfl ?_
          refine g_run rfl rfl rfl ?_
          refine r_load1b 0 rfl rfl rfl TW.agg52 rfl ?_
          refine g_run rfl rfl rfl ?_
          refine r_call0 hq rfl rfl (.cons (.ev rfl rfl) (.cons (.ev rfl rfl) .nil)) (sameE_ok (allV X L2 2 5) (by omega)) rfl TW.en16 rfl (fun r hr => ?_)
          obtain rfl := hr
          refine r_pickT rfl rfl rfl rfl ?_
          refine r_assign rfl rfl ?_
          refine awl_nil ?_
          refine x_then ?_
          refine awp_ret ?_
          exact ⟨(.inl rfl), _, [], (.one (by first | exact .mk rfl rfl | exact .nil rfl)), ⟨rfl, rfl⟩, (List.nil_sublist _), (by simp)⟩
         ·
          refine x_block ?_
          refine x_then ?_
          refine awp_seq ?_
          refine awp_imp (imp_commitBx 0 0 rfl rfl rfl) ?_
          refine awp_drawS [78, 79, 80, 81, 82, 77, 83, 84, 19] [_, _, _, _, _, _, _, _, _] [] [] TW.mixed rfl rfl rfl ⟨⟨⟨⟨⟨⟨⟨⟨⟨trivial
           , ⟨_, rfl, fun sl hd hr ho => by
             refine r_load1b 1 (hr 15 _ rfl rfl rfl) rfl rfl TW.agg52 rfl ?_
             exact awl_nil ⟨rfl, post_put⟩⟩⟩
           , ⟨_, rfl, fun sl hd hr ho => by
             refine r_loadAb 3 (hr 11 _ rfl rfl rfl) rfl TW.agg33 TW.sz33 rfl rfl ?_
             exact awl_nil ⟨rfl, post_put⟩⟩⟩
           , ⟨_, rfl, fun sl hd hr ho => by
             refine r_loadAb 2 (hr 13 _ rfl rfl rfl) rfl TW.agg33 TW.sz33 rfl rfl ?_
             exact awl_nil ⟨rfl, post_put⟩⟩⟩
           , ⟨_, rfl, fun sl hd hr ho => by
             refine r_call0 hq rfl rfl (.cons (.ev (hd 1 _ rfl rfl rfl) rfl) (.cons (.ev (hd 2 _ rfl rfl rfl) rfl) (.cons (.ev rfl rfl) (.cons (.ev rfl rfl) .nil)))) (of_ok (some (rt, nn)) X hL.idx.good L1 hl1 (l.length : Int) 2 5 (by omega) (by omega) (some (rt, nn)) X hL.idx.good L2 hl2 ((w % (l.length + 1) : Nat) : Int)) rfl TW.en10 rfl (fun r hr => ?_)
             obtain rfl := hr
             exact awl_nil ⟨rfl, post_put⟩⟩⟩
           , ⟨_, rfl, fun sl hd hr ho => by
             refine r_call0 hq rfl rfl (.cons (.ev (hd 0 _ rfl rfl rfl) rfl) (.cons (.ev (hd 3 _ rfl rfl rfl) rfl) .nil)) (apply_ok (allV X L1 2 5) (entriesF (allV X L1 2 5) (allV X L2 2 5)) (by omega) (by have := entries_len (allV X L1 2 5) (allV X L2 2 5); omega)) rfl TW.en15 rfl (fun r hr => ?_)
             obtain rfl : r = .tup [entsA (allV X L2 2 5), .v (.int .i64 0)] := by
              rcases hr with ⟨l2, h1, h2⟩ | ⟨h1, _⟩
              · rw [hap] at h1; cases h1; rw [h2, hcl]
              · rw [hap] at h1; cases h1
             exact awl_nil ⟨rfl, post_put⟩⟩⟩
           , ⟨_, rfl, fun sl hd hr ho => by
             refine r_move (hd 4 _ rfl rfl rfl) rfl ?_
             exact awl_nil ⟨rfl, post_put⟩⟩⟩
           , ⟨_, rfl, fun sl hd hr ho => by
             refine r_extract (hd 5 _ rfl rfl rfl) rfl rfl ?_
             exact awl_nil ⟨rfl, post_put⟩⟩⟩
           , ⟨_, rfl, fun sl hd hr ho => by
             refine r_extract (hd 5 _ rfl rfl rfl) rfl rfl ?_
             exact awl_nil ⟨rfl, post_put⟩⟩⟩
           , ⟨_, rfl, fun sl hd hr ho => by
             refine r_assign (hd 6 _ rfl rfl rfl) rfl ?_
             exact awl_nil ⟨rfl, post_put⟩⟩⟩
           (by rfl) ?_
          refine r_assign rfl rfl ?_
          refine awl_nil ?_
          refine x_then ?_
          refine awp_seq ?_
          refine awp_region ?_
          refine r_move rfl rfl ?_
          refine r_cmp rfl rfl rfl rfl ?_
          refine r_move rfl rfl ?_
          refine g_run rfl rfl rfl ?_
          refine r_move rfl rfl ?_
          refine g_run rfl rfl rfl ?_
          refine r_load1b 0 rfl rfl rfl TW.agg52 rfl ?_
          refine g_run rfl rfl rfl ?_
          refine r_call0 hq rfl rfl (.cons (.ev rfl rfl) (.cons (.ev rfl rfl) .nil)) (sameE_ok (allV X L2 2 5) (by omega)) rfl TW.en16 rfl (fun r hr => ?_)
          obtain rfl := hr
          refine r_pickT rfl rfl rfl rfl ?_
          refine r_assign rfl rfl ?_
          refine awl_nil ?_
          refine x_then ?_
          refine awp_ret ?_
          exact ⟨(.inl rfl), _, [], (.one (by first | exact .mk rfl rfl | exact .nil rfl)), ⟨rfl, rfl⟩, (List.nil_sublist _), (by simp)⟩
        ·
         intro c xs wo' hX
         exact hX.elim
      ·
       intro c xs wo' hX
       exact hX.elim
    ·
     refine r_move rfl rfl ?_
     refine r_extract rfl rfl rfl ?_
     refine r_extract rfl rfl rfl ?_
     refine r_alloc TW.zero33 rfl (fun b13 => ?_)
     first | (refine r_store 0 rfl rfl rfl TW.sz33 rfl rfl rfl ?_) | (refine r_store 1 rfl rfl rfl TW.sz33 rfl rfl rfl ?_) | (refine r_store 2 rfl rfl rfl TW.sz33 rfl rfl rfl ?_) | (refine r_store 3 rfl rfl rfl TW.sz33 rfl rfl rfl ?_)
     refine r_assign rfl rfl ?_
     refine awl_nil ?_
     refine x_then ?_
     refine awp_cut (fun S => ∃ L1 : List St, ∃ L2 : List St, S = ⟨92, [(11, .a (.v (.pointer (some ⟨b11, 0, none⟩)))), (13, .a (.v (.pointer (some ⟨b13, 0, none⟩))))], [⟨b13, true, .box [encT (some (rt, nn)), .sl 3 (L2.map St.cs), .v (.int .u64 (((w % (l.length + 1) : Nat) : Int)))]⟩, ⟨b11, true, .box [encT (some (rt, nn)), .sl 3 (L1.map St.cs), .v (.int .u64 ((l.length : Int)))]⟩]⟩ ∧ (L1 = lineF F (u % 3) (l.length : Int)) ∧ (L2 = lineF F (u % 3) ((w % (l.length + 1) : Nat) : Int))) ?_ ?_
     ·
      refine awp_seq ?_
      refine awp_region ?_
      refine r_move rfl rfl ?_
      refine r_cmp rfl rfl rfl rfl ?_
      refine r_move rfl rfl ?_
      refine g_run rfl rfl rfl ?_
      refine r_move rfl rfl ?_
      refine g_run rfl rfl rfl ?_
      refine r_cmp rfl rfl rfl rfl ?_
      refine r_pickF rfl rfl rfl rfl ?_
      refine awl_nil ?_
      refine x_then ?_
      refine awp_cond rfl (fun hc2 => ?_) (fun hc2 => ?_)
      ·
       skip
       refine awp_seq ?_
       refine awp_region ?_
       refine r_assign rfl rfl ?_
       refine awl_nil ?_
       refine x_then ?_
       refine awp_ret ?_
       refine x_thenR ?_
       exact ⟨(.inl rfl), _, [], (.one (by first | exact .mk rfl rfl | exact .nil rfl)), ⟨rfl, rfl⟩, (List.nil_sublist _), (by simp)⟩
      ·
       exfalso; exact absurd hc2 (by decide)
     ·
      rintro _ ⟨L1, L2, rfl, hL1, hL2⟩
      have hl1 : L1.length ≤ 1000 := by rw [hL1]; exact lineF_len _ _ _
      have hl2 : L2.length ≤ 1000 := by rw [hL2]; exact lineF_len _ _ _
      have hs1 : (allV X L1 2 5).length ≤ 10 := Nat.le_trans (allV_len _ _ _ _) (by decide)
      have hs2 : (allV X L2 2 5).length ≤ 10 := Nat.le_trans (allV_len _ _ _ _) (by decide)
      obtain ⟨l', hap, hcl⟩ := undone (L := L1) (K := L2) (m := 2) (n := 5) hXs (fun z hz => (hL.nums z hz).1)
      refine awp_seq ?_
      refine awp_region ?_
      refine r_alloc TW.zero52 rfl (fun b15 => ?_)
      refine r_alloc TW.zero52 rfl (fun b16 => ?_)
      refine awl_nil ?_
      refine x_then ?_
      refine awp_seq ?_
      refine awp_seq ?_
      refine awp_region ?_
      refine r_loadAb 3 rfl rfl TW.agg33 TW.sz33 rfl rfl ?_
      refine r_call0 hq rfl rfl (.cons (.ev rfl rfl) (.cons (.ev rfl rfl) (.cons (.ev rfl rfl) .nil))) (viewAll_ok (some (rt, nn)) L1 (l.length : Int) 2 5 (by omega) (by omega)) rfl TW.en14 rfl (fun r hr => ?_)
      obtain rfl := hr
      refine awl_nil ?_
      refine x_then ?_
      refine awp_block ?_
      refine awp_rangeFuncS (fun pre wo => ∃ l : List Ent, pre = l.map eA ∧ GrowB b15 3 57 (l.map Ent.cs) wo) (fun _ _ _ => False) [(15, .a (.v (.pointer (some ⟨b15, 0, none⟩))))] [false, true] hq rfl (viewAll1_ok (some (rt, nn)) X hL.idx.good L1 hl1 (l.length : Int) 2 5 (by omega) (by omega)) TW.en28 (fun pre x ⟨e, _, _, h⟩ => by subst h; rfl) rfl rfl rfl (List.nil_sublist _) (Slots.cons rfl (by first | exact .refl _ | exact .nilOwn _ _ | exact .nilSl _ | exact .ownSl _ _ _  | exact SV.le.of_eq (by simp)) Slots.nil) rfl rfl ⟨[], rfl, .inl ⟨rfl, rfl⟩⟩ ?_ ?_ ?_
      ·
       intro lr pre x wo rec busy w0 C0 hq hj hax
       obtain ⟨l, rfl, hgb⟩ := hj
       obtain ⟨e, het, _, rfl⟩ := hax
       have hll : l.length < (allV X L1 2 5).length := by have := (List.getElem?_eq_some_iff.1 het).1; simpa using this
       have hal := hs1
       rcases hgb with ⟨h0, rfl⟩ | ⟨h0, g, cap, rfl⟩
       ·
        obtain rfl : l = [] := by simpa using h0
        refine awpi_region ?_
        refine awli_op (fun c h => (by cases h)) ?_
        refine r_alloc TW.zero57 rfl (fun b17 => ?_)
        refine awl_nil ⟨rfl, ?_⟩
        refine awli_op (fun c h => (by cases h)) ?_
        first | (refine r_store 0 rfl rfl rfl TW.sz57 rfl rfl rfl ?_) | (refine r_store 1 rfl rfl rfl TW.sz57 rfl rfl rfl ?_) | (refine r_store 2 rfl rfl rfl TW.sz57 rfl rfl rfl ?_) | (refine r_store 3 rfl rfl rfl TW.sz57 rfl rfl rfl ?_)
        refine awl_nil ⟨rfl, ?_⟩
        refine awli_nil ?_
        refine ⟨rfl, 2, rfl, ?_⟩
        refine awpi_block ?_
        refine awpi_region ?_
        refine awli_op (fun c h => (by cases h)) ?_
        first | (refine r_load1b 0 rfl rfl rfl TW.agg52 rfl ?_) | (refine r_load1 rfl TW.agg52 rfl ?_) | (refine r_load1b 1 rfl rfl rfl TW.agg52 rfl ?_) | (refine r_load1b 2 rfl rfl rfl TW.agg52 rfl ?_) | (refine r_load1b 3 rfl rfl rfl TW.agg52 rfl ?_)
        refine awl_nil ⟨rfl, ?_⟩
        refine awli_op (fun c h => (by cases h)) ?_
        first | (refine r_loadAb 0 rfl rfl TW.agg57 TW.sz57 rfl rfl ?_) | (refine r_loadA rfl TW.agg57 TW.sz57 rfl rfl ?_) | (refine r_loadAb 1 rfl rfl TW.agg57 TW.sz57 rfl rfl ?_) | (refine r_loadAb 2 rfl rfl TW.agg57 TW.sz57 rfl rfl ?_) | (refine r_loadAb 3 rfl rfl TW.agg57 TW.sz57 rfl rfl ?_)
        refine awl_nil ⟨rfl, ?_⟩
        refine awli_op (fun c h => (by cases h)) ?_
        refine r_lit 68 (parts := [(0, .tmp 67)]) rfl TW.sl52 TW.sz57 TW.zraw57 rfl rfl rfl rfl rfl rfl rfl ?_
        refine awl_nil ⟨rfl, ?_⟩
        refine awli_op (fun c h => (by cases h)) ?_
        refine r_appendBN rfl rfl (by first | exact .sl _ | exact .own _ _) (by simp [chunks]) TW.sl52 TW.sz57 TW.by57 TW.zlen57 (by simp [chunks] <;> omega) (by simp [chunks] <;> omega) rfl (fun gb gc => ?_)
        refine awl_nil ⟨rfl, ?_⟩
        refine awli_op (fun c h => (by cases h)) ?_
        first | (refine r_store 0 rfl rfl rfl TW.sz52 rfl rfl rfl ?_) | (refine r_store 1 rfl rfl rfl TW.sz52 rfl rfl rfl ?_) | (refine r_store 2 rfl rfl rfl TW.sz52 rfl rfl rfl ?_) | (refine r_store 3 rfl rfl rfl TW.sz52 rfl rfl rfl ?_) | (refine r_store 4 rfl rfl rfl TW.sz52 rfl rfl rfl ?_)
        refine awl_nil ⟨rfl, ?_⟩
        refine awli_nil ?_
        refine x_block ?_
        refine ⟨_, .inl ⟨rfl, [e], rfl, .inr ⟨by simp, gb, gc, rfl⟩⟩, ?_, by simp⟩
        first | exact List.Sublist.refl _ | exact .cons_cons _ (.cons _ (.refl _)) | exact List.nil_sublist _ | exact .cons _ (.refl _) | exact .cons _ (.cons _ (.refl _)) | exact .cons _ (.cons _ (.cons _ (.refl _))) | exact .cons _ (.cons _ (.cons _ (.cons _ (.refl _)))) | exact .cons_cons _ (List.nil_sublist _)
       ·
        refine awpi_region ?_
        refine awli_op (fun c h => (by cases h)) ?_
        refine r_alloc TW.zero57 rfl (fun b17 => ?_)
        refine awl_nil ⟨rfl, ?_⟩
        refine awli_op (fun c h => (by cases h)) ?_
        first | (refine r_store 0 rfl rfl rfl TW.sz57 rfl rfl rfl ?_) | (refine r_store 1 rfl rfl rfl TW.sz57 rfl rfl rfl ?_) | (refine r_store 2 rfl rfl rfl TW.sz57 rfl rfl rfl ?_) | (refine r_store 3 rfl rfl rfl TW.sz57 rfl rfl rfl ?_) | (refine r_store 4 rfl rfl rfl TW.sz57 rfl rfl rfl ?_)
        refine awl_nil ⟨rfl, ?_⟩
        refine awli_nil ?_
        refine ⟨rfl, 3, rfl, ?_⟩
        refine awpi_block ?_
        refine awpi_region ?_
        refine awli_op (fun c h => (by cases h)) ?_
        first | (refine r_load1b 0 rfl rfl rfl TW.agg52 rfl ?_) | (refine r_load1 rfl TW.agg52 rfl ?_) | (refine r_load1b 1 rfl rfl rfl TW.agg52 rfl ?_) | (refine r_load1b 2 rfl rfl rfl TW.agg52 rfl ?_) | (refine r_load1b 3 rfl rfl rfl TW.agg52 rfl ?_) | (refine r_load1b 4 rfl rfl rfl TW.agg52 rfl ?_)
        refine awl_nil ⟨rfl, ?_⟩
        refine awli_op (fun c h => (by cases h)) ?_
        first | (refine r_loadAb 0 rfl rfl TW.agg57 TW.sz57 rfl rfl ?_) | (refine r_loadA rfl TW.agg57 TW.sz57 rfl rfl ?_) | (refine r_loadAb 1 rfl rfl TW.agg57 TW.sz57 rfl rfl ?_) | (refine r_loadAb 2 rfl rfl TW.agg57 TW.sz57 rfl rfl ?_) | (refine r_loadAb 3 rfl rfl TW.agg57 TW.sz57 rfl rfl ?_) | (refine r_loadAb 4 rfl rfl TW.agg57 TW.sz57 rfl rfl ?_)
        refine awl_nil ⟨rfl, ?_⟩
        refine awli_op (fun c h => (by cases h)) ?_
        refine r_lit 68 (parts := [(0, .tmp 67)]) rfl TW.sl52 TW.sz57 TW.zraw57 rfl rfl rfl rfl rfl rfl rfl ?_
        refine awl_nil ⟨rfl, ?_⟩
        refine awli_op (fun c h => (by cases h)) ?_
        refine r_appendBG 1 rfl rfl rfl rfl (by first | exact .sl _ | exact .own _ _) (by simp [chunks]) TW.sl52 TW.sz57 TW.by57 TW.zlen57 (by simp [chunks] <;> omega) (by simp [chunks] <;> omega) rfl (fun gb gc => ?_)
        refine awl_nil ⟨rfl, ?_⟩
        refine awli_op (fun c h => (by cases h)) ?_
        first | (refine r_store 0 rfl rfl rfl TW.sz52 rfl rfl rfl ?_) | (refine r_store 1 rfl rfl rfl TW.sz52 rfl rfl rfl ?_) | (refine r_store 2 rfl rfl rfl TW.sz52 rfl rfl rfl ?_) | (refine r_store 3 rfl rfl rfl TW.sz52 rfl rfl rfl ?_) | (refine r_store 4 rfl rfl rfl TW.sz52 rfl rfl rfl ?_)
        refine awl_nil ⟨rfl, ?_⟩
        refine awli_nil ?_
        refine x_block ?_
        refine ⟨_, .inl ⟨rfl, l ++ [e], by simp, .inr ⟨by simp, gb, gc, rfl⟩⟩, ?_, by simp⟩
        simp only [List.map_append, List.map_cons, List.map_nil]
        first | exact List.Sublist.refl _ | exact .cons_cons _ (.cons _ (.refl _)) | exact List.nil_sublist _ | exact .cons _ (.refl _) | exact .cons _ (.cons _ (.refl _)) | exact .cons _ (.cons _ (.cons _ (.refl _))) | exact .cons _ (.cons _ (.cons _ (.cons _ (.refl _)))) | exact .cons_cons _ (List.nil_sublist _)
      ·
       intro xs wo' hG hJ
       obtain ⟨lq, rfl, hgb⟩ := hJ
       obtain rfl := eA_inj hG
       rcases hgb with ⟨h0, rfl⟩ | ⟨h0, g1, cap, rfl⟩
       ·
        have hP0 : ((allV X L1 2 5).map Ent.cs) = [] := h0
        refine x_block ?_
        refine x_then ?_
        refine awp_seq ?_
        refine awp_seq ?_
        refine awp_region ?_
        refine awl_imp (imp_boxLe (cs' := [.sl 3 ((allV X L1 2 5).map Ent.cs)]) 0 rfl (by rw [h0]; exact .cons (.nil 3) .nil)) ?_
        refine r_loadAb 2 rfl rfl TW.agg33 TW.sz33 rfl rfl ?_
        refine r_call0 hq rfl rfl (.cons (.ev rfl rfl) (.cons (.ev rfl rfl) (.cons (.ev rfl rfl) .nil))) (viewAll_ok (some (rt, nn)) L2 ((w % (l.length + 1) : Nat) : Int) 2 5 (by omega) (by omega)) rfl TW.en14 rfl (fun r hr => ?_)
        obtain rfl := hr
        refine awl_nil ?_
        refine x_then ?_
        refine awp_block ?_
        refine awp_rangeFuncS (fun pre wo => ∃ l : List Ent, pre = l.map eA ∧ GrowB b16 3 57 (l.map Ent.cs) wo) (fun _ _ _ => False) [(16, .a (.v (.pointer (some ⟨b16, 0, none⟩))))] [false, true] hq rfl (viewAll1_ok (some (rt, nn)) X hL.idx.good L2 hl2 ((w % (l.length + 1) : Nat) : Int) 2 5 (by omega) (by omega)) TW.en28 (fun pre x ⟨e, _, _, h⟩ => by subst h; rfl) rfl rfl rfl (List.nil_sublist _) (Slots.cons rfl (by first | exact .refl _ | exact .nilOwn _ _ | exact .nilSl _ | exact .ownSl _ _ _  | exact SV.le.of_eq (by simp)) Slots.nil) rfl rfl ⟨[], rfl, .inl ⟨rfl, rfl⟩⟩ ?_ ?_ ?_
        ·
         intro lr pre x wo rec busy w0 C0 hq hj hax
         obtain ⟨l, rfl, hgb⟩ := hj
         obtain ⟨e, het, _, rfl⟩ := hax
         have hll : l.length < (allV X L2 2 5).length := by have := (List.getElem?_eq_some_iff.1 het).1; simpa using this
         have hal := hs2
         rcases hgb with ⟨h0, rfl⟩ | ⟨h0, g, cap, rfl⟩
         ·
          obtain rfl : l = [] := by simpa using h0
          refine awpi_region ?_
          refine awli_op (fun c h => (by cases h)) ?_
          refine r_alloc TW.zero57 rfl (fun b18 => ?_)
          refine awl_nil ⟨rfl, ?_⟩
          refine awli_op (fun c h => (by cases h)) ?_
          first | (refine r_store 0 rfl rfl rfl TW.sz57 rfl rfl rfl ?_) | (refine r_store 1 rfl rfl rfl TW.sz57 rfl rfl rfl ?_) | (refine r_store 2 rfl rfl rfl TW.sz57 rfl rfl rfl ?_) | (refine r_store 3 rfl rfl rfl TW.sz57 rfl rfl rfl ?_)
          refine awl_nil ⟨rfl, ?_⟩
          refine awli_nil ?_
          refine ⟨rfl, 2, rfl, ?_⟩
          refine awpi_block ?_
          refine awpi_region ?_
          refine awli_op (fun c h => (by cases h)) ?_
          first | (refine r_load1b 0 rfl rfl rfl TW.agg52 rfl ?_) | (refine r_load1 rfl TW.agg52 rfl ?_) | (refine r_load1b 1 rfl rfl rfl TW.agg52 rfl ?_) | (refine r_load1b 2 rfl rfl rfl TW.agg52 rfl ?_) | (refine r_load1b 3 rfl rfl rfl TW.agg52 rfl ?_)
          refine awl_nil ⟨rfl, ?_⟩
          refine awli_op (fun c h => (by cases h)) ?_
          first | (refine r_loadAb 0 rfl rfl TW.agg57 TW.sz57 rfl rfl ?_) | (refine r_loadA rfl TW.agg57 TW.sz57 rfl rfl ?_) | (refine r_loadAb 1 rfl rfl TW.agg57 TW.sz57 rfl rfl ?_) | (refine r_loadAb 2 rfl rfl TW.agg57 TW.sz57 rfl rfl ?_) | (refine r_loadAb 3 rfl rfl TW.agg57 TW.sz57 rfl rfl ?_)
          refine awl_nil ⟨rfl, ?_⟩
          refine awli_op (fun c h => (by cases h)) ?_
          refine r_lit 75 (parts := [(0, .tmp 74)]) rfl TW.sl52 TW.sz57 TW.zraw57 rfl rfl rfl rfl rfl rfl rfl ?_
          refine awl_nil ⟨rfl, ?_⟩
          refine awli_op (fun c h => (by cases h)) ?_
          refine r_appendBN rfl rfl (by first | exact .sl _ | exact .own _ _) (by simp [chunks]) TW.sl52 TW.sz57 TW.by57 TW.zlen57 (by simp [chunks] <;> omega) (by simp [chunks] <;> omega) rfl (fun gb gc => ?_)
          refine awl_nil ⟨rfl, ?_⟩
          refine awli_op (fun c h => (by cases h)) ?_
          first | (refine r_store 0 rfl rfl rfl TW.sz52 rfl rfl rfl ?_) | (refine r_store 1 rfl rfl rfl TW.sz52 rfl rfl rfl ?_) | (refine r_store 2 rfl rfl rfl TW.sz52 rfl rfl rfl ?_) | (refine r_store 3 rfl rfl rfl TW.sz52 rfl rfl rfl ?_) | (refine r_store 4 rfl rfl rfl TW.sz52 rfl rfl rfl ?_)
          refine awl_nil ⟨rfl, ?_⟩
          refine awli_nil ?_
          refine x_block ?_
          refine ⟨_, .inl ⟨rfl, [e], rfl, .inr ⟨by simp, gb, gc, rfl⟩⟩, ?_, by simp⟩
          first | exact List.Sublist.refl _ | exact .cons_cons _ (.cons _ (.refl _)) | exact List.nil_sublist _ | exact .cons _ (.refl _) | exact .cons _ (.cons _ (.refl _)) | exact .cons _ (.cons _ (.cons _ (.refl _))) | exact .cons _ (.cons _ (.cons _ (.cons _ (.refl _)))) | exact .cons_cons _ (List.nil_sublist _)
         ·
          refine awpi_region ?_
          refine awli_op (fun c h => (by cases h)) ?_
          refine r_alloc TW.zero57 rfl (fun b18 => ?_)
          refine awl_nil ⟨rfl, ?_⟩
          refine awli_op (fun c h => (by cases h)) ?_
          first | (refine r_store 0 rfl rfl rfl TW.sz57 rfl rfl rfl ?_) | (refine r_store 1 rfl rfl rfl TW.sz57 rfl rfl rfl ?_) | (refine r_store 2 rfl rfl rfl TW.sz57 rfl rfl rfl ?_) | (refine r_store 3 rfl rfl rfl TW.sz57 rfl rfl rfl ?_) | (refine r_store 4 rfl rfl rfl TW.sz57 rfl rfl rfl ?_)
          refine awl_nil ⟨rfl, ?_⟩
          refine awli_nil ?_
          refine ⟨rfl, 3, rfl, ?_⟩
          refine awpi_block ?_
          refine awpi_region ?_
          refine awli_op (fun c h => (by cases h)) ?_
          first | (refine r_load1b 0 rfl rfl rfl TW.agg52 rfl ?_) | (refine r_load1 rfl TW.agg52 rfl ?_) | (refine r_load1b 1 rfl rfl rfl TW.agg52 rfl ?_) | (refine r_load1b 2 rfl rfl rfl TW.agg52 rfl ?_) | (refine r_load1b 3 rfl rfl rfl TW.agg52 rfl ?_) | (refine r_load1b 4 rfl rfl rfl TW.agg52 rfl ?_)
          refine awl_nil ⟨rfl, ?_⟩
          refine awli_op (fun c h => (by cases h)) ?_
          first | (refine r_loadAb 0 rfl rfl TW.agg57 TW.sz57 rfl rfl ?_) | (refine r_loadA rfl TW.agg57 TW.sz57 rfl rfl ?_) | (refine r_loadAb 1 rfl rfl TW.agg57 TW.sz57 rfl rfl ?_) | (refine r_loadAb 2 rfl rfl TW.agg57 TW.sz57 rfl rfl ?_) | (refine r_loadAb 3 rfl rfl TW.agg57 TW.sz57 rfl rfl ?_) | (refine r_loadAb 4 rfl rfl TW.agg57 TW.sz57 rfl rfl ?_)
          refine awl_nil ⟨rfl, ?_⟩
          refine awli_op (fun c h => (by cases h)) ?_
          refine r_lit 75 (parts := [(0, .tmp 74)]) rfl TW.sl52 TW.sz57 TW.zraw57 rfl rfl rfl rfl rfl rfl rfl ?_
          refine awl_nil ⟨rfl, ?_⟩
          refine awli_op (fun c h => (by cases h)) ?_
          refine r_appendBG 1 rfl rfl rfl rfl (by first | exact .sl _ | exact .own _ _) (by simp [chunks]) TW.sl52 TW.sz57 TW.by57 TW.zlen57 (by simp [chunks] <;> omega) (by simp [chunks] <;> omega) rfl (fun gb gc => ?_)
          refine awl_nil ⟨rfl, ?_⟩
          refine awli_op (fun c h => (by cases h)) ?_
          first | (refine r_store 0 rfl rfl rfl TW.sz52 rfl rfl rfl ?_) | (refine r_store 1 rfl rfl rfl TW.sz52 rfl rfl rfl ?_) | (refine r_store 2 rfl rfl rfl TW.sz52 rfl rfl rfl ?_) | (refine r_store 3 rfl rfl rfl TW.sz52 rfl rfl rfl ?_) | (refine r_store 4 rfl rfl rfl TW.sz52 rfl rfl rfl ?_)
          refine awl_nil ⟨rfl, ?_⟩
          refine awli_nil ?_
          refine x_block ?_
          refine ⟨_, .inl ⟨rfl, l ++ [e], by simp, .inr ⟨by simp, gb, gc, rfl⟩⟩, ?_, by simp⟩
          simp only [List.map_append, List.map_cons, List.map_nil]
          first | exact List.Sublist.refl _ | exact .cons_cons _ (.cons _ (.refl _)) | exact List.nil_sublist _ | exact .cons _ (.refl _) | exact .cons _ (.cons _ (.refl _)) | exact .cons _ (.cons _ (.cons _ (.refl _))) | exact .cons _ (.cons _ (.cons _ (.cons _ (.refl _)))) | exact .cons_cons _ (List.nil_sublist _)
        ·
         intro xs wo' hG hJ
         obtain ⟨lq, rfl, hgb⟩ := hJ
         obtain rfl := eA_inj hG
         rcases hgb with ⟨h0, rfl⟩ | ⟨h0, g1, cap, rfl⟩
         ·
          refine x_block ?_
          refine x_then ?_
          refine awp_seq ?_
          refine awp_imp (imp_boxLe (cs' := [.sl 3 ((allV X L2 2 5).map Ent.cs)]) 0 rfl (by rw [h0]; exact .cons (.nil 3) .nil)) ?_
          refine awp_drawS [78, 79, 80, 81, 82, 77, 83, 84, 19] [_, _, _, _, _, _, _, _, _] [] [] TW.mixed rfl rfl rfl ⟨⟨⟨⟨⟨⟨⟨⟨⟨trivial
           , ⟨_, rfl, fun sl hd hr ho => by
             refine r_load1b 1 (hr 15 _ rfl rfl rfl) rfl rfl TW.agg52 rfl ?_
             exact awl_nil ⟨rfl, post_put⟩⟩⟩
           , ⟨_, rfl, fun sl hd hr ho => by
             refine r_loadAb 3 (hr 11 _ rfl rfl rfl) rfl TW.agg33 TW.sz33 rfl rfl ?_
             exact awl_nil ⟨rfl, post_put⟩⟩⟩
           , ⟨_, rfl, fun sl hd hr ho => by
             refine r_loadAb 2 (hr 13 _ rfl rfl rfl) rfl TW.agg33 TW.sz33 rfl rfl ?_
             exact awl_nil ⟨rfl, post_put⟩⟩⟩
           , ⟨_, rfl, fun sl hd hr ho => by
             refine r_call0 hq rfl rfl (.cons (.ev (hd 1 _ rfl rfl rfl) rfl) (.cons (.ev (hd 2 _ rfl rfl rfl) rfl) (.cons (.ev rfl rfl) (.cons (.ev rfl rfl) .nil)))) (of_ok (some (rt, nn)) X hL.idx.good L1 hl1 (l.length : Int) 2 5 (by omega) (by omega) (some (rt, nn)) X hL.idx.good L2 hl2 ((w % (l.length + 1) : Nat) : Int)) rfl TW.en10 rfl (fun r hr => ?_)
             obtain rfl := hr
             exact awl_nil ⟨rfl, post_put⟩⟩⟩
           , ⟨_, rfl, fun sl hd hr ho => by
             refine r_call0 hq rfl rfl (.cons (.ev (hd 0 _ rfl rfl rfl) rfl) (.cons (.ev (hd 3 _ rfl rfl rfl) rfl) .nil)) (apply_ok (allV X L1 2 5) (entriesF (allV X L1 2 5) (allV X L2 2 5)) (by omega) (by have := entries_len (allV X L1 2 5) (allV X L2 2 5); omega)) rfl TW.en15 rfl (fun r hr => ?_)
             obtain rfl : r = .tup [entsA (allV X L2 2 5), .v (.int .i64 0)] := by
              rcases hr with ⟨l2, h1, h2⟩ | ⟨h1, _⟩
              · rw [hap] at h1; cases h1; rw [h2, hcl]
              · rw [hap] at h1; cases h1
             exact awl_nil ⟨rfl, post_put⟩⟩⟩
           , ⟨_, rfl, fun sl hd hr ho => by
             refine r_move (hd 4 _ rfl rfl rfl) rfl ?_
             exact awl_nil ⟨rfl, post_put⟩⟩⟩
           , ⟨_, rfl, fun sl hd hr ho => by
             refine r_extract (hd 5 _ rfl rfl rfl) rfl rfl ?_
             exact awl_nil ⟨rfl, post_put⟩⟩⟩
           , ⟨_, rfl, fun sl hd hr ho => by
             refine r_extract (hd 5 _ rfl rfl rfl) rfl rfl ?_
             exact awl_nil ⟨rfl, post_put⟩⟩⟩
           , ⟨_, rfl, fun sl hd hr ho => by
             refine r_assign (hd 6 _ rfl rfl rfl) rfl ?_
             exact awl_nil ⟨rfl, post_put⟩⟩⟩
           (by rfl) ?_
          refine r_assign rfl rfl ?_
          refine awl_nil ?_
          refine x_then ?_
          refine awp_seq ?_
          refine awp_region ?_
          refine r_move rfl rfl ?_
          refine r_cmp rfl rfl rfl rfl ?_
          refine r_move rfl rfl ?_
          refine g_run rfl rfl rfl ?_
          refine r_move rfl rfl ?_
          refine g_run rfl rfl rfl ?_
          refine r_load1b 0 rfl rfl rfl TW.agg52 rfl ?_
          refine g_run rfl rfl rfl ?_
          refine r_call0 hq rfl rfl (.cons (.ev rfl rfl) (.cons (.ev rfl rfl) .nil)) (sameE_ok (allV X L2 2 5) (by omega)) rfl TW.en16 rfl (fun r hr => ?_)
          obtain rfl := hr
          refine r_pickT rfl rfl rfl rfl ?_
          refine r_assign rfl rfl ?_
          refine awl_nil ?_
          refine x_then ?_
          refine awp_ret ?_
          exact ⟨(.inl rfl), _, [], (.one (by first | exact .mk rfl rfl | exact .nil rfl)), ⟨rfl, rfl⟩, (List.nil_sublist _), (by simp)⟩
         ·
          refine x_block ?_
          refine x_then ?_
          refine awp_seq ?_
          refine awp_imp (imp_commitBx 0 0 rfl rfl rfl) ?_
          refine awp_drawS [78, 79, 80, 81, 82, 77, 83, 84, 19] [_, _, _, _, _, _, _, _, _] [] [] TW.mixed rfl rfl rfl ⟨⟨⟨⟨⟨⟨⟨⟨⟨trivial
           , ⟨_, rfl, fun sl hd hr ho => by
             refine r_load1b 1 (hr 15 _ rfl rfl rfl) rfl rfl TW.agg52 rfl ?_
             exact awl_nil ⟨rfl, post_put⟩⟩⟩
           , ⟨_, rfl, fun sl hd hr ho => by
             refine r_loadAb 3 (hr 11 _ rfl rfl rfl) rfl TW.agg33 TW.sz33 rfl rfl ?_
             exact awl_nil ⟨rfl, post_put⟩⟩⟩
           , ⟨_, rfl, fun sl hd hr ho => by
             refine r_loadAb 2 (hr 13 _ rfl rfl rfl) rfl TW.agg33 TW.sz33 rfl rfl ?_
             exact awl_nil ⟨rfl, post_put⟩⟩⟩
           , ⟨_, rfl, fun sl hd hr ho => by
             refine r_call0 hq rfl rfl (.cons (.ev (hd 1 _ rfl rfl rfl) rfl) (.cons (.ev (hd 2 _ rfl rfl rfl) rfl) (.cons (.ev rfl rfl) (.cons (.ev rfl rfl) .nil)))) (of_ok (some (rt, nn)) X hL.idx.good L1 hl1 (l.length : Int) 2 5 (by omega) (by omega) (some (rt, nn)) X hL.idx.good L2 hl2 ((w % (l.length + 1) : Nat) : Int)) rfl TW.en10 rfl (fun r hr => ?_)
             obtain rfl := hr
             exact awl_nil ⟨rfl, post_put⟩⟩⟩
           , ⟨_, rfl, fun sl hd hr ho => by
             refine r_call0 hq rfl rfl (.cons (.ev (hd 0 _ rfl rfl rfl) rfl) (.cons (.ev (hd 3 _ rfl rfl rfl) rfl) .nil)) (apply_ok (allV X L1 2 5) (entriesF (allV X L1 2 5) (allV X L2 2 5)) (by omega) (by have := entries_len (allV X L1 2 5) (allV X L2 2 5); omega)) rfl TW.en15 rfl (fun r hr => ?_)
             obtain rfl : r = .tup [entsA (allV X L2 2 5), .v (.int .i64 0)] := by
              rcases hr with ⟨l2, h1, h2⟩ | ⟨h1, _⟩
              · rw [hap] at h1; cases h1; rw [h2, hcl]
              · rw [hap] at h1; cases h1
             exact awl_nil ⟨rfl, post_put⟩⟩⟩
           , ⟨_, rfl, fun sl hd hr ho => by
             refine r_move (hd 4 _ rfl rfl rfl) rfl ?_
             exact awl_nil ⟨rfl, post_put⟩⟩⟩
           , ⟨_, rfl, fun sl hd hr ho => by
             refine r_extract (hd 5 _ rfl rfl rfl) rfl rfl ?_
             exact awl_nil ⟨rfl, post_put⟩⟩⟩
           , ⟨_, rfl, fun sl hd hr ho => by
             refine r_extract (hd 5 _ rfl rfl rfl) rfl rfl ?_
             exact awl_nil ⟨rfl, post_put⟩⟩⟩
           , ⟨_, rfl, fun sl hd hr ho => by
             refine r_assign (hd 6 _ rfl rfl rfl) rfl ?_
             exact awl_nil ⟨rfl, post_put⟩⟩⟩
           (by rfl) ?_
          refine r_assign rfl rfl ?_
          refine awl_nil ?_
          refine x_then ?_
          refine awp_seq ?_
          refine awp_region ?_
          refine r_move rfl rfl ?_
          refine r_cmp rfl rfl rfl rfl ?_
          refine r_move rfl rfl ?_
          refine g_run rfl rfl rfl ?_
          refine r_move rfl rfl ?_
          refine g_run rfl rfl rfl ?_
          refine r_load1b 0 rfl rfl rfl TW.agg52 rfl ?_
          refine g_run rfl rfl rfl ?_
          refine r_call0 hq rfl rfl (.cons (.ev rfl rfl) (.cons (.ev rfl rfl) .nil)) (sameE_ok (allV X L2 2 5) (by omega)) rfl TW.en16 rfl (fun r hr => ?_)
          obtain rfl := hr
          refine r_pickT rfl rfl rfl rfl ?_
          refine r_assign rfl rfl ?_
          refine awl_nil ?_
          refine x_then ?_
          refine awp_ret ?_
          exact ⟨(.inl rfl), _, [], (.one (by first | exact .mk rfl rfl | exact .nil rfl)), ⟨rfl, rfl⟩, (List.nil_sublist _), (by simp)⟩
        ·
         intro c xs wo' hX
         exact hX.elim
       ·
        refine x_block ?_
        refine x_then ?_
        refine awp_seq ?_
        refine awp_seq ?_
        refine awp_region ?_
        refine awl_imp (imp_commitBx 0 0 rfl rfl rfl) ?_
        refine r_loadAb 2 rfl rfl TW.agg33 TW.sz33 rfl rfl ?_
        refine r_call0 hq rfl rfl (.cons (.ev rfl rfl) (.cons (.ev rfl rfl) (.cons (.ev rfl rfl) .nil))) (viewAll_ok (some (rt, nn)) L2 ((w % (l.length + 1) : Nat) : Int) 2 5 (by omega) (by omega)) rfl TW.en14 rfl (fun r hr => ?_)
        obtain rfl := hr
        refine awl_nil ?_
        refine x_then ?_
        refine awp_block ?_
        refine awp_rangeFuncS (fun pre wo => ∃ l : List Ent, pre = l.map eA ∧ GrowB b16 3 57 (l.map Ent.cs) wo) (fun _ _ _ => False) [(16, .a (.v (.pointer (some ⟨b16, 0, none⟩))))] [false, true] hq rfl (viewAll1_ok (some (rt, nn)) X hL.idx.good L2 hl2 ((w % (l.length + 1) : Nat) : Int) 2 5 (by omega) (by omega)) TW.en28 (fun pre x ⟨e, _, _, h⟩ => by subst h; rfl) rfl rfl rfl (List.nil_sublist _) (Slots.cons rfl (by first | exact .refl _ | exact .nilOwn _ _ | exact .nilSl _ | exact .ownSl _ _ _  | exact SV.le.of_eq (by simp)) Slots.nil) rfl rfl ⟨[], rfl, .inl ⟨rfl, rfl⟩⟩ ?_ ?_ ?_
        ·
         intro lr pre x wo rec busy w0 C0 hq hj hax
         obtain ⟨l, rfl, hgb⟩ := hj
         obtain ⟨e, het, _, rfl⟩ := hax
         have hll : l.length < (allV X L2 2 5).length := by have := (List.getElem?_eq_some_iff.1 het).1; simpa using this
         have hal := hs2
         rcases hgb with ⟨h0, rfl⟩ | ⟨h0, g, cap, rfl⟩
         ·
          obtain rfl : l = [] := by simpa using h0
          refine awpi_region ?_
          refine awli_op (fun c h => (by cases h)) ?_
          refine r_alloc TW.zero57 rfl (fun b18 => ?_)
          refine awl_nil ⟨rfl, ?_⟩
          refine awli_op (fun c h => (by cases h)) ?_
          first | (refine r_store 0 rfl rfl rfl TW.sz57 rfl rfl rfl ?_) | (refine r_store 1 rfl rfl rfl TW.sz57 rfl rfl rfl ?_) | (refine r_store 2 rfl rfl rfl TW.sz57 rfl rfl rfl ?_) | (refine r_store 3 rfl rfl rfl TW.sz57 rfl rfl rfl ?_)
          refine awl_nil ⟨rfl, ?_⟩
          refine awli_nil ?_
          refine ⟨rfl, 2, rfl, ?_⟩
          refine awpi_block ?_
          refine awpi_region ?_
          refine awli_op (fun c h => (by cases h)) ?_
          first | (refine r_load1b 0 rfl rfl rfl TW.agg52 rfl ?_) | (refine r_load1 rfl TW.agg52 rfl ?_) | (refine r_load1b 1 rfl rfl rfl TW.agg52 rfl ?_) | (refine r_load1b 2 rfl rfl rfl TW.agg52 rfl ?_) | (refine r_load1b 3 rfl rfl rfl TW.agg52 rfl ?_)
          refine awl_nil ⟨rfl, ?_⟩
          refine awli_op (fun c h => (by cases h)) ?_
          first | (refine r_loadAb 0 rfl rfl TW.agg57 TW.sz57 rfl rfl ?_) | (refine r_loadA rfl TW.agg57 TW.sz57 rfl rfl ?_) | (refine r_loadAb 1 rfl rfl TW.agg57 TW.sz57 rfl rfl ?_) | (refine r_loadAb 2 rfl rfl TW.agg57 TW.sz57 rfl rfl ?_) | (refine r_loadAb 3 rfl rfl TW.agg57 TW.sz57 rfl rfl ?_)
          refine awl_nil ⟨rfl, ?_⟩
          refine awli_op (fun c h => (by cases h)) ?_
          refine r_lit 75 (parts := [(0, .tmp 74)]) rfl TW.sl52 TW.sz57 TW.zraw57 rfl rfl rfl rfl rfl rfl rfl ?_
          refine awl_nil ⟨rfl, ?_⟩
          refine awli_op (fun c h => (by cases h)) ?_
          refine r_appendBN rfl rfl (by first | exact .sl _ | exact .own _ _) (by simp [chunks]) TW.sl52 TW.sz57 TW.by57 TW.zlen57 (by simp [chunks] <;> omega) (by simp [chunks] <;> omega) rfl (fun gb gc => ?_)
          refine awl_nil ⟨rfl, ?_⟩
          refine awli_op (fun c h => (by cases h)) ?_
          first | (refine r_store 0 rfl rfl rfl TW.sz52 rfl rfl rfl ?_) | (refine r_store 1 rfl rfl rfl TW.sz52 rfl rfl rfl ?_) | (refine r_store 2 rfl rfl rfl TW.sz52 rfl rfl rfl ?_) | (refine r_store 3 rfl rfl rfl TW.sz52 rfl rfl rfl ?_) | (refine r_store 4 rfl rfl rfl TW.sz52 rfl rfl rfl ?_)
          refine awl_nil ⟨rfl, ?_⟩
          refine awli_nil ?_
          refine x_block ?_
          refine ⟨_, .inl ⟨rfl, [e], rfl, .inr ⟨by simp, gb, gc, rfl⟩⟩, ?_, by simp⟩
          first | exact List.Sublist.refl _ | exact .cons_cons _ (.cons _ (.refl _)) | exact List.nil_sublist _ | exact .cons _ (.refl _) | exact .cons _ (.cons _ (.refl _)) | exact .cons _ (.cons _ (.cons _ (.refl _))) | exact .cons _ (.cons _ (.cons _ (.cons _ (.refl _)))) | exact .cons_cons _ (List.nil_sublist _)
         ·
          refine awpi_region ?_
          refine awli_op (fun c h => (by cases h)) ?_
          refine r_alloc TW.zero57 rfl (fun b18 => ?_)
          refine awl_nil ⟨rfl, ?_⟩
          refine awli_op (fun c h => (by cases h)) ?_
          first | (refine r_store 0 rfl rfl rfl TW.sz57 rfl rfl rfl ?_) | (refine r_store 1 rfl rfl rfl TW.sz57 rfl rfl rfl ?_) | (refine r_store 2 rfl rfl rfl TW.sz57 rfl rfl rfl ?_) | (refine r_store 3 rfl rfl rfl TW.sz57 rfl rfl rfl ?_) | (refine r_store 4 rfl rfl rfl TW.sz57 rfl rfl rfl ?_)
          refine awl_nil ⟨rfl, ?_⟩
          refine awli_nil ?_
          refine ⟨rfl, 3, rfl, ?_⟩
          refine awpi_block ?_
          refine awpi_region ?_
          refine awli_op (fun c h => (by cases h)) ?_
          first | (refine r_load1b 0 rfl rfl rfl TW.agg52 rfl ?_) | (refine r_load1 rfl TW.agg52 rfl ?_) | (refine r_load1b 1 rfl rfl rfl TW.agg52 rfl ?_) | (refine r_load1b 2 rfl rfl rfl TW.agg52 rfl ?_) | (refine r_load1b 3 rfl rfl rfl TW.agg52 rfl ?_) | (refine r_load1b 4 rfl rfl rfl TW.agg52 rfl ?_)
          refine awl_nil ⟨rfl, ?_⟩
          refine awli_op (fun c h => (by cases h)) ?_
          first | (refine r_loadAb 0 rfl rfl TW.agg57 TW.sz57 rfl rfl ?_) | (refine r_loadA rfl TW.agg57 TW.sz57 rfl rfl ?_) | (refine r_loadAb 1 rfl rfl TW.agg57 TW.sz57 rfl rfl ?_) | (refine r_loadAb 2 rfl rfl TW.agg57 TW.sz57 rfl rfl ?_) | (refine r_loadAb 3 rfl rfl TW.agg57 TW.sz57 rfl rfl ?_) | (refine r_loadAb 4 rfl rfl TW.agg57 TW.sz57 rfl rfl ?_)
          refine awl_nil ⟨rfl, ?_⟩
          refine awli_op (fun c h => (by cases h)) ?_
          refine r_lit 75 (parts := [(0, .tmp 74)]) rfl TW.sl52 TW.sz57 TW.zraw57 rfl rfl rfl rfl rfl rfl rfl ?_
          refine awl_nil ⟨rfl, ?_⟩
          refine awli_op (fun c h => (by cases h)) ?_
          refine r_appendBG 1 rfl rfl rfl rfl (by first | exact .sl _ | exact .own _ _) (by simp [chunks]) TW.sl52 TW.sz57 TW.by57 TW.zlen57 (by simp [chunks] <;> omega) (by simp [chunks] <;> omega) rfl (fun gb gc => ?_)
          refine awl_nil ⟨rfl, ?_⟩
          refine awli_op (fun c h => (by cases h)) ?_
          first | (refine r_store 0 rfl rfl rfl TW.sz52 rfl rfl rfl ?_) | (refine r_store 1 rfl rfl rfl TW.sz52 rfl rfl rfl ?_) | (refine r_store 2 rfl rfl rfl TW.sz52 rfl rfl rfl ?_) | (refine r_store 3 rfl rfl rfl TW.sz52 rfl rfl rfl ?_) | (refine r_store 4 rfl rfl rfl TW.sz52 rfl rfl rfl ?_)
          refine awl_nil ⟨rfl, ?_⟩
          refine awli_nil ?_
          refine x_block ?_
          refine ⟨_, .inl ⟨rfl, l ++ [e], by simp, .inr ⟨by simp, gb, gc, rfl⟩⟩, ?_, by simp⟩
          simp only [List.map_append, List.map_cons, List.map_nil]
          first | exact List.Sublist.refl _ | exact .cons_cons _ (.cons _ (.refl _)) | exact List.nil_sublist _ | exact .cons _ (.refl _) | exact .cons _ (.cons _ (.refl _)) | exact .cons _ (.cons _ (.cons _ (.refl _))) | exact .cons _ (.cons _ (.cons _ (.cons _ (.refl _)))) | exact .cons_cons _ (List.nil_sublist _)
        ·
         intro xs wo' hG hJ
         obtain ⟨lq, rfl, hgb⟩ := hJ
         obtain rfl := eA_inj hG
         rcases hgb with ⟨h0, rfl⟩ | ⟨h0, g1, cap, rfl⟩
         ·
          refine x_block ?_
          refine x_then ?_
          refine awp_seq ?_
          refine awp_imp (imp_boxLe (cs' := [.sl 3 ((allV X L2 2 5).map Ent.cs)]) 0 rfl (by rw [h0]; exact .cons (.nil 3) .nil)) ?_
          refine awp_drawS [78, 79, 80, 81, 82, 77, 83, 84, 19] [_, _, _, _, _, _, _, _, _] [] [] TW.mixed rfl rfl rfl ⟨⟨⟨⟨⟨⟨⟨⟨⟨trivial
           , ⟨_, rfl, fun sl hd hr ho => by
             refine r_load1b 1 (hr 15 _ rfl rfl rfl) rfl rfl TW.agg52 rfl ?_
             exact awl_nil ⟨rfl, post_put⟩⟩⟩
           , ⟨_, rfl, fun sl hd hr ho => by
             refine r_loadAb 3 (hr 11 _ rfl rfl rfl) rfl TW.agg33 TW.sz33 rfl rfl ?_
             exact awl_nil ⟨rfl, post_put⟩⟩⟩
           , ⟨_, rfl, fun sl hd hr ho => by
             refine r_loadAb 2 (hr 13 _ rfl rfl rfl) rfl TW.agg33 TW.sz33 rfl rfl ?_
             exact awl_nil ⟨rfl, post_put⟩⟩⟩
           , ⟨_, rfl, fun sl hd hr ho => by
             refine r_call0 hq rfl rfl (.cons (.ev (hd 1 _ rfl rfl rfl) rfl) (.cons (.ev (hd 2 _ rfl rfl rfl) rfl) (.cons (.ev rfl rfl) (.cons (.ev rfl rfl) .nil)))) (of_ok (some (rt, nn)) X hL.idx.good L1 hl1 (l.length : Int) 2 5 (by omega) (by omega) (some (rt, nn)) X hL.idx.good L2 hl2 ((w % (l.length + 1) : Nat) : Int)) rfl TW.en10 rfl (fun r hr => ?_)
             obtain rfl := hr
             exact awl_nil ⟨rfl, post_put⟩⟩⟩
           , ⟨_, rfl, fun sl hd hr ho => by
             refine r_call0 hq rfl rfl (.cons (.ev (hd 0 _ rfl rfl rfl) rfl) (.cons (.ev (hd 3 _ rfl rfl rfl) rfl) .nil)) (apply_ok (allV X L1 2 5) (entriesF (allV X L1 2 5) (allV X L2 2 5)) (by omega) (by have := entries_len (allV X L1 2 5) (allV X L2 2 5); omega)) rfl TW.en15 rfl (fun r hr => ?_)
             obtain rfl : r = .tup [entsA (allV X L2 2 5), .v (.int .i64 0)] := by
              rcases hr with ⟨l2, h1, h2⟩ | ⟨h1, _⟩
              · rw [hap] at h1; cases h1; rw [h2, hcl]
              · rw [hap] at h1; cases h1
             exact awl_nil ⟨rfl, post_put⟩⟩⟩
           , ⟨_, rfl, fun sl hd hr ho => by
             refine r_move (hd 4 _ rfl rfl rfl) rfl ?_
             exact awl_nil ⟨rfl, post_put⟩⟩⟩
           , ⟨_, rfl, fun sl hd hr ho => by
             refine r_extract (hd 5 _ rfl rfl rfl) rfl rfl ?_
             exact awl_nil ⟨rfl, post_put⟩⟩⟩
           , ⟨_, rfl, fun sl hd hr ho => by
             refine r_extract (hd 5 _ rfl rfl rfl) rfl rfl ?_
             exact awl_nil ⟨rfl, post_put⟩⟩⟩
           , ⟨_, rfl, fun sl hd hr ho => by
             refine r_assign (hd 6 _ rfl rfl rfl) rfl ?_
             exact awl_nil ⟨rfl, post_put⟩⟩⟩
           (by rfl) ?_
          refine r_assign rfl rfl ?_
          refine awl_nil ?_
          refine x_then ?_
          refine awp_seq ?_
          refine awp_region ?_
          refine r_move rfl rfl ?_
          refine r_cmp rfl rfl rfl rfl ?_
          refine r_move rfl rfl ?_
          refine g_run rfl rfl rfl ?_
          refine r_move rfl rfl ?_
          refine g_run rfl rfl rfl ?_
          refine r_load1b 0 rfl rfl rfl TW.agg52 rfl ?_
          refine g_run rfl rfl rfl ?_
          refine r_call0 hq rfl rfl (.cons (.ev rfl rfl) (.cons (.ev rfl rfl) .nil)) (sameE_ok (allV X L2 2 5) (by omega)) rfl TW.en16 rfl (fun r hr => ?_)
          obtain rfl := hr
          refine r_pickT rfl rfl rfl rfl ?_
          refine r_assign rfl rfl ?_
          refine awl_nil ?_
          refine x_then ?_
          refine awp_ret ?_
          exact ⟨(.inl rfl), _, [], (.one (by first | exact .mk rfl rfl | exact .nil rfl)), ⟨rfl, rfl⟩, (List.nil_sublist _), (by simp)⟩
         ·
          refine x_block ?_
          refine x_then ?_
          refine awp_seq ?_
          refine awp_imp (imp_commitBx 0 0 rfl rfl rfl) ?_
          refine awp_drawS [78, 79, 80, 81, 82, 77, 83, 84, 19] [_, _, _, _, _, _, _, _, _] [] [] TW.mixed rfl rfl rfl ⟨⟨⟨⟨⟨⟨⟨⟨⟨trivial
           , ⟨_, rfl, fun sl hd hr ho => by
             refine r_load1b 1 (hr 15 _ rfl rfl rfl) rfl rfl TW.agg52 rfl ?_
             exact awl_nil ⟨rfl, post_put⟩⟩⟩
           , ⟨_, rfl, fun sl hd hr ho => by
             refine r_loadAb 3 (hr 11 _ rfl rfl rfl) rfl TW.agg33 TW.sz33 rfl rfl ?_
             exact awl_nil ⟨rfl, post_put⟩⟩⟩
           , ⟨_, rfl, fun sl hd hr ho => by
             refine r_loadAb 2 (hr 13 _ rfl rfl rfl) rfl TW.agg33 TW.sz33 rfl rfl ?_
             exact awl_nil ⟨rfl, post_put⟩⟩⟩
           , ⟨_, rfl, fun sl hd hr ho => by
             refine r_call0 hq rfl rfl (.cons (.ev (hd 1 _ rfl rfl rfl) rfl) (.cons (.ev (hd 2 _ rfl rfl rfl) rfl) (.cons (.ev rfl rfl) (.cons (.ev rfl rfl) .nil)))) (of_ok (some (rt, nn)) X hL.idx.good L1 hl1 (l.length : Int) 2 5 (by omega) (by omega) (some (rt, nn)) X hL.idx.good L2 hl2 ((w % (l.length + 1) : Nat) : Int)) rfl TW.en10 rfl (fun r hr => ?_)
             obtain rfl := hr
             exact awl_nil ⟨rfl, post_put⟩⟩⟩
           , ⟨_, rfl, fun sl hd hr ho => by
             refine r_call0 hq rfl rfl (.cons (.ev (hd 0 _ rfl rfl rfl) rfl) (.cons (.ev (hd 3 _ rfl rfl rfl) rfl) .nil)) (apply_ok (allV X L1 2 5) (entriesF (allV X L1 2 5) (allV X L2 2 5)) (by omega) (by have := entries_len (allV X L1 2 5) (allV X L2 2 5); omega)) rfl TW.en15 rfl (fun r hr => ?_)
             obtain rfl : r = .tup [entsA (allV X L2 2 5), .v (.int .i64 0)] := by
              rcases hr with ⟨l2, h1, h2⟩ | ⟨h1, _⟩
              · rw [hap] at h1; cases h1; rw [h2, hcl]
              · rw [hap] at h1; cases h1
             exact awl_nil ⟨rfl, post_put⟩⟩⟩
           , ⟨_, rfl, fun sl hd hr ho => by
             refine r_move (hd 4 _ rfl rfl rfl) rfl ?_
             exact awl_nil ⟨rfl, post_put⟩⟩⟩
           , ⟨_, rfl, fun sl hd hr ho => by
             refine r_extract (hd 5 _ rfl rfl rfl) rfl rfl ?_
             exact awl_nil ⟨rfl, post_put⟩⟩⟩
           , ⟨_, rfl, fun sl hd hr ho => by
             refine r_extract (hd 5 _ rfl rfl rfl) rfl rfl ?_
             exact awl_nil ⟨rfl, post_put⟩⟩⟩
           , ⟨_, rfl, fun sl hd hr ho => by
             refine r_assign (hd 6 _ rfl rfl rfl) rfl ?_
             exact awl_nil ⟨rfl, post_put⟩⟩⟩
           (by rfl) ?_
          refine r_assign rfl rfl ?_
          refine awl_nil ?_
          refine x_then ?_
          refine awp_seq ?_
          refine awp_region ?_
          refine r_move rfl rfl ?_
          refine r_cmp rfl rfl rfl rfl ?_
          refine r_move rfl rfl ?_
          refine g_run rfl rfl rfl ?_
          refine r_move rfl rfl ?_
          refine g_run rfl rfl rfl ?_
          refine r_load1b 0 rfl rfl rfl TW.agg52 rfl ?_
          refine g_run rfl rfl rfl ?_
          refine r_call0 hq rfl rfl (.cons (.ev rfl rfl) (.cons (.ev rfl rfl) .nil)) (sameE_ok (allV X L2 2 5) (by omega)) rfl TW.en16 rfl (fun r hr => ?_)
          obtain rfl := hr
          refine r_pickT rfl rfl rfl rfl ?_
          refine r_assign rfl rfl ?_
          refine awl_nil ?_
          refine x_then ?_
          refine awp_ret ?_
          exact ⟨(.inl rfl), _, [], (.one (by first | exact .mk rfl rfl | exact .nil rfl)), ⟨rfl, rfl⟩, (List.nil_sublist _), (by simp)⟩
        ·
         intro c xs wo' hX
         exact hX.elim
      ·
       intro c xs wo' hX
       exact hX.elim
   ·
    refine r_move rfl rfl ?_
    refine r_extract rfl rfl rfl ?_
    refine r_extract rfl rfl rfl ?_
    refine r_alloc TW.zero33 rfl (fun b11 => ?_)
    first | (refine r_store 0 rfl rfl rfl TW.sz33 rfl rfl rfl ?_) | (refine r_store 1 rfl rfl rfl TW.sz33 rfl rfl rfl ?_) | (refine r_store 2 rfl rfl rfl TW.sz33 rfl rfl rfl ?_)
    refine r_assign rfl rfl ?_
    refine awl_nil ?_
    refine x_then ?_
    refine awp_seq ?_
    refine awp_region ?_
    refine r_move rfl rfl ?_
    refine r_move rfl rfl ?_
    refine r_move rfl rfl ?_
    refine r_move rfl rfl ?_
    refine r_conv ((w : Nat) : Int) rfl TW.un5 TW.un31 (wrap_u64 (by omega)) rfl ?_
    refine r_move rfl rfl ?_
    refine r_ari ((l.length + 1 : Nat) : Int) rfl rfl rfl (by rw [wrap_u64 (by omega)]; omega) rfl ?_
    refine r_div ((w % (l.length + 1) : Nat) : Int) rfl rfl (rem_some (by omega)) (by rw [Int.tmod_eq_emod_of_nonneg (by omega)]; rfl) rfl ?_
    refine r_callO hq rfl rfl (.cons (.ev rfl rfl) (.cons (.ev rfl rfl) (.cons (.ev rfl rfl) (.cons (.ev rfl rfl) .nil)))) (viewNew_ok' (rt, nn) F hL.fo (u % 3) (by omega) ((w % (l.length + 1) : Nat) : Int) g gf true true) rfl TW.en9 (.cons _ (.cons_cons _ (.cons_cons _ (List.nil_sublist _)))) rfl (fun r nobjs hr => ?_)
    obtain ⟨rfl, hr⟩ := hr
    rcases hr with ⟨hok2, rfl⟩ | ⟨hok2, rfl⟩
    ·
     refine r_move rfl rfl ?_
     refine r_extract rfl rfl rfl ?_
     refine r_extract rfl rfl rfl ?_
     refine r_alloc TW.zero33 rfl (fun b13 => ?_)
     first | (refine r_store 0 rfl rfl rfl TW.sz33 rfl rfl rfl ?_) | (refine r_store 1 rfl rfl rfl TW.sz33 rfl rfl rfl ?_) | (refine r_store 2 rfl rfl rfl TW.sz33 rfl rfl rfl ?_) | (refine r_store 3 rfl rfl rfl TW.sz33 rfl rfl rfl ?_)
     refine r_assign rfl rfl ?_
     refine awl_nil ?_
     refine x_then ?_
     refine awp_cut (fun S => ∃ L1 : List St, ∃ L2 : List St, S = ⟨92, [(11, .a (.v (.pointer (some ⟨b11, 0, none⟩)))), (13, .a (.v (.pointer (some ⟨b13, 0, none⟩))))], [⟨b13, true, .box [encT (some (rt, nn)), .sl 3 (L2.map St.cs), .v (.int .u64 (((w % (l.length + 1) : Nat) : Int)))]⟩, ⟨b11, true, .box [encT (some (rt, nn)), .sl 3 (L1.map St.cs), .v (.int .u64 ((l.length : Int)))]⟩]⟩ ∧ (L1 = lineF F (u % 3) (l.length : Int)) ∧ (L2 = lineF F (u % 3) ((w % (l.length + 1) : Nat) : Int))) ?_ ?_
     ·
      refine awp_seq ?_
      refine awp_region ?_
      refine r_move rfl rfl ?_
      refine r_cmp rfl rfl rfl rfl ?_
      refine r_move rfl rfl ?_
      refine g_skip rfl rfl rfl rfl ?_
      refine g_skip rfl rfl rfl rfl ?_
      refine r_pickT rfl rfl rfl rfl ?_
      refine awl_nil ?_
      refine x_then ?_
      refine awp_condT rfl ?_
      refine awp_seq ?_
      refine awp_region ?_
      refine r_assign rfl rfl ?_
      refine awl_nil ?_
      refine x_then ?_
      refine awp_ret ?_
      refine x_thenR ?_
      exact ⟨(.inl rfl), _, [], (.one (by first | exact .mk rfl rfl | exact .nil rfl)), ⟨rfl, rfl⟩, (List.nil_sublist _), (by simp)⟩
     ·
      rintro _ ⟨L1, L2, rfl, hL1, hL2⟩
      have hl1 : L1.length ≤ 1000 := by rw [hL1]; exact lineF_len _ _ _
      have hl2 : L2.length ≤ 1000 := by rw [hL2]; exact lineF_len _ _ _
      have hs1 : (allV X L1 2 5).length ≤ 10 := Nat.le_trans (allV_len _ _ _ _) (by decide)
      have hs2 : (allV X L2 2 5).length ≤ 10 := Nat.le_trans (allV_len _ _ _ _) (by decide)
      obtain ⟨l', hap, hcl⟩ := undone (L := L1) (K := L2) (m := 2) (n := 5) hXs (fun z hz => (hL.nums z hz).1)
      refine awp_seq ?_
      refine awp_region ?_
      refine r_alloc TW.zero52 rfl (fun b15 => ?_)
      refine r_alloc TW.zero52 rfl (fun b16 => ?_)
      refine awl_nil ?_
      refine x_then ?_
      refine awp_seq ?_
      refine awp_seq ?_
      refine awp_region ?_
      refine r_loadAb 3 rfl rfl TW.agg33 TW.sz33 rfl rfl ?_
      refine r_call0 hq rfl rfl (.cons (.ev rfl rfl) (.cons (.ev rfl rfl) (.cons (.ev rfl rfl) .nil))) (viewAll_ok (some (rt, nn)) L1 (l.length : Int) 2 5 (by omega) (by omega)) rfl TW.en14 rfl (fun r hr => ?_)
      obtain rfl := hr
      refine awl_nil ?_
      refine x_then ?_
      refine awp_block ?_
      refine awp_rangeFuncS (fun pre wo => ∃ l : List Ent, pre = l.map eA ∧ GrowB b15 3 57 (l.map Ent.cs) wo) (fun _ _ _ => False) [(15, .a (.v (.pointer (some ⟨b15, 0, none⟩))))] [false, true] hq rfl (viewAll1_ok (some (rt, nn)) X hL.idx.good L1 hl1 (l.length : Int) 2 5 (by omega) (by omega)) TW.en28 (fun pre x ⟨e, _, _, h⟩ => by subst h; rfl) rfl rfl rfl (List.nil_sublist _) (Slots.cons rfl (by first | exact .refl _ | exact .nilOwn _ _ | exact .nilSl _ | exact .ownSl _ _ _  | exact SV.le.of_eq (by simp)) Slots.nil) rfl rfl ⟨[], rfl, .inl ⟨rfl, rfl⟩⟩ ?_ ?_ ?_
      ·
       intro lr pre x wo rec busy w0 C0 hq hj hax
       obtain ⟨l, rfl, hgb⟩ := hj
       obtain ⟨e, het, _, rfl⟩ := hax
       have hll : l.length < (allV X L1 2 5).length := by have := (List.getElem?_eq_some_iff.1 het).1; simpa using this
       have hal := hs1
       rcases hgb with ⟨h0, rfl⟩ | ⟨h0, g, cap, rfl⟩
       ·
        obtain rfl : l = [] := by simpa using h0
        refine awpi_region ?_
        refine awli_op (fun c h => (by cases h)) ?_
        refine r_alloc TW.zero57 rfl (fun b17 => ?_)
        refine awl_nil ⟨rfl, ?_⟩
        refine awli_op (fun c h => (by cases h)) ?_
        first | (refine r_store 0 rfl rfl rfl TW.sz57 rfl rfl rfl ?_) | (refine r_store 1 rfl rfl rfl TW.sz57 rfl rfl rfl ?_) | (refine r_store 2 rfl rfl rfl TW.sz57 rfl rfl rfl ?_) | (refine r_store 3 rfl rfl rfl TW.sz57 rfl rfl rfl ?_)
        refine awl_nil ⟨rfl, ?_⟩
        refine awli_nil ?_
        refine ⟨rfl, 2, rfl, ?_⟩
        refine awpi_block ?_
        refine awpi_region ?_
        refine awli_op (fun c h => (by cases h)) ?_
        first | (refine r_load1b 0 rfl rfl rfl TW.agg52 rfl ?_) | (refine r_load1 rfl TW.agg52 rfl ?_) | (refine r_load1b 1 rfl rfl rfl TW.agg52 rfl ?_) | (refine r_load1b 2 rfl rfl rfl TW.agg52 rfl ?_) | (refine r_load1b 3 rfl rfl rfl TW.agg52 rfl ?_)
        refine awl_nil ⟨rfl, ?_⟩
        refine awli_op (fun c h => (by cases h)) ?_
        first | (refine r_loadAb 0 rfl rfl TW.agg57 TW.sz57 rfl rfl ?_) | (refine r_loadA rfl TW.agg57 TW.sz57 rfl rfl ?_) | (refine r_loadAb 1 rfl rfl TW.agg57 TW.sz57 rfl rfl ?_) | (refine r_loadAb 2 rfl rfl TW.agg57 TW.sz57 rfl rfl ?_) | (refine r_loadAb 3 rfl rfl TW.agg57 TW.sz57 rfl rfl ?_)
        refine awl_nil ⟨rfl, ?_⟩
        refine awli_op (fun c h => (by cases h)) ?_
        refine r_lit 68 (parts := [(0, .tmp 67)]) rfl TW.sl52 TW.sz57 TW.zraw57 rfl rfl rfl rfl rfl rfl rfl ?_
        refine awl_nil ⟨rfl, ?_⟩
        refine awli_op (fun c h => (by cases h)) ?_
        refine r_appendBN rfl rfl (by first | exact .sl _ | exact .own _ _) (by simp [chunks]) TW.sl52 TW.sz57 TW.by57 TW.zlen57 (by simp [chunks] <;> omega) (by simp [chunks] <;> omega) rfl (fun gb gc => ?_)
        refine awl_nil ⟨rfl, ?_⟩
        refine awli_op (fun c h => (by cases h)) ?_
        first | (refine r_store 0 rfl rfl rfl TW.sz52 rfl rfl rfl ?_) | (refine r_store 1 rfl rfl rfl TW.sz52 rfl rfl rfl ?_) | (refine r_store 2 rfl rfl rfl TW.sz52 rfl rfl rfl ?_) | (refine r_store 3 rfl rfl rfl TW.sz52 rfl rfl rfl ?_) | (refine r_store 4 rfl rfl rfl TW.sz52 rfl rfl rfl ?_)
        refine awl_nil ⟨rfl, ?_⟩
        refine awli_nil ?_
        refine x_block ?_
        refine ⟨_, .inl ⟨rfl, [e], rfl, .inr ⟨by simp, gb, gc, rfl⟩⟩, ?_, by simp⟩
        first | exact List.Sublist.refl _ | exact .cons_cons _ (.cons _ (.refl _)) | exact List.nil_sublist _ | exact .cons _ (.refl _) | exact .cons _ (.cons _ (.refl _)) | exact .cons _ (.cons _ (.cons _ (.refl _))) | exact .cons _ (.cons _ (.cons _ (.cons _ (.refl _)))) | exact .cons_cons _ (List.nil_sublist _)
       ·
        refine awpi_region ?_
        refine awli_op (fun c h => (by cases h)) ?_
        refine r_alloc TW.zero57 rfl (fun b17 => ?_)
        refine awl_nil ⟨rfl, ?_⟩
        refine awli_op (fun c h => (by cases h)) ?_
        first | (refine r_store 0 rfl rfl rfl TW.sz57 rfl rfl rfl ?_) | (refine r_store 1 rfl rfl rfl TW.sz57 rfl rfl rfl ?_) | (refine r_store 2 rfl rfl rfl TW.sz57 rfl rfl rfl ?_) | (refine r_store 3 rfl rfl rfl TW.sz57 rfl rfl rfl ?_) | (refine r_store 4 rfl rfl rfl TW.sz57 rfl rfl rfl ?_)
        refine awl_nil ⟨rfl, ?_⟩
        refine awli_nil ?_
        refine ⟨rfl, 3, rfl, ?_⟩
        refine awpi_block ?_
        refine awpi_region ?_
        refine awli_op (fun c h => (by cases h)) ?_
        first | (refine r_load1b 0 rfl rfl rfl TW.agg52 rfl ?_) | (refine r_load1 rfl TW.agg52 rfl ?_) | (refine r_load1b 1 rfl rfl rfl TW.agg52 rfl ?_) | (refine r_load1b 2 rfl rfl rfl TW.agg52 rfl ?_) | (refine r_load1b 3 rfl rfl rfl TW.agg52 rfl ?_) | (refine r_load1b 4 rfl rfl rfl TW.agg52 rfl ?_)
        refine awl_nil ⟨rfl, ?_⟩
        refine awli_op (fun c h => (by cases h)) ?_
        first | (refine r_loadAb 0 rfl rfl TW.agg57 TW.sz57 rfl rfl ?_) | (refine r_loadA rfl TW.agg57 TW.sz57 rfl rfl ?_) | (refine r_loadAb 1 rfl rfl TW.agg57 TW.sz57 rfl rfl ?_) | (refine r_loadAb 2 rfl rfl TW.agg57 TW.sz57 rfl rfl ?_) | (refine r_loadAb 3 rfl rfl TW.agg57 TW.sz57 rfl rfl ?_) | (refine r_loadAb 4 rfl rfl TW.agg57 TW.sz57 rfl rfl ?_)
        refine awl_nil ⟨rfl, ?_⟩
        refine awli_op (fun c h => (by cases h)) ?_
        refine r_lit 68 (parts := [(0, .tmp 67)]) rfl TW.sl52 TW.sz57 TW.zraw57 rfl rfl rfl rfl rfl rfl rfl ?_
        refine awl_nil ⟨rfl, ?_⟩
        refine awli_op (fun c h => (by cases h)) ?_
        refine r_appendBG 1 rfl rfl rfl rfl (by first | exact .sl _ | exact .own _ _) (by simp [chunks]) TW.sl52 TW.sz57 TW.by57 TW.zlen57 (by simp [chunks] <;> omega) (by simp [chunks] <;> omega) rfl (fun gb gc => ?_)
        refine awl_nil ⟨rfl, ?_⟩
        refine awli_op (fun c h => (by cases h)) ?_
        first | (refine r_store 0 rfl rfl rfl TW.sz52 rfl rfl rfl ?_) | (refine r_store 1 rfl rfl rfl TW.sz52 rfl rfl rfl ?_) | (refine r_store 2 rfl rfl rfl TW.sz52 rfl rfl rfl ?_) | (refine r_store 3 rfl rfl rfl TW.sz52 rfl rfl rfl ?_) | (refine r_store 4 rfl rfl rfl TW.sz52 rfl rfl rfl ?_)
        refine awl_nil ⟨rfl, ?_⟩
        refine awli_nil ?_
        refine x_block ?_
        refine ⟨_, .inl ⟨rfl, l ++ [e], by simp, .inr ⟨by simp, gb, gc, rfl⟩⟩, ?_, by simp⟩
        simp only [List.map_append, List.map_cons, List.map_nil]
        first | exact List.Sublist.refl _ | exact .cons_cons _ (.cons _ (.refl _)) | exact List.nil_sublist _ | exact .cons _ (.refl _) | exact .cons _ (.cons _ (.refl _)) | exact .cons _ (.cons _ (.cons _ (.refl _))) | exact .cons _ (.cons _ (.cons _ (.cons _ (.refl _)))) | exact .cons_cons _ (List.nil_sublist _)
      ·
       intro xs wo' hG hJ
       obtain ⟨lq, rfl, hgb⟩ := hJ
       obtain rfl := eA_inj hG
       rcases hgb with ⟨h0, rfl⟩ | ⟨h0, g1, cap, rfl⟩
       ·
        have hP0 : ((allV X L1 2 5).map Ent.cs) = [] := h0
        refine x_block ?_
        refine x_then ?_
        refine awp_seq ?_
        refine awp_seq ?_
        refine awp_region ?_
        refine awl_imp (imp_boxLe (cs' := [.sl 3 ((allV X L1 2 5).map Ent.cs)]) 0 rfl (by rw [h0]; exact .cons (.nil 3) .nil)) ?_
        refine r_loadAb 2 rfl rfl TW.agg33 TW.sz33 rfl rfl ?_
        refine r_call0 hq rfl rfl (.cons (.ev rfl rfl) (.cons (.ev rfl rfl) (.cons (.ev rfl rfl) .nil))) (viewAll_ok (some (rt, nn)) L2 ((w % (l.length + 1) : Nat) : Int) 2 5 (by omega) (by omega)) rfl TW.en14 rfl (fun r hr => ?_)
        obtain rfl := hr
        refine awl_nil ?_
        refine x_then ?_
        refine awp_block ?_
        refine awp_rangeFuncS (fun pre wo => ∃ l : List Ent, pre = l.map eA ∧ GrowB b16 3 57 (l.map Ent.cs) wo) (fun _ _ _ => False) [(16, .a (.v (.pointer (some ⟨b16, 0, none⟩))))] [false, true] hq rfl (viewAll1_ok (some (rt, nn)) X hL.idx.good L2 hl2 ((w % (l.length + 1) : Nat) : Int) 2 5 (by omega) (by omega)) TW.en28 (fun pre x ⟨e, _, _, h⟩ => by subst h; rfl) rfl rfl rfl (List.nil_sublist _) (Slots.cons rfl (by first | exact .refl _ | exact .nilOwn _ _ | exact .nilSl _ | exact .ownSl _ _ _  | exact SV.le.of_eq (by simp)) Slots.nil) rfl rfl ⟨[], rfl, .inl ⟨rfl, rfl⟩⟩ ?_ ?_ ?_
        ·
         intro lr pre x wo rec busy w0 C0 hq hj hax
         obtain ⟨l, rfl, hgb⟩ := hj
         obtain ⟨e, het, _, rfl⟩ := hax
         have hll : l.length < (allV X L2 2 5).length := by have := (List.getElem?_eq_some_iff.1 het).1; simpa using this
         have hal := hs2
         rcases hgb with ⟨h0, rfl⟩ | ⟨h0, g, cap, rfl⟩
         ·
          obtain rfl : l = [] := by simpa using h0
          refine awpi_region ?_
          refine awli_op (fun c h => (by cases h)) ?_
          refine r_alloc TW.zero57 rfl (fun b18 => ?_)
          refine awl_nil ⟨rfl, ?_⟩
          refine awli_op (fun c h => (by cases h)) ?_
          first | (refine r_store 0 rfl rfl rfl TW.sz57 rfl rfl rfl ?_) | (refine r_store 1 rfl rfl rfl TW.sz57 rfl rfl rfl ?_) | (refine r_store 2 rfl rfl rfl TW.sz57 rfl rfl rfl ?_) | (refine r_store 3 rfl rfl rfl TW.sz57 rfl rfl rfl ?_)
          refine awl_nil ⟨rfl, ?_⟩
          refine awli_nil ?_
          refine ⟨rfl, 2, rfl, ?_⟩
          refine awpi_block ?_
          refine awpi_region ?_
          refine awli_op (fun c h => (by cases h)) ?_
          first | (refine r_load1b 0 rfl rfl rfl TW.agg52 rfl ?_) | (refine r_load1 rfl TW.agg52 rfl ?_) | (refine r_load1b 1 rfl rfl rfl TW.agg52 rfl ?_) | (refine r_load1b 2 rfl rfl rfl TW.agg52 rfl ?_) | (refine r_load1b 3 rfl rfl rfl TW.agg52 rfl ?_)
          refine awl_nil ⟨rfl, ?_⟩
          refine awli_op (fun c h => (by cases h)) ?_
          first | (refine r_loadAb 0 rfl rfl TW.agg57 TW.sz57 rfl rfl ?_) | (refine r_loadA rfl TW.agg57 TW.sz57 rfl rfl ?_) | (refine r_loadAb 1 rfl rfl TW.agg57 TW.sz57 rfl rfl ?_) | (refine r_loadAb 2 rfl rfl TW.agg57 TW.sz57 rfl rfl ?_) | (refine r_loadAb 3 rfl rfl TW.agg57 TW.sz57 rfl rfl ?_)
          refine awl_nil ⟨rfl, ?_⟩
          refine awli_op (fun c h => (by cases h)) ?_
          refine r_lit 75 (parts := [(0, .tmp 74)]) rfl TW.sl52 TW.sz57 TW.zraw57 rfl rfl rfl rfl rfl rfl rfl ?_
          refine awl_nil ⟨rfl, ?_⟩
          refine awli_op (fun c h => (by cases h)) ?_
          refine r_appendBN rfl rfl (by first | exact .sl _ | exact .own _ _) (by simp [chunks]) TW.sl52 TW.sz57 TW.by57 TW.zlen57 (by simp [chunks] <;> omega) (by simp [chunks] <;> omega) rfl (fun gb gc => ?_)
          refine awl_nil ⟨rfl, ?_⟩
          refine awli_op (fun c h => (by cases h)) ?_
          first | (refine r_store 0 rfl rfl rfl TW.sz52 rfl rfl rfl ?_) | (refine r_store 1 rfl rfl rfl TW.sz52 rfl rfl rfl ?_) | (refine r_store 2 rfl rfl rfl TW.sz52 rfl rfl rfl ?_) | (refine r_store 3 rfl rfl rfl TW.sz52 rfl rfl rfl ?_) | (refine r_store 4 rfl rfl rfl TW.sz52 rfl rfl rfl ?_)
          refine awl_nil ⟨rfl, ?_⟩
          refine awli_nil ?_
          refine x_block ?_
          refine ⟨_, .inl ⟨rfl, [e], rfl, .inr ⟨by simp, gb, gc, rfl⟩⟩, ?_, by simp⟩
          first | exact List.Sublist.refl _ | exact .cons_cons _ (.cons _ (.refl _)) | exact List.nil_sublist _ | exact .cons _ (.refl _) | exact .cons _ (.cons _ (.refl _)) | exact .cons _ (.cons _ (.cons _ (.refl _))) | exact .cons _ (.cons _ (.cons _ (.cons _ (.refl _)))) | exact .cons_cons _ (List.nil_sublist _)
         ·
          refine awpi_region ?_
          refine awli_op (fun c h => (by cases h)) ?_
          refine r_alloc TW.zero57 rfl (fun b18 => ?_)
          refine awl_nil ⟨rfl, ?_⟩
          refine awli_op (fun c h => (by cases h)) ?_
          first | (refine r_store 0 rfl rfl rfl TW.sz57 rfl rfl rfl ?_) | (refine r_store 1 rfl rfl rfl TW.sz57 rfl rfl rfl ?_) | (refine r_store 2 rfl rfl rfl TW.sz57 rfl rfl rfl ?_) | (refine r_store 3 rfl rfl rfl TW.sz57 rfl rfl rfl ?_) | (refine r_store 4 rfl rfl rfl TW.sz57 rfl rfl rfl ?_)
          refine awl_nil ⟨rfl, ?_⟩
          refine awli_nil ?_
          refine ⟨rfl, 3, rfl, ?_⟩
          refine awpi_block ?_
          refine awpi_region ?_
          refine awli_op (fun c h => (by cases h)) ?_
          first | (refine r_load1b 0 rfl rfl rfl TW.agg52 rfl ?_) | (refine r_load1 rfl TW.agg52 rfl ?_) | (refine r_load1b 1 rfl rfl rfl TW.agg52 rfl ?_) | (refine r_load1b 2 rfl rfl rfl TW.agg52 rfl ?_) | (refine r_load1b 3 rfl rfl rfl TW.agg52 rfl ?_) | (refine r_load1b 4 rfl rfl rfl TW.agg52 rfl ?_)
          refine awl_nil ⟨rfl, ?_⟩
          refine awli_op (fun c h => (by cases h)) ?_
          first | (refine r_loadAb 0 rfl rfl TW.agg57 TW.sz57 rfl rfl ?_) | (refine r_loadA rfl TW.agg57 TW.sz57 rfl rfl ?_) | (refine r_loadAb 1 rfl rfl TW.agg57 TW.sz57 rfl rfl ?_) | (refine r_loadAb 2 rfl rfl TW.agg57 TW.sz57 rfl rfl ?_) | (refine r_loadAb 3 rfl rfl TW.agg57 TW.sz57 rfl rfl ?_) | (refine r_loadAb 4 rfl rfl TW.agg57 TW.sz57 rfl rfl ?_)
          refine awl_nil ⟨rfl, ?_⟩
          refine awli_op (fun c h => (by cases h)) ?_
          refine r_lit 75 (parts := [(0, .tmp 74)]) rfl TW.sl52 TW.sz57 TW.zraw57 rfl rfl rfl rfl rfl rfl rfl ?_
          refine awl_nil ⟨rfl, ?_⟩
          refine awli_op (fun c h => (by cases h)) ?_
          refine r_appendBG 1 rfl rfl rfl rfl (by first | exact .sl _ | exact .own _ _) (by simp [chunks]) TW.sl52 TW.sz57 TW.by57 TW.zlen57 (by simp [chunks] <;> omega) (by simp [chunks] <;> omega) rfl (fun gb gc => ?_)
          refine awl_nil ⟨rfl, ?_⟩
          refine awli_op (fun c h => (by cases h)) ?_
          first | (refine r_store 0 rfl rfl rfl TW.sz52 rfl rfl rfl ?_) | (refine r_store 1 rfl rfl rfl TW.sz52 rfl rfl rfl ?_) | (refine r_store 2 rfl rfl rfl TW.sz52 rfl rfl rfl ?_) | (refine r_store 3 rfl rfl rfl TW.sz52 rfl rfl rfl ?_) | (refine r_store 4 rfl rfl rfl TW.sz52 rfl rfl rfl ?_)
          refine awl_nil ⟨rfl, ?_⟩
          refine awli_nil ?_
          refine x_block ?_
          refine ⟨_, .inl ⟨rfl, l ++ [e], by simp, .inr ⟨by simp, gb, gc, rfl⟩⟩, ?_, by simp⟩
          simp only [List.map_append, List.map_cons, List.map_nil]
          first | exact List.Sublist.refl _ | exact .cons_cons _ (.cons _ (.refl _)) | exact List.nil_sublist _ | exact .cons _ (.refl _) | exact .cons _ (.cons _ (.refl _)) | exact .cons _ (.cons _ (.cons _ (.refl _))) | exact .cons _ (.cons _ (.cons _ (.cons _ (.refl _)))) | exact .cons_cons _ (List.nil_sublist _)
        ·
         intro xs wo' hG hJ
         obtain ⟨lq, rfl, hgb⟩ := hJ
         obtain rfl := eA_inj hG
         rcases hgb with ⟨h0, rfl⟩ | ⟨h0, g1, cap, rfl⟩
         ·
          refine x_block ?_
          refine x_then ?_
          refine awp_seq ?_
          refine awp_imp (imp_boxLe (cs' := [.sl 3 ((allV X L2 2 5).map Ent.cs)]) 0 rfl (by rw [h0]; exact .cons (.nil 3) .nil)) ?_
          refine awp_drawS [78, 79, 80, 81, 82, 77, 83, 84, 19] [_, _, _, _, _, _, _, _, _] [] [] TW.mixed rfl rfl rfl ⟨⟨⟨⟨⟨⟨⟨⟨⟨trivial
           , ⟨_, rfl, fun sl hd hr ho => by
             refine r_load1b 1 (hr 15 _ rfl rfl rfl) rfl rfl TW.agg52 rfl ?_
             exact awl_nil ⟨rfl, post_put⟩⟩⟩
           , ⟨_, rfl, fun sl hd hr ho => by
             refine r_loadAb 3 (hr 11 _ rfl rfl rfl) rfl TW.agg33 TW.sz33 rfl rfl ?_
             exact awl_nil ⟨rfl, post_put⟩⟩⟩
           , ⟨_, rfl, fun sl hd hr ho => by
             refine r_loadAb 2 (hr 13 _ rfl rfl rfl) rfl TW.agg33 TW.sz33 rfl rfl ?_
             exact awl_nil ⟨rfl, post_put⟩⟩⟩
           , ⟨_, rfl, fun sl hd hr ho => by
             refine r_call0 hq rfl rfl (.cons (.ev (hd 1 _ rfl rfl rfl) rfl) (.cons (.ev (hd 2 _ rfl rfl rfl) rfl) (.cons (.ev rfl rfl) (.cons (.ev rfl rfl) .nil)))) (of_ok (some (rt, nn)) X hL.idx.good L1 hl1 (l.length : Int) 2 5 (by omega) (by omega) (some (rt, nn)) X hL.idx.good L2 hl2 ((w % (l.length + 1) : Nat) : Int)) rfl TW.en10 rfl (fun r hr => ?_)
             obtain rfl := hr
             exact awl_nil ⟨rfl, post_put⟩⟩⟩
           , ⟨_, rfl, fun sl hd hr ho => by
             refine r_call0 hq rfl rfl (.cons (.ev (hd 0 _ rfl rfl rfl) rfl) (.cons (.ev (hd 3 _ rfl rfl rfl) rfl) .nil)) (apply_ok (allV X L1 2 5) (entriesF (allV X L1 2 5) (allV X L2 2 5)) (by omega) (by have := entries_len (allV X L1 2 5) (allV X L2 2 5); omega)) rfl TW.en15 rfl (fun r hr => ?_)
             obtain rfl : r = .tup [entsA (allV X L2 2 5), .v (.int .i64 0)] := by
              rcases hr with ⟨l2, h1, h2⟩ | ⟨h1, _⟩
              · rw [hap] at h1; cases h1; rw [h2, hcl]
              · rw [hap] at h1; cases h1
             exact awl_nil ⟨rfl, post_put⟩⟩⟩
           , ⟨_, rfl, fun sl hd hr ho => by
             refine r_move (hd 4 _ rfl rfl rfl) rfl ?_
             exact awl_nil ⟨rfl, post_put⟩⟩⟩
           , ⟨_, rfl, fun sl hd hr ho => by
             refine r_extract (hd 5 _ rfl rfl rfl) rfl rfl ?_
             exact awl_nil ⟨rfl, post_put⟩⟩⟩
           , ⟨_, rfl, fun sl hd hr ho => by
             refine r_extract (hd 5 _ rfl rfl rfl) rfl rfl ?_
             exact awl_nil ⟨rfl, post_put⟩⟩⟩
           , ⟨_, rfl, fun sl hd hr ho => by
             refine r_assign (hd 6 _ rfl rfl rfl) rfl ?_
             exact awl_nil ⟨rfl, post_put⟩⟩⟩
           (by rfl) ?_
          refine r_assign rfl rfl ?_
          refine awl_nil ?_
          refine x_then ?_
          refine awp_seq ?_
          refine awp_region ?_
          refine r_move rfl rfl ?_
          refine r_cmp rfl rfl rfl rfl ?_
          refine r_move rfl rfl ?_
          refine g_run rfl rfl rfl ?_
          refine r_move rfl rfl ?_
          refine g_run rfl rfl rfl ?_
          refine r_load1b 0 rfl rfl rfl TW.agg52 rfl ?_
          refine g_run rfl rfl rfl ?_
          refine r_call0 hq rfl rfl (.cons (.ev rfl rfl) (.cons (.ev rfl rfl) .nil)) (sameE_ok (allV X L2 2 5) (by omega)) rfl TW.en16 rfl (fun r hr => ?_)
          obtain rfl := hr
          refine r_pickT rfl rfl rfl rfl ?_
          refine r_assign rfl rfl ?_
          refine awl_nil ?_
          refine x_then ?_
          refine awp_ret ?_
          exact ⟨(.inl rfl), _, [], (.one (by first | exact .mk rfl rfl | exact .nil rfl)), ⟨rfl, rfl⟩, (List.nil_sublist _), (by simp)⟩
         ·
          refine x_block ?_
          refine x_then ?_
          refine awp_seq ?_
          refine awp_imp (imp_commitBx 0 0 rfl rfl rfl) ?_
          refine awp_drawS [78, 79, 80, 81, 82, 77, 83, 84, 19] [_, _, _, _, _, _, _, _, _] [] [] TW.mixed rfl rfl rfl ⟨⟨⟨⟨⟨⟨⟨⟨⟨trivial
           , ⟨_, rfl, fun sl hd hr ho => by
             refine r_load1b 1 (hr 15 _ rfl rfl rfl) rfl rfl TW.agg52 rfl ?_
             exact awl_nil ⟨rfl, post_put⟩⟩⟩
           , ⟨_, rfl, fun sl hd hr ho => by
             refine r_loadAb 3 (hr 11 _ rfl rfl rfl) rfl TW.agg33 TW.sz33 rfl rfl ?_
             exact awl_nil ⟨rfl, post_put⟩⟩⟩
           , ⟨_, rfl, fun sl hd hr ho => by
             refine r_loadAb 2 (hr 13 _ rfl rfl rfl) rfl TW.agg33 TW.sz33 rfl rfl ?_
             exact awl_nil ⟨rfl, post_put⟩⟩⟩
           , ⟨_, rfl, fun sl hd hr ho => by
             refine r_call0 hq rfl rfl (.cons (.ev (hd 1 _ rfl rfl rfl) rfl) (.cons (.ev (hd 2 _ rfl rfl rfl) rfl) (.cons (.ev rfl rfl) (.cons (.ev rfl rfl) .nil)))) (of_ok (some (rt, nn)) X hL.idx.good L1 hl1 (l.length : Int) 2 5 (by omega) (by omega) (some (rt, nn)) X hL.idx.good L2 hl2 ((w % (l.length + 1) : Nat) : Int)) rfl TW.en10 rfl (fun r hr => ?_)
             obtain rfl := hr
             exact awl_nil ⟨rfl, post_put⟩⟩⟩
           , ⟨_, rfl, fun sl hd hr ho => by
             refine r_call0 hq rfl rfl (.cons (.ev (hd 0 _ rfl rfl rfl) rfl) (.cons (.ev (hd 3 _ rfl rfl rfl) rfl) .nil)) (apply_ok (allV X L1 2 5) (entriesF (allV X L1 2 5) (allV X L2 2 5)) (by omega) (by have := entries_len (allV X L1 2 5) (allV X L2 2 5); omega)) rfl TW.en15 rfl (fun r hr => ?_)
             obtain rfl : r = .tup [entsA (allV X L2 2 5), .v (.int .i64 0)] := by
              rcases hr with ⟨l2, h1, h2⟩ | ⟨h1, _⟩
              · rw [hap] at h1; cases h1; rw [h2, hcl]
              · rw [hap] at h1; cases h1
             exact awl_nil ⟨rfl, post_put⟩⟩⟩
           , ⟨_, rfl, fun sl hd hr ho => by
             refine r_move (hd 4 _ rfl rfl rfl) rfl ?_
             exact awl_nil ⟨rfl, post_put⟩⟩⟩
           , ⟨_, rfl, fun sl hd hr ho => by
             refine r_extract (hd 5 _ rfl rfl rfl) rfl rfl ?_
             exact awl_nil ⟨rfl, post_put⟩⟩⟩
           , ⟨_, rfl, fun sl hd hr ho => by
             refine r_extract (hd 5 _ rfl rfl rfl) rfl rfl ?_
             exact awl_nil ⟨rfl, post_put⟩⟩⟩
           , ⟨_, rfl, fun sl hd hr ho => by
             refine r_assign (hd 6 _ rfl rfl rfl) rfl ?_
             exact awl_nil ⟨rfl, post_put⟩⟩⟩
           (by rfl) ?_
          refine r_assign rfl rfl ?_
          refine awl_nil ?_
          refine x_then ?_
          refine awp_seq ?_
          refine awp_region ?_
          refine r_move rfl rfl ?_
          refine r_cmp rfl rfl rfl rfl ?_
          refine r_move rfl rfl ?_
          refine g_run rfl rfl rfl ?_
          refine r_move rfl rfl ?_
          refine g_run rfl rfl rfl ?_
          refine r_load1b 0 rfl rfl rfl TW.agg52 rfl ?_
          refine g_run rfl rfl rfl ?_
          refine r_call0 hq rfl rfl (.cons (.ev rfl rfl) (.cons (.ev rfl rfl) .nil)) (sameE_ok (allV X L2 2 5) (by omega)) rfl TW.en16 rfl (fun r hr => ?_)
          obtain rfl := hr
          refine r_pickT rfl rfl rfl rfl ?_
          refine r_assign rfl rfl ?_
          refine awl_nil ?_
          refine x_then ?_
          refine awp_ret ?_
          exact ⟨(.inl rfl), _, [], (.one (by first | exact .mk rfl rfl | exact .nil rfl)), ⟨rfl, rfl⟩, (List.nil_sublist _), (by simp)⟩
        ·
         intro c xs wo' hX
         exact hX.elim
       ·
        refine x_block ?_
        refine x_then ?_
        refine awp_seq ?_
        refine awp_seq ?_
        refine awp_region ?_
        refine awl_imp (imp_commitBx 0 0 rfl rfl rfl) ?_
        refine r_loadAb 2 rfl rfl TW.agg33 TW.sz33 rfl rfl ?_
        refine r_call0 hq rfl rfl (.cons (.ev rfl rfl) (.cons (.ev rfl rfl) (.cons (.ev rfl rfl) .nil))) (viewAll_ok (some (rt, nn)) L2 ((w % (l.length + 1) : Nat) : Int) 2 5 (by omega) (by omega)) rfl TW.en14 rfl (fun r hr => ?_)
        obtain rfl := hr
        refine awl_nil ?_
        refine x_then ?_
        refine awp_block ?_
        refine awp_rangeFuncS (fun pre wo => ∃ l : List Ent, pre = l.map eA ∧ GrowB b16 3 57 (l.map Ent.cs) wo) (fun _ _ _ => False) [(16, .a (.v (.pointer (some ⟨b16, 0, none⟩))))] [false, true] hq rfl (viewAll1_ok (some (rt, nn)) X hL.idx.good L2 hl2 ((w % (l.length + 1) : Nat) : Int) 2 5 (by omega) (by omega)) TW.en28 (fun pre x ⟨e, _, _, h⟩ => by subst h; rfl) rfl rfl rfl (List.nil_sublist _) (Slots.cons rfl (by first | exact .refl _ | exact .nilOwn _ _ | exact .nilSl _ | exact .ownSl _ _ _  | exact SV.le.of_eq (by simp)) Slots.nil) rfl rfl ⟨[], rfl, .inl ⟨rfl, rfl⟩⟩ ?_ ?_ ?_
        ·
         intro lr pre x wo rec busy w0 C0 hq hj hax
         obtain ⟨l, rfl, hgb⟩ := hj
         obtain ⟨e, het, _, rfl⟩ := hax
         have hll : l.length < (allV X L2 2 5).length := by have := (List.getElem?_eq_some_iff.1 het).1; simpa using this
         have hal := hs2
         rcases hgb with ⟨h0, rfl⟩ | ⟨h0, g, cap, rfl⟩
         ·
          obtain rfl : l = [] := by simpa using h0
          refine awpi_region ?_
          refine awli_op (fun c h => (by cases h)) ?_
          refine r_alloc TW.zero57 rfl (fun b18 => ?_)
          refine awl_nil ⟨rfl, ?_⟩
          refine awli_op (fun c h => (by cases h)) ?_
          first | (refine r_store 0 rfl rfl rfl TW.sz57 rfl rfl rfl ?_) | (refine r_store 1 rfl rfl rfl TW.sz57 rfl rfl rfl ?_) | (refine r_store 2 rfl rfl rfl TW.sz57 rfl rfl rfl ?_) | (refine r_store 3 rfl rfl rfl TW.sz57 rfl rfl rfl ?_)
          refine awl_nil ⟨rfl, ?_⟩
          refine awli_nil ?_
          refine ⟨rfl, 2, rfl, ?_⟩
          refine awpi_block ?_
          refine awpi_region ?_
          refine awli_op (fun c h => (by cases h)) ?_
          first | (refine r_load1b 0 rfl rfl rfl TW.agg52 rfl ?_) | (refine r_load1 rfl TW.agg52 rfl ?_) | (refine r_load1b 1 rfl rfl rfl TW.agg52 rfl ?_) | (refine r_load1b 2 rfl rfl rfl TW.agg52 rfl ?_) | (refine r_load1b 3 rfl rfl rfl TW.agg52 rfl ?_)
          refine awl_nil ⟨rfl, ?_⟩
          refine awli_op (fun c h => (by cases h)) ?_
          first | (refine r_loadAb 0 rfl rfl TW.agg57 TW.sz57 rfl rfl ?_) | (refine r_loadA rfl TW.agg57 TW.sz57 rfl rfl ?_) | (refine r_loadAb 1 rfl rfl TW.agg57 TW.sz57 rfl rfl ?_) | (refine r_loadAb 2 rfl rfl TW.agg57 TW.sz57 rfl rfl ?_) | (refine r_loadAb 3 rfl rfl TW.agg57 TW.sz57 rfl rfl ?_)
          refine awl_nil ⟨rfl, ?_⟩
          refine awli_op (fun c h => (by cases h)) ?_
          refine r_lit 75 (parts := [(0, .tmp 74)]) rfl TW.sl52 TW.sz57 TW.zraw57 rfl rfl rfl rfl rfl rfl rfl ?_
          refine awl_nil ⟨rfl, ?_⟩
          refine awli_op (fun c h => (by cases h)) ?_
          refine r_appendBN rfl rfl (by first | exact .sl _ | exact .own _ _) (by simp [chunks]) TW.sl52 TW.sz57 TW.by57 TW.zlen57 (by simp [chunks] <;> omega) (by simp [chunks] <;> omega) rfl (fun gb gc => ?_)
          refine awl_nil ⟨rfl, ?_⟩
          refine awli_op (fun c h => (by cases h)) ?_
          first | (refine r_store 0 rfl rfl rfl TW.sz52 rfl rfl rfl ?_) | (refine r_store 1 rfl rfl rfl TW.sz52 rfl rfl rfl ?_) | (refine r_store 2 rfl rfl rfl TW.sz52 rfl rfl rfl ?_) | (refine r_store 3 rfl rfl rfl TW.sz52 rfl rfl rfl ?_) | (refine r_store 4 rfl rfl rfl TW.sz52 rfl rfl rfl ?_)
          refine awl_nil ⟨rfl, ?_⟩
          refine awli_nil ?_
          refine x_block ?_
          refine ⟨_, .inl ⟨rfl, [e], rfl, .inr ⟨by simp, gb, gc, rfl⟩⟩, ?_, by simp⟩
          first | exact List.Sublist.refl _ | exact .cons_cons _ (.cons _ (.refl _)) | exact List.nil_sublist _ | exact .cons _ (.refl _) | exact .cons _ (.cons _ (.refl _)) | exact .cons _ (.cons _ (.cons _ (.refl _))) | exact .cons _ (.cons _ (.cons _ (.cons _ (.refl _)))) | exact .cons_cons _ (List.nil_sublist _)
         ·
          refine awpi_region ?_
          refine awli_op (fun c h => (by cases h)) ?_
          refine r_alloc TW.zero57 rfl (fun b18 => ?_)
          refine awl_nil ⟨rfl, ?_⟩
          refine awli_op (fun c h => (by cases h)) ?_
          first | (refine r_store 0 rfl rfl rfl TW.sz57 rfl rfl rfl ?_) | (refine r_store 1 rfl rfl rfl TW.sz57 rfl rfl rfl ?_) | (refine r_store 2 rfl rfl rfl TW.sz57 rfl rfl rfl ?_) | (refine r_store 3 rfl rfl rfl TW.sz57 rfl rfl rfl ?_) | (refine r_store 4 rfl rfl rfl TW.sz57 rfl rfl rfl ?_)
          refine awl_nil ⟨rfl, ?_⟩
          refine awli_nil ?_
          refine ⟨rfl, 3, rfl, ?_⟩
          refine awpi_block ?_
          refine awpi_region ?_
          refine awli_op (fun c h => (by cases h)) ?_
          first | (refine r_load1b 0 rfl rfl rfl TW.agg52 rfl ?_) | (refine r_load1 rfl TW.agg52 rfl ?_) | (refine r_load1b 1 rfl rfl rfl TW.agg52 rfl ?_) | (refine r_load1b 2 rfl rfl rfl TW.agg52 rfl ?_) | (refine r_load1b 3 rfl rfl rfl TW.agg52 rfl ?_) | (refine r_load1b 4 rfl rfl rfl TW.agg52 rfl ?_)
          refine awl_nil ⟨rfl, ?_⟩
          refine awli_op (fun c h => (by cases h)) ?_
          first | (refine r_loadAb 0 rfl rfl TW.agg57 TW.sz57 rfl rfl ?_) | (refine r_loadA rfl TW.agg57 TW.sz57 rfl rfl ?_) | (refine r_loadAb 1 rfl rfl TW.agg57 TW.sz57 rfl rfl ?_) | (refine r_loadAb 2 rfl rfl TW.agg57 TW.sz57 rfl rfl ?_) | (refine r_loadAb 3 rfl rfl TW.agg57 TW.sz57 rfl rfl ?_) | (refine r_loadAb 4 rfl rfl TW.agg57 TW.sz57 rfl rfl ?_)
          refine awl_nil ⟨rfl, ?_⟩
          refine awli_op (fun c h => (by cases h)) ?_
          refine r_lit 75 (parts := [(0, .tmp 74)]) rfl TW.sl52 TW.sz57 TW.zraw57 rfl rfl rfl rfl rfl rfl rfl ?_
          refine awl_nil ⟨rfl, ?_⟩
          refine awli_op (fun c h => (by cases h)) ?_
          refine r_appendBG 1 rfl rfl rfl rfl (by first | exact .sl _ | exact .own _ _) (by simp [chunks]) TW.sl52 TW.sz57 TW.by57 TW.zlen57 (by simp [chunks] <;> omega) (by simp [chunks] <;> omega) rfl (fun gb gc => ?_)
          refine awl_nil ⟨rfl, ?_⟩
          refine awli_op (fun c h => (by cases h)) ?_
          first | (refine r_store 0 rfl rfl rfl TW.sz52 rfl rfl rfl ?_) | (refine r_store 1 rfl rfl rfl TW.sz52 rfl rfl rfl ?_) | (refine r_store 2 rfl rfl rfl TW.sz52 rfl rfl rfl ?_) | (refine r_store 3 rfl rfl rfl TW.sz52 rfl rfl rfl ?_) | (refine r_store 4 rfl rfl rfl TW.sz52 rfl rfl rfl ?_)
          refine awl_nil ⟨rfl, ?_⟩
          refine awli_nil ?_
          refine x_block ?_
          refine ⟨_, .inl ⟨rfl, l ++ [e], by simp, .inr ⟨by simp, gb, gc, rfl⟩⟩, ?_, by simp⟩
          simp only [List.map_append, List.map_cons, List.map_nil]
          first | exact List.Sublist.refl _ | exact .cons_cons _ (.cons _ (.refl _)) | exact List.nil_sublist _ | exact .cons _ (.refl _) | exact .cons _ (.cons _ (.refl _)) | exact .cons _ (.cons _ (.cons _ (.refl _))) | exact .cons _ (.cons _ (.cons _ (.cons _ (.refl _)))) | exact .cons_cons _ (List.nil_sublist _)
        ·
         intro xs wo' hG hJ
         obtain ⟨lq, rfl, hgb⟩ := hJ
         obtain rfl := eA_inj hG
         rcases hgb with ⟨h0, rfl⟩ | ⟨h0, g1, cap, rfl⟩
         ·
          refine x_block ?_
          refine x_then ?_
          refine awp_seq ?_
          refine awp_imp (imp_boxLe (cs' := [.sl 3 ((allV X L2 2 5).map Ent.cs)]) 0 rfl (by rw [h0]; exact .cons (.nil 3) .nil)) ?_
          refine awp_drawS [78, 79, 80, 81, 82, 77, 83, 84, 19] [_, _, _, _, _, _, _, _, _] [] [] TW.mixed rfl rfl rfl ⟨⟨⟨⟨⟨⟨⟨⟨⟨trivial
           , ⟨_, rfl, fun sl hd hr ho => by
             refine r_load1b 1 (hr 15 _ rfl rfl rfl) rfl rfl TW.agg52 rfl ?_
             exact awl_nil ⟨rfl, post_put⟩⟩⟩
           , ⟨_, rfl, fun sl hd hr ho => by
             refine r_loadAb 3 (hr 11 _ rfl rfl rfl) rfl TW.agg33 TW.sz33 rfl rfl ?_
             exact awl_nil ⟨rfl, post_put⟩⟩⟩
           , ⟨_, rfl, fun sl hd hr ho => by
             refine r_loadAb 2 (hr 13 _ rfl rfl rfl) rfl TW.agg33 TW.sz33 rfl rfl ?_
             exact awl_nil ⟨rfl, post_put⟩⟩⟩
           , ⟨_, rfl, fun sl hd hr ho => by
             refine r_call0 hq rfl rfl (.cons (.ev (hd 1 _ rfl rfl rfl) rfl) (.cons (.ev (hd 2 _ rfl rfl rfl) rfl) (.cons (.ev rfl rfl) (.cons (.ev rfl rfl) .nil)))) (of_ok (some (rt, nn)) X hL.idx.good L1 hl1 (l.length : Int) 2 5 (by omega) (by omega) (some (rt, nn)) X hL.idx.good L2 hl2 ((w % (l.length + 1) : Nat) : Int)) rfl TW.en10 rfl (fun r hr => ?_)
             obtain rfl := hr
             exact awl_nil ⟨rfl, post_put⟩⟩⟩
           , ⟨_, rfl, fun sl hd hr ho => by
             refine r_call0 hq rfl rfl (.cons (.ev (hd 0 _ rfl rfl rfl) rfl) (.cons (.ev (hd 3 _ rfl rfl rfl) rfl) .nil)) (apply_ok (allV X L1 2 5) (entriesF (allV X L1 2 5) (allV X L2 2 5)) (by omega) (by have := entries_len (allV X L1 2 5) (allV X L2 2 5); omega)) rfl TW.en15 rfl (fun r hr => ?_)
             obtain rfl : r = .tup [entsA (allV X L2 2 5), .v (.int .i64 0)] := by
              rcases hr with ⟨l2, h1, h2⟩ | ⟨h1, _⟩
              · rw [hap] at h1; cases h1; rw [h2, hcl]
              · rw [hap] at h1; cases h1
             exact awl_nil ⟨rfl, post_put⟩⟩⟩
           , ⟨_, rfl, fun sl hd hr ho => by
             refine r_move (hd 4 _ rfl rfl rfl) rfl ?_
             exact awl_nil ⟨rfl, post_put⟩⟩⟩
           , ⟨_, rfl, fun sl hd hr ho => by
             refine r_extract (hd 5 _ rfl rfl rfl) rfl rfl ?_
             exact awl_nil ⟨rfl, post_put⟩⟩⟩
           , ⟨_, rfl, fun sl hd hr ho => by
             refine r_extract (hd 5 _ rfl rfl rfl) rfl rfl ?_
             exact awl_nil ⟨rfl, post_put⟩⟩⟩
           , ⟨_, rfl, fun sl hd hr ho => by
             refine r_assign (hd 6 _ rfl rfl rfl) rfl ?_
             exact awl_nil ⟨rfl, post_put⟩⟩⟩
           (by rfl) ?_
          refine r_assign rfl rfl ?_
          refine awl_nil ?_
          refine x_then ?_
          refine awp_seq ?_
          refine awp_region ?_
          refine r_move rfl rfl ?_
          refine r_cmp rfl rfl rfl rfl ?_
          refine r_move rfl rfl ?_
          refine g_run rfl rfl rfl ?_
          refine r_move rfl rfl ?_
          refine g_run rfl rfl rfl ?_
          refine r_load1b 0 rfl rfl rfl TW.agg52 rfl ?_
          refine g_run rfl rfl rfl ?_
          refine r_call0 hq rfl rfl (.cons (.ev rfl rfl) (.cons (.ev rfl rfl) .nil)) (sameE_ok (allV X L2 2 5) (by omega)) rfl TW.en16 rfl (fun r hr => ?_)
          obtain rfl := hr
          refine r_pickT rfl rfl rfl rfl ?_
          refine r_assign rfl rfl ?_
          refine awl_nil ?_
          refine x_then ?_
          refine awp_ret ?_
          exact ⟨(.inl rfl), _, [], (.one (by first | exact .mk rfl rfl | exact .nil rfl)), ⟨rfl, rfl⟩, (List.nil_sublist _), (by simp)⟩
         ·
          refine x_block ?_
          refine x_then ?_
          refine awp_seq ?_
          refine awp_imp (imp_commitBx 0 0 rfl rfl rfl) ?_
          refine awp_drawS [78, 79, 80, 81, 82, 77, 83, 84, 19] [_, _, _, _, _, _, _, _, _] [] [] TW.mixed rfl rfl rfl ⟨⟨⟨⟨⟨⟨⟨⟨⟨trivial
           , ⟨_, rfl, fun sl hd hr ho => by
             refine r_load1b 1 (hr 15 _ rfl rfl rfl) rfl rfl TW.agg52 rfl ?_
             exact awl_nil ⟨rfl, post_put⟩⟩⟩
           , ⟨_, rfl, fun sl hd hr ho => by
             refine r_loadAb 3 (hr 11 _ rfl rfl rfl) rfl TW.agg33 TW.sz33 rfl rfl ?_
             exact awl_nil ⟨rfl, post_put⟩⟩⟩
           , ⟨_, rfl, fun sl hd hr ho => by
             refine r_loadAb 2 (hr 13 _ rfl rfl rfl) rfl TW.agg33 TW.sz33 rfl rfl ?_
             exact awl_nil ⟨rfl, post_put⟩⟩⟩
           , ⟨_, rfl, fun sl hd hr ho => by
             refine r_call0 hq rfl rfl (.cons (.ev (hd 1 _ rfl rfl rfl) rfl) (.cons (.ev (hd 2 _ rfl rfl rfl) rfl) (.cons (.ev rfl rfl) (.cons (.ev rfl rfl) .nil)))) (of_ok (some (rt, nn)) X hL.idx.good L1 hl1 (l.length : Int) 2 5 (by omega) (by omega) (some (rt, nn)) X hL.idx.good L2 hl2 ((w % (l.length + 1) : Nat) : Int)) rfl TW.en10 rfl (fun r hr => ?_)
             obtain rfl := hr
             exact awl_nil ⟨rfl, post_put⟩⟩⟩
           , ⟨_, rfl, fun sl hd hr ho => by
             refine r_call0 hq rfl rfl (.cons (.ev (hd 0 _ rfl rfl rfl) rfl) (.cons (.ev (hd 3 _ rfl rfl rfl) rfl) .nil)) (apply_ok (allV X L1 2 5) (entriesF (allV X L1 2 5) (allV X L2 2 5)) (by omega) (by have := entries_len (allV X L1 2 5) (allV X L2 2 5); omega)) rfl TW.en15 rfl (fun r hr => ?_)
             obtain rfl : r = .tup [entsA (allV X L2 2 5), .v (.int .i64 0)] := by
              rcases hr with ⟨l2, h1, h2⟩ | ⟨h1, _⟩
              · rw [hap] at h1; cases h1; rw [h2, hcl]
              · rw [hap] at h1; cases h1
             exact awl_nil ⟨rfl, post_put⟩⟩⟩
           , ⟨_, rfl, fun sl hd hr ho => by
             refine r_move (hd 4 _ rfl rfl rfl) rfl ?_
             exact awl_nil ⟨rfl, post_put⟩⟩⟩
           , ⟨_, rfl, fun sl hd hr ho => by
             refine r_extract (hd 5 _ rfl rfl rfl) rfl rfl ?_
             exact awl_nil ⟨rfl, post_put⟩⟩⟩
           , ⟨_, rfl, fun sl hd hr ho => by
             refine r_extract (hd 5 _ rfl rfl rfl) rfl rfl ?_
             exact awl_nil ⟨rfl, post_put⟩⟩⟩
           , ⟨_, rfl, fun sl hd hr ho => by
             refine r_assign (hd 6 _ rfl rfl rfl) rfl ?_
             exact awl_nil ⟨rfl, post_put⟩⟩⟩
           (by rfl) ?_
          refine r_assign rfl rfl ?_
          refine awl_nil ?_
          refine x_then ?_
          refine awp_seq ?_
          refine awp_region ?_
          refine r_move rfl rfl ?_
          refine r_cmp rfl rfl rfl rfl ?_
          refine r_move rfl rfl ?_
          refine g_run rfl rfl rfl ?_
          refine r_move rfl rfl ?_
          refine g_run rfl rfl rfl ?_
          refine r_load1b 0 rfl rfl rfl TW.agg52 rfl ?_
          refine g_run rfl rfl rfl ?_
          refine r_call0 hq rfl rfl (.cons (.ev rfl rfl) (.cons (.ev rfl rfl) .nil)) (sameE_ok (allV X L2 2 5) (by omega)) rfl TW.en16 rfl (fun r hr => ?_)
          obtain rfl := hr
          refine r_pickT rfl rfl rfl rfl ?_
          refine r_assign rfl rfl ?_
          refine awl_nil ?_
          refine x_then ?_
          refine awp_ret ?_
          exact ⟨(.inl rfl), _, [], (.one (by first | exact .mk rfl rfl | exact .nil rfl)), ⟨rfl, rfl⟩, (List.nil_sublist _), (by simp)⟩
        ·
         intro c xs wo' hX
         exact hX.elim
      ·
       intro c xs wo' hX
       exact hX.elim
    ·
     refine r_move rfl rfl ?_
     refine r_extract rfl rfl rfl ?_
     refine r_extract rfl rfl rfl ?_
     refine r_alloc TW.zero33 rfl (fun b13 => ?_)
     first | (refine r_store 0 rfl rfl rfl TW.sz33 rfl rfl rfl ?_) | (refine r_store 1 rfl rfl rfl TW.sz33 rfl rfl rfl ?_) | (refine r_store 2 rfl rfl rfl TW.sz33 rfl rfl rfl ?_) | (refine r_store 3 rfl rfl rfl TW.sz33 rfl rfl rfl ?_)
     refine r_assign rfl rfl ?_
     refine awl_nil ?_
     refine x_then ?_
     refine awp_cut (fun S => ∃ L1 : List St, ∃ L2 : List St, S = ⟨92, [(11, .a (.v (.pointer (some ⟨b11, 0, none⟩)))), (13, .a (.v (.pointer (some ⟨b13, 0, none⟩))))], [⟨b13, true, .box [encT (some (rt, nn)), .sl 3 (L2.map St.cs), .v (.int .u64 (((w % (l.length + 1) : Nat) : Int)))]⟩, ⟨b11, true, .box [encT (some (rt, nn)), .sl 3 (L1.map St.cs), .v (.int .u64 ((l.length : Int)))]⟩]⟩ ∧ (L1 = lineF F (u % 3) (l.length : Int)) ∧ (L2 = lineF F (u % 3) ((w % (l.length + 1) : Nat) : Int))) ?_ ?_
     ·
      refine awp_seq ?_
      refine awp_region ?_
      refine r_move rfl rfl ?_
      refine r_cmp rfl rfl rfl rfl ?_
      refine r_move rfl rfl ?_
      refine g_skip rfl rfl rfl rfl ?_
      refine g_skip rfl rfl rfl rfl ?_
      refine r_pickT rfl rfl rfl rfl ?_
      refine awl_nil ?_
      refine x_then ?_
      refine awp_condT rfl ?_
      refine awp_seq ?_
      refine awp_region ?_
      refine r_assign rfl rfl ?_
      refine awl_nil ?_
      refine x_then ?_
      refine awp_ret ?_
      refine x_thenR ?_
      exact ⟨(.inl rfl), _, [], (.one (by first | exact .mk rfl rfl | exact .nil rfl)), ⟨rfl, rfl⟩, (List.nil_sublist _), (by simp)⟩
     ·
      rintro _ ⟨L1, L2, rfl, hL1, hL2⟩
      have hl1 : L1.length ≤ 1000 := by rw [hL1]; exact lineF_len _ _ _
      have hl2 : L2.length ≤ 1000 := by rw [hL2]; exact lineF_len _ _ _
      have hs1 : (allV X L1 2 5).length ≤ 10 := Nat.le_trans (allV_len _ _ _ _) (by decide)
      have hs2 : (allV X L2 2 5).length ≤ 10 := Nat.le_trans (allV_len _ _ _ _) (by decide)
      obtain ⟨l', hap, hcl⟩ := undone (L := L1) (K := L2) (m := 2) (n := 5) hXs (fun z hz => (hL.nums z hz).1)
      refine awp_seq ?_
      refine awp_region ?_
      refine r_alloc TW.zero52 rfl (fun b15 => ?_)
      refine r_alloc TW.zero52 rfl (fun b16 => ?_)
      refine awl_nil ?_
      refine x_then ?_
      refine awp_seq ?_
      refine awp_seq ?_
      refine awp_region ?_
      refine r_loadAb 3 rfl rfl TW.agg33 TW.sz33 rfl rfl ?_
      refine r_call0 hq rfl rfl (.cons (.ev rfl rfl) (.cons (.ev rfl rfl) (.cons (.ev rfl rfl) .nil))) (viewAll_ok (some (rt, nn)) L1 (l.length : Int) 2 5 (by omega) (by omega)) rfl TW.en14 rfl (fun r hr => ?_)
      obtain rfl := hr
      refine awl_nil ?_
      refine x_then ?_
      refine awp_block ?_
      refine awp_rangeFuncS (fun pre wo => ∃ l : List Ent, pre = l.map eA ∧ GrowB b15 3 57 (l.map Ent.cs) wo) (fun _ _ _ => False) [(15, .a (.v (.pointer (some ⟨b15, 0, none⟩))))] [false, true] hq rfl (viewAll1_ok (some (rt, nn)) X hL.idx.good L1 hl1 (l.length : Int) 2 5 (by omega) (by omega)) TW.en28 (fun pre x ⟨e, _, _, h⟩ => by subst h; rfl) rfl rfl rfl (List.nil_sublist _) (Slots.cons rfl (by first | exact .refl _ | exact .nilOwn _ _ | exact .nilSl _ | exact .ownSl _ _ _  | exact SV.le.of_eq (by simp)) Slots.nil) rfl rfl ⟨[], rfl, .inl ⟨rfl, rfl⟩⟩ ?_ ?_ ?_
      ·
       intro lr pre x wo rec busy w0 C0 hq hj hax
       obtain ⟨l, rfl, hgb⟩ := hj
       obtain ⟨e, het, _, rfl⟩ := hax
       have hll : l.length < (allV X L1 2 5).length := by have := (List.getElem?_eq_some_iff.1 het).1; simpa using this
       have hal := hs1
       rcases hgb with ⟨h0, rfl⟩ | ⟨h0, g, cap, rfl⟩
       ·
        obtain rfl : l = [] := by simpa using h0
        refine awpi_region ?_
        refine awli_op (fun c h => (by cases h)) ?_
        refine r_alloc TW.zero57 rfl (fun b17 => ?_)
        refine awl_nil ⟨rfl, ?_⟩
        refine awli_op (fun c h => (by cases h)) ?_
        first | (refine r_store 0 rfl rfl rfl TW.sz57 rfl rfl rfl ?_) | (refine r_store 1 rfl rfl rfl TW.sz57 rfl rfl rfl ?_) | (refine r_store 2 rfl rfl rfl TW.sz57 rfl rfl rfl ?_) | (refine r_store 3 rfl rfl rfl TW.sz57 rfl rfl rfl ?_)
        refine awl_nil ⟨rfl, ?_⟩
        refine awli_nil ?_
        refine ⟨rfl, 2, rfl, ?_⟩
        refine awpi_block ?_
        refine awpi_region ?_
        refine awli_op (fun c h => (by cases h)) ?_
        first | (refine r_load1b 0 rfl rfl rfl TW.agg52 rfl ?_) | (refine r_load1 rfl TW.agg52 rfl ?_) | (refine r_load1b 1 rfl rfl rfl TW.agg52 rfl ?_) | (refine r_load1b 2 rfl rfl rfl TW.agg52 rfl ?_) | (refine r_load1b 3 rfl rfl rfl TW.agg52 rfl ?_)
        refine awl_nil ⟨rfl, ?_⟩
        refine awli_op (fun c h => (by cases h)) ?_
        first | (refine r_loadAb 0 rfl rfl TW.agg57 TW.sz57 rfl rfl ?_) | (refine r_loadA rfl TW.agg57 TW.sz57 rfl rfl ?_) | (refine r_loadAb 1 rfl rfl TW.agg57 TW.sz57 rfl rfl ?_) | (refine r_loadAb 2 rfl rfl TW.agg57 TW.sz57 rfl rfl ?_) | (refine r_loadAb 3 rfl rfl TW.agg57 TW.sz57 rfl rfl ?_)
        refine awl_nil ⟨rfl, ?_⟩
        refine awli_op (fun c h => (by cases h)) ?_
        refine r_lit 68 (parts := [(0, .tmp 67)]) rfl TW.sl52 TW.sz57 TW.zraw57 rfl rfl rfl rfl rfl rfl rfl ?_
        refine awl_nil ⟨rfl, ?_⟩
        refine awli_op (fun c h => (by cases h)) ?_
        refine r_appendBN rfl rfl (by first | exact .sl _ | exact .own _ _) (by simp [chunks]) TW.sl52 TW.sz57 TW.by57 TW.zlen57 (by simp [chunks] <;> omega) (by simp [chunks] <;> omega) rfl (fun gb gc => ?_)
        refine awl_nil ⟨rfl, ?_⟩
        refine awli_op (fun c h => (by cases h)) ?_
        first | (refine r_store 0 rfl rfl rfl TW.sz52 rfl rfl rfl ?_) | (refine r_store 1 rfl rfl rfl TW.sz52 rfl rfl rfl ?_) | (refine r_store 2 rfl rfl rfl TW.sz52 rfl rfl rfl ?_) | (refine r_store 3 rfl rfl rfl TW.sz52 rfl rfl rfl ?_) | (refine r_store 4 rfl rfl rfl TW.sz52 rfl rfl rfl ?_)
        refine awl_nil ⟨rfl, ?_⟩
        refine awli_nil ?_
        refine x_block ?_
        refine ⟨_, .inl ⟨rfl, [e], rfl, .inr ⟨by simp, gb, gc, rfl⟩⟩, ?_, by simp⟩
        first | exact List.Sublist.refl _ | exact .cons_cons _ (.cons _ (.refl _)) | exact List.nil_sublist _ | exact .cons _ (.refl _) | exact .cons _ (.cons _ (.refl _)) | exact .cons _ (.cons _ (.cons _ (.refl _))) | exact .cons _ (.cons _ (.cons _ (.cons _ (.refl _)))) | exact .cons_cons _ (List.nil_sublist _)
       ·
        refine awpi_region ?_
        refine awli_op (fun c h => (by cases h)) ?_
        refine r_alloc TW.zero57 rfl (fun b17 => ?_)
        refine awl_nil ⟨rfl, ?_⟩
        refine awli_op (fun c h => (by cases h)) ?_
        first | (refine r_store 0 rfl rfl rfl TW.sz57 rfl rfl rfl ?_) | (refine r_store 1 rfl rfl rfl TW.sz57 rfl rfl rfl ?_) | (refine r_store 2 rfl rfl rfl TW.sz57 rfl rfl rfl ?_) | (refine r_store 3 rfl rfl rfl TW.sz57 rfl rfl rfl ?_) | (refine r_store 4 rfl rfl rfl TW.sz57 rfl rfl rfl ?_)
        refine awl_nil ⟨rfl, ?_⟩
        refine awli_nil ?_
        refine ⟨rfl, 3, rfl, ?_⟩
        refine awpi_block ?_
        refine awpi_region ?_
        refine awli_op (fun c h => (by cases h)) ?_
        first | (refine r_load1b 0 rfl rfl rfl TW.agg52 rfl ?_) | (refine r_load1 rfl TW.agg52 rfl ?_) | (refine r_load1b 1 rfl rfl rfl TW.agg52 rfl ?_) | (refine r_load1b 2 rfl rfl rfl TW.agg52 rfl ?_) | (refine r_load1b 3 rfl rfl rfl TW.agg52 rfl ?_) | (refine r_load1b 4 rfl rfl rfl TW.agg52 rfl ?_)
        refine awl_nil ⟨rfl, ?_⟩
        refine awli_op (fun c h => (by cases h)) ?_
        first | (refine r_loadAb 0 rfl rfl TW.agg57 TW.sz57 rfl rfl ?_) | (refine r_loadA rfl TW.agg57 TW.sz57 rfl rfl ?_) | (refine r_loadAb 1 rfl rfl TW.agg57 TW.sz57 rfl rfl ?_) | (refine r_loadAb 2 rfl rfl TW.agg57 TW.sz57 rfl rfl ?_) | (refine r_loadAb 3 rfl rfl TW.agg57 TW.sz57 rfl rfl ?_) | (refine r_loadAb 4 rfl rfl TW.agg57 TW.sz57 rfl rfl ?_)
        refine awl_nil ⟨rfl, ?_⟩
        refine awli_op (fun c h => (by cases h)) ?_
        refine r_lit 68 (parts := [(0, .tmp 67)]) rfl TW.sl52 TW.sz57 TW.zraw57 rfl rfl rfl rfl rfl rfl rfl ?_
        refine awl_nil ⟨rfl, ?_⟩
        refine awli_op (fun c h => (by cases h)) ?_
        refine r_appendBG 1 rfl rfl rfl rfl (by first | exact .sl _ | exact .own _ _) (by simp [chunks]) TW.sl52 TW.sz57 TW.by57 TW.zlen57 (by simp [chunks] <;> omega) (by simp [chunks] <;> omega) rfl (fun gb gc => ?_)
        refine awl_nil ⟨rfl, ?_⟩
        refine awli_op (fun c h => (by cases h)) ?_
        first | (refine r_store 0 rfl rfl rfl TW.sz52 rfl rfl rfl ?_) | (refine r_store 1 rfl rfl rfl TW.sz52 rfl rfl rfl ?_) | (refine r_store 2 rfl rfl rfl TW.sz52 rfl rfl rfl ?_) | (refine r_store 3 rfl rfl rfl TW.sz52 rfl rfl rfl ?_) | (refine r_store 4 rfl rfl rfl TW.sz52 rfl rfl rfl ?_)
        refine awl_nil ⟨rfl, ?_⟩
        refine awli_nil ?_
        refine x_block ?_
        refine ⟨_, .inl ⟨rfl, l ++ [e], by simp, .inr ⟨by simp, gb, gc, rfl⟩⟩, ?_, by simp⟩
        simp only [List.map_append, List.map_cons, List.map_nil]
        first | exact List.Sublist.refl _ | exact .cons_cons _ (.cons _ (.refl _)) | exact List.nil_sublist _ | exact .cons _ (.refl _) | exact .cons _ (.cons _ (.refl _)) | exact .cons _ (.cons _ (.cons _ (.refl _))) | exact .cons _ (.cons _ (.cons _ (.cons _ (.refl _)))) | exact .cons_cons _ (List.nil_sublist _)
      ·
       intro xs wo' hG hJ
       obtain ⟨lq, rfl, hgb⟩ := hJ
       obtain rfl := eA_inj hG
       rcases hgb with ⟨h0, rfl⟩ | ⟨h0, g1, cap, rfl⟩
       ·
        have hP0 : ((allV X L1 2 5).map Ent.cs) = [] := h0
        refine x_block ?_
        refine x_then ?_
        refine awp_seq ?_
        refine awp_seq ?_
        refine awp_region ?_
        refine awl_imp (imp_boxLe (cs' := [.sl 3 ((allV X L1 2 5).map Ent.cs)]) 0 rfl (by rw [h0]; exact .cons (.nil 3) .nil)) ?_
        refine r_loadAb 2 rfl rfl TW.agg33 TW.sz33 rfl rfl ?_
        refine r_call0 hq rfl rfl (.cons (.ev rfl rfl) (.cons (.ev rfl rfl) (.cons (.ev rfl rfl) .nil))) (viewAll_ok (some (rt, nn)) L2 ((w % (l.length + 1) : Nat) : Int) 2 5 (by omega) (by omega)) rfl TW.en14 rfl (fun r hr => ?_)
        obtain rfl := hr
        refine awl_nil ?_
        refine x_then ?_
        refine awp_block ?_
        refine awp_rangeFuncS (fun pre wo => ∃ l : List Ent, pre = l.map eA ∧ GrowB b16 3 57 (l.map Ent.cs) wo) (fun _ _ _ => False) [(16, .a (.v (.pointer (some ⟨b16, 0, none⟩))))] [false, true] hq rfl (viewAll1_ok (some (rt, nn)) X hL.idx.good L2 hl2 ((w % (l.length + 1) : Nat) : Int) 2 5 (by omega) (by omega)) TW.en28 (fun pre x ⟨e, _, _, h⟩ => by subst h; rfl) rfl rfl rfl (List.nil_sublist _) (Slots.cons rfl (by first | exact .refl _ | exact .nilOwn _ _ | exact .nilSl _ | exact .ownSl _ _ _  | exact SV.le.of_eq (by simp)) Slots.nil) rfl rfl ⟨[], rfl, .inl ⟨rfl, rfl⟩⟩ ?_ ?_ ?_
        ·
         intro lr pre x wo rec busy w0 C0 hq hj hax
         obtain ⟨l, rfl, hgb⟩ := hj
         obtain ⟨e, het, _, rfl⟩ := hax
         have hll : l.length < (allV X L2 2 5).length := by have := (List.getElem?_eq_some_iff.1 het).1; simpa using this
         have hal := hs2
         rcases hgb with ⟨h0, rfl⟩ | ⟨h0, g, cap, rfl⟩
         ·
          obtain rfl : l = [] := by simpa using h0
          refine awpi_region ?_
          refine awli_op (fun c h => (by cases h)) ?_
          refine r_alloc TW.zero57 rfl (fun b18 => ?_)
          refine awl_nil ⟨rfl, ?_⟩
          refine awli_op (fun c h => (by cases h)) ?_
          first | (refine r_store 0 rfl rfl rfl TW.sz57 rfl rfl rfl ?_) | (refine r_store 1 rfl rfl rfl TW.sz57 rfl rfl rfl ?_) | (refine r_store 2 rfl rfl rfl TW.sz57 rfl rfl rfl ?_) | (refine r_store 3 rfl rfl rfl TW.sz57 rfl rfl rfl ?_)
          refine awl_nil ⟨rfl, ?_⟩
          refine awli_nil ?_
          refine ⟨rfl, 2, rfl, ?_⟩
          refine awpi_block ?_
          refine awpi_region ?_
          refine awli_op (fun c h => (by cases h)) ?_
          first | (refine r_load1b 0 rfl rfl rfl TW.agg52 rfl ?_) | (refine r_load1 rfl TW.agg52 rfl ?_) | (refine r_load1b 1 rfl rfl rfl TW.agg52 rfl ?_) | (refine r_load1b 2 rfl rfl rfl TW.agg52 rfl ?_) | (refine r_load1b 3 rfl rfl rfl TW.agg52 rfl ?_)
          refine awl_nil ⟨rfl, ?_⟩
          refine awli_op (fun c h => (by cases h)) ?_
          first | (refine r_loadAb 0 rfl rfl TW.agg57 TW.sz57 rfl rfl ?_) | (refine r_loadA rfl TW.agg57 TW.sz57 rfl rfl ?_) | (refine r_loadAb 1 rfl rfl TW.agg57 TW.sz57 rfl rfl ?_) | (refine r_loadAb 2 rfl rfl TW.agg57 TW.sz57 rfl rfl ?_) | (refine r_loadAb 3 rfl rfl TW.agg57 TW.sz57 rfl rfl ?_)
          refine awl_nil ⟨rfl, ?_⟩
          refine awli_op (fun c h => (by cases h)) ?_
          refine r_lit 75 (parts := [(0, .tmp 74)]) rfl TW.sl52 TW.sz57 TW.zraw57 rfl rfl rfl rfl rfl rfl rfl ?_
          refine awl_nil ⟨rfl, ?_⟩
          refine awli_op (fun c h => (by cases h)) ?_
          refine r_appendBN rfl rfl (by first | exact .sl _ | exact .own _ _) (by simp [chunks]) TW.sl52 TW.sz57 TW.by57 TW.zlen57 (by simp [chunks] <;> omega) (by simp [chunks] <;> omega) rfl (fun gb gc => ?_)
          refine awl_nil ⟨rfl, ?_⟩
          refine awli_op (fun c h => (by cases h)) ?_
          first | (refine r_store 0 rfl rfl rfl TW.sz52 rfl rfl rfl ?_) | (refine r_store 1 rfl rfl rfl TW.sz52 rfl rfl rfl ?_) | (refine r_store 2 rfl rfl rfl TW.sz52 rfl rfl rfl ?_) | (refine r_store 3 rfl rfl rfl TW.sz52 rfl rfl rfl ?_) | (refine r_store 4 rfl rfl rfl TW.sz52 rfl rfl rfl ?_)
          refine awl_nil ⟨rfl, ?_⟩
          refine awli_nil ?_
          refine x_block ?_
          refine ⟨_, .inl ⟨rfl, [e], rfl, .inr ⟨by simp, gb, gc, rfl⟩⟩, ?_, by simp⟩
          first | exact List.Sublist.refl _ | exact .cons_cons _ (.cons _ (.refl _)) | exact List.nil_sublist _ | exact .cons _ (.refl _) | exact .cons _ (.cons _ (.refl _)) | exact .cons _ (.cons _ (.cons _ (.refl _))) | exact .cons _ (.cons _ (.cons _ (.cons _ (.refl _)))) | exact .cons_cons _ (List.nil_sublist _)
         ·
          refine awpi_region ?_
          refine awli_op (fun c h => (by cases h)) ?_
          refine r_alloc TW.zero57 rfl (fun b18 => ?_)
          refine awl_nil ⟨rfl, ?_⟩
          refine awli_op (fun c h => (by cases h)) ?_
          first | (refine r_store 0 rfl rfl rfl TW.sz57 rfl rfl rfl ?_) | (refine r_store 1 rfl rfl rfl TW.sz57 rfl rfl rfl ?_) | (refine r_store 2 rfl rfl rfl TW.sz57 rfl rfl rfl ?_) | (refine r_store 3 rfl rfl rfl TW.sz57 rfl rfl rfl ?_) | (refine r_store 4 rfl rfl rfl TW.sz57 rfl rfl rfl ?_)
          refine awl_nil ⟨rfl, ?_⟩
          refine awli_nil ?_
          refine ⟨rfl, 3, rfl, ?_⟩
          refine awpi_block ?_
          refine awpi_region ?_
          refine awli_op (fun c h => (by cases h)) ?_
          first | (refine r_load1b 0 rfl rfl rfl TW.agg52 rfl ?_) | (refine r_load1 rfl TW.agg52 rfl ?_) | (refine r_load1b 1 rfl rfl rfl TW.agg52 rfl ?_) | (refine r_load1b 2 rfl rfl rfl TW.agg52 rfl ?_) | (refine r_load1b 3 rfl rfl rfl TW.agg52 rfl ?_) | (refine r_load1b 4 rfl rfl rfl TW.agg52 rfl ?_)
          refine awl_nil ⟨rfl, ?_⟩
          refine awli_op (fun c h => (by cases h)) ?_
          first | (refine r_loadAb 0 rfl rfl TW.agg57 TW.sz57 rfl rfl ?_) | (refine r_loadA rfl TW.agg57 TW.sz57 rfl rfl ?_) | (refine r_loadAb 1 rfl rfl TW.agg57 TW.sz57 rfl rfl ?_) | (refine r_loadAb 2 rfl rfl TW.agg57 TW.sz57 rfl rfl ?_) | (refine r_loadAb 3 rfl rfl TW.agg57 TW.sz57 rfl rfl ?_) | (refine r_loadAb 4 rfl rfl TW.agg57 TW.sz57 rfl rfl ?_)
          refine awl_nil ⟨rfl, ?_⟩
          refine awli_op (fun c h => (by cases h)) ?_
          refine r_lit 75 (parts := [(0, .tmp 74)]) rfl TW.sl52 TW.sz57 TW.zraw57 rfl rfl rfl rfl rfl rfl rfl ?_
          refine awl_nil ⟨rfl, ?_⟩
          refine awli_op (fun c h => (by cases h)) ?_
          refine r_appendBG 1 rfl rfl rfl rfl (by first | exact .sl _ | exact .own _ _) (by simp [chunks]) TW.sl52 TW.sz57 TW.by57 TW.zlen57 (by simp [chunks] <;> omega) (by simp [chunks] <;> omega) rfl (fun gb gc => ?_)
          refine awl_nil ⟨rfl, ?_⟩
          refine awli_op (fun c h => (by cases h)) ?_
          first | (refine r_store 0 rfl rfl rfl TW.sz52 rfl rfl rfl ?_) | (refine r_store 1 rfl rfl rfl TW.sz52 rfl rfl rfl ?_) | (refine r_store 2 rfl rfl rfl TW.sz52 rfl rfl rfl ?_) | (refine r_store 3 rfl rfl rfl TW.sz52 rfl rfl rfl ?_) | (refine r_store 4 rfl rfl rfl TW.sz52 rfl rfl rfl ?_)
          refine awl_nil ⟨rfl, ?_⟩
          refine awli_nil ?_
          refine x_block ?_
          refine ⟨_, .inl ⟨rfl, l ++ [e], by simp, .inr ⟨by simp, gb, gc, rfl⟩⟩, ?_, by simp⟩
          simp only [List.map_append, List.map_cons, List.map_nil]
          first | exact List.Sublist.refl _ | exact .cons_cons _ (.cons _ (.refl _)) | exact List.nil_sublist _ | exact .cons _ (.refl _) | exact .cons _ (.cons _ (.refl _)) | exact .cons _ (.cons _ (.cons _ (.refl _))) | exact .cons _ (.cons _ (.cons _ (.cons _ (.refl _)))) | exact .cons_cons _ (List.nil_sublist _)
        ·
         intro xs wo' hG hJ
         obtain ⟨lq, rfl, hgb⟩ := hJ
         obtain rfl := eA_inj hG
         rcases hgb with ⟨h0, rfl⟩ | ⟨h0, g1, cap, rfl⟩
         ·
          refine x_block ?_
          refine x_then ?_
          refine awp_seq ?_
          refine awp_imp (imp_boxLe (cs' := [.sl 3 ((allV X L2 2 5).map Ent.cs)]) 0 rfl (by rw [h0]; exact .cons (.nil 3) .nil)) ?_
          refine awp_drawS [78, 79, 80, 81, 82, 77, 83, 84, 19] [_, _, _, _, _, _, _, _, _] [] [] TW.mixed rfl rfl rfl ⟨⟨⟨⟨⟨⟨⟨⟨⟨trivial
           , ⟨_, rfl, fun sl hd hr ho => by
             refine r_load1b 1 (hr 15 _ rfl rfl rfl) rfl rfl TW.agg52 rfl ?_
             exact awl_nil ⟨rfl, post_put⟩⟩⟩
           , ⟨_, rfl, fun sl hd hr ho => by
             refine r_loadAb 3 (hr 11 _ rfl rfl rfl) rfl TW.agg33 TW.sz33 rfl rfl ?_
             exact awl_nil ⟨rfl, post_put⟩⟩⟩
           , ⟨_, rfl, fun sl hd hr ho => by
             refine r_loadAb 2 (hr 13 _ rfl rfl rfl) rfl TW.agg33 TW.sz33 rfl rfl ?_
             exact awl_nil ⟨rfl, post_put⟩⟩⟩
           , ⟨_, rfl, fun sl hd hr ho => by
             refine r_call0 hq rfl rfl (.cons (.ev (hd 1 _ rfl rfl rfl) rfl) (.cons (.ev (hd 2 _ rfl rfl rfl) rfl) (.cons (.ev rfl rfl) (.cons (.ev rfl rfl) .nil)))) (of_ok (some (rt, nn)) X hL.idx.good L1 hl1 (l.length : Int) 2 5 (by omega) (by omega) (some (rt, nn)) X hL.idx.good L2 hl2 ((w % (l.length + 1) : Nat) : Int)) rfl TW.en10 rfl (fun r hr => ?_)
             obtain rfl := hr
             exact awl_nil ⟨rfl, post_put⟩⟩⟩
           , ⟨_, rfl, fun sl hd hr ho => by
             refine r_call0 hq rfl rfl (.cons (.ev (hd 0 _ rfl rfl rfl) rfl) (.cons (.ev (hd 3 _ rfl rfl rfl) rfl) .nil)) (apply_ok (allV X L1 2 5) (entriesF (allV X L1 2 5) (allV X L2 2 5)) (by omega) (by have := entries_len (allV X L1 2 5) (allV X L2 2 5); omega)) rfl TW.en15 rfl (fun r hr => ?_)
             obtain rfl : r = .tup [entsA (allV X L2 2 5), .v (.int .i64 0)] := by
              rcases hr with ⟨l2, h1, h2⟩ | ⟨h1, _⟩
              · rw [hap] at h1; cases h1; rw [h2, hcl]
              · rw [hap] at h1; cases h1
             exact awl_nil ⟨rfl, post_put⟩⟩⟩
           , ⟨_, rfl, fun sl hd hr ho => by
             refine r_move (hd 4 _ rfl rfl rfl) rfl ?_
             exact awl_nil ⟨rfl, post_put⟩⟩⟩
           , ⟨_, rfl, fun sl hd hr ho => by
             refine r_extract (hd 5 _ rfl rfl rfl) rfl rfl ?_
             exact awl_nil ⟨rfl, post_put⟩⟩⟩
           , ⟨_, rfl, fun sl hd hr ho => by
             refine r_extract (hd 5 _ rfl rfl rfl) rfl rfl ?_
             exact awl_nil ⟨rfl, post_put⟩⟩⟩
           , ⟨_, rfl, fun sl hd hr ho => by
             refine r_assign (hd 6 _ rfl rfl rfl) rfl ?_
             exact awl_nil ⟨rfl, post_put⟩⟩⟩
           (by rfl) ?_
          refine r_assign rfl rfl ?_
          refine awl_nil ?_
          refine x_then ?_
          refine awp_seq ?_
          refine awp_region ?_
          refine r_move rfl rfl ?_
          refine r_cmp rfl rfl rfl rfl ?_
          refine r_move rfl rfl ?_
          refine g_run rfl rfl rfl ?_
          refine r_move rfl rfl ?_
          refine g_run rfl rfl rfl ?_
          refine r_load1b 0 rfl rfl rfl TW.agg52 rfl ?_
          refine g_run rfl rfl rfl ?_
          refine r_call0 hq rfl rfl (.cons (.ev rfl rfl) (.cons (.ev rfl rfl) .nil)) (sameE_ok (allV X L2 2 5) (by omega)) rfl TW.en16 rfl (fun r hr => ?_)
          obtain rfl := hr
          refine r_pickT rfl rfl rfl rfl ?_
          refine r_assign rfl rfl ?_
          refine awl_nil ?_
          refine x_then ?_
          refine awp_ret ?_
          exact ⟨(.inl rfl), _, [], (.one (by first | exact .mk rfl rfl | exact .nil rfl)), ⟨rfl, rfl⟩, (List.nil_sublist _), (by simp)⟩
         ·
          refine x_block ?_
          refine x_then ?_
          refine awp_seq ?_
          refine awp_imp (imp_commitBx 0 0 rfl rfl rfl) ?_
          refine awp_drawS [78, 79, 80, 81, 82, 77, 83, 84, 19] [_, _, _, _, _, _, _, _, _] [] [] TW.mixed rfl rfl rfl ⟨⟨⟨⟨⟨⟨⟨⟨⟨trivial
           , ⟨_, rfl, fun sl hd hr ho => by
             refine r_load1b 1 (hr 15 _ rfl rfl rfl) rfl rfl TW.agg52 rfl ?_
             exact awl_nil ⟨rfl, post_put⟩⟩⟩
           , ⟨_, rfl, fun sl hd hr ho => by
             refine r_loadAb 3 (hr 11 _ rfl rfl rfl) rfl TW.agg33 TW.sz33 rfl rfl ?_
             exact awl_nil ⟨rfl, post_put⟩⟩⟩
           , ⟨_, rfl, fun sl hd hr ho => by
             refine r_loadAb 2 (hr 13 _ rfl rfl rfl) rfl TW.agg33 TW.sz33 rfl rfl ?_
             exact awl_nil ⟨rfl, post_put⟩⟩⟩
           , ⟨_, rfl, fun sl hd hr ho => by
             refine r_call0 hq rfl rfl (.cons (.ev (hd 1 _ rfl rfl rfl) rfl) (.cons (.ev (hd 2 _ rfl rfl rfl) rfl) (.cons (.ev rfl rfl) (.cons (.ev rfl rfl) .nil)))) (of_ok (some (rt, nn)) X hL.idx.good L1 hl1 (l.length : Int) 2 5 (by omega) (by omega) (some (rt, nn)) X hL.idx.good L2 hl2 ((w % (l.length + 1) : Nat) : Int)) rfl TW.en10 rfl (fun r hr => ?_)
             obtain rfl := hr
             exact awl_nil ⟨rfl, post_put⟩⟩⟩
           , ⟨_, rfl, fun sl hd hr ho => by
             refine r_call0 hq rfl rfl (.cons (.ev (hd 0 _ rfl rfl rfl) rfl) (.cons (.ev (hd 3 _ rfl rfl rfl) rfl) .nil)) (apply_ok (allV X L1 2 5) (entriesF (allV X L1 2 5) (allV X L2 2 5)) (by omega) (by have := entries_len (allV X L1 2 5) (allV X L2 2 5); omega)) rfl TW.en15 rfl (fun r hr => ?_)
             obtain rfl : r = .tup [entsA (allV X L2 2 5), .v (.int .i64 0)] := by
              rcases hr with ⟨l2, h1, h2⟩ | ⟨h1, _⟩
              · rw [hap] at h1; cases h1; rw [h2, hcl]
              · rw [hap] at h1; cases h1
             exact awl_nil ⟨rfl, post_put⟩⟩⟩
           , ⟨_, rfl, fun sl hd hr ho => by
             refine r_move (hd 4 _ rfl rfl rfl) rfl ?_
             exact awl_nil ⟨rfl, post_put⟩⟩⟩
           , ⟨_, rfl, fun sl hd hr ho => by
             refine r_extract (hd 5 _ rfl rfl rfl) rfl rfl ?_
             exact awl_nil ⟨rfl, post_put⟩⟩⟩
           , ⟨_, rfl, fun sl hd hr ho => by
             refine r_extract (hd 5 _ rfl rfl rfl) rfl rfl ?_
             exact awl_nil ⟨rfl, post_put⟩⟩⟩
           , ⟨_, rfl, fun sl hd hr ho => by
             refine r_assign (hd 6 _ rfl rfl rfl) rfl ?_
             exact awl_nil ⟨rfl, post_put⟩⟩⟩
           (by rfl) ?_
          refine r_assign rfl rfl ?_
          refine awl_nil ?_
          refine x_then ?_
          refine awp_seq ?_
          refine awp_region ?_
          refine r_move rfl rfl ?_
          refine r_cmp rfl rfl rfl rfl ?_
          refine r_move rfl rfl ?_
          refine g_run rfl rfl rfl ?_
          refine r_move rfl rfl ?_
          refine g_run rfl rfl rfl ?_
          refine r_load1b 0 rfl rfl rfl TW.agg52 rfl ?_
          refine g_run rfl rfl rfl ?_
          refine r_call0 hq rfl rfl (.cons (.ev rfl rfl) (.cons (.ev rfl rfl) .nil)) (sameE_ok (allV X L2 2 5) (by omega)) rfl TW.en16 rfl (fun r hr => ?_)
          obtain rfl := hr
          refine r_pickT rfl rfl rfl rfl ?_
          refine r_assign rfl rfl ?_
          refine awl_nil ?_
          refine x_then ?_
          refine awp_ret ?_
          exact ⟨(.inl rfl), _, [], (.one (by first | exact .mk rfl rfl | exact .nil rfl)), ⟨rfl, rfl⟩, (List.nil_sublist _), (by simp)⟩
        ·
         intro c xs wo' hX
         exact hX.elim
       ·
        refine x_block ?_
        refine x_then ?_
        refine awp_seq ?_
        refine awp_seq ?_
        refine awp_region ?_
        refine awl_imp (imp_commitBx 0 0 rfl rfl rfl) ?_
        refine r_loadAb 2 rfl rfl TW.agg33 TW.sz33 rfl rfl ?_
        refine r_call0 hq rfl rfl (.cons (.ev rfl rfl) (.cons (.ev rfl rfl) (.cons (.ev rfl rfl) .nil))) (viewAll_ok (some (rt, nn)) L2 ((w % (l.length + 1) : Nat) : Int) 2 5 (by omega) (by omega)) rfl TW.en14 rfl (fun r hr => ?_)
        obtain rfl := hr
        refine awl_nil ?_
        refine x_then ?_
        refine awp_block ?_
        refine awp_rangeFuncS (fun pre wo => ∃ l : List Ent, pre = l.map eA ∧ GrowB b16 3 57 (l.map Ent.cs) wo) (fun _ _ _ => False) [(16, .a (.v (.pointer (some ⟨b16, 0, none⟩))))] [false, true] hq rfl (viewAll1_ok (some (rt, nn)) X hL.idx.good L2 hl2 ((w % (l.length + 1) : Nat) : Int) 2 5 (by omega) (by omega)) TW.en28 (fun pre x ⟨e, _, _, h⟩ => by subst h; rfl) rfl rfl rfl (List.nil_sublist _) (Slots.cons rfl (by first | exact .refl _ | exact .nilOwn _ _ | exact .nilSl _ | exact .ownSl _ _ _  | exact SV.le.of_eq (by simp)) Slots.nil) rfl rfl ⟨[], rfl, .inl ⟨rfl, rfl⟩⟩ ?_ ?_ ?_
        ·
         intro lr pre x wo rec busy w0 C0 hq hj hax
         obtain ⟨l, rfl, hgb⟩ := hj
         obtain ⟨e, het, _, rfl⟩ := hax
         have hll : l.length < (allV X L2 2 5).length := by have := (List.getElem?_eq_some_iff.1 het).1; simpa using this
         have hal := hs2
         rcases hgb with ⟨h0, rfl⟩ | ⟨h0, g, cap, rfl⟩
         ·
          obtain rfl : l = [] := by simpa using h0
          refine awpi_region ?_
          refine awli_op (fun c h => (by cases h)) ?_
          refine r_alloc TW.zero57 rfl (fun b18 => ?_)
          refine awl_nil ⟨rfl, ?_⟩
          refine awli_op (fun c h => (by cases h)) ?_
          first | (refine r_store 0 rfl rfl rfl TW.sz57 rfl rfl rfl ?_) | (refine r_store 1 rfl rfl rfl TW.sz57 rfl rfl rfl ?_) | (refine r_store 2 rfl rfl rfl TW.sz57 rfl rfl rfl ?_) | (refine r_store 3 rfl rfl rfl TW.sz57 rfl rfl rfl ?_)
          refine awl_nil ⟨rfl, ?_⟩
          refine awli_nil ?_
          refine ⟨rfl, 2, rfl, ?_⟩
          refine awpi_block ?_
          refine awpi_region ?_
          refine awli_op (fun c h => (by cases h)) ?_
          first | (refine r_load1b 0 rfl rfl rfl TW.agg52 rfl ?_) | (refine r_load1 rfl TW.agg52 rfl ?_) | (refine r_load1b 1 rfl rfl rfl TW.agg52 rfl ?_) | (refine r_load1b 2 rfl rfl rfl TW.agg52 rfl ?_) | (refine r_load1b 3 rfl rfl rfl TW.agg52 rfl ?_)
          refine awl_nil ⟨rfl, ?_⟩
          refine awli_op (fun c h => (by cases h)) ?_
          first | (refine r_loadAb 0 rfl rfl TW.agg57 TW.sz57 rfl rfl ?_) | (refine r_loadA rfl TW.agg57 TW.sz57 rfl rfl ?_) | (refine r_loadAb 1 rfl rfl TW.agg57 TW.sz57 rfl rfl ?_) | (refine r_loadAb 2 rfl rfl TW.agg57 TW.sz57 rfl rfl ?_) | (refine r_loadAb 3 rfl rfl TW.agg57 TW.sz57 rfl rfl ?_)
          refine awl_nil ⟨rfl, ?_⟩
          refine awli_op (fun c h => (by cases h)) ?_
          refine r_lit 75 (parts := [(0, .tmp 74)]) rfl TW.sl52 TW.sz57 TW.zraw57 rfl rfl rfl rfl rfl rfl rfl ?_
          refine awl_nil ⟨rfl, ?_⟩
          refine awli_op (fun c h => (by cases h)) ?_
          refine r_appendBN rfl rfl (by first | exact .sl _ | exact .own _ _) (by simp [chunks]) TW.sl52 TW.sz57 TW.by57 TW.zlen57 (by simp [chunks] <;> omega) (by simp [chunks] <;> omega) rfl (fun gb gc => ?_)
          refine awl_nil ⟨rfl, ?_⟩
          refine awli_op (fun c h => (by cases h)) ?_
          first | (refine r_store 0 rfl rfl rfl TW.sz52 rfl rfl rfl ?_) | (refine r_store 1 rfl rfl rfl TW.sz52 rfl rfl rfl ?_) | (refine r_store 2 rfl rfl rfl TW.sz52 rfl rfl rfl ?_) | (refine r_store 3 rfl rfl rfl TW.sz52 rfl rfl rfl ?_) | (refine r_store 4 rfl rfl rfl TW.sz52 rfl rfl rfl ?_)
          refine awl_nil ⟨rfl, ?_⟩
          refine awli_nil ?_
          refine x_block ?_
          refine ⟨_, .inl ⟨rfl, [e], rfl, .inr ⟨by simp, gb, gc, rfl⟩⟩, ?_, by simp⟩
          first | exact List.Sublist.refl _ | exact .cons_cons _ (.cons _ (.refl _)) | exact List.nil_sublist _ | exact .cons _ (.refl _) | exact .cons _ (.cons _ (.refl _)) | exact .cons _ (.cons _ (.cons _ (.refl _))) | exact .cons _ (.cons _ (.cons _ (.cons _ (.refl _)))) | exact .cons_cons _ (List.nil_sublist _)
         ·
          refine awpi_region ?_
          refine awli_op (fun c h => (by cases h)) ?_
          refine r_alloc TW.zero57 rfl (fun b18 => ?_)
          refine awl_nil ⟨rfl, ?_⟩
          refine awli_op (fun c h => (by cases h)) ?_
          first | (refine r_store 0 rfl rfl rfl TW.sz57 rfl rfl rfl ?_) | (refine r_store 1 rfl rfl rfl TW.sz57 rfl rfl rfl ?_) | (refine r_store 2 rfl rfl rfl TW.sz57 rfl rfl rfl ?_) | (refine r_store 3 rfl rfl rfl TW.sz57 rfl rfl rfl ?_) | (refine r_store 4 rfl rfl rfl TW.sz57 rfl rfl rfl ?_)
          refine awl_nil ⟨rfl, ?_⟩
          refine awli_nil ?_
          refine ⟨rfl, 3, rfl, ?_⟩
          refine awpi_block ?_
          refine awpi_region ?_
          refine awli_op (fun c h => (by cases h)) ?_
          first | (refine r_load1b 0 rfl rfl rfl TW.agg52 rfl ?_) | (refine r_load1 rfl TW.agg52 rfl ?_) | (refine r_load1b 1 rfl rfl rfl TW.agg52 rfl ?_) | (refine r_load1b 2 rfl rfl rfl TW.agg52 rfl ?_) | (refine r_load1b 3 rfl rfl rfl TW.agg52 rfl ?_) | (refine r_load1b 4 rfl rfl rfl TW.agg52 rfl ?_)
          refine awl_nil ⟨rfl, ?_⟩
          refine awli_op (fun c h => (by cases h)) ?_
          first | (refine r_loadAb 0 rfl rfl TW.agg57 TW.sz57 rfl rfl ?_) | (refine r_loadA rfl TW.agg57 TW.sz57 rfl rfl ?_) | (refine r_loadAb 1 rfl rfl TW.agg57 TW.sz57 rfl rfl ?_) | (refine r_loadAb 2 rfl rfl TW.agg57 TW.sz57 rfl rfl ?_) | (refine r_loadAb 3 rfl rfl TW.agg57 TW.sz57 rfl rfl ?_) | (refine r_loadAb 4 rfl rfl TW.agg57 TW.sz57 rfl rfl ?_)
          refine awl_nil ⟨rfl, ?_⟩
          refine awli_op (fun c h => (by cases h)) ?_
          refine r_lit 75 (parts := [(0, .tmp 74)]) rfl TW.sl52 TW.sz57 TW.zraw57 rfl rfl rfl rfl rfl rfl rfl ?_
          refine awl_nil ⟨rfl, ?_⟩
          refine awli_op (fun c h => (by cases h)) ?_
          refine r_appendBG 1 rfl rfl rfl rfl (by first | exact .sl _ | exact .own _ _) (by simp [chunks]) TW.sl52 TW.sz57 TW.by57 TW.zlen57 (by simp [chunks] <;> omega) (by simp [chunks] <;> omega) rfl (fun gb gc => ?_)
          refine awl_nil ⟨rfl, ?_⟩
          refine awli_op (fun c h => (by cases h)) ?_
          first | (refine r_store 0 rfl rfl rfl TW.sz52 rfl rfl rfl ?_) | (refine r_store 1 rfl rfl rfl TW.sz52 rfl rfl rfl ?_) | (refine r_store 2 rfl rfl rfl TW.sz52 rfl rfl rfl ?_) | (refine r_store 3 rfl rfl rfl TW.sz52 rfl rfl rfl ?_) | (refine r_store 4 rfl rfl rfl TW.sz52 rfl rfl rfl ?_)
          refine awl_nil ⟨rfl, ?_⟩
          refine awli_nil ?_
          refine x_block ?_
          refine ⟨_, .inl ⟨rfl, l ++ [e], by simp, .inr ⟨by simp, gb, gc, rfl⟩⟩, ?_, by simp⟩
          simp only [List.map_append, List.map_cons, List.map_nil]
          first | exact List.Sublist.refl _ | exact .cons_cons _ (.cons _ (.refl _)) | exact List.nil_sublist _ | exact .cons _ (.refl _) | exact .cons _ (.cons _ (.refl _)) | exact .cons _ (.cons _ (.cons _ (.refl _))) | exact .cons _ (.cons _ (.cons _ (.cons _ (.refl _)))) | exact .cons_cons _ (List.nil_sublist _)
        ·
         intro xs wo' hG hJ
         obtain ⟨lq, rfl, hgb⟩ := hJ
         obtain rfl := eA_inj hG
         rcases hgb with ⟨h0, rfl⟩ | ⟨h0, g1, cap, rfl⟩
         ·
          refine x_block ?_
          refine x_then ?_
          refine awp_seq ?_
          refine awp_imp (imp_boxLe (cs' := [.sl 3 ((allV X L2 2 5).map Ent.cs)]) 0 rfl (by rw [h0]; exact .cons (.nil 3) .nil)) ?_
          refine awp_drawS [78, 79, 80, 81, 82, 77, 83, 84, 19] [_, _, _, _, _, _, _, _, _] [] [] TW.mixed rfl rfl rfl ⟨⟨⟨⟨⟨⟨⟨⟨⟨trivial
           , ⟨_, rfl, fun sl hd hr ho => by
             refine r_load1b 1 (hr 15 _ rfl rfl rfl) rfl rfl TW.agg52 rfl ?_
             exact awl_nil ⟨rfl, post_put⟩⟩⟩
           , ⟨_, rfl, fun sl hd hr ho => by
             refine r_loadAb 3 (hr 11 _ rfl rfl rfl) rfl TW.agg33 TW.sz33 rfl rfl ?_
             exact awl_nil ⟨rfl, post_put⟩⟩⟩
           , ⟨_, rfl, fun sl hd hr ho => by
             refine r_loadAb 2 (hr 13 _ rfl rfl rfl) rfl TW.agg33 TW.sz33 rfl rfl ?_
             exact awl_nil ⟨rfl, post_put⟩⟩⟩
           , ⟨_, rfl, fun sl hd hr ho => by
             refine r_call0 hq rfl rfl (.cons (.ev (hd 1 _ rfl rfl rfl) rfl) (.cons (.ev (hd 2 _ rfl rfl rfl) rfl) (.cons (.ev rfl rfl) (.cons (.ev rfl rfl) .nil)))) (of_ok (some (rt, nn)) X hL.idx.good L1 hl1 (l.length : Int) 2 5 (by omega) (by omega) (some (rt, nn)) X hL.idx.good L2 hl2 ((w % (l.length + 1) : Nat) : Int)) rfl TW.en10 rfl (fun r hr => ?_)
             obtain rfl := hr
             exact awl_nil ⟨rfl, post_put⟩⟩⟩
           , ⟨_, rfl, fun sl hd hr ho => by
             refine r_call0 hq rfl rfl (.cons (.ev (hd 0 _ rfl rfl rfl) rfl) (.cons (.ev (hd 3 _ rfl rfl rfl) rfl) .nil)) (apply_ok (allV X L1 2 5) (entriesF (allV X L1 2 5) (allV X L2 2 5)) (by omega) (by have := entries_len (allV X L1 2 5) (allV X L2 2 5); omega)) rfl TW.en15 rfl (fun r hr => ?_)
             obtain rfl : r = .tup [entsA (allV X L2 2 5), .v (.int .i64 0)] := by
              rcases hr with ⟨l2, h1, h2⟩ | ⟨h1, _⟩
              · rw [hap] at h1; cases h1; rw [h2, hcl]
              · rw [hap] at h1; cases h1
             exact awl_nil ⟨rfl, post_put⟩⟩⟩
           , ⟨_, rfl, fun sl hd hr ho => by
             refine r_move (hd 4 _ rfl rfl rfl) rfl ?_
             exact awl_nil ⟨rfl, post_put⟩⟩⟩
           , ⟨_, rfl, fun sl hd hr ho => by
             refine r_extract (hd 5 _ rfl rfl rfl) rfl rfl ?_
             exact awl_nil ⟨rfl, post_put⟩⟩⟩
           , ⟨_, rfl, fun sl hd hr ho => by
             refine r_extract (hd 5 _ rfl rfl rfl) rfl rfl ?_
             exact awl_nil ⟨rfl, post_put⟩⟩⟩
           , ⟨_, rfl, fun sl hd hr ho => by
             refine r_assign (hd 6 _ rfl rfl rfl) rfl ?_
             exact awl_nil ⟨rfl, post_put⟩⟩⟩
           (by rfl) ?_
          refine r_assign rfl rfl ?_
          refine awl_nil ?_
          refine x_then ?_
          refine awp_seq ?_
          refine awp_region ?_
          refine r_move rfl rfl ?_
          refine r_cmp rfl rfl rfl rfl ?_
          refine r_move rfl rfl ?_
          refine g_run rfl rfl rfl ?_
          refine r_move rfl rfl ?_
          refine g_run rfl rfl rfl ?_
          refine r_load1b 0 rfl rfl rfl TW.agg52 rfl ?_
          refine g_run rfl rfl rfl ?_
          refine r_call0 hq rfl rfl (.cons (.ev rfl rfl) (.cons (.ev rfl rfl) .nil)) (sameE_ok (allV X L2 2 5) (by omega)) rfl TW.en16 rfl (fun r hr => ?_)
          obtain rfl := hr
          refine r_pickT rfl rfl rfl rfl ?_
          refine r_assign rfl rfl ?_
          refine awl_nil ?_
          refine x_then ?_
          refine awp_ret ?_
          exact ⟨(.inl rfl), _, [], (.one (by first | exact .mk rfl rfl | exact .nil rfl)), ⟨rfl, rfl⟩, (List.nil_sublist _), (by simp)⟩
         ·
          refine x_block ?_
          refine x_then ?_
          refine awp_seq ?_
          refine awp_imp (imp_commitBx 0 0 rfl rfl rfl) ?_
          refine awp_drawS [78, 79, 80, 81, 82, 77, 83, 84, 19] [_, _, _, _, _, _, _, _, _] [] [] TW.mixed rfl rfl rfl ⟨⟨⟨⟨⟨⟨⟨⟨⟨trivial
           , ⟨_, rfl, fun sl hd hr ho => by
             refine r_load1b 1 (hr 15 _ rfl rfl rfl) rfl rfl TW.agg52 rfl ?_
             exact awl_nil ⟨rfl, post_put⟩⟩⟩
           , ⟨_, rfl, fun sl hd hr ho => by
             refine r_loadAb 3 (hr 11 _ rfl rfl rfl) rfl TW.agg33 TW.sz33 rfl rfl ?_
             exact awl_nil ⟨rfl, post_put⟩⟩⟩
           , ⟨_, rfl, fun sl hd hr ho => by
             refine r_loadAb 2 (hr 13 _ rfl rfl rfl) rfl TW.agg33 TW.sz33 rfl rfl ?_
             exact awl_nil ⟨rfl, post_put⟩⟩⟩
           , ⟨_, rfl, fun sl hd hr ho => by
             refine r_call0 hq rfl rfl (.cons (.ev (hd 1 _ rfl rfl rfl) rfl) (.cons (.ev (hd 2 _ rfl rfl rfl) rfl) (.cons (.ev rfl rfl) (.cons (.ev rfl rfl) .nil)))) (of_ok (some (rt, nn)) X hL.idx.good L1 hl1 (l.length : Int) 2 5 (by omega) (by omega) (some (rt, nn)) X hL.idx.good L2 hl2 ((w % (l.length + 1) : Nat) : Int)) rfl TW.en10 rfl (fun r hr => ?_)
             obtain rfl := hr
             exact awl_nil ⟨rfl, post_put⟩⟩⟩
           , ⟨_, rfl, fun sl hd hr ho => by
             refine r_call0 hq rfl rfl (.cons (.ev (hd 0 _ rfl rfl rfl) rfl) (.cons (.ev (hd 3 _ rfl rfl rfl) rfl) .nil)) (apply_ok (allV X L1 2 5) (entriesF (allV X L1 2 5) (allV X L2 2 5)) (by omega) (by have := entries_len (allV X L1 2 5) (allV X L2 2 5); omega)) rfl TW.en15 rfl (fun r hr => ?_)
             obtain rfl : r = .tup [entsA (allV X L2 2 5), .v (.int .i64 0)] := by
              rcases hr with ⟨l2, h1, h2⟩ | ⟨h1, _⟩
              · rw [hap] at h1; cases h1; rw [h2, hcl]
              · rw [hap] at h1; cases h1
             exact awl_nil ⟨rfl, post_put⟩⟩⟩
           , ⟨_, rfl, fun sl hd hr ho => by
             refine r_move (hd 4 _ rfl rfl rfl) rfl ?_
             exact awl_nil ⟨rfl, post_put⟩⟩⟩
           , ⟨_, rfl, fun sl hd hr ho => by
             refine r_extract (hd 5 _ rfl rfl rfl) rfl rfl ?_
             exact awl_nil ⟨rfl, post_put⟩⟩⟩
           , ⟨_, rfl, fun sl hd hr ho => by
             refine r_extract (hd 5 _ rfl rfl rfl) rfl rfl ?_
             exact awl_nil ⟨rfl, post_put⟩⟩⟩
           , ⟨_, rfl, fun sl hd hr ho => by
             refine r_assign (hd 6 _ rfl rfl rfl) rfl ?_
             exact awl_nil ⟨rfl, post_put⟩⟩⟩
           (by rfl) ?_
          refine r_assign rfl rfl ?_
          refine awl_nil ?_
          refine x_then ?_
          refine awp_seq ?_
          refine awp_region ?_
          refine r_move rfl rfl ?_
          refine r_cmp rfl rfl rfl rfl ?_
          refine r_move rfl rfl ?_
          refine g_run rfl rfl rfl ?_
          refine r_move rfl rfl ?_
          refine g_run rfl rfl rfl ?_
          refine r_load1b 0 rfl rfl rfl TW.agg52 rfl ?_
          refine g_run rfl rfl rfl ?_
          refine r_call0 hq rfl rfl (.cons (.ev rfl rfl) (.cons (.ev rfl rfl) .nil)) (sameE_ok (allV X L2 2 5) (by omega)) rfl TW.en16 rfl (fun r hr => ?_)
          obtain rfl := hr
          refine r_pickT rfl rfl rfl rfl ?_
          refine r_assign rfl rfl ?_
          refine awl_nil ?_
          refine x_then ?_
          refine awp_ret ?_
          exact ⟨(.inl rfl), _, [], (.one (by first | exact .mk rfl rfl | exact .nil rfl)), ⟨rfl, rfl⟩, (List.nil_sublist _), (by simp)⟩
        ·
         intro c xs wo' hX
         exact hX.elim
      ·
       intro c xs wo' hX
       exact hX.elim
end Go.Proofs.Ytpkodkoooaldlaa.A
namespace Go.Proofs.Ytpkodkoooaldlaa.A
open Go Go.RowKit
set_option linter.unusedVariables false
set_option linter.unusedSimpArgs false
set_option maxRecDepth 100000
theorem restores_law (l : List FA) (hok : ∀ a ∈ l, a.ok) (u w : Int) (hu : (Lit.int .u8 u).wf = true) (hw : (Lit.int .u8 w).wf = true) : AC Try.prog 6 [.sl 5 (l.map FA.cs), .v (.int .u8 u), .v (.int .u8 w)] [] (fun r n => n = [] ∧ r = boolA true) := by
  obtain ⟨u, rfl, ku⟩ := u8_wf hu
  obtain ⟨w, rfl, kw⟩ := u8_wf hw
  exact restores_walk l hok u w ku kw
end Go.Proofs.Ytpkodkoooaldlaa.A

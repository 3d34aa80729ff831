import Derived.WalkKit
import Derived.Below
import Derived.Laws.Rows
import Derived.Laws.CopyRow
import Derived.Laws.AppendOwn
import Derived.RangeFuncLeaves
import Derived.RangeFuncSeq
import Derived.RangeFuncCalls
import Derived.MapKept
import Derived.Orders
import Derived.Laws.IdiomStrings
import Derived.Laws.BytesArg
import Derived.Shelf.SlIter.Nil
import Derived.Shelf.SortM.Plain
import Derived.Shelf.SortM.SortNone
import Derived.Ground.GgzProg
import Derived.Ground.SlgmProg
import Derived.Test.YtnbnegkdbjdekaaProg
import Derived.KernelRfl
import Derived.RangeFuncBound
import Derived.Maps.RangeRun
import Derived.DeepKeys3
import Derived.Laws.StructEq
import Derived.Shelf.SlSortCmp.NoneTotal
import Derived.ChangeKeysEq
import Derived.Laws.MakeOwn
import Derived.ChangeArms
import Derived.ChangeOld
import Derived.Test.YtnbnegkdbjdekaaM2
namespace Go.Proofs.Ytnbnegkdbjdekaa.A
open Go Go.RowKit Go.Maps Go.Sort
set_option linter.unusedSectionVars false
variable [Thr]
set_option linter.unusedVariables false
set_option linter.unusedSimpArgs false
abbrev SM := List (ByteArray × List UInt8)
def firstM (l : List File) : SM := l.foldl (fun m f => if (mget m f.name).isSome then m else mset m f.name f.data) []
theorem firstM_step {l : List File} {k : Nat} {x : File} (h : l[k]? = some x) : firstM (l.take (k + 1)) = if (mget (firstM (l.take k)) x.name).isSome then firstM (l.take k) else mset (firstM (l.take k)) x.name x.data := by
  unfold firstM; rw [fold_take h]
theorem tells_take (l : List File) : ∀ k, k ≤ l.length → TellsS (firstM (l.take k)) (l.take k)
  | 0, _ => tellsS_nil
  | k + 1, hk => by
    obtain ⟨x, hx⟩ := get_lt (show k < l.length by omega)
    have ih := tells_take l k (by omega)
    rw [firstM_step hx]
    cases hg : (mget (firstM (l.take k)) x.name).isSome with
    | true => rw [if_pos rfl]; exact tellsS_has ih hx hg
    | false => rw [if_neg (by simp)]; exact tellsS_new ih hx hg
theorem tells_first (l : List File) : TellsS (firstM l) l := by
  have := tells_take l l.length (Nat.le_refl _)
  rwa [List.take_length] at this
def alterM (m : SM) (c : FC) : Int × SM :=
  if c.kind = 2 then (0, mdel m c.name)
  else if c.kind = 3 then (0, mset m c.name c.data)
  else if c.kind = 4 then (if (mget m c.to).isSome then (5, m) else (0, mdel (mset m c.to ((mget m c.name).getD [])) c.name))
  else (0, m)
def stepM (m : SM) (c : FC) : Int × SM :=
  if c.kind = 1 then (if (mget m c.name).isSome then (5, m) else (0, mset m c.name c.data))
  else if c.kind = 2 ∨ c.kind = 3 ∨ c.kind = 4 then (if (mget m c.name).isSome then alterM m c else (4, m))
  else (18, m)
def applyM (m : SM) (d : List FC) : Int × SM := d.foldl (fun s c => if s.1 = 0 then stepM s.2 c else s) (0, m)
def filesM (m : SM) : List File := (sortB (m.map (·.1))).map fun s => ⟨s, (mget m s).getD []⟩
theorem applyM_step {m m' : SM} {d : List FC} {k : Nat} {c : FC} (h : d[k]? = some c) (ha : applyM m (d.take k) = (0, m')) : applyM m (d.take (k + 1)) = stepM m' c := by
  unfold applyM at *; rw [fold_take h, ha]; simp
theorem fold_stuck (d : List FC) (s : Int × SM) (h : ¬ s.1 = 0) : d.foldl (fun s c => if s.1 = 0 then stepM s.2 c else s) s = s := by
  induction d with
  | nil => rfl
  | cons c d ih => rw [List.foldl_cons, if_neg h]; exact ih
theorem applyM_fail {m m' : SM} {d : List FC} {k : Nat} {c : FC} (h : d[k]? = some c) (ha : applyM m (d.take k) = (0, m')) (hf : ¬ (stepM m' c).1 = 0) : applyM m d = stepM m' c := by
  have h1 := applyM_step h ha
  have e : d = d.take (k + 1) ++ d.drop (k + 1) := (List.take_append_drop _ _).symm
  unfold applyM at *
  rw [e, List.foldl_append, h1, fold_stuck _ _ hf]
theorem applyM_end {m m' : SM} {d : List FC} {k : Nat} (hk : d.length ≤ k) (ha : applyM m (d.take k) = (0, m')) : applyM m d = (0, m') := by rwa [List.take_of_length_le hk] at ha
theorem applyM_app {m m' : SM} {d d' : List FC} (ha : applyM m d = (0, m')) : applyM m (d ++ d') = applyM m' d' := by
  unfold applyM at *; rw [List.foldl_append, ha]
structure OkM (m : SM) (n : Nat) : Prop where
  nd : (m.map (·.1)).Nodup
  sz : ∀ s ∈ m.map (·.1), s.size ≤ maxLen
  len : m.length ≤ n
theorem okM_set {m : SM} {n : Nat} {s : ByteArray} {v : List UInt8} (h : OkM m n) (hs : s.size ≤ maxLen) : OkM (mset m s v) (n + 1) :=
  ⟨mset_nodup h.nd, fun x hx => by rw [mset_keys] at hx; rcases hx with rfl | hx; exact hs; exact h.sz x hx, Nat.le_trans mset_len (by have := h.len; omega)⟩
theorem okM_del {m : SM} {n : Nat} {s : ByteArray} (h : OkM m n) : OkM (mdel m s) n :=
  ⟨h.nd.sublist ((mdel_sub m s).map _), fun x hx => h.sz x (((mdel_sub m s).map _).mem hx), Nat.le_trans (mdel_sub m s).length_le h.len⟩
theorem okM_more {m : SM} {n : Nat} (h : OkM m n) : OkM m (n + 1) := ⟨h.nd, h.sz, Nat.le_succ_of_le h.len⟩
theorem okM_alter {m : SM} {n : Nat} {c : FC} (h : OkM m n) (h1 : c.name.size ≤ maxLen) (h2 : c.to.size ≤ maxLen) : OkM (alterM m c).2 (n + 1) := by
  unfold alterM
  split
  · exact okM_more (okM_del h)
  · split
    · exact okM_set h h1
    · split
      · split
        · exact okM_more h
        · exact okM_del (okM_set h h2)
      · exact okM_more h
theorem okM_step {m : SM} {n : Nat} {c : FC} (h : OkM m n) (h1 : c.name.size ≤ maxLen) (h2 : c.to.size ≤ maxLen) : OkM (stepM m c).2 (n + 1) := by
  unfold stepM
  split
  · split
    · exact okM_more h
    · exact okM_set h h1
  · split
    · split
      · exact okM_alter h h1 h2
      · exact okM_more h
    · exact okM_more h
theorem okM_first {l : List File} (hl : ∀ f ∈ l, f.name.size ≤ 1000000) : OkM (firstM l) l.length := ⟨(tells_first l).nd, keys_size (tells_first l) hl, (tells_first l).len⟩
end Go.Proofs.Ytnbnegkdbjdekaa.A
namespace Go.Proofs.Ytnbnegkdbjdekaa.A
open Go Go.RowKit
set_option linter.unusedVariables false
set_option linter.unusedSimpArgs false
set_option maxRecDepth 100000
set_option linter.unusedSectionVars false
variable [Thr]
theorem TF.f50_0 : fieldT Try.prog 50 0 = some (0, 3) := by kernel_rfl
theorem TF.sz3 : szT Try.prog 3 = some 1 := by kernel_rfl
theorem TF.agg3 : aggT Try.prog 3 = some false := by kernel_rfl
theorem TF.f50_1 : fieldT Try.prog 50 1 = some (1, 9) := by kernel_rfl
theorem TF.f50_3 : fieldT Try.prog 50 3 = some (3, 34) := by kernel_rfl
theorem TF.f50_2 : fieldT Try.prog 50 2 = some (2, 9) := by kernel_rfl
theorem TF.agg50 : aggT Try.prog 50 = some true := by kernel_rfl
theorem TF.en45 : entersT Try.prog 45 := enters_of Try.func45 (by kernel_rfl) (by kernel_rfl)
theorem TF.en34 : entersT Try.prog 34 := enters_of Try.func34 (by kernel_rfl) (by kernel_rfl)
theorem TF.pl48 : placesT Try.prog 48 = some [(0, 1), (1, 1)] := by kernel_rfl
theorem TF.zraw48 : zeroT Try.prog 48 = some [(.string ⟨#[]⟩), (.slice none 0 0)] := by kernel_rfl
theorem TF.by48 : bytesT Try.prog 48 = some 40 := by kernel_rfl
theorem TF.zlen48 : (zeroT Try.prog 48).map (·.length) = some 2 := by kernel_rfl
theorem named2_ok (l : List File) (hl : l.length ≤ 1000000) (hda : ∀ f ∈ l, f.data.length ≤ 1000000) : AC Try.prog 23 [files l] [] (fun r n => ∃ b, r = .v (.map (some b)) ∧ n = [⟨b, true, .map (encM Value.string bts (firstM l))⟩]) := by
 refine ac_of_awp (rs := [2]) (nt := 32) Try.func23 rfl rfl rfl rfl (fun w0 C0 hq => ?_)
 refine awp_seq ?_
 refine awp_region ?_
 refine r_assign rfl rfl ?_
 refine awl_nil ?_
 refine x_then ?_
 refine awp_seq ?_
 refine awp_region ?_
 refine r_makeMap (ek := Value.string) (ev := bts) [] rfl rfl (fun b8 => ?_)
 refine r_assign rfl rfl ?_
 refine awl_nil ?_
 refine x_then ?_
 refine awp_seq ?_
 refine awp_seq ?_
 refine awp_region ?_
 refine r_move rfl rfl ?_
 first | (refine r_lenS rfl rfl TF.sl25 rfl ?_) | (refine r_lenNil rfl TF.sl25 rfl ?_) | (refine r_lenV rfl TF.sl25 rfl ?_)
 refine r_move rfl rfl ?_
 refine awl_nil ?_
 refine x_then ?_
 refine awp_block ?_
 refine awp_loop (fun nn0 S => ∃ k : Nat, S = ⟨32, [(3, .a (.v (.map (some b8)))), (9, .a (files l)), (10, .a (.v (.int .i64 ((l.map File.cs).length)))), (11, .a (.v (.int .i64 ((k : Int)))))], [⟨b8, true, .map (encM Value.string bts (firstM (l.take k)))⟩]⟩ ∧ nn0 = l.length - k ∧ (k ≤ l.length)) (l.length - (0)) ⟨32, [(3, .a (.v (.map (some b8)))), (9, .a (files l)), (10, .a (.v (.int .i64 ((l.map File.cs).length)))), (11, .a (.v (.int .i64 (((0) : Int)))))], [⟨b8, true, .map (encM Value.string bts (firstM (l.take (0))))⟩]⟩ ⟨rfl, (Slots.cons rfl (by first | exact .refl _ | exact .nilOwn _ _ | exact .nilSl _ | exact .ownSl _ _ _  | exact SV.le.of_eq (by simp)) (Slots.cons rfl (by first | exact .refl _ | exact .nilOwn _ _ | exact .nilSl _ | exact .ownSl _ _ _  | exact SV.le.of_eq (by simp)) (Slots.cons rfl (by first | exact .refl _ | exact .nilOwn _ _ | exact .nilSl _ | exact .ownSl _ _ _  | exact SV.le.of_eq (by simp)) (Slots.cons rfl (by first | exact .refl _ | exact .nilOwn _ _ | exact .nilSl _ | exact .ownSl _ _ _  | exact SV.le.of_eq (by simp)) Slots.nil)))), (by first | exact List.Sublist.refl _ | exact .cons_cons _ (.cons _ (.refl _)) | exact List.nil_sublist _ | exact .cons _ (.refl _) | exact .cons _ (.cons _ (.refl _)) | exact .cons _ (.cons _ (.cons _ (.refl _))) | exact .cons _ (.cons _ (.cons _ (.cons _ (.refl _)))) | exact .cons_cons _ (List.nil_sublist _))⟩ ⟨0, rfl, rfl, Nat.zero_le _⟩ ?_
 rintro nn0 _ ⟨k, rfl, rfl, hk⟩
 refine awp_seq ?_
 refine awp_region ?_
 refine r_cmp rfl rfl rfl rfl ?_
 refine awl_nil ?_
 refine x_then ?_
 refine awp_seq ?_
 refine awp_cond rfl (fun hc0 => ?_) (fun hc0 => ?_)
 ·
  have hltx : k < l.length := by have := of_decide_eq_true hc0; simpa using this
  obtain ⟨x, hx⟩ := get_lt hltx
  refine awp_skip ?_
  refine x_then ?_
  refine awp_seq ?_
  refine awp_block ?_
  refine awp_seq ?_
  refine awp_region ?_
  refine r_index rfl rfl rfl TF.sl25 TF.sz48 (by omega) (get_map hx) rfl ?_
  first | (refine r_loadA rfl TF.agg48 TF.sz48 rfl rfl ?_) | (refine r_loadAb 0 rfl rfl TF.agg48 TF.sz48 rfl rfl ?_)
  refine r_alloc TF.zero48 rfl (fun b5 => ?_)
  first | (refine r_store 0 rfl rfl rfl TF.sz48 rfl rfl rfl ?_) | (refine r_store 1 rfl rfl rfl TF.sz48 rfl rfl rfl ?_)
  refine awl_nil ?_
  refine x_then ?_
  refine awp_seq ?_
  refine awp_region ?_
  refine r_move rfl rfl ?_
  first | (refine r_fieldb rfl TF.f48_0 TF.sz9 rfl ?_) | (refine r_fieldcp rfl TF.f48_0 TF.sz9 rfl ?_)
  refine r_load1b 0 rfl rfl rfl TF.agg9 rfl ?_
  first | (refine r_lookupOk 0 (keyEnc_string TF.un9) (ev := bts) [] rfl rfl rfl TF.map55 TF.zavS rfl ?_) | (refine r_lookupOk 1 (keyEnc_string TF.un9) (ev := bts) [] rfl rfl rfl TF.map55 TF.zavS rfl ?_)
  refine r_move rfl rfl ?_
  refine r_extract rfl rfl rfl ?_
  refine r_extract rfl rfl rfl ?_
  refine r_assign rfl rfl ?_
  refine r_assign rfl rfl ?_
  refine awl_nil ?_
  refine x_then ?_
  refine awp_seq ?_
  refine awp_region ?_
  refine r_move rfl rfl ?_
  refine r_not rfl rfl ?_
  refine awl_nil ?_
  refine x_then ?_
  refine awp_cond rfl (fun hc1 => ?_) (fun hc1 => ?_)
  ·
   have hg : (mget (firstM (l.take k)) x.name).isSome = false := by simpa using hc1
   refine awp_drawS [24, 25, 26, 27, 28, 29] [_, _, _, _, _, _] [] [] TF.mixed rfl rfl rfl ⟨⟨⟨⟨⟨⟨trivial
    , ⟨_, rfl, fun sl hd hr ho => by
      refine r_move (hr 3 _ rfl rfl rfl) rfl ?_
      exact awl_nil ⟨rfl, post_put⟩⟩⟩
    , ⟨_, rfl, fun sl hd hr ho => by
      first | (refine r_fieldb (hr 5 _ rfl rfl rfl) TF.f48_0 TF.sz9 rfl ?_) | (refine r_fieldcp (hr 5 _ rfl rfl rfl) TF.f48_0 TF.sz9 rfl ?_)
      exact awl_nil ⟨rfl, post_put⟩⟩⟩
    , ⟨_, rfl, fun sl hd hr ho => by
      refine r_load1b 0 (hd 1 _ rfl rfl rfl) rfl rfl TF.agg9 rfl ?_
      exact awl_nil ⟨rfl, post_put⟩⟩⟩
    , ⟨_, rfl, fun sl hd hr ho => by
      first | (refine r_fieldb (hr 5 _ rfl rfl rfl) TF.f48_1 TF.sz34 rfl ?_) | (refine r_fieldcp (hr 5 _ rfl rfl rfl) TF.f48_1 TF.sz34 rfl ?_)
      exact awl_nil ⟨rfl, post_put⟩⟩⟩
    , ⟨_, rfl, fun sl hd hr ho => by
      refine r_load1b 0 (hd 3 _ rfl rfl rfl) rfl rfl TF.agg34 rfl ?_
      exact awl_nil ⟨rfl, post_put⟩⟩⟩
    , ⟨_, rfl, fun sl hd hr ho => by
      refine r_call0 hq rfl rfl (.cons (.ev (hd 4 _ rfl rfl rfl) rfl) .nil) (clone_ok x.data (hda x (List.mem_of_getElem? hx))) rfl TF.en30 rfl (fun r hr => ?_)
      obtain rfl := hr
      exact awl_nil ⟨rfl, post_put⟩⟩⟩
    (by rfl) ?_
   first | (refine r_mapUpdate 0 (keyEnc_string TF.un9) (ev := bts) x.data rfl rfl rfl rfl rfl TF.map55 ?_) | (refine r_mapUpdate 1 (keyEnc_string TF.un9) (ev := bts) x.data rfl rfl rfl rfl rfl TF.map55 ?_)
   refine awl_nil ?_
   refine x_block ?_
   refine x_then ?_
   refine awp_region ?_
   refine r_ari _ rfl rfl rfl (wrap_id (by first | omega | (simp; omega))) rfl ?_
   refine r_move rfl rfl ?_
   refine awl_nil ?_
   refine x_then ?_
   have hst := firstM_step hx
   refine ⟨l.length - (k + 1), ⟨32, [(3, .a (.v (.map (some b8)))), (9, .a (files l)), (10, .a (.v (.int .i64 ((l.map File.cs).length)))), (11, .a (.v (.int .i64 (((k + 1) : Int)))))], [⟨b8, true, .map (encM Value.string bts (firstM (l.take (k + 1))))⟩]⟩, ⟨rfl, (Slots.cons rfl (by first | exact .refl _ | exact .nilOwn _ _ | exact .nilSl _ | exact .ownSl _ _ _  | exact SV.le.of_eq (by simp)) (Slots.cons rfl (by first | exact .refl _ | exact .nilOwn _ _ | exact .nilSl _ | exact .ownSl _ _ _  | exact SV.le.of_eq (by simp)) (Slots.cons rfl (by first | exact .refl _ | exact .nilOwn _ _ | exact .nilSl _ | exact .ownSl _ _ _  | exact SV.le.of_eq (by simp)) (Slots.cons rfl (by first | exact .refl _ | exact .nilOwn _ _ | exact .nilSl _ | exact .ownSl _ _ _  | exact SV.le.of_eq (by simp)) Slots.nil)))), (by rw [hst, hg]; first | exact List.Sublist.refl _ | exact .cons_cons _ (.cons _ (.refl _)) | exact List.nil_sublist _ | exact .cons _ (.refl _) | exact .cons _ (.cons _ (.refl _)) | exact .cons _ (.cons _ (.cons _ (.refl _))) | exact .cons _ (.cons _ (.cons _ (.cons _ (.refl _)))) | exact .cons_cons _ (List.nil_sublist _))⟩, (by omega), ⟨k + 1, rfl, rfl, (by omega)⟩⟩
  ·
   have hg : (mget (firstM (l.take k)) x.name).isSome = true := by simpa using hc1
   refine awp_skip ?_
   refine x_block ?_
   refine x_then ?_
   refine awp_region ?_
   refine r_ari _ rfl rfl rfl (wrap_id (by first | omega | (simp; omega))) rfl ?_
   refine r_move rfl rfl ?_
   refine awl_nil ?_
   refine x_then ?_
   have hst := firstM_step hx
   refine ⟨l.length - (k + 1), ⟨32, [(3, .a (.v (.map (some b8)))), (9, .a (files l)), (10, .a (.v (.int .i64 ((l.map File.cs).length)))), (11, .a (.v (.int .i64 (((k + 1) : Int)))))], [⟨b8, true, .map (encM Value.string bts (firstM (l.take (k + 1))))⟩]⟩, ⟨rfl, (Slots.cons rfl (by first | exact .refl _ | exact .nilOwn _ _ | exact .nilSl _ | exact .ownSl _ _ _  | exact SV.le.of_eq (by simp)) (Slots.cons rfl (by first | exact .refl _ | exact .nilOwn _ _ | exact .nilSl _ | exact .ownSl _ _ _  | exact SV.le.of_eq (by simp)) (Slots.cons rfl (by first | exact .refl _ | exact .nilOwn _ _ | exact .nilSl _ | exact .ownSl _ _ _  | exact SV.le.of_eq (by simp)) (Slots.cons rfl (by first | exact .refl _ | exact .nilOwn _ _ | exact .nilSl _ | exact .ownSl _ _ _  | exact SV.le.of_eq (by simp)) Slots.nil)))), (by rw [hst, hg]; first | exact List.Sublist.refl _ | exact .cons_cons _ (.cons _ (.refl _)) | exact List.nil_sublist _ | exact .cons _ (.refl _) | exact .cons _ (.cons _ (.refl _)) | exact .cons _ (.cons _ (.cons _ (.refl _))) | exact .cons _ (.cons _ (.cons _ (.cons _ (.refl _)))) | exact .cons_cons _ (List.nil_sublist _))⟩, (by omega), ⟨k + 1, rfl, rfl, (by omega)⟩⟩
 ·
  have hge : l.length ≤ k := by have := of_decide_eq_false hc0; simp at this; omega
  rw [List.take_of_length_le hge]
  refine awp_exit ?_
  refine x_thenE ?_
  refine x_thenE ?_
  refine x_blockE ?_
  refine x_then ?_
  refine awp_seq ?_
  refine awp_region ?_
  refine r_move rfl rfl ?_
  refine r_assign rfl rfl ?_
  refine awl_nil ?_
  refine x_then ?_
  refine awp_ret ?_
  exact ⟨(.inl rfl), _, [⟨b8, true, .map (encM Value.string bts (firstM l))⟩], (.one (by first | exact .mk rfl rfl | exact .nil rfl)), ⟨b8, rfl, rfl⟩, (by first | exact List.Sublist.refl _ | exact .cons_cons _ (.cons _ (.refl _)) | exact List.nil_sublist _ | exact .cons _ (.refl _) | exact .cons _ (.cons _ (.refl _)) | exact .cons _ (.cons _ (.cons _ (.refl _))) | exact .cons _ (.cons _ (.cons _ (.cons _ (.refl _)))) | exact .cons_cons _ (List.nil_sublist _)), (by simp)⟩
theorem alter_ok (m : SM) (c : FC) (hdc : c.data.length ≤ 1000000) {b : Nat} {fl : Bool} : AW Try.prog 45 [.v (.map (some b)), .agg (FC.cs c)] [] [⟨b, fl, .map (encM Value.string bts m)⟩] (fun r n => r = .v (.int .i64 (alterM m c).1) ∧ n = [⟨b, true, .map (encM Value.string bts (alterM m c).2)⟩]) := by
 refine aw_of_awp (rs := [4]) (nt := 42) (so := [⟨b, true, .map (encM Value.string bts m)⟩]) Try.func45 rfl rfl rfl rfl rfl (fun w0 C0 hq => ?_)
 refine awp_seq ?_
 refine awp_region ?_
 refine r_box rfl rfl rfl (fun b3 => ?_)
 refine r_assign rfl rfl ?_
 refine awl_nil ?_
 refine x_then ?_
 refine awp_seq ?_
 refine awp_seq ?_
 refine awp_region ?_
 first | (refine r_fieldb rfl TF.f50_0 TF.sz3 rfl ?_) | (refine r_fieldcp rfl TF.f50_0 TF.sz3 rfl ?_)
 first | (refine r_load1b 0 rfl rfl rfl TF.agg3 rfl ?_) | (refine r_load1 rfl TF.agg3 rfl ?_) | (refine r_load1b 1 rfl rfl rfl TF.agg3 rfl ?_)
 refine awl_nil ?_
 refine x_then ?_
 refine awp_block ?_
 refine awp_seq ?_
 refine awp_region ?_
 refine r_cmp rfl rfl rfl rfl ?_
 refine r_assign rfl rfl ?_
 refine awl_nil ?_
 refine x_then ?_
 refine awp_cond rfl (fun hc0 => ?_) (fun hc0 => ?_)
 ·
  have hk2 : c.kind = 2 := eq_of_beq hc0
  have ha : alterM m c = (0, mdel m c.name) := by simp [alterM, hk2]
  refine awp_region ?_
  refine r_move rfl rfl ?_
  first | (refine r_fieldb rfl TF.f50_1 TF.sz9 rfl ?_) | (refine r_fieldcp rfl TF.f50_1 TF.sz9 rfl ?_)
  first | (refine r_load1b 0 rfl rfl rfl TF.agg9 rfl ?_) | (refine r_load1 rfl TF.agg9 rfl ?_) | (refine r_load1b 1 rfl rfl rfl TF.agg9 rfl ?_)
  first | (refine r_delete 0 (keyEnc_string TF.un9) rfl rfl rfl TF.map55 ?_) | (refine r_delete 1 (keyEnc_string TF.un9) rfl rfl rfl TF.map55 ?_)
  refine awl_nil ?_
  refine x_block ?_
  refine x_then ?_
  refine awp_seq ?_
  refine awp_region ?_
  refine r_assign rfl rfl ?_
  refine awl_nil ?_
  refine x_then ?_
  refine awp_ret ?_
  exact ⟨(.inl rfl), _, [⟨b, true, .map (encM Value.string bts (alterM m c).2)⟩], (.one (by first | exact .mk rfl rfl | exact .nil rfl)), ⟨by rw [ha]; rfl, rfl⟩, (by rw [ha]; first | exact .cons _ (.refl _) | exact .cons_cons _ (List.nil_sublist _) | exact List.Sublist.refl _), (by simp)⟩
 ·
  have hk2 : ¬ c.kind = 2 := by simpa using hc0
  refine awp_seq ?_
  refine awp_region ?_
  refine r_cmp rfl rfl rfl rfl ?_
  refine r_assign rfl rfl ?_
  refine awl_nil ?_
  refine x_then ?_
  refine awp_cond rfl (fun hc1 => ?_) (fun hc1 => ?_)
  ·
   have hk3 : c.kind = 3 := eq_of_beq hc1
   have ha : alterM m c = (0, mset m c.name c.data) := by simp [alterM, hk3]
   refine awp_drawS [16, 17, 18, 19, 20, 21] [_, _, _, _, _, _] [] [] TF.mixed rfl rfl rfl ⟨⟨⟨⟨⟨⟨trivial
    , ⟨_, rfl, fun sl hd hr ho => by
      refine r_move (hr 0 _ rfl rfl rfl) rfl ?_
      exact awl_nil ⟨rfl, post_put⟩⟩⟩
    , ⟨_, rfl, fun sl hd hr ho => by
      first | (refine r_fieldb (hr 3 _ rfl rfl rfl) TF.f50_1 TF.sz9 rfl ?_) | (refine r_fieldcp (hr 3 _ rfl rfl rfl) TF.f50_1 TF.sz9 rfl ?_)
      exact awl_nil ⟨rfl, post_put⟩⟩⟩
    , ⟨_, rfl, fun sl hd hr ho => by
      first | (refine r_load1b 0 (hd 1 _ rfl rfl rfl) rfl rfl TF.agg9 rfl ?_) | (refine r_load1 (hd 1 _ rfl rfl rfl) TF.agg9 rfl ?_) | (refine r_load1b 1 (hd 1 _ rfl rfl rfl) rfl rfl TF.agg9 rfl ?_)
      exact awl_nil ⟨rfl, post_put⟩⟩⟩
    , ⟨_, rfl, fun sl hd hr ho => by
      first | (refine r_fieldb (hr 3 _ rfl rfl rfl) TF.f50_3 TF.sz34 rfl ?_) | (refine r_fieldcp (hr 3 _ rfl rfl rfl) TF.f50_3 TF.sz34 rfl ?_)
      exact awl_nil ⟨rfl, post_put⟩⟩⟩
    , ⟨_, rfl, fun sl hd hr ho => by
      first | (refine r_load1b 0 (hd 3 _ rfl rfl rfl) rfl rfl TF.agg34 rfl ?_) | (refine r_load1 (hd 3 _ rfl rfl rfl) TF.agg34 rfl ?_) | (refine r_load1b 1 (hd 3 _ rfl rfl rfl) rfl rfl TF.agg34 rfl ?_)
      exact awl_nil ⟨rfl, post_put⟩⟩⟩
    , ⟨_, rfl, fun sl hd hr ho => by
      refine r_call0 hq rfl rfl (.cons (.ev (hd 4 _ rfl rfl rfl) rfl) .nil) (clone_ok c.data hdc) rfl TF.en30 rfl (fun r hr => ?_)
      obtain rfl := hr
      exact awl_nil ⟨rfl, post_put⟩⟩⟩
    (by rfl) ?_
   first | (refine r_mapUpdate 0 (keyEnc_string TF.un9) (ev := bts) _ rfl rfl rfl rfl rfl TF.map55 ?_) | (refine r_mapUpdate 1 (keyEnc_string TF.un9) (ev := bts) _ rfl rfl rfl rfl rfl TF.map55 ?_)
   refine awl_nil ?_
   refine x_block ?_
   refine x_then ?_
   refine awp_seq ?_
   refine awp_region ?_
   refine r_assign rfl rfl ?_
   refine awl_nil ?_
   refine x_then ?_
   refine awp_ret ?_
   exact ⟨(.inl rfl), _, [⟨b, true, .map (encM Value.string bts (alterM m c).2)⟩], (.one (by first | exact .mk rfl rfl | exact .nil rfl)), ⟨by rw [ha]; rfl, rfl⟩, (by rw [ha]; first | exact .cons _ (.refl _) | exact .cons_cons _ (List.nil_sublist _) | exact List.Sublist.refl _), (by simp)⟩
  ·
   have hk3 : ¬ c.kind = 3 := by simpa using hc1
   refine awp_seq ?_
   refine awp_region ?_
   refine r_cmp rfl rfl rfl rfl ?_
   refine r_assign rfl rfl ?_
   refine awl_nil ?_
   refine x_then ?_
   refine awp_cond rfl (fun hc2 => ?_) (fun hc2 => ?_)
   ·
    have hk4 : c.kind = 4 := eq_of_beq hc2
    refine awp_seq ?_
    refine awp_seq ?_
    refine awp_region ?_
    refine r_move rfl rfl ?_
    first | (refine r_fieldb rfl TF.f50_2 TF.sz9 rfl ?_) | (refine r_fieldcp rfl TF.f50_2 TF.sz9 rfl ?_)
    first | (refine r_load1b 0 rfl rfl rfl TF.agg9 rfl ?_) | (refine r_load1 rfl TF.agg9 rfl ?_) | (refine r_load1b 1 rfl rfl rfl TF.agg9 rfl ?_)
    first | (refine r_lookupOk 0 (keyEnc_string TF.un9) (ev := bts) [] rfl rfl rfl TF.map55 TF.zavS rfl ?_) | (refine r_lookupOk 1 (keyEnc_string TF.un9) (ev := bts) [] rfl rfl rfl TF.map55 TF.zavS rfl ?_)
    refine r_move rfl rfl ?_
    refine r_extract rfl rfl rfl ?_
    refine r_extract rfl rfl rfl ?_
    refine r_assign rfl rfl ?_
    refine r_assign rfl rfl ?_
    refine awl_nil ?_
    refine x_then ?_
    refine awp_seq ?_
    refine awp_region ?_
    refine r_move rfl rfl ?_
    refine awl_nil ?_
    refine x_then ?_
    refine awp_cond rfl (fun hc3 => ?_) (fun hc3 => ?_)
    ·
     have ha : alterM m c = (5, m) := by simp only [alterM, hk4]; simp; intro h; rw [h] at hc3; cases hc3
     refine awp_seq ?_
     refine awp_region ?_
     refine r_assign rfl rfl ?_
     refine awl_nil ?_
     refine x_then ?_
     refine awp_ret ?_
     refine x_thenR ?_
     refine x_blockR ?_
     refine x_thenR ?_
     exact ⟨(.inl rfl), _, [⟨b, true, .map (encM Value.string bts (alterM m c).2)⟩], (.one (by first | exact .mk rfl rfl | exact .nil rfl)), ⟨by rw [ha]; rfl, rfl⟩, (by rw [ha]; first | exact .cons _ (.refl _) | exact .cons_cons _ (List.nil_sublist _) | exact List.Sublist.refl _), (by simp)⟩
    ·
     have ha : alterM m c = (0, mdel (mset m c.to ((mget m c.name).getD [])) c.name) := by simp only [alterM, hk4]; simp; simpa using hc3
     refine awp_skip ?_
     refine x_then ?_
     refine awp_seq ?_
     refine awp_region ?_
     refine r_move rfl rfl ?_
     first | (refine r_fieldb rfl TF.f50_2 TF.sz9 rfl ?_) | (refine r_fieldcp rfl TF.f50_2 TF.sz9 rfl ?_)
     first | (refine r_load1b 0 rfl rfl rfl TF.agg9 rfl ?_) | (refine r_load1 rfl TF.agg9 rfl ?_) | (refine r_load1b 1 rfl rfl rfl TF.agg9 rfl ?_)
     refine r_move rfl rfl ?_
     first | (refine r_fieldb rfl TF.f50_1 TF.sz9 rfl ?_) | (refine r_fieldcp rfl TF.f50_1 TF.sz9 rfl ?_)
     first | (refine r_load1b 0 rfl rfl rfl TF.agg9 rfl ?_) | (refine r_load1 rfl TF.agg9 rfl ?_) | (refine r_load1b 1 rfl rfl rfl TF.agg9 rfl ?_)
     first | (refine r_lookup 0 (keyEnc_string TF.un9) (ev := bts) [] rfl rfl rfl TF.map55 TF.zavS rfl ?_) | (refine r_lookup 1 (keyEnc_string TF.un9) (ev := bts) [] rfl rfl rfl TF.map55 TF.zavS rfl ?_)
     first | (refine r_mapUpdate 0 (keyEnc_string TF.un9) (ev := bts) _ rfl rfl rfl rfl rfl TF.map55 ?_) | (refine r_mapUpdate 1 (keyEnc_string TF.un9) (ev := bts) _ rfl rfl rfl rfl rfl TF.map55 ?_)
     refine awl_nil ?_
     refine x_then ?_
     refine awp_region ?_
     refine r_move rfl rfl ?_
     first | (refine r_fieldb rfl TF.f50_1 TF.sz9 rfl ?_) | (refine r_fieldcp rfl TF.f50_1 TF.sz9 rfl ?_)
     first | (refine r_load1b 0 rfl rfl rfl TF.agg9 rfl ?_) | (refine r_load1 rfl TF.agg9 rfl ?_) | (refine r_load1b 1 rfl rfl rfl TF.agg9 rfl ?_)
     first | (refine r_delete 0 (keyEnc_string TF.un9) rfl rfl rfl TF.map55 ?_) | (refine r_delete 1 (keyEnc_string TF.un9) rfl rfl rfl TF.map55 ?_)
     refine awl_nil ?_
     refine x_block ?_
     refine x_then ?_
     refine awp_seq ?_
     refine awp_region ?_
     refine r_assign rfl rfl ?_
     refine awl_nil ?_
     refine x_then ?_
     refine awp_ret ?_
     exact ⟨(.inl rfl), _, [⟨b, true, .map (encM Value.string bts (alterM m c).2)⟩], (.one (by first | exact .mk rfl rfl | exact .nil rfl)), ⟨by rw [ha]; rfl, rfl⟩, (by rw [ha]; first | exact .cons _ (.refl _) | exact .cons_cons _ (List.nil_sublist _) | exact List.Sublist.refl _), (by simp)⟩
   ·
    have hk4 : ¬ c.kind = 4 := by simpa using hc2
    have ha : alterM m c = (0, m) := by simp [alterM, hk2, hk3, hk4]
    refine awp_skip ?_
    refine x_block ?_
    refine x_then ?_
    refine awp_seq ?_
    refine awp_region ?_
    refine r_assign rfl rfl ?_
    refine awl_nil ?_
    refine x_then ?_
    refine awp_ret ?_
    exact ⟨(.inl rfl), _, [⟨b, true, .map (encM Value.string bts (alterM m c).2)⟩], (.one (by first | exact .mk rfl rfl | exact .nil rfl)), ⟨by rw [ha]; rfl, rfl⟩, (by rw [ha]; first | exact .cons _ (.refl _) | exact .cons_cons _ (List.nil_sublist _) | exact List.Sublist.refl _), (by simp)⟩
theorem step_ok (m : SM) (c : FC) (hdc : c.data.length ≤ 1000000) {b : Nat} {fl : Bool} : AW Try.prog 34 [.v (.map (some b)), .agg (FC.cs c)] [] [⟨b, fl, .map (encM Value.string bts m)⟩] (fun r n => r = .v (.int .i64 (stepM m c).1) ∧ n = [⟨b, true, .map (encM Value.string bts (stepM m c).2)⟩]) := by
 refine aw_of_awp (rs := [4]) (nt := 34) (so := [⟨b, true, .map (encM Value.string bts m)⟩]) Try.func34 rfl rfl rfl rfl rfl (fun w0 C0 hq => ?_)
 refine awp_seq ?_
 refine awp_region ?_
 refine r_box rfl rfl rfl (fun b3 => ?_)
 refine r_assign rfl rfl ?_
 refine awl_nil ?_
 refine x_then ?_
 refine awp_seq ?_
 refine awp_region ?_
 refine r_move rfl rfl ?_
 first | (refine r_fieldb rfl TF.f50_1 TF.sz9 rfl ?_) | (refine r_fieldcp rfl TF.f50_1 TF.sz9 rfl ?_)
 first | (refine r_load1b 0 rfl rfl rfl TF.agg9 rfl ?_) | (refine r_load1 rfl TF.agg9 rfl ?_) | (refine r_load1b 1 rfl rfl rfl TF.agg9 rfl ?_)
 first | (refine r_lookupOk 0 (keyEnc_string TF.un9) (ev := bts) [] rfl rfl rfl TF.map55 TF.zavS rfl ?_) | (refine r_lookupOk 1 (keyEnc_string TF.un9) (ev := bts) [] rfl rfl rfl TF.map55 TF.zavS rfl ?_)
 refine r_move rfl rfl ?_
 refine r_extract rfl rfl rfl ?_
 refine r_extract rfl rfl rfl ?_
 refine r_assign rfl rfl ?_
 refine r_assign rfl rfl ?_
 refine awl_nil ?_
 refine x_then ?_
 refine awp_seq ?_
 refine awp_seq ?_
 refine awp_region ?_
 first | (refine r_fieldb rfl TF.f50_0 TF.sz3 rfl ?_) | (refine r_fieldcp rfl TF.f50_0 TF.sz3 rfl ?_)
 first | (refine r_load1b 0 rfl rfl rfl TF.agg3 rfl ?_) | (refine r_load1 rfl TF.agg3 rfl ?_) | (refine r_load1b 1 rfl rfl rfl TF.agg3 rfl ?_)
 refine awl_nil ?_
 refine x_then ?_
 refine awp_block ?_
 refine awp_seq ?_
 refine awp_region ?_
 refine r_cmp rfl rfl rfl rfl ?_
 refine r_assign rfl rfl ?_
 refine awl_nil ?_
 refine x_then ?_
 refine awp_cond rfl (fun hc0 => ?_) (fun hc0 => ?_)
 ·
  have hk1 : c.kind = 1 := eq_of_beq hc0
  refine awp_seq ?_
  refine awp_seq ?_
  refine awp_region ?_
  refine r_move rfl rfl ?_
  refine awl_nil ?_
  refine x_then ?_
  refine awp_cond rfl (fun hc1 => ?_) (fun hc1 => ?_)
  ·
   have ha : stepM m c = (5, m) := by simp only [stepM, hk1]; simp; intro h; rw [h] at hc1; cases hc1
   refine awp_seq ?_
   refine awp_region ?_
   refine r_assign rfl rfl ?_
   refine awl_nil ?_
   refine x_then ?_
   refine awp_ret ?_
   refine x_thenR ?_
   refine x_blockR ?_
   refine x_thenR ?_
   exact ⟨(.inl rfl), _, [⟨b, true, .map (encM Value.string bts (stepM m c).2)⟩], (.one (by first | exact .mk rfl rfl | exact .nil rfl)), ⟨by rw [ha]; rfl, rfl⟩, (by rw [ha]; first | exact .cons _ (.refl _) | exact .cons_cons _ (List.nil_sublist _) | exact List.Sublist.refl _), (by simp)⟩
  ·
   have ha : stepM m c = (0, mset m c.name c.data) := by simp only [stepM, hk1]; simp; simpa using hc1
   refine awp_skip ?_
   refine x_then ?_
   refine awp_drawS [19, 20, 21, 22, 23, 24] [_, _, _, _, _, _] [] [] TF.mixed rfl rfl rfl ⟨⟨⟨⟨⟨⟨trivial
    , ⟨_, rfl, fun sl hd hr ho => by
      refine r_move (hr 0 _ rfl rfl rfl) rfl ?_
      exact awl_nil ⟨rfl, post_put⟩⟩⟩
    , ⟨_, rfl, fun sl hd hr ho => by
      first | (refine r_fieldb (hr 3 _ rfl rfl rfl) TF.f50_1 TF.sz9 rfl ?_) | (refine r_fieldcp (hr 3 _ rfl rfl rfl) TF.f50_1 TF.sz9 rfl ?_)
      exact awl_nil ⟨rfl, post_put⟩⟩⟩
    , ⟨_, rfl, fun sl hd hr ho => by
      first | (refine r_load1b 0 (hd 1 _ rfl rfl rfl) rfl rfl TF.agg9 rfl ?_) | (refine r_load1 (hd 1 _ rfl rfl rfl) TF.agg9 rfl ?_) | (refine r_load1b 1 (hd 1 _ rfl rfl rfl) rfl rfl TF.agg9 rfl ?_)
      exact awl_nil ⟨rfl, post_put⟩⟩⟩
    , ⟨_, rfl, fun sl hd hr ho => by
      first | (refine r_fieldb (hr 3 _ rfl rfl rfl) TF.f50_3 TF.sz34 rfl ?_) | (refine r_fieldcp (hr 3 _ rfl rfl rfl) TF.f50_3 TF.sz34 rfl ?_)
      exact awl_nil ⟨rfl, post_put⟩⟩⟩
    , ⟨_, rfl, fun sl hd hr ho => by
      first | (refine r_load1b 0 (hd 3 _ rfl rfl rfl) rfl rfl TF.agg34 rfl ?_) | (refine r_load1 (hd 3 _ rfl rfl rfl) TF.agg34 rfl ?_) | (refine r_load1b 1 (hd 3 _ rfl rfl rfl) rfl rfl TF.agg34 rfl ?_)
      exact awl_nil ⟨rfl, post_put⟩⟩⟩
    , ⟨_, rfl, fun sl hd hr ho => by
      refine r_call0 hq rfl rfl (.cons (.ev (hd 4 _ rfl rfl rfl) rfl) .nil) (clone_ok c.data hdc) rfl TF.en30 rfl (fun r hr => ?_)
      obtain rfl := hr
      exact awl_nil ⟨rfl, post_put⟩⟩⟩
    (by rfl) ?_
   first | (refine r_mapUpdate 0 (keyEnc_string TF.un9) (ev := bts) c.data rfl rfl rfl rfl rfl TF.map55 ?_) | (refine r_mapUpdate 1 (keyEnc_string TF.un9) (ev := bts) c.data rfl rfl rfl rfl rfl TF.map55 ?_)
   refine awl_nil ?_
   refine x_block ?_
   refine x_then ?_
   refine awp_seq ?_
   refine awp_region ?_
   refine r_assign rfl rfl ?_
   refine awl_nil ?_
   refine x_then ?_
   refine awp_ret ?_
   exact ⟨(.inl rfl), _, [⟨b, true, .map (encM Value.string bts (stepM m c).2)⟩], (.one (by first | exact .mk rfl rfl | exact .nil rfl)), ⟨by rw [ha]; rfl, rfl⟩, (by rw [ha]; first | exact .cons _ (.refl _) | exact .cons_cons _ (List.nil_sublist _) | exact List.Sublist.refl _), (by simp)⟩
 ·
  have hk1 : ¬ c.kind = 1 := by simpa using hc0
  refine awp_seq ?_
  refine awp_seq ?_
  refine awp_region ?_
  refine r_cmp rfl rfl rfl rfl ?_
  refine r_assign rfl rfl ?_
  refine awl_nil ?_
  refine x_then ?_
  refine awp_cond rfl (fun hc2 => ?_) (fun hc2 => ?_)
  ·
   have hkk : c.kind = 2 ∨ c.kind = 3 ∨ c.kind = 4 := .inl (eq_of_beq hc2)
   refine awp_skip ?_
   refine x_then ?_
   refine awp_cond rfl (fun hc4 => ?_) (fun hc4 => ?_)
   ·
    refine awp_seq ?_
    refine awp_seq ?_
    refine awp_region ?_
    refine r_move rfl rfl ?_
    refine r_not rfl rfl ?_
    refine awl_nil ?_
    refine x_then ?_
    refine awp_cond rfl (fun hc5 => ?_) (fun hc5 => ?_)
    ·
     have ha : stepM m c = (4, m) := by simp only [stepM, hk1, if_false, if_pos hkk]; rw [if_neg (by simpa using hc5)]
     refine awp_seq ?_
     refine awp_region ?_
     refine r_assign rfl rfl ?_
     refine awl_nil ?_
     refine x_then ?_
     refine awp_ret ?_
     refine x_thenR ?_
     refine x_blockR ?_
     refine x_thenR ?_
     exact ⟨(.inl rfl), _, [⟨b, true, .map (encM Value.string bts (stepM m c).2)⟩], (.one (by first | exact .mk rfl rfl | exact .nil rfl)), ⟨by rw [ha]; rfl, rfl⟩, (by rw [ha]; first | exact .cons _ (.refl _) | exact .cons_cons _ (List.nil_sublist _) | exact List.Sublist.refl _), (by simp)⟩
    ·
     have ha : stepM m c = alterM m c := by simp only [stepM, hk1, if_false, if_pos hkk]; rw [if_pos (by simpa using hc5)]
     refine awp_skip ?_
     refine x_then ?_
     refine awp_seq ?_
     refine awp_region ?_
     refine r_move rfl rfl ?_
     first | (refine r_loadAb 0 rfl rfl TF.agg50 TF.sz50 rfl rfl ?_) | (refine r_loadA rfl TF.agg50 TF.sz50 rfl rfl ?_) | (refine r_loadAb 1 rfl rfl TF.agg50 TF.sz50 rfl rfl ?_)
     refine r_callW hq [false, true] rfl rfl (.cons (.ev rfl rfl) (.cons (.ev rfl rfl) .nil)) (alter_ok m c hdc) rfl TF.en45 rfl rfl (List.nil_sublist _) rfl (fun r nobjs hr => ?_)
     obtain ⟨rfl, rfl⟩ := hr
     refine r_assign rfl rfl ?_
     refine awl_nil ?_
     refine x_then ?_
     refine awp_ret ?_
     refine x_blockR ?_
     refine x_thenR ?_
     exact ⟨(.inl rfl), _, [⟨b, true, .map (encM Value.string bts (stepM m c).2)⟩], (.one (by first | exact .mk rfl rfl | exact .nil rfl)), ⟨by rw [ha]; rfl, rfl⟩, (by rw [ha]; first | exact .cons _ (.refl _) | exact .cons_cons _ (List.nil_sublist _) | exact List.Sublist.refl _), (by simp)⟩
   ·
    exfalso; rw [hc2] at hc4; cases hc4
  ·
   have hk2 : ¬ c.kind = 2 := by simpa using hc2
   refine awp_seq ?_
   refine awp_region ?_
   refine r_cmp rfl rfl rfl rfl ?_
   refine r_assign rfl rfl ?_
   refine awl_nil ?_
   refine x_then ?_
   refine awp_cond rfl (fun hc3 => ?_) (fun hc3 => ?_)
   ·
    have hkk : c.kind = 2 ∨ c.kind = 3 ∨ c.kind = 4 := .inr (.inl (eq_of_beq hc3))
    refine awp_skip ?_
    refine x_then ?_
    refine awp_cond rfl (fun hc4 => ?_) (fun hc4 => ?_)
    ·
     refine awp_seq ?_
     refine awp_seq ?_
     refine awp_region ?_
     refine r_move rfl rfl ?_
     refine r_not rfl rfl ?_
     refine awl_nil ?_
     refine x_then ?_
     refine awp_cond rfl (fun hc5 => ?_) (fun hc5 => ?_)
     ·
      have ha : stepM m c = (4, m) := by simp only [stepM, hk1, if_false, if_pos hkk]; rw [if_neg (by simpa using hc5)]
      refine awp_seq ?_
      refine awp_region ?_
      refine r_assign rfl rfl ?_
      refine awl_nil ?_
      refine x_then ?_
      refine awp_ret ?_
      refine x_thenR ?_
      refine x_blockR ?_
      refine x_thenR ?_
      exact ⟨(.inl rfl), _, [⟨b, true, .map (encM Value.string bts (stepM m c).2)⟩], (.one (by first | exact .mk rfl rfl | exact .nil rfl)), ⟨by rw [ha]; rfl, rfl⟩, (by rw [ha]; first | exact .cons _ (.refl _) | exact .cons_cons _ (List.nil_sublist _) | exact List.Sublist.refl _), (by simp)⟩
     ·
      have ha : stepM m c = alterM m c := by simp only [stepM, hk1, if_false, if_pos hkk]; rw [if_pos (by simpa using hc5)]
      refine awp_skip ?_
      refine x_then ?_
      refine awp_seq ?_
      refine awp_region ?_
      refine r_move rfl rfl ?_
      first | (refine r_loadAb 0 rfl rfl TF.agg50 TF.sz50 rfl rfl ?_) | (refine r_loadA rfl TF.agg50 TF.sz50 rfl rfl ?_) | (refine r_loadAb 1 rfl rfl TF.agg50 TF.sz50 rfl rfl ?_)
      refine r_callW hq [false, true] rfl rfl (.cons (.ev rfl rfl) (.cons (.ev rfl rfl) .nil)) (alter_ok m c hdc) rfl TF.en45 rfl rfl (List.nil_sublist _) rfl (fun r nobjs hr => ?_)
      obtain ⟨rfl, rfl⟩ := hr
      refine r_assign rfl rfl ?_
      refine awl_nil ?_
      refine x_then ?_
      refine awp_ret ?_
      refine x_blockR ?_
      refine x_thenR ?_
      exact ⟨(.inl rfl), _, [⟨b, true, .map (encM Value.string bts (stepM m c).2)⟩], (.one (by first | exact .mk rfl rfl | exact .nil rfl)), ⟨by rw [ha]; rfl, rfl⟩, (by rw [ha]; first | exact .cons _ (.refl _) | exact .cons_cons _ (List.nil_sublist _) | exact List.Sublist.refl _), (by simp)⟩
    ·
     exfalso; rw [hc3] at hc4; cases hc4
   ·
    have hk3 : ¬ c.kind = 3 := by simpa using hc3
    refine awp_region ?_
    refine r_cmp rfl rfl rfl rfl ?_
    refine r_assign rfl rfl ?_
    refine awl_nil ?_
    refine x_then ?_
    refine awp_cond rfl (fun hc4 => ?_) (fun hc4 => ?_)
    ·
     have hkk : c.kind = 2 ∨ c.kind = 3 ∨ c.kind = 4 := .inr (.inr (eq_of_beq hc4))
     refine awp_seq ?_
     refine awp_seq ?_
     refine awp_region ?_
     refine r_move rfl rfl ?_
     refine r_not rfl rfl ?_
     refine awl_nil ?_
     refine x_then ?_
     refine awp_cond rfl (fun hc5 => ?_) (fun hc5 => ?_)
     ·
      have ha : stepM m c = (4, m) := by simp only [stepM, hk1, if_false, if_pos hkk]; rw [if_neg (by simpa using hc5)]
      refine awp_seq ?_
      refine awp_region ?_
      refine r_assign rfl rfl ?_
      refine awl_nil ?_
      refine x_then ?_
      refine awp_ret ?_
      refine x_thenR ?_
      refine x_blockR ?_
      refine x_thenR ?_
      exact ⟨(.inl rfl), _, [⟨b, true, .map (encM Value.string bts (stepM m c).2)⟩], (.one (by first | exact .mk rfl rfl | exact .nil rfl)), ⟨by rw [ha]; rfl, rfl⟩, (by rw [ha]; first | exact .cons _ (.refl _) | exact .cons_cons _ (List.nil_sublist _) | exact List.Sublist.refl _), (by simp)⟩
     ·
      have ha : stepM m c = alterM m c := by simp only [stepM, hk1, if_false, if_pos hkk]; rw [if_pos (by simpa using hc5)]
      refine awp_skip ?_
      refine x_then ?_
      refine awp_seq ?_
      refine awp_region ?_
      refine r_move rfl rfl ?_
      first | (refine r_loadAb 0 rfl rfl TF.agg50 TF.sz50 rfl rfl ?_) | (refine r_loadA rfl TF.agg50 TF.sz50 rfl rfl ?_) | (refine r_loadAb 1 rfl rfl TF.agg50 TF.sz50 rfl rfl ?_)
      refine r_callW hq [false, true] rfl rfl (.cons (.ev rfl rfl) (.cons (.ev rfl rfl) .nil)) (alter_ok m c hdc) rfl TF.en45 rfl rfl (List.nil_sublist _) rfl (fun r nobjs hr => ?_)
      obtain ⟨rfl, rfl⟩ := hr
      refine r_assign rfl rfl ?_
      refine awl_nil ?_
      refine x_then ?_
      refine awp_ret ?_
      refine x_blockR ?_
      refine x_thenR ?_
      exact ⟨(.inl rfl), _, [⟨b, true, .map (encM Value.string bts (stepM m c).2)⟩], (.one (by first | exact .mk rfl rfl | exact .nil rfl)), ⟨by rw [ha]; rfl, rfl⟩, (by rw [ha]; first | exact .cons _ (.refl _) | exact .cons_cons _ (List.nil_sublist _) | exact List.Sublist.refl _), (by simp)⟩
    ·
     have hk4 : ¬ c.kind = 4 := by simpa using hc4
     have ha : stepM m c = (18, m) := by simp [stepM, hk1, hk2, hk3, hk4]
     refine awp_seq ?_
     refine awp_region ?_
     refine r_assign rfl rfl ?_
     refine awl_nil ?_
     refine x_then ?_
     refine awp_ret ?_
     refine x_blockR ?_
     refine x_thenR ?_
     exact ⟨(.inl rfl), _, [⟨b, true, .map (encM Value.string bts (stepM m c).2)⟩], (.one (by first | exact .mk rfl rfl | exact .nil rfl)), ⟨by rw [ha]; rfl, rfl⟩, (by rw [ha]; first | exact .cons _ (.refl _) | exact .cons_cons _ (List.nil_sublist _) | exact List.Sublist.refl _), (by simp)⟩
set_option maxHeartbeats 1000000 in
theorem apply_ok (l : List File) (d : List FC) (hl : l.length ≤ 1000) (hld : d.length ≤ 10000) (hln : ∀ f ∈ l, f.name.size ≤ 1000000) (hdl : ∀ f ∈ l, f.data.length ≤ 1000000) (hdn : ∀ c ∈ d, c.name.size ≤ 1000000 ∧ c.to.size ≤ 1000000 ∧ c.data.length ≤ 1000000) : AC Try.prog 16 [files l, fcsA d] [] (fun r n => n = [] ∧ ((∃ m, applyM (firstM l) d = (0, m) ∧ OkM m (l.length + d.length) ∧ r = .tup [files (filesM m), .v (.int .i64 0)]) ∨ (∃ e m, applyM (firstM l) d = (e, m) ∧ ¬ e = 0 ∧ r = .tup [.v (.slice none 0 0), .v (.int .i64 e)]))) := by
 refine ac_of_awp (rs := [4, 5]) (nt := 45) Try.func16 rfl rfl rfl rfl (fun w0 C0 hq => ?_)
 refine awp_seq ?_
 refine awp_region ?_
 refine r_assign rfl rfl ?_
 refine r_assign rfl rfl ?_
 refine awl_nil ?_
 refine x_then ?_
 refine awp_seq ?_
 refine awp_region ?_
 refine r_move rfl rfl ?_
 refine r_callO hq rfl rfl (.cons (.ev rfl rfl) .nil) (named2_ok l (by omega) hdl) rfl TF.en23 (List.nil_sublist _) rfl (fun r nobjs hr => ?_)
 obtain ⟨bm, rfl, rfl⟩ := hr
 refine r_assign rfl rfl ?_
 refine awl_nil ?_
 refine x_then ?_
 refine awp_seq ?_
 refine awp_seq ?_
 refine awp_region ?_
 refine r_move rfl rfl ?_
 first | (refine r_lenS rfl rfl TF.sl28 rfl ?_) | (refine r_lenNil rfl TF.sl28 rfl ?_) | (refine r_lenV rfl TF.sl28 rfl ?_)
 refine r_move rfl rfl ?_
 refine awl_nil ?_
 refine x_then ?_
 refine awp_block ?_
 refine awp_loop (fun nn0 S => ∃ k : Nat, ∃ m : SM, S = ⟨45, [(6, .a (.v (.map (some bm)))), (15, .a (fcsA d)), (16, .a (.v (.int .i64 ((d.map FC.cs).length)))), (17, .a (.v (.int .i64 ((k : Int)))))], [⟨bm, true, .map (encM Value.string bts m)⟩]⟩ ∧ nn0 = d.length - k ∧ (k ≤ d.length) ∧ (applyM (firstM l) (d.take k) = (0, m)) ∧ (OkM m (l.length + k))) (d.length - (0)) ⟨45, [(6, .a (.v (.map (some bm)))), (15, .a (fcsA d)), (16, .a (.v (.int .i64 ((d.map FC.cs).length)))), (17, .a (.v (.int .i64 (((0) : Int)))))], [⟨bm, true, .map (encM Value.string bts ((firstM l)))⟩]⟩ ⟨rfl, (Slots.cons rfl (by first | exact .refl _ | exact .nilOwn _ _ | exact .nilSl _ | exact .ownSl _ _ _  | exact SV.le.of_eq (by simp)) (Slots.cons rfl (by first | exact .refl _ | exact .nilOwn _ _ | exact .nilSl _ | exact .ownSl _ _ _  | exact SV.le.of_eq (by simp)) (Slots.cons rfl (by first | exact .refl _ | exact .nilOwn _ _ | exact .nilSl _ | exact .ownSl _ _ _  | exact SV.le.of_eq (by simp)) (Slots.cons rfl (by first | exact .refl _ | exact .nilOwn _ _ | exact .nilSl _ | exact .ownSl _ _ _  | exact SV.le.of_eq (by simp)) Slots.nil)))), (by first | exact List.Sublist.refl _ | exact .cons_cons _ (.cons _ (.refl _)) | exact List.nil_sublist _ | exact .cons _ (.refl _) | exact .cons _ (.cons _ (.refl _)) | exact .cons _ (.cons _ (.cons _ (.refl _))) | exact .cons _ (.cons _ (.cons _ (.cons _ (.refl _)))) | exact .cons_cons _ (List.nil_sublist _))⟩ ⟨0, (firstM l), rfl, rfl, Nat.zero_le _, rfl, (okM_first hln)⟩ ?_
 rintro nn0 _ ⟨k, m, rfl, rfl, hk, hap, hok⟩
 refine awp_seq ?_
 refine awp_region ?_
 refine r_cmp rfl rfl rfl rfl ?_
 refine awl_nil ?_
 refine x_then ?_
 refine awp_seq ?_
 refine awp_cond rfl (fun hc0 => ?_) (fun hc0 => ?_)
 ·
  have hltx : k < d.length := by have := of_decide_eq_true hc0; simpa using this
  obtain ⟨x, hx⟩ := get_lt hltx
  refine awp_skip ?_
  refine x_then ?_
  refine awp_seq ?_
  refine awp_block ?_
  refine awp_seq ?_
  refine awp_region ?_
  refine r_index rfl rfl rfl TF.sl28 TF.sz50 (by omega) (get_map hx) rfl ?_
  first | (refine r_loadA rfl TF.agg50 TF.sz50 rfl rfl ?_) | (refine r_loadAb 0 rfl rfl TF.agg50 TF.sz50 rfl rfl ?_)
  refine r_alloc TF.zero50 rfl (fun b8 => ?_)
  first | (refine r_store 0 rfl rfl rfl TF.sz50 rfl rfl rfl ?_) | (refine r_store 1 rfl rfl rfl TF.sz50 rfl rfl rfl ?_)
  refine awl_nil ?_
  refine x_then ?_
  refine awp_seq ?_
  refine awp_region ?_
  refine r_move rfl rfl ?_
  first | (refine r_loadAb 0 rfl rfl TF.agg50 TF.sz50 rfl rfl ?_) | (refine r_loadA rfl TF.agg50 TF.sz50 rfl rfl ?_) | (refine r_loadAb 1 rfl rfl TF.agg50 TF.sz50 rfl rfl ?_)
  refine r_callW hq [false, true] rfl rfl (.cons (.ev rfl rfl) (.cons (.ev rfl rfl) .nil)) (step_ok m x (hdn x (List.mem_of_getElem? hx)).2.2) rfl TF.en34 rfl rfl (List.nil_sublist _) rfl (fun r nobjs hr => ?_)
  obtain ⟨rfl, rfl⟩ := hr
  refine r_assign rfl rfl ?_
  refine awl_nil ?_
  refine x_then ?_
  refine awp_seq ?_
  refine awp_region ?_
  refine r_move rfl rfl ?_
  refine r_cmp rfl rfl rfl rfl ?_
  refine awl_nil ?_
  refine x_then ?_
  refine awp_cond rfl (fun hc1 => ?_) (fun hc1 => ?_)
  ·
   have hne : ¬ (stepM m x).1 = 0 := by simpa using hc1
   refine awp_seq ?_
   refine awp_region ?_
   refine r_move rfl rfl ?_
   refine r_assign rfl rfl ?_
   refine r_assign rfl rfl ?_
   refine awl_nil ?_
   refine x_then ?_
   refine awp_ret ?_
   refine x_blockR ?_
   refine x_thenR ?_
   refine x_thenR ?_
   refine x_blockR ?_
   refine x_thenR ?_
   exact ⟨(.inl rfl), _, [], (.two (by first | exact .mk rfl rfl | exact .nil rfl) (by first | exact .mk rfl rfl | exact .nil rfl)), ⟨rfl, .inr ⟨(stepM m x).1, (stepM m x).2, applyM_fail hx hap hne, hne, rfl⟩⟩, (List.nil_sublist _), (by simp)⟩
  ·
   have h0 : (stepM m x).1 = 0 := by simpa using hc1
   refine awp_skip ?_
   refine x_block ?_
   refine x_then ?_
   refine awp_region ?_
   refine r_ari _ rfl rfl rfl (wrap_id (by first | omega | (simp; omega))) rfl ?_
   refine r_move rfl rfl ?_
   refine awl_nil ?_
   refine x_then ?_
   refine ⟨d.length - (k + 1), ⟨45, [(6, .a (.v (.map (some bm)))), (15, .a (fcsA d)), (16, .a (.v (.int .i64 ((d.map FC.cs).length)))), (17, .a (.v (.int .i64 (((k + 1) : Int)))))], [⟨bm, true, .map (encM Value.string bts ((stepM m x).2))⟩]⟩, ⟨rfl, (Slots.cons rfl (by first | exact .refl _ | exact .nilOwn _ _ | exact .nilSl _ | exact .ownSl _ _ _  | exact SV.le.of_eq (by simp)) (Slots.cons rfl (by first | exact .refl _ | exact .nilOwn _ _ | exact .nilSl _ | exact .ownSl _ _ _  | exact SV.le.of_eq (by simp)) (Slots.cons rfl (by first | exact .refl _ | exact .nilOwn _ _ | exact .nilSl _ | exact .ownSl _ _ _  | exact SV.le.of_eq (by simp)) (Slots.cons rfl (by first | exact .refl _ | exact .nilOwn _ _ | exact .nilSl _ | exact .ownSl _ _ _  | exact SV.le.of_eq (by simp)) Slots.nil)))), (by first | exact List.Sublist.refl _ | exact .cons_cons _ (.cons _ (.refl _)) | exact List.nil_sublist _ | exact .cons _ (.refl _) | exact .cons _ (.cons _ (.refl _)) | exact .cons _ (.cons _ (.cons _ (.refl _))) | exact .cons _ (.cons _ (.cons _ (.cons _ (.refl _)))) | exact .cons_cons _ (List.nil_sublist _))⟩, (by omega), ⟨k + 1, (stepM m x).2, rfl, rfl, (by omega), (by rw [applyM_step hx hap, ← h0]), (okM_step hok (by have := (hdn x (List.mem_of_getElem? hx)).1; unfold maxLen; omega) (by have := (hdn x (List.mem_of_getElem? hx)).2.1; unfold maxLen; omega))⟩⟩
 ·
  have hge : d.length ≤ k := by have := of_decide_eq_false hc0; simp at this; omega
  obtain rfl : k = d.length := by omega
  have hap2 := applyM_end hge hap
  obtain ⟨ns, hns⟩ : ∃ ns, ns = sortB (m.map (·.1)) := ⟨_, rfl⟩
  have hnl : ns.length = m.length := by rw [hns, sortB_len, List.length_map]
  have hml := hok.len
  refine awp_exit ?_
  refine x_thenE ?_
  refine x_thenE ?_
  refine x_blockE ?_
  refine x_then ?_
  refine awp_seq ?_
  refine awp_region ?_
  refine r_assign rfl rfl ?_
  refine awl_nil ?_
  refine x_then ?_
  refine awp_seq ?_
  refine awp_seq ?_
  refine awp_region ?_
  refine r_move rfl rfl ?_
  refine r_callO hq rfl rfl (.cons (.ev rfl rfl) .nil) (order_ok m hok.nd hok.sz (by omega)) rfl TF.en29 (.cons_cons _ (List.nil_sublist _)) rfl (fun r nobjs hr => ?_)
  obtain ⟨rfl, hr2⟩ := hr
  rw [← hns] at hr2
  obtain rfl := hr2
  first | (refine r_lenS rfl rfl TF.sl57 rfl ?_) | (refine r_lenNil rfl TF.sl57 rfl ?_) | (refine r_lenV rfl TF.sl57 rfl ?_)
  refine r_move rfl rfl ?_
  refine awl_nil ?_
  refine x_then ?_
  refine awp_block ?_
  refine awp_loop (fun nn0 S => ∃ k : Nat, S = ⟨45, [(6, .a (.v (.map (some bm)))), (10, .own 10 2 (((ns.take k).map (fun s : ByteArray => (⟨s, (mget m s).getD []⟩ : File))).map File.cs)), (29, .a (strsA ns)), (30, .a (.v (.int .i64 ((ns.map (fun s : ByteArray => [AV.v (.string s)])).length)))), (31, .a (.v (.int .i64 ((k : Int)))))], [⟨bm, true, .map (encM Value.string bts m)⟩]⟩ ∧ nn0 = ns.length - k ∧ (k ≤ ns.length)) (ns.length - (0)) ⟨45, [(6, .a (.v (.map (some bm)))), (10, .own 10 2 (((ns.take (0)).map (fun s : ByteArray => (⟨s, (mget m s).getD []⟩ : File))).map File.cs)), (29, .a (strsA ns)), (30, .a (.v (.int .i64 ((ns.map (fun s : ByteArray => [AV.v (.string s)])).length)))), (31, .a (.v (.int .i64 (((0) : Int)))))], [⟨bm, true, .map (encM Value.string bts m)⟩]⟩ ⟨rfl, (Slots.cons rfl (by first | exact .refl _ | exact .nilOwn _ _ | exact .nilSl _ | exact .ownSl _ _ _  | exact SV.le.of_eq (by simp)) (Slots.cons rfl (by first | exact .refl _ | exact .nilOwn _ _ | exact .nilSl _ | exact .ownSl _ _ _  | exact SV.le.of_eq (by simp)) (Slots.cons rfl (by first | exact .refl _ | exact .nilOwn _ _ | exact .nilSl _ | exact .ownSl _ _ _  | exact SV.le.of_eq (by simp)) (Slots.cons rfl (by first | exact .refl _ | exact .nilOwn _ _ | exact .nilSl _ | exact .ownSl _ _ _  | exact SV.le.of_eq (by simp)) (Slots.cons rfl (by first | exact .refl _ | exact .nilOwn _ _ | exact .nilSl _ | exact .ownSl _ _ _  | exact SV.le.of_eq (by simp)) Slots.nil))))), (by first | exact List.Sublist.refl _ | exact .cons_cons _ (.cons _ (.refl _)) | exact List.nil_sublist _ | exact .cons _ (.refl _) | exact .cons _ (.cons _ (.refl _)) | exact .cons _ (.cons _ (.cons _ (.refl _))) | exact .cons _ (.cons _ (.cons _ (.cons _ (.refl _)))) | exact .cons_cons _ (List.nil_sublist _))⟩ ⟨0, rfl, rfl, Nat.zero_le _⟩ ?_
  rintro nn0 _ ⟨k, rfl, rfl, hk1⟩
  refine awp_seq ?_
  refine awp_region ?_
  refine r_cmp rfl rfl rfl rfl ?_
  refine awl_nil ?_
  refine x_then ?_
  refine awp_seq ?_
  refine awp_cond rfl (fun hc2 => ?_) (fun hc2 => ?_)
  ·
   have hltx : k < ns.length := by have := of_decide_eq_true hc2; simpa using this
   obtain ⟨x, hx⟩ := get_lt hltx
   refine awp_skip ?_
   refine x_then ?_
   refine awp_seq ?_
   refine awp_block ?_
   refine awp_seq ?_
   refine awp_region ?_
   refine r_index rfl rfl rfl TF.sl57 TF.sz9 (by omega) (get_map hx) rfl ?_
   first | (refine r_load1b 0 rfl rfl rfl TF.agg9 rfl ?_) | (refine r_load1 rfl TF.agg9 rfl ?_)
   refine r_assign rfl rfl ?_
   refine awl_nil ?_
   refine x_then ?_
   refine awp_region ?_
   refine r_move rfl rfl ?_
   refine r_move rfl rfl ?_
   refine r_move rfl rfl ?_
   refine r_move rfl rfl ?_
   refine r_lookup 0 (keyEnc_string TF.un9) (ev := bts) [] rfl rfl rfl TF.map55 TF.zavS rfl ?_
   refine r_build (parts := [(0, .tmp 36), (1, .tmp 39)]) rfl TF.pl48 TF.zero48 rfl rfl rfl ?_
   refine r_lit 41 (parts := [(0, .tmp 40)]) rfl TF.sl25 TF.sz48 TF.zraw48 rfl rfl rfl rfl rfl rfl rfl ?_
   refine r_append 10 rfl (by first | exact .own _ | exact .nil) rfl (by first | exact .sl _ | exact .own _ _ | exact .nil) TF.sl25 TF.sz48 (by decide) TF.by48 TF.zlen48 (by simp [chunks] <;> omega) (by simp [chunks] <;> omega) rfl ?_
   refine r_assign rfl rfl ?_
   refine awl_nil ?_
   refine x_block ?_
   refine x_then ?_
   refine awp_region ?_
   refine r_ari _ rfl rfl rfl (wrap_id (by first | omega | (simp; omega))) rfl ?_
   refine r_move rfl rfl ?_
   refine awl_nil ?_
   refine x_then ?_
   refine ⟨ns.length - (k + 1), ⟨45, [(6, .a (.v (.map (some bm)))), (10, .own 10 2 (((ns.take (k + 1)).map (fun s : ByteArray => (⟨s, (mget m s).getD []⟩ : File))).map File.cs)), (29, .a (strsA ns)), (30, .a (.v (.int .i64 ((ns.map (fun s : ByteArray => [AV.v (.string s)])).length)))), (31, .a (.v (.int .i64 (((k + 1) : Int)))))], [⟨bm, true, .map (encM Value.string bts m)⟩]⟩, ⟨rfl, (Slots.cons rfl (by first | exact .refl _ | exact .nilOwn _ _ | exact .nilSl _ | exact .ownSl _ _ _  | exact SV.le.ownEq (by first | rfl | (rw [map_take hx, List.map_append]; rfl)) | exact SV.le.of_eq (by first | rfl | (rw [map_take hx, List.map_append]; rfl))) (Slots.cons rfl (by first | exact .refl _ | exact .nilOwn _ _ | exact .nilSl _ | exact .ownSl _ _ _  | exact SV.le.ownEq (by first | rfl | (rw [map_take hx, List.map_append]; rfl)) | exact SV.le.of_eq (by first | rfl | (rw [map_take hx, List.map_append]; rfl))) (Slots.cons rfl (by first | exact .refl _ | exact .nilOwn _ _ | exact .nilSl _ | exact .ownSl _ _ _  | exact SV.le.ownEq (by first | rfl | (rw [map_take hx, List.map_append]; rfl)) | exact SV.le.of_eq (by first | rfl | (rw [map_take hx, List.map_append]; rfl))) (Slots.cons rfl (by first | exact .refl _ | exact .nilOwn _ _ | exact .nilSl _ | exact .ownSl _ _ _  | exact SV.le.ownEq (by first | rfl | (rw [map_take hx, List.map_append]; rfl)) | exact SV.le.of_eq (by first | rfl | (rw [map_take hx, List.map_append]; rfl))) (Slots.cons rfl (by first | exact .refl _ | exact .nilOwn _ _ | exact .nilSl _ | exact .ownSl _ _ _  | exact SV.le.ownEq (by first | rfl | (rw [map_take hx, List.map_append]; rfl)) | exact SV.le.of_eq (by first | rfl | (rw [map_take hx, List.map_append]; rfl))) Slots.nil))))), (by first | exact List.Sublist.refl _ | exact .cons_cons _ (.cons _ (.refl _)) | exact List.nil_sublist _ | exact .cons _ (.refl _) | exact .cons _ (.cons _ (.refl _)) | exact .cons _ (.cons _ (.cons _ (.refl _))) | exact .cons _ (.cons _ (.cons _ (.cons _ (.refl _)))) | exact .cons_cons _ (List.nil_sublist _))⟩, (by omega), ⟨k + 1, rfl, rfl, (by omega)⟩⟩
  ·
   have hge : ns.length ≤ k := by have := of_decide_eq_false hc2; simp at this; omega
   have hkl : ns.take k = ns := List.take_of_length_le hge
   refine awp_exit ?_
   refine x_thenE ?_
   refine x_thenE ?_
   refine x_blockE ?_
   refine x_then ?_
   refine awp_seq ?_
   refine awp_region ?_
   refine r_move rfl rfl ?_
   refine r_assign rfl rfl ?_
   refine r_assign rfl rfl ?_
   refine awl_nil ?_
   refine x_then ?_
   refine awp_ret ?_
   exact ⟨(.inl rfl), _, [], (.two (by first | exact .mk rfl rfl | exact .nil rfl) (by first | exact .mk rfl rfl | exact .nil rfl)), ⟨rfl, .inl ⟨m, hap2, hok, by rw [hkl, hns]; rfl⟩⟩, (List.nil_sublist _), (by simp)⟩
end Go.Proofs.Ytnbnegkdbjdekaa.A
namespace Go.Proofs.Ytnbnegkdbjdekaa.A
open Go Go.RowKit Go.Maps Go.Sort
set_option linter.unusedSectionVars false
variable [Thr]
set_option linter.unusedVariables false
set_option linter.unusedSimpArgs false
theorem ite_iff2 {α : Type} {p p' q q' : Prop} {_ : Decidable p} {_ : Decidable p'} {_ : Decidable q} {_ : Decidable q'} {x y z : α} (h1 : p' ↔ p) (h2 : q' ↔ q) : (if p then x else if q then y else z) = if p' then x else if q' then y else z := by
  by_cases hp : p
  · rw [if_pos hp, if_pos (h1.2 hp)]
  · rw [if_neg hp, if_neg (fun h => hp (h1.1 h))]
    by_cases hq : q
    · rw [if_pos hq, if_pos (h2.2 hq)]
    · rw [if_neg hq, if_neg (fun h => hq (h2.1 h))]
open Classical in
structure StM (a b : List File) (F T : List ByteArray) (m : SM) : Prop where
  nd : (m.map (·.1)).Nodup
  get : ∀ x, mget m x = if x ∈ F then none else if x ∈ T then lookF b x else lookF a x
variable {a b : List File} {F T : List ByteArray} {m : SM}
theorem st_ren (h : StM a b F T m) {s t : ByteArray} {d : List UInt8} (hs : s ∉ F) (hsT : s ∉ T) (ht : t ∉ F) (htT : t ∉ T) (ha : lookF a s = some d) (hat : lookF a t = none) (hb : lookF b t = some d) :
    ∃ m', stepM m ⟨4, s, t, []⟩ = (0, m') ∧ StM a b (s :: F) (t :: T) m' := by
  have g1 : mget m s = some d := by rw [h.get, if_neg hs, if_neg hsT, ha]
  have g2 : mget m t = none := by rw [h.get, if_neg ht, if_neg htT, hat]
  refine ⟨mdel (mset m t d) s, by simp [stepM, alterM, g1, g2], (mset_nodup h.nd).sublist ((mdel_sub _ _).map _), fun x => ?_⟩
  rw [mget_mdel _ _ _ (mset_nodup h.nd), mget_mset, h.get]
  by_cases h1 : s = x
  · subst h1; simp
  · have h1' : ¬ x = s := fun e => h1 e.symm
    by_cases h2 : t = x
    · subst h2; simp [h1, h1', ht, hb]
    · have h2' : ¬ x = t := fun e => h2 e.symm
      rw [if_neg h1, if_neg h2]
      exact ite_iff2 (by simp [h1']) (by simp [h2'])
theorem st_gone (h : StM a b F T m) {s : ByteArray} {d : List UInt8} (hs : s ∉ F) (hsT : s ∉ T) (ha : lookF a s = some d) :
    ∃ m', stepM m ⟨2, s, E0, []⟩ = (0, m') ∧ StM a b (s :: F) T m' := by
  have g1 : mget m s = some d := by rw [h.get, if_neg hs, if_neg hsT, ha]
  refine ⟨mdel m s, by simp [stepM, alterM, g1], h.nd.sublist ((mdel_sub _ _).map _), fun x => ?_⟩
  rw [mget_mdel _ _ _ h.nd, h.get]
  by_cases h1 : s = x
  · subst h1; simp
  · have h1' : ¬ x = s := fun e => h1 e.symm
    rw [if_neg h1]
    exact ite_iff2 (by simp [h1']) Iff.rfl
theorem st_chg (h : StM a b F T m) {s : ByteArray} {d : List UInt8} (hs : s ∉ F) (ha : (lookF a s).isSome = true) (hb : lookF b s = some d) :
    ∃ m', stepM m ⟨3, s, E0, d⟩ = (0, m') ∧ StM a b F (s :: T) m' := by
  have g1 : (mget m s).isSome = true := by
    rw [h.get, if_neg hs]
    by_cases h1 : s ∈ T
    · rw [if_pos h1, hb]; rfl
    · rw [if_neg h1]; exact ha
  refine ⟨mset m s d, by simp [stepM, alterM, g1], mset_nodup h.nd, fun x => ?_⟩
  rw [mget_mset, h.get]
  by_cases h1 : s = x
  · subst h1; simp [hs, hb]
  · have h1' : ¬ x = s := fun e => h1 e.symm
    rw [if_neg h1]
    exact ite_iff2 Iff.rfl (by simp [h1'])
theorem st_add (h : StM a b F T m) {t : ByteArray} {d : List UInt8} (ht : t ∉ F) (htT : t ∉ T) (hat : lookF a t = none) (hb : lookF b t = some d) :
    ∃ m', stepM m ⟨1, t, E0, d⟩ = (0, m') ∧ StM a b F (t :: T) m' := by
  have g2 : mget m t = none := by rw [h.get, if_neg ht, if_neg htT, hat]
  refine ⟨mset m t d, by simp [stepM, g2], mset_nodup h.nd, fun x => ?_⟩
  rw [mget_mset, h.get]
  by_cases h1 : t = x
  · subst h1; simp [ht, hb]
  · have h1' : ¬ x = t := fun e => h1 e.symm
    rw [if_neg h1]
    exact ite_iff2 Iff.rfl (by simp [h1'])
theorem went_in {a b : List File} {s : ByteArray} : s ∈ wentF a b ↔ (lookF a s).isSome = true ∧ lookF b s = none := by
  unfold wentF
  rw [List.mem_filter, names_in]
  simp
theorem sorted_nd {l : List ByteArray} (h : SortedS l) : l.Nodup := h.imp (fun {x y} hxy e => by rw [e, ltS_irrefl] at hxy; cases hxy)
theorem names_nd (l : List File) : (namesF l).Nodup := sorted_nd (names_ok l)
theorem went_nd (a b : List File) : (wentF a b).Nodup := (names_nd a).filter _
def renF (p : ByteArray × ByteArray) : FC := ⟨4, p.1, p.2, []⟩
def goneF (s : ByteArray) : FC := ⟨2, s, E0, []⟩
structure Rounds (a b : List File) (k : Nat) (R : List (ByteArray × ByteArray)) (G came : List ByteArray) : Prop where
  fst : (R.map (·.1) ++ G).Perm ((wentF a b).take k)
  snd : (R.map (·.2) ++ came).Perm (wentF b a)
  eq : ∀ p ∈ R, lookF a p.1 = lookF b p.2
theorem hit_eq {a b : List File} {s t : ByteArray} (h : hitF a b s t = true) (hs : (lookF a s).isSome = true) (ht : (lookF b t).isSome = true) : lookF a s = lookF b t := by
  unfold hitF at h
  simp only [Bool.and_eq_true, decide_eq_true_eq] at h
  obtain ⟨x, hx⟩ := Option.isSome_iff_exists.1 hs
  obtain ⟨y, hy⟩ := Option.isSome_iff_exists.1 ht
  have := h.2
  rw [hx, hy] at this ⊢
  simpa using this
theorem rounds (a b : List File) : ∀ k, k ≤ (wentF a b).length → ∃ R G came, splitF a b k = (came, R.map renF, G.map goneF) ∧ Rounds a b k R G came
  | 0, _ => ⟨[], [], wentF b a, rfl, ⟨by simp, by simp, by simp⟩⟩
  | k + 1, hk => by
    obtain ⟨R, G, came, h1, h2⟩ := rounds a b k (by omega)
    obtain ⟨s, hs⟩ := get_lt (show k < (wentF a b).length by omega)
    have hsm := went_in.1 (List.mem_of_getElem? hs)
    cases hf : came.findIdx? (hitF a b s) with
    | none =>
      refine ⟨R, G ++ [s], came, ?_, ?_, h2.snd, h2.eq⟩
      · rw [split_none hs h1 hf, List.map_append]; rfl
      · rw [takeS hs, ← List.append_assoc]; exact h2.fst.append_right _
    | some i =>
      obtain ⟨t, ht, hh⟩ := fidx_get hf
      have htm : t ∈ wentF b a := h2.snd.mem_iff.1 (List.mem_append_right _ (List.mem_of_getElem? ht))
      have hi := (List.getElem?_eq_some_iff.1 ht).1
      refine ⟨R ++ [(s, t)], G, came.eraseIdx i, ?_, ?_, ?_, ?_⟩
      · rw [split_some hs h1 hf ht, List.map_append]; rfl
      · rw [takeS hs, List.map_append, List.append_assoc]
        refine (List.Perm.append_left _ List.perm_append_comm).trans ?_
        rw [← List.append_assoc]
        exact h2.fst.append_right _
      · refine List.Perm.trans ?_ h2.snd
        rw [List.map_append, List.append_assoc]
        refine List.Perm.append_left _ ?_
        have e : came.take i ++ t :: came.drop (i + 1) = came := by
          have h3 : came.drop i = t :: came.drop (i + 1) := by rw [List.drop_eq_getElem_cons hi, (List.getElem?_eq_some_iff.1 ht).2]
          rw [← h3, List.take_append_drop]
        have h4 : (t :: came.eraseIdx i).Perm (came.take i ++ t :: came.drop (i + 1)) := by rw [List.eraseIdx_eq_take_drop_succ]; exact List.perm_middle.symm
        exact h4.trans (by rw [e])
      · intro p hp
        rcases List.mem_append.1 hp with hp | hp
        · exact h2.eq p hp
        · obtain rfl := List.mem_singleton.1 hp
          exact hit_eq hh hsm.1 (went_in.1 htm).1
theorem applyM_cons {m m1 : SM} {c : FC} {d : List FC} (h : stepM m c = (0, m1)) : applyM m (c :: d) = applyM m1 d := by
  unfold applyM; rw [List.foldl_cons]; simp [h]
theorem ph_ren : ∀ (R : List (ByteArray × ByteArray)) (F T : List ByteArray) (m : SM), StM a b F T m → (R.map (·.1)).Nodup → (R.map (·.2)).Nodup → (∀ p ∈ R, (lookF a p.1).isSome = true ∧ lookF b p.1 = none ∧ lookF a p.2 = none ∧ lookF a p.1 = lookF b p.2) →
    (∀ p ∈ R, p.1 ∉ F ∧ p.2 ∉ T) → (∀ x ∈ F, lookF b x = none) → (∀ x ∈ T, lookF a x = none) →
    ∃ F' T' m', applyM m (R.map renF) = (0, m') ∧ StM a b F' T' m' ∧ (∀ x, x ∈ F' ↔ x ∈ F ∨ x ∈ R.map (·.1)) ∧ (∀ x, x ∈ T' ↔ x ∈ T ∨ x ∈ R.map (·.2))
  | [], F, T, m, h, _, _, _, _, _, _ => ⟨F, T, m, rfl, h, by simp, by simp⟩
  | (s, t) :: R, F, T, m, h, n1, n2, hp, hn, hF, hT => by
    obtain ⟨q1, q2, q3, q4⟩ := hp (s, t) (by simp)
    obtain ⟨r1, r2⟩ := hn (s, t) (by simp)
    simp only at q1 q2 q3 q4 r1 r2
    obtain ⟨d, hd⟩ := Option.isSome_iff_exists.1 q1
    have hbt : lookF b t = some d := by rw [← q4, hd]
    rw [List.map_cons, List.nodup_cons] at n1 n2
    obtain ⟨m1, e1, st1⟩ := st_ren h r1 (fun hs => by rw [hT s hs] at hd; cases hd) (fun ht => by rw [hF t ht] at hbt; cases hbt) r2 hd q3 hbt
    obtain ⟨F', T', m', g1, g2, g3, g4⟩ := ph_ren R (s :: F) (t :: T) m1 st1 n1.2 n2.2 (fun p hp' => hp p (by simp [hp'])) (fun p hp' => by
        obtain ⟨k1, k2⟩ := hn p (by simp [hp'])
        refine ⟨fun hm => ?_, fun hm => ?_⟩
        · rcases List.mem_cons.1 hm with e | hm
          · exact n1.1 (by rw [← e]; exact List.mem_map.2 ⟨p, hp', rfl⟩)
          · exact k1 hm
        · rcases List.mem_cons.1 hm with e | hm
          · exact n2.1 (by rw [← e]; exact List.mem_map.2 ⟨p, hp', rfl⟩)
          · exact k2 hm) (fun x hx => by rcases List.mem_cons.1 hx with rfl | hx; exact q2; exact hF x hx) (fun x hx => by rcases List.mem_cons.1 hx with rfl | hx; exact q3; exact hT x hx)
    refine ⟨F', T', m', by rw [List.map_cons, applyM_cons (show stepM m (renF (s, t)) = (0, m1) from e1)]; exact g1, g2, fun x => ?_, fun x => ?_⟩
    · rw [g3, List.map_cons, List.mem_cons, List.mem_cons]
      constructor
      · rintro ((h | h) | h) <;> simp [h]
      · rintro (h | h | h) <;> simp [h]
    · rw [g4, List.map_cons, List.mem_cons, List.mem_cons]
      constructor
      · rintro ((h | h) | h) <;> simp [h]
      · rintro (h | h | h) <;> simp [h]
theorem ph_gone : ∀ (G : List ByteArray) (F T : List ByteArray) (m : SM), StM a b F T m → G.Nodup → (∀ s ∈ G, (lookF a s).isSome = true ∧ s ∉ F ∧ s ∉ T) →
    ∃ F' m', applyM m (G.map goneF) = (0, m') ∧ StM a b F' T m' ∧ ∀ x, x ∈ F' ↔ x ∈ F ∨ x ∈ G
  | [], F, T, m, h, _, _ => ⟨F, m, rfl, h, by simp⟩
  | s :: G, F, T, m, h, n, hp => by
    obtain ⟨q1, q2, q3⟩ := hp s (by simp)
    obtain ⟨d, hd⟩ := Option.isSome_iff_exists.1 q1
    rw [List.nodup_cons] at n
    obtain ⟨m1, e1, st1⟩ := st_gone h q2 q3 hd
    obtain ⟨F', m', g1, g2, g3⟩ := ph_gone G (s :: F) T m1 st1 n.2 (fun x hx => by
      obtain ⟨k1, k2, k3⟩ := hp x (by simp [hx])
      exact ⟨k1, fun hm => by rcases List.mem_cons.1 hm with e | hm; exact n.1 (by rw [← e]; exact hx); exact k2 hm, k3⟩)
    refine ⟨F', m', by rw [List.map_cons, applyM_cons (show stepM m (goneF s) = (0, m1) from e1)]; exact g1, g2, fun x => ?_⟩
    rw [g3, List.mem_cons, List.mem_cons]
    constructor
    · rintro ((h | h) | h) <;> simp [h]
    · rintro (h | h | h) <;> simp [h]
theorem ph_chg : ∀ (N : List ByteArray) (F T : List ByteArray) (m : SM), StM a b F T m → (∀ s ∈ N, (lookF a s).isSome = true) → (∀ x ∈ F, lookF b x = none) →
    ∃ T' m', applyM m (N.filterMap (chgF a b)) = (0, m') ∧ StM a b F T' m' ∧ (∀ x, x ∈ T' → x ∈ T ∨ x ∈ N) ∧ (∀ x, x ∈ T → x ∈ T') ∧ ∀ x ∈ N, (chgF a b x).isSome = true → x ∈ T'
  | [], F, T, m, h, _, _ => ⟨T, m, rfl, h, by simp, by simp, by simp⟩
  | s :: N, F, T, m, h, hp, hF => by
    cases hc : chgF a b s with
    | none =>
      obtain ⟨T', m', g1, g2, g3, g4, g5⟩ := ph_chg N F T m h (fun x hx => hp x (by simp [hx])) hF
      refine ⟨T', m', by rw [List.filterMap_cons, hc]; exact g1, g2, fun x hx => (g3 x hx).imp id (fun h => by simp [h]), g4, fun x hx hs => ?_⟩
      rcases List.mem_cons.1 hx with rfl | hx
      · rw [hc] at hs; cases hs
      · exact g5 x hx hs
    | some c =>
      obtain ⟨d, hd, rfl⟩ : ∃ d, lookF b s = some d ∧ c = ⟨3, s, E0, d⟩ := by
        unfold chgF at hc
        cases hb : lookF b s with
        | none => rw [hb] at hc; cases hc
        | some d =>
          rw [hb] at hc
          simp only at hc
          cases hq : decide ((lookF a s).getD [] = d) <;> simp [hq] at hc
          exact ⟨d, rfl, hc.symm⟩
      obtain ⟨m1, e1, st1⟩ := st_chg h (fun hs => by rw [hF s hs] at hd; cases hd) (hp s (by simp)) hd
      obtain ⟨T', m', g1, g2, g3, g4, g5⟩ := ph_chg N F (s :: T) m1 st1 (fun x hx => hp x (by simp [hx])) hF
      refine ⟨T', m', by rw [List.filterMap_cons, hc]; simp only; rw [applyM_cons e1]; exact g1, g2, fun x hx => ?_, fun x hx => g4 x (by simp [hx]), fun x hx hs => ?_⟩
      · rcases g3 x hx with h | h
        · rcases List.mem_cons.1 h with rfl | h
          · exact .inr (by simp)
          · exact .inl h
        · exact .inr (by simp [h])
      · rcases List.mem_cons.1 hx with rfl | hx
        · exact g4 _ (by simp)
        · exact g5 x hx hs
theorem ph_add : ∀ (N : List ByteArray) (F T : List ByteArray) (m : SM), StM a b F T m → N.Nodup → (∀ t ∈ N, (lookF b t).isSome = true ∧ lookF a t = none ∧ t ∉ T) → (∀ x ∈ F, lookF b x = none) →
    ∃ T' m', applyM m (N.map (addF b)) = (0, m') ∧ StM a b F T' m' ∧ ∀ x, x ∈ T' ↔ x ∈ T ∨ x ∈ N
  | [], F, T, m, h, _, _, _ => ⟨T, m, rfl, h, by simp⟩
  | t :: N, F, T, m, h, n, hp, hF => by
    obtain ⟨q1, q2, q3⟩ := hp t (by simp)
    obtain ⟨d, hd⟩ := Option.isSome_iff_exists.1 q1
    rw [List.nodup_cons] at n
    obtain ⟨m1, e1, st1⟩ := st_add h (fun ht => by rw [hF t ht] at hd; cases hd) q3 q2 hd
    obtain ⟨T', m', g1, g2, g3⟩ := ph_add N F (t :: T) m1 st1 n.2 (fun x hx => by
      obtain ⟨k1, k2, k3⟩ := hp x (by simp [hx])
      exact ⟨k1, k2, fun hm => by rcases List.mem_cons.1 hm with e | hm; exact n.1 (by rw [← e]; exact hx); exact k3 hm⟩) hF
    refine ⟨T', m', by rw [List.map_cons, applyM_cons (show stepM m (addF b t) = (0, m1) from by rw [addF, hd]; exact e1)]; exact g1, g2, fun x => ?_⟩
    rw [g3, List.mem_cons, List.mem_cons]
    constructor
    · rintro ((h | h) | h) <;> simp [h]
    · rintro (h | h | h) <;> simp [h]
theorem apply_of (a b : List File) {m0 : SM} (h0 : (m0.map (·.1)).Nodup) (hg : ∀ x, mget m0 x = lookF a x) : ∃ m, applyM m0 (OfF a b) = (0, m) ∧ (m.map (·.1)).Nodup ∧ ∀ x, mget m x = lookF b x := by
  obtain ⟨R, G, came, h1, h2⟩ := rounds a b (wentF a b).length (Nat.le_refl _)
  have hfst := h2.fst
  rw [List.take_length] at hfst
  have hnd1 := hfst.nodup_iff.2 (went_nd a b)
  have hnd2 := h2.snd.nodup_iff.2 (went_nd b a)
  rw [List.nodup_append] at hnd1 hnd2
  have hR1 : ∀ p ∈ R, p.1 ∈ wentF a b := fun p hp => hfst.mem_iff.1 (List.mem_append_left _ (List.mem_map.2 ⟨p, hp, rfl⟩))
  have hR2 : ∀ p ∈ R, p.2 ∈ wentF b a := fun p hp => h2.snd.mem_iff.1 (List.mem_append_left _ (List.mem_map.2 ⟨p, hp, rfl⟩))
  have hG : ∀ s ∈ G, s ∈ wentF a b := fun s hs => hfst.mem_iff.1 (List.mem_append_right _ hs)
  have hC : ∀ s ∈ came, s ∈ wentF b a := fun s hs => h2.snd.mem_iff.1 (List.mem_append_right _ hs)
  obtain ⟨F1, T1, m1, a1, s1, f1, t1⟩ := ph_ren R [] [] m0 ⟨h0, fun x => by simp [hg]⟩ hnd1.1 hnd2.1 (fun p hp => ⟨(went_in.1 (hR1 p hp)).1, (went_in.1 (hR1 p hp)).2, (went_in.1 (hR2 p hp)).2, h2.eq p hp⟩) (fun p hp => by simp) (by simp) (by simp)
  simp only [List.not_mem_nil, false_or] at f1 t1
  obtain ⟨F2, m2, a2, s2, f2⟩ := ph_gone G F1 T1 m1 s1 hnd1.2.1 (fun s hs => ⟨(went_in.1 (hG s hs)).1, fun h => (hnd1.2.2 s ((f1 s).1 h) s hs) rfl, fun h => by
    obtain ⟨p, hp, e⟩ := List.mem_map.1 ((t1 s).1 h)
    have k1 := (went_in.1 (hR2 p hp)).2
    have k2 := (went_in.1 (hG s hs)).1
    rw [e] at k1; rw [k1] at k2; cases k2⟩)
  have hF2 : ∀ x, x ∈ F2 ↔ x ∈ wentF a b := fun x => by rw [f2, f1, ← List.mem_append, hfst.mem_iff]
  have hFb : ∀ x ∈ F2, lookF b x = none := fun x hx => (went_in.1 ((hF2 x).1 hx)).2
  obtain ⟨T3, m3, a3, s3, t3, t3', t3c⟩ := ph_chg (namesF a) F2 T1 m2 s2 (fun s hs => names_in.1 hs) hFb
  obtain ⟨T4, m4, a4, s4, t4⟩ := ph_add came F2 T3 m3 s3 hnd2.2.1 (fun t ht => ⟨(went_in.1 (hC t ht)).1, (went_in.1 (hC t ht)).2, fun h => by
    rcases t3 t h with h | h
    · exact (hnd2.2.2 t ((t1 t).1 h) t ht) rfl
    · have k := names_in.1 h; rw [(went_in.1 (hC t ht)).2] at k; cases k⟩) hFb
  refine ⟨m4, ?_, s4.nd, fun x => ?_⟩
  · rw [OfF, show splitE a b = (came, R.map renF, G.map goneF) from h1]
    simp only
    rw [applyM_app (applyM_app ((applyM_app a1).trans a2) |>.trans a3)]
    exact a4
  · rw [s4.get]
    by_cases hx : x ∈ F2
    · rw [if_pos hx, hFb x hx]
    · rw [if_neg hx]
      by_cases hT : x ∈ T4
      · rw [if_pos hT]
      · rw [if_neg hT]
        cases ha : lookF a x with
        | none =>
          cases hb : lookF b x with
          | none => rfl
          | some d =>
            exfalso
            have hw : x ∈ wentF b a := went_in.2 ⟨by rw [hb]; rfl, ha⟩
            rcases List.mem_append.1 (h2.snd.mem_iff.2 hw) with h | h
            · exact hT ((t4 x).2 (.inl (t3' x ((t1 x).2 h))))
            · exact hT ((t4 x).2 (.inr h))
        | some d =>
          cases hb : lookF b x with
          | none => exact absurd ((hF2 x).2 (went_in.2 ⟨by rw [ha]; rfl, hb⟩)) hx
          | some d' =>
            by_cases hd : d = d'
            · rw [hd]
            · exfalso
              have hc : (chgF a b x).isSome = true := by
                unfold chgF
                rw [hb]
                simp [ha, hd]
              exact hT ((t4 x).2 (.inl (t3c x (names_in.2 (by rw [ha]; rfl)) hc)))
end Go.Proofs.Ytnbnegkdbjdekaa.A
namespace Go.Proofs.Ytnbnegkdbjdekaa.A
open Go Go.RowKit Go.Maps Go.Sort
set_option linter.unusedSectionVars false
variable [Thr]
set_option linter.unusedVariables false
set_option linter.unusedSimpArgs false
def rankF (k : Int) : Int := optI ([4, 2, 3, 1].findIdx? (fun x => k == x))
def bareF (c : FC) : Bool := !(!(c.kind == 4) && !decide (c.to = E0)) && (decide (c.data.length = 0) || ((c.kind == 1) || (c.kind == 3)))
def namesC (c : FC) : List ByteArray := if c.kind = 4 then [c.name, c.to] else [c.name]
def pairF (p c : FC) : Bool := decide (rankF p.kind > rankF c.kind) || ((p.kind == c.kind) && !ltS p.name c.name)
def okC (d : List FC) (i : Nat) : Bool :=
  match d[i]? with
  | none => true
  | some c => !decide (rankF c.kind < 0) && bareF c && !(decide (0 < i) && match d[i - 1]? with | none => false | some p => pairF p c)
def rightF (d : List FC) : Bool := (List.range d.length).all (okC d) && decide ((d.flatMap namesC).Nodup)
theorem right_bad {d : List FC} {i : Nat} (h : i < d.length) (hb : okC d i = false) : rightF d = false := by
  unfold rightF
  rw [Bool.and_eq_false_iff]
  left
  rw [List.all_eq_false]
  exact ⟨i, List.mem_range.2 h, by simp [hb]⟩
theorem names_take {d : List FC} {k : Nat} {c : FC} (h : d[k]? = some c) : (d.take (k + 1)).flatMap namesC = (d.take k).flatMap namesC ++ namesC c := by
  rw [takeS h, List.flatMap_append]; simp
theorem right_dup {d : List FC} {k j : Nat} {c : FC} {s : ByteArray} (h : d[k]? = some c) (hs : (namesC c)[j]? = some s) (hm : s ∈ (d.take k).flatMap namesC ++ (namesC c).take j) : rightF d = false := by
  unfold rightF
  rw [Bool.and_eq_false_iff]
  right
  rw [decide_eq_false_iff_not]
  intro hn
  have e : d = d.take (k + 1) ++ d.drop (k + 1) := (List.take_append_drop _ _).symm
  rw [e, List.flatMap_append, names_take h] at hn
  have e2 : namesC c = (namesC c).take j ++ s :: (namesC c).drop (j + 1) := by
    have hj := (List.getElem?_eq_some_iff.1 hs).1
    have h3 : (namesC c).drop j = s :: (namesC c).drop (j + 1) := by rw [List.drop_eq_getElem_cons hj, (List.getElem?_eq_some_iff.1 hs).2]
    rw [← h3, List.take_append_drop]
  rw [e2, List.nodup_append] at hn
  have h1 := hn.1
  rw [← List.append_assoc, List.nodup_append] at h1
  exact h1.2.2 s hm s (by simp) rfl
theorem right_good {d : List FC} (ha : ∀ i, i < d.length → okC d i = true) (hn : (d.flatMap namesC).Nodup) : rightF d = true := by
  unfold rightF
  rw [Bool.and_eq_true]
  exact ⟨List.all_eq_true.2 fun i hi => ha i (List.mem_range.1 hi), decide_eq_true hn⟩
def HasS (m : List (ByteArray × Bool)) (l : List ByteArray) : Prop := ∀ s, (mget m s).getD false = true ↔ s ∈ l
theorem hasS_nil : HasS [] [] := fun s => by simp [mget]
theorem hasS_set {m : List (ByteArray × Bool)} {l : List ByteArray} {s : ByteArray} (h : HasS m l) : HasS (mset m s true) (l ++ [s]) := fun x => by
  rw [mget_mset, List.mem_append, List.mem_singleton, ← h x]
  by_cases hs : s = x
  · subst hs; simp
  · have : ¬ x = s := fun e => hs e.symm
    simp [hs, this]
theorem nodup_snoc {l : List ByteArray} {s : ByteArray} (h : l.Nodup) (hs : s ∉ l) : (l ++ [s]).Nodup := by
  rw [List.nodup_append]
  exact ⟨h, by simp, fun a ha b hb e => by simp at hb; subst hb e; exact hs ha⟩
end Go.Proofs.Ytnbnegkdbjdekaa.A
namespace Go.Proofs.Ytnbnegkdbjdekaa.A
open Go Go.RowKit
set_option linter.unusedVariables false
set_option linter.unusedSimpArgs false
set_option maxRecDepth 100000
set_option linter.unusedSectionVars false
variable [Thr]
theorem TF.sl82 : sliceT Try.prog 82 = some 3 := by kernel_rfl
theorem TF.zraw3 : zeroT Try.prog 3 = some [(.int .i64 0)] := by kernel_rfl
theorem TF.en46 : entersT Try.prog 46 := enters_of Try.func46 (by kernel_rfl) (by kernel_rfl)
theorem TF.en35 : entersT Try.prog 35 := enters_of Try.func35 (by kernel_rfl) (by kernel_rfl)
theorem TF.en36 : entersT Try.prog 36 := enters_of Try.func36 (by kernel_rfl) (by kernel_rfl)
theorem TF.by9 : bytesT Try.prog 9 = some 16 := by kernel_rfl
theorem TF.zlen9 : (zeroT Try.prog 9).map (·.length) = some 1 := by kernel_rfl
theorem TF.map70 : mapT Try.prog 70 = some (9, 4) := by kernel_rfl
theorem TF.zav4 : ZeroAV Try.prog 4 (.v (.bool false)) := ⟨.v (.bool false), by kernel_rfl, .one (.refl _)⟩
theorem indexI_ok (l : List Int) (v : Int) (hl : l.length ≤ 1000000) : AC Try.prog 46 [.sl 1 (l.map fun x => [AV.v (.int .i64 x)]), .v (.int .i64 v)] [] (fun r n => n = [] ∧ r = .v (.int .i64 (optI (l.findIdx? (fun x => v == x))))) := by
 refine ac_of_awp (rs := [4]) (nt := 19) Try.func46 rfl rfl rfl rfl (fun w0 C0 hq => ?_)
 refine awp_seq ?_
 refine awp_region ?_
 refine r_assign rfl rfl ?_
 refine awl_nil ?_
 refine x_then ?_
 refine awp_seq ?_
 refine awp_seq ?_
 refine awp_region ?_
 refine r_move rfl rfl ?_
 first | (refine r_lenS rfl rfl TF.sl82 rfl ?_) | (refine r_lenNil rfl TF.sl82 rfl ?_) | (refine r_lenV rfl TF.sl82 rfl ?_)
 refine r_move rfl rfl ?_
 refine awl_nil ?_
 refine x_then ?_
 refine awp_block ?_
 refine awp_loop (fun nn0 S => ∃ k : Nat, S = ⟨19, [(0, .a (.sl 1 (l.map fun x => [AV.v (.int .i64 x)]))), (1, .a (.v (.int .i64 v))), (7, .a (.v (.int .i64 ((l.map fun x => [AV.v (.int .i64 x)]).length)))), (8, .a (.v (.int .i64 ((k : Int)))))], []⟩ ∧ nn0 = l.length - k ∧ (k ≤ l.length) ∧ ((l.take k).findIdx? (fun x => v == x) = none)) (l.length - (0)) ⟨19, [(0, .a (.sl 1 (l.map fun x => [AV.v (.int .i64 x)]))), (1, .a (.v (.int .i64 v))), (7, .a (.v (.int .i64 ((l.map fun x => [AV.v (.int .i64 x)]).length)))), (8, .a (.v (.int .i64 (((0) : Int)))))], []⟩ ⟨rfl, (Slots.cons rfl (by first | exact .refl _ | exact .nilOwn _ _ | exact .nilSl _ | exact .ownSl _ _ _  | exact SV.le.of_eq (by simp)) (Slots.cons rfl (by first | exact .refl _ | exact .nilOwn _ _ | exact .nilSl _ | exact .ownSl _ _ _  | exact SV.le.of_eq (by simp)) (Slots.cons rfl (by first | exact .refl _ | exact .nilOwn _ _ | exact .nilSl _ | exact .ownSl _ _ _  | exact SV.le.of_eq (by simp)) (Slots.cons rfl (by first | exact .refl _ | exact .nilOwn _ _ | exact .nilSl _ | exact .ownSl _ _ _  | exact SV.le.of_eq (by simp)) Slots.nil)))), (by first | exact List.Sublist.refl _ | exact .cons_cons _ (.cons _ (.refl _)) | exact List.nil_sublist _ | exact .cons _ (.refl _) | exact .cons _ (.cons _ (.refl _)) | exact .cons _ (.cons _ (.cons _ (.refl _))) | exact .cons _ (.cons _ (.cons _ (.cons _ (.refl _)))) | exact .cons_cons _ (List.nil_sublist _))⟩ ⟨0, rfl, rfl, Nat.zero_le _, rfl⟩ ?_
 rintro nn0 _ ⟨k, rfl, rfl, hk, hno⟩
 refine awp_seq ?_
 refine awp_region ?_
 refine r_cmp rfl rfl rfl rfl ?_
 refine awl_nil ?_
 refine x_then ?_
 refine awp_seq ?_
 refine awp_cond rfl (fun hc0 => ?_) (fun hc0 => ?_)
 ·
  have hltx : k < l.length := by have := of_decide_eq_true hc0; simpa using this
  obtain ⟨x, hx⟩ := get_lt hltx
  refine awp_skip ?_
  refine x_then ?_
  refine awp_seq ?_
  refine awp_block ?_
  refine awp_seq ?_
  refine awp_region ?_
  refine r_move rfl rfl ?_
  refine r_assign rfl rfl ?_
  refine awl_nil ?_
  refine x_then ?_
  refine awp_seq ?_
  refine awp_region ?_
  refine r_move rfl rfl ?_
  refine r_move rfl rfl ?_
  refine r_move rfl rfl ?_
  refine r_index rfl rfl rfl TF.sl82 TF.sz3 (by omega) (get_map hx) rfl ?_
  refine r_load1 rfl TF.agg3 rfl ?_
  refine r_cmp rfl rfl rfl rfl ?_
  refine awl_nil ?_
  refine x_then ?_
  refine awp_cond rfl (fun hc1 => ?_) (fun hc1 => ?_)
  ·
   refine awp_seq ?_
   refine awp_region ?_
   refine r_move rfl rfl ?_
   refine r_assign rfl rfl ?_
   refine awl_nil ?_
   refine x_then ?_
   refine awp_ret ?_
   refine x_blockR ?_
   refine x_thenR ?_
   refine x_thenR ?_
   refine x_blockR ?_
   refine x_thenR ?_
   exact ⟨(.inl rfl), _, [], (.one (by first | exact .mk rfl rfl | exact .nil rfl)), ⟨rfl, by rw [fidx_hit hx hc1 hno]; rfl⟩, (List.nil_sublist _), (by simp)⟩
  ·
   refine awp_skip ?_
   refine x_block ?_
   refine x_then ?_
   refine awp_region ?_
   refine r_ari _ rfl rfl rfl (wrap_id (by first | omega | (simp; omega))) rfl ?_
   refine r_move rfl rfl ?_
   refine awl_nil ?_
   refine x_then ?_
   refine ⟨l.length - (k + 1), ⟨19, [(0, .a (.sl 1 (l.map fun x => [AV.v (.int .i64 x)]))), (1, .a (.v (.int .i64 v))), (7, .a (.v (.int .i64 ((l.map fun x => [AV.v (.int .i64 x)]).length)))), (8, .a (.v (.int .i64 (((k + 1) : Int)))))], []⟩, ⟨rfl, (Slots.cons rfl (by first | exact .refl _ | exact .nilOwn _ _ | exact .nilSl _ | exact .ownSl _ _ _  | exact SV.le.of_eq (by simp)) (Slots.cons rfl (by first | exact .refl _ | exact .nilOwn _ _ | exact .nilSl _ | exact .ownSl _ _ _  | exact SV.le.of_eq (by simp)) (Slots.cons rfl (by first | exact .refl _ | exact .nilOwn _ _ | exact .nilSl _ | exact .ownSl _ _ _  | exact SV.le.of_eq (by simp)) (Slots.cons rfl (by first | exact .refl _ | exact .nilOwn _ _ | exact .nilSl _ | exact .ownSl _ _ _  | exact SV.le.of_eq (by simp)) Slots.nil)))), (by first | exact List.Sublist.refl _ | exact .cons_cons _ (.cons _ (.refl _)) | exact List.nil_sublist _ | exact .cons _ (.refl _) | exact .cons _ (.cons _ (.refl _)) | exact .cons _ (.cons _ (.cons _ (.refl _))) | exact .cons _ (.cons _ (.cons _ (.cons _ (.refl _)))) | exact .cons_cons _ (List.nil_sublist _))⟩, (by omega), ⟨k + 1, rfl, rfl, (by omega), (fidx_step hx hc1 hno)⟩⟩
 ·
  have hge : l.length ≤ k := by have := of_decide_eq_false hc0; simp at this; omega
  refine awp_exit ?_
  refine x_thenE ?_
  refine x_thenE ?_
  refine x_blockE ?_
  refine x_then ?_
  refine awp_seq ?_
  refine awp_region ?_
  refine r_assign rfl rfl ?_
  refine awl_nil ?_
  refine x_then ?_
  refine awp_ret ?_
  exact ⟨(.inl rfl), _, [], (.one (by first | exact .mk rfl rfl | exact .nil rfl)), ⟨rfl, by rw [fidx_end hge hno]; rfl⟩, (List.nil_sublist _), (by simp)⟩
theorem rank_ok (k : Int) : AC Try.prog 35 [.v (.int .i64 k)] [] (fun r n => n = [] ∧ r = .v (.int .i64 (rankF k))) := by
 refine ac_of_awp (rs := [2]) (nt := 6) Try.func35 rfl rfl rfl rfl (fun w0 C0 hq => ?_)
 refine awp_seq ?_
 refine awp_region ?_
 refine r_assign rfl rfl ?_
 refine awl_nil ?_
 refine x_then ?_
 refine awp_seq ?_
 refine awp_region ?_
 refine r_lit 3 (parts := [(0, .const ((Go.Value.int Go.IntKind.i64 4))), (1, .const ((Go.Value.int Go.IntKind.i64 2))), (2, .const ((Go.Value.int Go.IntKind.i64 3))), (3, .const ((Go.Value.int Go.IntKind.i64 1)))]) rfl TF.sl82 TF.sz3 TF.zraw3 rfl rfl rfl rfl rfl rfl rfl ?_
 refine r_move rfl rfl ?_
 refine r_call0 hq rfl rfl (.cons (.ev rfl rfl) (.cons (.ev rfl rfl) .nil)) (indexI_ok [4, 2, 3, 1] k (by simp)) rfl TF.en46 rfl (fun r hr => ?_)
 obtain rfl := hr
 refine r_assign rfl rfl ?_
 refine awl_nil ?_
 refine x_then ?_
 refine awp_ret ?_
 exact ⟨(.inl rfl), _, [], (.one (by first | exact .mk rfl rfl | exact .nil rfl)), ⟨rfl, rfl⟩, (List.nil_sublist _), (by simp)⟩
theorem bare_ok (c : FC) : AC Try.prog 36 [.agg (FC.cs c)] [] (fun r n => n = [] ∧ r = boolA (bareF c)) := by
 refine ac_of_awp (rs := [2]) (nt := 25) Try.func36 rfl rfl rfl rfl (fun w0 C0 hq => ?_)
 refine awp_seq ?_
 refine awp_region ?_
 refine r_box rfl rfl rfl (fun b1 => ?_)
 refine r_assign rfl rfl ?_
 refine awl_nil ?_
 refine x_then ?_
 refine awp_seq ?_
 refine awp_seq ?_
 refine awp_region ?_
 first | (refine r_fieldb rfl TF.f50_0 TF.sz3 rfl ?_) | (refine r_fieldcp rfl TF.f50_0 TF.sz3 rfl ?_)
 first | (refine r_load1b 0 rfl rfl rfl TF.agg3 rfl ?_) | (refine r_load1 rfl TF.agg3 rfl ?_)
 refine r_cmp rfl rfl rfl rfl ?_
 refine r_move rfl rfl ?_
 refine g_cases (t' := 6) rfl (fun hg6 => ?_) (fun hg6 => ?_)
 ·
  have h4 : (c.kind == 4) = false := by simpa using hg6
  refine g_run rfl rfl hg6 ?_
  first | (refine r_fieldb rfl TF.f50_2 TF.sz9 rfl ?_) | (refine r_fieldcp rfl TF.f50_2 TF.sz9 rfl ?_)
  refine g_run rfl rfl hg6 ?_
  first | (refine r_load1b 0 rfl rfl rfl TF.agg9 rfl ?_) | (refine r_load1 rfl TF.agg9 rfl ?_)
  refine g_run rfl rfl hg6 ?_
  refine r_str2 rfl rfl rfl rfl ?_
  refine r_pickT rfl hg6 rfl rfl ?_
  refine awl_nil ?_
  refine x_then ?_
  refine awp_cond rfl (fun hc0 => ?_) (fun hc0 => ?_)
  ·
   have ht : decide (c.to = E0) = false := by rw [E0]; simpa using hc0
   refine awp_seq ?_
   refine awp_region ?_
   refine r_assign rfl rfl ?_
   refine awl_nil ?_
   refine x_then ?_
   refine awp_ret ?_
   refine x_thenR ?_
   exact ⟨(.inl rfl), _, [], (.one (by first | exact .mk rfl rfl | exact .nil rfl)), ⟨rfl, by first | (simp only [bareF, h4, ht, Bool.not_true, Bool.not_false, Bool.true_and, Bool.and_true, Bool.false_and, Bool.and_false]; rfl) | (simp only [bareF, h4, hl, Bool.not_true, Bool.not_false, Bool.true_and, Bool.and_true, Bool.false_and, Bool.true_or]; rfl) | (simp only [bareF, h4, ht, hl, Bool.not_true, Bool.not_false, Bool.true_and, Bool.and_true, Bool.false_and, Bool.true_or]; rfl) | (simp only [bareF, h4, hl, h1, Bool.not_true, Bool.not_false, Bool.true_and, Bool.and_true, Bool.false_and, Bool.true_or, Bool.false_or]; rfl) | (simp only [bareF, h4, ht, hl, h1, Bool.not_true, Bool.not_false, Bool.true_and, Bool.and_true, Bool.false_and, Bool.true_or, Bool.false_or]; rfl)⟩, (List.nil_sublist _), (by simp)⟩
  ·
   have ht : decide (c.to = E0) = true := by rw [E0]; simpa using hc0
   refine awp_skip ?_
   refine x_then ?_
   refine awp_seq ?_
   refine awp_region ?_
   first | (refine r_fieldb rfl TF.f50_3 TF.sz34 rfl ?_) | (refine r_fieldcp rfl TF.f50_3 TF.sz34 rfl ?_)
   first | (refine r_load1b 0 rfl rfl rfl TF.agg34 rfl ?_) | (refine r_load1 rfl TF.agg34 rfl ?_)
   first | (refine r_lenS rfl rfl TF.sl34 rfl ?_) | (refine r_lenNil rfl TF.sl34 rfl ?_) | (refine r_lenV rfl TF.sl34 rfl ?_)
   refine r_cmp rfl rfl rfl rfl ?_
   refine r_move rfl rfl ?_
   refine g_cases (t' := 15) rfl (fun hg15 => ?_) (fun hg15 => ?_)
   ·
    have hl : decide (c.data.length = 0) = true := by have := eq_of_beq hg15; rw [u8s_len] at this; simpa using this
    refine g_skip rfl rfl hg15 rfl ?_
    refine g_skip rfl rfl hg15 rfl ?_
    refine g_skip rfl rfl hg15 rfl ?_
    refine r_pickT rfl hg15 rfl rfl ?_
    refine r_move rfl rfl ?_
    refine g_skip rfl rfl rfl rfl ?_
    refine g_skip rfl rfl rfl rfl ?_
    refine g_skip rfl rfl rfl rfl ?_
    refine r_pickT rfl rfl rfl rfl ?_
    refine r_assign rfl rfl ?_
    refine awl_nil ?_
    refine x_then ?_
    refine awp_ret ?_
    exact ⟨(.inl rfl), _, [], (.one (by first | exact .mk rfl rfl | exact .nil rfl)), ⟨rfl, by first | (simp only [bareF, h4, ht, Bool.not_true, Bool.not_false, Bool.true_and, Bool.and_true, Bool.false_and, Bool.and_false]; rfl) | (simp only [bareF, h4, hl, Bool.not_true, Bool.not_false, Bool.true_and, Bool.and_true, Bool.false_and, Bool.true_or]; rfl) | (simp only [bareF, h4, ht, hl, Bool.not_true, Bool.not_false, Bool.true_and, Bool.and_true, Bool.false_and, Bool.true_or]; rfl) | (simp only [bareF, h4, hl, h1, Bool.not_true, Bool.not_false, Bool.true_and, Bool.and_true, Bool.false_and, Bool.true_or, Bool.false_or]; rfl) | (simp only [bareF, h4, ht, hl, h1, Bool.not_true, Bool.not_false, Bool.true_and, Bool.and_true, Bool.false_and, Bool.true_or, Bool.false_or]; rfl)⟩, (List.nil_sublist _), (by simp)⟩
   ·
    have hl : decide (c.data.length = 0) = false := by simp [u8s_len] at hg15; simpa using hg15
    refine g_run rfl rfl hg15 ?_
    first | (refine r_fieldb rfl TF.f50_0 TF.sz3 rfl ?_) | (refine r_fieldcp rfl TF.f50_0 TF.sz3 rfl ?_)
    refine g_run rfl rfl hg15 ?_
    first | (refine r_load1b 0 rfl rfl rfl TF.agg3 rfl ?_) | (refine r_load1 rfl TF.agg3 rfl ?_)
    refine g_run rfl rfl hg15 ?_
    refine r_cmp rfl rfl rfl rfl ?_
    refine r_pickF rfl hg15 rfl rfl ?_
    refine r_move rfl rfl ?_
    refine g_cases (t' := 20) rfl (fun hg20 => ?_) (fun hg20 => ?_)
    ·
     have h1 : (c.kind == 1) = true := hg20
     refine g_skip rfl rfl hg20 rfl ?_
     refine g_skip rfl rfl hg20 rfl ?_
     refine g_skip rfl rfl hg20 rfl ?_
     refine r_pickT rfl hg20 rfl rfl ?_
     refine r_assign rfl rfl ?_
     refine awl_nil ?_
     refine x_then ?_
     refine awp_ret ?_
     exact ⟨(.inl rfl), _, [], (.one (by first | exact .mk rfl rfl | exact .nil rfl)), ⟨rfl, by first | (simp only [bareF, h4, ht, Bool.not_true, Bool.not_false, Bool.true_and, Bool.and_true, Bool.false_and, Bool.and_false]; rfl) | (simp only [bareF, h4, hl, Bool.not_true, Bool.not_false, Bool.true_and, Bool.and_true, Bool.false_and, Bool.true_or]; rfl) | (simp only [bareF, h4, ht, hl, Bool.not_true, Bool.not_false, Bool.true_and, Bool.and_true, Bool.false_and, Bool.true_or]; rfl) | (simp only [bareF, h4, hl, h1, Bool.not_true, Bool.not_false, Bool.true_and, Bool.and_true, Bool.false_and, Bool.true_or, Bool.false_or]; rfl) | (simp only [bareF, h4, ht, hl, h1, Bool.not_true, Bool.not_false, Bool.true_and, Bool.and_true, Bool.false_and, Bool.true_or, Bool.false_or]; rfl)⟩, (List.nil_sublist _), (by simp)⟩
    ·
     have h1 : (c.kind == 1) = false := hg20
     refine g_run rfl rfl hg20 ?_
     first | (refine r_fieldb rfl TF.f50_0 TF.sz3 rfl ?_) | (refine r_fieldcp rfl TF.f50_0 TF.sz3 rfl ?_)
     refine g_run rfl rfl hg20 ?_
     first | (refine r_load1b 0 rfl rfl rfl TF.agg3 rfl ?_) | (refine r_load1 rfl TF.agg3 rfl ?_)
     refine g_run rfl rfl hg20 ?_
     refine r_cmp rfl rfl rfl rfl ?_
     refine r_pickF rfl hg20 rfl rfl ?_
     refine r_assign rfl rfl ?_
     refine awl_nil ?_
     refine x_then ?_
     refine awp_ret ?_
     exact ⟨(.inl rfl), _, [], (.one (by first | exact .mk rfl rfl | exact .nil rfl)), ⟨rfl, by first | (simp only [bareF, h4, ht, Bool.not_true, Bool.not_false, Bool.true_and, Bool.and_true, Bool.false_and, Bool.and_false]; rfl) | (simp only [bareF, h4, hl, Bool.not_true, Bool.not_false, Bool.true_and, Bool.and_true, Bool.false_and, Bool.true_or]; rfl) | (simp only [bareF, h4, ht, hl, Bool.not_true, Bool.not_false, Bool.true_and, Bool.and_true, Bool.false_and, Bool.true_or]; rfl) | (simp only [bareF, h4, hl, h1, Bool.not_true, Bool.not_false, Bool.true_and, Bool.and_true, Bool.false_and, Bool.true_or, Bool.false_or]; rfl) | (simp only [bareF, h4, ht, hl, h1, Bool.not_true, Bool.not_false, Bool.true_and, Bool.and_true, Bool.false_and, Bool.true_or, Bool.false_or]; rfl)⟩, (List.nil_sublist _), (by simp)⟩
 ·
  have h4 : (c.kind == 4) = true := by simpa using hg6
  refine g_skip rfl rfl hg6 rfl ?_
  refine g_skip rfl rfl hg6 rfl ?_
  refine g_skip rfl rfl hg6 rfl ?_
  refine r_pickF rfl hg6 rfl rfl ?_
  refine awl_nil ?_
  refine x_then ?_
  refine awp_condF rfl ?_
  refine awp_skip ?_
  refine x_then ?_
  refine awp_seq ?_
  refine awp_region ?_
  first | (refine r_fieldb rfl TF.f50_3 TF.sz34 rfl ?_) | (refine r_fieldcp rfl TF.f50_3 TF.sz34 rfl ?_)
  first | (refine r_load1b 0 rfl rfl rfl TF.agg34 rfl ?_) | (refine r_load1 rfl TF.agg34 rfl ?_)
  first | (refine r_lenS rfl rfl TF.sl34 rfl ?_) | (refine r_lenNil rfl TF.sl34 rfl ?_) | (refine r_lenV rfl TF.sl34 rfl ?_)
  refine r_cmp rfl rfl rfl rfl ?_
  refine r_move rfl rfl ?_
  refine g_cases (t' := 15) rfl (fun hg15 => ?_) (fun hg15 => ?_)
  ·
   have hl : decide (c.data.length = 0) = true := by have := eq_of_beq hg15; rw [u8s_len] at this; simpa using this
   refine g_skip rfl rfl hg15 rfl ?_
   refine g_skip rfl rfl hg15 rfl ?_
   refine g_skip rfl rfl hg15 rfl ?_
   refine r_pickT rfl hg15 rfl rfl ?_
   refine r_move rfl rfl ?_
   refine g_skip rfl rfl rfl rfl ?_
   refine g_skip rfl rfl rfl rfl ?_
   refine g_skip rfl rfl rfl rfl ?_
   refine r_pickT rfl rfl rfl rfl ?_
   refine r_assign rfl rfl ?_
   refine awl_nil ?_
   refine x_then ?_
   refine awp_ret ?_
   exact ⟨(.inl rfl), _, [], (.one (by first | exact .mk rfl rfl | exact .nil rfl)), ⟨rfl, by first | (simp only [bareF, h4, ht, Bool.not_true, Bool.not_false, Bool.true_and, Bool.and_true, Bool.false_and, Bool.and_false]; rfl) | (simp only [bareF, h4, hl, Bool.not_true, Bool.not_false, Bool.true_and, Bool.and_true, Bool.false_and, Bool.true_or]; rfl) | (simp only [bareF, h4, ht, hl, Bool.not_true, Bool.not_false, Bool.true_and, Bool.and_true, Bool.false_and, Bool.true_or]; rfl) | (simp only [bareF, h4, hl, h1, Bool.not_true, Bool.not_false, Bool.true_and, Bool.and_true, Bool.false_and, Bool.true_or, Bool.false_or]; rfl) | (simp only [bareF, h4, ht, hl, h1, Bool.not_true, Bool.not_false, Bool.true_and, Bool.and_true, Bool.false_and, Bool.true_or, Bool.false_or]; rfl)⟩, (List.nil_sublist _), (by simp)⟩
  ·
   have hl : decide (c.data.length = 0) = false := by simp [u8s_len] at hg15; simpa using hg15
   refine g_run rfl rfl hg15 ?_
   first | (refine r_fieldb rfl TF.f50_0 TF.sz3 rfl ?_) | (refine r_fieldcp rfl TF.f50_0 TF.sz3 rfl ?_)
   refine g_run rfl rfl hg15 ?_
   first | (refine r_load1b 0 rfl rfl rfl TF.agg3 rfl ?_) | (refine r_load1 rfl TF.agg3 rfl ?_)
   refine g_run rfl rfl hg15 ?_
   refine r_cmp rfl rfl rfl rfl ?_
   refine r_pickF rfl hg15 rfl rfl ?_
   refine r_move rfl rfl ?_
   refine g_cases (t' := 20) rfl (fun hg20 => ?_) (fun hg20 => ?_)
   ·
    have h1 : (c.kind == 1) = true := hg20
    refine g_skip rfl rfl hg20 rfl ?_
    refine g_skip rfl rfl hg20 rfl ?_
    refine g_skip rfl rfl hg20 rfl ?_
    refine r_pickT rfl hg20 rfl rfl ?_
    refine r_assign rfl rfl ?_
    refine awl_nil ?_
    refine x_then ?_
    refine awp_ret ?_
    exact ⟨(.inl rfl), _, [], (.one (by first | exact .mk rfl rfl | exact .nil rfl)), ⟨rfl, by first | (simp only [bareF, h4, ht, Bool.not_true, Bool.not_false, Bool.true_and, Bool.and_true, Bool.false_and, Bool.and_false]; rfl) | (simp only [bareF, h4, hl, Bool.not_true, Bool.not_false, Bool.true_and, Bool.and_true, Bool.false_and, Bool.true_or]; rfl) | (simp only [bareF, h4, ht, hl, Bool.not_true, Bool.not_false, Bool.true_and, Bool.and_true, Bool.false_and, Bool.true_or]; rfl) | (simp only [bareF, h4, hl, h1, Bool.not_true, Bool.not_false, Bool.true_and, Bool.and_true, Bool.false_and, Bool.true_or, Bool.false_or]; rfl) | (simp only [bareF, h4, ht, hl, h1, Bool.not_true, Bool.not_false, Bool.true_and, Bool.and_true, Bool.false_and, Bool.true_or, Bool.false_or]; rfl)⟩, (List.nil_sublist _), (by simp)⟩
   ·
    have h1 : (c.kind == 1) = false := hg20
    refine g_run rfl rfl hg20 ?_
    first | (refine r_fieldb rfl TF.f50_0 TF.sz3 rfl ?_) | (refine r_fieldcp rfl TF.f50_0 TF.sz3 rfl ?_)
    refine g_run rfl rfl hg20 ?_
    first | (refine r_load1b 0 rfl rfl rfl TF.agg3 rfl ?_) | (refine r_load1 rfl TF.agg3 rfl ?_)
    refine g_run rfl rfl hg20 ?_
    refine r_cmp rfl rfl rfl rfl ?_
    refine r_pickF rfl hg20 rfl rfl ?_
    refine r_assign rfl rfl ?_
    refine awl_nil ?_
    refine x_then ?_
    refine awp_ret ?_
    exact ⟨(.inl rfl), _, [], (.one (by first | exact .mk rfl rfl | exact .nil rfl)), ⟨rfl, by first | (simp only [bareF, h4, ht, Bool.not_true, Bool.not_false, Bool.true_and, Bool.and_true, Bool.false_and, Bool.and_false]; rfl) | (simp only [bareF, h4, hl, Bool.not_true, Bool.not_false, Bool.true_and, Bool.and_true, Bool.false_and, Bool.true_or]; rfl) | (simp only [bareF, h4, ht, hl, Bool.not_true, Bool.not_false, Bool.true_and, Bool.and_true, Bool.false_and, Bool.true_or]; rfl) | (simp only [bareF, h4, hl, h1, Bool.not_true, Bool.not_false, Bool.true_and, Bool.and_true, Bool.false_and, Bool.true_or, Bool.false_or]; rfl) | (simp only [bareF, h4, ht, hl, h1, Bool.not_true, Bool.not_false, Bool.true_and, Bool.and_true, Bool.false_and, Bool.true_or, Bool.false_or]; rfl)⟩, (List.nil_sublist _), (by simp)⟩
set_option maxHeartbeats 1000000 in
theorem right_ok (d : List FC) (hd0 : d.length ≤ 10000) : AC Try.prog 19 [fcsA d] [] (fun r n => n = [] ∧ r = boolA (rightF d)) := by
 refine ac_of_awp (rs := [2]) (nt := 87) Try.func19 rfl rfl rfl rfl (fun w0 C0 hq => ?_)
 refine awp_seq ?_
 refine awp_region ?_
 refine r_assign rfl rfl ?_
 refine awl_nil ?_
 refine x_then ?_
 refine awp_seq ?_
 refine awp_region ?_
 refine r_makeMap (ek := Value.string) (ev := boolA) [] rfl rfl (fun b9 => ?_)
 refine r_assign rfl rfl ?_
 refine awl_nil ?_
 refine x_then ?_
 refine awp_seq ?_
 refine awp_seq ?_
 refine awp_region ?_
 refine r_move rfl rfl ?_
 first | (refine r_lenS rfl rfl TF.sl28 rfl ?_) | (refine r_lenNil rfl TF.sl28 rfl ?_) | (refine r_lenV rfl TF.sl28 rfl ?_)
 refine r_move rfl rfl ?_
 refine awl_nil ?_
 refine x_then ?_
 refine awp_block ?_
 refine awp_loop (fun nn0 S => ∃ k : Nat, ∃ m : List (ByteArray × Bool), S = ⟨87, [(0, .a (fcsA d)), (3, .a (.v (.map (some b9)))), (10, .a (fcsA d)), (11, .a (.v (.int .i64 ((d.map FC.cs).length)))), (12, .a (.v (.int .i64 ((k : Int)))))], [⟨b9, true, .map (encM Value.string boolA m)⟩]⟩ ∧ nn0 = d.length - k ∧ (k ≤ d.length) ∧ (∀ i, i < k → okC d i = true) ∧ (((d.take k).flatMap namesC).Nodup) ∧ (HasS m ((d.take k).flatMap namesC))) (d.length - (0)) ⟨87, [(0, .a (fcsA d)), (3, .a (.v (.map (some b9)))), (10, .a (fcsA d)), (11, .a (.v (.int .i64 ((d.map FC.cs).length)))), (12, .a (.v (.int .i64 (((0) : Int)))))], [⟨b9, true, .map (encM Value.string boolA ([]))⟩]⟩ ⟨rfl, (Slots.cons rfl (by first | exact .refl _ | exact .nilOwn _ _ | exact .nilSl _ | exact .ownSl _ _ _  | exact SV.le.of_eq (by simp)) (Slots.cons rfl (by first | exact .refl _ | exact .nilOwn _ _ | exact .nilSl _ | exact .ownSl _ _ _  | exact SV.le.of_eq (by simp)) (Slots.cons rfl (by first | exact .refl _ | exact .nilOwn _ _ | exact .nilSl _ | exact .ownSl _ _ _  | exact SV.le.of_eq (by simp)) (Slots.cons rfl (by first | exact .refl _ | exact .nilOwn _ _ | exact .nilSl _ | exact .ownSl _ _ _  | exact SV.le.of_eq (by simp)) (Slots.cons rfl (by first | exact .refl _ | exact .nilOwn _ _ | exact .nilSl _ | exact .ownSl _ _ _  | exact SV.le.of_eq (by simp)) Slots.nil))))), (by first | exact List.Sublist.refl _ | exact .cons_cons _ (.cons _ (.refl _)) | exact List.nil_sublist _ | exact .cons _ (.refl _) | exact .cons _ (.cons _ (.refl _)) | exact .cons _ (.cons _ (.cons _ (.refl _))) | exact .cons _ (.cons _ (.cons _ (.cons _ (.refl _)))) | exact .cons_cons _ (List.nil_sublist _))⟩ ⟨0, [], rfl, rfl, Nat.zero_le _, (fun i hi => by omega), (by simp), hasS_nil⟩ ?_
 rintro nn0 _ ⟨k, m, rfl, rfl, hk, hall, hnd, hm⟩
 refine awp_seq ?_
 refine awp_region ?_
 refine r_cmp rfl rfl rfl rfl ?_
 refine awl_nil ?_
 refine x_then ?_
 refine awp_seq ?_
 refine awp_cond rfl (fun hc0 => ?_) (fun hc0 => ?_)
 ·
  have hltx : k < d.length := by have := of_decide_eq_true hc0; simpa using this
  obtain ⟨x, hx⟩ := get_lt hltx
  refine awp_skip ?_
  refine x_then ?_
  refine awp_seq ?_
  refine awp_block ?_
  refine awp_seq ?_
  refine awp_region ?_
  refine r_move rfl rfl ?_
  refine r_index rfl rfl rfl TF.sl28 TF.sz50 (by omega) (get_map hx) rfl ?_
  first | (refine r_loadA rfl TF.agg50 TF.sz50 rfl rfl ?_) | (refine r_loadAb 0 rfl rfl TF.agg50 TF.sz50 rfl rfl ?_)
  refine r_alloc TF.zero50 rfl (fun b5 => ?_)
  refine r_assign rfl rfl ?_
  first | (refine r_store 0 rfl rfl rfl TF.sz50 rfl rfl rfl ?_) | (refine r_store 1 rfl rfl rfl TF.sz50 rfl rfl rfl ?_)
  refine awl_nil ?_
  refine x_then ?_
  refine awp_seq ?_
  refine awp_seq ?_
  refine awp_region ?_
  first | (refine r_fieldb rfl TF.f50_0 TF.sz3 rfl ?_) | (refine r_fieldcp rfl TF.f50_0 TF.sz3 rfl ?_)
  first | (refine r_load1b 0 rfl rfl rfl TF.agg3 rfl ?_) | (refine r_load1 rfl TF.agg3 rfl ?_) | (refine r_load1b 1 rfl rfl rfl TF.agg3 rfl ?_)
  refine r_call0 hq rfl rfl (.cons (.ev rfl rfl) .nil) (rank_ok x.kind) rfl TF.en35 rfl (fun r hr => ?_)
  obtain rfl := hr
  refine r_cmp rfl rfl rfl rfl ?_
  refine r_move rfl rfl ?_
  refine g_cases (t' := 21) rfl (fun hg21 => ?_) (fun hg21 => ?_)
  ·
   have hbad : okC d k = false := by simp only [okC, hx, hg21]; rfl
   refine g_skip rfl rfl hg21 rfl ?_
   refine g_skip rfl rfl hg21 rfl ?_
   refine g_skip rfl rfl hg21 rfl ?_
   refine r_pickT rfl hg21 rfl rfl ?_
   refine awl_nil ?_
   refine x_then ?_
   refine awp_condT rfl ?_
   refine awp_seq ?_
   refine awp_region ?_
   refine r_assign rfl rfl ?_
   refine awl_nil ?_
   refine x_then ?_
   refine awp_ret ?_
   refine x_thenR ?_
   refine x_blockR ?_
   refine x_thenR ?_
   refine x_thenR ?_
   refine x_blockR ?_
   refine x_thenR ?_
   exact ⟨(.inl rfl), _, [], (.one (by first | exact .mk rfl rfl | exact .nil rfl)), ⟨rfl, by first | (rw [right_bad hltx hbad]; rfl) | (rw [right_dup hx hs ((hm2 s).1 hc5)]; rfl) | (rw [right_good (fun i hi => hall i (by omega)) hnd]; rfl)⟩, (List.nil_sublist _), (by simp)⟩
  ·
   refine g_run rfl rfl hg21 ?_
   first | (refine r_loadAb 0 rfl rfl TF.agg50 TF.sz50 rfl rfl ?_) | (refine r_loadA rfl TF.agg50 TF.sz50 rfl rfl ?_) | (refine r_loadAb 1 rfl rfl TF.agg50 TF.sz50 rfl rfl ?_)
   refine g_run rfl rfl hg21 ?_
   refine r_call0 hq rfl rfl (.cons (.ev rfl rfl) .nil) (bare_ok x) rfl TF.en36 rfl (fun r hr => ?_)
   obtain rfl := hr
   refine g_run rfl rfl hg21 ?_
   refine r_not rfl rfl ?_
   refine r_pickF rfl hg21 rfl rfl ?_
   refine awl_nil ?_
   refine x_then ?_
   refine awp_cond rfl (fun hc1 => ?_) (fun hc1 => ?_)
   ·
    have hbad : okC d k = false := by simp only [okC, hx, hg21, show bareF x = false by simpa using hc1]; rfl
    refine awp_seq ?_
    refine awp_region ?_
    refine r_assign rfl rfl ?_
    refine awl_nil ?_
    refine x_then ?_
    refine awp_ret ?_
    refine x_thenR ?_
    refine x_blockR ?_
    refine x_thenR ?_
    refine x_thenR ?_
    refine x_blockR ?_
    refine x_thenR ?_
    exact ⟨(.inl rfl), _, [], (.one (by first | exact .mk rfl rfl | exact .nil rfl)), ⟨rfl, by first | (rw [right_bad hltx hbad]; rfl) | (rw [right_dup hx hs ((hm2 s).1 hc5)]; rfl) | (rw [right_good (fun i hi => hall i (by omega)) hnd]; rfl)⟩, (List.nil_sublist _), (by simp)⟩
   ·
    have hbr : bareF x = true := by simpa using hc1
    refine awp_skip ?_
    refine x_then ?_
    refine awp_seq ?_
    refine awp_seq ?_
    rcases Bool.eq_false_or_eq_true (decide ((k : Int) > 0)) with hg28 | hg28
    ·
     have hk0 : 0 < k := by have := of_decide_eq_true hg28; omega
     obtain ⟨y, hy⟩ := get_lt (show k - 1 < d.length by omega)
     rcases Bool.eq_false_or_eq_true (decide (rankF y.kind > rankF x.kind)) with hg40 | hg40
     ·
      have hbad : okC d k = false := by simp only [okC, hx, hg21, hy, hbr, decide_eq_true hk0, pairF, hg40]; rfl
      refine awp_drawS [26, 27, 28, 29, 30, 31, 32, 33, 34, 35, 36, 37, 38, 39, 40, 41, 42, 43, 44, 45, 46, 47, 48, 49, 50, 51, 52, 53, 54, 55, 56, 57, 58] [_, _, _, _, _, _, _, _, _, _, _, _, _, _, _, _, _, _, _, _, _, _, _, _, _, _, _, _, _, _, _, _, _] [] [] TF.mixed rfl rfl rfl ⟨⟨⟨⟨⟨⟨⟨⟨⟨⟨⟨⟨⟨⟨⟨⟨⟨⟨⟨⟨⟨⟨⟨⟨⟨⟨⟨⟨⟨⟨⟨⟨⟨trivial
       , ⟨_, rfl, fun sl hd hr ho => by
         refine r_move (hr 4 _ rfl rfl rfl) rfl ?_
         exact awl_nil ⟨rfl, post_put⟩⟩⟩
       , ⟨_, rfl, fun sl hd hr ho => by
         refine r_cmp (hd 0 _ rfl rfl rfl) rfl rfl rfl ?_
         exact awl_nil ⟨rfl, post_put⟩⟩⟩
       , ⟨_, rfl, fun sl hd hr ho => by
         refine r_move (hd 1 _ rfl rfl rfl) rfl ?_
         exact awl_nil ⟨rfl, post_put⟩⟩⟩
       , ⟨_, rfl, fun sl hd hr ho => by
         refine g_run rfl (hd 2 _ rfl rfl rfl) hg28 ?_
         refine r_move (hr 0 _ rfl rfl rfl) rfl ?_
         exact awl_nil ⟨rfl, post_put⟩⟩⟩
       , ⟨_, rfl, fun sl hd hr ho => by
         refine g_run rfl (hd 2 _ rfl rfl rfl) hg28 ?_
         refine r_move (hr 4 _ rfl rfl rfl) rfl ?_
         exact awl_nil ⟨rfl, post_put⟩⟩⟩
       , ⟨_, rfl, fun sl hd hr ho => by
         refine g_run rfl (hd 2 _ rfl rfl rfl) hg28 ?_
         refine r_ari _ (hd 4 _ rfl rfl rfl) rfl rfl (wrap_id (by first | omega | (simp; omega))) rfl ?_
         exact awl_nil ⟨rfl, post_put⟩⟩⟩
       , ⟨_, rfl, fun sl hd hr ho => by
         refine g_run rfl (hd 2 _ rfl rfl rfl) hg28 ?_
         refine r_index (hd 3 _ rfl rfl rfl) rfl (hd 5 _ rfl rfl rfl) TF.sl28 TF.sz50 (by omega) (by rw [show ((k : Int) - 1).toNat = k - 1 by omega]; exact get_map hy) rfl ?_
         exact awl_nil ⟨rfl, post_put⟩⟩⟩
       , ⟨_, rfl, fun sl hd hr ho => by
         refine g_run rfl (hd 2 _ rfl rfl rfl) hg28 ?_
         first | (refine r_fieldb (hd 6 _ rfl rfl rfl) TF.f50_0 TF.sz3 rfl ?_) | (refine r_fieldcp (hd 6 _ rfl rfl rfl) TF.f50_0 TF.sz3 rfl ?_)
         exact awl_nil ⟨rfl, post_put⟩⟩⟩
       , ⟨_, rfl, fun sl hd hr ho => by
         refine g_run rfl (hd 2 _ rfl rfl rfl) hg28 ?_
         first | (refine r_load1b 0 (hd 7 _ rfl rfl rfl) rfl rfl TF.agg3 rfl ?_) | (refine r_load1 (hd 7 _ rfl rfl rfl) TF.agg3 rfl ?_) | (refine r_load1b 1 (hd 7 _ rfl rfl rfl) rfl rfl TF.agg3 rfl ?_)
         exact awl_nil ⟨rfl, post_put⟩⟩⟩
       , ⟨_, rfl, fun sl hd hr ho => by
         refine g_run rfl (hd 2 _ rfl rfl rfl) hg28 ?_
         refine r_call0 hq rfl rfl (.cons (.ev (hd 8 _ rfl rfl rfl) rfl) .nil) (rank_ok y.kind) rfl TF.en35 rfl (fun r hr => ?_)
         obtain rfl := hr
         exact awl_nil ⟨rfl, post_put⟩⟩⟩
       , ⟨_, rfl, fun sl hd hr ho => by
         refine g_run rfl (hd 2 _ rfl rfl rfl) hg28 ?_
         first | (refine r_fieldb (hr 5 _ rfl rfl rfl) TF.f50_0 TF.sz3 rfl ?_) | (refine r_fieldcp (hr 5 _ rfl rfl rfl) TF.f50_0 TF.sz3 rfl ?_)
         exact awl_nil ⟨rfl, post_put⟩⟩⟩
       , ⟨_, rfl, fun sl hd hr ho => by
         refine g_run rfl (hd 2 _ rfl rfl rfl) hg28 ?_
         first | (refine r_load1b 0 (hd 10 _ rfl rfl rfl) rfl rfl TF.agg3 rfl ?_) | (refine r_load1 (hd 10 _ rfl rfl rfl) TF.agg3 rfl ?_) | (refine r_load1b 1 (hd 10 _ rfl rfl rfl) rfl rfl TF.agg3 rfl ?_)
         exact awl_nil ⟨rfl, post_put⟩⟩⟩
       , ⟨_, rfl, fun sl hd hr ho => by
         refine g_run rfl (hd 2 _ rfl rfl rfl) hg28 ?_
         refine r_call0 hq rfl rfl (.cons (.ev (hd 11 _ rfl rfl rfl) rfl) .nil) (rank_ok x.kind) rfl TF.en35 rfl (fun r hr => ?_)
         obtain rfl := hr
         exact awl_nil ⟨rfl, post_put⟩⟩⟩
       , ⟨_, rfl, fun sl hd hr ho => by
         refine g_run rfl (hd 2 _ rfl rfl rfl) hg28 ?_
         refine r_cmp (hd 9 _ rfl rfl rfl) (hd 12 _ rfl rfl rfl) rfl rfl ?_
         exact awl_nil ⟨rfl, post_put⟩⟩⟩
       , ⟨_, rfl, fun sl hd hr ho => by
         refine g_run rfl (hd 2 _ rfl rfl rfl) hg28 ?_
         refine r_move (hd 13 _ rfl rfl rfl) rfl ?_
         exact awl_nil ⟨rfl, post_put⟩⟩⟩
       , ⟨_, rfl, fun sl hd hr ho => by
         refine g_skip rfl (hd 14 _ rfl rfl rfl) hg40 rfl ?_
         exact awl_nil ⟨rfl, post_put⟩⟩⟩
       , ⟨_, rfl, fun sl hd hr ho => by
         refine g_skip rfl (hd 14 _ rfl rfl rfl) hg40 rfl ?_
         exact awl_nil ⟨rfl, post_put⟩⟩⟩
       , ⟨_, rfl, fun sl hd hr ho => by
         refine g_skip rfl (hd 14 _ rfl rfl rfl) hg40 rfl ?_
         exact awl_nil ⟨rfl, post_put⟩⟩⟩
       , ⟨_, rfl, fun sl hd hr ho => by
         refine g_skip rfl (hd 14 _ rfl rfl rfl) hg40 rfl ?_
         exact awl_nil ⟨rfl, post_put⟩⟩⟩
       , ⟨_, rfl, fun sl hd hr ho => by
         refine g_skip rfl (hd 14 _ rfl rfl rfl) hg40 rfl ?_
         exact awl_nil ⟨rfl, post_put⟩⟩⟩
       , ⟨_, rfl, fun sl hd hr ho => by
         refine g_skip rfl (hd 14 _ rfl rfl rfl) hg40 rfl ?_
         exact awl_nil ⟨rfl, post_put⟩⟩⟩
       , ⟨_, rfl, fun sl hd hr ho => by
         refine g_skip rfl (hd 14 _ rfl rfl rfl) hg40 rfl ?_
         exact awl_nil ⟨rfl, post_put⟩⟩⟩
       , ⟨_, rfl, fun sl hd hr ho => by
         refine g_skip rfl (hd 14 _ rfl rfl rfl) hg40 rfl ?_
         exact awl_nil ⟨rfl, post_put⟩⟩⟩
       , ⟨_, rfl, fun sl hd hr ho => by
         refine g_skip rfl (hd 14 _ rfl rfl rfl) hg40 rfl ?_
         exact awl_nil ⟨rfl, post_put⟩⟩⟩
       , ⟨_, rfl, fun sl hd hr ho => by
         refine g_skip rfl (hd 14 _ rfl rfl rfl) hg40 rfl ?_
         exact awl_nil ⟨rfl, post_put⟩⟩⟩
       , ⟨_, rfl, fun sl hd hr ho => by
         refine g_skipU rfl (hd 24 _ rfl rfl rfl) rfl ?_
         exact awl_nil ⟨rfl, post_put⟩⟩⟩
       , ⟨_, rfl, fun sl hd hr ho => by
         refine g_skipU rfl (hd 24 _ rfl rfl rfl) rfl ?_
         exact awl_nil ⟨rfl, post_put⟩⟩⟩
       , ⟨_, rfl, fun sl hd hr ho => by
         refine g_skipU rfl (hd 24 _ rfl rfl rfl) rfl ?_
         exact awl_nil ⟨rfl, post_put⟩⟩⟩
       , ⟨_, rfl, fun sl hd hr ho => by
         refine g_skipU rfl (hd 24 _ rfl rfl rfl) rfl ?_
         exact awl_nil ⟨rfl, post_put⟩⟩⟩
       , ⟨_, rfl, fun sl hd hr ho => by
         refine g_skipU rfl (hd 24 _ rfl rfl rfl) rfl ?_
         exact awl_nil ⟨rfl, post_put⟩⟩⟩
       , ⟨_, rfl, fun sl hd hr ho => by
         refine g_skipU rfl (hd 24 _ rfl rfl rfl) rfl ?_
         exact awl_nil ⟨rfl, post_put⟩⟩⟩
       , ⟨_, rfl, fun sl hd hr ho => by
         refine g_skipU rfl (hd 24 _ rfl rfl rfl) rfl ?_
         exact awl_nil ⟨rfl, post_put⟩⟩⟩
       , ⟨_, rfl, fun sl hd hr ho => by
         refine g_skipU rfl (hd 24 _ rfl rfl rfl) rfl ?_
         exact awl_nil ⟨rfl, post_put⟩⟩⟩
       (by rfl) ?_
      refine g_skipU rfl rfl rfl ?_
      refine g_skip rfl rfl hg40 rfl ?_
      refine g_run rfl rfl hg28 ?_
      refine r_pickT rfl hg40 rfl rfl ?_
      refine r_pickT rfl hg28 rfl rfl ?_
      refine awl_nil ?_
      refine x_then ?_
      refine awp_condT rfl ?_
      refine awp_seq ?_
      refine awp_region ?_
      refine r_assign rfl rfl ?_
      refine awl_nil ?_
      refine x_then ?_
      refine awp_ret ?_
      refine x_thenR ?_
      refine x_blockR ?_
      refine x_thenR ?_
      refine x_thenR ?_
      refine x_blockR ?_
      refine x_thenR ?_
      exact ⟨(.inl rfl), _, [], (.one (by first | exact .mk rfl rfl | exact .nil rfl)), ⟨rfl, by first | (rw [right_bad hltx hbad]; rfl) | (rw [right_dup hx hs ((hm2 s).1 hc5)]; rfl) | (rw [right_good (fun i hi => hall i (by omega)) hnd]; rfl)⟩, (List.nil_sublist _), (by simp)⟩
     ·
      rcases Bool.eq_false_or_eq_true (y.kind == x.kind) with hg50 | hg50
      ·
       refine awp_drawS [26, 27, 28, 29, 30, 31, 32, 33, 34, 35, 36, 37, 38, 39, 40, 41, 42, 43, 44, 45, 46, 47, 48, 49, 50, 51, 52, 53, 54, 55, 56, 57, 58] [_, _, _, _, _, _, _, _, _, _, _, _, _, _, _, _, _, _, _, _, _, _, _, _, _, _, _, _, _, _, _, _, _] [] [] TF.mixed rfl rfl rfl ⟨⟨⟨⟨⟨⟨⟨⟨⟨⟨⟨⟨⟨⟨⟨⟨⟨⟨⟨⟨⟨⟨⟨⟨⟨⟨⟨⟨⟨⟨⟨⟨⟨trivial
        , ⟨_, rfl, fun sl hd hr ho => by
          refine r_move (hr 4 _ rfl rfl rfl) rfl ?_
          exact awl_nil ⟨rfl, post_put⟩⟩⟩
        , ⟨_, rfl, fun sl hd hr ho => by
          refine r_cmp (hd 0 _ rfl rfl rfl) rfl rfl rfl ?_
          exact awl_nil ⟨rfl, post_put⟩⟩⟩
        , ⟨_, rfl, fun sl hd hr ho => by
          refine r_move (hd 1 _ rfl rfl rfl) rfl ?_
          exact awl_nil ⟨rfl, post_put⟩⟩⟩
        , ⟨_, rfl, fun sl hd hr ho => by
          refine g_run rfl (hd 2 _ rfl rfl rfl) hg28 ?_
          refine r_move (hr 0 _ rfl rfl rfl) rfl ?_
          exact awl_nil ⟨rfl, post_put⟩⟩⟩
        , ⟨_, rfl, fun sl hd hr ho => by
          refine g_run rfl (hd 2 _ rfl rfl rfl) hg28 ?_
          refine r_move (hr 4 _ rfl rfl rfl) rfl ?_
          exact awl_nil ⟨rfl, post_put⟩⟩⟩
        , ⟨_, rfl, fun sl hd hr ho => by
          refine g_run rfl (hd 2 _ rfl rfl rfl) hg28 ?_
          refine r_ari _ (hd 4 _ rfl rfl rfl) rfl rfl (wrap_id (by first | omega | (simp; omega))) rfl ?_
          exact awl_nil ⟨rfl, post_put⟩⟩⟩
        , ⟨_, rfl, fun sl hd hr ho => by
          refine g_run rfl (hd 2 _ rfl rfl rfl) hg28 ?_
          refine r_index (hd 3 _ rfl rfl rfl) rfl (hd 5 _ rfl rfl rfl) TF.sl28 TF.sz50 (by omega) (by rw [show ((k : Int) - 1).toNat = k - 1 by omega]; exact get_map hy) rfl ?_
          exact awl_nil ⟨rfl, post_put⟩⟩⟩
        , ⟨_, rfl, fun sl hd hr ho => by
          refine g_run rfl (hd 2 _ rfl rfl rfl) hg28 ?_
          first | (refine r_fieldb (hd 6 _ rfl rfl rfl) TF.f50_0 TF.sz3 rfl ?_) | (refine r_fieldcp (hd 6 _ rfl rfl rfl) TF.f50_0 TF.sz3 rfl ?_)
          exact awl_nil ⟨rfl, post_put⟩⟩⟩
        , ⟨_, rfl, fun sl hd hr ho => by
          refine g_run rfl (hd 2 _ rfl rfl rfl) hg28 ?_
          first | (refine r_load1b 0 (hd 7 _ rfl rfl rfl) rfl rfl TF.agg3 rfl ?_) | (refine r_load1 (hd 7 _ rfl rfl rfl) TF.agg3 rfl ?_) | (refine r_load1b 1 (hd 7 _ rfl rfl rfl) rfl rfl TF.agg3 rfl ?_)
          exact awl_nil ⟨rfl, post_put⟩⟩⟩
        , ⟨_, rfl, fun sl hd hr ho => by
          refine g_run rfl (hd 2 _ rfl rfl rfl) hg28 ?_
          refine r_call0 hq rfl rfl (.cons (.ev (hd 8 _ rfl rfl rfl) rfl) .nil) (rank_ok y.kind) rfl TF.en35 rfl (fun r hr => ?_)
          obtain rfl := hr
          exact awl_nil ⟨rfl, post_put⟩⟩⟩
        , ⟨_, rfl, fun sl hd hr ho => by
          refine g_run rfl (hd 2 _ rfl rfl rfl) hg28 ?_
          first | (refine r_fieldb (hr 5 _ rfl rfl rfl) TF.f50_0 TF.sz3 rfl ?_) | (refine r_fieldcp (hr 5 _ rfl rfl rfl) TF.f50_0 TF.sz3 rfl ?_)
          exact awl_nil ⟨rfl, post_put⟩⟩⟩
        , ⟨_, rfl, fun sl hd hr ho => by
          refine g_run rfl (hd 2 _ rfl rfl rfl) hg28 ?_
          first | (refine r_load1b 0 (hd 10 _ rfl rfl rfl) rfl rfl TF.agg3 rfl ?_) | (refine r_load1 (hd 10 _ rfl rfl rfl) TF.agg3 rfl ?_) | (refine r_load1b 1 (hd 10 _ rfl rfl rfl) rfl rfl TF.agg3 rfl ?_)
          exact awl_nil ⟨rfl, post_put⟩⟩⟩
        , ⟨_, rfl, fun sl hd hr ho => by
          refine g_run rfl (hd 2 _ rfl rfl rfl) hg28 ?_
          refine r_call0 hq rfl rfl (.cons (.ev (hd 11 _ rfl rfl rfl) rfl) .nil) (rank_ok x.kind) rfl TF.en35 rfl (fun r hr => ?_)
          obtain rfl := hr
          exact awl_nil ⟨rfl, post_put⟩⟩⟩
        , ⟨_, rfl, fun sl hd hr ho => by
          refine g_run rfl (hd 2 _ rfl rfl rfl) hg28 ?_
          refine r_cmp (hd 9 _ rfl rfl rfl) (hd 12 _ rfl rfl rfl) rfl rfl ?_
          exact awl_nil ⟨rfl, post_put⟩⟩⟩
        , ⟨_, rfl, fun sl hd hr ho => by
          refine g_run rfl (hd 2 _ rfl rfl rfl) hg28 ?_
          refine r_move (hd 13 _ rfl rfl rfl) rfl ?_
          exact awl_nil ⟨rfl, post_put⟩⟩⟩
        , ⟨_, rfl, fun sl hd hr ho => by
          refine g_run rfl (hd 14 _ rfl rfl rfl) hg40 ?_
          refine r_move (hr 0 _ rfl rfl rfl) rfl ?_
          exact awl_nil ⟨rfl, post_put⟩⟩⟩
        , ⟨_, rfl, fun sl hd hr ho => by
          refine g_run rfl (hd 14 _ rfl rfl rfl) hg40 ?_
          refine r_move (hr 4 _ rfl rfl rfl) rfl ?_
          exact awl_nil ⟨rfl, post_put⟩⟩⟩
        , ⟨_, rfl, fun sl hd hr ho => by
          refine g_run rfl (hd 14 _ rfl rfl rfl) hg40 ?_
          refine r_ari _ (hd 16 _ rfl rfl rfl) rfl rfl (wrap_id (by first | omega | (simp; omega))) rfl ?_
          exact awl_nil ⟨rfl, post_put⟩⟩⟩
        , ⟨_, rfl, fun sl hd hr ho => by
          refine g_run rfl (hd 14 _ rfl rfl rfl) hg40 ?_
          refine r_index (hd 15 _ rfl rfl rfl) rfl (hd 17 _ rfl rfl rfl) TF.sl28 TF.sz50 (by omega) (by rw [show ((k : Int) - 1).toNat = k - 1 by omega]; exact get_map hy) rfl ?_
          exact awl_nil ⟨rfl, post_put⟩⟩⟩
        , ⟨_, rfl, fun sl hd hr ho => by
          refine g_run rfl (hd 14 _ rfl rfl rfl) hg40 ?_
          first | (refine r_fieldb (hd 18 _ rfl rfl rfl) TF.f50_0 TF.sz3 rfl ?_) | (refine r_fieldcp (hd 18 _ rfl rfl rfl) TF.f50_0 TF.sz3 rfl ?_)
          exact awl_nil ⟨rfl, post_put⟩⟩⟩
        , ⟨_, rfl, fun sl hd hr ho => by
          refine g_run rfl (hd 14 _ rfl rfl rfl) hg40 ?_
          first | (refine r_load1b 0 (hd 19 _ rfl rfl rfl) rfl rfl TF.agg3 rfl ?_) | (refine r_load1 (hd 19 _ rfl rfl rfl) TF.agg3 rfl ?_) | (refine r_load1b 1 (hd 19 _ rfl rfl rfl) rfl rfl TF.agg3 rfl ?_)
          exact awl_nil ⟨rfl, post_put⟩⟩⟩
        , ⟨_, rfl, fun sl hd hr ho => by
          refine g_run rfl (hd 14 _ rfl rfl rfl) hg40 ?_
          first | (refine r_fieldb (hr 5 _ rfl rfl rfl) TF.f50_0 TF.sz3 rfl ?_) | (refine r_fieldcp (hr 5 _ rfl rfl rfl) TF.f50_0 TF.sz3 rfl ?_)
          exact awl_nil ⟨rfl, post_put⟩⟩⟩
        , ⟨_, rfl, fun sl hd hr ho => by
          refine g_run rfl (hd 14 _ rfl rfl rfl) hg40 ?_
          first | (refine r_load1b 0 (hd 21 _ rfl rfl rfl) rfl rfl TF.agg3 rfl ?_) | (refine r_load1 (hd 21 _ rfl rfl rfl) TF.agg3 rfl ?_) | (refine r_load1b 1 (hd 21 _ rfl rfl rfl) rfl rfl TF.agg3 rfl ?_)
          exact awl_nil ⟨rfl, post_put⟩⟩⟩
        , ⟨_, rfl, fun sl hd hr ho => by
          refine g_run rfl (hd 14 _ rfl rfl rfl) hg40 ?_
          refine r_cmp (hd 20 _ rfl rfl rfl) (hd 22 _ rfl rfl rfl) rfl rfl ?_
          exact awl_nil ⟨rfl, post_put⟩⟩⟩
        , ⟨_, rfl, fun sl hd hr ho => by
          refine g_run rfl (hd 14 _ rfl rfl rfl) hg40 ?_
          refine r_move (hd 23 _ rfl rfl rfl) rfl ?_
          exact awl_nil ⟨rfl, post_put⟩⟩⟩
        , ⟨_, rfl, fun sl hd hr ho => by
          refine g_run rfl (hd 24 _ rfl rfl rfl) hg50 ?_
          refine r_move (hr 0 _ rfl rfl rfl) rfl ?_
          exact awl_nil ⟨rfl, post_put⟩⟩⟩
        , ⟨_, rfl, fun sl hd hr ho => by
          refine g_run rfl (hd 24 _ rfl rfl rfl) hg50 ?_
          refine r_move (hr 4 _ rfl rfl rfl) rfl ?_
          exact awl_nil ⟨rfl, post_put⟩⟩⟩
        , ⟨_, rfl, fun sl hd hr ho => by
          refine g_run rfl (hd 24 _ rfl rfl rfl) hg50 ?_
          refine r_ari _ (hd 26 _ rfl rfl rfl) rfl rfl (wrap_id (by first | omega | (simp; omega))) rfl ?_
          exact awl_nil ⟨rfl, post_put⟩⟩⟩
        , ⟨_, rfl, fun sl hd hr ho => by
          refine g_run rfl (hd 24 _ rfl rfl rfl) hg50 ?_
          refine r_index (hd 25 _ rfl rfl rfl) rfl (hd 27 _ rfl rfl rfl) TF.sl28 TF.sz50 (by omega) (by rw [show ((k : Int) - 1).toNat = k - 1 by omega]; exact get_map hy) rfl ?_
          exact awl_nil ⟨rfl, post_put⟩⟩⟩
        , ⟨_, rfl, fun sl hd hr ho => by
          refine g_run rfl (hd 24 _ rfl rfl rfl) hg50 ?_
          first | (refine r_fieldb (hd 28 _ rfl rfl rfl) TF.f50_1 TF.sz9 rfl ?_) | (refine r_fieldcp (hd 28 _ rfl rfl rfl) TF.f50_1 TF.sz9 rfl ?_)
          exact awl_nil ⟨rfl, post_put⟩⟩⟩
        , ⟨_, rfl, fun sl hd hr ho => by
          refine g_run rfl (hd 24 _ rfl rfl rfl) hg50 ?_
          first | (refine r_load1b 0 (hd 29 _ rfl rfl rfl) rfl rfl TF.agg9 rfl ?_) | (refine r_load1 (hd 29 _ rfl rfl rfl) TF.agg9 rfl ?_) | (refine r_load1b 1 (hd 29 _ rfl rfl rfl) rfl rfl TF.agg9 rfl ?_)
          exact awl_nil ⟨rfl, post_put⟩⟩⟩
        , ⟨_, rfl, fun sl hd hr ho => by
          refine g_run rfl (hd 24 _ rfl rfl rfl) hg50 ?_
          first | (refine r_fieldb (hr 5 _ rfl rfl rfl) TF.f50_1 TF.sz9 rfl ?_) | (refine r_fieldcp (hr 5 _ rfl rfl rfl) TF.f50_1 TF.sz9 rfl ?_)
          exact awl_nil ⟨rfl, post_put⟩⟩⟩
        , ⟨_, rfl, fun sl hd hr ho => by
          refine g_run rfl (hd 24 _ rfl rfl rfl) hg50 ?_
          first | (refine r_load1b 0 (hd 31 _ rfl rfl rfl) rfl rfl TF.agg9 rfl ?_) | (refine r_load1 (hd 31 _ rfl rfl rfl) TF.agg9 rfl ?_) | (refine r_load1b 1 (hd 31 _ rfl rfl rfl) rfl rfl TF.agg9 rfl ?_)
          exact awl_nil ⟨rfl, post_put⟩⟩⟩
        (by rfl) ?_
       refine g_run rfl rfl hg50 ?_
       refine r_str2 rfl rfl rfl rfl ?_
       refine g_run rfl rfl hg40 ?_
       refine r_pickT rfl hg50 rfl rfl ?_
       refine g_run rfl rfl hg28 ?_
       refine r_pickF rfl hg40 rfl rfl ?_
       refine r_pickT rfl hg28 rfl rfl ?_
       refine awl_nil ?_
       refine x_then ?_
       refine awp_cond rfl (fun hc2 => ?_) (fun hc2 => ?_)
       ·
        have hbad : okC d k = false := by simp only [okC, hx, hg21, hy, hbr, decide_eq_true hk0, pairF, hg40, hg50, hc2]; rfl
        refine awp_seq ?_
        refine awp_region ?_
        refine r_assign rfl rfl ?_
        refine awl_nil ?_
        refine x_then ?_
        refine awp_ret ?_
        refine x_thenR ?_
        refine x_blockR ?_
        refine x_thenR ?_
        refine x_thenR ?_
        refine x_blockR ?_
        refine x_thenR ?_
        exact ⟨(.inl rfl), _, [], (.one (by first | exact .mk rfl rfl | exact .nil rfl)), ⟨rfl, by first | (rw [right_bad hltx hbad]; rfl) | (rw [right_dup hx hs ((hm2 s).1 hc5)]; rfl) | (rw [right_good (fun i hi => hall i (by omega)) hnd]; rfl)⟩, (List.nil_sublist _), (by simp)⟩
       ·
        have hgood : okC d k = true := by simp only [okC, hx, hg21, hy, hbr, decide_eq_true hk0, pairF, hg40, hg50, hc2]; rfl
        refine awp_skip ?_
        refine x_then ?_
        refine awp_seq ?_
        refine awp_region ?_
        first | (refine r_fieldb rfl TF.f50_1 TF.sz9 rfl ?_) | (refine r_fieldcp rfl TF.f50_1 TF.sz9 rfl ?_)
        first | (refine r_load1b 0 rfl rfl rfl TF.agg9 rfl ?_) | (refine r_load1 rfl TF.agg9 rfl ?_) | (refine r_load1b 1 rfl rfl rfl TF.agg9 rfl ?_)
        refine r_lit 65 (parts := [(0, .tmp 64)]) rfl TF.sl57 TF.sz9 TF.zraw9 rfl rfl rfl rfl rfl rfl rfl ?_
        refine r_assign rfl rfl ?_
        refine awl_nil ?_
        refine x_then ?_
        refine awp_seq ?_
        refine awp_seq ?_
        refine awp_region ?_
        first | (refine r_fieldb rfl TF.f50_0 TF.sz3 rfl ?_) | (refine r_fieldcp rfl TF.f50_0 TF.sz3 rfl ?_)
        first | (refine r_load1b 0 rfl rfl rfl TF.agg3 rfl ?_) | (refine r_load1 rfl TF.agg3 rfl ?_) | (refine r_load1b 1 rfl rfl rfl TF.agg3 rfl ?_)
        refine r_cmp rfl rfl rfl rfl ?_
        refine awl_nil ?_
        refine x_then ?_
        refine awp_cond rfl (fun hc3 => ?_) (fun hc3 => ?_)
        ·
         have hns : namesC x = [x.name, x.to] := by simp [namesC, (eq_of_beq hc3 : x.kind = 4)]
         have hnsl : (namesC x).length ≤ 2 := by rw [hns]; simp
         refine awp_region ?_
         refine r_move rfl rfl ?_
         first | (refine r_fieldb rfl TF.f50_2 TF.sz9 rfl ?_) | (refine r_fieldcp rfl TF.f50_2 TF.sz9 rfl ?_)
         first | (refine r_load1b 0 rfl rfl rfl TF.agg9 rfl ?_) | (refine r_load1 rfl TF.agg9 rfl ?_) | (refine r_load1b 1 rfl rfl rfl TF.agg9 rfl ?_)
         refine r_lit 72 (parts := [(0, .tmp 71)]) rfl TF.sl57 TF.sz9 TF.zraw9 rfl rfl rfl rfl rfl rfl rfl ?_
         refine r_append 65 rfl (by first | exact .own _ | exact .nil) rfl (by first | exact .sl _ | exact .own _ _ | exact .nil) TF.sl57 TF.sz9 (by decide) TF.by9 TF.zlen9 (by simp [chunks] <;> omega) (by simp [chunks] <;> omega) rfl ?_
         refine r_assign rfl rfl ?_
         refine awl_nil ?_
         refine x_then ?_
         refine awp_seq ?_
         refine awp_region ?_
         refine r_move rfl rfl ?_
         first | (refine r_lenS rfl rfl TF.sl57 rfl ?_) | (refine r_lenNil rfl TF.sl57 rfl ?_) | (refine r_lenV rfl TF.sl57 rfl ?_)
         refine r_move rfl rfl ?_
         refine awl_nil ?_
         refine x_then ?_
         refine awp_block ?_
         refine awp_loop (fun nn0 S => ∃ j : Nat, ∃ m2 : List (ByteArray × Bool), S = ⟨87, [(0, .a (fcsA d)), (3, .a (.v (.map (some b9)))), (10, .a (fcsA d)), (11, .a (.v (.int .i64 ((d.map FC.cs).length)))), (12, .a (.v (.int .i64 ((k : Int))))), (74, .a (strsA (namesC x))), (75, .a (.v (.int .i64 (((namesC x).map (fun s : ByteArray => [AV.v (.string s)])).length)))), (76, .a (.v (.int .i64 ((j : Int)))))], [⟨b9, true, .map (encM Value.string boolA m2)⟩]⟩ ∧ nn0 = (namesC x).length - j ∧ (j ≤ (namesC x).length) ∧ (((d.take k).flatMap namesC ++ (namesC x).take j).Nodup) ∧ (HasS m2 ((d.take k).flatMap namesC ++ (namesC x).take j))) ((namesC x).length - (0)) ⟨87, [(0, .a (fcsA d)), (3, .a (.v (.map (some b9)))), (10, .a (fcsA d)), (11, .a (.v (.int .i64 ((d.map FC.cs).length)))), (12, .a (.v (.int .i64 ((k : Int))))), (74, .a (strsA (namesC x))), (75, .a (.v (.int .i64 (((namesC x).map (fun s : ByteArray => [AV.v (.string s)])).length)))), (76, .a (.v (.int .i64 (((0) : Int)))))], [⟨b9, true, .map (encM Value.string boolA (m))⟩]⟩ ⟨rfl, (Slots.cons rfl (by first | exact .refl _ | exact .nilOwn _ _ | exact .nilSl _ | exact .ownSl _ _ _  | exact SV.le.ownEq (by first | rfl | (rw [hns]; rfl) | (rw [hns]; simp [chunks])) | exact SV.le.of_eq (by first | rfl | (rw [hns]; rfl) | (rw [hns]; simp [chunks]))) (Slots.cons rfl (by first | exact .refl _ | exact .nilOwn _ _ | exact .nilSl _ | exact .ownSl _ _ _  | exact SV.le.ownEq (by first | rfl | (rw [hns]; rfl) | (rw [hns]; simp [chunks])) | exact SV.le.of_eq (by first | rfl | (rw [hns]; rfl) | (rw [hns]; simp [chunks]))) (Slots.cons rfl (by first | exact .refl _ | exact .nilOwn _ _ | exact .nilSl _ | exact .ownSl _ _ _  | exact SV.le.ownEq (by first | rfl | (rw [hns]; rfl) | (rw [hns]; simp [chunks])) | exact SV.le.of_eq (by first | rfl | (rw [hns]; rfl) | (rw [hns]; simp [chunks]))) (Slots.cons rfl (by first | exact .refl _ | exact .nilOwn _ _ | exact .nilSl _ | exact .ownSl _ _ _  | exact SV.le.ownEq (by first | rfl | (rw [hns]; rfl) | (rw [hns]; simp [chunks])) | exact SV.le.of_eq (by first | rfl | (rw [hns]; rfl) | (rw [hns]; simp [chunks]))) (Slots.cons rfl (by first | exact .refl _ | exact .nilOwn _ _ | exact .nilSl _ | exact .ownSl _ _ _  | exact SV.le.ownEq (by first | rfl | (rw [hns]; rfl) | (rw [hns]; simp [chunks])) | exact SV.le.of_eq (by first | rfl | (rw [hns]; rfl) | (rw [hns]; simp [chunks]))) (Slots.cons rfl (by first | exact .refl _ | exact .nilOwn _ _ | exact .nilSl _ | exact .ownSl _ _ _  | exact SV.le.ownEq (by first | rfl | (rw [hns]; rfl) | (rw [hns]; simp [chunks])) | exact SV.le.of_eq (by first | rfl | (rw [hns]; rfl) | (rw [hns]; simp [chunks]))) (Slots.cons rfl (by first | exact .refl _ | exact .nilOwn _ _ | exact .nilSl _ | exact .ownSl _ _ _  | exact SV.le.ownEq (by first | rfl | (rw [hns]; rfl) | (rw [hns]; simp [chunks])) | exact SV.le.of_eq (by first | rfl | (rw [hns]; rfl) | (rw [hns]; simp [chunks]))) (Slots.cons rfl (by first | exact .refl _ | exact .nilOwn _ _ | exact .nilSl _ | exact .ownSl _ _ _  | exact SV.le.ownEq (by first | rfl | (rw [hns]; rfl) | (rw [hns]; simp [chunks])) | exact SV.le.of_eq (by first | rfl | (rw [hns]; rfl) | (rw [hns]; simp [chunks]))) Slots.nil)))))))), (by first | exact List.Sublist.refl _ | exact .cons_cons _ (.cons _ (.refl _)) | exact List.nil_sublist _ | exact .cons _ (.refl _) | exact .cons _ (.cons _ (.refl _)) | exact .cons _ (.cons _ (.cons _ (.refl _))) | exact .cons _ (.cons _ (.cons _ (.cons _ (.refl _)))) | exact .cons_cons _ (List.nil_sublist _))⟩ ⟨0, m, rfl, rfl, Nat.zero_le _, (by simpa using hnd), (by simpa using hm)⟩ ?_
         rintro nn0 _ ⟨j, m2, rfl, rfl, hj, hn2, hm2⟩
         refine awp_seq ?_
         refine awp_region ?_
         refine r_cmp rfl rfl rfl rfl ?_
         refine awl_nil ?_
         refine x_then ?_
         refine awp_seq ?_
         refine awp_cond rfl (fun hc4 => ?_) (fun hc4 => ?_)
         ·
          have hlts : j < (namesC x).length := by have := of_decide_eq_true hc4; rw [List.length_map] at this; omega
          obtain ⟨s, hs⟩ := get_lt hlts
          refine awp_skip ?_
          refine x_then ?_
          refine awp_seq ?_
          refine awp_block ?_
          refine awp_seq ?_
          refine awp_region ?_
          refine r_index rfl rfl rfl TF.sl57 TF.sz9 (by omega) (get_map hs) rfl ?_
          first | (refine r_load1b 0 rfl rfl rfl TF.agg9 rfl ?_) | (refine r_load1 rfl TF.agg9 rfl ?_)
          refine r_assign rfl rfl ?_
          refine awl_nil ?_
          refine x_then ?_
          refine awp_seq ?_
          refine awp_seq ?_
          refine awp_region ?_
          refine r_move rfl rfl ?_
          refine r_move rfl rfl ?_
          refine r_lookup 0 (keyEnc_string TF.un9) (ev := boolA) false rfl rfl rfl TF.map70 TF.zav4 rfl ?_
          refine awl_nil ?_
          refine x_then ?_
          refine awp_cond rfl (fun hc5 => ?_) (fun hc5 => ?_)
          ·
           refine awp_seq ?_
           refine awp_region ?_
           refine r_assign rfl rfl ?_
           refine awl_nil ?_
           refine x_then ?_
           refine awp_ret ?_
           refine x_thenR ?_
           refine x_blockR ?_
           refine x_thenR ?_
           refine x_thenR ?_
           refine x_blockR ?_
           refine x_blockR ?_
           refine x_thenR ?_
           refine x_thenR ?_
           refine x_blockR ?_
           refine x_thenR ?_
           exact ⟨(.inl rfl), _, [], (.one (by first | exact .mk rfl rfl | exact .nil rfl)), ⟨rfl, by first | (rw [right_bad hltx hbad]; rfl) | (rw [right_dup hx hs ((hm2 s).1 hc5)]; rfl) | (rw [right_good (fun i hi => hall i (by omega)) hnd]; rfl)⟩, (List.nil_sublist _), (by simp)⟩
          ·
           refine awp_skip ?_
           refine x_then ?_
           refine awp_region ?_
           refine r_move rfl rfl ?_
           refine r_move rfl rfl ?_
           refine r_mapUpdate 0 (keyEnc_string TF.un9) (ev := boolA) true rfl rfl rfl rfl rfl TF.map70 ?_
           refine awl_nil ?_
           refine x_block ?_
           refine x_then ?_
           refine awp_region ?_
           refine r_ari _ rfl rfl rfl (wrap_id (by first | omega | (simp; omega))) rfl ?_
           refine r_move rfl rfl ?_
           refine awl_nil ?_
           refine x_then ?_
           refine ⟨(namesC x).length - (j + 1), ⟨87, [(0, .a (fcsA d)), (3, .a (.v (.map (some b9)))), (10, .a (fcsA d)), (11, .a (.v (.int .i64 ((d.map FC.cs).length)))), (12, .a (.v (.int .i64 ((k : Int))))), (74, .a (strsA (namesC x))), (75, .a (.v (.int .i64 (((namesC x).map (fun s : ByteArray => [AV.v (.string s)])).length)))), (76, .a (.v (.int .i64 (((j + 1) : Int)))))], [⟨b9, true, .map (encM Value.string boolA ((mset m2 s true)))⟩]⟩, ⟨rfl, (Slots.cons rfl (by first | exact .refl _ | exact .nilOwn _ _ | exact .nilSl _ | exact .ownSl _ _ _  | exact SV.le.of_eq (by simp)) (Slots.cons rfl (by first | exact .refl _ | exact .nilOwn _ _ | exact .nilSl _ | exact .ownSl _ _ _  | exact SV.le.of_eq (by simp)) (Slots.cons rfl (by first | exact .refl _ | exact .nilOwn _ _ | exact .nilSl _ | exact .ownSl _ _ _  | exact SV.le.of_eq (by simp)) (Slots.cons rfl (by first | exact .refl _ | exact .nilOwn _ _ | exact .nilSl _ | exact .ownSl _ _ _  | exact SV.le.of_eq (by simp)) (Slots.cons rfl (by first | exact .refl _ | exact .nilOwn _ _ | exact .nilSl _ | exact .ownSl _ _ _  | exact SV.le.of_eq (by simp)) (Slots.cons rfl (by first | exact .refl _ | exact .nilOwn _ _ | exact .nilSl _ | exact .ownSl _ _ _  | exact SV.le.of_eq (by simp)) (Slots.cons rfl (by first | exact .refl _ | exact .nilOwn _ _ | exact .nilSl _ | exact .ownSl _ _ _  | exact SV.le.of_eq (by simp)) (Slots.cons rfl (by first | exact .refl _ | exact .nilOwn _ _ | exact .nilSl _ | exact .ownSl _ _ _  | exact SV.le.of_eq (by simp)) Slots.nil)))))))), (by first | exact List.Sublist.refl _ | exact .cons_cons _ (.cons _ (.refl _)) | exact List.nil_sublist _ | exact .cons _ (.refl _) | exact .cons _ (.cons _ (.refl _)) | exact .cons _ (.cons _ (.cons _ (.refl _))) | exact .cons _ (.cons _ (.cons _ (.cons _ (.refl _)))) | exact .cons_cons _ (List.nil_sublist _))⟩, (by omega), ⟨j + 1, (mset m2 s true), rfl, rfl, (by omega), (by rw [takeS hs, ← List.append_assoc]; exact nodup_snoc hn2 (fun h => by rw [(hm2 s).2 h] at hc5; cases hc5)), (by rw [takeS hs, ← List.append_assoc]; exact hasS_set hm2)⟩⟩
         ·
          have hge : (namesC x).length ≤ j := by have := of_decide_eq_false hc4; rw [List.length_map] at this; omega
          rw [List.take_of_length_le hge, ← names_take hx] at hn2 hm2
          refine awp_exit ?_
          refine x_thenE ?_
          refine x_thenE ?_
          refine x_blockE ?_
          refine x_block ?_
          refine x_then ?_
          refine awp_region ?_
          refine r_ari _ rfl rfl rfl (wrap_id (by first | omega | (simp; omega))) rfl ?_
          refine r_move rfl rfl ?_
          refine awl_nil ?_
          refine x_then ?_
          refine ⟨d.length - (k + 1), ⟨87, [(0, .a (fcsA d)), (3, .a (.v (.map (some b9)))), (10, .a (fcsA d)), (11, .a (.v (.int .i64 ((d.map FC.cs).length)))), (12, .a (.v (.int .i64 (((k + 1) : Int)))))], [⟨b9, true, .map (encM Value.string boolA (m2))⟩]⟩, ⟨rfl, (Slots.cons rfl (by first | exact .refl _ | exact .nilOwn _ _ | exact .nilSl _ | exact .ownSl _ _ _  | exact SV.le.of_eq (by simp)) (Slots.cons rfl (by first | exact .refl _ | exact .nilOwn _ _ | exact .nilSl _ | exact .ownSl _ _ _  | exact SV.le.of_eq (by simp)) (Slots.cons rfl (by first | exact .refl _ | exact .nilOwn _ _ | exact .nilSl _ | exact .ownSl _ _ _  | exact SV.le.of_eq (by simp)) (Slots.cons rfl (by first | exact .refl _ | exact .nilOwn _ _ | exact .nilSl _ | exact .ownSl _ _ _  | exact SV.le.of_eq (by simp)) (Slots.cons rfl (by first | exact .refl _ | exact .nilOwn _ _ | exact .nilSl _ | exact .ownSl _ _ _  | exact SV.le.of_eq (by simp)) Slots.nil))))), (by first | exact List.Sublist.refl _ | exact .cons_cons _ (.cons _ (.refl _)) | exact List.nil_sublist _ | exact .cons _ (.refl _) | exact .cons _ (.cons _ (.refl _)) | exact .cons _ (.cons _ (.cons _ (.refl _))) | exact .cons _ (.cons _ (.cons _ (.cons _ (.refl _)))) | exact .cons_cons _ (List.nil_sublist _))⟩, (by omega), ⟨k + 1, m2, rfl, rfl, (by omega), (fun i hi => by rcases Nat.lt_succ_iff_lt_or_eq.1 hi with h | rfl; exact hall i h; exact hgood), hn2, hm2⟩⟩
        ·
         have hns : namesC x = [x.name] := by simp [namesC, (by simpa using hc3 : ¬ x.kind = 4)]
         have hnsl : (namesC x).length ≤ 2 := by rw [hns]; simp
         refine awp_skip ?_
         refine x_then ?_
         refine awp_seq ?_
         refine awp_region ?_
         refine r_move rfl rfl ?_
         first | (refine r_lenS rfl rfl TF.sl57 rfl ?_) | (refine r_lenNil rfl TF.sl57 rfl ?_) | (refine r_lenV rfl TF.sl57 rfl ?_)
         refine r_move rfl rfl ?_
         refine awl_nil ?_
         refine x_then ?_
         refine awp_block ?_
         refine awp_loop (fun nn0 S => ∃ j : Nat, ∃ m2 : List (ByteArray × Bool), S = ⟨87, [(0, .a (fcsA d)), (3, .a (.v (.map (some b9)))), (10, .a (fcsA d)), (11, .a (.v (.int .i64 ((d.map FC.cs).length)))), (12, .a (.v (.int .i64 ((k : Int))))), (74, .a (strsA (namesC x))), (75, .a (.v (.int .i64 (((namesC x).map (fun s : ByteArray => [AV.v (.string s)])).length)))), (76, .a (.v (.int .i64 ((j : Int)))))], [⟨b9, true, .map (encM Value.string boolA m2)⟩]⟩ ∧ nn0 = (namesC x).length - j ∧ (j ≤ (namesC x).length) ∧ (((d.take k).flatMap namesC ++ (namesC x).take j).Nodup) ∧ (HasS m2 ((d.take k).flatMap namesC ++ (namesC x).take j))) ((namesC x).length - (0)) ⟨87, [(0, .a (fcsA d)), (3, .a (.v (.map (some b9)))), (10, .a (fcsA d)), (11, .a (.v (.int .i64 ((d.map FC.cs).length)))), (12, .a (.v (.int .i64 ((k : Int))))), (74, .a (strsA (namesC x))), (75, .a (.v (.int .i64 (((namesC x).map (fun s : ByteArray => [AV.v (.string s)])).length)))), (76, .a (.v (.int .i64 (((0) : Int)))))], [⟨b9, true, .map (encM Value.string boolA (m))⟩]⟩ ⟨rfl, (Slots.cons rfl (by first | exact .refl _ | exact .nilOwn _ _ | exact .nilSl _ | exact .ownSl _ _ _  | exact SV.le.ownEq (by first | rfl | (rw [hns]; rfl) | (rw [hns]; simp [chunks])) | exact SV.le.of_eq (by first | rfl | (rw [hns]; rfl) | (rw [hns]; simp [chunks]))) (Slots.cons rfl (by first | exact .refl _ | exact .nilOwn _ _ | exact .nilSl _ | exact .ownSl _ _ _  | exact SV.le.ownEq (by first | rfl | (rw [hns]; rfl) | (rw [hns]; simp [chunks])) | exact SV.le.of_eq (by first | rfl | (rw [hns]; rfl) | (rw [hns]; simp [chunks]))) (Slots.cons rfl (by first | exact .refl _ | exact .nilOwn _ _ | exact .nilSl _ | exact .ownSl _ _ _  | exact SV.le.ownEq (by first | rfl | (rw [hns]; rfl) | (rw [hns]; simp [chunks])) | exact SV.le.of_eq (by first | rfl | (rw [hns]; rfl) | (rw [hns]; simp [chunks]))) (Slots.cons rfl (by first | exact .refl _ | exact .nilOwn _ _ | exact .nilSl _ | exact .ownSl _ _ _  | exact SV.le.ownEq (by first | rfl | (rw [hns]; rfl) | (rw [hns]; simp [chunks])) | exact SV.le.of_eq (by first | rfl | (rw [hns]; rfl) | (rw [hns]; simp [chunks]))) (Slots.cons rfl (by first | exact .refl _ | exact .nilOwn _ _ | exact .nilSl _ | exact .ownSl _ _ _  | exact SV.le.ownEq (by first | rfl | (rw [hns]; rfl) | (rw [hns]; simp [chunks])) | exact SV.le.of_eq (by first | rfl | (rw [hns]; rfl) | (rw [hns]; simp [chunks]))) (Slots.cons rfl (by first | exact .refl _ | exact .nilOwn _ _ | exact .nilSl _ | exact .ownSl _ _ _  | exact SV.le.ownEq (by first | rfl | (rw [hns]; rfl) | (rw [hns]; simp [chunks])) | exact SV.le.of_eq (by first | rfl | (rw [hns]; rfl) | (rw [hns]; simp [chunks]))) (Slots.cons rfl (by first | exact .refl _ | exact .nilOwn _ _ | exact .nilSl _ | exact .ownSl _ _ _  | exact SV.le.ownEq (by first | rfl | (rw [hns]; rfl) | (rw [hns]; simp [chunks])) | exact SV.le.of_eq (by first | rfl | (rw [hns]; rfl) | (rw [hns]; simp [chunks]))) (Slots.cons rfl (by first | exact .refl _ | exact .nilOwn _ _ | exact .nilSl _ | exact .ownSl _ _ _  | exact SV.le.ownEq (by first | rfl | (rw [hns]; rfl) | (rw [hns]; simp [chunks])) | exact SV.le.of_eq (by first | rfl | (rw [hns]; rfl) | (rw [hns]; simp [chunks]))) Slots.nil)))))))), (by first | exact List.Sublist.refl _ | exact .cons_cons _ (.cons _ (.refl _)) | exact List.nil_sublist _ | exact .cons _ (.refl _) | exact .cons _ (.cons _ (.refl _)) | exact .cons _ (.cons _ (.cons _ (.refl _))) | exact .cons _ (.cons _ (.cons _ (.cons _ (.refl _)))) | exact .cons_cons _ (List.nil_sublist _))⟩ ⟨0, m, rfl, rfl, Nat.zero_le _, (by simpa using hnd), (by simpa using hm)⟩ ?_
         rintro nn0 _ ⟨j, m2, rfl, rfl, hj, hn2, hm2⟩
         refine awp_seq ?_
         refine awp_region ?_
         refine r_cmp rfl rfl rfl rfl ?_
         refine awl_nil ?_
         refine x_then ?_
         refine awp_seq ?_
         refine awp_cond rfl (fun hc4 => ?_) (fun hc4 => ?_)
         ·
          have hlts : j < (namesC x).length := by have := of_decide_eq_true hc4; rw [List.length_map] at this; omega
          obtain ⟨s, hs⟩ := get_lt hlts
          refine awp_skip ?_
          refine x_then ?_
          refine awp_seq ?_
          refine awp_block ?_
          refine awp_seq ?_
          refine awp_region ?_
          refine r_index rfl rfl rfl TF.sl57 TF.sz9 (by omega) (get_map hs) rfl ?_
          first | (refine r_load1b 0 rfl rfl rfl TF.agg9 rfl ?_) | (refine r_load1 rfl TF.agg9 rfl ?_)
          refine r_assign rfl rfl ?_
          refine awl_nil ?_
          refine x_then ?_
          refine awp_seq ?_
          refine awp_seq ?_
          refine awp_region ?_
          refine r_move rfl rfl ?_
          refine r_move rfl rfl ?_
          refine r_lookup 0 (keyEnc_string TF.un9) (ev := boolA) false rfl rfl rfl TF.map70 TF.zav4 rfl ?_
          refine awl_nil ?_
          refine x_then ?_
          refine awp_cond rfl (fun hc5 => ?_) (fun hc5 => ?_)
          ·
           refine awp_seq ?_
           refine awp_region ?_
           refine r_assign rfl rfl ?_
           refine awl_nil ?_
           refine x_then ?_
           refine awp_ret ?_
           refine x_thenR ?_
           refine x_blockR ?_
           refine x_thenR ?_
           refine x_thenR ?_
           refine x_blockR ?_
           refine x_blockR ?_
           refine x_thenR ?_
           refine x_thenR ?_
           refine x_blockR ?_
           refine x_thenR ?_
           exact ⟨(.inl rfl), _, [], (.one (by first | exact .mk rfl rfl | exact .nil rfl)), ⟨rfl, by first | (rw [right_bad hltx hbad]; rfl) | (rw [right_dup hx hs ((hm2 s).1 hc5)]; rfl) | (rw [right_good (fun i hi => hall i (by omega)) hnd]; rfl)⟩, (List.nil_sublist _), (by simp)⟩
          ·
           refine awp_skip ?_
           refine x_then ?_
           refine awp_region ?_
           refine r_move rfl rfl ?_
           refine r_move rfl rfl ?_
           refine r_mapUpdate 0 (keyEnc_string TF.un9) (ev := boolA) true rfl rfl rfl rfl rfl TF.map70 ?_
           refine awl_nil ?_
           refine x_block ?_
           refine x_then ?_
           refine awp_region ?_
           refine r_ari _ rfl rfl rfl (wrap_id (by first | omega | (simp; omega))) rfl ?_
           refine r_move rfl rfl ?_
           refine awl_nil ?_
           refine x_then ?_
           refine ⟨(namesC x).length - (j + 1), ⟨87, [(0, .a (fcsA d)), (3, .a (.v (.map (some b9)))), (10, .a (fcsA d)), (11, .a (.v (.int .i64 ((d.map FC.cs).length)))), (12, .a (.v (.int .i64 ((k : Int))))), (74, .a (strsA (namesC x))), (75, .a (.v (.int .i64 (((namesC x).map (fun s : ByteArray => [AV.v (.string s)])).length)))), (76, .a (.v (.int .i64 (((j + 1) : Int)))))], [⟨b9, true, .map (encM Value.string boolA ((mset m2 s true)))⟩]⟩, ⟨rfl, (Slots.cons rfl (by first | exact .refl _ | exact .nilOwn _ _ | exact .nilSl _ | exact .ownSl _ _ _  | exact SV.le.of_eq (by simp)) (Slots.cons rfl (by first | exact .refl _ | exact .nilOwn _ _ | exact .nilSl _ | exact .ownSl _ _ _  | exact SV.le.of_eq (by simp)) (Slots.cons rfl (by first | exact .refl _ | exact .nilOwn _ _ | exact .nilSl _ | exact .ownSl _ _ _  | exact SV.le.of_eq (by simp)) (Slots.cons rfl (by first | exact .refl _ | exact .nilOwn _ _ | exact .nilSl _ | exact .ownSl _ _ _  | exact SV.le.of_eq (by simp)) (Slots.cons rfl (by first | exact .refl _ | exact .nilOwn _ _ | exact .nilSl _ | exact .ownSl _ _ _  | exact SV.le.of_eq (by simp)) (Slots.cons rfl (by first | exact .refl _ | exact .nilOwn _ _ | exact .nilSl _ | exact .ownSl _ _ _  | exact SV.le.of_eq (by simp)) (Slots.cons rfl (by first | exact .refl _ | exact .nilOwn _ _ | exact .nilSl _ | exact .ownSl _ _ _  | exact SV.le.of_eq (by simp)) (Slots.cons rfl (by first | exact .refl _ | exact .nilOwn _ _ | exact .nilSl _ | exact .ownSl _ _ _  | exact SV.le.of_eq (by simp)) Slots.nil)))))))), (by first | exact List.Sublist.refl _ | exact .cons_cons _ (.cons _ (.refl _)) | exact List.nil_sublist _ | exact .cons _ (.refl _) | exact .cons _ (.cons _ (.refl _)) | exact .cons _ (.cons _ (.cons _ (.refl _))) | exact .cons _ (.cons _ (.cons _ (.cons _ (.refl _)))) | exact .cons_cons _ (List.nil_sublist _))⟩, (by omega), ⟨j + 1, (mset m2 s true), rfl, rfl, (by omega), (by rw [takeS hs, ← List.append_assoc]; exact nodup_snoc hn2 (fun h => by rw [(hm2 s).2 h] at hc5; cases hc5)), (by rw [takeS hs, ← List.append_assoc]; exact hasS_set hm2)⟩⟩
         ·
          have hge : (namesC x).length ≤ j := by have := of_decide_eq_false hc4; rw [List.length_map] at this; omega
          rw [List.take_of_length_le hge, ← names_take hx] at hn2 hm2
          refine awp_exit ?_
          refine x_thenE ?_
          refine x_thenE ?_
          refine x_blockE ?_
          refine x_block ?_
          refine x_then ?_
          refine awp_region ?_
          refine r_ari _ rfl rfl rfl (wrap_id (by first | omega | (simp; omega))) rfl ?_
          refine r_move rfl rfl ?_
          refine awl_nil ?_
          refine x_then ?_
          refine ⟨d.length - (k + 1), ⟨87, [(0, .a (fcsA d)), (3, .a (.v (.map (some b9)))), (10, .a (fcsA d)), (11, .a (.v (.int .i64 ((d.map FC.cs).length)))), (12, .a (.v (.int .i64 (((k + 1) : Int)))))], [⟨b9, true, .map (encM Value.string boolA (m2))⟩]⟩, ⟨rfl, (Slots.cons rfl (by first | exact .refl _ | exact .nilOwn _ _ | exact .nilSl _ | exact .ownSl _ _ _  | exact SV.le.of_eq (by simp)) (Slots.cons rfl (by first | exact .refl _ | exact .nilOwn _ _ | exact .nilSl _ | exact .ownSl _ _ _  | exact SV.le.of_eq (by simp)) (Slots.cons rfl (by first | exact .refl _ | exact .nilOwn _ _ | exact .nilSl _ | exact .ownSl _ _ _  | exact SV.le.of_eq (by simp)) (Slots.cons rfl (by first | exact .refl _ | exact .nilOwn _ _ | exact .nilSl _ | exact .ownSl _ _ _  | exact SV.le.of_eq (by simp)) (Slots.cons rfl (by first | exact .refl _ | exact .nilOwn _ _ | exact .nilSl _ | exact .ownSl _ _ _  | exact SV.le.of_eq (by simp)) Slots.nil))))), (by first | exact List.Sublist.refl _ | exact .cons_cons _ (.cons _ (.refl _)) | exact List.nil_sublist _ | exact .cons _ (.refl _) | exact .cons _ (.cons _ (.refl _)) | exact .cons _ (.cons _ (.cons _ (.refl _))) | exact .cons _ (.cons _ (.cons _ (.cons _ (.refl _)))) | exact .cons_cons _ (List.nil_sublist _))⟩, (by omega), ⟨k + 1, m2, rfl, rfl, (by omega), (fun i hi => by rcases Nat.lt_succ_iff_lt_or_eq.1 hi with h | rfl; exact hall i h; exact hgood), hn2, hm2⟩⟩
      ·
       have hgood : okC d k = true := by simp only [okC, hx, hg21, hy, hbr, decide_eq_true hk0, pairF, hg40, hg50]; rfl
       refine awp_drawS [26, 27, 28, 29, 30, 31, 32, 33, 34, 35, 36, 37, 38, 39, 40, 41, 42, 43, 44, 45, 46, 47, 48, 49, 50, 51, 52, 53, 54, 55, 56, 57, 58] [_, _, _, _, _, _, _, _, _, _, _, _, _, _, _, _, _, _, _, _, _, _, _, _, _, _, _, _, _, _, _, _, _] [] [] TF.mixed rfl rfl rfl ⟨⟨⟨⟨⟨⟨⟨⟨⟨⟨⟨⟨⟨⟨⟨⟨⟨⟨⟨⟨⟨⟨⟨⟨⟨⟨⟨⟨⟨⟨⟨⟨⟨trivial
        , ⟨_, rfl, fun sl hd hr ho => by
          refine r_move (hr 4 _ rfl rfl rfl) rfl ?_
          exact awl_nil ⟨rfl, post_put⟩⟩⟩
        , ⟨_, rfl, fun sl hd hr ho => by
          refine r_cmp (hd 0 _ rfl rfl rfl) rfl rfl rfl ?_
          exact awl_nil ⟨rfl, post_put⟩⟩⟩
        , ⟨_, rfl, fun sl hd hr ho => by
          refine r_move (hd 1 _ rfl rfl rfl) rfl ?_
          exact awl_nil ⟨rfl, post_put⟩⟩⟩
        , ⟨_, rfl, fun sl hd hr ho => by
          refine g_run rfl (hd 2 _ rfl rfl rfl) hg28 ?_
          refine r_move (hr 0 _ rfl rfl rfl) rfl ?_
          exact awl_nil ⟨rfl, post_put⟩⟩⟩
        , ⟨_, rfl, fun sl hd hr ho => by
          refine g_run rfl (hd 2 _ rfl rfl rfl) hg28 ?_
          refine r_move (hr 4 _ rfl rfl rfl) rfl ?_
          exact awl_nil ⟨rfl, post_put⟩⟩⟩
        , ⟨_, rfl, fun sl hd hr ho => by
          refine g_run rfl (hd 2 _ rfl rfl rfl) hg28 ?_
          refine r_ari _ (hd 4 _ rfl rfl rfl) rfl rfl (wrap_id (by first | omega | (simp; omega))) rfl ?_
          exact awl_nil ⟨rfl, post_put⟩⟩⟩
        , ⟨_, rfl, fun sl hd hr ho => by
          refine g_run rfl (hd 2 _ rfl rfl rfl) hg28 ?_
          refine r_index (hd 3 _ rfl rfl rfl) rfl (hd 5 _ rfl rfl rfl) TF.sl28 TF.sz50 (by omega) (by rw [show ((k : Int) - 1).toNat = k - 1 by omega]; exact get_map hy) rfl ?_
          exact awl_nil ⟨rfl, post_put⟩⟩⟩
        , ⟨_, rfl, fun sl hd hr ho => by
          refine g_run rfl (hd 2 _ rfl rfl rfl) hg28 ?_
          first | (refine r_fieldb (hd 6 _ rfl rfl rfl) TF.f50_0 TF.sz3 rfl ?_) | (refine r_fieldcp (hd 6 _ rfl rfl rfl) TF.f50_0 TF.sz3 rfl ?_)
          exact awl_nil ⟨rfl, post_put⟩⟩⟩
        , ⟨_, rfl, fun sl hd hr ho => by
          refine g_run rfl (hd 2 _ rfl rfl rfl) hg28 ?_
          first | (refine r_load1b 0 (hd 7 _ rfl rfl rfl) rfl rfl TF.agg3 rfl ?_) | (refine r_load1 (hd 7 _ rfl rfl rfl) TF.agg3 rfl ?_) | (refine r_load1b 1 (hd 7 _ rfl rfl rfl) rfl rfl TF.agg3 rfl ?_)
          exact awl_nil ⟨rfl, post_put⟩⟩⟩
        , ⟨_, rfl, fun sl hd hr ho => by
          refine g_run rfl (hd 2 _ rfl rfl rfl) hg28 ?_
          refine r_call0 hq rfl rfl (.cons (.ev (hd 8 _ rfl rfl rfl) rfl) .nil) (rank_ok y.kind) rfl TF.en35 rfl (fun r hr => ?_)
          obtain rfl := hr
          exact awl_nil ⟨rfl, post_put⟩⟩⟩
        , ⟨_, rfl, fun sl hd hr ho => by
          refine g_run rfl (hd 2 _ rfl rfl rfl) hg28 ?_
          first | (refine r_fieldb (hr 5 _ rfl rfl rfl) TF.f50_0 TF.sz3 rfl ?_) | (refine r_fieldcp (hr 5 _ rfl rfl rfl) TF.f50_0 TF.sz3 rfl ?_)
          exact awl_nil ⟨rfl, post_put⟩⟩⟩
        , ⟨_, rfl, fun sl hd hr ho => by
          refine g_run rfl (hd 2 _ rfl rfl rfl) hg28 ?_
          first | (refine r_load1b 0 (hd 10 _ rfl rfl rfl) rfl rfl TF.agg3 rfl ?_) | (refine r_load1 (hd 10 _ rfl rfl rfl) TF.agg3 rfl ?_) | (refine r_load1b 1 (hd 10 _ rfl rfl rfl) rfl rfl TF.agg3 rfl ?_)
          exact awl_nil ⟨rfl, post_put⟩⟩⟩
        , ⟨_, rfl, fun sl hd hr ho => by
          refine g_run rfl (hd 2 _ rfl rfl rfl) hg28 ?_
          refine r_call0 hq rfl rfl (.cons (.ev (hd 11 _ rfl rfl rfl) rfl) .nil) (rank_ok x.kind) rfl TF.en35 rfl (fun r hr => ?_)
          obtain rfl := hr
          exact awl_nil ⟨rfl, post_put⟩⟩⟩
        , ⟨_, rfl, fun sl hd hr ho => by
          refine g_run rfl (hd 2 _ rfl rfl rfl) hg28 ?_
          refine r_cmp (hd 9 _ rfl rfl rfl) (hd 12 _ rfl rfl rfl) rfl rfl ?_
          exact awl_nil ⟨rfl, post_put⟩⟩⟩
        , ⟨_, rfl, fun sl hd hr ho => by
          refine g_run rfl (hd 2 _ rfl rfl rfl) hg28 ?_
          refine r_move (hd 13 _ rfl rfl rfl) rfl ?_
          exact awl_nil ⟨rfl, post_put⟩⟩⟩
        , ⟨_, rfl, fun sl hd hr ho => by
          refine g_run rfl (hd 14 _ rfl rfl rfl) hg40 ?_
          refine r_move (hr 0 _ rfl rfl rfl) rfl ?_
          exact awl_nil ⟨rfl, post_put⟩⟩⟩
        , ⟨_, rfl, fun sl hd hr ho => by
          refine g_run rfl (hd 14 _ rfl rfl rfl) hg40 ?_
          refine r_move (hr 4 _ rfl rfl rfl) rfl ?_
          exact awl_nil ⟨rfl, post_put⟩⟩⟩
        , ⟨_, rfl, fun sl hd hr ho => by
          refine g_run rfl (hd 14 _ rfl rfl rfl) hg40 ?_
          refine r_ari _ (hd 16 _ rfl rfl rfl) rfl rfl (wrap_id (by first | omega | (simp; omega))) rfl ?_
          exact awl_nil ⟨rfl, post_put⟩⟩⟩
        , ⟨_, rfl, fun sl hd hr ho => by
          refine g_run rfl (hd 14 _ rfl rfl rfl) hg40 ?_
          refine r_index (hd 15 _ rfl rfl rfl) rfl (hd 17 _ rfl rfl rfl) TF.sl28 TF.sz50 (by omega) (by rw [show ((k : Int) - 1).toNat = k - 1 by omega]; exact get_map hy) rfl ?_
          exact awl_nil ⟨rfl, post_put⟩⟩⟩
        , ⟨_, rfl, fun sl hd hr ho => by
          refine g_run rfl (hd 14 _ rfl rfl rfl) hg40 ?_
          first | (refine r_fieldb (hd 18 _ rfl rfl rfl) TF.f50_0 TF.sz3 rfl ?_) | (refine r_fieldcp (hd 18 _ rfl rfl rfl) TF.f50_0 TF.sz3 rfl ?_)
          exact awl_nil ⟨rfl, post_put⟩⟩⟩
        , ⟨_, rfl, fun sl hd hr ho => by
          refine g_run rfl (hd 14 _ rfl rfl rfl) hg40 ?_
          first | (refine r_load1b 0 (hd 19 _ rfl rfl rfl) rfl rfl TF.agg3 rfl ?_) | (refine r_load1 (hd 19 _ rfl rfl rfl) TF.agg3 rfl ?_) | (refine r_load1b 1 (hd 19 _ rfl rfl rfl) rfl rfl TF.agg3 rfl ?_)
          exact awl_nil ⟨rfl, post_put⟩⟩⟩
        , ⟨_, rfl, fun sl hd hr ho => by
          refine g_run rfl (hd 14 _ rfl rfl rfl) hg40 ?_
          first | (refine r_fieldb (hr 5 _ rfl rfl rfl) TF.f50_0 TF.sz3 rfl ?_) | (refine r_fieldcp (hr 5 _ rfl rfl rfl) TF.f50_0 TF.sz3 rfl ?_)
          exact awl_nil ⟨rfl, post_put⟩⟩⟩
        , ⟨_, rfl, fun sl hd hr ho => by
          refine g_run rfl (hd 14 _ rfl rfl rfl) hg40 ?_
          first | (refine r_load1b 0 (hd 21 _ rfl rfl rfl) rfl rfl TF.agg3 rfl ?_) | (refine r_load1 (hd 21 _ rfl rfl rfl) TF.agg3 rfl ?_) | (refine r_load1b 1 (hd 21 _ rfl rfl rfl) rfl rfl TF.agg3 rfl ?_)
          exact awl_nil ⟨rfl, post_put⟩⟩⟩
        , ⟨_, rfl, fun sl hd hr ho => by
          refine g_run rfl (hd 14 _ rfl rfl rfl) hg40 ?_
          refine r_cmp (hd 20 _ rfl rfl rfl) (hd 22 _ rfl rfl rfl) rfl rfl ?_
          exact awl_nil ⟨rfl, post_put⟩⟩⟩
        , ⟨_, rfl, fun sl hd hr ho => by
          refine g_run rfl (hd 14 _ rfl rfl rfl) hg40 ?_
          refine r_move (hd 23 _ rfl rfl rfl) rfl ?_
          exact awl_nil ⟨rfl, post_put⟩⟩⟩
        , ⟨_, rfl, fun sl hd hr ho => by
          refine g_skip rfl (hd 24 _ rfl rfl rfl) hg50 rfl ?_
          exact awl_nil ⟨rfl, post_put⟩⟩⟩
        , ⟨_, rfl, fun sl hd hr ho => by
          refine g_skip rfl (hd 24 _ rfl rfl rfl) hg50 rfl ?_
          exact awl_nil ⟨rfl, post_put⟩⟩⟩
        , ⟨_, rfl, fun sl hd hr ho => by
          refine g_skip rfl (hd 24 _ rfl rfl rfl) hg50 rfl ?_
          exact awl_nil ⟨rfl, post_put⟩⟩⟩
        , ⟨_, rfl, fun sl hd hr ho => by
          refine g_skip rfl (hd 24 _ rfl rfl rfl) hg50 rfl ?_
          exact awl_nil ⟨rfl, post_put⟩⟩⟩
        , ⟨_, rfl, fun sl hd hr ho => by
          refine g_skip rfl (hd 24 _ rfl rfl rfl) hg50 rfl ?_
          exact awl_nil ⟨rfl, post_put⟩⟩⟩
        , ⟨_, rfl, fun sl hd hr ho => by
          refine g_skip rfl (hd 24 _ rfl rfl rfl) hg50 rfl ?_
          exact awl_nil ⟨rfl, post_put⟩⟩⟩
        , ⟨_, rfl, fun sl hd hr ho => by
          refine g_skip rfl (hd 24 _ rfl rfl rfl) hg50 rfl ?_
          exact awl_nil ⟨rfl, post_put⟩⟩⟩
        , ⟨_, rfl, fun sl hd hr ho => by
          refine g_skip rfl (hd 24 _ rfl rfl rfl) hg50 rfl ?_
          exact awl_nil ⟨rfl, post_put⟩⟩⟩
        (by rfl) ?_
       refine g_skip rfl rfl hg50 rfl ?_
       refine g_run rfl rfl hg40 ?_
       refine r_pickF rfl hg50 rfl rfl ?_
       refine g_run rfl rfl hg28 ?_
       refine r_pickF rfl hg40 rfl rfl ?_
       refine r_pickT rfl hg28 rfl rfl ?_
       refine awl_nil ?_
       refine x_then ?_
       refine awp_condF rfl ?_
       refine awp_skip ?_
       refine x_then ?_
       refine awp_seq ?_
       refine awp_region ?_
       first | (refine r_fieldb rfl TF.f50_1 TF.sz9 rfl ?_) | (refine r_fieldcp rfl TF.f50_1 TF.sz9 rfl ?_)
       first | (refine r_load1b 0 rfl rfl rfl TF.agg9 rfl ?_) | (refine r_load1 rfl TF.agg9 rfl ?_) | (refine r_load1b 1 rfl rfl rfl TF.agg9 rfl ?_)
       refine r_lit 65 (parts := [(0, .tmp 64)]) rfl TF.sl57 TF.sz9 TF.zraw9 rfl rfl rfl rfl rfl rfl rfl ?_
       refine r_assign rfl rfl ?_
       refine awl_nil ?_
       refine x_then ?_
       refine awp_seq ?_
       refine awp_seq ?_
       refine awp_region ?_
       first | (refine r_fieldb rfl TF.f50_0 TF.sz3 rfl ?_) | (refine r_fieldcp rfl TF.f50_0 TF.sz3 rfl ?_)
       first | (refine r_load1b 0 rfl rfl rfl TF.agg3 rfl ?_) | (refine r_load1 rfl TF.agg3 rfl ?_) | (refine r_load1b 1 rfl rfl rfl TF.agg3 rfl ?_)
       refine r_cmp rfl rfl rfl rfl ?_
       refine awl_nil ?_
       refine x_then ?_
       refine awp_cond rfl (fun hc3 => ?_) (fun hc3 => ?_)
       ·
        have hns : namesC x = [x.name, x.to] := by simp [namesC, (eq_of_beq hc3 : x.kind = 4)]
        have hnsl : (namesC x).length ≤ 2 := by rw [hns]; simp
        refine awp_region ?_
        refine r_move rfl rfl ?_
        first | (refine r_fieldb rfl TF.f50_2 TF.sz9 rfl ?_) | (refine r_fieldcp rfl TF.f50_2 TF.sz9 rfl ?_)
        first | (refine r_load1b 0 rfl rfl rfl TF.agg9 rfl ?_) | (refine r_load1 rfl TF.agg9 rfl ?_) | (refine r_load1b 1 rfl rfl rfl TF.agg9 rfl ?_)
        refine r_lit 72 (parts := [(0, .tmp 71)]) rfl TF.sl57 TF.sz9 TF.zraw9 rfl rfl rfl rfl rfl rfl rfl ?_
        refine r_append 65 rfl (by first | exact .own _ | exact .nil) rfl (by first | exact .sl _ | exact .own _ _ | exact .nil) TF.sl57 TF.sz9 (by decide) TF.by9 TF.zlen9 (by simp [chunks] <;> omega) (by simp [chunks] <;> omega) rfl ?_
        refine r_assign rfl rfl ?_
        refine awl_nil ?_
        refine x_then ?_
        refine awp_seq ?_
        refine awp_region ?_
        refine r_move rfl rfl ?_
        first | (refine r_lenS rfl rfl TF.sl57 rfl ?_) | (refine r_lenNil rfl TF.sl57 rfl ?_) | (refine r_lenV rfl TF.sl57 rfl ?_)
        refine r_move rfl rfl ?_
        refine awl_nil ?_
        refine x_then ?_
        refine awp_block ?_
        refine awp_loop (fun nn0 S => ∃ j : Nat, ∃ m2 : List (ByteArray × Bool), S = ⟨87, [(0, .a (fcsA d)), (3, .a (.v (.map (some b9)))), (10, .a (fcsA d)), (11, .a (.v (.int .i64 ((d.map FC.cs).length)))), (12, .a (.v (.int .i64 ((k : Int))))), (74, .a (strsA (namesC x))), (75, .a (.v (.int .i64 (((namesC x).map (fun s : ByteArray => [AV.v (.string s)])).length)))), (76, .a (.v (.int .i64 ((j : Int)))))], [⟨b9, true, .map (encM Value.string boolA m2)⟩]⟩ ∧ nn0 = (namesC x).length - j ∧ (j ≤ (namesC x).length) ∧ (((d.take k).flatMap namesC ++ (namesC x).take j).Nodup) ∧ (HasS m2 ((d.take k).flatMap namesC ++ (namesC x).take j))) ((namesC x).length - (0)) ⟨87, [(0, .a (fcsA d)), (3, .a (.v (.map (some b9)))), (10, .a (fcsA d)), (11, .a (.v (.int .i64 ((d.map FC.cs).length)))), (12, .a (.v (.int .i64 ((k : Int))))), (74, .a (strsA (namesC x))), (75, .a (.v (.int .i64 (((namesC x).map (fun s : ByteArray => [AV.v (.string s)])).length)))), (76, .a (.v (.int .i64 (((0) : Int)))))], [⟨b9, true, .map (encM Value.string boolA (m))⟩]⟩ ⟨rfl, (Slots.cons rfl (by first | exact .refl _ | exact .nilOwn _ _ | exact .nilSl _ | exact .ownSl _ _ _  | exact SV.le.ownEq (by first | rfl | (rw [hns]; rfl) | (rw [hns]; simp [chunks])) | exact SV.le.of_eq (by first | rfl | (rw [hns]; rfl) | (rw [hns]; simp [chunks]))) (Slots.cons rfl (by first | exact .refl _ | exact .nilOwn _ _ | exact .nilSl _ | exact .ownSl _ _ _  | exact SV.le.ownEq (by first | rfl | (rw [hns]; rfl) | (rw [hns]; simp [chunks])) | exact SV.le.of_eq (by first | rfl | (rw [hns]; rfl) | (rw [hns]; simp [chunks]))) (Slots.cons rfl (by first | exact .refl _ | exact .nilOwn _ _ | exact .nilSl _ | exact .ownSl _ _ _  | exact SV.le.ownEq (by first | rfl | (rw [hns]; rfl) | (rw [hns]; simp [chunks])) | exact SV.le.of_eq (by first | rfl | (rw [hns]; rfl) | (rw [hns]; simp [chunks]))) (Slots.cons rfl (by first | exact .refl _ | exact .nilOwn _ _ | exact .nilSl _ | exact .ownSl _ _ _  | exact SV.le.ownEq (by first | rfl | (rw [hns]; rfl) | (rw [hns]; simp [chunks])) | exact SV.le.of_eq (by first | rfl | (rw [hns]; rfl) | (rw [hns]; simp [chunks]))) (Slots.cons rfl (by first | exact .refl _ | exact .nilOwn _ _ | exact .nilSl _ | exact .ownSl _ _ _  | exact SV.le.ownEq (by first | rfl | (rw [hns]; rfl) | (rw [hns]; simp [chunks])) | exact SV.le.of_eq (by first | rfl | (rw [hns]; rfl) | (rw [hns]; simp [chunks]))) (Slots.cons rfl (by first | exact .refl _ | exact .nilOwn _ _ | exact .nilSl _ | exact .ownSl _ _ _  | exact SV.le.ownEq (by first | rfl | (rw [hns]; rfl) | (rw [hns]; simp [chunks])) | exact SV.le.of_eq (by first | rfl | (rw [hns]; rfl) | (rw [hns]; simp [chunks]))) (Slots.cons rfl (by first | exact .refl _ | exact .nilOwn _ _ | exact .nilSl _ | exact .ownSl _ _ _  | exact SV.le.ownEq (by first | rfl | (rw [hns]; rfl) | (rw [hns]; simp [chunks])) | exact SV.le.of_eq (by first | rfl | (rw [hns]; rfl) | (rw [hns]; simp [chunks]))) (Slots.cons rfl (by first | exact .refl _ | exact .nilOwn _ _ | exact .nilSl _ | exact .ownSl _ _ _  | exact SV.le.ownEq (by first | rfl | (rw [hns]; rfl) | (rw [hns]; simp [chunks])) | exact SV.le.of_eq (by first | rfl | (rw [hns]; rfl) | (rw [hns]; simp [chunks]))) Slots.nil)))))))), (by first | exact List.Sublist.refl _ | exact .cons_cons _ (.cons _ (.refl _)) | exact List.nil_sublist _ | exact .cons _ (.refl _) | exact .cons _ (.cons _ (.refl _)) | exact .cons _ (.cons _ (.cons _ (.refl _))) | exact .cons _ (.cons _ (.cons _ (.cons _ (.refl _)))) | exact .cons_cons _ (List.nil_sublist _))⟩ ⟨0, m, rfl, rfl, Nat.zero_le _, (by simpa using hnd), (by simpa using hm)⟩ ?_
        rintro nn0 _ ⟨j, m2, rfl, rfl, hj, hn2, hm2⟩
        refine awp_seq ?_
        refine awp_region ?_
        refine r_cmp rfl rfl rfl rfl ?_
        refine awl_nil ?_
        refine x_then ?_
        refine awp_seq ?_
        refine awp_cond rfl (fun hc4 => ?_) (fun hc4 => ?_)
        ·
         have hlts : j < (namesC x).length := by have := of_decide_eq_true hc4; rw [List.length_map] at this; omega
         obtain ⟨s, hs⟩ := get_lt hlts
         refine awp_skip ?_
         refine x_then ?_
         refine awp_seq ?_
         refine awp_block ?_
         refine awp_seq ?_
         refine awp_region ?_
         refine r_index rfl rfl rfl TF.sl57 TF.sz9 (by omega) (get_map hs) rfl ?_
         first | (refine r_load1b 0 rfl rfl rfl TF.agg9 rfl ?_) | (refine r_load1 rfl TF.agg9 rfl ?_)
         refine r_assign rfl rfl ?_
         refine awl_nil ?_
         refine x_then ?_
         refine awp_seq ?_
         refine awp_seq ?_
         refine awp_region ?_
         refine r_move rfl rfl ?_
         refine r_move rfl rfl ?_
         refine r_lookup 0 (keyEnc_string TF.un9) (ev := boolA) false rfl rfl rfl TF.map70 TF.zav4 rfl ?_
         refine awl_nil ?_
         refine x_then ?_
         refine awp_cond rfl (fun hc5 => ?_) (fun hc5 => ?_)
         ·
          refine awp_seq ?_
          refine awp_region ?_
          refine r_assign rfl rfl ?_
          refine awl_nil ?_
          refine x_then ?_
          refine awp_ret ?_
          refine x_thenR ?_
          refine x_blockR ?_
          refine x_thenR ?_
          refine x_thenR ?_
          refine x_blockR ?_
          refine x_blockR ?_
          refine x_thenR ?_
          refine x_thenR ?_
          refine x_blockR ?_
          refine x_thenR ?_
          exact ⟨(.inl rfl), _, [], (.one (by first | exact .mk rfl rfl | exact .nil rfl)), ⟨rfl, by first | (rw [right_bad hltx hbad]; rfl) | (rw [right_dup hx hs ((hm2 s).1 hc5)]; rfl) | (rw [right_good (fun i hi => hall i (by omega)) hnd]; rfl)⟩, (List.nil_sublist _), (by simp)⟩
         ·
          refine awp_skip ?_
          refine x_then ?_
          refine awp_region ?_
          refine r_move rfl rfl ?_
          refine r_move rfl rfl ?_
          refine r_mapUpdate 0 (keyEnc_string TF.un9) (ev := boolA) true rfl rfl rfl rfl rfl TF.map70 ?_
          refine awl_nil ?_
          refine x_block ?_
          refine x_then ?_
          refine awp_region ?_
          refine r_ari _ rfl rfl rfl (wrap_id (by first | omega | (simp; omega))) rfl ?_
          refine r_move rfl rfl ?_
          refine awl_nil ?_
          refine x_then ?_
          refine ⟨(namesC x).length - (j + 1), ⟨87, [(0, .a (fcsA d)), (3, .a (.v (.map (some b9)))), (10, .a (fcsA d)), (11, .a (.v (.int .i64 ((d.map FC.cs).length)))), (12, .a (.v (.int .i64 ((k : Int))))), (74, .a (strsA (namesC x))), (75, .a (.v (.int .i64 (((namesC x).map (fun s : ByteArray => [AV.v (.string s)])).length)))), (76, .a (.v (.int .i64 (((j + 1) : Int)))))], [⟨b9, true, .map (encM Value.string boolA ((mset m2 s true)))⟩]⟩, ⟨rfl, (Slots.cons rfl (by first | exact .refl _ | exact .nilOwn _ _ | exact .nilSl _ | exact .ownSl _ _ _  | exact SV.le.of_eq (by simp)) (Slots.cons rfl (by first | exact .refl _ | exact .nilOwn _ _ | exact .nilSl _ | exact .ownSl _ _ _  | exact SV.le.of_eq (by simp)) (Slots.cons rfl (by first | exact .refl _ | exact .nilOwn _ _ | exact .nilSl _ | exact .ownSl _ _ _  | exact SV.le.of_eq (by simp)) (Slots.cons rfl (by first | exact .refl _ | exact .nilOwn _ _ | exact .nilSl _ | exact .ownSl _ _ _  | exact SV.le.of_eq (by simp)) (Slots.cons rfl (by first | exact .refl _ | exact .nilOwn _ _ | exact .nilSl _ | exact .ownSl _ _ _  | exact SV.le.of_eq (by simp)) (Slots.cons rfl (by first | exact .refl _ | exact .nilOwn _ _ | exact .nilSl _ | exact .ownSl _ _ _  | exact SV.le.of_eq (by simp)) (Slots.cons rfl (by first | exact .refl _ | exact .nilOwn _ _ | exact .nilSl _ | exact .ownSl _ _ _  | exact SV.le.of_eq (by simp)) (Slots.cons rfl (by first | exact .refl _ | exact .nilOwn _ _ | exact .nilSl _ | exact .ownSl _ _ _  | exact SV.le.of_eq (by simp)) Slots.nil)))))))), (by first | exact List.Sublist.refl _ | exact .cons_cons _ (.cons _ (.refl _)) | exact List.nil_sublist _ | exact .cons _ (.refl _) | exact .cons _ (.cons _ (.refl _)) | exact .cons _ (.cons _ (.cons _ (.refl _))) | exact .cons _ (.cons _ (.cons _ (.cons _ (.refl _)))) | exact .cons_cons _ (List.nil_sublist _))⟩, (by omega), ⟨j + 1, (mset m2 s true), rfl, rfl, (by omega), (by rw [takeS hs, ← List.append_assoc]; exact nodup_snoc hn2 (fun h => by rw [(hm2 s).2 h] at hc5; cases hc5)), (by rw [takeS hs, ← List.append_assoc]; exact hasS_set hm2)⟩⟩
        ·
         have hge : (namesC x).length ≤ j := by have := of_decide_eq_false hc4; rw [List.length_map] at this; omega
         rw [List.take_of_length_le hge, ← names_take hx] at hn2 hm2
         refine awp_exit ?_
         refine x_thenE ?_
         refine x_thenE ?_
         refine x_blockE ?_
         refine x_block ?_
         refine x_then ?_
         refine awp_region ?_
         refine r_ari _ rfl rfl rfl (wrap_id (by first | omega | (simp; omega))) rfl ?_
         refine r_move rfl rfl ?_
         refine awl_nil ?_
         refine x_then ?_
         refine ⟨d.length - (k + 1), ⟨87, [(0, .a (fcsA d)), (3, .a (.v (.map (some b9)))), (10, .a (fcsA d)), (11, .a (.v (.int .i64 ((d.map FC.cs).length)))), (12, .a (.v (.int .i64 (((k + 1) : Int)))))], [⟨b9, true, .map (encM Value.string boolA (m2))⟩]⟩, ⟨rfl, (Slots.cons rfl (by first | exact .refl _ | exact .nilOwn _ _ | exact .nilSl _ | exact .ownSl _ _ _  | exact SV.le.of_eq (by simp)) (Slots.cons rfl (by first | exact .refl _ | exact .nilOwn _ _ | exact .nilSl _ | exact .ownSl _ _ _  | exact SV.le.of_eq (by simp)) (Slots.cons rfl (by first | exact .refl _ | exact .nilOwn _ _ | exact .nilSl _ | exact .ownSl _ _ _  | exact SV.le.of_eq (by simp)) (Slots.cons rfl (by first | exact .refl _ | exact .nilOwn _ _ | exact .nilSl _ | exact .ownSl _ _ _  | exact SV.le.of_eq (by simp)) (Slots.cons rfl (by first | exact .refl _ | exact .nilOwn _ _ | exact .nilSl _ | exact .ownSl _ _ _  | exact SV.le.of_eq (by simp)) Slots.nil))))), (by first | exact List.Sublist.refl _ | exact .cons_cons _ (.cons _ (.refl _)) | exact List.nil_sublist _ | exact .cons _ (.refl _) | exact .cons _ (.cons _ (.refl _)) | exact .cons _ (.cons _ (.cons _ (.refl _))) | exact .cons _ (.cons _ (.cons _ (.cons _ (.refl _)))) | exact .cons_cons _ (List.nil_sublist _))⟩, (by omega), ⟨k + 1, m2, rfl, rfl, (by omega), (fun i hi => by rcases Nat.lt_succ_iff_lt_or_eq.1 hi with h | rfl; exact hall i h; exact hgood), hn2, hm2⟩⟩
       ·
        have hns : namesC x = [x.name] := by simp [namesC, (by simpa using hc3 : ¬ x.kind = 4)]
        have hnsl : (namesC x).length ≤ 2 := by rw [hns]; simp
        refine awp_skip ?_
        refine x_then ?_
        refine awp_seq ?_
        refine awp_region ?_
        refine r_move rfl rfl ?_
        first | (refine r_lenS rfl rfl TF.sl57 rfl ?_) | (refine r_lenNil rfl TF.sl57 rfl ?_) | (refine r_lenV rfl TF.sl57 rfl ?_)
        refine r_move rfl rfl ?_
        refine awl_nil ?_
        refine x_then ?_
        refine awp_block ?_
        refine awp_loop (fun nn0 S => ∃ j : Nat, ∃ m2 : List (ByteArray × Bool), S = ⟨87, [(0, .a (fcsA d)), (3, .a (.v (.map (some b9)))), (10, .a (fcsA d)), (11, .a (.v (.int .i64 ((d.map FC.cs).length)))), (12, .a (.v (.int .i64 ((k : Int))))), (74, .a (strsA (namesC x))), (75, .a (.v (.int .i64 (((namesC x).map (fun s : ByteArray => [AV.v (.string s)])).length)))), (76, .a (.v (.int .i64 ((j : Int)))))], [⟨b9, true, .map (encM Value.string boolA m2)⟩]⟩ ∧ nn0 = (namesC x).length - j ∧ (j ≤ (namesC x).length) ∧ (((d.take k).flatMap namesC ++ (namesC x).take j).Nodup) ∧ (HasS m2 ((d.take k).flatMap namesC ++ (namesC x).take j))) ((namesC x).length - (0)) ⟨87, [(0, .a (fcsA d)), (3, .a (.v (.map (some b9)))), (10, .a (fcsA d)), (11, .a (.v (.int .i64 ((d.map FC.cs).length)))), (12, .a (.v (.int .i64 ((k : Int))))), (74, .a (strsA (namesC x))), (75, .a (.v (.int .i64 (((namesC x).map (fun s : ByteArray => [AV.v (.string s)])).length)))), (76, .a (.v (.int .i64 (((0) : Int)))))], [⟨b9, true, .map (encM Value.string boolA (m))⟩]⟩ ⟨rfl, (Slots.cons rfl (by first | exact .refl _ | exact .nilOwn _ _ | exact .nilSl _ | exact .ownSl _ _ _  | exact SV.le.ownEq (by first | rfl | (rw [hns]; rfl) | (rw [hns]; simp [chunks])) | exact SV.le.of_eq (by first | rfl | (rw [hns]; rfl) | (rw [hns]; simp [chunks]))) (Slots.cons rfl (by first | exact .refl _ | exact .nilOwn _ _ | exact .nilSl _ | exact .ownSl _ _ _  | exact SV.le.ownEq (by first | rfl | (rw [hns]; rfl) | (rw [hns]; simp [chunks])) | exact SV.le.of_eq (by first | rfl | (rw [hns]; rfl) | (rw [hns]; simp [chunks]))) (Slots.cons rfl (by first | exact .refl _ | exact .nilOwn _ _ | exact .nilSl _ | exact .ownSl _ _ _  | exact SV.le.ownEq (by first | rfl | (rw [hns]; rfl) | (rw [hns]; simp [chunks])) | exact SV.le.of_eq (by first | rfl | (rw [hns]; rfl) | (rw [hns]; simp [chunks]))) (Slots.cons rfl (by first | exact .refl _ | exact .nilOwn _ _ | exact .nilSl _ | exact .ownSl _ _ _  | exact SV.le.ownEq (by first | rfl | (rw [hns]; rfl) | (rw [hns]; simp [chunks])) | exact SV.le.of_eq (by first | rfl | (rw [hns]; rfl) | (rw [hns]; simp [chunks]))) (Slots.cons rfl (by first | exact .refl _ | exact .nilOwn _ _ | exact .nilSl _ | exact .ownSl _ _ _  | exact SV.le.ownEq (by first | rfl | (rw [hns]; rfl) | (rw [hns]; simp [chunks])) | exact SV.le.of_eq (by first | rfl | (rw [hns]; rfl) | (rw [hns]; simp [chunks]))) (Slots.cons rfl (by first | exact .refl _ | exact .nilOwn _ _ | exact .nilSl _ | exact .ownSl _ _ _  | exact SV.le.ownEq (by first | rfl | (rw [hns]; rfl) | (rw [hns]; simp [chunks])) | exact SV.le.of_eq (by first | rfl | (rw [hns]; rfl) | (rw [hns]; simp [chunks]))) (Slots.cons rfl (by first | exact .refl _ | exact .nilOwn _ _ | exact .nilSl _ | exact .ownSl _ _ _  | exact SV.le.ownEq (by first | rfl | (rw [hns]; rfl) | (rw [hns]; simp [chunks])) | exact SV.le.of_eq (by first | rfl | (rw [hns]; rfl) | (rw [hns]; simp [chunks]))) (Slots.cons rfl (by first | exact .refl _ | exact .nilOwn _ _ | exact .nilSl _ | exact .ownSl _ _ _  | exact SV.le.ownEq (by first | rfl | (rw [hns]; rfl) | (rw [hns]; simp [chunks])) | exact SV.le.of_eq (by first | rfl | (rw [hns]; rfl) | (rw [hns]; simp [chunks]))) Slots.nil)))))))), (by first | exact List.Sublist.refl _ | exact .cons_cons _ (.cons _ (.refl _)) | exact List.nil_sublist _ | exact .cons _ (.refl _) | exact .cons _ (.cons _ (.refl _)) | exact .cons _ (.cons _ (.cons _ (.refl _))) | exact .cons _ (.cons _ (.cons _ (.cons _ (.refl _)))) | exact .cons_cons _ (List.nil_sublist _))⟩ ⟨0, m, rfl, rfl, Nat.zero_le _, (by simpa using hnd), (by simpa using hm)⟩ ?_
        rintro nn0 _ ⟨j, m2, rfl, rfl, hj, hn2, hm2⟩
        refine awp_seq ?_
        refine awp_region ?_
        refine r_cmp rfl rfl rfl rfl ?_
        refine awl_nil ?_
        refine x_then ?_
        refine awp_seq ?_
        refine awp_cond rfl (fun hc4 => ?_) (fun hc4 => ?_)
        ·
         have hlts : j < (namesC x).length := by have := of_decide_eq_true hc4; rw [List.length_map] at this; omega
         obtain ⟨s, hs⟩ := get_lt hlts
         refine awp_skip ?_
         refine x_then ?_
         refine awp_seq ?_
         refine awp_block ?_
         refine awp_seq ?_
         refine awp_region ?_
         refine r_index rfl rfl rfl TF.sl57 TF.sz9 (by omega) (get_map hs) rfl ?_
         first | (refine r_load1b 0 rfl rfl rfl TF.agg9 rfl ?_) | (refine r_load1 rfl TF.agg9 rfl ?_)
         refine r_assign rfl rfl ?_
         refine awl_nil ?_
         refine x_then ?_
         refine awp_seq ?_
         refine awp_seq ?_
         refine awp_region ?_
         refine r_move rfl rfl ?_
         refine r_move rfl rfl ?_
         refine r_lookup 0 (keyEnc_string TF.un9) (ev := boolA) false rfl rfl rfl TF.map70 TF.zav4 rfl ?_
         refine awl_nil ?_
         refine x_then ?_
         refine awp_cond rfl (fun hc5 => ?_) (fun hc5 => ?_)
         ·
          refine awp_seq ?_
          refine awp_region ?_
          refine r_assign rfl rfl ?_
          refine awl_nil ?_
          refine x_then ?_
          refine awp_ret ?_
          refine x_thenR ?_
          refine x_blockR ?_
          refine x_thenR ?_
          refine x_thenR ?_
          refine x_blockR ?_
          refine x_blockR ?_
          refine x_thenR ?_
          refine x_thenR ?_
          refine x_blockR ?_
          refine x_thenR ?_
          exact ⟨(.inl rfl), _, [], (.one (by first | exact .mk rfl rfl | exact .nil rfl)), ⟨rfl, by first | (rw [right_bad hltx hbad]; rfl) | (rw [right_dup hx hs ((hm2 s).1 hc5)]; rfl) | (rw [right_good (fun i hi => hall i (by omega)) hnd]; rfl)⟩, (List.nil_sublist _), (by simp)⟩
         ·
          refine awp_skip ?_
          refine x_then ?_
          refine awp_region ?_
          refine r_move rfl rfl ?_
          refine r_move rfl rfl ?_
          refine r_mapUpdate 0 (keyEnc_string TF.un9) (ev := boolA) true rfl rfl rfl rfl rfl TF.map70 ?_
          refine awl_nil ?_
          refine x_block ?_
          refine x_then ?_
          refine awp_region ?_
          refine r_ari _ rfl rfl rfl (wrap_id (by first | omega | (simp; omega))) rfl ?_
          refine r_move rfl rfl ?_
          refine awl_nil ?_
          refine x_then ?_
          refine ⟨(namesC x).length - (j + 1), ⟨87, [(0, .a (fcsA d)), (3, .a (.v (.map (some b9)))), (10, .a (fcsA d)), (11, .a (.v (.int .i64 ((d.map FC.cs).length)))), (12, .a (.v (.int .i64 ((k : Int))))), (74, .a (strsA (namesC x))), (75, .a (.v (.int .i64 (((namesC x).map (fun s : ByteArray => [AV.v (.string s)])).length)))), (76, .a (.v (.int .i64 (((j + 1) : Int)))))], [⟨b9, true, .map (encM Value.string boolA ((mset m2 s true)))⟩]⟩, ⟨rfl, (Slots.cons rfl (by first | exact .refl _ | exact .nilOwn _ _ | exact .nilSl _ | exact .ownSl _ _ _  | exact SV.le.of_eq (by simp)) (Slots.cons rfl (by first | exact .refl _ | exact .nilOwn _ _ | exact .nilSl _ | exact .ownSl _ _ _  | exact SV.le.of_eq (by simp)) (Slots.cons rfl (by first | exact .refl _ | exact .nilOwn _ _ | exact .nilSl _ | exact .ownSl _ _ _  | exact SV.le.of_eq (by simp)) (Slots.cons rfl (by first | exact .refl _ | exact .nilOwn _ _ | exact .nilSl _ | exact .ownSl _ _ _  | exact SV.le.of_eq (by simp)) (Slots.cons rfl (by first | exact .refl _ | exact .nilOwn _ _ | exact .nilSl _ | exact .ownSl _ _ _  | exact SV.le.of_eq (by simp)) (Slots.cons rfl (by first | exact .refl _ | exact .nilOwn _ _ | exact .nilSl _ | exact .ownSl _ _ _  | exact SV.le.of_eq (by simp)) (Slots.cons rfl (by first | exact .refl _ | exact .nilOwn _ _ | exact .nilSl _ | exact .ownSl _ _ _  | exact SV.le.of_eq (by simp)) (Slots.cons rfl (by first | exact .refl _ | exact .nilOwn _ _ | exact .nilSl _ | exact .ownSl _ _ _  | exact SV.le.of_eq (by simp)) Slots.nil)))))))), (by first | exact List.Sublist.refl _ | exact .cons_cons _ (.cons _ (.refl _)) | exact List.nil_sublist _ | exact .cons _ (.refl _) | exact .cons _ (.cons _ (.refl _)) | exact .cons _ (.cons _ (.cons _ (.refl _))) | exact .cons _ (.cons _ (.cons _ (.cons _ (.refl _)))) | exact .cons_cons _ (List.nil_sublist _))⟩, (by omega), ⟨j + 1, (mset m2 s true), rfl, rfl, (by omega), (by rw [takeS hs, ← List.append_assoc]; exact nodup_snoc hn2 (fun h => by rw [(hm2 s).2 h] at hc5; cases hc5)), (by rw [takeS hs, ← List.append_assoc]; exact hasS_set hm2)⟩⟩
        ·
         have hge : (namesC x).length ≤ j := by have := of_decide_eq_false hc4; rw [List.length_map] at this; omega
         rw [List.take_of_length_le hge, ← names_take hx] at hn2 hm2
         refine awp_exit ?_
         refine x_thenE ?_
         refine x_thenE ?_
         refine x_blockE ?_
         refine x_block ?_
         refine x_then ?_
         refine awp_region ?_
         refine r_ari _ rfl rfl rfl (wrap_id (by first | omega | (simp; omega))) rfl ?_
         refine r_move rfl rfl ?_
         refine awl_nil ?_
         refine x_then ?_
         refine ⟨d.length - (k + 1), ⟨87, [(0, .a (fcsA d)), (3, .a (.v (.map (some b9)))), (10, .a (fcsA d)), (11, .a (.v (.int .i64 ((d.map FC.cs).length)))), (12, .a (.v (.int .i64 (((k + 1) : Int)))))], [⟨b9, true, .map (encM Value.string boolA (m2))⟩]⟩, ⟨rfl, (Slots.cons rfl (by first | exact .refl _ | exact .nilOwn _ _ | exact .nilSl _ | exact .ownSl _ _ _  | exact SV.le.of_eq (by simp)) (Slots.cons rfl (by first | exact .refl _ | exact .nilOwn _ _ | exact .nilSl _ | exact .ownSl _ _ _  | exact SV.le.of_eq (by simp)) (Slots.cons rfl (by first | exact .refl _ | exact .nilOwn _ _ | exact .nilSl _ | exact .ownSl _ _ _  | exact SV.le.of_eq (by simp)) (Slots.cons rfl (by first | exact .refl _ | exact .nilOwn _ _ | exact .nilSl _ | exact .ownSl _ _ _  | exact SV.le.of_eq (by simp)) (Slots.cons rfl (by first | exact .refl _ | exact .nilOwn _ _ | exact .nilSl _ | exact .ownSl _ _ _  | exact SV.le.of_eq (by simp)) Slots.nil))))), (by first | exact List.Sublist.refl _ | exact .cons_cons _ (.cons _ (.refl _)) | exact List.nil_sublist _ | exact .cons _ (.refl _) | exact .cons _ (.cons _ (.refl _)) | exact .cons _ (.cons _ (.cons _ (.refl _))) | exact .cons _ (.cons _ (.cons _ (.cons _ (.refl _)))) | exact .cons_cons _ (List.nil_sublist _))⟩, (by omega), ⟨k + 1, m2, rfl, rfl, (by omega), (fun i hi => by rcases Nat.lt_succ_iff_lt_or_eq.1 hi with h | rfl; exact hall i h; exact hgood), hn2, hm2⟩⟩
    ·
     have hk0 : ¬ 0 < k := by have := of_decide_eq_false hg28; omega
     have hgood : okC d k = true := by simp only [okC, hx, hg21, hbr, decide_eq_false hk0]; rfl
     refine awp_drawS [26, 27, 28, 29, 30, 31, 32, 33, 34, 35, 36, 37, 38, 39, 40, 41, 42, 43, 44, 45, 46, 47, 48, 49, 50, 51, 52, 53, 54, 55, 56, 57, 58] [_, _, _, _, _, _, _, _, _, _, _, _, _, _, _, _, _, _, _, _, _, _, _, _, _, _, _, _, _, _, _, _, _] [] [] TF.mixed rfl rfl rfl ⟨⟨⟨⟨⟨⟨⟨⟨⟨⟨⟨⟨⟨⟨⟨⟨⟨⟨⟨⟨⟨⟨⟨⟨⟨⟨⟨⟨⟨⟨⟨⟨⟨trivial
      , ⟨_, rfl, fun sl hd hr ho => by
        refine r_move (hr 4 _ rfl rfl rfl) rfl ?_
        exact awl_nil ⟨rfl, post_put⟩⟩⟩
      , ⟨_, rfl, fun sl hd hr ho => by
        refine r_cmp (hd 0 _ rfl rfl rfl) rfl rfl rfl ?_
        exact awl_nil ⟨rfl, post_put⟩⟩⟩
      , ⟨_, rfl, fun sl hd hr ho => by
        refine r_move (hd 1 _ rfl rfl rfl) rfl ?_
        exact awl_nil ⟨rfl, post_put⟩⟩⟩
      , ⟨_, rfl, fun sl hd hr ho => by
        refine g_skip rfl (hd 2 _ rfl rfl rfl) hg28 rfl ?_
        exact awl_nil ⟨rfl, post_put⟩⟩⟩
      , ⟨_, rfl, fun sl hd hr ho => by
        refine g_skip rfl (hd 2 _ rfl rfl rfl) hg28 rfl ?_
        exact awl_nil ⟨rfl, post_put⟩⟩⟩
      , ⟨_, rfl, fun sl hd hr ho => by
        refine g_skip rfl (hd 2 _ rfl rfl rfl) hg28 rfl ?_
        exact awl_nil ⟨rfl, post_put⟩⟩⟩
      , ⟨_, rfl, fun sl hd hr ho => by
        refine g_skip rfl (hd 2 _ rfl rfl rfl) hg28 rfl ?_
        exact awl_nil ⟨rfl, post_put⟩⟩⟩
      , ⟨_, rfl, fun sl hd hr ho => by
        refine g_skip rfl (hd 2 _ rfl rfl rfl) hg28 rfl ?_
        exact awl_nil ⟨rfl, post_put⟩⟩⟩
      , ⟨_, rfl, fun sl hd hr ho => by
        refine g_skip rfl (hd 2 _ rfl rfl rfl) hg28 rfl ?_
        exact awl_nil ⟨rfl, post_put⟩⟩⟩
      , ⟨_, rfl, fun sl hd hr ho => by
        refine g_skip rfl (hd 2 _ rfl rfl rfl) hg28 rfl ?_
        exact awl_nil ⟨rfl, post_put⟩⟩⟩
      , ⟨_, rfl, fun sl hd hr ho => by
        refine g_skip rfl (hd 2 _ rfl rfl rfl) hg28 rfl ?_
        exact awl_nil ⟨rfl, post_put⟩⟩⟩
      , ⟨_, rfl, fun sl hd hr ho => by
        refine g_skip rfl (hd 2 _ rfl rfl rfl) hg28 rfl ?_
        exact awl_nil ⟨rfl, post_put⟩⟩⟩
      , ⟨_, rfl, fun sl hd hr ho => by
        refine g_skip rfl (hd 2 _ rfl rfl rfl) hg28 rfl ?_
        exact awl_nil ⟨rfl, post_put⟩⟩⟩
      , ⟨_, rfl, fun sl hd hr ho => by
        refine g_skip rfl (hd 2 _ rfl rfl rfl) hg28 rfl ?_
        exact awl_nil ⟨rfl, post_put⟩⟩⟩
      , ⟨_, rfl, fun sl hd hr ho => by
        refine g_skip rfl (hd 2 _ rfl rfl rfl) hg28 rfl ?_
        exact awl_nil ⟨rfl, post_put⟩⟩⟩
      , ⟨_, rfl, fun sl hd hr ho => by
        refine g_skipU rfl (hd 14 _ rfl rfl rfl) rfl ?_
        exact awl_nil ⟨rfl, post_put⟩⟩⟩
      , ⟨_, rfl, fun sl hd hr ho => by
        refine g_skipU rfl (hd 14 _ rfl rfl rfl) rfl ?_
        exact awl_nil ⟨rfl, post_put⟩⟩⟩
      , ⟨_, rfl, fun sl hd hr ho => by
        refine g_skipU rfl (hd 14 _ rfl rfl rfl) rfl ?_
        exact awl_nil ⟨rfl, post_put⟩⟩⟩
      , ⟨_, rfl, fun sl hd hr ho => by
        refine g_skipU rfl (hd 14 _ rfl rfl rfl) rfl ?_
        exact awl_nil ⟨rfl, post_put⟩⟩⟩
      , ⟨_, rfl, fun sl hd hr ho => by
        refine g_skipU rfl (hd 14 _ rfl rfl rfl) rfl ?_
        exact awl_nil ⟨rfl, post_put⟩⟩⟩
      , ⟨_, rfl, fun sl hd hr ho => by
        refine g_skipU rfl (hd 14 _ rfl rfl rfl) rfl ?_
        exact awl_nil ⟨rfl, post_put⟩⟩⟩
      , ⟨_, rfl, fun sl hd hr ho => by
        refine g_skipU rfl (hd 14 _ rfl rfl rfl) rfl ?_
        exact awl_nil ⟨rfl, post_put⟩⟩⟩
      , ⟨_, rfl, fun sl hd hr ho => by
        refine g_skipU rfl (hd 14 _ rfl rfl rfl) rfl ?_
        exact awl_nil ⟨rfl, post_put⟩⟩⟩
      , ⟨_, rfl, fun sl hd hr ho => by
        refine g_skipU rfl (hd 14 _ rfl rfl rfl) rfl ?_
        exact awl_nil ⟨rfl, post_put⟩⟩⟩
      , ⟨_, rfl, fun sl hd hr ho => by
        refine g_skipU rfl (hd 14 _ rfl rfl rfl) rfl ?_
        exact awl_nil ⟨rfl, post_put⟩⟩⟩
      , ⟨_, rfl, fun sl hd hr ho => by
        refine g_skipU rfl (hd 24 _ rfl rfl rfl) rfl ?_
        exact awl_nil ⟨rfl, post_put⟩⟩⟩
      , ⟨_, rfl, fun sl hd hr ho => by
        refine g_skipU rfl (hd 24 _ rfl rfl rfl) rfl ?_
        exact awl_nil ⟨rfl, post_put⟩⟩⟩
      , ⟨_, rfl, fun sl hd hr ho => by
        refine g_skipU rfl (hd 24 _ rfl rfl rfl) rfl ?_
        exact awl_nil ⟨rfl, post_put⟩⟩⟩
      , ⟨_, rfl, fun sl hd hr ho => by
        refine g_skipU rfl (hd 24 _ rfl rfl rfl) rfl ?_
        exact awl_nil ⟨rfl, post_put⟩⟩⟩
      , ⟨_, rfl, fun sl hd hr ho => by
        refine g_skipU rfl (hd 24 _ rfl rfl rfl) rfl ?_
        exact awl_nil ⟨rfl, post_put⟩⟩⟩
      , ⟨_, rfl, fun sl hd hr ho => by
        refine g_skipU rfl (hd 24 _ rfl rfl rfl) rfl ?_
        exact awl_nil ⟨rfl, post_put⟩⟩⟩
      , ⟨_, rfl, fun sl hd hr ho => by
        refine g_skipU rfl (hd 24 _ rfl rfl rfl) rfl ?_
        exact awl_nil ⟨rfl, post_put⟩⟩⟩
      , ⟨_, rfl, fun sl hd hr ho => by
        refine g_skipU rfl (hd 24 _ rfl rfl rfl) rfl ?_
        exact awl_nil ⟨rfl, post_put⟩⟩⟩
      (by rfl) ?_
     refine g_skipU rfl rfl rfl ?_
     refine g_skipU rfl rfl rfl ?_
     refine g_skip rfl rfl hg28 rfl ?_
     refine r_pickF rfl hg28 rfl rfl ?_
     refine awl_nil ?_
     refine x_then ?_
     refine awp_condF rfl ?_
     refine awp_skip ?_
     refine x_then ?_
     refine awp_seq ?_
     refine awp_region ?_
     first | (refine r_fieldb rfl TF.f50_1 TF.sz9 rfl ?_) | (refine r_fieldcp rfl TF.f50_1 TF.sz9 rfl ?_)
     first | (refine r_load1b 0 rfl rfl rfl TF.agg9 rfl ?_) | (refine r_load1 rfl TF.agg9 rfl ?_) | (refine r_load1b 1 rfl rfl rfl TF.agg9 rfl ?_)
     refine r_lit 65 (parts := [(0, .tmp 64)]) rfl TF.sl57 TF.sz9 TF.zraw9 rfl rfl rfl rfl rfl rfl rfl ?_
     refine r_assign rfl rfl ?_
     refine awl_nil ?_
     refine x_then ?_
     refine awp_seq ?_
     refine awp_seq ?_
     refine awp_region ?_
     first | (refine r_fieldb rfl TF.f50_0 TF.sz3 rfl ?_) | (refine r_fieldcp rfl TF.f50_0 TF.sz3 rfl ?_)
     first | (refine r_load1b 0 rfl rfl rfl TF.agg3 rfl ?_) | (refine r_load1 rfl TF.agg3 rfl ?_) | (refine r_load1b 1 rfl rfl rfl TF.agg3 rfl ?_)
     refine r_cmp rfl rfl rfl rfl ?_
     refine awl_nil ?_
     refine x_then ?_
     refine awp_cond rfl (fun hc3 => ?_) (fun hc3 => ?_)
     ·
      have hns : namesC x = [x.name, x.to] := by simp [namesC, (eq_of_beq hc3 : x.kind = 4)]
      have hnsl : (namesC x).length ≤ 2 := by rw [hns]; simp
      refine awp_region ?_
      refine r_move rfl rfl ?_
      first | (refine r_fieldb rfl TF.f50_2 TF.sz9 rfl ?_) | (refine r_fieldcp rfl TF.f50_2 TF.sz9 rfl ?_)
      first | (refine r_load1b 0 rfl rfl rfl TF.agg9 rfl ?_) | (refine r_load1 rfl TF.agg9 rfl ?_) | (refine r_load1b 1 rfl rfl rfl TF.agg9 rfl ?_)
      refine r_lit 72 (parts := [(0, .tmp 71)]) rfl TF.sl57 TF.sz9 TF.zraw9 rfl rfl rfl rfl rfl rfl rfl ?_
      refine r_append 65 rfl (by first | exact .own _ | exact .nil) rfl (by first | exact .sl _ | exact .own _ _ | exact .nil) TF.sl57 TF.sz9 (by decide) TF.by9 TF.zlen9 (by simp [chunks] <;> omega) (by simp [chunks] <;> omega) rfl ?_
      refine r_assign rfl rfl ?_
      refine awl_nil ?_
      refine x_then ?_
      refine awp_seq ?_
      refine awp_region ?_
      refine r_move rfl rfl ?_
      first | (refine r_lenS rfl rfl TF.sl57 rfl ?_) | (refine r_lenNil rfl TF.sl57 rfl ?_) | (refine r_lenV rfl TF.sl57 rfl ?_)
      refine r_move rfl rfl ?_
      refine awl_nil ?_
      refine x_then ?_
      refine awp_block ?_
      refine awp_loop (fun nn0 S => ∃ j : Nat, ∃ m2 : List (ByteArray × Bool), S = ⟨87, [(0, .a (fcsA d)), (3, .a (.v (.map (some b9)))), (10, .a (fcsA d)), (11, .a (.v (.int .i64 ((d.map FC.cs).length)))), (12, .a (.v (.int .i64 ((k : Int))))), (74, .a (strsA (namesC x))), (75, .a (.v (.int .i64 (((namesC x).map (fun s : ByteArray => [AV.v (.string s)])).length)))), (76, .a (.v (.int .i64 ((j : Int)))))], [⟨b9, true, .map (encM Value.string boolA m2)⟩]⟩ ∧ nn0 = (namesC x).length - j ∧ (j ≤ (namesC x).length) ∧ (((d.take k).flatMap namesC ++ (namesC x).take j).Nodup) ∧ (HasS m2 ((d.take k).flatMap namesC ++ (namesC x).take j))) ((namesC x).length - (0)) ⟨87, [(0, .a (fcsA d)), (3, .a (.v (.map (some b9)))), (10, .a (fcsA d)), (11, .a (.v (.int .i64 ((d.map FC.cs).length)))), (12, .a (.v (.int .i64 ((k : Int))))), (74, .a (strsA (namesC x))), (75, .a (.v (.int .i64 (((namesC x).map (fun s : ByteArray => [AV.v (.string s)])).length)))), (76, .a (.v (.int .i64 (((0) : Int)))))], [⟨b9, true, .map (encM Value.string boolA (m))⟩]⟩ ⟨rfl, (Slots.cons rfl (by first | exact .refl _ | exact .nilOwn _ _ | exact .nilSl _ | exact .ownSl _ _ _  | exact SV.le.ownEq (by first | rfl | (rw [hns]; rfl) | (rw [hns]; simp [chunks])) | exact SV.le.of_eq (by first | rfl | (rw [hns]; rfl) | (rw [hns]; simp [chunks]))) (Slots.cons rfl (by first | exact .refl _ | exact .nilOwn _ _ | exact .nilSl _ | exact .ownSl _ _ _  | exact SV.le.ownEq (by first | rfl | (rw [hns]; rfl) | (rw [hns]; simp [chunks])) | exact SV.le.of_eq (by first | rfl | (rw [hns]; rfl) | (rw [hns]; simp [chunks]))) (Slots.cons rfl (by first | exact .refl _ | exact .nilOwn _ _ | exact .nilSl _ | exact .ownSl _ _ _  | exact SV.le.ownEq (by first | rfl | (rw [hns]; rfl) | (rw [hns]; simp [chunks])) | exact SV.le.of_eq (by first | rfl | (rw [hns]; rfl) | (rw [hns]; simp [chunks]))) (Slots.cons rfl (by first | exact .refl _ | exact .nilOwn _ _ | exact .nilSl _ | exact .ownSl _ _ _  | exact SV.le.ownEq (by first | rfl | (rw [hns]; rfl) | (rw [hns]; simp [chunks])) | exact SV.le.of_eq (by first | rfl | (rw [hns]; rfl) | (rw [hns]; simp [chunks]))) (Slots.cons rfl (by first | exact .refl _ | exact .nilOwn _ _ | exact .nilSl _ | exact .ownSl _ _ _  | exact SV.le.ownEq (by first | rfl | (rw [hns]; rfl) | (rw [hns]; simp [chunks])) | exact SV.le.of_eq (by first | rfl | (rw [hns]; rfl) | (rw [hns]; simp [chunks]))) (Slots.cons rfl (by first | exact .refl _ | exact .nilOwn _ _ | exact .nilSl _ | exact .ownSl _ _ _  | exact SV.le.ownEq (by first | rfl | (rw [hns]; rfl) | (rw [hns]; simp [chunks])) | exact SV.le.of_eq (by first | rfl | (rw [hns]; rfl) | (rw [hns]; simp [chunks]))) (Slots.cons rfl (by first | exact .refl _ | exact .nilOwn _ _ | exact .nilSl _ | exact .ownSl _ _ _  | exact SV.le.ownEq (by first | rfl | (rw [hns]; rfl) | (rw [hns]; simp [chunks])) | exact SV.le.of_eq (by first | rfl | (rw [hns]; rfl) | (rw [hns]; simp [chunks]))) (Slots.cons rfl (by first | exact .refl _ | exact .nilOwn _ _ | exact .nilSl _ | exact .ownSl _ _ _  | exact SV.le.ownEq (by first | rfl | (rw [hns]; rfl) | (rw [hns]; simp [chunks])) | exact SV.le.of_eq (by first | rfl | (rw [hns]; rfl) | (rw [hns]; simp [chunks]))) Slots.nil)))))))), (by first | exact List.Sublist.refl _ | exact .cons_cons _ (.cons _ (.refl _)) | exact List.nil_sublist _ | exact .cons _ (.refl _) | exact .cons _ (.cons _ (.refl _)) | exact .cons _ (.cons _ (.cons _ (.refl _))) | exact .cons _ (.cons _ (.cons _ (.cons _ (.refl _)))) | exact .cons_cons _ (List.nil_sublist _))⟩ ⟨0, m, rfl, rfl, Nat.zero_le _, (by simpa using hnd), (by simpa using hm)⟩ ?_
      rintro nn0 _ ⟨j, m2, rfl, rfl, hj, hn2, hm2⟩
      refine awp_seq ?_
      refine awp_region ?_
      refine r_cmp rfl rfl rfl rfl ?_
      refine awl_nil ?_
      refine x_then ?_
      refine awp_seq ?_
      refine awp_cond rfl (fun hc4 => ?_) (fun hc4 => ?_)
      ·
       have hlts : j < (namesC x).length := by have := of_decide_eq_true hc4; rw [List.length_map] at this; omega
       obtain ⟨s, hs⟩ := get_lt hlts
       refine awp_skip ?_
       refine x_then ?_
       refine awp_seq ?_
       refine awp_block ?_
       refine awp_seq ?_
       refine awp_region ?_
       refine r_index rfl rfl rfl TF.sl57 TF.sz9 (by omega) (get_map hs) rfl ?_
       first | (refine r_load1b 0 rfl rfl rfl TF.agg9 rfl ?_) | (refine r_load1 rfl TF.agg9 rfl ?_)
       refine r_assign rfl rfl ?_
       refine awl_nil ?_
       refine x_then ?_
       refine awp_seq ?_
       refine awp_seq ?_
       refine awp_region ?_
       refine r_move rfl rfl ?_
       refine r_move rfl rfl ?_
       refine r_lookup 0 (keyEnc_string TF.un9) (ev := boolA) false rfl rfl rfl TF.map70 TF.zav4 rfl ?_
       refine awl_nil ?_
       refine x_then ?_
       refine awp_cond rfl (fun hc5 => ?_) (fun hc5 => ?_)
       ·
        refine awp_seq ?_
        refine awp_region ?_
        refine r_assign rfl rfl ?_
        refine awl_nil ?_
        refine x_then ?_
        refine awp_ret ?_
        refine x_thenR ?_
        refine x_blockR ?_
        refine x_thenR ?_
        refine x_thenR ?_
        refine x_blockR ?_
        refine x_blockR ?_
        refine x_thenR ?_
        refine x_thenR ?_
        refine x_blockR ?_
        refine x_thenR ?_
        exact ⟨(.inl rfl), _, [], (.one (by first | exact .mk rfl rfl | exact .nil rfl)), ⟨rfl, by first | (rw [right_bad hltx hbad]; rfl) | (rw [right_dup hx hs ((hm2 s).1 hc5)]; rfl) | (rw [right_good (fun i hi => hall i (by omega)) hnd]; rfl)⟩, (List.nil_sublist _), (by simp)⟩
       ·
        refine awp_skip ?_
        refine x_then ?_
        refine awp_region ?_
        refine r_move rfl rfl ?_
        refine r_move rfl rfl ?_
        refine r_mapUpdate 0 (keyEnc_string TF.un9) (ev := boolA) true rfl rfl rfl rfl rfl TF.map70 ?_
        refine awl_nil ?_
        refine x_block ?_
        refine x_then ?_
        refine awp_region ?_
        refine r_ari _ rfl rfl rfl (wrap_id (by first | omega | (simp; omega))) rfl ?_
        refine r_move rfl rfl ?_
        refine awl_nil ?_
        refine x_then ?_
        refine ⟨(namesC x).length - (j + 1), ⟨87, [(0, .a (fcsA d)), (3, .a (.v (.map (some b9)))), (10, .a (fcsA d)), (11, .a (.v (.int .i64 ((d.map FC.cs).length)))), (12, .a (.v (.int .i64 ((k : Int))))), (74, .a (strsA (namesC x))), (75, .a (.v (.int .i64 (((namesC x).map (fun s : ByteArray => [AV.v (.string s)])).length)))), (76, .a (.v (.int .i64 (((j + 1) : Int)))))], [⟨b9, true, .map (encM Value.string boolA ((mset m2 s true)))⟩]⟩, ⟨rfl, (Slots.cons rfl (by first | exact .refl _ | exact .nilOwn _ _ | exact .nilSl _ | exact .ownSl _ _ _  | exact SV.le.of_eq (by simp)) (Slots.cons rfl (by first | exact .refl _ | exact .nilOwn _ _ | exact .nilSl _ | exact .ownSl _ _ _  | exact SV.le.of_eq (by simp)) (Slots.cons rfl (by first | exact .refl _ | exact .nilOwn _ _ | exact .nilSl _ | exact .ownSl _ _ _  | exact SV.le.of_eq (by simp)) (Slots.cons rfl (by first | exact .refl _ | exact .nilOwn _ _ | exact .nilSl _ | exact .ownSl _ _ _  | exact SV.le.of_eq (by simp)) (Slots.cons rfl (by first | exact .refl _ | exact .nilOwn _ _ | exact .nilSl _ | exact .ownSl _ _ _  | exact SV.le.of_eq (by simp)) (Slots.cons rfl (by first | exact .refl _ | exact .nilOwn _ _ | exact .nilSl _ | exact .ownSl _ _ _  | exact SV.le.of_eq (by simp)) (Slots.cons rfl (by first | exact .refl _ | exact .nilOwn _ _ | exact .nilSl _ | exact .ownSl _ _ _  | exact SV.le.of_eq (by simp)) (Slots.cons rfl (by first | exact .refl _ | exact .nilOwn _ _ | exact .nilSl _ | exact .ownSl _ _ _  | exact SV.le.of_eq (by simp)) Slots.nil)))))))), (by first | exact List.Sublist.refl _ | exact .cons_cons _ (.cons _ (.refl _)) | exact List.nil_sublist _ | exact .cons _ (.refl _) | exact .cons _ (.cons _ (.refl _)) | exact .cons _ (.cons _ (.cons _ (.refl _))) | exact .cons _ (.cons _ (.cons _ (.cons _ (.refl _)))) | exact .cons_cons _ (List.nil_sublist _))⟩, (by omega), ⟨j + 1, (mset m2 s true), rfl, rfl, (by omega), (by rw [takeS hs, ← List.append_assoc]; exact nodup_snoc hn2 (fun h => by rw [(hm2 s).2 h] at hc5; cases hc5)), (by rw [takeS hs, ← List.append_assoc]; exact hasS_set hm2)⟩⟩
      ·
       have hge : (namesC x).length ≤ j := by have := of_decide_eq_false hc4; rw [List.length_map] at this; omega
       rw [List.take_of_length_le hge, ← names_take hx] at hn2 hm2
       refine awp_exit ?_
       refine x_thenE ?_
       refine x_thenE ?_
       refine x_blockE ?_
       refine x_block ?_
       refine x_then ?_
       refine awp_region ?_
       refine r_ari _ rfl rfl rfl (wrap_id (by first | omega | (simp; omega))) rfl ?_
       refine r_move rfl rfl ?_
       refine awl_nil ?_
       refine x_then ?_
       refine ⟨d.length - (k + 1), ⟨87, [(0, .a (fcsA d)), (3, .a (.v (.map (some b9)))), (10, .a (fcsA d)), (11, .a (.v (.int .i64 ((d.map FC.cs).length)))), (12, .a (.v (.int .i64 (((k + 1) : Int)))))], [⟨b9, true, .map (encM Value.string boolA (m2))⟩]⟩, ⟨rfl, (Slots.cons rfl (by first | exact .refl _ | exact .nilOwn _ _ | exact .nilSl _ | exact .ownSl _ _ _  | exact SV.le.of_eq (by simp)) (Slots.cons rfl (by first | exact .refl _ | exact .nilOwn _ _ | exact .nilSl _ | exact .ownSl _ _ _  | exact SV.le.of_eq (by simp)) (Slots.cons rfl (by first | exact .refl _ | exact .nilOwn _ _ | exact .nilSl _ | exact .ownSl _ _ _  | exact SV.le.of_eq (by simp)) (Slots.cons rfl (by first | exact .refl _ | exact .nilOwn _ _ | exact .nilSl _ | exact .ownSl _ _ _  | exact SV.le.of_eq (by simp)) (Slots.cons rfl (by first | exact .refl _ | exact .nilOwn _ _ | exact .nilSl _ | exact .ownSl _ _ _  | exact SV.le.of_eq (by simp)) Slots.nil))))), (by first | exact List.Sublist.refl _ | exact .cons_cons _ (.cons _ (.refl _)) | exact List.nil_sublist _ | exact .cons _ (.refl _) | exact .cons _ (.cons _ (.refl _)) | exact .cons _ (.cons _ (.cons _ (.refl _))) | exact .cons _ (.cons _ (.cons _ (.cons _ (.refl _)))) | exact .cons_cons _ (List.nil_sublist _))⟩, (by omega), ⟨k + 1, m2, rfl, rfl, (by omega), (fun i hi => by rcases Nat.lt_succ_iff_lt_or_eq.1 hi with h | rfl; exact hall i h; exact hgood), hn2, hm2⟩⟩
     ·
      have hns : namesC x = [x.name] := by simp [namesC, (by simpa using hc3 : ¬ x.kind = 4)]
      have hnsl : (namesC x).length ≤ 2 := by rw [hns]; simp
      refine awp_skip ?_
      refine x_then ?_
      refine awp_seq ?_
      refine awp_region ?_
      refine r_move rfl rfl ?_
      first | (refine r_lenS rfl rfl TF.sl57 rfl ?_) | (refine r_lenNil rfl TF.sl57 rfl ?_) | (refine r_lenV rfl TF.sl57 rfl ?_)
      refine r_move rfl rfl ?_
      refine awl_nil ?_
      refine x_then ?_
      refine awp_block ?_
      refine awp_loop (fun nn0 S => ∃ j : Nat, ∃ m2 : List (ByteArray × Bool), S = ⟨87, [(0, .a (fcsA d)), (3, .a (.v (.map (some b9)))), (10, .a (fcsA d)), (11, .a (.v (.int .i64 ((d.map FC.cs).length)))), (12, .a (.v (.int .i64 ((k : Int))))), (74, .a (strsA (namesC x))), (75, .a (.v (.int .i64 (((namesC x).map (fun s : ByteArray => [AV.v (.string s)])).length)))), (76, .a (.v (.int .i64 ((j : Int)))))], [⟨b9, true, .map (encM Value.string boolA m2)⟩]⟩ ∧ nn0 = (namesC x).length - j ∧ (j ≤ (namesC x).length) ∧ (((d.take k).flatMap namesC ++ (namesC x).take j).Nodup) ∧ (HasS m2 ((d.take k).flatMap namesC ++ (namesC x).take j))) ((namesC x).length - (0)) ⟨87, [(0, .a (fcsA d)), (3, .a (.v (.map (some b9)))), (10, .a (fcsA d)), (11, .a (.v (.int .i64 ((d.map FC.cs).length)))), (12, .a (.v (.int .i64 ((k : Int))))), (74, .a (strsA (namesC x))), (75, .a (.v (.int .i64 (((namesC x).map (fun s : ByteArray => [AV.v (.string s)])).length)))), (76, .a (.v (.int .i64 (((0) : Int)))))], [⟨b9, true, .map (encM Value.string boolA (m))⟩]⟩ ⟨rfl, (Slots.cons rfl (by first | exact .refl _ | exact .nilOwn _ _ | exact .nilSl _ | exact .ownSl _ _ _  | exact SV.le.ownEq (by first | rfl | (rw [hns]; rfl) | (rw [hns]; simp [chunks])) | exact SV.le.of_eq (by first | rfl | (rw [hns]; rfl) | (rw [hns]; simp [chunks]))) (Slots.cons rfl (by first | exact .refl _ | exact .nilOwn _ _ | exact .nilSl _ | exact .ownSl _ _ _  | exact SV.le.ownEq (by first | rfl | (rw [hns]; rfl) | (rw [hns]; simp [chunks])) | exact SV.le.of_eq (by first | rfl | (rw [hns]; rfl) | (rw [hns]; simp [chunks]))) (Slots.cons rfl (by first | exact .refl _ | exact .nilOwn _ _ | exact .nilSl _ | exact .ownSl _ _ _  | exact SV.le.ownEq (by first | rfl | (rw [hns]; rfl) | (rw [hns]; simp [chunks])) | exact SV.le.of_eq (by first | rfl | (rw [hns]; rfl) | (rw [hns]; simp [chunks]))) (Slots.cons rfl (by first | exact .refl _ | exact .nilOwn _ _ | exact .nilSl _ | exact .ownSl _ _ _  | exact SV.le.ownEq (by first | rfl | (rw [hns]; rfl) | (rw [hns]; simp [chunks])) | exact SV.le.of_eq (by first | rfl | (rw [hns]; rfl) | (rw [hns]; simp [chunks]))) (Slots.cons rfl (by first | exact .refl _ | exact .nilOwn _ _ | exact .nilSl _ | exact .ownSl _ _ _  | exact SV.le.ownEq (by first | rfl | (rw [hns]; rfl) | (rw [hns]; simp [chunks])) | exact SV.le.of_eq (by first | rfl | (rw [hns]; rfl) | (rw [hns]; simp [chunks]))) (Slots.cons rfl (by first | exact .refl _ | exact .nilOwn _ _ | exact .nilSl _ | exact .ownSl _ _ _  | exact SV.le.ownEq (by first | rfl | (rw [hns]; rfl) | (rw [hns]; simp [chunks])) | exact SV.le.of_eq (by first | rfl | (rw [hns]; rfl) | (rw [hns]; simp [chunks]))) (Slots.cons rfl (by first | exact .refl _ | exact .nilOwn _ _ | exact .nilSl _ | exact .ownSl _ _ _  | exact SV.le.ownEq (by first | rfl | (rw [hns]; rfl) | (rw [hns]; simp [chunks])) | exact SV.le.of_eq (by first | rfl | (rw [hns]; rfl) | (rw [hns]; simp [chunks]))) (Slots.cons rfl (by first | exact .refl _ | exact .nilOwn _ _ | exact .nilSl _ | exact .ownSl _ _ _  | exact SV.le.ownEq (by first | rfl | (rw [hns]; rfl) | (rw [hns]; simp [chunks])) | exact SV.le.of_eq (by first | rfl | (rw [hns]; rfl) | (rw [hns]; simp [chunks]))) Slots.nil)))))))), (by first | exact List.Sublist.refl _ | exact .cons_cons _ (.cons _ (.refl _)) | exact List.nil_sublist _ | exact .cons _ (.refl _) | exact .cons _ (.cons _ (.refl _)) | exact .cons _ (.cons _ (.cons _ (.refl _))) | exact .cons _ (.cons _ (.cons _ (.cons _ (.refl _)))) | exact .cons_cons _ (List.nil_sublist _))⟩ ⟨0, m, rfl, rfl, Nat.zero_le _, (by simpa using hnd), (by simpa using hm)⟩ ?_
      rintro nn0 _ ⟨j, m2, rfl, rfl, hj, hn2, hm2⟩
      refine awp_seq ?_
      refine awp_region ?_
      refine r_cmp rfl rfl rfl rfl ?_
      refine awl_nil ?_
      refine x_then ?_
      refine awp_seq ?_
      refine awp_cond rfl (fun hc4 => ?_) (fun hc4 => ?_)
      ·
       have hlts : j < (namesC x).length := by have := of_decide_eq_true hc4; rw [List.length_map] at this; omega
       obtain ⟨s, hs⟩ := get_lt hlts
       refine awp_skip ?_
       refine x_then ?_
       refine awp_seq ?_
       refine awp_block ?_
       refine awp_seq ?_
       refine awp_region ?_
       refine r_index rfl rfl rfl TF.sl57 TF.sz9 (by omega) (get_map hs) rfl ?_
       first | (refine r_load1b 0 rfl rfl rfl TF.agg9 rfl ?_) | (refine r_load1 rfl TF.agg9 rfl ?_)
       refine r_assign rfl rfl ?_
       refine awl_nil ?_
       refine x_then ?_
       refine awp_seq ?_
       refine awp_seq ?_
       refine awp_region ?_
       refine r_move rfl rfl ?_
       refine r_move rfl rfl ?_
       refine r_lookup 0 (keyEnc_string TF.un9) (ev := boolA) false rfl rfl rfl TF.map70 TF.zav4 rfl ?_
       refine awl_nil ?_
       refine x_then ?_
       refine awp_cond rfl (fun hc5 => ?_) (fun hc5 => ?_)
       ·
        refine awp_seq ?_
        refine awp_region ?_
        refine r_assign rfl rfl ?_
        refine awl_nil ?_
        refine x_then ?_
        refine awp_ret ?_
        refine x_thenR ?_
        refine x_blockR ?_
        refine x_thenR ?_
        refine x_thenR ?_
        refine x_blockR ?_
        refine x_blockR ?_
        refine x_thenR ?_
        refine x_thenR ?_
        refine x_blockR ?_
        refine x_thenR ?_
        exact ⟨(.inl rfl), _, [], (.one (by first | exact .mk rfl rfl | exact .nil rfl)), ⟨rfl, by first | (rw [right_bad hltx hbad]; rfl) | (rw [right_dup hx hs ((hm2 s).1 hc5)]; rfl) | (rw [right_good (fun i hi => hall i (by omega)) hnd]; rfl)⟩, (List.nil_sublist _), (by simp)⟩
       ·
        refine awp_skip ?_
        refine x_then ?_
        refine awp_region ?_
        refine r_move rfl rfl ?_
        refine r_move rfl rfl ?_
        refine r_mapUpdate 0 (keyEnc_string TF.un9) (ev := boolA) true rfl rfl rfl rfl rfl TF.map70 ?_
        refine awl_nil ?_
        refine x_block ?_
        refine x_then ?_
        refine awp_region ?_
        refine r_ari _ rfl rfl rfl (wrap_id (by first | omega | (simp; omega))) rfl ?_
        refine r_move rfl rfl ?_
        refine awl_nil ?_
        refine x_then ?_
        refine ⟨(namesC x).length - (j + 1), ⟨87, [(0, .a (fcsA d)), (3, .a (.v (.map (some b9)))), (10, .a (fcsA d)), (11, .a (.v (.int .i64 ((d.map FC.cs).length)))), (12, .a (.v (.int .i64 ((k : Int))))), (74, .a (strsA (namesC x))), (75, .a (.v (.int .i64 (((namesC x).map (fun s : ByteArray => [AV.v (.string s)])).length)))), (76, .a (.v (.int .i64 (((j + 1) : Int)))))], [⟨b9, true, .map (encM Value.string boolA ((mset m2 s true)))⟩]⟩, ⟨rfl, (Slots.cons rfl (by first | exact .refl _ | exact .nilOwn _ _ | exact .nilSl _ | exact .ownSl _ _ _  | exact SV.le.of_eq (by simp)) (Slots.cons rfl (by first | exact .refl _ | exact .nilOwn _ _ | exact .nilSl _ | exact .ownSl _ _ _  | exact SV.le.of_eq (by simp)) (Slots.cons rfl (by first | exact .refl _ | exact .nilOwn _ _ | exact .nilSl _ | exact .ownSl _ _ _  | exact SV.le.of_eq (by simp)) (Slots.cons rfl (by first | exact .refl _ | exact .nilOwn _ _ | exact .nilSl _ | exact .ownSl _ _ _  | exact SV.le.of_eq (by simp)) (Slots.cons rfl (by first | exact .refl _ | exact .nilOwn _ _ | exact .nilSl _ | exact .ownSl _ _ _  | exact SV.le.of_eq (by simp)) (Slots.cons rfl (by first | exact .refl _ | exact .nilOwn _ _ | exact .nilSl _ | exact .ownSl _ _ _  | exact SV.le.of_eq (by simp)) (Slots.cons rfl (by first | exact .refl _ | exact .nilOwn _ _ | exact .nilSl _ | exact .ownSl _ _ _  | exact SV.le.of_eq (by simp)) (Slots.cons rfl (by first | exact .refl _ | exact .nilOwn _ _ | exact .nilSl _ | exact .ownSl _ _ _  | exact SV.le.of_eq (by simp)) Slots.nil)))))))), (by first | exact List.Sublist.refl _ | exact .cons_cons _ (.cons _ (.refl _)) | exact List.nil_sublist _ | exact .cons _ (.refl _) | exact .cons _ (.cons _ (.refl _)) | exact .cons _ (.cons _ (.cons _ (.refl _))) | exact .cons _ (.cons _ (.cons _ (.cons _ (.refl _)))) | exact .cons_cons _ (List.nil_sublist _))⟩, (by omega), ⟨j + 1, (mset m2 s true), rfl, rfl, (by omega), (by rw [takeS hs, ← List.append_assoc]; exact nodup_snoc hn2 (fun h => by rw [(hm2 s).2 h] at hc5; cases hc5)), (by rw [takeS hs, ← List.append_assoc]; exact hasS_set hm2)⟩⟩
      ·
       have hge : (namesC x).length ≤ j := by have := of_decide_eq_false hc4; rw [List.length_map] at this; omega
       rw [List.take_of_length_le hge, ← names_take hx] at hn2 hm2
       refine awp_exit ?_
       refine x_thenE ?_
       refine x_thenE ?_
       refine x_blockE ?_
       refine x_block ?_
       refine x_then ?_
       refine awp_region ?_
       refine r_ari _ rfl rfl rfl (wrap_id (by first | omega | (simp; omega))) rfl ?_
       refine r_move rfl rfl ?_
       refine awl_nil ?_
       refine x_then ?_
       refine ⟨d.length - (k + 1), ⟨87, [(0, .a (fcsA d)), (3, .a (.v (.map (some b9)))), (10, .a (fcsA d)), (11, .a (.v (.int .i64 ((d.map FC.cs).length)))), (12, .a (.v (.int .i64 (((k + 1) : Int)))))], [⟨b9, true, .map (encM Value.string boolA (m2))⟩]⟩, ⟨rfl, (Slots.cons rfl (by first | exact .refl _ | exact .nilOwn _ _ | exact .nilSl _ | exact .ownSl _ _ _  | exact SV.le.of_eq (by simp)) (Slots.cons rfl (by first | exact .refl _ | exact .nilOwn _ _ | exact .nilSl _ | exact .ownSl _ _ _  | exact SV.le.of_eq (by simp)) (Slots.cons rfl (by first | exact .refl _ | exact .nilOwn _ _ | exact .nilSl _ | exact .ownSl _ _ _  | exact SV.le.of_eq (by simp)) (Slots.cons rfl (by first | exact .refl _ | exact .nilOwn _ _ | exact .nilSl _ | exact .ownSl _ _ _  | exact SV.le.of_eq (by simp)) (Slots.cons rfl (by first | exact .refl _ | exact .nilOwn _ _ | exact .nilSl _ | exact .ownSl _ _ _  | exact SV.le.of_eq (by simp)) Slots.nil))))), (by first | exact List.Sublist.refl _ | exact .cons_cons _ (.cons _ (.refl _)) | exact List.nil_sublist _ | exact .cons _ (.refl _) | exact .cons _ (.cons _ (.refl _)) | exact .cons _ (.cons _ (.cons _ (.refl _))) | exact .cons _ (.cons _ (.cons _ (.cons _ (.refl _)))) | exact .cons_cons _ (List.nil_sublist _))⟩, (by omega), ⟨k + 1, m2, rfl, rfl, (by omega), (fun i hi => by rcases Nat.lt_succ_iff_lt_or_eq.1 hi with h | rfl; exact hall i h; exact hgood), hn2, hm2⟩⟩
 ·
  have hge : d.length ≤ k := by have := of_decide_eq_false hc0; simp at this; omega
  rw [List.take_of_length_le hge] at hnd
  refine awp_exit ?_
  refine x_thenE ?_
  refine x_thenE ?_
  refine x_blockE ?_
  refine x_then ?_
  refine awp_seq ?_
  refine awp_region ?_
  refine r_assign rfl rfl ?_
  refine awl_nil ?_
  refine x_then ?_
  refine awp_ret ?_
  exact ⟨(.inl rfl), _, [], (.one (by first | exact .mk rfl rfl | exact .nil rfl)), ⟨rfl, by first | (rw [right_bad hltx hbad]; rfl) | (rw [right_dup hx hs ((hm2 s).1 hc5)]; rfl) | (rw [right_good (fun i hi => hall i (by omega)) hnd]; rfl)⟩, (List.nil_sublist _), (by simp)⟩
end Go.Proofs.Ytnbnegkdbjdekaa.A
namespace Go.Proofs.Ytnbnegkdbjdekaa.A
open Go Go.RowKit Go.Maps Go.Sort
set_option linter.unusedSectionVars false
variable [Thr]
set_option linter.unusedVariables false
set_option linter.unusedSimpArgs false
def cleanS (l : List File) : List File := (namesF l).map fun s => ⟨s, (lookF l s).getD []⟩
theorem find_look {l : List File} {s : ByteArray} (h : s ∈ namesF l) : ∃ i y, l.findIdx? (fun f => decide (f.name = s)) = some i ∧ l[i]? = some y ∧ y = ⟨s, (lookF l s).getD []⟩ := by
  rw [names_in] at h
  unfold lookF at h ⊢
  cases hf : l.findIdx? (fun f => decide (f.name = s)) with
  | none =>
    rw [List.findIdx?_eq_none_iff] at hf
    simp [List.find?_isSome] at h
    obtain ⟨f, hf1, hf2⟩ := h
    have := hf f hf1
    simp [hf2] at this
  | some i =>
    obtain ⟨y, hy, hp⟩ := fidx_get hf
    refine ⟨i, y, rfl, hy, ?_⟩
    have h1 := List.findIdx?_eq_some_iff_getElem.1 hf
    obtain ⟨hi, h2, h3⟩ := h1
    have : l.find? (fun f => decide (f.name = s)) = some y := by
      have e : l = l.take i ++ y :: l.drop (i + 1) := by
        have h4 : l.drop i = y :: l.drop (i + 1) := by rw [List.drop_eq_getElem_cons hi, (List.getElem?_eq_some_iff.1 hy).2]
        rw [← h4, List.take_append_drop]
      rw [e, List.find?_append]
      have hn : (l.take i).find? (fun f => decide (f.name = s)) = none := by
        rw [List.find?_eq_none]
        intro x hx
        obtain ⟨j, hj⟩ := List.getElem?_of_mem hx
        rw [List.getElem?_take] at hj
        split at hj
        · rename_i hji
          obtain ⟨hjl, rfl⟩ := List.getElem?_eq_some_iff.1 hj
          simpa using h3 j hji
        · cases hj
      rw [hn]
      simp [hp]
    rw [this]
    simp at hp
    cases y
    simp at hp
    subst hp
    rfl
theorem files_clean {m : SM} {l : List File} (h1 : (m.map (·.1)).Nodup) (h : ∀ s, mget m s = lookF l s) : filesM m = cleanS l := by
  unfold filesM cleanS
  have e : sortB (m.map (·.1)) = namesF l := sortedS_ext (sortB_sorted h1) (names_ok l) (fun x => by rw [sortB_mem, ← mget_some, h, names_in])
  rw [e]
  exact List.map_congr_left fun s _ => by rw [h]
theorem apply_clean (a b : List File) : ∃ m, applyM (firstM a) (OfF a b) = (0, m) ∧ (m.map (·.1)).Nodup ∧ (∀ s, mget m s = lookF b s) ∧ filesM m = cleanS b := by
  obtain ⟨m, h1, h2, h3⟩ := apply_of a b (tells_first a).nd (tells_first a).get
  exact ⟨m, h1, h2, h3, files_clean h2 h3⟩
theorem clean_len (l : List File) : (cleanS l).length ≤ l.length := by simp only [cleanS, List.length_map]; exact names_len l
theorem name_file {l : List File} {s : ByteArray} (h : s ∈ namesF l) : ∃ f ∈ l, f.name = s := by
  have := (namesF_mem s l []).1 h; simpa using this
theorem clean_data {l : List File} {n : Nat} (h : ∀ f ∈ l, f.data.length ≤ n) : ∀ f ∈ cleanS l, f.data.length ≤ n := fun f hf => by
  obtain ⟨s, hs, rfl⟩ := List.mem_map.1 hf
  exact look_len h s
theorem of_mem {a b : List File} {c : FC} (h : c ∈ OfF a b) :
    (c.kind = 4 ∧ c.data = [] ∧ c.name ∈ wentF a b ∧ c.to ∈ wentF b a) ∨ (c.kind = 2 ∧ c.data = [] ∧ c.to = E0 ∧ c.name ∈ wentF a b) ∨ (c.kind = 3 ∧ c.to = E0 ∧ c.name ∈ namesF a ∧ lookF b c.name = some c.data) ∨ (c.kind = 1 ∧ c.to = E0 ∧ c.name ∈ wentF b a ∧ c.data = (lookF b c.name).getD []) := by
  obtain ⟨R, G, came, h1, h2⟩ := rounds a b (wentF a b).length (Nat.le_refl _)
  have hfst := h2.fst
  rw [List.take_length] at hfst
  rw [OfF, show splitE a b = (came, R.map renF, G.map goneF) from h1] at h
  simp only [List.mem_append] at h
  rcases h with ((h | h) | h) | h
  · obtain ⟨p, hp, rfl⟩ := List.mem_map.1 h
    exact .inl ⟨rfl, rfl, hfst.mem_iff.1 (List.mem_append_left _ (List.mem_map.2 ⟨p, hp, rfl⟩)), h2.snd.mem_iff.1 (List.mem_append_left _ (List.mem_map.2 ⟨p, hp, rfl⟩))⟩
  · obtain ⟨s, hs, rfl⟩ := List.mem_map.1 h
    exact .inr (.inl ⟨rfl, rfl, rfl, hfst.mem_iff.1 (List.mem_append_right _ hs)⟩)
  · obtain ⟨s, hs, he⟩ := List.mem_filterMap.1 h
    unfold chgF at he
    cases hb : lookF b s with
    | none => rw [hb] at he; cases he
    | some d =>
      rw [hb] at he
      simp only at he
      cases hq : decide ((lookF a s).getD [] = d) <;> simp [hq] at he
      subst he
      exact .inr (.inr (.inl ⟨rfl, rfl, hs, hb⟩))
  · obtain ⟨s, hs, rfl⟩ := List.mem_map.1 h
    exact .inr (.inr (.inr ⟨rfl, rfl, h2.snd.mem_iff.1 (List.mem_append_right _ hs), rfl⟩))
theorem went_file {a b : List File} {s : ByteArray} (h : s ∈ wentF a b) : ∃ f ∈ a, f.name = s := name_file (names_in.2 (went_in.1 h).1)
theorem of_bound {a b : List File} (ha : ∀ f ∈ a, f.name.size ≤ 1000000) (hb : ∀ f ∈ b, f.name.size ≤ 1000000) (hd : ∀ f ∈ b, f.data.length ≤ 1000000) : ∀ c ∈ OfF a b, c.name.size ≤ 1000000 ∧ c.to.size ≤ 1000000 ∧ c.data.length ≤ 1000000 := fun c hc => by
  have e0 : E0.size ≤ 1000000 := by decide
  rcases of_mem hc with ⟨_, h2, h3, h4⟩ | ⟨_, h2, h3, h4⟩ | ⟨_, h2, h3, h4⟩ | ⟨_, h2, h3, h4⟩
  · obtain ⟨f, hf, e⟩ := went_file h3
    obtain ⟨g, hg, e'⟩ := went_file h4
    exact ⟨by rw [← e]; exact ha f hf, by rw [← e']; exact hb g hg, by rw [h2]; simp⟩
  · obtain ⟨f, hf, e⟩ := went_file h4
    exact ⟨by rw [← e]; exact ha f hf, by rw [h3]; exact e0, by rw [h2]; simp⟩
  · obtain ⟨f, hf, e⟩ := name_file h3
    have := look_len hd c.name
    rw [h4] at this
    exact ⟨by rw [← e]; exact ha f hf, by rw [h2]; exact e0, by simpa using this⟩
  · obtain ⟨f, hf, e⟩ := went_file h3
    exact ⟨by rw [← e]; exact hb f hf, by rw [h2]; exact e0, by rw [h4]; exact look_len hd _⟩
theorem of_len (a b : List File) : (OfF a b).length ≤ 2 * a.length + b.length := by
  obtain ⟨R, G, came, h1, h2⟩ := rounds a b (wentF a b).length (Nat.le_refl _)
  have hfst := h2.fst.length_eq
  have hsnd := h2.snd.length_eq
  have k1 := went_len a b
  have k2 := went_len b a
  have k3 := List.length_filterMap_le (chgF a b) (namesF a)
  have k4 := names_len a
  rw [OfF, show splitE a b = (came, R.map renF, G.map goneF) from h1]
  simp at hfst hsnd ⊢
  omega
end Go.Proofs.Ytnbnegkdbjdekaa.A

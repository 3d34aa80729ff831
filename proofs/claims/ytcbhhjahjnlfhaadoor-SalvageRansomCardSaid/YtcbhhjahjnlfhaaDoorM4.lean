import Derived.WalkKit
import Derived.Below
import Derived.Laws.Rows
import Derived.Laws.CopyRow
import Derived.Laws.AppendOwn
import Derived.RangeFuncLeaves
import Derived.RangeFuncSeq
import Derived.RangeFuncCalls
import Derived.MapKept
import Derived.Orders
import Derived.Laws.IdiomStrings
import Derived.Laws.BytesArg
import Derived.Shelf.SlIter.Nil
import Derived.Shelf.SortM.Plain
import Derived.Shelf.SortM.SortNone
import Derived.Ground.GgzProg
import Derived.Ground.SlgmProg
import Derived.Test.YtcbhhjahjnlfhaaDoorProg
import Derived.KernelRfl
import Derived.RangeFuncBound
import Derived.Maps.RangeRun
import Derived.DeepKeys3
import Derived.Laws.StructEq
import Derived.Shelf.SlSortCmp.NoneTotal
import Derived.ChangeKeysEq
import Derived.Laws.MakeOwn
import Derived.ChangeArms
import Derived.ChangeOld
import Derived.Laws.DeepStrings4
import Derived.OpenShut
import Derived.OrdersIn
import Derived.Lib.AppendZeros
import Derived.Lib.AppendZerosOnto
import Derived.Lib.Overlaps
import Derived.Deep.AppendSrc
import Derived.Lib.BytesEntry
import Derived.Laws.Concat
import Derived.Laws.Strings3
import Derived.Test.YtcbhhjahjnlfhaaDoorRows
import Derived.ProofKit
import Derived.LaidMore
import Derived.Stop.Joined
import Derived.Stop.BytesEq
import Derived.Laws.Runes
import Derived.Test.YtcbhhjahjnlfhaaDoorM3
namespace Go.Proofs.YtcbhhjahjnlfhaaDoor.A
open Go Go.RowKit
set_option linter.unusedVariables false
set_option linter.unusedSimpArgs false
set_option maxRecDepth 100000
theorem TF.sl22 : sliceT Tryd.prog 22 = some 5 := by kernel_rfl
theorem TF.sz5 : szT Tryd.prog 5 = some 1 := by kernel_rfl
theorem TF.zraw5 : zeroT Tryd.prog 5 = some [(.int .u8 0)] := by kernel_rfl
theorem TF.by5 : bytesT Tryd.prog 5 = some 1 := by kernel_rfl
theorem TF.zlen5 : (zeroT Tryd.prog 5).map (·.length) = some 1 := by kernel_rfl
theorem TF.un5 : Tryd.prog.underlying 5 = some (.int .u8) := by kernel_rfl
theorem TF.un9 : Tryd.prog.underlying 9 = some .string := by kernel_rfl
theorem TF.sl24 : sliceT Tryd.prog 24 = some 26 := by kernel_rfl
theorem TF.sz26 : szT Tryd.prog 26 = some 2 := by kernel_rfl
theorem TF.agg26 : aggT Tryd.prog 26 = some true := by kernel_rfl
theorem TF.zero26 : ZeroT Tryd.prog 26 [.v (.string ⟨#[]⟩), .sl 1 []] := ⟨[(.string ⟨#[]⟩), (.slice none 0 0)], by kernel_rfl, (.cons (.refl _) (.cons (.nil 1) .nil))⟩
theorem TF.f26_0 : fieldT Tryd.prog 26 0 = some (0, 9) := by kernel_rfl
theorem TF.map109 : mapT Tryd.prog 109 = some (9, 22) := by kernel_rfl
theorem TF.f26_1 : fieldT Tryd.prog 26 1 = some (1, 22) := by kernel_rfl
theorem TF.sz22 : szT Tryd.prog 22 = some 1 := by kernel_rfl
theorem TF.agg22 : aggT Tryd.prog 22 = some false := by kernel_rfl
theorem TF.en47 : entersT Tryd.prog 47 := enters_of Tryd.func47 (by kernel_rfl) (by kernel_rfl)
theorem TF.en86 : entersT Tryd.prog 86 := enters_of Tryd.func86 (by kernel_rfl) (by kernel_rfl)
theorem TF.en81 : entersT Tryd.prog 81 := enters_of Tryd.func81 (by kernel_rfl) (by kernel_rfl)
theorem TF.agg109 : aggT Tryd.prog 109 = some false := by kernel_rfl
theorem TF.en85 : entersT Tryd.prog 85 := enters_of Tryd.func85 (by kernel_rfl) (by kernel_rfl)
theorem TF.en59 : entersT Tryd.prog 59 := enters_of Tryd.func59 (by kernel_rfl) (by kernel_rfl)
theorem TF.en84 : entersT Tryd.prog 84 := enters_of Tryd.func84 (by kernel_rfl) (by kernel_rfl)
theorem TF.en35 : entersT Tryd.prog 35 := enters_of Tryd.func35 (by kernel_rfl) (by kernel_rfl)
theorem ba_mk (a b : List UInt8) : decide ((⟨a.toArray⟩ : ByteArray) = ⟨b.toArray⟩) = decide (a = b) := by simp
theorem u8s_len (l : List UInt8) : (u8s l).length = l.length := by simp [u8s]
theorem clone_ok (l : List UInt8) (hl : l.length ≤ 1000000) : AC Tryd.prog 47 [bts l] [] (fun r n => n = [] ∧ r = bts l) := by
 refine ac_of_awp (rs := [2]) (nt := 8) Tryd.func47 rfl rfl rfl rfl (fun w0 C0 hq => ?_)
 refine awp_seq ?_
 refine awp_region ?_
 refine r_assign rfl rfl ?_
 refine awl_nil ?_
 refine x_then ?_
 refine awp_seq ?_
 refine awp_seq ?_
 refine awp_region ?_
 refine r_move rfl rfl ?_
 refine r_slnil rfl rfl TF.sl22 rfl (fun b4 hb4 => ?_)
 refine awl_nil ?_
 refine x_then ?_
 refine awp_cond rfl (fun hc0 => ?_) (fun hc0 => ?_)
 ·
  obtain rfl : l = [] := by simpa [u8s] using hb4 hc0
  refine awp_seq ?_
  refine awp_region ?_
  refine r_assign rfl rfl ?_
  refine awl_nil ?_
  refine x_then ?_
  refine awp_ret ?_
  refine x_thenR ?_
  exact ⟨(.inl rfl), _, [], (.one (by first | exact .mk rfl rfl | exact .nil rfl)), ⟨rfl, rfl⟩, (List.nil_sublist _), (by simp)⟩
 ·
  refine awp_skip ?_
  refine x_then ?_
  refine awp_seq ?_
  refine awp_region ?_
  refine r_lit 5 (parts := []) rfl TF.sl22 TF.sz5 TF.zraw5 rfl rfl rfl rfl rfl rfl rfl ?_
  refine r_move rfl rfl ?_
  refine r_append 5 rfl (by first | exact .own _ | exact .nil) rfl (by first | exact .sl _ | exact .own _ _ | exact .nil) TF.sl22 TF.sz5 (by decide) TF.by5 TF.zlen5 (by simp [chunks, u8s]; omega) (by simp [chunks, u8s]; omega) rfl ?_
  refine r_assign rfl rfl ?_
  refine awl_nil ?_
  refine x_then ?_
  refine awp_ret ?_
  exact ⟨(.inl rfl), _, [], (.one (by first | exact .mk rfl rfl | exact .nil rfl)), ⟨rfl, by first | rfl | simp [chunks, bts, SV.av]⟩, (List.nil_sublist _), (by simp)⟩
theorem equal_ok (a b : List UInt8) : AC Tryd.prog 35 [bts a, bts b] [] (fun r n => n = [] ∧ r = boolA (decide (a = b))) := by
 refine ac_of_awp (rs := [4]) (nt := 10) Tryd.func35 rfl rfl rfl rfl (fun w0 C0 hq => ?_)
 refine awp_seq ?_
 refine awp_region ?_
 refine r_assign rfl rfl ?_
 refine awl_nil ?_
 refine x_then ?_
 refine awp_seq ?_
 refine awp_region ?_
 refine r_move rfl rfl ?_
 refine r_convBS a rfl rfl TF.sl22 TF.un5 TF.un9 rfl ?_
 refine r_move rfl rfl ?_
 refine r_convBS b rfl rfl TF.sl22 TF.un5 TF.un9 rfl ?_
 refine r_str2 rfl rfl rfl rfl ?_
 refine r_assign rfl rfl ?_
 refine awl_nil ?_
 refine x_then ?_
 refine awp_ret ?_
 exact ⟨(.inl rfl), _, [], (.one (by first | exact .mk rfl rfl | exact .nil rfl)), ⟨rfl, by rw [← ba_mk]; rfl⟩, (List.nil_sublist _), (by simp)⟩
theorem named_ok (l : List File) (hl : l.length ≤ 1000000) (hda : ∀ f ∈ l, f.data.length ≤ 1000000) : AC Tryd.prog 54 [files l] [] (fun r n => ∃ b m, r = .v (.map (some b)) ∧ n = [⟨b, true, .map (encM Value.string bts m)⟩] ∧ TellsS m l) := by
 refine ac_of_awp (rs := [2]) (nt := 32) Tryd.func54 rfl rfl rfl rfl (fun w0 C0 hq => ?_)
 refine awp_seq ?_
 refine awp_region ?_
 refine r_assign rfl rfl ?_
 refine awl_nil ?_
 refine x_then ?_
 refine awp_seq ?_
 refine awp_region ?_
 refine r_makeMap (ek := Value.string) (ev := bts) [] rfl rfl (fun b8 => ?_)
 refine r_assign rfl rfl ?_
 refine awl_nil ?_
 refine x_then ?_
 refine awp_seq ?_
 refine awp_seq ?_
 refine awp_region ?_
 refine r_move rfl rfl ?_
 refine r_lenS rfl rfl TF.sl24 rfl ?_
 refine r_move rfl rfl ?_
 refine awl_nil ?_
 refine x_then ?_
 refine awp_block ?_
 refine awp_loop (fun nn0 S => ∃ k : Nat, ∃ m : List (ByteArray × List UInt8), S = ⟨32, [(3, .a (.v (.map (some b8)))), (9, .a (files l)), (10, .a (.v (.int .i64 ((l.map File.cs).length)))), (11, .a (.v (.int .i64 ((k : Int)))))], [⟨b8, true, .map (encM Value.string bts m)⟩]⟩ ∧ nn0 = l.length - k ∧ (k ≤ l.length) ∧ (TellsS m (l.take k))) (l.length - (0)) ⟨32, [(3, .a (.v (.map (some b8)))), (9, .a (files l)), (10, .a (.v (.int .i64 ((l.map File.cs).length)))), (11, .a (.v (.int .i64 (((0) : Int)))))], [⟨b8, true, .map (encM Value.string bts ([]))⟩]⟩ ⟨rfl, (Slots.cons rfl (by first | exact .refl _ | exact .nilOwn _ _ | exact .nilSl _ | exact .ownSl _ _ _  | exact SV.le.of_eq (by simp)) (Slots.cons rfl (by first | exact .refl _ | exact .nilOwn _ _ | exact .nilSl _ | exact .ownSl _ _ _  | exact SV.le.of_eq (by simp)) (Slots.cons rfl (by first | exact .refl _ | exact .nilOwn _ _ | exact .nilSl _ | exact .ownSl _ _ _  | exact SV.le.of_eq (by simp)) (Slots.cons rfl (by first | exact .refl _ | exact .nilOwn _ _ | exact .nilSl _ | exact .ownSl _ _ _  | exact SV.le.of_eq (by simp)) Slots.nil)))), (by first | exact List.Sublist.refl _ | exact .cons_cons _ (.cons _ (.refl _)) | exact List.nil_sublist _ | exact .cons _ (.refl _) | exact .cons _ (.cons _ (.refl _)) | exact .cons _ (.cons _ (.cons _ (.refl _))) | exact .cons _ (.cons _ (.cons _ (.cons _ (.refl _)))) | exact .cons_cons _ (List.nil_sublist _))⟩ ⟨0, [], rfl, rfl, Nat.zero_le _, tellsS_nil⟩ ?_
 rintro nn0 _ ⟨k, m, rfl, rfl, hk, ht⟩
 refine awp_seq ?_
 refine awp_region ?_
 refine r_cmp rfl rfl rfl rfl ?_
 refine awl_nil ?_
 refine x_then ?_
 refine awp_seq ?_
 refine awp_cond rfl (fun hc0 => ?_) (fun hc0 => ?_)
 ·
  have hltx : k < l.length := by have := of_decide_eq_true hc0; simpa using this
  obtain ⟨x, hx⟩ := get_lt hltx
  refine awp_skip ?_
  refine x_then ?_
  refine awp_seq ?_
  refine awp_block ?_
  refine awp_seq ?_
  refine awp_region ?_
  refine r_index rfl rfl rfl TF.sl24 TF.sz26 (by omega) (get_map hx) rfl ?_
  refine r_loadA rfl TF.agg26 TF.sz26 rfl rfl ?_
  refine r_alloc TF.zero26 rfl (fun b5 => ?_)
  refine r_store 0 rfl rfl rfl TF.sz26 rfl rfl rfl ?_
  refine awl_nil ?_
  refine x_then ?_
  refine awp_seq ?_
  refine awp_region ?_
  refine r_move rfl rfl ?_
  refine r_fieldb rfl TF.f26_0 TF.sz9 rfl ?_
  refine r_load1b 0 rfl rfl rfl TF.agg9 rfl ?_
  refine r_lookupOk 1 (keyEnc_string TF.un9) (ev := bts) [] rfl rfl rfl TF.map109 TF.zavS rfl ?_
  refine r_move rfl rfl ?_
  refine r_extract rfl rfl rfl ?_
  refine r_extract rfl rfl rfl ?_
  refine r_assign rfl rfl ?_
  refine r_assign rfl rfl ?_
  refine awl_nil ?_
  refine x_then ?_
  refine awp_seq ?_
  refine awp_region ?_
  refine r_move rfl rfl ?_
  refine r_not rfl rfl ?_
  refine awl_nil ?_
  refine x_then ?_
  refine awp_cond rfl (fun hc1 => ?_) (fun hc1 => ?_)
  ·
   have hg : (mget m x.name).isSome = false := by simpa using hc1
   refine awp_drawS [24, 25, 26, 27, 28, 29] [_, _, _, _, _, _] [] [] TF.mixed rfl rfl rfl ⟨⟨⟨⟨⟨⟨trivial
    , ⟨_, rfl, fun sl hd hr ho => by
      refine r_move (hr 3 _ rfl rfl rfl) rfl ?_
      exact awl_nil ⟨rfl, post_put⟩⟩⟩
    , ⟨_, rfl, fun sl hd hr ho => by
      refine r_fieldb (hr 5 _ rfl rfl rfl) TF.f26_0 TF.sz9 rfl ?_
      exact awl_nil ⟨rfl, post_put⟩⟩⟩
    , ⟨_, rfl, fun sl hd hr ho => by
      refine r_load1b 0 (hd 1 _ rfl rfl rfl) rfl rfl TF.agg9 rfl ?_
      exact awl_nil ⟨rfl, post_put⟩⟩⟩
    , ⟨_, rfl, fun sl hd hr ho => by
      refine r_fieldb (hr 5 _ rfl rfl rfl) TF.f26_1 TF.sz22 rfl ?_
      exact awl_nil ⟨rfl, post_put⟩⟩⟩
    , ⟨_, rfl, fun sl hd hr ho => by
      refine r_load1b 0 (hd 3 _ rfl rfl rfl) rfl rfl TF.agg22 rfl ?_
      exact awl_nil ⟨rfl, post_put⟩⟩⟩
    , ⟨_, rfl, fun sl hd hr ho => by
      refine r_call0 hq rfl rfl (.cons (.ev (hd 4 _ rfl rfl rfl) rfl) .nil) (clone_ok x.data (hda x (List.mem_of_getElem? hx))) rfl TF.en47 rfl (fun r hr => ?_)
      obtain rfl := hr
      exact awl_nil ⟨rfl, post_put⟩⟩⟩
    (by rfl) ?_
   refine r_mapUpdate 1 (keyEnc_string TF.un9) (ev := bts) x.data rfl rfl rfl rfl rfl TF.map109 ?_
   refine awl_nil ?_
   refine x_block ?_
   refine x_then ?_
   refine awp_region ?_
   refine r_ari _ rfl rfl rfl (wrap_id (by first | omega | (simp; omega))) rfl ?_
   refine r_move rfl rfl ?_
   refine awl_nil ?_
   refine x_then ?_
   refine ⟨l.length - (k + 1), ⟨32, [(3, .a (.v (.map (some b8)))), (9, .a (files l)), (10, .a (.v (.int .i64 ((l.map File.cs).length)))), (11, .a (.v (.int .i64 (((k + 1) : Int)))))], [⟨b8, true, .map (encM Value.string bts (mset m x.name x.data))⟩]⟩, ⟨rfl, (Slots.cons rfl (by first | exact .refl _ | exact .nilOwn _ _ | exact .nilSl _ | exact .ownSl _ _ _  | exact SV.le.of_eq (by simp)) (Slots.cons rfl (by first | exact .refl _ | exact .nilOwn _ _ | exact .nilSl _ | exact .ownSl _ _ _  | exact SV.le.of_eq (by simp)) (Slots.cons rfl (by first | exact .refl _ | exact .nilOwn _ _ | exact .nilSl _ | exact .ownSl _ _ _  | exact SV.le.of_eq (by simp)) (Slots.cons rfl (by first | exact .refl _ | exact .nilOwn _ _ | exact .nilSl _ | exact .ownSl _ _ _  | exact SV.le.of_eq (by simp)) Slots.nil)))), (by first | exact List.Sublist.refl _ | exact .cons_cons _ (.cons _ (.refl _)) | exact List.nil_sublist _ | exact .cons _ (.refl _) | exact .cons _ (.cons _ (.refl _)) | exact .cons _ (.cons _ (.cons _ (.refl _))) | exact .cons _ (.cons _ (.cons _ (.cons _ (.refl _)))) | exact .cons_cons _ (List.nil_sublist _))⟩, (by omega), ⟨k + 1, mset m x.name x.data, rfl, rfl, (by omega), (tellsS_new ht hx hg)⟩⟩
  ·
   have hg : (mget m x.name).isSome = true := by simpa using hc1
   refine awp_skip ?_
   refine x_block ?_
   refine x_then ?_
   refine awp_region ?_
   refine r_ari _ rfl rfl rfl (wrap_id (by first | omega | (simp; omega))) rfl ?_
   refine r_move rfl rfl ?_
   refine awl_nil ?_
   refine x_then ?_
   refine ⟨l.length - (k + 1), ⟨32, [(3, .a (.v (.map (some b8)))), (9, .a (files l)), (10, .a (.v (.int .i64 ((l.map File.cs).length)))), (11, .a (.v (.int .i64 (((k + 1) : Int)))))], [⟨b8, true, .map (encM Value.string bts (m))⟩]⟩, ⟨rfl, (Slots.cons rfl (by first | exact .refl _ | exact .nilOwn _ _ | exact .nilSl _ | exact .ownSl _ _ _  | exact SV.le.of_eq (by simp)) (Slots.cons rfl (by first | exact .refl _ | exact .nilOwn _ _ | exact .nilSl _ | exact .ownSl _ _ _  | exact SV.le.of_eq (by simp)) (Slots.cons rfl (by first | exact .refl _ | exact .nilOwn _ _ | exact .nilSl _ | exact .ownSl _ _ _  | exact SV.le.of_eq (by simp)) (Slots.cons rfl (by first | exact .refl _ | exact .nilOwn _ _ | exact .nilSl _ | exact .ownSl _ _ _  | exact SV.le.of_eq (by simp)) Slots.nil)))), (by first | exact List.Sublist.refl _ | exact .cons_cons _ (.cons _ (.refl _)) | exact List.nil_sublist _ | exact .cons _ (.refl _) | exact .cons _ (.cons _ (.refl _)) | exact .cons _ (.cons _ (.cons _ (.refl _))) | exact .cons _ (.cons _ (.cons _ (.cons _ (.refl _)))) | exact .cons_cons _ (List.nil_sublist _))⟩, (by omega), ⟨k + 1, m, rfl, rfl, (by omega), (tellsS_has ht hx hg)⟩⟩
 ·
  have hge : l.length ≤ k := by have := of_decide_eq_false hc0; simp at this; omega
  rw [List.take_of_length_le hge] at ht
  refine awp_exit ?_
  refine x_thenE ?_
  refine x_thenE ?_
  refine x_blockE ?_
  refine x_then ?_
  refine awp_seq ?_
  refine awp_region ?_
  refine r_move rfl rfl ?_
  refine r_assign rfl rfl ?_
  refine awl_nil ?_
  refine x_then ?_
  refine awp_ret ?_
  exact ⟨(.inl rfl), _, [⟨b8, true, .map (encM Value.string bts m)⟩], (.one (by first | exact .mk rfl rfl | exact .nil rfl)), ⟨b8, m, rfl, rfl, ht⟩, (by first | exact List.Sublist.refl _ | exact .cons_cons _ (.cons _ (.refl _)) | exact List.nil_sublist _ | exact .cons _ (.refl _) | exact .cons _ (.cons _ (.refl _)) | exact .cons _ (.cons _ (.cons _ (.refl _))) | exact .cons _ (.cons _ (.cons _ (.cons _ (.refl _)))) | exact .cons_cons _ (List.nil_sublist _)), (by simp)⟩
theorem order_ok (m : List (ByteArray × List UInt8)) (hnd : (m.map (·.1)).Nodup) (hsz : ∀ s ∈ m.map (·.1), s.size ≤ maxLen) (hlen : m.length ≤ 1000000) {b : Nat} {fl : Bool} : AC Tryd.prog 59 [.v (.map (some b))] [⟨b, fl, .map (encM Value.string bts m)⟩] (fun r n => n = [] ∧ r = strsA (sortB (m.map (·.1)))) := by
 refine ac_of_awp (rs := [2]) (nt := 6) Tryd.func59 rfl rfl rfl rfl (fun w0 C0 hq => ?_)
 refine awp_seq ?_
 refine awp_region ?_
 refine r_assign rfl rfl ?_
 refine awl_nil ?_
 refine x_then ?_
 refine awp_seq ?_
 refine awp_region ?_
 refine r_move rfl rfl ?_
 refine r_callO hq rfl rfl (.cons (.ev rfl rfl) .nil) (ac_keys keys86) rfl TF.en86 (by first | exact List.Sublist.refl _ | exact .cons_cons _ (.cons _ (.refl _)) | exact List.nil_sublist _ | exact .cons _ (.refl _) | exact .cons _ (.cons _ (.refl _)) | exact .cons _ (.cons _ (.cons _ (.refl _))) | exact .cons _ (.cons _ (.cons _ (.cons _ (.refl _)))) | exact .cons_cons _ (List.nil_sublist _)) rfl (fun r nobjs hr => ?_)
 obtain ⟨g, rfl, rfl⟩ := hr
 refine r_callO hq rfl rfl (.cons (.ev rfl rfl) .nil) (ac_sorted sorted81_86 TF.un9 (encM_keys (ek := Value.string) (ev := bts) m) hnd hsz (by rw [encM_len]; exact hlen)) rfl TF.en81 (by first | exact List.Sublist.refl _ | exact .cons_cons _ (.cons _ (.refl _)) | exact List.nil_sublist _ | exact .cons _ (.refl _) | exact .cons _ (.cons _ (.refl _)) | exact .cons _ (.cons _ (.cons _ (.refl _))) | exact .cons _ (.cons _ (.cons _ (.cons _ (.refl _)))) | exact .cons_cons _ (List.nil_sublist _)) rfl (fun r nobjs hr => ?_)
 obtain ⟨rfl, rfl⟩ := hr
 refine r_assign rfl rfl ?_
 refine awl_nil ?_
 refine x_then ?_
 refine awp_ret ?_
 exact ⟨(.inl rfl), _, [], (.one (by first | exact .mk rfl rfl | exact .nil rfl)), ⟨rfl, rfl⟩, (List.nil_sublist _), (by simp)⟩
theorem orderG_ok (m : List (ByteArray × List UInt8)) (hnd : (m.map (·.1)).Nodup) (hsz : ∀ s ∈ m.map (·.1), s.size ≤ maxLen) (hlen : m.length ≤ 1000000) {b : Nat} {fl : Bool} : AC Tryd.prog 59 [.v (.map (some b))] [⟨b, fl, .map (encM Value.string bts m)⟩] (GrowS (sortB (m.map (·.1)))) := by
 refine ac_of_awp (rs := [2]) (nt := 6) Tryd.func59 rfl rfl rfl rfl (fun w0 C0 hq => ?_)
 refine awp_seq ?_
 refine awp_region ?_
 refine r_assign rfl rfl ?_
 refine awl_nil ?_
 refine x_then ?_
 refine awp_seq ?_
 refine awp_region ?_
 refine r_move rfl rfl ?_
 refine r_callO hq rfl rfl (.cons (.ev rfl rfl) .nil) (ac_keys keys86) rfl TF.en86 (by first | exact List.Sublist.refl _ | exact .cons_cons _ (.cons _ (.refl _)) | exact List.nil_sublist _ | exact .cons _ (.refl _) | exact .cons _ (.cons _ (.refl _)) | exact .cons _ (.cons _ (.cons _ (.refl _))) | exact .cons _ (.cons _ (.cons _ (.cons _ (.refl _)))) | exact .cons_cons _ (List.nil_sublist _)) rfl (fun r nobjs hr => ?_)
 obtain ⟨g, rfl, rfl⟩ := hr
 refine r_callO hq rfl rfl (.cons (.ev rfl rfl) .nil) (ac_sortedG sorted81_86 TF.un9 (encM_keys (ek := Value.string) (ev := bts) m) hnd hsz (by rw [encM_len]; exact hlen)) rfl TF.en81 (by first | exact List.Sublist.refl _ | exact .cons_cons _ (.cons _ (.refl _)) | exact List.nil_sublist _ | exact .cons _ (.refl _) | exact .cons _ (.cons _ (.refl _)) | exact .cons _ (.cons _ (.cons _ (.refl _))) | exact .cons _ (.cons _ (.cons _ (.cons _ (.refl _)))) | exact .cons_cons _ (List.nil_sublist _)) rfl (fun r nobjs hr => ?_)
 rcases hr with ⟨h0, rfl, rfl⟩ | ⟨g2, cap, ext, hcap, rfl, rfl⟩
 ·
  refine r_assign rfl rfl ?_
  refine awl_nil ?_
  refine x_then ?_
  refine awp_ret ?_
  exact ⟨(.inl rfl), _, [], (.one (by first | exact .mk rfl rfl | exact .nil rfl)), (.inl ⟨h0, rfl, rfl⟩), (List.nil_sublist _), (by simp)⟩
 ·
  refine r_assign rfl rfl ?_
  refine awl_nil ?_
  refine x_then ?_
  refine awp_ret ?_
  exact ⟨(.inl rfl), _, [⟨g2, true, .box (strsC (sortB (m.map (·.1))) ++ ext)⟩], (.one (by first | exact .mk rfl rfl | exact .nil rfl)), (.inr ⟨g2, cap, ext, hcap, rfl, rfl⟩), (by first | exact List.Sublist.refl _ | exact .cons_cons _ (.cons _ (.refl _)) | exact List.nil_sublist _ | exact .cons _ (.refl _) | exact .cons _ (.cons _ (.refl _)) | exact .cons _ (.cons _ (.cons _ (.refl _))) | exact .cons _ (.cons _ (.cons _ (.cons _ (.refl _)))) | exact .cons_cons _ (List.nil_sublist _)), (by simp)⟩
theorem without1_ok (m : List (ByteArray × List UInt8)) (s : ByteArray) {b : Nat} {fl : Bool} : AC Tryd.prog 85 [.v (.string s), .cp [.v (.map (some b))]] [⟨b, fl, .map (encM Value.string bts m)⟩] (fun r n => n = [] ∧ r = boolA (mget m s).isSome) := by
 refine ac_of_awp (rs := [3]) (nt := 13) Tryd.func85 rfl rfl rfl rfl (fun w0 C0 hq => ?_)
 refine awp_seq ?_
 refine awp_region ?_
 refine r_assign rfl rfl ?_
 refine awl_nil ?_
 refine x_then ?_
 refine awp_seq ?_
 refine awp_region ?_
 refine r_load1 rfl TF.agg109 rfl ?_
 refine r_move rfl rfl ?_
 refine r_lookupOk 0 (keyEnc_string TF.un9) (ev := bts) [] rfl rfl rfl TF.map109 TF.zavS rfl ?_
 refine r_move rfl rfl ?_
 refine r_extract rfl rfl rfl ?_
 refine r_extract rfl rfl rfl ?_
 refine r_assign rfl rfl ?_
 refine r_assign rfl rfl ?_
 refine awl_nil ?_
 refine x_then ?_
 refine awp_seq ?_
 refine awp_region ?_
 refine r_move rfl rfl ?_
 refine r_assign rfl rfl ?_
 refine awl_nil ?_
 refine x_then ?_
 refine awp_ret ?_
 exact ⟨(.inl rfl), _, [], (.one (by first | exact .mk rfl rfl | exact .nil rfl)), ⟨rfl, rfl⟩, (List.nil_sublist _), (by simp)⟩
theorem withoutG_ok (ma mb : List (ByteArray × List UInt8)) (hnd : (ma.map (·.1)).Nodup) (hsz : ∀ s ∈ ma.map (·.1), s.size ≤ maxLen) (hlen : ma.length ≤ 1000000) {ba bb : Nat} {f1 f2 : Bool} : AC Tryd.prog 55 [.v (.map (some ba)), .v (.map (some bb))] [⟨ba, f1, .map (encM Value.string bts ma)⟩, ⟨bb, f2, .map (encM Value.string bts mb)⟩] (GrowS ((sortB (ma.map (·.1))).filter (fun s => !(mget mb s).isSome))) := by
 refine ac_of_awp (rs := [4]) (nt := 9) Tryd.func55 rfl rfl rfl rfl (fun w0 C0 hq => ?_)
 refine awp_seq ?_
 refine awp_region ?_
 refine r_box rfl rfl rfl (fun b3 => ?_)
 refine r_assign rfl rfl ?_
 refine awl_nil ?_
 refine x_then ?_
 refine awp_seq ?_
 refine awp_region ?_
 refine awl_imp (imp_commit 0 3 rfl rfl rfl rfl) ?_
 refine r_move rfl rfl ?_
 refine r_callO hq rfl rfl (.cons (.ev rfl rfl) .nil) (orderG_ok ma hnd hsz hlen) rfl TF.en59 (.cons_cons _ (List.nil_sublist _)) rfl (fun r nobjs hr => ?_)
 rcases hr with ⟨h0, rfl, rfl⟩ | ⟨g2, cap, ext, hcap, rfl, rfl⟩
 ·
  refine r_makeFunc rfl (.cons (.ev rfl rfl) .nil) rfl ?_
  refine r_call0 hq rfl rfl (.cons (.ev rfl rfl) (.cons (.ev rfl rfl) .nil)) (delN_ok) rfl TF.en84 rfl (fun r hr => ?_)
  obtain rfl := hr
  refine r_assign rfl rfl ?_
  refine awl_nil ?_
  refine x_then ?_
  refine awp_ret ?_
  exact ⟨(.inl rfl), _, [], (.one (by first | exact .mk rfl rfl | exact .nil rfl)), (.inl ⟨by rw [h0]; rfl, rfl, rfl⟩), (List.nil_sublist _), (by simp)⟩
 ·
  refine r_makeFunc rfl (.cons (.ev rfl rfl) .nil) rfl ?_
  refine r_callW hq [true, false, false] rfl rfl (.cons (.ev rfl rfl) (.cons (.ev rfl rfl) .nil)) (delV_ok (fun s => (mget mb s).isSome) TF.en85 (os := [⟨bb, false, .map (encM Value.string bts mb)⟩]) (fun s => without1_ok mb s) _ (by rw [sortB_len, List.length_map]; exact hlen) hcap) rfl TF.en84 rfl rfl (.cons _ (.refl _)) rfl (fun r nobjs hr => ?_)
  obtain ⟨ext', hcap', rfl, rfl⟩ := hr
  refine r_assign rfl rfl ?_
  refine awl_nil ?_
  refine x_then ?_
  refine awp_ret ?_
  exact ⟨(.inl rfl), _, [⟨g2, true, .box (strsC ((sortB (ma.map (·.1))).filter (fun s => !(mget mb s).isSome)) ++ ext')⟩], (.one (by first | exact .mk rfl rfl | exact .nil rfl)), (.inr ⟨g2, cap, ext', hcap', rfl, rfl⟩), (by first | exact List.Sublist.refl _ | exact .cons_cons _ (.cons _ (.refl _)) | exact List.nil_sublist _ | exact .cons _ (.refl _) | exact .cons _ (.cons _ (.refl _)) | exact .cons _ (.cons _ (.cons _ (.refl _))) | exact .cons _ (.cons _ (.cons _ (.cons _ (.refl _)))) | exact .cons_cons _ (List.nil_sublist _)), (by simp)⟩
theorem without_ok (ma mb : List (ByteArray × List UInt8)) (hnd : (ma.map (·.1)).Nodup) (hsz : ∀ s ∈ ma.map (·.1), s.size ≤ maxLen) (hlen : ma.length ≤ 1000000) {ba bb : Nat} {f1 f2 : Bool} : AC Tryd.prog 55 [.v (.map (some ba)), .v (.map (some bb))] [⟨ba, f1, .map (encM Value.string bts ma)⟩, ⟨bb, f2, .map (encM Value.string bts mb)⟩] (fun r n => n = [] ∧ r = strsA ((sortB (ma.map (·.1))).filter (fun s => !(mget mb s).isSome))) := by
 refine ac_of_awp (rs := [4]) (nt := 9) Tryd.func55 rfl rfl rfl rfl (fun w0 C0 hq => ?_)
 refine awp_seq ?_
 refine awp_region ?_
 refine r_box rfl rfl rfl (fun b3 => ?_)
 refine r_assign rfl rfl ?_
 refine awl_nil ?_
 refine x_then ?_
 refine awp_seq ?_
 refine awp_region ?_
 refine awl_imp (imp_commit 0 3 rfl rfl rfl rfl) ?_
 refine r_move rfl rfl ?_
 refine r_callO hq rfl rfl (.cons (.ev rfl rfl) .nil) (orderG_ok ma hnd hsz hlen) rfl TF.en59 (.cons_cons _ (List.nil_sublist _)) rfl (fun r nobjs hr => ?_)
 rcases hr with ⟨h0, rfl, rfl⟩ | ⟨g2, cap, ext, hcap, rfl, rfl⟩
 ·
  refine r_makeFunc rfl (.cons (.ev rfl rfl) .nil) rfl ?_
  refine r_call0 hq rfl rfl (.cons (.ev rfl rfl) (.cons (.ev rfl rfl) .nil)) (delN_ok) rfl TF.en84 rfl (fun r hr => ?_)
  obtain rfl := hr
  refine r_assign rfl rfl ?_
  refine awl_nil ?_
  refine x_then ?_
  refine awp_ret ?_
  exact ⟨(.inl rfl), _, [], (.one (.nil (sz := 1) rfl)), ⟨rfl, by rw [h0]; rfl⟩, (List.nil_sublist _), (by simp)⟩
 ·
  refine r_makeFunc rfl (.cons (.ev rfl rfl) .nil) rfl ?_
  refine r_callW hq [true, false, false] rfl rfl (.cons (.ev rfl rfl) (.cons (.ev rfl rfl) .nil)) (delV_ok (fun s => (mget mb s).isSome) TF.en85 (os := [⟨bb, false, .map (encM Value.string bts mb)⟩]) (fun s => without1_ok mb s) _ (by rw [sortB_len, List.length_map]; exact hlen) hcap) rfl TF.en84 rfl rfl (.cons _ (.refl _)) rfl (fun r nobjs hr => ?_)
  obtain ⟨ext', hcap', rfl, rfl⟩ := hr
  refine awl_boxBuf 0 rfl hcap' (fun be => ?_)
  refine awl_imp (imp_commitB 0 8 rfl (by simp) rfl) ?_
  ·
   refine r_assign rfl rfl ?_
   refine awl_nil ?_
   refine x_then ?_
   refine awp_ret ?_
   exact ⟨(.inl rfl), _, [], (.one (by first | exact .mk rfl rfl | exact .nil rfl)), ⟨rfl, rfl⟩, (List.nil_sublist _), (by simp)⟩
theorem of1_ok {a b : List File} {mx my : List (ByteArray × List UInt8)} (hx : TellsS mx a) (hy : TellsS my b) (s t : ByteArray) {bx by_ : Nat} {f1 f2 : Bool} : AC Tryd.prog 57 [.v (.string t), .cp [.v (.map (some bx))], .cp [.v (.string s)], .cp [.v (.map (some by_))]] [⟨bx, f1, .map (encM Value.string bts mx)⟩, ⟨by_, f2, .map (encM Value.string bts my)⟩] (fun r n => n = [] ∧ r = boolA (hitF a b s t)) := by
 refine ac_of_awp (rs := [5]) (nt := 20) Tryd.func57 rfl rfl rfl rfl (fun w0 C0 hq => ?_)
 refine awp_seq ?_
 refine awp_region ?_
 refine r_assign rfl rfl ?_
 refine awl_nil ?_
 refine x_then ?_
 refine awp_seq ?_
 refine awp_region ?_
 refine r_load1 rfl TF.agg109 rfl ?_
 refine r_load1 rfl TF.agg9 rfl ?_
 refine r_lookup 0 (keyEnc_string TF.un9) (ev := bts) [] rfl rfl rfl TF.map109 TF.zavS rfl ?_
 refine r_lenS rfl rfl TF.sl22 rfl ?_
 refine r_cmp rfl rfl rfl rfl ?_
 refine r_move rfl rfl ?_
 refine g_cases (t' := 11) rfl (fun hg11 => ?_) (fun hg11 => ?_)
 ·
  have h1 : 0 < ((mget mx s).getD []).length := by have := of_decide_eq_true hg11; simpa [u8s_len] using this
  refine g_run rfl rfl hg11 ?_
  refine r_load1 rfl TF.agg109 rfl ?_
  refine g_run rfl rfl hg11 ?_
  refine r_load1 rfl TF.agg9 rfl ?_
  refine g_run rfl rfl hg11 ?_
  refine r_lookup 0 (keyEnc_string TF.un9) (ev := bts) [] rfl rfl rfl TF.map109 TF.zavS rfl ?_
  refine g_run rfl rfl hg11 ?_
  refine r_load1 rfl TF.agg109 rfl ?_
  refine g_run rfl rfl hg11 ?_
  refine r_move rfl rfl ?_
  refine g_run rfl rfl hg11 ?_
  refine r_lookup 1 (keyEnc_string TF.un9) (ev := bts) [] rfl rfl rfl TF.map109 TF.zavS rfl ?_
  refine g_run rfl rfl hg11 ?_
  refine r_call0 hq rfl rfl (.cons (.ev rfl rfl) (.cons (.ev rfl rfl) .nil)) (equal_ok _ _) rfl TF.en35 rfl (fun r hr => ?_)
  obtain rfl := hr
  refine r_pickT rfl hg11 rfl rfl ?_
  refine r_assign rfl rfl ?_
  refine awl_nil ?_
  refine x_then ?_
  refine awp_ret ?_
  exact ⟨(.inl rfl), _, [], (.one (by first | exact .mk rfl rfl | exact .nil rfl)), ⟨rfl, by rw [hitF, ← hx.get, ← hy.get]; first | (rw [decide_eq_true h1, Bool.true_and]; rfl) | (rw [decide_eq_false h1, Bool.false_and]; rfl)⟩, (List.nil_sublist _), (by simp)⟩
 ·
  have h1 : ¬ 0 < ((mget mx s).getD []).length := by have := of_decide_eq_false hg11; simpa [u8s_len] using this
  refine g_skip rfl rfl hg11 rfl ?_
  refine g_skip rfl rfl hg11 rfl ?_
  refine g_skip rfl rfl hg11 rfl ?_
  refine g_skip rfl rfl hg11 rfl ?_
  refine g_skip rfl rfl hg11 rfl ?_
  refine g_skip rfl rfl hg11 rfl ?_
  refine g_skip rfl rfl hg11 rfl ?_
  refine r_pickF rfl hg11 rfl rfl ?_
  refine r_assign rfl rfl ?_
  refine awl_nil ?_
  refine x_then ?_
  refine awp_ret ?_
  exact ⟨(.inl rfl), _, [], (.one (by first | exact .mk rfl rfl | exact .nil rfl)), ⟨rfl, by rw [hitF, ← hx.get, ← hy.get]; first | (rw [decide_eq_true h1, Bool.true_and]; rfl) | (rw [decide_eq_false h1, Bool.false_and]; rfl)⟩, (List.nil_sublist _), (by simp)⟩
end Go.Proofs.YtcbhhjahjnlfhaaDoor.A
namespace Go.Proofs.YtcbhhjahjnlfhaaDoor.A
open Go Go.RowKit
set_option linter.unusedVariables false
set_option linter.unusedSimpArgs false
set_option maxRecDepth 100000
theorem TG.agg35 : aggT Tryd.prog 35 = some false := by kernel_rfl
theorem TG.sz3 : szT Tryd.prog 3 = some 1 := by kernel_rfl
theorem ro_roF (os : List OE) : ro (ro os) = ro os := by simp [ro]
theorem togetherO_ok (l : List File) {n : Nat} (hnl : n = l.length) (hl : l.length ≤ 1000000) (hs : ∀ f ∈ l, f.name.size ≤ 1000000) {g cap : Nat} {ext : List AV} {fl : Bool} : AC Tryd.prog 41 [.v (.slice (some ⟨g, 0, none⟩) n cap)] [⟨g, fl, .box (boxF l ext)⟩] (fun r n => n = [] ∧ r = boolA (togetherS l)) := by
 subst hnl
 refine ac_of_awp (rs := [2]) (nt := 26) Tryd.func41 rfl rfl rfl rfl (fun w0 C0 hq => ?_)
 refine awp_seq ?_
 refine awp_region ?_
 refine r_assign rfl rfl ?_
 refine awl_nil ?_
 refine x_then ?_
 refine awp_seq ?_
 refine awp_region ?_
 refine r_makeMap (ek := Value.string) (ev := boolA) [] rfl rfl (fun b6 => ?_)
 refine r_assign rfl rfl ?_
 refine awl_nil ?_
 refine x_then ?_
 refine awp_seq ?_
 refine awp_seq ?_
 refine awp_region ?_
 refine r_move rfl rfl ?_
 refine r_lenV rfl TG.sl24 rfl ?_
 refine r_move rfl rfl ?_
 refine awl_nil ?_
 refine x_then ?_
 refine awp_block ?_
 refine awp_loop (fun nn0 S => ∃ k : Nat, ∃ m : List (ByteArray × Bool), S = ⟨26, [(3, .a (.v (.map (some b6)))), (7, .a (.v (.slice (some ⟨g, 0, none⟩) l.length cap))), (8, .a (.v (.int .i64 ((l.length : Int))))), (9, .a (.v (.int .i64 ((k : Int)))))], [⟨b6, true, .map (encM Value.string boolA m)⟩, ⟨g, false, .box (boxF l ext)⟩]⟩ ∧ nn0 = l.length - k ∧ (k ≤ l.length) ∧ ((l.take k).all rightS = true) ∧ (((l.take k).map (·.name)).Nodup) ∧ (HasN m ((l.take k).map (·.name)))) (l.length - (0)) ⟨26, [(3, .a (.v (.map (some b6)))), (7, .a (.v (.slice (some ⟨g, 0, none⟩) l.length cap))), (8, .a (.v (.int .i64 ((l.length : Int))))), (9, .a (.v (.int .i64 (((0) : Int)))))], [⟨b6, true, .map (encM Value.string boolA ([]))⟩, ⟨g, false, .box (boxF l ext)⟩]⟩ ⟨rfl, (Slots.cons rfl (by first | exact .refl _ | exact .nilOwn _ _ | exact .nilSl _ | exact .ownSl _ _ _  | exact SV.le.of_eq (by simp)) (Slots.cons rfl (by first | exact .refl _ | exact .nilOwn _ _ | exact .nilSl _ | exact .ownSl _ _ _  | exact SV.le.of_eq (by simp)) (Slots.cons rfl (by first | exact .refl _ | exact .nilOwn _ _ | exact .nilSl _ | exact .ownSl _ _ _  | exact SV.le.of_eq (by simp)) (Slots.cons rfl (by first | exact .refl _ | exact .nilOwn _ _ | exact .nilSl _ | exact .ownSl _ _ _  | exact SV.le.of_eq (by simp)) Slots.nil)))), (by first | exact List.Sublist.refl _ | exact .cons_cons _ (.cons _ (.refl _)) | exact List.nil_sublist _ | exact .cons _ (.refl _) | exact .cons _ (.cons _ (.refl _)) | exact .cons _ (.cons _ (.cons _ (.refl _))) | exact .cons _ (.cons _ (.cons _ (.cons _ (.refl _)))) | exact .cons_cons _ (List.nil_sublist _))⟩ ⟨0, [], rfl, rfl, Nat.zero_le _, rfl, (by simp), hasN_nil⟩ ?_
 rintro nn0 _ ⟨k, m, rfl, rfl, hk, ha, hnd, hm⟩
 refine awp_seq ?_
 refine awp_region ?_
 refine r_cmp rfl rfl rfl rfl ?_
 refine awl_nil ?_
 refine x_then ?_
 refine awp_seq ?_
 refine awp_cond rfl (fun hc0 => ?_) (fun hc0 => ?_)
 ·
  have hltx : k < l.length := by have := of_decide_eq_true hc0; omega
  obtain ⟨x, hx⟩ := get_lt hltx
  have hsx := hs x (List.mem_of_getElem? hx)
  refine awp_skip ?_
  refine x_then ?_
  refine awp_seq ?_
  refine awp_block ?_
  refine awp_seq ?_
  refine awp_region ?_
  refine r_indexV rfl rfl TG.sl24 TG.sz26 (by omega) (by omega) rfl ?_
  refine r_loadAbe 1 (File.cs x) (by rw [Int.toNat_natCast]; exact (flat_drop (f := File.cs) (n := 2) (ext := ext) (fun _ => rfl) hx).1) rfl rfl TG.agg26 TG.sz26 (Nat.ble_eq_true_of_le (by rw [Int.toNat_natCast]; exact (flat_drop (f := File.cs) (n := 2) (ext := ext) (fun _ => rfl) hx).2)) rfl ?_
  refine r_alloc TG.zero26 rfl (fun b5 => ?_)
  refine r_store 0 rfl rfl rfl TG.sz26 rfl rfl rfl ?_
  refine awl_nil ?_
  refine x_then ?_
  refine awp_seq ?_
  refine awp_seq ?_
  refine awp_region ?_
  refine r_loadAb 0 rfl rfl TG.agg26 TG.sz26 rfl rfl ?_
  refine r_call0 hq rfl rfl (.cons (.ev rfl rfl) .nil) (right_fs_ok x hsx) rfl TG.en77 rfl (fun r hr => ?_)
  obtain rfl := hr
  refine r_not rfl rfl ?_
  refine r_move rfl rfl ?_
  refine g_cases (t' := 16) rfl (fun hg16 => ?_) (fun hg16 => ?_)
  ·
   have hrx : rightS x = false := by simpa using hg16
   refine g_skip rfl rfl hg16 rfl ?_
   refine g_skip rfl rfl hg16 rfl ?_
   refine g_skip rfl rfl hg16 rfl ?_
   refine g_skip rfl rfl hg16 rfl ?_
   refine r_pickT rfl hg16 rfl rfl ?_
   refine awl_nil ?_
   refine x_then ?_
   refine awp_condT rfl ?_
   have hbad : togetherS l = false := by first | exact tog_bad hx hrx | exact tog_dup hx ((hm x.name).1 (by simpa using hc1))
   refine awp_seq ?_
   refine awp_region ?_
   refine r_assign rfl rfl ?_
   refine awl_nil ?_
   refine x_then ?_
   refine awp_ret ?_
   refine x_thenR ?_
   refine x_blockR ?_
   refine x_thenR ?_
   refine x_thenR ?_
   refine x_blockR ?_
   refine x_thenR ?_
   exact ⟨(.inl rfl), _, [], (.one (by first | exact .mk rfl rfl | exact .nil rfl)), ⟨rfl, by first | (rw [hbad]; done) | (rw [hbad]; rfl) | (rw [tog_good ha hnd]; rfl)⟩, (List.nil_sublist _), (by simp)⟩
  ·
   have hrx : rightS x = true := by simpa using hg16
   refine g_run rfl rfl hg16 ?_
   refine r_move rfl rfl ?_
   refine g_run rfl rfl hg16 ?_
   refine r_fieldb rfl TG.f26_0 TG.sz9 rfl ?_
   refine g_run rfl rfl hg16 ?_
   refine r_load1b 0 rfl rfl rfl TG.agg9 rfl ?_
   refine g_run rfl rfl hg16 ?_
   refine r_lookup 1 (keyEnc_string TG.un9) (ev := boolA) false rfl rfl rfl TG.map100 TG.zav4 rfl ?_
   refine r_pickF rfl hg16 rfl rfl ?_
   refine awl_nil ?_
   refine x_then ?_
   refine awp_cond rfl (fun hc1 => ?_) (fun hc1 => ?_)
   ·
    have hbad : togetherS l = false := by first | exact tog_bad hx hrx | exact tog_dup hx ((hm x.name).1 (by simpa using hc1))
    refine awp_seq ?_
    refine awp_region ?_
    refine r_assign rfl rfl ?_
    refine awl_nil ?_
    refine x_then ?_
    refine awp_ret ?_
    refine x_thenR ?_
    refine x_blockR ?_
    refine x_thenR ?_
    refine x_thenR ?_
    refine x_blockR ?_
    refine x_thenR ?_
    exact ⟨(.inl rfl), _, [], (.one (by first | exact .mk rfl rfl | exact .nil rfl)), ⟨rfl, by first | (rw [hbad]; done) | (rw [hbad]; rfl) | (rw [tog_good ha hnd]; rfl)⟩, (List.nil_sublist _), (by simp)⟩
   ·
    have hnx : (mget m x.name).getD false = false := by simpa using hc1
    refine awp_skip ?_
    refine x_then ?_
    refine awp_region ?_
    refine r_move rfl rfl ?_
    refine r_fieldb rfl TG.f26_0 TG.sz9 rfl ?_
    refine r_load1b 0 rfl rfl rfl TG.agg9 rfl ?_
    refine r_mapUpdate 1 (keyEnc_string TG.un9) (ev := boolA) true rfl rfl rfl rfl rfl TG.map100 ?_
    refine awl_nil ?_
    refine x_block ?_
    refine x_then ?_
    refine awp_region ?_
    refine r_ari _ rfl rfl rfl (wrap_id (by first | omega | (simp; omega))) rfl ?_
    refine r_move rfl rfl ?_
    refine awl_nil ?_
    refine x_then ?_
    refine ⟨l.length - (k + 1), ⟨26, [(3, .a (.v (.map (some b6)))), (7, .a (.v (.slice (some ⟨g, 0, none⟩) l.length cap))), (8, .a (.v (.int .i64 ((l.length : Int))))), (9, .a (.v (.int .i64 (((k + 1) : Int)))))], [⟨b6, true, .map (encM Value.string boolA ((mset m x.name true)))⟩, ⟨g, false, .box (boxF l ext)⟩]⟩, ⟨rfl, (Slots.cons rfl (by first | exact .refl _ | exact .nilOwn _ _ | exact .nilSl _ | exact .ownSl _ _ _  | exact SV.le.of_eq (by simp)) (Slots.cons rfl (by first | exact .refl _ | exact .nilOwn _ _ | exact .nilSl _ | exact .ownSl _ _ _  | exact SV.le.of_eq (by simp)) (Slots.cons rfl (by first | exact .refl _ | exact .nilOwn _ _ | exact .nilSl _ | exact .ownSl _ _ _  | exact SV.le.of_eq (by simp)) (Slots.cons rfl (by first | exact .refl _ | exact .nilOwn _ _ | exact .nilSl _ | exact .ownSl _ _ _  | exact SV.le.of_eq (by simp)) Slots.nil)))), (by first | exact List.Sublist.refl _ | exact .cons_cons _ (.cons _ (.refl _)) | exact List.nil_sublist _ | exact .cons _ (.refl _) | exact .cons _ (.cons _ (.refl _)) | exact .cons _ (.cons _ (.cons _ (.refl _))) | exact .cons _ (.cons _ (.cons _ (.cons _ (.refl _)))) | exact .cons_cons _ (List.nil_sublist _))⟩, (by omega), ⟨k + 1, (mset m x.name true), rfl, rfl, (by omega), (tog_all hx ha hrx), (tog_nd hx hnd (fun h => by rw [(hm _).2 h] at hnx; cases hnx)), (tog_set hx hm)⟩⟩
 ·
  have hge : l.length ≤ k := by have := of_decide_eq_false hc0; omega
  rw [List.take_of_length_le hge] at ha hnd
  refine awp_exit ?_
  refine x_thenE ?_
  refine x_thenE ?_
  refine x_blockE ?_
  refine x_then ?_
  refine awp_seq ?_
  refine awp_region ?_
  refine r_assign rfl rfl ?_
  refine awl_nil ?_
  refine x_then ?_
  refine awp_ret ?_
  exact ⟨(.inl rfl), _, [], (.one (by first | exact .mk rfl rfl | exact .nil rfl)), ⟨rfl, by first | (rw [hbad]; done) | (rw [hbad]; rfl) | (rw [tog_good ha hnd]; rfl)⟩, (List.nil_sublist _), (by simp)⟩
set_option maxHeartbeats 1000000 in
theorem take_ok {f : FuncId} {caps : List AV} (hen : entersT Tryd.prog f) {os : List OE} {D : List Blk} (hf : ∀ (k : Nat) (b : Blk), D[k]? = some b → AC Tryd.prog f (.v (.int .i64 (k : Int)) :: caps) (ro os) (fun r n => n = [] ∧ r = .tup [blkA b, .v (.bool true)])) (k : Nat) (b : Blk) (hb : D[k]? = some b) (hk : k ≤ 1000000) {g : Nat} : AW Tryd.prog 34 [.cp [.fn f caps], .v (.pointer (some ⟨g, 0, none⟩))] os [⟨g, true, .box [.v (.int .i64 (((k : Nat) : Int)))]⟩] (fun r n => r = blkA b ∧ n = [⟨g, true, .box [.v (.int .i64 (((k + 1 : Nat) : Int)))]⟩]) := by
 refine aw_of_awpG (so := (ro os ++ [⟨g, true, .box [.v (.int .i64 (((k : Nat) : Int)))]⟩])) (fun S r => ResK Tryd.prog S (.cell 2 33) r) (nt := 17) Tryd.func34 rfl rfl rfl rfl (resK1_run rfl) (fun w0 C0 hq => ?_)
 refine awp_imp (imp_perm List.perm_append_comm) ?_
 refine awp_seq ?_
 refine awp_region ?_
 refine r_alloc TG.zero33 rfl (fun b2 => ?_)
 refine awl_nil ?_
 refine x_then ?_
 refine awp_seq ?_
 refine awp_region ?_
 refine r_load1 rfl TG.agg35 rfl ?_
 refine r_load1b 1 rfl rfl rfl TG.agg3 rfl ?_
 refine r_callO hq rfl rfl (.cons (.ev rfl rfl) .nil) (hf k b hb) rfl hen (.cons _ (.cons _ (.refl _))) rfl (fun r nobjs hr => ?_)
 obtain ⟨rfl, rfl⟩ := hr
 refine r_move rfl rfl ?_
 refine r_extract rfl rfl rfl ?_
 refine r_extract rfl rfl rfl ?_
 refine r_alloc TG.zero33 rfl (fun b3 => ?_)
 refine r_store 0 rfl rfl rfl TG.sz33 rfl rfl rfl ?_
 refine r_assign rfl rfl ?_
 refine awl_nil ?_
 refine x_then ?_
 refine awp_seq ?_
 refine awp_region ?_
 refine r_load1b 2 rfl rfl rfl TG.agg3 rfl ?_
 refine r_ari ((k + 1 : Nat) : Int) rfl rfl rfl (by rw [wrap_id (by omega)]; omega) rfl ?_
 refine r_store 2 rfl rfl rfl TG.sz3 rfl rfl rfl ?_
 refine awl_nil ?_
 refine x_then ?_
 refine awp_seq ?_
 refine awp_seq ?_
 refine awp_region ?_
 refine r_move rfl rfl ?_
 refine r_not rfl rfl ?_
 refine awl_nil ?_
 refine x_then ?_
 refine awp_cond rfl (fun hc0 => ?_) (fun hc0 => ?_)
 ·
  exfalso; exact absurd hc0 (by decide)
 ·
  refine awp_skip ?_
  refine x_then ?_
  refine awp_seq ?_
  refine awp_region ?_
  refine r_loadAb 0 rfl rfl TG.agg33 TG.sz33 rfl rfl ?_
  refine r_store 1 rfl rfl rfl TG.sz33 rfl rfl rfl ?_
  refine awl_nil ?_
  refine x_then ?_
  refine awp_ret ?_
  exact ⟨(.inl rfl), _, [⟨g, true, .box [.v (.int .i64 (((k + 1 : Nat) : Int)))]⟩], (.box (by first | exact .mk' 0 rfl rfl TG.agg33 TG.sz33 rfl | exact .mk' 1 rfl rfl TG.agg33 TG.sz33 rfl | exact .mk' 2 rfl rfl TG.agg33 TG.sz33 rfl | exact .mk' 3 rfl rfl TG.agg33 TG.sz33 rfl | exact .mk' 4 rfl rfl TG.agg33 TG.sz33 rfl | exact .mk' 5 rfl rfl TG.agg33 TG.sz33 rfl)), ⟨rfl, rfl⟩, (.cons _ (.cons _ (.cons_cons _ (List.nil_sublist _)))), (by simp)⟩
end Go.Proofs.YtcbhhjahjnlfhaaDoor.A
namespace Go.Proofs.YtcbhhjahjnlfhaaDoor.A
open Go Go.RowKit
set_option linter.unusedVariables false
set_option linter.unusedSimpArgs false
set_option maxRecDepth 100000
theorem TG.en34 : entersT Tryd.prog 34 := enters_of Tryd.func34 (by kernel_rfl) (by kernel_rfl)
theorem TG.un35 : Tryd.prog.underlying 35 = some (.func #[3] #[33, 4] false) := by kernel_rfl
theorem TG.zero3 : ZeroT Tryd.prog 3 [.v (.int .i64 0)] := ⟨[(.int .i64 0)], by kernel_rfl, (LeCells.refl _)⟩
theorem TG.en35 : entersT Tryd.prog 35 := enters_of Tryd.func35 (by kernel_rfl) (by kernel_rfl)
theorem TG.sl87 : sliceT Tryd.prog 87 = some 3 := by kernel_rfl
theorem TG.by3 : bytesT Tryd.prog 3 = some 8 := by kernel_rfl
theorem TG.zraw3 : zeroT Tryd.prog 3 = some [(.int .i64 0)] := by kernel_rfl
theorem TG.en39 : entersT Tryd.prog 39 := enters_of Tryd.func39 (by kernel_rfl) (by kernel_rfl)
theorem TG.pl26 : placesT Tryd.prog 26 = some [(0, 1), (1, 1)] := by kernel_rfl
theorem TG.zraw26 : zeroT Tryd.prog 26 = some [(.string ⟨#[]⟩), (.slice none 0 0)] := by kernel_rfl
theorem TG.by26 : bytesT Tryd.prog 26 = some 40 := by kernel_rfl
theorem TG.zlen26 : (zeroT Tryd.prog 26).map (·.length) = some 2 := by kernel_rfl
theorem TG.en40 : entersT Tryd.prog 40 := enters_of Tryd.func40 (by kernel_rfl) (by kernel_rfl)
theorem TG.zlen5 : (zeroT Tryd.prog 5).map (·.length) = some 1 := by kernel_rfl
set_option maxHeartbeats 4000000 in
theorem readD_ok (l : List File) (hok : okFs l = true) {f : FuncId} {caps : List AV} (hen : entersT Tryd.prog f) {os : List OE} (hf : ∀ (k : Nat) (b : Blk), (diskF l)[k]? = some b → AC Tryd.prog f (.v (.int .i64 (k : Int)) :: caps) (ro os) (fun r n => n = [] ∧ r = .tup [blkA b, .v (.bool true)])) : AWC MG Tryd.prog 8 [.fn f caps] os [] (fun r n => n = [] ∧ r = .tup [files l, .v (.int .i64 0)]) := by
 obtain ⟨hl8, htog⟩ := okFs_len hok
 obtain ⟨hB0, hhB⟩ : ∃ hB0, hB0 = headF l.length (tabs l (1 + l.length)) := ⟨_, rfl⟩
 have hmg : bpart hB0 0 5 = magicL := by rw [hhB]; exact head_magic _ _
 have hc5 : (blkC hB0)[5]? = some (.v (.int .u8 (l.length : Int))) := by rw [blkC_at _ (by decide), hhB, head_n _ hl8, u8_small hl8]
 have h68 : bpart hB0 6 8 = [(sumF (tabs l (1 + l.length)) / 256).toUInt8, (sumF (tabs l (1 + l.length))).toUInt8] := by rw [hhB]; exact head_sum _ _
 have hz8 : noughtS (bpart hB0 8 32) = true := by rw [hhB]; exact head_rest _ _
 refine awc_of_awpG MG (so := ro os) (nt := 143) (fun S r => Result1 S [2, 3] r) Tryd.func8 rfl rfl rfl (by simp [Tr]) (result1_run rfl) (fun w0 C0 hq hcs => ?_)
 refine awp_seq ?_
 refine awp_region ?_
 refine r_box rfl rfl rfl (fun b1 => ?_)
 refine r_assign rfl rfl ?_
 refine r_assign rfl rfl ?_
 refine awl_nil ?_
 refine x_then ?_
 refine awp_seq ?_
 refine awp_seq ?_
 refine awp_region ?_
 refine awl_imp (imp_commit 0 1 rfl rfl rfl rfl) ?_
 refine r_load1 rfl TG.agg35 rfl ?_
 refine r_fn_eq rfl TG.un35 rfl ?_
 refine awl_nil ?_
 refine x_then ?_
 refine awp_cond rfl (fun hc0 => ?_) (fun hc0 => ?_)
 ·
  exfalso; first | cases hc0 | exact absurd hc0 (by decide) | simp at hc0
 ·
  refine awp_skip ?_
  refine x_then ?_
  refine awp_seq ?_
  refine awp_region ?_
  refine r_alloc TG.zero3 rfl (fun b4 => ?_)
  refine r_store 0 rfl rfl rfl TG.sz3 rfl rfl rfl ?_
  refine awl_nil ?_
  refine x_then ?_
  refine awp_seq ?_
  refine awp_region ?_
  refine r_makeFunc rfl (.cons (.ev rfl rfl) (.cons (.ev rfl rfl) .nil)) rfl ?_
  refine r_assign rfl rfl ?_
  refine awl_nil ?_
  refine x_then ?_
  refine awp_seq ?_
  refine awp_region ?_
  refine r_move rfl rfl ?_
  refine r_callW hq [true] rfl rfl .nil (take_ok (os := ro os) hen (fun k b h => by rw [ro_roF]; exact hf k b h) 0 hB0 (by rw [disk_head, hhB]) (by omega)) rfl TG.en34 rfl rfl (List.Sublist.refl _) rfl (fun r nobjs hr => ?_)
  obtain ⟨rfl, rfl⟩ := hr
  refine r_alloc TG.zero33 rfl (fun b6 => ?_)
  refine r_store 0 rfl rfl rfl TG.sz33 rfl rfl rfl ?_
  refine awl_nil ?_
  refine x_then ?_
  refine awp_seq ?_
  refine awp_seq ?_
  refine awp_imp (imp_commit 0 6 rfl rfl rfl rfl) ?_
  refine awp_drawS [29, 30] [_, _] [] [] TG.mixed rfl rfl rfl ⟨⟨trivial
   , ⟨_, rfl, fun sl hd hr ho => by
     refine r_arrC (u8s (bpart hB0 0 5)) (arr_part hB0 0 5) (hr 6 _ rfl rfl rfl) TG.un33 TG.sz5 rfl .none (.some rfl) (by omega) (by omega) rfl ?_
     exact awl_nil ⟨rfl, post_put⟩⟩⟩
   , ⟨_, rfl, fun sl hd hr ho => by
     refine r_arrG hcs mg_at TG.un83 TG.sz5 rfl ?_
     exact awl_nil ⟨rfl, post_put⟩⟩⟩
   (by rfl) ?_
  refine r_call0 hq rfl rfl (.cons (.ev rfl rfl) (.cons (.ev rfl rfl) .nil)) (equal_ok (bpart hB0 0 5) magicL) rfl TG.en35 rfl (fun r hr => ?_)
  rw [decide_eq_true hmg] at hr
  obtain rfl := hr
  refine r_not rfl rfl ?_
  refine r_move rfl rfl ?_
  refine g_run rfl rfl rfl ?_
  refine r_arrAtE (i := 5) (c := .v (.int .u8 (l.length : Int))) rfl rfl TG.un33 TG.sz5 (by decide) hc5 rfl ?_
  refine g_run rfl rfl rfl ?_
  refine r_load1 rfl TG.agg5 rfl ?_
  refine g_run rfl rfl rfl ?_
  refine r_cmp rfl rfl rfl rfl ?_
  refine r_pickF rfl rfl rfl rfl ?_
  refine r_move rfl rfl ?_
  refine g_run rfl rfl (decide_eq_false (by omega)) ?_
  refine r_arrC (u8s (bpart hB0 8 32)) (arr_part hB0 8 32) rfl TG.un33 TG.sz5 rfl (.some rfl) .none (by omega) (by omega) rfl ?_
  refine g_run rfl rfl (decide_eq_false (by omega)) ?_
  refine r_call0 hq rfl rfl (.cons (.ev rfl rfl) .nil) (nought_ok (bpart hB0 8 32)) rfl TG.en36 rfl (fun r hr => ?_)
  rw [hz8] at hr
  obtain rfl := hr
  refine g_run rfl rfl (decide_eq_false (by omega)) ?_
  refine r_not rfl rfl ?_
  refine r_pickF rfl (decide_eq_false (by omega)) rfl rfl ?_
  refine awl_nil ?_
  refine x_then ?_
  refine awp_cond rfl (fun hc1 => ?_) (fun hc1 => ?_)
  ·
   exfalso; first | cases hc1 | simp at hc1
  ·
   refine awp_skip ?_
   refine x_then ?_
   refine awp_seq ?_
   refine awp_region ?_
   refine r_assign rfl rfl ?_
   refine awl_nil ?_
   refine x_then ?_
   refine awp_seq ?_
   refine awp_seq ?_
   refine awp_region ?_
   refine r_arrAtE (i := 5) (c := .v (.int .u8 (l.length : Int))) rfl rfl TG.un33 TG.sz5 (by decide) hc5 rfl ?_
   refine r_load1 rfl TG.agg5 rfl ?_
   refine r_move rfl rfl ?_
   refine awl_nil ?_
   refine x_then ?_
   refine awp_block ?_
   refine awp_loop (fun nn0 S => ∃ i : Nat, S = ⟨143, [(1, .a (.cp [.fn f caps])), (4, .a (.v (.pointer (some ⟨b4, 0, none⟩)))), (5, .a (.fn 34 [.cp [.fn f caps], .v (.pointer (some ⟨b4, 0, none⟩))])), (6, .a (.cp (blkC hB0))), (7, .own 7 32 (((tabs l (1 + l.length)).take i).map blkC)), (44, .a (.v (.int .u8 ((l.length : Int))))), (45, .a (.v (.int .u8 ((i : Int)))))], ⟨b4, true, .box [.v (.int .i64 (((1 + i) : Nat) : Int))]⟩ :: ro os⟩ ∧ nn0 = l.length - i ∧ (i ≤ l.length)) (l.length - (0)) ⟨143, [(1, .a (.cp [.fn f caps])), (4, .a (.v (.pointer (some ⟨b4, 0, none⟩)))), (5, .a (.fn 34 [.cp [.fn f caps], .v (.pointer (some ⟨b4, 0, none⟩))])), (6, .a (.cp (blkC hB0))), (7, .own 7 32 (((tabs l (1 + l.length)).take (0)).map blkC)), (44, .a (.v (.int .u8 ((l.length : Int))))), (45, .a (.v (.int .u8 (((0) : Int)))))], ⟨b4, true, .box [.v (.int .i64 (((1 + (0)) : Nat) : Int))]⟩ :: ro os⟩ ⟨rfl, (Slots.cons rfl (by first | exact .refl _ | exact .nilOwn _ _ | exact .nilSl _ | exact .ownSl _ _ _  | exact SV.le.of_eq (by simp)) (Slots.cons rfl (by first | exact .refl _ | exact .nilOwn _ _ | exact .nilSl _ | exact .ownSl _ _ _  | exact SV.le.of_eq (by simp)) (Slots.cons rfl (by first | exact .refl _ | exact .nilOwn _ _ | exact .nilSl _ | exact .ownSl _ _ _  | exact SV.le.of_eq (by simp)) (Slots.cons rfl (by first | exact .refl _ | exact .nilOwn _ _ | exact .nilSl _ | exact .ownSl _ _ _  | exact SV.le.of_eq (by simp)) (Slots.cons rfl (by first | exact .refl _ | exact .nilOwn _ _ | exact .nilSl _ | exact .ownSl _ _ _  | exact SV.le.of_eq (by simp)) (Slots.cons rfl (by first | exact .refl _ | exact .nilOwn _ _ | exact .nilSl _ | exact .ownSl _ _ _  | exact SV.le.of_eq (by simp)) (Slots.cons rfl (by first | exact .refl _ | exact .nilOwn _ _ | exact .nilSl _ | exact .ownSl _ _ _  | exact SV.le.of_eq (by simp)) Slots.nil))))))), (List.Sublist.refl _)⟩ ⟨0, rfl, rfl, Nat.zero_le _⟩ ?_
   rintro nn0 _ ⟨i, rfl, rfl, hi⟩
   refine awp_seq ?_
   refine awp_region ?_
   refine r_cmp rfl rfl rfl rfl ?_
   refine awl_nil ?_
   refine x_then ?_
   refine awp_seq ?_
   refine awp_cond rfl (fun hc2 => ?_) (fun hc2 => ?_)
   ·
    have hlti : i < l.length := by have := of_decide_eq_true hc2; omega
    obtain ⟨x, hx⟩ := get_lt hlti
    refine awp_skip ?_
    refine x_then ?_
    refine awp_seq ?_
    refine awp_block ?_
    refine awp_region ?_
    refine r_move rfl rfl ?_
    refine r_move rfl rfl ?_
    refine r_callW hq [true] rfl rfl .nil (take_ok (os := ro os) hen (fun k b h => by rw [ro_roF]; exact hf k b h) (1 + i) (tabF x (atF l i)) (disk_tab hx) (by omega)) rfl TG.en34 rfl rfl (List.Sublist.refl _) rfl (fun r nobjs hr => ?_)
    obtain ⟨rfl, rfl⟩ := hr
    refine r_lit 50 (parts := [(0, .tmp 49)]) rfl TG.sl59 TG.sz33 TG.zraw33 rfl rfl rfl rfl rfl rfl rfl ?_
    refine r_append 7 rfl (by first | exact .own _ | exact .nil) rfl (by first | exact .sl _ | exact .own _ _ | exact .nil) TG.sl59 TG.sz33 (by decide) TG.by33 TG.zlen33 (by simp [chunks, tabs_len] <;> omega) (by simp [chunks, tabs_len] <;> omega) rfl ?_
    refine r_assign rfl rfl ?_
    refine awl_nil ?_
    refine x_block ?_
    refine x_then ?_
    refine awp_region ?_
    refine r_ari ((i + 1 : Nat) : Int) rfl rfl rfl (by rw [IntKind.wrap_u8]; omega) rfl ?_
    refine r_move rfl rfl ?_
    refine awl_nil ?_
    refine x_then ?_
    refine ⟨l.length - (i + 1), ⟨143, [(1, .a (.cp [.fn f caps])), (4, .a (.v (.pointer (some ⟨b4, 0, none⟩)))), (5, .a (.fn 34 [.cp [.fn f caps], .v (.pointer (some ⟨b4, 0, none⟩))])), (6, .a (.cp (blkC hB0))), (7, .own 7 32 (((tabs l (1 + l.length)).take (i + 1)).map blkC)), (44, .a (.v (.int .u8 ((l.length : Int))))), (45, .a (.v (.int .u8 (((i + 1) : Int)))))], ⟨b4, true, .box [.v (.int .i64 (((1 + (i + 1)) : Nat) : Int))]⟩ :: ro os⟩, ⟨rfl, (Slots.cons rfl (by first | exact .refl _ | exact .nilOwn _ _ | exact .nilSl _ | exact .ownSl _ _ _  | exact SV.le.ownEq (by first | rfl | (rw [map_take (tabs_get hx), List.map_append]; rfl) | (rw [map_take (tabs_get hx)]; rfl)) | exact SV.le.of_eq (by first | rfl | (rw [map_take (tabs_get hx), List.map_append]; rfl) | (rw [map_take (tabs_get hx)]; rfl))) (Slots.cons rfl (by first | exact .refl _ | exact .nilOwn _ _ | exact .nilSl _ | exact .ownSl _ _ _  | exact SV.le.ownEq (by first | rfl | (rw [map_take (tabs_get hx), List.map_append]; rfl) | (rw [map_take (tabs_get hx)]; rfl)) | exact SV.le.of_eq (by first | rfl | (rw [map_take (tabs_get hx), List.map_append]; rfl) | (rw [map_take (tabs_get hx)]; rfl))) (Slots.cons rfl (by first | exact .refl _ | exact .nilOwn _ _ | exact .nilSl _ | exact .ownSl _ _ _  | exact SV.le.ownEq (by first | rfl | (rw [map_take (tabs_get hx), List.map_append]; rfl) | (rw [map_take (tabs_get hx)]; rfl)) | exact SV.le.of_eq (by first | rfl | (rw [map_take (tabs_get hx), List.map_append]; rfl) | (rw [map_take (tabs_get hx)]; rfl))) (Slots.cons rfl (by first | exact .refl _ | exact .nilOwn _ _ | exact .nilSl _ | exact .ownSl _ _ _  | exact SV.le.ownEq (by first | rfl | (rw [map_take (tabs_get hx), List.map_append]; rfl) | (rw [map_take (tabs_get hx)]; rfl)) | exact SV.le.of_eq (by first | rfl | (rw [map_take (tabs_get hx), List.map_append]; rfl) | (rw [map_take (tabs_get hx)]; rfl))) (Slots.cons rfl (by first | exact .refl _ | exact .nilOwn _ _ | exact .nilSl _ | exact .ownSl _ _ _  | exact SV.le.ownEq (by first | rfl | (rw [map_take (tabs_get hx), List.map_append]; rfl) | (rw [map_take (tabs_get hx)]; rfl)) | exact SV.le.of_eq (by first | rfl | (rw [map_take (tabs_get hx), List.map_append]; rfl) | (rw [map_take (tabs_get hx)]; rfl))) (Slots.cons rfl (by first | exact .refl _ | exact .nilOwn _ _ | exact .nilSl _ | exact .ownSl _ _ _  | exact SV.le.ownEq (by first | rfl | (rw [map_take (tabs_get hx), List.map_append]; rfl) | (rw [map_take (tabs_get hx)]; rfl)) | exact SV.le.of_eq (by first | rfl | (rw [map_take (tabs_get hx), List.map_append]; rfl) | (rw [map_take (tabs_get hx)]; rfl))) (Slots.cons rfl (by first | exact .refl _ | exact .nilOwn _ _ | exact .nilSl _ | exact .ownSl _ _ _  | exact SV.le.ownEq (by first | rfl | (rw [map_take (tabs_get hx), List.map_append]; rfl) | (rw [map_take (tabs_get hx)]; rfl)) | exact SV.le.of_eq (by first | rfl | (rw [map_take (tabs_get hx), List.map_append]; rfl) | (rw [map_take (tabs_get hx)]; rfl))) Slots.nil))))))), (List.Sublist.refl _)⟩, (by omega), ⟨i + 1, rfl, rfl, (by omega)⟩⟩
   ·
    obtain rfl : i = l.length := by have := of_decide_eq_false hc2; omega
    have hTt : (tabs l (1 + l.length)).take l.length = (tabs l (1 + l.length)) := List.take_of_length_le (by rw [tabs_len]; exact Nat.le_refl _)
    have hTl : ((tabs l (1 + l.length)).map blkC).length = l.length := by rw [List.length_map, tabs_len]
    rw [hTt]
    refine awp_exit ?_
    refine x_thenE ?_
    refine x_thenE ?_
    refine x_blockE ?_
    refine x_then ?_
    refine awp_seq ?_
    refine awp_seq ?_
    refine awp_region ?_
    refine r_arrC (u8s (bpart hB0 6 8)) (arr_part hB0 6 8) rfl TG.un33 TG.sz5 rfl (.some rfl) (.some rfl) (by omega) (by omega) rfl ?_
    rw [h68]
    refine r_call0 hq rfl rfl (.cons (.ev rfl rfl) .nil) (get2_ok _ _) rfl TG.en37 rfl (fun r hr => ?_)
    obtain rfl := hr
    refine r_move rfl rfl ?_
    refine r_extract rfl rfl rfl ?_
    refine r_extract rfl rfl rfl ?_
    refine r_assign rfl rfl ?_
    refine r_assign rfl rfl ?_
    refine awl_nil ?_
    refine x_then ?_
    refine awp_seq ?_
    refine awp_region ?_
    refine r_move rfl rfl ?_
    refine r_move rfl rfl ?_
    refine r_call0 hq rfl rfl (.cons (.ev rfl rfl) .nil) (sum_ok (tabs l (1 + l.length)) (by rw [tabs_len]; omega)) rfl TG.en38 rfl (fun r hr => ?_)
    obtain rfl := hr
    refine r_cmp rfl rfl rfl rfl ?_
    refine awl_nil ?_
    refine x_then ?_
    refine awp_cond rfl (fun hc3 => ?_) (fun hc3 => ?_)
    ·
     exfalso; rw [g2_be2 (sum_lt _)] at hc3; simp at hc3
    ·
     refine awp_skip ?_
     refine x_then ?_
     refine awp_seq ?_
     refine awp_region ?_
     refine r_assign rfl rfl ?_
     refine awl_nil ?_
     refine x_then ?_
     refine awp_seq ?_
     refine awp_region ?_
     refine r_load1b 0 rfl rfl rfl TG.agg3 rfl ?_
     refine r_assign rfl rfl ?_
     refine awl_nil ?_
     refine x_then ?_
     refine awp_seq ?_
     refine awp_region ?_
     refine r_move rfl rfl ?_
     refine r_lenS rfl rfl TG.sl59 rfl ?_
     rw [hTl]
     refine r_makeSlice rfl rfl TG.sl87 TG.sz3 TG.by3 TG.zraw3 (by omega) (by omega) rfl (fun b65 => ?_)
     refine r_assign rfl rfl ?_
     refine awl_nil ?_
     refine x_then ?_
     refine awp_seq ?_
     refine awp_seq ?_
     refine awp_region ?_
     refine r_move rfl rfl ?_
     refine r_lenS rfl rfl TG.sl59 rfl ?_
     rw [hTl]
     refine r_move rfl rfl ?_
     refine awl_nil ?_
     refine x_then ?_
     refine awp_block ?_
     refine awp_loop (fun nn0 S => ∃ i : Nat, ∃ A : Option Addr, ∃ cap : Nat, ∃ O : List OE, S = ⟨143, [(1, .a (.cp [.fn f caps])), (4, .a (.v (.pointer (some ⟨b4, 0, none⟩)))), (5, .a (.fn 34 [.cp [.fn f caps], .v (.pointer (some ⟨b4, 0, none⟩))])), (10, .a (.v (.slice A i cap))), (11, .a (.v (.int .i64 (((atF l i : Nat) : Int))))), (12, .a (.v (.slice (some ⟨b65, 0, none⟩) l.length l.length))), (66, .a (blksA (tabs l (1 + l.length)))), (67, .a (.v (.int .i64 ((l.length : Int))))), (68, .a (.v (.int .i64 ((i : Int)))))], O ++ (⟨b65, true, .box (szB l i)⟩ :: ⟨b4, true, .box [.v (.int .i64 (((1 + l.length) : Nat) : Int))]⟩ :: ro os)⟩ ∧ nn0 = l.length - i ∧ (i ≤ l.length) ∧ (OutO 26 l i A cap O)) (l.length - (0)) ⟨143, [(1, .a (.cp [.fn f caps])), (4, .a (.v (.pointer (some ⟨b4, 0, none⟩)))), (5, .a (.fn 34 [.cp [.fn f caps], .v (.pointer (some ⟨b4, 0, none⟩))])), (10, .a (.v (.slice (none) (0) (0)))), (11, .a (.v (.int .i64 (((atF l (0) : Nat) : Int))))), (12, .a (.v (.slice (some ⟨b65, 0, none⟩) l.length l.length))), (66, .a (blksA (tabs l (1 + l.length)))), (67, .a (.v (.int .i64 ((l.length : Int))))), (68, .a (.v (.int .i64 (((0) : Int)))))], ([]) ++ (⟨b65, true, .box (szB l (0))⟩ :: ⟨b4, true, .box [.v (.int .i64 (((1 + l.length) : Nat) : Int))]⟩ :: ro os)⟩ ⟨rfl, (Slots.cons rfl (by first | exact .refl _ | exact .nilOwn _ _ | exact .nilSl _ | exact .ownSl _ _ _  | exact SV.le.ownEq (by first | (rw [atF_zero]; done) | simp) | exact SV.le.of_eq (by first | (rw [atF_zero]; done) | simp)) (Slots.cons rfl (by first | exact .refl _ | exact .nilOwn _ _ | exact .nilSl _ | exact .ownSl _ _ _  | exact SV.le.ownEq (by first | (rw [atF_zero]; done) | simp) | exact SV.le.of_eq (by first | (rw [atF_zero]; done) | simp)) (Slots.cons rfl (by first | exact .refl _ | exact .nilOwn _ _ | exact .nilSl _ | exact .ownSl _ _ _  | exact SV.le.ownEq (by first | (rw [atF_zero]; done) | simp) | exact SV.le.of_eq (by first | (rw [atF_zero]; done) | simp)) (Slots.cons rfl (by first | exact .refl _ | exact .nilOwn _ _ | exact .nilSl _ | exact .ownSl _ _ _  | exact SV.le.ownEq (by first | (rw [atF_zero]; done) | simp) | exact SV.le.of_eq (by first | (rw [atF_zero]; done) | simp)) (Slots.cons rfl (by first | exact .refl _ | exact .nilOwn _ _ | exact .nilSl _ | exact .ownSl _ _ _  | exact SV.le.ownEq (by first | (rw [atF_zero]; done) | simp) | exact SV.le.of_eq (by first | (rw [atF_zero]; done) | simp)) (Slots.cons rfl (by first | exact .refl _ | exact .nilOwn _ _ | exact .nilSl _ | exact .ownSl _ _ _  | exact SV.le.ownEq (by first | (rw [atF_zero]; done) | simp) | exact SV.le.of_eq (by first | (rw [atF_zero]; done) | simp)) (Slots.cons rfl (by first | exact .refl _ | exact .nilOwn _ _ | exact .nilSl _ | exact .ownSl _ _ _  | exact SV.le.ownEq (by first | (rw [atF_zero]; done) | simp) | exact SV.le.of_eq (by first | (rw [atF_zero]; done) | simp)) (Slots.cons rfl (by first | exact .refl _ | exact .nilOwn _ _ | exact .nilSl _ | exact .ownSl _ _ _  | exact SV.le.ownEq (by first | (rw [atF_zero]; done) | simp) | exact SV.le.of_eq (by first | (rw [atF_zero]; done) | simp)) (Slots.cons rfl (by first | exact .refl _ | exact .nilOwn _ _ | exact .nilSl _ | exact .ownSl _ _ _  | exact SV.le.ownEq (by first | (rw [atF_zero]; done) | simp) | exact SV.le.of_eq (by first | (rw [atF_zero]; done) | simp)) Slots.nil))))))))), (by rw [szB_zero]; exact List.Sublist.refl _)⟩ ⟨0, none, 0, [], rfl, rfl, Nat.zero_le _, (.inl ⟨rfl, rfl, rfl, rfl⟩)⟩ ?_
     rintro nn0 _ ⟨i, A, cap, O, rfl, rfl, hi, hO⟩
     refine awp_seq ?_
     refine awp_region ?_
     refine r_cmp rfl rfl rfl rfl ?_
     refine awl_nil ?_
     refine x_then ?_
     refine awp_seq ?_
     refine awp_cond rfl (fun hc4 => ?_) (fun hc4 => ?_)
     ·
      have hlti : i < l.length := by have := of_decide_eq_true hc4; omega
      obtain ⟨x, hx⟩ := get_lt hlti
      have hrx := tog_right htog (List.mem_of_getElem? hx)
      obtain ⟨hn1, hn12, hd256⟩ := right_bnd hrx
      have hat := atF_small hok (k := i) (by omega)
      have hml := many_le hd256
      refine awp_skip ?_
      refine x_then ?_
      refine awp_seq ?_
      refine awp_block ?_
      refine awp_seq ?_
      refine awp_region ?_
      refine r_move rfl rfl ?_
      refine r_index rfl rfl rfl TG.sl59 TG.sz33 (by omega) (get_map (tabs_get hx)) rfl ?_
      refine r_loadA rfl TG.agg33 TG.sz33 rfl rfl ?_
      refine r_alloc TG.zero33 rfl (fun b14 => ?_)
      refine r_assign rfl rfl ?_
      refine r_store 0 rfl rfl rfl TG.sz33 rfl rfl rfl ?_
      refine awl_nil ?_
      refine x_then ?_
      refine awp_seq ?_
      refine awp_region ?_
      refine r_loadAbe 0 (blkC (tabF x (atF l i))) rfl rfl rfl TG.agg33 TG.sz33 rfl rfl ?_
      refine r_call0 hq rfl rfl (.cons (.ev rfl rfl) .nil) (entryG_ok (tabF x (atF l i)) x.name.size hn12 (tab_idx hrx) _ _ _ _ (tab_size hn12) (tab_at hn12) (tab_z1 hn12) (tab_z2 hn12)) rfl TG.en39 rfl (fun r hr => ?_)
      obtain rfl := hr
      rw [tab_nm hn12, g2_be2 (show x.data.length < 65536 by omega), g2_be2 (show (if x.data = [] then 0 else atF l i) < 65536 by split <;> omega)]
      refine r_move rfl rfl ?_
      refine r_extract rfl rfl rfl ?_
      refine r_extract rfl rfl rfl ?_
      refine r_extract rfl rfl rfl ?_
      refine r_extract rfl rfl rfl ?_
      refine r_assign rfl rfl ?_
      refine r_assign rfl rfl ?_
      refine r_assign rfl rfl ?_
      refine r_assign rfl rfl ?_
      refine awl_nil ?_
      refine x_then ?_
      refine awp_seq ?_
      refine awp_region ?_
      refine r_move rfl rfl ?_
      refine r_assign rfl rfl ?_
      refine awl_nil ?_
      refine x_then ?_
      refine awp_cut (fun S => S = ⟨143, [(1, .a (.cp [.fn f caps])), (4, .a (.v (.pointer (some ⟨b4, 0, none⟩)))), (5, .a (.fn 34 [.cp [.fn f caps], .v (.pointer (some ⟨b4, 0, none⟩))])), (10, .a (.v (.slice A i cap))), (11, .a (.v (.int .i64 (((atF l i : Nat) : Int))))), (12, .a (.v (.slice (some ⟨b65, 0, none⟩) l.length l.length))), (66, .a (blksA (tabs l (1 + l.length)))), (67, .a (.v (.int .i64 ((l.length : Int))))), (68, .a (.v (.int .i64 ((i : Int))))), (13, .a (.v (.int .i64 ((i : Int))))), (15, .a (.v (.string x.name))), (16, .a (.v (.int .i64 ((x.data.length : Int))))), (17, .a (.v (.int .i64 (((if x.data = [] then 0 else atF l i : Nat) : Int))))), (18, .a (.v (.bool true))), (19, .a (.v (.int .i64 (((if x.data = [] then 0 else atF l i : Nat) : Int)))))], O ++ (⟨b65, true, .box (szB l i)⟩ :: ⟨b4, true, .box [.v (.int .i64 (((1 + l.length) : Nat) : Int))]⟩ :: ro os)⟩) ?_ ?_
      ·
       refine awp_seq ?_
       refine awp_region ?_
       refine r_move rfl rfl ?_
       refine r_cmp rfl rfl rfl rfl ?_
       refine awl_nil ?_
       refine x_then ?_
       refine awp_cond rfl (fun hc5 => ?_) (fun hc5 => ?_)
       ·
        have hv : (if x.data = [] then 0 else atF l i) = 0 := if_pos (List.eq_nil_of_length_eq_zero (by have := eq_of_beq hc5; omega))
        refine awp_region ?_
        refine r_assign rfl rfl ?_
        refine awl_nil ?_
        refine x_then ?_
        refine ⟨⟨143, [(1, .a (.cp [.fn f caps])), (4, .a (.v (.pointer (some ⟨b4, 0, none⟩)))), (5, .a (.fn 34 [.cp [.fn f caps], .v (.pointer (some ⟨b4, 0, none⟩))])), (10, .a (.v (.slice A i cap))), (11, .a (.v (.int .i64 (((atF l i : Nat) : Int))))), (12, .a (.v (.slice (some ⟨b65, 0, none⟩) l.length l.length))), (66, .a (blksA (tabs l (1 + l.length)))), (67, .a (.v (.int .i64 ((l.length : Int))))), (68, .a (.v (.int .i64 ((i : Int))))), (13, .a (.v (.int .i64 ((i : Int))))), (15, .a (.v (.string x.name))), (16, .a (.v (.int .i64 ((x.data.length : Int))))), (17, .a (.v (.int .i64 (((if x.data = [] then 0 else atF l i : Nat) : Int))))), (18, .a (.v (.bool true))), (19, .a (.v (.int .i64 (((if x.data = [] then 0 else atF l i : Nat) : Int)))))], O ++ (⟨b65, true, .box (szB l i)⟩ :: ⟨b4, true, .box [.v (.int .i64 (((1 + l.length) : Nat) : Int))]⟩ :: ro os)⟩, ⟨rfl, (Slots.cons rfl (by first | exact .refl _ | exact .nilOwn _ _ | exact .nilSl _ | exact .ownSl _ _ _  | exact SV.le.ownEq (by first | (rw [hv]; done) | (rw [hv]; rfl)) | exact SV.le.of_eq (by first | (rw [hv]; done) | (rw [hv]; rfl))) (Slots.cons rfl (by first | exact .refl _ | exact .nilOwn _ _ | exact .nilSl _ | exact .ownSl _ _ _  | exact SV.le.ownEq (by first | (rw [hv]; done) | (rw [hv]; rfl)) | exact SV.le.of_eq (by first | (rw [hv]; done) | (rw [hv]; rfl))) (Slots.cons rfl (by first | exact .refl _ | exact .nilOwn _ _ | exact .nilSl _ | exact .ownSl _ _ _  | exact SV.le.ownEq (by first | (rw [hv]; done) | (rw [hv]; rfl)) | exact SV.le.of_eq (by first | (rw [hv]; done) | (rw [hv]; rfl))) (Slots.cons rfl (by first | exact .refl _ | exact .nilOwn _ _ | exact .nilSl _ | exact .ownSl _ _ _  | exact SV.le.ownEq (by first | (rw [hv]; done) | (rw [hv]; rfl)) | exact SV.le.of_eq (by first | (rw [hv]; done) | (rw [hv]; rfl))) (Slots.cons rfl (by first | exact .refl _ | exact .nilOwn _ _ | exact .nilSl _ | exact .ownSl _ _ _  | exact SV.le.ownEq (by first | (rw [hv]; done) | (rw [hv]; rfl)) | exact SV.le.of_eq (by first | (rw [hv]; done) | (rw [hv]; rfl))) (Slots.cons rfl (by first | exact .refl _ | exact .nilOwn _ _ | exact .nilSl _ | exact .ownSl _ _ _  | exact SV.le.ownEq (by first | (rw [hv]; done) | (rw [hv]; rfl)) | exact SV.le.of_eq (by first | (rw [hv]; done) | (rw [hv]; rfl))) (Slots.cons rfl (by first | exact .refl _ | exact .nilOwn _ _ | exact .nilSl _ | exact .ownSl _ _ _  | exact SV.le.ownEq (by first | (rw [hv]; done) | (rw [hv]; rfl)) | exact SV.le.of_eq (by first | (rw [hv]; done) | (rw [hv]; rfl))) (Slots.cons rfl (by first | exact .refl _ | exact .nilOwn _ _ | exact .nilSl _ | exact .ownSl _ _ _  | exact SV.le.ownEq (by first | (rw [hv]; done) | (rw [hv]; rfl)) | exact SV.le.of_eq (by first | (rw [hv]; done) | (rw [hv]; rfl))) (Slots.cons rfl (by first | exact .refl _ | exact .nilOwn _ _ | exact .nilSl _ | exact .ownSl _ _ _  | exact SV.le.ownEq (by first | (rw [hv]; done) | (rw [hv]; rfl)) | exact SV.le.of_eq (by first | (rw [hv]; done) | (rw [hv]; rfl))) (Slots.cons rfl (by first | exact .refl _ | exact .nilOwn _ _ | exact .nilSl _ | exact .ownSl _ _ _  | exact SV.le.ownEq (by first | (rw [hv]; done) | (rw [hv]; rfl)) | exact SV.le.of_eq (by first | (rw [hv]; done) | (rw [hv]; rfl))) (Slots.cons rfl (by first | exact .refl _ | exact .nilOwn _ _ | exact .nilSl _ | exact .ownSl _ _ _  | exact SV.le.ownEq (by first | (rw [hv]; done) | (rw [hv]; rfl)) | exact SV.le.of_eq (by first | (rw [hv]; done) | (rw [hv]; rfl))) (Slots.cons rfl (by first | exact .refl _ | exact .nilOwn _ _ | exact .nilSl _ | exact .ownSl _ _ _  | exact SV.le.ownEq (by first | (rw [hv]; done) | (rw [hv]; rfl)) | exact SV.le.of_eq (by first | (rw [hv]; done) | (rw [hv]; rfl))) (Slots.cons rfl (by first | exact .refl _ | exact .nilOwn _ _ | exact .nilSl _ | exact .ownSl _ _ _  | exact SV.le.ownEq (by first | (rw [hv]; done) | (rw [hv]; rfl)) | exact SV.le.of_eq (by first | (rw [hv]; done) | (rw [hv]; rfl))) (Slots.cons rfl (by first | exact .refl _ | exact .nilOwn _ _ | exact .nilSl _ | exact .ownSl _ _ _  | exact SV.le.ownEq (by first | (rw [hv]; done) | (rw [hv]; rfl)) | exact SV.le.of_eq (by first | (rw [hv]; done) | (rw [hv]; rfl))) (Slots.cons rfl (by first | exact .refl _ | exact .nilOwn _ _ | exact .nilSl _ | exact .ownSl _ _ _  | exact SV.le.ownEq (by first | (rw [hv]; done) | (rw [hv]; rfl)) | exact SV.le.of_eq (by first | (rw [hv]; done) | (rw [hv]; rfl))) Slots.nil))))))))))))))), (.cons _ (.refl _))⟩, rfl⟩
       ·
        have hv : (if x.data = [] then 0 else atF l i) = atF l i := if_neg (fun h => by rw [h] at hc5; simp at hc5)
        refine awp_skip ?_
        refine x_then ?_
        refine ⟨⟨143, [(1, .a (.cp [.fn f caps])), (4, .a (.v (.pointer (some ⟨b4, 0, none⟩)))), (5, .a (.fn 34 [.cp [.fn f caps], .v (.pointer (some ⟨b4, 0, none⟩))])), (10, .a (.v (.slice A i cap))), (11, .a (.v (.int .i64 (((atF l i : Nat) : Int))))), (12, .a (.v (.slice (some ⟨b65, 0, none⟩) l.length l.length))), (66, .a (blksA (tabs l (1 + l.length)))), (67, .a (.v (.int .i64 ((l.length : Int))))), (68, .a (.v (.int .i64 ((i : Int))))), (13, .a (.v (.int .i64 ((i : Int))))), (15, .a (.v (.string x.name))), (16, .a (.v (.int .i64 ((x.data.length : Int))))), (17, .a (.v (.int .i64 (((if x.data = [] then 0 else atF l i : Nat) : Int))))), (18, .a (.v (.bool true))), (19, .a (.v (.int .i64 (((if x.data = [] then 0 else atF l i : Nat) : Int)))))], O ++ (⟨b65, true, .box (szB l i)⟩ :: ⟨b4, true, .box [.v (.int .i64 (((1 + l.length) : Nat) : Int))]⟩ :: ro os)⟩, ⟨rfl, (Slots.cons rfl (by first | exact .refl _ | exact .nilOwn _ _ | exact .nilSl _ | exact .ownSl _ _ _  | exact SV.le.ownEq (by first | (rw [hv]; done) | (rw [hv]; rfl)) | exact SV.le.of_eq (by first | (rw [hv]; done) | (rw [hv]; rfl))) (Slots.cons rfl (by first | exact .refl _ | exact .nilOwn _ _ | exact .nilSl _ | exact .ownSl _ _ _  | exact SV.le.ownEq (by first | (rw [hv]; done) | (rw [hv]; rfl)) | exact SV.le.of_eq (by first | (rw [hv]; done) | (rw [hv]; rfl))) (Slots.cons rfl (by first | exact .refl _ | exact .nilOwn _ _ | exact .nilSl _ | exact .ownSl _ _ _  | exact SV.le.ownEq (by first | (rw [hv]; done) | (rw [hv]; rfl)) | exact SV.le.of_eq (by first | (rw [hv]; done) | (rw [hv]; rfl))) (Slots.cons rfl (by first | exact .refl _ | exact .nilOwn _ _ | exact .nilSl _ | exact .ownSl _ _ _  | exact SV.le.ownEq (by first | (rw [hv]; done) | (rw [hv]; rfl)) | exact SV.le.of_eq (by first | (rw [hv]; done) | (rw [hv]; rfl))) (Slots.cons rfl (by first | exact .refl _ | exact .nilOwn _ _ | exact .nilSl _ | exact .ownSl _ _ _  | exact SV.le.ownEq (by first | (rw [hv]; done) | (rw [hv]; rfl)) | exact SV.le.of_eq (by first | (rw [hv]; done) | (rw [hv]; rfl))) (Slots.cons rfl (by first | exact .refl _ | exact .nilOwn _ _ | exact .nilSl _ | exact .ownSl _ _ _  | exact SV.le.ownEq (by first | (rw [hv]; done) | (rw [hv]; rfl)) | exact SV.le.of_eq (by first | (rw [hv]; done) | (rw [hv]; rfl))) (Slots.cons rfl (by first | exact .refl _ | exact .nilOwn _ _ | exact .nilSl _ | exact .ownSl _ _ _  | exact SV.le.ownEq (by first | (rw [hv]; done) | (rw [hv]; rfl)) | exact SV.le.of_eq (by first | (rw [hv]; done) | (rw [hv]; rfl))) (Slots.cons rfl (by first | exact .refl _ | exact .nilOwn _ _ | exact .nilSl _ | exact .ownSl _ _ _  | exact SV.le.ownEq (by first | (rw [hv]; done) | (rw [hv]; rfl)) | exact SV.le.of_eq (by first | (rw [hv]; done) | (rw [hv]; rfl))) (Slots.cons rfl (by first | exact .refl _ | exact .nilOwn _ _ | exact .nilSl _ | exact .ownSl _ _ _  | exact SV.le.ownEq (by first | (rw [hv]; done) | (rw [hv]; rfl)) | exact SV.le.of_eq (by first | (rw [hv]; done) | (rw [hv]; rfl))) (Slots.cons rfl (by first | exact .refl _ | exact .nilOwn _ _ | exact .nilSl _ | exact .ownSl _ _ _  | exact SV.le.ownEq (by first | (rw [hv]; done) | (rw [hv]; rfl)) | exact SV.le.of_eq (by first | (rw [hv]; done) | (rw [hv]; rfl))) (Slots.cons rfl (by first | exact .refl _ | exact .nilOwn _ _ | exact .nilSl _ | exact .ownSl _ _ _  | exact SV.le.ownEq (by first | (rw [hv]; done) | (rw [hv]; rfl)) | exact SV.le.of_eq (by first | (rw [hv]; done) | (rw [hv]; rfl))) (Slots.cons rfl (by first | exact .refl _ | exact .nilOwn _ _ | exact .nilSl _ | exact .ownSl _ _ _  | exact SV.le.ownEq (by first | (rw [hv]; done) | (rw [hv]; rfl)) | exact SV.le.of_eq (by first | (rw [hv]; done) | (rw [hv]; rfl))) (Slots.cons rfl (by first | exact .refl _ | exact .nilOwn _ _ | exact .nilSl _ | exact .ownSl _ _ _  | exact SV.le.ownEq (by first | (rw [hv]; done) | (rw [hv]; rfl)) | exact SV.le.of_eq (by first | (rw [hv]; done) | (rw [hv]; rfl))) (Slots.cons rfl (by first | exact .refl _ | exact .nilOwn _ _ | exact .nilSl _ | exact .ownSl _ _ _  | exact SV.le.ownEq (by first | (rw [hv]; done) | (rw [hv]; rfl)) | exact SV.le.of_eq (by first | (rw [hv]; done) | (rw [hv]; rfl))) (Slots.cons rfl (by first | exact .refl _ | exact .nilOwn _ _ | exact .nilSl _ | exact .ownSl _ _ _  | exact SV.le.ownEq (by first | (rw [hv]; done) | (rw [hv]; rfl)) | exact SV.le.of_eq (by first | (rw [hv]; done) | (rw [hv]; rfl))) Slots.nil))))))))))))))), (.cons _ (.refl _))⟩, rfl⟩
      ·
       rintro _ ⟨rfl⟩
       refine awp_seq ?_
       refine awp_seq ?_
       refine awp_region ?_
       refine r_move rfl rfl ?_
       refine r_not rfl rfl ?_
       refine r_move rfl rfl ?_
       refine g_run rfl rfl rfl ?_
       refine r_move rfl rfl ?_
       refine g_run rfl rfl rfl ?_
       refine r_cmp rfl rfl rfl rfl ?_
       refine r_pickF rfl rfl rfl rfl ?_
       refine r_move rfl rfl ?_
       refine g_run rfl rfl (decide_eq_false (by omega)) ?_
       refine r_move rfl rfl ?_
       refine g_run rfl rfl (decide_eq_false (by omega)) ?_
       refine r_move rfl rfl ?_
       refine g_run rfl rfl (decide_eq_false (by omega)) ?_
       refine r_cmp rfl rfl rfl rfl ?_
       refine r_pickF rfl (decide_eq_false (by omega)) rfl rfl ?_
       refine awl_nil ?_
       refine x_then ?_
       refine awp_cond rfl (fun hc6 => ?_) (fun hc6 => ?_)
       ·
        exfalso; simp at hc6
       ·
        refine awp_skip ?_
        refine x_then ?_
        refine awp_seq ?_
        refine awp_region ?_
        refine r_move rfl rfl ?_
        rcases hO with ⟨rfl, rfl, rfl, rfl⟩ | ⟨h0, g, rfl, rfl⟩
        ·
         have hb1 : ((bareL (l.take (0 + 1))).map File.cs) = [[.v (.string x.name), bts []]] := by rw [bareL_snoc hx]; rfl
         refine r_move rfl rfl ?_
         refine r_move rfl rfl ?_
         refine r_move rfl rfl ?_
         refine r_build (parts := [(0, .tmp 97)]) rfl TG.pl26 TG.zero26 rfl rfl rfl ?_
         refine r_lit 99 (parts := [(0, .tmp 98)]) rfl TG.sl24 TG.sz26 TG.zraw26 rfl rfl rfl rfl rfl rfl rfl ?_
         refine r_appendBN rfl rfl (by first | exact .sl _ | exact .own _ _) (by simp [chunks]) TG.sl24 TG.sz26 TG.by26 TG.zlen26 (by simp [chunks] <;> omega) (by simp [chunks] <;> omega) rfl (fun gb gc => ?_)
         refine r_move rfl rfl ?_
         refine r_assign rfl rfl ?_
         refine r_indexV rfl rfl TG.sl87 TG.sz3 (by omega) (by omega) rfl ?_
         refine r_store 1 rfl rfl rfl TG.sz3 rfl (Nat.ble_eq_true_of_le (by rw [szB_len (by omega)]; omega)) rfl ?_
         refine awl_nil ?_
         refine x_then ?_
         refine awp_region ?_
         refine r_move rfl rfl ?_
         refine r_move rfl rfl ?_
         refine r_call0 hq rfl rfl (.cons (.ev rfl rfl) .nil) (many_ok x.data.length (by omega)) rfl TG.en40 rfl (fun r hr => ?_)
         obtain rfl := hr
         refine r_ari ((atF l (_ + 1) : Nat) : Int) rfl rfl rfl (by rw [atF_step hx, wrap_id (by omega)]; omega) rfl ?_
         refine r_assign rfl rfl ?_
         refine awl_nil ?_
         refine x_block ?_
         refine x_then ?_
         refine awp_region ?_
         refine r_ari _ rfl rfl rfl (wrap_id (by first | omega | (simp; omega))) rfl ?_
         refine r_move rfl rfl ?_
         refine awl_nil ?_
         refine x_then ?_
         refine ⟨l.length - (0 + 1), ⟨143, [(1, .a (.cp [.fn f caps])), (4, .a (.v (.pointer (some ⟨b4, 0, none⟩)))), (5, .a (.fn 34 [.cp [.fn f caps], .v (.pointer (some ⟨b4, 0, none⟩))])), (10, .a (.v (.slice ((some ⟨gb, 0, none⟩)) (0 + 1) (gc)))), (11, .a (.v (.int .i64 (((atF l (0 + 1) : Nat) : Int))))), (12, .a (.v (.slice (some ⟨b65, 0, none⟩) l.length l.length))), (66, .a (blksA (tabs l (1 + l.length)))), (67, .a (.v (.int .i64 ((l.length : Int))))), (68, .a (.v (.int .i64 (((0 + 1) : Int)))))], ([⟨gb, true, .buf 2 ((bareL (l.take (0 + 1))).map File.cs) gc 26⟩]) ++ (⟨b65, true, .box (szB l (0 + 1))⟩ :: ⟨b4, true, .box [.v (.int .i64 (((1 + l.length) : Nat) : Int))]⟩ :: ro os)⟩, ⟨rfl, (Slots.cons rfl (by first | exact .refl _ | exact .nilOwn _ _ | exact .nilSl _ | exact .ownSl _ _ _  | exact SV.le.of_eq (by simp)) (Slots.cons rfl (by first | exact .refl _ | exact .nilOwn _ _ | exact .nilSl _ | exact .ownSl _ _ _  | exact SV.le.of_eq (by simp)) (Slots.cons rfl (by first | exact .refl _ | exact .nilOwn _ _ | exact .nilSl _ | exact .ownSl _ _ _  | exact SV.le.of_eq (by simp)) (Slots.cons rfl (by first | exact .refl _ | exact .nilOwn _ _ | exact .nilSl _ | exact .ownSl _ _ _  | exact SV.le.of_eq (by simp)) (Slots.cons rfl (by first | exact .refl _ | exact .nilOwn _ _ | exact .nilSl _ | exact .ownSl _ _ _  | exact SV.le.of_eq (by simp)) (Slots.cons rfl (by first | exact .refl _ | exact .nilOwn _ _ | exact .nilSl _ | exact .ownSl _ _ _  | exact SV.le.of_eq (by simp)) (Slots.cons rfl (by first | exact .refl _ | exact .nilOwn _ _ | exact .nilSl _ | exact .ownSl _ _ _  | exact SV.le.of_eq (by simp)) (Slots.cons rfl (by first | exact .refl _ | exact .nilOwn _ _ | exact .nilSl _ | exact .ownSl _ _ _  | exact SV.le.of_eq (by simp)) (Slots.cons rfl (by first | exact .refl _ | exact .nilOwn _ _ | exact .nilSl _ | exact .ownSl _ _ _  | exact SV.le.of_eq (by simp)) Slots.nil))))))))), (by rw [hb1, ← szB_step hx]; exact List.Sublist.refl _)⟩, (by omega), ⟨0 + 1, (some ⟨gb, 0, none⟩), gc, [⟨gb, true, .buf 2 ((bareL (l.take (0 + 1))).map File.cs) gc 26⟩], rfl, rfl, (by omega), (.inr ⟨by omega, gb, rfl, rfl⟩)⟩⟩
        ·
         have hrl : ((bareL (l.take (i))).map File.cs).length = i := by rw [List.length_map, bareL_len, List.length_take]; omega
         have hb1 : ((bareL (l.take (i + 1))).map File.cs) = ((bareL (l.take (i))).map File.cs) ++ [[.v (.string x.name), bts []]] := by rw [bareL_snoc hx, List.map_append]; rfl
         refine r_move rfl rfl ?_
         refine r_move rfl rfl ?_
         refine r_move rfl rfl ?_
         refine r_build (parts := [(0, .tmp 97)]) rfl TG.pl26 TG.zero26 rfl rfl rfl ?_
         refine r_lit 99 (parts := [(0, .tmp 98)]) rfl TG.sl24 TG.sz26 TG.zraw26 rfl rfl rfl rfl rfl rfl rfl ?_
         refine r_appendBG 0 rfl hrl.symm rfl rfl (by first | exact .sl _ | exact .own _ _) (by simp [chunks]) TG.sl24 TG.sz26 TG.by26 TG.zlen26 (by simp only [hrl]; simp [chunks] <;> omega) (by simp only [hrl]; simp [chunks] <;> omega) rfl (fun gb gc => ?_)
         refine r_move rfl rfl ?_
         refine r_assign rfl rfl ?_
         refine r_indexV rfl rfl TG.sl87 TG.sz3 (by omega) (by omega) rfl ?_
         refine r_store 1 rfl rfl rfl TG.sz3 rfl (Nat.ble_eq_true_of_le (by rw [szB_len (by omega)]; omega)) rfl ?_
         refine awl_nil ?_
         refine x_then ?_
         refine awp_region ?_
         refine r_move rfl rfl ?_
         refine r_move rfl rfl ?_
         refine r_call0 hq rfl rfl (.cons (.ev rfl rfl) .nil) (many_ok x.data.length (by omega)) rfl TG.en40 rfl (fun r hr => ?_)
         obtain rfl := hr
         refine r_ari ((atF l (_ + 1) : Nat) : Int) rfl rfl rfl (by rw [atF_step hx, wrap_id (by omega)]; omega) rfl ?_
         refine r_assign rfl rfl ?_
         refine awl_nil ?_
         refine x_block ?_
         refine x_then ?_
         refine awp_region ?_
         refine r_ari _ rfl rfl rfl (wrap_id (by first | omega | (simp; omega))) rfl ?_
         refine r_move rfl rfl ?_
         refine awl_nil ?_
         refine x_then ?_
         refine ⟨l.length - (i + 1), ⟨143, [(1, .a (.cp [.fn f caps])), (4, .a (.v (.pointer (some ⟨b4, 0, none⟩)))), (5, .a (.fn 34 [.cp [.fn f caps], .v (.pointer (some ⟨b4, 0, none⟩))])), (10, .a (.v (.slice ((some ⟨gb, 0, none⟩)) (i + 1) (gc)))), (11, .a (.v (.int .i64 (((atF l (i + 1) : Nat) : Int))))), (12, .a (.v (.slice (some ⟨b65, 0, none⟩) l.length l.length))), (66, .a (blksA (tabs l (1 + l.length)))), (67, .a (.v (.int .i64 ((l.length : Int))))), (68, .a (.v (.int .i64 (((i + 1) : Int)))))], ([⟨gb, true, .buf 2 ((bareL (l.take (i + 1))).map File.cs) gc 26⟩]) ++ (⟨b65, true, .box (szB l (i + 1))⟩ :: ⟨b4, true, .box [.v (.int .i64 (((1 + l.length) : Nat) : Int))]⟩ :: ro os)⟩, ⟨rfl, (Slots.cons rfl (by first | exact .refl _ | exact .nilOwn _ _ | exact .nilSl _ | exact .ownSl _ _ _  | exact SV.le.ownEq (by first | rfl | (rw [List.length_append, hrl]; rfl)) | exact SV.le.of_eq (by first | rfl | (rw [List.length_append, hrl]; rfl))) (Slots.cons rfl (by first | exact .refl _ | exact .nilOwn _ _ | exact .nilSl _ | exact .ownSl _ _ _  | exact SV.le.ownEq (by first | rfl | (rw [List.length_append, hrl]; rfl)) | exact SV.le.of_eq (by first | rfl | (rw [List.length_append, hrl]; rfl))) (Slots.cons rfl (by first | exact .refl _ | exact .nilOwn _ _ | exact .nilSl _ | exact .ownSl _ _ _  | exact SV.le.ownEq (by first | rfl | (rw [List.length_append, hrl]; rfl)) | exact SV.le.of_eq (by first | rfl | (rw [List.length_append, hrl]; rfl))) (Slots.cons rfl (by first | exact .refl _ | exact .nilOwn _ _ | exact .nilSl _ | exact .ownSl _ _ _  | exact SV.le.ownEq (by first | rfl | (rw [List.length_append, hrl]; rfl)) | exact SV.le.of_eq (by first | rfl | (rw [List.length_append, hrl]; rfl))) (Slots.cons rfl (by first | exact .refl _ | exact .nilOwn _ _ | exact .nilSl _ | exact .ownSl _ _ _  | exact SV.le.ownEq (by first | rfl | (rw [List.length_append, hrl]; rfl)) | exact SV.le.of_eq (by first | rfl | (rw [List.length_append, hrl]; rfl))) (Slots.cons rfl (by first | exact .refl _ | exact .nilOwn _ _ | exact .nilSl _ | exact .ownSl _ _ _  | exact SV.le.ownEq (by first | rfl | (rw [List.length_append, hrl]; rfl)) | exact SV.le.of_eq (by first | rfl | (rw [List.length_append, hrl]; rfl))) (Slots.cons rfl (by first | exact .refl _ | exact .nilOwn _ _ | exact .nilSl _ | exact .ownSl _ _ _  | exact SV.le.ownEq (by first | rfl | (rw [List.length_append, hrl]; rfl)) | exact SV.le.of_eq (by first | rfl | (rw [List.length_append, hrl]; rfl))) (Slots.cons rfl (by first | exact .refl _ | exact .nilOwn _ _ | exact .nilSl _ | exact .ownSl _ _ _  | exact SV.le.ownEq (by first | rfl | (rw [List.length_append, hrl]; rfl)) | exact SV.le.of_eq (by first | rfl | (rw [List.length_append, hrl]; rfl))) (Slots.cons rfl (by first | exact .refl _ | exact .nilOwn _ _ | exact .nilSl _ | exact .ownSl _ _ _  | exact SV.le.ownEq (by first | rfl | (rw [List.length_append, hrl]; rfl)) | exact SV.le.of_eq (by first | rfl | (rw [List.length_append, hrl]; rfl))) Slots.nil))))))))), (by rw [hb1, ← szB_step hx]; exact List.Sublist.refl _)⟩, (by omega), ⟨i + 1, (some ⟨gb, 0, none⟩), gc, [⟨gb, true, .buf 2 ((bareL (l.take (i + 1))).map File.cs) gc 26⟩], rfl, rfl, (by omega), (.inr ⟨by omega, gb, rfl, rfl⟩)⟩⟩
     ·
      obtain rfl : i = l.length := by have := of_decide_eq_false hc4; omega
      refine awp_exit ?_
      refine x_thenE ?_
      refine x_thenE ?_
      refine x_blockE ?_
      refine x_then ?_
      refine awp_seq ?_
      refine awp_seq ?_
      refine awp_region ?_
      refine r_move rfl rfl ?_
      rcases hO with ⟨h0, rfl, rfl, rfl⟩ | ⟨h0, g, rfl, rfl⟩
      ·
       have hl0 : l = [] := List.eq_nil_of_length_eq_zero h0
       rw [show AV.v (Value.slice none l.length 0) = AV.v (.slice none 0 0) by rw [h0]]
       refine r_call0 hq rfl rfl (.cons (.nil rfl) .nil) (together_ok [] (by simp) (by simp)) rfl TG.en41 rfl (fun r hr => ?_)
       obtain rfl := hr
       refine r_not rfl rfl ?_
       refine awl_nil ?_
       refine x_then ?_
       refine awp_cond rfl (fun hc7 => ?_) (fun hc7 => ?_)
       ·
        exfalso; first | cases hc7 | exact absurd hc7 (by decide) | simp at hc7
       ·
        refine awp_skip ?_
        refine x_then ?_
        refine awp_seq ?_
        refine awp_seq ?_
        refine awp_region ?_
        refine r_move rfl rfl ?_
        refine r_lenV rfl TG.sl87 rfl ?_
        refine r_move rfl rfl ?_
        refine awl_nil ?_
        refine x_then ?_
        refine awp_block ?_
        refine awp_loop (fun nn0 S => S = ⟨143, [(10, .a (.v (.slice none 0 0))), (112, .a (.v (.int .i64 ((l.length : Int))))), (113, .a (.v (.int .i64 (0))))], []⟩ ∧ nn0 = 0) (0) ⟨143, [(10, .a (.v (.slice none 0 0))), (112, .a (.v (.int .i64 ((l.length : Int))))), (113, .a (.v (.int .i64 (0))))], []⟩ ⟨rfl, (Slots.cons rfl (by first | exact .refl _ | exact .nilOwn _ _ | exact .nilSl _ | exact .ownSl _ _ _  | exact SV.le.of_eq (by simp)) (Slots.cons rfl (by first | exact .refl _ | exact .nilOwn _ _ | exact .nilSl _ | exact .ownSl _ _ _  | exact SV.le.of_eq (by simp)) (Slots.cons rfl (by first | exact .refl _ | exact .nilOwn _ _ | exact .nilSl _ | exact .ownSl _ _ _  | exact SV.le.of_eq (by simp)) Slots.nil))), (by first | exact List.Sublist.refl _ | exact .cons_cons _ (.cons _ (.refl _)) | exact List.nil_sublist _ | exact .cons _ (.refl _) | exact .cons _ (.cons _ (.refl _)) | exact .cons _ (.cons _ (.cons _ (.refl _))) | exact .cons _ (.cons _ (.cons _ (.cons _ (.refl _)))) | exact .cons_cons _ (List.nil_sublist _))⟩ ⟨rfl, rfl⟩ ?_
        rintro nn0 _ ⟨rfl, rfl⟩
        refine awp_seq ?_
        refine awp_region ?_
        refine r_cmp rfl rfl rfl rfl ?_
        refine awl_nil ?_
        refine x_then ?_
        refine awp_seq ?_
        refine awp_cond rfl (fun hc8 => ?_) (fun hc8 => ?_)
        ·
         exfalso; have := of_decide_eq_true hc8; omega
        ·
         refine awp_exit ?_
         refine x_thenE ?_
         refine x_thenE ?_
         refine x_blockE ?_
         refine x_then ?_
         refine awp_seq ?_
         refine awp_region ?_
         refine r_move rfl rfl ?_
         refine r_assign rfl rfl ?_
         refine r_assign rfl rfl ?_
         refine awl_nil ?_
         refine x_then ?_
         refine awp_ret ?_
         exact ⟨(.inl rfl), _, [], (.two (.nil (sz := 2) rfl) (.mk rfl rfl)), ⟨rfl, by rw [hl0]; rfl⟩, (List.nil_sublist _), (by simp)⟩
      ·
       rw [List.take_of_length_le (Nat.le_refl _)]
       refine awl_bufBoxL 0 rfl (fun ext hcap hext => ?_)
       rw [List.length_map, bareL_len] at hcap
       have hext2 : l.length * 2 + ext.length = cap * 2 := by rw [← hext, flat_len (sz := 2) (fun c hc => by obtain ⟨f, _, rfl⟩ := List.mem_map.1 hc; rfl), List.length_map, bareL_len]
       refine r_callO hq rfl rfl (.cons (.ev rfl rfl) .nil) (togetherO_ok (bareL l) (ext := ext) (bareL_len l).symm (by rw [bareL_len]; omega) (fun f hf => by obtain ⟨x, hx, rfl⟩ := List.mem_map.1 hf; have := right_bnd (tog_right htog hx); show x.name.size ≤ _; omega)) rfl TG.en41 (.cons_cons _ (List.nil_sublist _)) rfl (fun r nobjs hr => ?_)
       obtain ⟨rfl, rfl⟩ := hr
       rw [bareL_tog htog]
       refine r_not rfl rfl ?_
       refine awl_nil ?_
       refine x_then ?_
       refine awp_cond rfl (fun hc7 => ?_) (fun hc7 => ?_)
       ·
        exfalso; first | cases hc7 | simp at hc7
       ·
        refine awp_skip ?_
        refine x_then ?_
        refine awp_seq ?_
        refine awp_seq ?_
        refine awp_region ?_
        refine r_move rfl rfl ?_
        refine r_lenV rfl TG.sl87 rfl ?_
        refine r_move rfl rfl ?_
        refine awl_nil ?_
        refine x_then ?_
        refine awp_block ?_
        refine awp_imp (imp_perm (objs := ⟨b4, true, .box [.v (.int .i64 (((1 + l.length) : Nat) : Int))]⟩ :: ⟨g, true, .box (boxF (bareL l) ext)⟩ :: ⟨b65, true, .box (szB l l.length)⟩ :: ro os) perm3) ?_
        refine awp_loop (fun nn0 S => ∃ k : Nat, S = ⟨143, [(1, .a (.cp [.fn f caps])), (4, .a (.v (.pointer (some ⟨b4, 0, none⟩)))), (5, .a (.fn 34 [.cp [.fn f caps], .v (.pointer (some ⟨b4, 0, none⟩))])), (10, .a (.v (.slice (some ⟨g, 0, none⟩) l.length cap))), (111, .a (.v (.slice (some ⟨b65, 0, none⟩) l.length l.length))), (112, .a (.v (.int .i64 ((l.length : Int))))), (113, .a (.v (.int .i64 ((k : Int)))))], ⟨b4, true, .box [.v (.int .i64 (((atF l k) : Nat) : Int))]⟩ :: ⟨g, true, .box (fillF l k ext)⟩ :: ⟨b65, true, .box (szB l l.length)⟩ :: ro os⟩ ∧ nn0 = l.length - k ∧ (k ≤ l.length)) (l.length - (0)) ⟨143, [(1, .a (.cp [.fn f caps])), (4, .a (.v (.pointer (some ⟨b4, 0, none⟩)))), (5, .a (.fn 34 [.cp [.fn f caps], .v (.pointer (some ⟨b4, 0, none⟩))])), (10, .a (.v (.slice (some ⟨g, 0, none⟩) l.length cap))), (111, .a (.v (.slice (some ⟨b65, 0, none⟩) l.length l.length))), (112, .a (.v (.int .i64 ((l.length : Int))))), (113, .a (.v (.int .i64 (((0) : Int)))))], ⟨b4, true, .box [.v (.int .i64 (((atF l (0)) : Nat) : Int))]⟩ :: ⟨g, true, .box (fillF l (0) ext)⟩ :: ⟨b65, true, .box (szB l l.length)⟩ :: ro os⟩ ⟨rfl, (Slots.cons rfl (by first | exact .refl _ | exact .nilOwn _ _ | exact .nilSl _ | exact .ownSl _ _ _  | exact SV.le.of_eq (by simp)) (Slots.cons rfl (by first | exact .refl _ | exact .nilOwn _ _ | exact .nilSl _ | exact .ownSl _ _ _  | exact SV.le.of_eq (by simp)) (Slots.cons rfl (by first | exact .refl _ | exact .nilOwn _ _ | exact .nilSl _ | exact .ownSl _ _ _  | exact SV.le.of_eq (by simp)) (Slots.cons rfl (by first | exact .refl _ | exact .nilOwn _ _ | exact .nilSl _ | exact .ownSl _ _ _  | exact SV.le.of_eq (by simp)) (Slots.cons rfl (by first | exact .refl _ | exact .nilOwn _ _ | exact .nilSl _ | exact .ownSl _ _ _  | exact SV.le.of_eq (by simp)) (Slots.cons rfl (by first | exact .refl _ | exact .nilOwn _ _ | exact .nilSl _ | exact .ownSl _ _ _  | exact SV.le.of_eq (by simp)) (Slots.cons rfl (by first | exact .refl _ | exact .nilOwn _ _ | exact .nilSl _ | exact .ownSl _ _ _  | exact SV.le.of_eq (by simp)) Slots.nil))))))), (by rw [atF_zero, fill_zero]; exact List.Sublist.refl _)⟩ ⟨0, rfl, rfl, Nat.zero_le _⟩ ?_
        rintro nn0 _ ⟨k, rfl, rfl, hk⟩
        refine awp_seq ?_
        refine awp_region ?_
        refine r_cmp rfl rfl rfl rfl ?_
        refine awl_nil ?_
        refine x_then ?_
        refine awp_seq ?_
        refine awp_cond rfl (fun hc8 => ?_) (fun hc8 => ?_)
        ·
         have hltk : k < l.length := by have := of_decide_eq_true hc8; omega
         obtain ⟨x, hx⟩ := get_lt hltk
         obtain ⟨hn1, hn12, hd256⟩ := right_bnd (tog_right htog (List.mem_of_getElem? hx))
         have hat := atF_small hok (k := k) (by omega)
         have hml := many_le hd256
         have hdl := dat_len x
         have hft := dat_fits x
         have hgl := gath_len (datF x)
         refine awp_skip ?_
         refine x_then ?_
         refine awp_seq ?_
         refine awp_block ?_
         refine awp_seq ?_
         refine awp_region ?_
         refine r_move rfl rfl ?_
         refine r_indexV rfl rfl TG.sl87 TG.sz3 (by omega) (by omega) rfl ?_
         refine r_load1b 2 rfl rfl (szB_at hx) TG.agg3 rfl ?_
         refine r_assign rfl rfl ?_
         refine r_assign rfl rfl ?_
         refine awl_nil ?_
         refine x_then ?_
         refine awp_seq ?_
         refine awp_region ?_
         refine r_assign rfl rfl ?_
         refine awl_nil ?_
         refine x_then ?_
         refine awp_seq ?_
         refine awp_seq ?_
         refine awp_region ?_
         refine r_move rfl rfl ?_
         refine r_call0 hq rfl rfl (.cons (.ev rfl rfl) .nil) (many_ok x.data.length (by omega)) rfl TG.en40 rfl (fun r hr => ?_)
         obtain rfl := hr
         refine r_move rfl rfl ?_
         refine awl_nil ?_
         refine x_then ?_
         refine awp_block ?_
         refine awp_loop (fun nn0 S => ∃ j : Nat, S = ⟨143, [(1, .a (.cp [.fn f caps])), (4, .a (.v (.pointer (some ⟨b4, 0, none⟩)))), (5, .a (.fn 34 [.cp [.fn f caps], .v (.pointer (some ⟨b4, 0, none⟩))])), (10, .a (.v (.slice (some ⟨g, 0, none⟩) l.length cap))), (111, .a (.v (.slice (some ⟨b65, 0, none⟩) l.length l.length))), (112, .a (.v (.int .i64 ((l.length : Int))))), (113, .a (.v (.int .i64 ((k : Int))))), (20, .a (.v (.int .i64 ((k : Int))))), (21, .a (.v (.int .i64 ((x.data.length : Int))))), (22, .own 22 1 (u8s (gath ((datF x).take j)))), (119, .a (.v (.int .i64 (((manyF x.data.length : Nat) : Int))))), (120, .a (.v (.int .i64 ((j : Int)))))], ⟨b4, true, .box [.v (.int .i64 (((atF l k + j) : Nat) : Int))]⟩ :: ⟨g, true, .box (fillF l k ext)⟩ :: ⟨b65, true, .box (szB l l.length)⟩ :: ro os⟩ ∧ nn0 = manyF x.data.length - j ∧ (j ≤ manyF x.data.length)) (manyF x.data.length - (0)) ⟨143, [(1, .a (.cp [.fn f caps])), (4, .a (.v (.pointer (some ⟨b4, 0, none⟩)))), (5, .a (.fn 34 [.cp [.fn f caps], .v (.pointer (some ⟨b4, 0, none⟩))])), (10, .a (.v (.slice (some ⟨g, 0, none⟩) l.length cap))), (111, .a (.v (.slice (some ⟨b65, 0, none⟩) l.length l.length))), (112, .a (.v (.int .i64 ((l.length : Int))))), (113, .a (.v (.int .i64 ((k : Int))))), (20, .a (.v (.int .i64 ((k : Int))))), (21, .a (.v (.int .i64 ((x.data.length : Int))))), (22, .own 22 1 (u8s (gath ((datF x).take (0))))), (119, .a (.v (.int .i64 (((manyF x.data.length : Nat) : Int))))), (120, .a (.v (.int .i64 (((0) : Int)))))], ⟨b4, true, .box [.v (.int .i64 (((atF l k + (0)) : Nat) : Int))]⟩ :: ⟨g, true, .box (fillF l k ext)⟩ :: ⟨b65, true, .box (szB l l.length)⟩ :: ro os⟩ ⟨rfl, (Slots.cons rfl (by first | exact .refl _ | exact .nilOwn _ _ | exact .nilSl _ | exact .ownSl _ _ _  | exact SV.le.of_eq (by simp)) (Slots.cons rfl (by first | exact .refl _ | exact .nilOwn _ _ | exact .nilSl _ | exact .ownSl _ _ _  | exact SV.le.of_eq (by simp)) (Slots.cons rfl (by first | exact .refl _ | exact .nilOwn _ _ | exact .nilSl _ | exact .ownSl _ _ _  | exact SV.le.of_eq (by simp)) (Slots.cons rfl (by first | exact .refl _ | exact .nilOwn _ _ | exact .nilSl _ | exact .ownSl _ _ _  | exact SV.le.of_eq (by simp)) (Slots.cons rfl (by first | exact .refl _ | exact .nilOwn _ _ | exact .nilSl _ | exact .ownSl _ _ _  | exact SV.le.of_eq (by simp)) (Slots.cons rfl (by first | exact .refl _ | exact .nilOwn _ _ | exact .nilSl _ | exact .ownSl _ _ _  | exact SV.le.of_eq (by simp)) (Slots.cons rfl (by first | exact .refl _ | exact .nilOwn _ _ | exact .nilSl _ | exact .ownSl _ _ _  | exact SV.le.of_eq (by simp)) (Slots.cons rfl (by first | exact .refl _ | exact .nilOwn _ _ | exact .nilSl _ | exact .ownSl _ _ _  | exact SV.le.of_eq (by simp)) (Slots.cons rfl (by first | exact .refl _ | exact .nilOwn _ _ | exact .nilSl _ | exact .ownSl _ _ _  | exact SV.le.of_eq (by simp)) (Slots.cons rfl (by first | exact .refl _ | exact .nilOwn _ _ | exact .nilSl _ | exact .ownSl _ _ _  | exact SV.le.of_eq (by simp)) (Slots.cons rfl (by first | exact .refl _ | exact .nilOwn _ _ | exact .nilSl _ | exact .ownSl _ _ _  | exact SV.le.of_eq (by simp)) (Slots.cons rfl (by first | exact .refl _ | exact .nilOwn _ _ | exact .nilSl _ | exact .ownSl _ _ _  | exact SV.le.of_eq (by simp)) Slots.nil)))))))))))), (List.Sublist.refl _)⟩ ⟨0, rfl, rfl, Nat.zero_le _⟩ ?_
         rintro nn0 _ ⟨j, rfl, rfl, hj⟩
         refine awp_seq ?_
         refine awp_region ?_
         refine r_cmp rfl rfl rfl rfl ?_
         refine awl_nil ?_
         refine x_then ?_
         refine awp_seq ?_
         refine awp_cond rfl (fun hc9 => ?_) (fun hc9 => ?_)
         ·
          have hltj : j < (datF x).length := by rw [dat_len]; have := of_decide_eq_true hc9; omega
          obtain ⟨p, hp⟩ := get_lt hltj
          have hgj : (gath ((datF x).take j)).length ≤ 256 := by rw [gath_len, List.length_take]; omega
          refine awp_skip ?_
          refine x_then ?_
          refine awp_seq ?_
          refine awp_block ?_
          refine awp_seq ?_
          refine awp_region ?_
          refine r_move rfl rfl ?_
          refine r_callW hq [true] rfl rfl .nil (take_ok (os := ro os) hen (fun k b h => by rw [ro_roF]; exact hf k b h) (atF l k + j) p (disk_dat hx hp) (by omega)) rfl TG.en34 rfl rfl (.cons _ (.cons _ (.refl _))) rfl (fun r nobjs hr => ?_)
          obtain ⟨rfl, rfl⟩ := hr
          refine r_alloc TG.zero33 rfl (fun b23 => ?_)
          refine r_store 0 rfl rfl rfl TG.sz33 rfl rfl rfl ?_
          refine awl_nil ?_
          refine x_then ?_
          refine awp_region ?_
          refine r_move rfl rfl ?_
          refine awl_imp (imp_commit 0 23 rfl rfl rfl rfl) ?_
          refine r_arrC (u8s (bpart p 0 32)) (arr_part p 0 32) rfl TG.un33 TG.sz5 rfl .none .none (by omega) (by omega) rfl ?_
          refine r_append 22 rfl (by first | exact .own _ | exact .nil) rfl (by first | exact .sl _ | exact .own _ _ | exact .nil) TG.sl22 TG.sz5 (by decide) TG.by5 TG.zlen5 (by simp [u8s, bpart_len] <;> omega) (by simp [u8s, bpart_len] <;> omega) rfl ?_
          refine r_assign rfl rfl ?_
          refine awl_nil ?_
          refine x_block ?_
          refine x_then ?_
          refine awp_region ?_
          refine r_ari _ rfl rfl rfl (wrap_id (by first | omega | (simp; omega))) rfl ?_
          refine r_move rfl rfl ?_
          refine awl_nil ?_
          refine x_then ?_
          refine ⟨manyF x.data.length - (j + 1), ⟨143, [(1, .a (.cp [.fn f caps])), (4, .a (.v (.pointer (some ⟨b4, 0, none⟩)))), (5, .a (.fn 34 [.cp [.fn f caps], .v (.pointer (some ⟨b4, 0, none⟩))])), (10, .a (.v (.slice (some ⟨g, 0, none⟩) l.length cap))), (111, .a (.v (.slice (some ⟨b65, 0, none⟩) l.length l.length))), (112, .a (.v (.int .i64 ((l.length : Int))))), (113, .a (.v (.int .i64 ((k : Int))))), (20, .a (.v (.int .i64 ((k : Int))))), (21, .a (.v (.int .i64 ((x.data.length : Int))))), (22, .own 22 1 (u8s (gath ((datF x).take (j + 1))))), (119, .a (.v (.int .i64 (((manyF x.data.length : Nat) : Int))))), (120, .a (.v (.int .i64 (((j + 1) : Int)))))], ⟨b4, true, .box [.v (.int .i64 (((atF l k + (j + 1)) : Nat) : Int))]⟩ :: ⟨g, true, .box (fillF l k ext)⟩ :: ⟨b65, true, .box (szB l l.length)⟩ :: ro os⟩, ⟨rfl, (Slots.cons rfl (by first | exact .refl _ | exact .nilOwn _ _ | exact .nilSl _ | exact .ownSl _ _ _  | exact SV.le.ownEq (by first | rfl | (rw [takeS hp, gath_snoc, u8s_app]; done) | (rw [takeS hp, gath_snoc, u8s_app]; rfl)) | exact SV.le.of_eq (by first | rfl | (rw [takeS hp, gath_snoc, u8s_app]; done) | (rw [takeS hp, gath_snoc, u8s_app]; rfl))) (Slots.cons rfl (by first | exact .refl _ | exact .nilOwn _ _ | exact .nilSl _ | exact .ownSl _ _ _  | exact SV.le.ownEq (by first | rfl | (rw [takeS hp, gath_snoc, u8s_app]; done) | (rw [takeS hp, gath_snoc, u8s_app]; rfl)) | exact SV.le.of_eq (by first | rfl | (rw [takeS hp, gath_snoc, u8s_app]; done) | (rw [takeS hp, gath_snoc, u8s_app]; rfl))) (Slots.cons rfl (by first | exact .refl _ | exact .nilOwn _ _ | exact .nilSl _ | exact .ownSl _ _ _  | exact SV.le.ownEq (by first | rfl | (rw [takeS hp, gath_snoc, u8s_app]; done) | (rw [takeS hp, gath_snoc, u8s_app]; rfl)) | exact SV.le.of_eq (by first | rfl | (rw [takeS hp, gath_snoc, u8s_app]; done) | (rw [takeS hp, gath_snoc, u8s_app]; rfl))) (Slots.cons rfl (by first | exact .refl _ | exact .nilOwn _ _ | exact .nilSl _ | exact .ownSl _ _ _  | exact SV.le.ownEq (by first | rfl | (rw [takeS hp, gath_snoc, u8s_app]; done) | (rw [takeS hp, gath_snoc, u8s_app]; rfl)) | exact SV.le.of_eq (by first | rfl | (rw [takeS hp, gath_snoc, u8s_app]; done) | (rw [takeS hp, gath_snoc, u8s_app]; rfl))) (Slots.cons rfl (by first | exact .refl _ | exact .nilOwn _ _ | exact .nilSl _ | exact .ownSl _ _ _  | exact SV.le.ownEq (by first | rfl | (rw [takeS hp, gath_snoc, u8s_app]; done) | (rw [takeS hp, gath_snoc, u8s_app]; rfl)) | exact SV.le.of_eq (by first | rfl | (rw [takeS hp, gath_snoc, u8s_app]; done) | (rw [takeS hp, gath_snoc, u8s_app]; rfl))) (Slots.cons rfl (by first | exact .refl _ | exact .nilOwn _ _ | exact .nilSl _ | exact .ownSl _ _ _  | exact SV.le.ownEq (by first | rfl | (rw [takeS hp, gath_snoc, u8s_app]; done) | (rw [takeS hp, gath_snoc, u8s_app]; rfl)) | exact SV.le.of_eq (by first | rfl | (rw [takeS hp, gath_snoc, u8s_app]; done) | (rw [takeS hp, gath_snoc, u8s_app]; rfl))) (Slots.cons rfl (by first | exact .refl _ | exact .nilOwn _ _ | exact .nilSl _ | exact .ownSl _ _ _  | exact SV.le.ownEq (by first | rfl | (rw [takeS hp, gath_snoc, u8s_app]; done) | (rw [takeS hp, gath_snoc, u8s_app]; rfl)) | exact SV.le.of_eq (by first | rfl | (rw [takeS hp, gath_snoc, u8s_app]; done) | (rw [takeS hp, gath_snoc, u8s_app]; rfl))) (Slots.cons rfl (by first | exact .refl _ | exact .nilOwn _ _ | exact .nilSl _ | exact .ownSl _ _ _  | exact SV.le.ownEq (by first | rfl | (rw [takeS hp, gath_snoc, u8s_app]; done) | (rw [takeS hp, gath_snoc, u8s_app]; rfl)) | exact SV.le.of_eq (by first | rfl | (rw [takeS hp, gath_snoc, u8s_app]; done) | (rw [takeS hp, gath_snoc, u8s_app]; rfl))) (Slots.cons rfl (by first | exact .refl _ | exact .nilOwn _ _ | exact .nilSl _ | exact .ownSl _ _ _  | exact SV.le.ownEq (by first | rfl | (rw [takeS hp, gath_snoc, u8s_app]; done) | (rw [takeS hp, gath_snoc, u8s_app]; rfl)) | exact SV.le.of_eq (by first | rfl | (rw [takeS hp, gath_snoc, u8s_app]; done) | (rw [takeS hp, gath_snoc, u8s_app]; rfl))) (Slots.cons rfl (by first | exact .refl _ | exact .nilOwn _ _ | exact .nilSl _ | exact .ownSl _ _ _  | exact SV.le.ownEq (by first | rfl | (rw [takeS hp, gath_snoc, u8s_app]; done) | (rw [takeS hp, gath_snoc, u8s_app]; rfl)) | exact SV.le.of_eq (by first | rfl | (rw [takeS hp, gath_snoc, u8s_app]; done) | (rw [takeS hp, gath_snoc, u8s_app]; rfl))) (Slots.cons rfl (by first | exact .refl _ | exact .nilOwn _ _ | exact .nilSl _ | exact .ownSl _ _ _  | exact SV.le.ownEq (by first | rfl | (rw [takeS hp, gath_snoc, u8s_app]; done) | (rw [takeS hp, gath_snoc, u8s_app]; rfl)) | exact SV.le.of_eq (by first | rfl | (rw [takeS hp, gath_snoc, u8s_app]; done) | (rw [takeS hp, gath_snoc, u8s_app]; rfl))) (Slots.cons rfl (by first | exact .refl _ | exact .nilOwn _ _ | exact .nilSl _ | exact .ownSl _ _ _  | exact SV.le.ownEq (by first | rfl | (rw [takeS hp, gath_snoc, u8s_app]; done) | (rw [takeS hp, gath_snoc, u8s_app]; rfl)) | exact SV.le.of_eq (by first | rfl | (rw [takeS hp, gath_snoc, u8s_app]; done) | (rw [takeS hp, gath_snoc, u8s_app]; rfl))) Slots.nil)))))))))))), (List.Sublist.refl _)⟩, (by omega), ⟨j + 1, rfl, rfl, (by omega)⟩⟩
         ·
          obtain rfl : j = manyF x.data.length := by have := of_decide_eq_false hc9; omega
          rw [← hdl, List.take_of_length_le (Nat.le_refl _)]
          refine awp_exit ?_
          refine x_thenE ?_
          refine x_thenE ?_
          refine x_blockE ?_
          refine x_then ?_
          refine awp_seq ?_
          refine awp_seq ?_
          refine awp_region ?_
          refine r_move rfl rfl ?_
          refine r_move rfl rfl ?_
          refine r_sliceL rfl rfl rfl TG.sl22 TG.sz5 (by omega) (by rw [u8sL]; omega) rfl ?_
          rw [Int.toNat_natCast, drop_u8s]
          refine r_call0 hq rfl rfl (.cons (.ev rfl rfl) .nil) (nought_ok ((gath (datF x)).drop x.data.length)) rfl TG.en36 rfl (fun r hr => ?_)
          rw [dat_nought] at hr
          obtain rfl := hr
          refine r_not rfl rfl ?_
          refine awl_nil ?_
          refine x_then ?_
          refine awp_cond rfl (fun hc10 => ?_) (fun hc10 => ?_)
          ·
           exfalso; first | cases hc10 | simp at hc10
          ·
           refine awp_skip ?_
           refine x_then ?_
           refine awp_region ?_
           refine r_move rfl rfl ?_
           refine r_move rfl rfl ?_
           refine r_move rfl rfl ?_
           refine r_move rfl rfl ?_
           refine r_move rfl rfl ?_
           refine r_slice3 rfl rfl rfl rfl TG.sl22 TG.sz5 (by omega) (by omega) (by rw [u8sL]; omega) rfl ?_
           rw [Int.toNat_natCast, take_u8s, dat_take]
           refine r_indexV rfl rfl TG.sl24 TG.sz26 (by omega) (by omega) rfl ?_
           refine r_fieldb rfl TG.f26_1 TG.sz22 rfl ?_
           refine r_store 1 rfl rfl rfl TG.sz22 rfl (Nat.ble_eq_true_of_le (by rw [fill_len (by omega)]; omega)) rfl ?_
           refine awl_nil ?_
           refine x_block ?_
           refine x_then ?_
           refine awp_region ?_
           refine r_ari _ rfl rfl rfl (wrap_id (by first | omega | (simp; omega))) rfl ?_
           refine r_move rfl rfl ?_
           refine awl_nil ?_
           refine x_then ?_
           refine ⟨l.length - (k + 1), ⟨143, [(1, .a (.cp [.fn f caps])), (4, .a (.v (.pointer (some ⟨b4, 0, none⟩)))), (5, .a (.fn 34 [.cp [.fn f caps], .v (.pointer (some ⟨b4, 0, none⟩))])), (10, .a (.v (.slice (some ⟨g, 0, none⟩) l.length cap))), (111, .a (.v (.slice (some ⟨b65, 0, none⟩) l.length l.length))), (112, .a (.v (.int .i64 ((l.length : Int))))), (113, .a (.v (.int .i64 (((k + 1) : Int)))))], ⟨b4, true, .box [.v (.int .i64 (((atF l (k + 1)) : Nat) : Int))]⟩ :: ⟨g, true, .box (fillF l (k + 1) ext)⟩ :: ⟨b65, true, .box (szB l l.length)⟩ :: ro os⟩, ⟨rfl, (Slots.cons rfl (by first | exact .refl _ | exact .nilOwn _ _ | exact .nilSl _ | exact .ownSl _ _ _  | exact SV.le.of_eq (by simp)) (Slots.cons rfl (by first | exact .refl _ | exact .nilOwn _ _ | exact .nilSl _ | exact .ownSl _ _ _  | exact SV.le.of_eq (by simp)) (Slots.cons rfl (by first | exact .refl _ | exact .nilOwn _ _ | exact .nilSl _ | exact .ownSl _ _ _  | exact SV.le.of_eq (by simp)) (Slots.cons rfl (by first | exact .refl _ | exact .nilOwn _ _ | exact .nilSl _ | exact .ownSl _ _ _  | exact SV.le.of_eq (by simp)) (Slots.cons rfl (by first | exact .refl _ | exact .nilOwn _ _ | exact .nilSl _ | exact .ownSl _ _ _  | exact SV.le.of_eq (by simp)) (Slots.cons rfl (by first | exact .refl _ | exact .nilOwn _ _ | exact .nilSl _ | exact .ownSl _ _ _  | exact SV.le.of_eq (by simp)) (Slots.cons rfl (by first | exact .refl _ | exact .nilOwn _ _ | exact .nilSl _ | exact .ownSl _ _ _  | exact SV.le.of_eq (by simp)) Slots.nil))))))), (by rw [atF_step hx, ← hdl, ← fill_step hx]; exact List.Sublist.refl _)⟩, (by omega), ⟨k + 1, rfl, rfl, (by omega)⟩⟩
        ·
         obtain rfl : k = l.length := by have := of_decide_eq_false hc8; omega
         rw [fill_end]
         refine awp_exit ?_
         refine x_thenE ?_
         refine x_thenE ?_
         refine x_blockE ?_
         refine x_then ?_
         refine awp_seq ?_
         refine awp_region ?_
         refine awl_imp (imp_commitS 1 10 (sz := 2) (l := l.map File.cs) (ext := ext) rfl rfl rfl (by rw [List.length_map]) hcap (fun c hc => by obtain ⟨f, _, rfl⟩ := List.mem_map.1 hc; rfl) (by rw [List.length_append, flat_len (sz := 2) (fun c hc => by obtain ⟨f, _, rfl⟩ := List.mem_map.1 hc; rfl), List.length_map]; exact hext2) files_one) ?_
         refine r_move rfl rfl ?_
         refine r_assign rfl rfl ?_
         refine r_assign rfl rfl ?_
         refine awl_nil ?_
         refine x_then ?_
         refine awp_ret ?_
         exact ⟨(.inl rfl), _, [], (.two (by first | exact .mk rfl rfl | exact .nil rfl) (by first | exact .mk rfl rfl | exact .nil rfl)), ⟨rfl, rfl⟩, (List.nil_sublist _), (by simp)⟩
end Go.Proofs.YtcbhhjahjnlfhaaDoor.A
namespace Go.Proofs.YtcbhhjahjnlfhaaDoor.A
open Go Go.RowKit Go.Maps Go.Sort
set_option linter.unusedVariables false
set_option linter.unusedSimpArgs false
abbrev SM := List (ByteArray × List UInt8)
structure OkM (m : SM) (n : Nat) : Prop where
  nd : (m.map (·.1)).Nodup
  sz : ∀ s ∈ m.map (·.1), s.size ≤ maxLen
  len : m.length ≤ n
end Go.Proofs.YtcbhhjahjnlfhaaDoor.A
namespace Go.Proofs.YtcbhhjahjnlfhaaDoor.A
open Go Go.RowKit Go.Maps Go.Sort
set_option linter.unusedVariables false
set_option linter.unusedSimpArgs false
open Classical in
structure StM (a b : List File) (F T : List ByteArray) (m : SM) : Prop where
  nd : (m.map (·.1)).Nodup
  get : ∀ x, mget m x = if x ∈ F then none else if x ∈ T then lookF b x else lookF a x
variable {a b : List File} {F T : List ByteArray} {m : SM}
theorem went_in {a b : List File} {s : ByteArray} : s ∈ wentF a b ↔ (lookF a s).isSome = true ∧ lookF b s = none := by
  unfold wentF
  rw [List.mem_filter, names_in]
  simp
theorem sorted_nd {l : List ByteArray} (h : SortedS l) : l.Nodup := h.imp (fun {x y} hxy e => by rw [e, ltS_irrefl] at hxy; cases hxy)
structure Rounds (a b : List File) (k : Nat) (R : List (ByteArray × ByteArray)) (G came : List ByteArray) : Prop where
  fst : (R.map (·.1) ++ G).Perm ((wentF a b).take k)
  snd : (R.map (·.2) ++ came).Perm (wentF b a)
  eq : ∀ p ∈ R, lookF a p.1 = lookF b p.2
end Go.Proofs.YtcbhhjahjnlfhaaDoor.A
namespace Go.Proofs.YtcbhhjahjnlfhaaDoor.A
open Go Go.RowKit Go.Maps Go.Sort
set_option linter.unusedVariables false
set_option linter.unusedSimpArgs false
theorem of_nil {a b : List File} (h : ∀ s, lookF a s = lookF b s) : OfF a b = [] := by
  have w1 : wentF a b = [] := by
    rw [List.eq_nil_iff_forall_not_mem]
    intro s hs
    obtain ⟨k1, k2⟩ := went_in.1 hs
    rw [h, k2] at k1; cases k1
  have w2 : wentF b a = [] := by
    rw [List.eq_nil_iff_forall_not_mem]
    intro s hs
    obtain ⟨k1, k2⟩ := went_in.1 hs
    rw [← h, k2] at k1; cases k1
  have hs : splitE a b = ([], [], []) := by unfold splitE splitF; rw [w1, w2]; rfl
  have hc : (namesF a).filterMap (chgF a b) = [] := by
    rw [List.filterMap_eq_nil_iff]
    intro s _
    unfold chgF
    rw [← h]
    cases lookF a s with
    | none => rfl
    | some d => simp
  rw [OfF, hs, hc]; rfl
end Go.Proofs.YtcbhhjahjnlfhaaDoor.A
namespace Go.Proofs.YtcbhhjahjnlfhaaDoor.A
open Go Go.RowKit
set_option linter.unusedVariables false
set_option linter.unusedSimpArgs false
set_option maxRecDepth 100000
theorem TF.en57 : entersT Tryd.prog 57 := enters_of Tryd.func57 (by kernel_rfl) (by kernel_rfl)
theorem TF.en54 : entersT Tryd.prog 54 := enters_of Tryd.func54 (by kernel_rfl) (by kernel_rfl)
theorem TF.zero109 : ZeroT Tryd.prog 109 [.v (.map none)] := ⟨[(.map none)], by kernel_rfl, (LeCells.refl _)⟩
theorem TF.sz109 : szT Tryd.prog 109 = some 1 := by kernel_rfl
theorem TF.en55 : entersT Tryd.prog 55 := enters_of Tryd.func55 (by kernel_rfl) (by kernel_rfl)
theorem TF.zero9 : ZeroT Tryd.prog 9 [.v (.string ⟨#[]⟩)] := ⟨[(.string ⟨#[]⟩)], by kernel_rfl, (LeCells.refl _)⟩
theorem TF.pl70 : placesT Tryd.prog 70 = some [(0, 1), (1, 1), (2, 1), (3, 1)] := by kernel_rfl
theorem TF.zero70 : ZeroT Tryd.prog 70 [.v (.int .i64 0), .v (.string ⟨#[]⟩), .v (.string ⟨#[]⟩), .sl 1 []] := ⟨[(.int .i64 0), (.string ⟨#[]⟩), (.string ⟨#[]⟩), (.slice none 0 0)], by kernel_rfl, (.cons (.refl _) (.cons (.refl _) (.cons (.refl _) (.cons (.nil 1) .nil))))⟩
theorem TF.sl57 : sliceT Tryd.prog 57 = some 70 := by kernel_rfl
theorem TF.sz70 : szT Tryd.prog 70 = some 4 := by kernel_rfl
theorem TF.zraw70 : zeroT Tryd.prog 70 = some [(.int .i64 0), (.string ⟨#[]⟩), (.string ⟨#[]⟩), (.slice none 0 0)] := by kernel_rfl
theorem TF.by70 : bytesT Tryd.prog 70 = some 64 := by kernel_rfl
theorem TF.zlen70 : (zeroT Tryd.prog 70).map (·.length) = some 4 := by kernel_rfl
theorem TF.en58 : entersT Tryd.prog 58 := enters_of Tryd.func58 (by kernel_rfl) (by kernel_rfl)
theorem withoutW_ok {a b : List File} {ma mb : List (ByteArray × List UInt8)} (ha : TellsS ma a) (hb : TellsS mb b) (hsz : ∀ f ∈ a, f.name.size ≤ 1000000) (hlen : a.length ≤ 1000000) {ba bb : Nat} {f1 f2 : Bool} : AC Tryd.prog 55 [.v (.map (some ba)), .v (.map (some bb))] [⟨ba, f1, .map (encM Value.string bts ma)⟩, ⟨bb, f2, .map (encM Value.string bts mb)⟩] (fun r n => n = [] ∧ r = strsA (wentF a b)) := by
  rw [← went_eq ha hb]; exact without_ok ma mb ha.nd (keys_size ha hsz) (by have := ha.len; omega)
theorem withoutX_ok {a b : List File} {ma mb : List (ByteArray × List UInt8)} (ha : TellsS ma a) (hb : TellsS mb b) (hsz : ∀ f ∈ a, f.name.size ≤ 1000000) (hlen : a.length ≤ 1000000) {ba bb : Nat} {f1 f2 : Bool} : AC Tryd.prog 55 [.v (.map (some ba)), .v (.map (some bb))] [⟨ba, f1, .map (encM Value.string bts ma)⟩, ⟨bb, f2, .map (encM Value.string bts mb)⟩] (GrowS (wentF a b)) := by
  rw [← went_eq ha hb]; exact withoutG_ok ma mb ha.nd (keys_size ha hsz) (by have := ha.len; omega)
theorem orderN_ok {a : List File} {m : List (ByteArray × List UInt8)} (ha : TellsS m a) (hsz : ∀ f ∈ a, f.name.size ≤ 1000000) (hlen : a.length ≤ 1000000) {b : Nat} {fl : Bool} : AC Tryd.prog 59 [.v (.map (some b))] [⟨b, fl, .map (encM Value.string bts m)⟩] (fun r n => n = [] ∧ r = strsA (namesF a)) := by
  rw [← keys_names ha]; exact order_ok m ha.nd (keys_size ha hsz) (by have := ha.len; omega)
set_option maxHeartbeats 2000000 in
theorem of_ok (a b : List File) (hla : a.length ≤ 1000) (hlb : b.length ≤ 1000) (hnsa : ∀ f ∈ a, f.name.size ≤ 1000000) (hnsb : ∀ f ∈ b, f.name.size ≤ 1000000) (hdA : ∀ f ∈ a, f.data.length ≤ 1000000) (hdb : ∀ f ∈ b, f.data.length ≤ 1000000) : AC Tryd.prog 18 [files a, files b] [] (fun r n => n = [] ∧ r = fcsA (OfF a b)) := by
 refine ac_of_awp (rs := [4]) (nt := 111) Tryd.func18 rfl rfl rfl rfl (fun w0 C0 hq => ?_)
 refine awp_seq ?_
 refine awp_region ?_
 refine r_assign rfl rfl ?_
 refine awl_nil ?_
 refine x_then ?_
 refine awp_seq ?_
 refine awp_region ?_
 refine r_move rfl rfl ?_
 refine r_callO hq rfl rfl (.cons (.ev rfl rfl) .nil) (named_ok a (by omega) hdA) rfl TF.en54 (List.nil_sublist _) rfl (fun r nobjs hr => ?_)
 obtain ⟨bx, mx, rfl, rfl, htx⟩ := hr
 refine r_move rfl rfl ?_
 refine r_callO hq rfl rfl (.cons (.ev rfl rfl) .nil) (named_ok b (by omega) hdb) rfl TF.en54 (List.nil_sublist _) rfl (fun r nobjs hr => ?_)
 obtain ⟨by_, my, rfl, rfl, hty⟩ := hr
 refine r_alloc TF.zero109 rfl (fun b5 => ?_)
 refine r_alloc TF.zero109 rfl (fun b6 => ?_)
 refine r_store 1 rfl rfl rfl TF.sz109 rfl rfl rfl ?_
 refine r_store 0 rfl rfl rfl TF.sz109 rfl rfl rfl ?_
 refine awl_nil ?_
 refine x_then ?_
 refine awp_seq ?_
 refine awp_imp (imp_commit 0 6 rfl rfl rfl rfl) ?_
 refine awp_imp (imp_commit 0 5 rfl rfl rfl rfl) ?_
 refine awp_imp (imp_perm (List.Perm.swap _ _ _)) ?_
 have hwl := went_len a b
 have hnl := names_len a
 refine awp_drawS [24, 25, 26, 27, 28] [_, _, _, _, _] [] [] TF.mixed rfl rfl rfl ⟨⟨⟨⟨⟨trivial
  , ⟨_, rfl, fun sl hd hr ho => by
    refine r_load1 (hr 5 _ rfl rfl rfl) TF.agg109 rfl ?_
    exact awl_nil ⟨rfl, post_put⟩⟩⟩
  , ⟨_, rfl, fun sl hd hr ho => by
    refine r_load1 (hr 6 _ rfl rfl rfl) TF.agg109 rfl ?_
    exact awl_nil ⟨rfl, post_put⟩⟩⟩
  , ⟨_, rfl, fun sl hd hr ho => by
    refine r_callO hq rfl rfl (.cons (.ev (hd 0 _ rfl rfl rfl) rfl) (.cons (.ev (hd 1 _ rfl rfl rfl) rfl) .nil)) (withoutW_ok htx hty hnsa (by omega)) rfl TF.en55 (List.Sublist.refl _) rfl (fun r nobjs hr => ?_)
    obtain ⟨rfl, rfl⟩ := hr
    exact awl_nil ⟨rfl, post_put⟩⟩⟩
  , ⟨_, rfl, fun sl hd hr ho => by
    refine r_load1 (hr 6 _ rfl rfl rfl) TF.agg109 rfl ?_
    exact awl_nil ⟨rfl, post_put⟩⟩⟩
  , ⟨_, rfl, fun sl hd hr ho => by
    refine r_load1 (hr 5 _ rfl rfl rfl) TF.agg109 rfl ?_
    exact awl_nil ⟨rfl, post_put⟩⟩⟩
  (by rfl) ?_
 refine r_callO hq rfl rfl (.cons (.ev rfl rfl) (.cons (.ev rfl rfl) .nil)) ((withoutX_ok hty htx hnsb (by omega)).swap) rfl TF.en55 (List.Sublist.refl _) rfl (fun r nobjs hr => ?_)
 rcases hr with ⟨h0, rfl, rfl⟩ | ⟨g2, cap, ext, hcap, rfl, rfl⟩
 ·
  refine r_assign rfl rfl ?_
  refine r_assign rfl rfl ?_
  refine awl_nil ?_
  refine x_then ?_
  refine awp_seq ?_
  refine awp_region ?_
  refine r_assign rfl rfl ?_
  refine r_assign rfl rfl ?_
  refine awl_nil ?_
  refine x_then ?_
  refine awp_seq ?_
  refine awp_seq ?_
  refine awp_region ?_
  refine r_move rfl rfl ?_
  refine r_lenS rfl rfl TF.sl54 rfl ?_
  refine r_move rfl rfl ?_
  refine awl_nil ?_
  refine x_then ?_
  refine awp_block ?_
  refine awp_loop (fun nn0 S => ∃ k : Nat, ∃ gone : List FC, S = ⟨111, [(5, .a (.cp [.v (.map (some bx))])), (6, .a (.cp [.v (.map (some by_))])), (8, .a (.v (.slice none 0 0))), (9, .own 9 4 (([] : List FC).map FC.cs)), (10, .own 10 4 (gone.map FC.cs)), (30, .a (strsA (wentF a b))), (31, .a (.v (.int .i64 (((wentF a b).map (fun s : ByteArray => [AV.v (.string s)])).length)))), (32, .a (.v (.int .i64 ((k : Int)))))], [⟨bx, true, .map (encM Value.string bts mx)⟩, ⟨by_, true, .map (encM Value.string bts my)⟩]⟩ ∧ nn0 = (wentF a b).length - k ∧ (k ≤ (wentF a b).length) ∧ (splitF a b k = (([] : List ByteArray), ([] : List FC), gone)) ∧ (gone.length ≤ k)) ((wentF a b).length - (0)) ⟨111, [(5, .a (.cp [.v (.map (some bx))])), (6, .a (.cp [.v (.map (some by_))])), (8, .a (.v (.slice none 0 0))), (9, .own 9 4 (([] : List FC).map FC.cs)), (10, .own 10 4 (([]).map FC.cs)), (30, .a (strsA (wentF a b))), (31, .a (.v (.int .i64 (((wentF a b).map (fun s : ByteArray => [AV.v (.string s)])).length)))), (32, .a (.v (.int .i64 (((0) : Int)))))], [⟨bx, true, .map (encM Value.string bts mx)⟩, ⟨by_, true, .map (encM Value.string bts my)⟩]⟩ ⟨rfl, (Slots.cons rfl (by first | exact .refl _ | exact .nilOwn _ _ | exact .nilSl _ | exact .ownSl _ _ _  | exact SV.le.of_eq (by simp)) (Slots.cons rfl (by first | exact .refl _ | exact .nilOwn _ _ | exact .nilSl _ | exact .ownSl _ _ _  | exact SV.le.of_eq (by simp)) (Slots.cons rfl (by first | exact .refl _ | exact .nilOwn _ _ | exact .nilSl _ | exact .ownSl _ _ _  | exact SV.le.of_eq (by simp)) (Slots.cons rfl (by first | exact .refl _ | exact .nilOwn _ _ | exact .nilSl _ | exact .ownSl _ _ _  | exact SV.le.of_eq (by simp)) (Slots.cons rfl (by first | exact .refl _ | exact .nilOwn _ _ | exact .nilSl _ | exact .ownSl _ _ _  | exact SV.le.of_eq (by simp)) (Slots.cons rfl (by first | exact .refl _ | exact .nilOwn _ _ | exact .nilSl _ | exact .ownSl _ _ _  | exact SV.le.of_eq (by simp)) (Slots.cons rfl (by first | exact .refl _ | exact .nilOwn _ _ | exact .nilSl _ | exact .ownSl _ _ _  | exact SV.le.of_eq (by simp)) (Slots.cons rfl (by first | exact .refl _ | exact .nilOwn _ _ | exact .nilSl _ | exact .ownSl _ _ _  | exact SV.le.of_eq (by simp)) Slots.nil)))))))), (by first | exact List.Sublist.refl _ | exact .cons_cons _ (.cons _ (.refl _)) | exact List.nil_sublist _ | exact .cons _ (.refl _) | exact .cons _ (.cons _ (.refl _)) | exact .cons _ (.cons _ (.cons _ (.refl _))) | exact .cons _ (.cons _ (.cons _ (.cons _ (.refl _)))) | exact .cons_cons _ (List.nil_sublist _))⟩ ⟨0, [], rfl, rfl, Nat.zero_le _, (by rw [splitF, h0]; rfl), (by simp)⟩ ?_
  rintro nn0 _ ⟨k, gone, rfl, rfl, hk, hst, hgl⟩
  refine awp_seq ?_
  refine awp_region ?_
  refine r_cmp rfl rfl rfl rfl ?_
  refine awl_nil ?_
  refine x_then ?_
  refine awp_seq ?_
  refine awp_cond rfl (fun hc0 => ?_) (fun hc0 => ?_)
  ·
   have hltx : k < (wentF a b).length := by have := of_decide_eq_true hc0; simpa using this
   obtain ⟨x, hx⟩ := get_lt hltx
   refine awp_skip ?_
   refine x_then ?_
   refine awp_seq ?_
   refine awp_block ?_
   refine awp_seq ?_
   refine awp_region ?_
   refine r_index rfl rfl rfl TF.sl54 TF.sz9 (by omega) (get_map hx) rfl ?_
   refine r_load1 rfl TF.agg9 rfl ?_
   refine r_alloc TF.zero9 rfl (fun b12 => ?_)
   refine r_store 0 rfl rfl rfl TF.sz9 rfl rfl rfl ?_
   refine awl_nil ?_
   refine x_then ?_
   refine awp_seq ?_
   refine awp_region ?_
   refine awl_imp (imp_commit 0 12 rfl rfl rfl rfl) ?_
   refine r_move rfl rfl ?_
   refine r_makeFunc rfl (.cons (.ev rfl rfl) (.cons (.ev rfl rfl) (.cons (.ev rfl rfl) .nil))) rfl ?_
   refine r_call0 hq rfl rfl (.cons (.ev rfl rfl) (.cons (.ev rfl rfl) .nil)) (idxN_ok) rfl TF.en56 rfl (fun r hr => ?_)
   obtain rfl := hr
   refine r_assign rfl rfl ?_
   refine awl_nil ?_
   refine x_then ?_
   refine awp_seq ?_
   refine awp_seq ?_
   refine awp_region ?_
   refine r_move rfl rfl ?_
   refine r_cmp rfl rfl rfl rfl ?_
   refine awl_nil ?_
   refine x_then ?_
   refine awp_cond rfl (fun hc1 => ?_) (fun hc1 => ?_)
   ·
    refine awp_seq ?_
    refine awp_region ?_
    refine r_move rfl rfl ?_
    refine r_load1 rfl TF.agg9 rfl ?_
    refine r_build (parts := [(0, .const ((Go.Value.int Go.IntKind.i64 2))), (1, .tmp 42)]) rfl TF.pl70 TF.zero70 rfl rfl rfl ?_
    refine r_lit 44 (parts := [(0, .tmp 43)]) rfl TF.sl57 TF.sz70 TF.zraw70 rfl rfl rfl rfl rfl rfl rfl ?_
    refine r_append 10 rfl (by first | exact .own _ | exact .nil) rfl (by first | exact .sl _ | exact .own _ _ | exact .nil) TF.sl57 TF.sz70 (by decide) TF.by70 TF.zlen70 (by simp [chunks] <;> omega) (by simp [chunks] <;> omega) rfl ?_
    refine r_assign rfl rfl ?_
    refine awl_nil ?_
    refine x_then ?_
    refine awp_exit ?_
    refine x_thenE ?_
    refine x_blockE ?_
    refine x_then ?_
    refine awp_region ?_
    refine r_ari _ rfl rfl rfl (wrap_id (by first | omega | (simp; omega))) rfl ?_
    refine r_move rfl rfl ?_
    refine awl_nil ?_
    refine x_then ?_
    refine ⟨(wentF a b).length - (k + 1), ⟨111, [(5, .a (.cp [.v (.map (some bx))])), (6, .a (.cp [.v (.map (some by_))])), (8, .a (.v (.slice none 0 0))), (9, .own 9 4 (([] : List FC).map FC.cs)), (10, .own 10 4 ((gone ++ [(⟨2, x, E0, []⟩ : FC)]).map FC.cs)), (30, .a (strsA (wentF a b))), (31, .a (.v (.int .i64 (((wentF a b).map (fun s : ByteArray => [AV.v (.string s)])).length)))), (32, .a (.v (.int .i64 (((k + 1) : Int)))))], [⟨bx, true, .map (encM Value.string bts mx)⟩, ⟨by_, true, .map (encM Value.string bts my)⟩]⟩, ⟨rfl, (Slots.cons rfl (by first | exact .refl _ | exact .nilOwn _ _ | exact .nilSl _ | exact .ownSl _ _ _  | exact SV.le.ownEq (by first | rfl | (rw [List.map_append]; rfl) | (simp [List.map_append]; done)) | exact SV.le.of_eq (by first | rfl | (rw [List.map_append]; rfl) | (simp [List.map_append]; done))) (Slots.cons rfl (by first | exact .refl _ | exact .nilOwn _ _ | exact .nilSl _ | exact .ownSl _ _ _  | exact SV.le.ownEq (by first | rfl | (rw [List.map_append]; rfl) | (simp [List.map_append]; done)) | exact SV.le.of_eq (by first | rfl | (rw [List.map_append]; rfl) | (simp [List.map_append]; done))) (Slots.cons rfl (by first | exact .refl _ | exact .nilOwn _ _ | exact .nilSl _ | exact .ownSl _ _ _  | exact SV.le.ownEq (by first | rfl | (rw [List.map_append]; rfl) | (simp [List.map_append]; done)) | exact SV.le.of_eq (by first | rfl | (rw [List.map_append]; rfl) | (simp [List.map_append]; done))) (Slots.cons rfl (by first | exact .refl _ | exact .nilOwn _ _ | exact .nilSl _ | exact .ownSl _ _ _  | exact SV.le.ownEq (by first | rfl | (rw [List.map_append]; rfl) | (simp [List.map_append]; done)) | exact SV.le.of_eq (by first | rfl | (rw [List.map_append]; rfl) | (simp [List.map_append]; done))) (Slots.cons rfl (by first | exact .refl _ | exact .nilOwn _ _ | exact .nilSl _ | exact .ownSl _ _ _  | exact SV.le.ownEq (by first | rfl | (rw [List.map_append]; rfl) | (simp [List.map_append]; done)) | exact SV.le.of_eq (by first | rfl | (rw [List.map_append]; rfl) | (simp [List.map_append]; done))) (Slots.cons rfl (by first | exact .refl _ | exact .nilOwn _ _ | exact .nilSl _ | exact .ownSl _ _ _  | exact SV.le.ownEq (by first | rfl | (rw [List.map_append]; rfl) | (simp [List.map_append]; done)) | exact SV.le.of_eq (by first | rfl | (rw [List.map_append]; rfl) | (simp [List.map_append]; done))) (Slots.cons rfl (by first | exact .refl _ | exact .nilOwn _ _ | exact .nilSl _ | exact .ownSl _ _ _  | exact SV.le.ownEq (by first | rfl | (rw [List.map_append]; rfl) | (simp [List.map_append]; done)) | exact SV.le.of_eq (by first | rfl | (rw [List.map_append]; rfl) | (simp [List.map_append]; done))) (Slots.cons rfl (by first | exact .refl _ | exact .nilOwn _ _ | exact .nilSl _ | exact .ownSl _ _ _  | exact SV.le.ownEq (by first | rfl | (rw [List.map_append]; rfl) | (simp [List.map_append]; done)) | exact SV.le.of_eq (by first | rfl | (rw [List.map_append]; rfl) | (simp [List.map_append]; done))) Slots.nil)))))))), (by first | exact List.Sublist.refl _ | exact .cons_cons _ (.cons _ (.refl _)) | exact List.nil_sublist _ | exact .cons _ (.refl _) | exact .cons _ (.cons _ (.refl _)) | exact .cons _ (.cons _ (.cons _ (.refl _))) | exact .cons _ (.cons _ (.cons _ (.cons _ (.refl _)))) | exact .cons_cons _ (List.nil_sublist _))⟩, (by omega), ⟨k + 1, gone ++ [(⟨2, x, E0, []⟩ : FC)], rfl, rfl, (by omega), (split_none hx hst rfl), (by simp; omega)⟩⟩
   ·
    exfalso; exact absurd hc1 (by decide)
  ·
   have hge : (wentF a b).length ≤ k := by have := of_decide_eq_false hc0; simp at this; omega
   obtain rfl : k = (wentF a b).length := by omega
   refine awp_exit ?_
   refine x_thenE ?_
   refine x_thenE ?_
   refine x_blockE ?_
   refine x_then ?_
   refine awp_seq ?_
   refine awp_region ?_
   refine r_move rfl rfl ?_
   refine r_move rfl rfl ?_
   refine r_append 9 rfl (by first | exact .own _ | exact .nil) rfl (by first | exact .sl _ | exact .own _ _ | exact .nil) TF.sl57 TF.sz70 (by decide) TF.by70 TF.zlen70 (by simp [chunks] <;> omega) (by simp [chunks] <;> omega) rfl ?_
   refine r_assign rfl rfl ?_
   refine awl_nil ?_
   refine x_then ?_
   refine awp_seq ?_
   refine awp_seq ?_
   refine awp_region ?_
   refine r_load1 rfl TF.agg109 rfl ?_
   refine r_callO hq rfl rfl (.cons (.ev rfl rfl) .nil) (orderN_ok htx hnsa (by omega)) rfl TF.en59 (.cons_cons _ (List.nil_sublist _)) rfl (fun r nobjs hr => ?_)
   obtain ⟨rfl, rfl⟩ := hr
   refine r_lenS rfl rfl TF.sl54 rfl ?_
   refine r_move rfl rfl ?_
   refine awl_nil ?_
   refine x_then ?_
   refine awp_block ?_
   refine awp_loop (fun nn0 S => ∃ k : Nat, S = ⟨111, [(5, .a (.cp [.v (.map (some bx))])), (6, .a (.cp [.v (.map (some by_))])), (8, .a (.v (.slice none 0 0))), (9, .own 9 4 ((gone ++ ((namesF a).take k).filterMap (chgF a b)).map FC.cs)), (65, .a (strsA (namesF a))), (66, .a (.v (.int .i64 (((namesF a).map (fun s : ByteArray => [AV.v (.string s)])).length)))), (67, .a (.v (.int .i64 ((k : Int)))))], [⟨bx, true, .map (encM Value.string bts mx)⟩, ⟨by_, true, .map (encM Value.string bts my)⟩]⟩ ∧ nn0 = (namesF a).length - k ∧ (k ≤ (namesF a).length)) ((namesF a).length - (0)) ⟨111, [(5, .a (.cp [.v (.map (some bx))])), (6, .a (.cp [.v (.map (some by_))])), (8, .a (.v (.slice none 0 0))), (9, .own 9 4 ((gone ++ ((namesF a).take (0)).filterMap (chgF a b)).map FC.cs)), (65, .a (strsA (namesF a))), (66, .a (.v (.int .i64 (((namesF a).map (fun s : ByteArray => [AV.v (.string s)])).length)))), (67, .a (.v (.int .i64 (((0) : Int)))))], [⟨bx, true, .map (encM Value.string bts mx)⟩, ⟨by_, true, .map (encM Value.string bts my)⟩]⟩ ⟨rfl, (Slots.cons rfl (by first | exact .refl _ | exact .nilOwn _ _ | exact .nilSl _ | exact .ownSl _ _ _  | exact SV.le.ownEq (by simp [chunks]) | exact SV.le.of_eq (by simp [chunks])) (Slots.cons rfl (by first | exact .refl _ | exact .nilOwn _ _ | exact .nilSl _ | exact .ownSl _ _ _  | exact SV.le.ownEq (by simp [chunks]) | exact SV.le.of_eq (by simp [chunks])) (Slots.cons rfl (by first | exact .refl _ | exact .nilOwn _ _ | exact .nilSl _ | exact .ownSl _ _ _  | exact SV.le.ownEq (by simp [chunks]) | exact SV.le.of_eq (by simp [chunks])) (Slots.cons rfl (by first | exact .refl _ | exact .nilOwn _ _ | exact .nilSl _ | exact .ownSl _ _ _  | exact SV.le.ownEq (by simp [chunks]) | exact SV.le.of_eq (by simp [chunks])) (Slots.cons rfl (by first | exact .refl _ | exact .nilOwn _ _ | exact .nilSl _ | exact .ownSl _ _ _  | exact SV.le.ownEq (by simp [chunks]) | exact SV.le.of_eq (by simp [chunks])) (Slots.cons rfl (by first | exact .refl _ | exact .nilOwn _ _ | exact .nilSl _ | exact .ownSl _ _ _  | exact SV.le.ownEq (by simp [chunks]) | exact SV.le.of_eq (by simp [chunks])) (Slots.cons rfl (by first | exact .refl _ | exact .nilOwn _ _ | exact .nilSl _ | exact .ownSl _ _ _  | exact SV.le.ownEq (by simp [chunks]) | exact SV.le.of_eq (by simp [chunks])) Slots.nil))))))), (by first | exact List.Sublist.refl _ | exact .cons_cons _ (.cons _ (.refl _)) | exact List.nil_sublist _ | exact .cons _ (.refl _) | exact .cons _ (.cons _ (.refl _)) | exact .cons _ (.cons _ (.cons _ (.refl _))) | exact .cons _ (.cons _ (.cons _ (.cons _ (.refl _)))) | exact .cons_cons _ (List.nil_sublist _))⟩ ⟨0, rfl, rfl, Nat.zero_le _⟩ ?_
   rintro nn0 _ ⟨k, rfl, rfl, hk1⟩
   refine awp_seq ?_
   refine awp_region ?_
   refine r_cmp rfl rfl rfl rfl ?_
   refine awl_nil ?_
   refine x_then ?_
   refine awp_seq ?_
   refine awp_cond rfl (fun hc2 => ?_) (fun hc2 => ?_)
   ·
    have hltx : k < (namesF a).length := by have := of_decide_eq_true hc2; simpa using this
    obtain ⟨x, hx⟩ := get_lt hltx
    have hf1 : (((namesF a).take k).filterMap (chgF a b)).length ≤ k := Nat.le_trans (List.length_filterMap_le _ _) (by simp; omega)
    refine awp_skip ?_
    refine x_then ?_
    refine awp_seq ?_
    refine awp_block ?_
    refine awp_seq ?_
    refine awp_region ?_
    refine r_index rfl rfl rfl TF.sl54 TF.sz9 (by omega) (get_map hx) rfl ?_
    refine r_load1 rfl TF.agg9 rfl ?_
    refine r_assign rfl rfl ?_
    refine awl_nil ?_
    refine x_then ?_
    refine awp_seq ?_
    refine awp_region ?_
    refine r_load1 rfl TF.agg109 rfl ?_
    refine r_move rfl rfl ?_
    refine r_lookupOk 1 (keyEnc_string TF.un9) (ev := bts) [] rfl rfl rfl TF.map109 TF.zavS rfl ?_
    refine r_move rfl rfl ?_
    refine r_extract rfl rfl rfl ?_
    refine r_extract rfl rfl rfl ?_
    refine r_assign rfl rfl ?_
    refine r_assign rfl rfl ?_
    refine awl_nil ?_
    refine x_then ?_
    refine awp_seq ?_
    refine awp_region ?_
    refine r_move rfl rfl ?_
    refine r_move rfl rfl ?_
    refine g_cases (t' := 78) rfl (fun hg78 => ?_) (fun hg78 => ?_)
    ·
     obtain ⟨d, hdq⟩ : ∃ d, mget my x = some d := Option.isSome_iff_exists.1 hg78
     have hq2 : lookF b x = some d := by rw [← hty.get, hdq]
     refine g_run rfl rfl hg78 ?_
     refine r_load1 rfl TF.agg109 rfl ?_
     refine g_run rfl rfl hg78 ?_
     refine r_move rfl rfl ?_
     refine g_run rfl rfl hg78 ?_
     refine r_lookup 0 (keyEnc_string TF.un9) (ev := bts) [] rfl rfl rfl TF.map109 TF.zavS rfl ?_
     refine g_run rfl rfl hg78 ?_
     refine r_move rfl rfl ?_
     refine g_run rfl rfl hg78 ?_
     refine r_call0 hq rfl rfl (.cons (.ev rfl rfl) (.cons (.ev rfl rfl) .nil)) (equal_ok _ _) rfl TF.en35 rfl (fun r hr => ?_)
     obtain rfl := hr
     refine g_run rfl rfl hg78 ?_
     refine r_not rfl rfl ?_
     refine r_pickT rfl hg78 rfl rfl ?_
     refine awl_nil ?_
     refine x_then ?_
     refine awp_cond rfl (fun hc3 => ?_) (fun hc3 => ?_)
     ·
      rw [hdq] at hc3 ⊢
      have hne : decide ((lookF a x).getD [] = d) = false := by rw [← htx.get]; simpa using hc3
      have ht : chgF a b x = some ⟨3, x, E0, d⟩ := by rw [chgF, hq2]; simp only [hne, cond_false]
      have hdl : d.length ≤ 1000000 := by have := look_len hdb x; rw [hq2] at this; simpa using this
      refine awp_region ?_
      refine r_move rfl rfl ?_
      refine r_move rfl rfl ?_
      refine r_move rfl rfl ?_
      refine r_call0 hq rfl rfl (.cons (.ev rfl rfl) .nil) (clone_ok d hdl) rfl TF.en47 rfl (fun r hr => ?_)
      obtain rfl := hr
      refine r_build (parts := [(0, .const ((Go.Value.int Go.IntKind.i64 3))), (1, .tmp 87), (3, .tmp 89)]) rfl TF.pl70 TF.zero70 rfl rfl rfl ?_
      refine r_lit 91 (parts := [(0, .tmp 90)]) rfl TF.sl57 TF.sz70 TF.zraw70 rfl rfl rfl rfl rfl rfl rfl ?_
      refine r_append 9 rfl (by first | exact .own _ | exact .nil) rfl (by first | exact .sl _ | exact .own _ _ | exact .nil) TF.sl57 TF.sz70 (by decide) TF.by70 TF.zlen70 (by simp [chunks] <;> omega) (by simp [chunks] <;> omega) rfl ?_
      refine r_assign rfl rfl ?_
      refine awl_nil ?_
      refine x_block ?_
      refine x_then ?_
      refine awp_region ?_
      refine r_ari _ rfl rfl rfl (wrap_id (by first | omega | (simp; omega))) rfl ?_
      refine r_move rfl rfl ?_
      refine awl_nil ?_
      refine x_then ?_
      have et := fmS_step (f := chgF a b) hx
      rw [ht] at et
      simp only [Option.toList_some, Option.toList_none, List.append_nil] at et
      refine ⟨(namesF a).length - (k + 1), ⟨111, [(5, .a (.cp [.v (.map (some bx))])), (6, .a (.cp [.v (.map (some by_))])), (8, .a (.v (.slice none 0 0))), (9, .own 9 4 ((gone ++ ((namesF a).take (k + 1)).filterMap (chgF a b)).map FC.cs)), (65, .a (strsA (namesF a))), (66, .a (.v (.int .i64 (((namesF a).map (fun s : ByteArray => [AV.v (.string s)])).length)))), (67, .a (.v (.int .i64 (((k + 1) : Int)))))], [⟨bx, true, .map (encM Value.string bts mx)⟩, ⟨by_, true, .map (encM Value.string bts my)⟩]⟩, ⟨rfl, (Slots.cons rfl (by first | exact .refl _ | exact .nilOwn _ _ | exact .nilSl _ | exact .ownSl _ _ _  | exact SV.le.ownEq (by first | rfl | (rw [et, ← List.append_assoc gone, List.map_append (l₁ := (gone ++ ((namesF a).take k).filterMap (chgF a b)))]; rfl) | (rw [et]; first | done | rfl)) | exact SV.le.of_eq (by first | rfl | (rw [et, ← List.append_assoc gone, List.map_append (l₁ := (gone ++ ((namesF a).take k).filterMap (chgF a b)))]; rfl) | (rw [et]; first | done | rfl))) (Slots.cons rfl (by first | exact .refl _ | exact .nilOwn _ _ | exact .nilSl _ | exact .ownSl _ _ _  | exact SV.le.ownEq (by first | rfl | (rw [et, ← List.append_assoc gone, List.map_append (l₁ := (gone ++ ((namesF a).take k).filterMap (chgF a b)))]; rfl) | (rw [et]; first | done | rfl)) | exact SV.le.of_eq (by first | rfl | (rw [et, ← List.append_assoc gone, List.map_append (l₁ := (gone ++ ((namesF a).take k).filterMap (chgF a b)))]; rfl) | (rw [et]; first | done | rfl))) (Slots.cons rfl (by first | exact .refl _ | exact .nilOwn _ _ | exact .nilSl _ | exact .ownSl _ _ _  | exact SV.le.ownEq (by first | rfl | (rw [et, ← List.append_assoc gone, List.map_append (l₁ := (gone ++ ((namesF a).take k).filterMap (chgF a b)))]; rfl) | (rw [et]; first | done | rfl)) | exact SV.le.of_eq (by first | rfl | (rw [et, ← List.append_assoc gone, List.map_append (l₁ := (gone ++ ((namesF a).take k).filterMap (chgF a b)))]; rfl) | (rw [et]; first | done | rfl))) (Slots.cons rfl (by first | exact .refl _ | exact .nilOwn _ _ | exact .nilSl _ | exact .ownSl _ _ _  | exact SV.le.ownEq (by first | rfl | (rw [et, ← List.append_assoc gone, List.map_append (l₁ := (gone ++ ((namesF a).take k).filterMap (chgF a b)))]; rfl) | (rw [et]; first | done | rfl)) | exact SV.le.of_eq (by first | rfl | (rw [et, ← List.append_assoc gone, List.map_append (l₁ := (gone ++ ((namesF a).take k).filterMap (chgF a b)))]; rfl) | (rw [et]; first | done | rfl))) (Slots.cons rfl (by first | exact .refl _ | exact .nilOwn _ _ | exact .nilSl _ | exact .ownSl _ _ _  | exact SV.le.ownEq (by first | rfl | (rw [et, ← List.append_assoc gone, List.map_append (l₁ := (gone ++ ((namesF a).take k).filterMap (chgF a b)))]; rfl) | (rw [et]; first | done | rfl)) | exact SV.le.of_eq (by first | rfl | (rw [et, ← List.append_assoc gone, List.map_append (l₁ := (gone ++ ((namesF a).take k).filterMap (chgF a b)))]; rfl) | (rw [et]; first | done | rfl))) (Slots.cons rfl (by first | exact .refl _ | exact .nilOwn _ _ | exact .nilSl _ | exact .ownSl _ _ _  | exact SV.le.ownEq (by first | rfl | (rw [et, ← List.append_assoc gone, List.map_append (l₁ := (gone ++ ((namesF a).take k).filterMap (chgF a b)))]; rfl) | (rw [et]; first | done | rfl)) | exact SV.le.of_eq (by first | rfl | (rw [et, ← List.append_assoc gone, List.map_append (l₁ := (gone ++ ((namesF a).take k).filterMap (chgF a b)))]; rfl) | (rw [et]; first | done | rfl))) (Slots.cons rfl (by first | exact .refl _ | exact .nilOwn _ _ | exact .nilSl _ | exact .ownSl _ _ _  | exact SV.le.ownEq (by first | rfl | (rw [et, ← List.append_assoc gone, List.map_append (l₁ := (gone ++ ((namesF a).take k).filterMap (chgF a b)))]; rfl) | (rw [et]; first | done | rfl)) | exact SV.le.of_eq (by first | rfl | (rw [et, ← List.append_assoc gone, List.map_append (l₁ := (gone ++ ((namesF a).take k).filterMap (chgF a b)))]; rfl) | (rw [et]; first | done | rfl))) Slots.nil))))))), (by first | exact List.Sublist.refl _ | exact .cons_cons _ (.cons _ (.refl _)) | exact List.nil_sublist _ | exact .cons _ (.refl _) | exact .cons _ (.cons _ (.refl _)) | exact .cons _ (.cons _ (.cons _ (.refl _))) | exact .cons _ (.cons _ (.cons _ (.cons _ (.refl _)))) | exact .cons_cons _ (List.nil_sublist _))⟩, (by omega), ⟨k + 1, rfl, rfl, (by omega)⟩⟩
     ·
      rw [hdq] at hc3
      have hne : decide ((lookF a x).getD [] = d) = true := by rw [← htx.get]; simpa using hc3
      have ht : chgF a b x = none := by rw [chgF, hq2]; simp only [hne, cond_true]
      refine awp_skip ?_
      refine x_block ?_
      refine x_then ?_
      refine awp_region ?_
      refine r_ari _ rfl rfl rfl (wrap_id (by first | omega | (simp; omega))) rfl ?_
      refine r_move rfl rfl ?_
      refine awl_nil ?_
      refine x_then ?_
      have et := fmS_step (f := chgF a b) hx
      rw [ht] at et
      simp only [Option.toList_some, Option.toList_none, List.append_nil] at et
      refine ⟨(namesF a).length - (k + 1), ⟨111, [(5, .a (.cp [.v (.map (some bx))])), (6, .a (.cp [.v (.map (some by_))])), (8, .a (.v (.slice none 0 0))), (9, .own 9 4 ((gone ++ ((namesF a).take (k + 1)).filterMap (chgF a b)).map FC.cs)), (65, .a (strsA (namesF a))), (66, .a (.v (.int .i64 (((namesF a).map (fun s : ByteArray => [AV.v (.string s)])).length)))), (67, .a (.v (.int .i64 (((k + 1) : Int)))))], [⟨bx, true, .map (encM Value.string bts mx)⟩, ⟨by_, true, .map (encM Value.string bts my)⟩]⟩, ⟨rfl, (Slots.cons rfl (by first | exact .refl _ | exact .nilOwn _ _ | exact .nilSl _ | exact .ownSl _ _ _  | exact SV.le.ownEq (by first | rfl | (rw [et, ← List.append_assoc gone, List.map_append (l₁ := (gone ++ ((namesF a).take k).filterMap (chgF a b)))]; rfl) | (rw [et]; first | done | rfl)) | exact SV.le.of_eq (by first | rfl | (rw [et, ← List.append_assoc gone, List.map_append (l₁ := (gone ++ ((namesF a).take k).filterMap (chgF a b)))]; rfl) | (rw [et]; first | done | rfl))) (Slots.cons rfl (by first | exact .refl _ | exact .nilOwn _ _ | exact .nilSl _ | exact .ownSl _ _ _  | exact SV.le.ownEq (by first | rfl | (rw [et, ← List.append_assoc gone, List.map_append (l₁ := (gone ++ ((namesF a).take k).filterMap (chgF a b)))]; rfl) | (rw [et]; first | done | rfl)) | exact SV.le.of_eq (by first | rfl | (rw [et, ← List.append_assoc gone, List.map_append (l₁ := (gone ++ ((namesF a).take k).filterMap (chgF a b)))]; rfl) | (rw [et]; first | done | rfl))) (Slots.cons rfl (by first | exact .refl _ | exact .nilOwn _ _ | exact .nilSl _ | exact .ownSl _ _ _  | exact SV.le.ownEq (by first | rfl | (rw [et, ← List.append_assoc gone, List.map_append (l₁ := (gone ++ ((namesF a).take k).filterMap (chgF a b)))]; rfl) | (rw [et]; first | done | rfl)) | exact SV.le.of_eq (by first | rfl | (rw [et, ← List.append_assoc gone, List.map_append (l₁ := (gone ++ ((namesF a).take k).filterMap (chgF a b)))]; rfl) | (rw [et]; first | done | rfl))) (Slots.cons rfl (by first | exact .refl _ | exact .nilOwn _ _ | exact .nilSl _ | exact .ownSl _ _ _  | exact SV.le.ownEq (by first | rfl | (rw [et, ← List.append_assoc gone, List.map_append (l₁ := (gone ++ ((namesF a).take k).filterMap (chgF a b)))]; rfl) | (rw [et]; first | done | rfl)) | exact SV.le.of_eq (by first | rfl | (rw [et, ← List.append_assoc gone, List.map_append (l₁ := (gone ++ ((namesF a).take k).filterMap (chgF a b)))]; rfl) | (rw [et]; first | done | rfl))) (Slots.cons rfl (by first | exact .refl _ | exact .nilOwn _ _ | exact .nilSl _ | exact .ownSl _ _ _  | exact SV.le.ownEq (by first | rfl | (rw [et, ← List.append_assoc gone, List.map_append (l₁ := (gone ++ ((namesF a).take k).filterMap (chgF a b)))]; rfl) | (rw [et]; first | done | rfl)) | exact SV.le.of_eq (by first | rfl | (rw [et, ← List.append_assoc gone, List.map_append (l₁ := (gone ++ ((namesF a).take k).filterMap (chgF a b)))]; rfl) | (rw [et]; first | done | rfl))) (Slots.cons rfl (by first | exact .refl _ | exact .nilOwn _ _ | exact .nilSl _ | exact .ownSl _ _ _  | exact SV.le.ownEq (by first | rfl | (rw [et, ← List.append_assoc gone, List.map_append (l₁ := (gone ++ ((namesF a).take k).filterMap (chgF a b)))]; rfl) | (rw [et]; first | done | rfl)) | exact SV.le.of_eq (by first | rfl | (rw [et, ← List.append_assoc gone, List.map_append (l₁ := (gone ++ ((namesF a).take k).filterMap (chgF a b)))]; rfl) | (rw [et]; first | done | rfl))) (Slots.cons rfl (by first | exact .refl _ | exact .nilOwn _ _ | exact .nilSl _ | exact .ownSl _ _ _  | exact SV.le.ownEq (by first | rfl | (rw [et, ← List.append_assoc gone, List.map_append (l₁ := (gone ++ ((namesF a).take k).filterMap (chgF a b)))]; rfl) | (rw [et]; first | done | rfl)) | exact SV.le.of_eq (by first | rfl | (rw [et, ← List.append_assoc gone, List.map_append (l₁ := (gone ++ ((namesF a).take k).filterMap (chgF a b)))]; rfl) | (rw [et]; first | done | rfl))) Slots.nil))))))), (by first | exact List.Sublist.refl _ | exact .cons_cons _ (.cons _ (.refl _)) | exact List.nil_sublist _ | exact .cons _ (.refl _) | exact .cons _ (.cons _ (.refl _)) | exact .cons _ (.cons _ (.cons _ (.refl _))) | exact .cons _ (.cons _ (.cons _ (.cons _ (.refl _)))) | exact .cons_cons _ (List.nil_sublist _))⟩, (by omega), ⟨k + 1, rfl, rfl, (by omega)⟩⟩
    ·
     have hq2 : lookF b x = none := by
      rw [← hty.get]
      cases h : mget my x with
      | none => rfl
      | some d => rw [h] at hg78; cases hg78
     have ht : chgF a b x = none := by rw [chgF, hq2]
     refine g_skip rfl rfl hg78 rfl ?_
     refine g_skip rfl rfl hg78 rfl ?_
     refine g_skip rfl rfl hg78 rfl ?_
     refine g_skip rfl rfl hg78 rfl ?_
     refine g_skip rfl rfl hg78 rfl ?_
     refine g_skip rfl rfl hg78 rfl ?_
     refine r_pickF rfl hg78 rfl rfl ?_
     refine awl_nil ?_
     refine x_then ?_
     refine awp_condF rfl ?_
     refine awp_skip ?_
     refine x_block ?_
     refine x_then ?_
     refine awp_region ?_
     refine r_ari _ rfl rfl rfl (wrap_id (by first | omega | (simp; omega))) rfl ?_
     refine r_move rfl rfl ?_
     refine awl_nil ?_
     refine x_then ?_
     have et := fmS_step (f := chgF a b) hx
     rw [ht] at et
     simp only [Option.toList_some, Option.toList_none, List.append_nil] at et
     refine ⟨(namesF a).length - (k + 1), ⟨111, [(5, .a (.cp [.v (.map (some bx))])), (6, .a (.cp [.v (.map (some by_))])), (8, .a (.v (.slice none 0 0))), (9, .own 9 4 ((gone ++ ((namesF a).take (k + 1)).filterMap (chgF a b)).map FC.cs)), (65, .a (strsA (namesF a))), (66, .a (.v (.int .i64 (((namesF a).map (fun s : ByteArray => [AV.v (.string s)])).length)))), (67, .a (.v (.int .i64 (((k + 1) : Int)))))], [⟨bx, true, .map (encM Value.string bts mx)⟩, ⟨by_, true, .map (encM Value.string bts my)⟩]⟩, ⟨rfl, (Slots.cons rfl (by first | exact .refl _ | exact .nilOwn _ _ | exact .nilSl _ | exact .ownSl _ _ _  | exact SV.le.ownEq (by first | rfl | (rw [et, ← List.append_assoc gone, List.map_append (l₁ := (gone ++ ((namesF a).take k).filterMap (chgF a b)))]; rfl) | (rw [et]; first | done | rfl)) | exact SV.le.of_eq (by first | rfl | (rw [et, ← List.append_assoc gone, List.map_append (l₁ := (gone ++ ((namesF a).take k).filterMap (chgF a b)))]; rfl) | (rw [et]; first | done | rfl))) (Slots.cons rfl (by first | exact .refl _ | exact .nilOwn _ _ | exact .nilSl _ | exact .ownSl _ _ _  | exact SV.le.ownEq (by first | rfl | (rw [et, ← List.append_assoc gone, List.map_append (l₁ := (gone ++ ((namesF a).take k).filterMap (chgF a b)))]; rfl) | (rw [et]; first | done | rfl)) | exact SV.le.of_eq (by first | rfl | (rw [et, ← List.append_assoc gone, List.map_append (l₁ := (gone ++ ((namesF a).take k).filterMap (chgF a b)))]; rfl) | (rw [et]; first | done | rfl))) (Slots.cons rfl (by first | exact .refl _ | exact .nilOwn _ _ | exact .nilSl _ | exact .ownSl _ _ _  | exact SV.le.ownEq (by first | rfl | (rw [et, ← List.append_assoc gone, List.map_append (l₁ := (gone ++ ((namesF a).take k).filterMap (chgF a b)))]; rfl) | (rw [et]; first | done | rfl)) | exact SV.le.of_eq (by first | rfl | (rw [et, ← List.append_assoc gone, List.map_append (l₁ := (gone ++ ((namesF a).take k).filterMap (chgF a b)))]; rfl) | (rw [et]; first | done | rfl))) (Slots.cons rfl (by first | exact .refl _ | exact .nilOwn _ _ | exact .nilSl _ | exact .ownSl _ _ _  | exact SV.le.ownEq (by first | rfl | (rw [et, ← List.append_assoc gone, List.map_append (l₁ := (gone ++ ((namesF a).take k).filterMap (chgF a b)))]; rfl) | (rw [et]; first | done | rfl)) | exact SV.le.of_eq (by first | rfl | (rw [et, ← List.append_assoc gone, List.map_append (l₁ := (gone ++ ((namesF a).take k).filterMap (chgF a b)))]; rfl) | (rw [et]; first | done | rfl))) (Slots.cons rfl (by first | exact .refl _ | exact .nilOwn _ _ | exact .nilSl _ | exact .ownSl _ _ _  | exact SV.le.ownEq (by first | rfl | (rw [et, ← List.append_assoc gone, List.map_append (l₁ := (gone ++ ((namesF a).take k).filterMap (chgF a b)))]; rfl) | (rw [et]; first | done | rfl)) | exact SV.le.of_eq (by first | rfl | (rw [et, ← List.append_assoc gone, List.map_append (l₁ := (gone ++ ((namesF a).take k).filterMap (chgF a b)))]; rfl) | (rw [et]; first | done | rfl))) (Slots.cons rfl (by first | exact .refl _ | exact .nilOwn _ _ | exact .nilSl _ | exact .ownSl _ _ _  | exact SV.le.ownEq (by first | rfl | (rw [et, ← List.append_assoc gone, List.map_append (l₁ := (gone ++ ((namesF a).take k).filterMap (chgF a b)))]; rfl) | (rw [et]; first | done | rfl)) | exact SV.le.of_eq (by first | rfl | (rw [et, ← List.append_assoc gone, List.map_append (l₁ := (gone ++ ((namesF a).take k).filterMap (chgF a b)))]; rfl) | (rw [et]; first | done | rfl))) (Slots.cons rfl (by first | exact .refl _ | exact .nilOwn _ _ | exact .nilSl _ | exact .ownSl _ _ _  | exact SV.le.ownEq (by first | rfl | (rw [et, ← List.append_assoc gone, List.map_append (l₁ := (gone ++ ((namesF a).take k).filterMap (chgF a b)))]; rfl) | (rw [et]; first | done | rfl)) | exact SV.le.of_eq (by first | rfl | (rw [et, ← List.append_assoc gone, List.map_append (l₁ := (gone ++ ((namesF a).take k).filterMap (chgF a b)))]; rfl) | (rw [et]; first | done | rfl))) Slots.nil))))))), (by first | exact List.Sublist.refl _ | exact .cons_cons _ (.cons _ (.refl _)) | exact List.nil_sublist _ | exact .cons _ (.refl _) | exact .cons _ (.cons _ (.refl _)) | exact .cons _ (.cons _ (.cons _ (.refl _))) | exact .cons _ (.cons _ (.cons _ (.cons _ (.refl _)))) | exact .cons_cons _ (List.nil_sublist _))⟩, (by omega), ⟨k + 1, rfl, rfl, (by omega)⟩⟩
   ·
    have hge : (namesF a).length ≤ k := by have := of_decide_eq_false hc2; simp at this; omega
    have hkl : (namesF a).take k = namesF a := List.take_of_length_le hge
    rw [hkl]
    have hf2 : ((namesF a).filterMap (chgF a b)).length ≤ (namesF a).length := List.length_filterMap_le _ _
    refine awp_exit ?_
    refine x_thenE ?_
    refine x_thenE ?_
    refine x_blockE ?_
    refine x_then ?_
    refine awp_seq ?_
    refine awp_seq ?_
    refine awp_region ?_
    refine r_move rfl rfl ?_
    refine r_lenNil rfl TF.sl54 rfl ?_
    refine r_move rfl rfl ?_
    refine awl_nil ?_
    refine x_then ?_
    refine awp_block ?_
    refine awp_loop (fun nn0 S => S = ⟨111, [(9, .own 9 4 ((gone ++ (namesF a).filterMap (chgF a b)).map FC.cs)), (95, .a (.v (.int .i64 (0)))), (96, .a (.v (.int .i64 (0))))], []⟩ ∧ nn0 = 0) (0) ⟨111, [(9, .own 9 4 ((gone ++ (namesF a).filterMap (chgF a b)).map FC.cs)), (95, .a (.v (.int .i64 (0)))), (96, .a (.v (.int .i64 (0))))], []⟩ ⟨rfl, (Slots.cons rfl (by first | exact .refl _ | exact .nilOwn _ _ | exact .nilSl _ | exact .ownSl _ _ _  | exact SV.le.of_eq (by simp)) (Slots.cons rfl (by first | exact .refl _ | exact .nilOwn _ _ | exact .nilSl _ | exact .ownSl _ _ _  | exact SV.le.of_eq (by simp)) (Slots.cons rfl (by first | exact .refl _ | exact .nilOwn _ _ | exact .nilSl _ | exact .ownSl _ _ _  | exact SV.le.of_eq (by simp)) Slots.nil))), (by first | exact List.Sublist.refl _ | exact .cons_cons _ (.cons _ (.refl _)) | exact List.nil_sublist _ | exact .cons _ (.refl _) | exact .cons _ (.cons _ (.refl _)) | exact .cons _ (.cons _ (.cons _ (.refl _))) | exact .cons _ (.cons _ (.cons _ (.cons _ (.refl _)))) | exact .cons_cons _ (List.nil_sublist _))⟩ ⟨rfl, rfl⟩ ?_
    rintro nn0 _ ⟨rfl, rfl⟩
    refine awp_seq ?_
    refine awp_region ?_
    refine r_cmp rfl rfl rfl rfl ?_
    refine awl_nil ?_
    refine x_then ?_
    refine awp_seq ?_
    refine awp_cond rfl (fun hc4 => ?_) (fun hc4 => ?_)
    ·
     exfalso; exact absurd hc4 (by decide)
    ·
     refine awp_exit ?_
     refine x_thenE ?_
     refine x_thenE ?_
     refine x_blockE ?_
     refine x_then ?_
     refine awp_seq ?_
     refine awp_region ?_
     refine r_move rfl rfl ?_
     refine r_assign rfl rfl ?_
     refine awl_nil ?_
     refine x_then ?_
     refine awp_ret ?_
     exact ⟨(.inl rfl), _, [], (.one (by first | exact .mk rfl rfl | exact .nil rfl)), ⟨rfl, by rw [OfF, show splitE a b = ([], [], gone) from hst]; simp [fcsA, SV.av]⟩, (List.nil_sublist _), (by simp)⟩
 ·
  refine r_assign rfl rfl ?_
  refine r_assign rfl rfl ?_
  refine awl_nil ?_
  refine x_then ?_
  refine awp_seq ?_
  refine awp_region ?_
  refine r_assign rfl rfl ?_
  refine r_assign rfl rfl ?_
  refine awl_nil ?_
  refine x_then ?_
  refine awp_seq ?_
  refine awp_seq ?_
  refine awp_region ?_
  refine r_move rfl rfl ?_
  refine r_lenS rfl rfl TF.sl54 rfl ?_
  refine r_move rfl rfl ?_
  refine awl_nil ?_
  refine x_then ?_
  refine awp_block ?_
  refine awp_loop (fun nn0 S => ∃ k : Nat, ∃ came : List ByteArray, ∃ out : List FC, ∃ gone : List FC, ∃ ext : List AV, S = ⟨111, [(5, .a (.cp [.v (.map (some bx))])), (6, .a (.cp [.v (.map (some by_))])), (8, .a (.v (.slice (some ⟨g2, 0, none⟩) came.length cap))), (9, .own 9 4 (out.map FC.cs)), (10, .own 10 4 (gone.map FC.cs)), (30, .a (strsA (wentF a b))), (31, .a (.v (.int .i64 (((wentF a b).map (fun s : ByteArray => [AV.v (.string s)])).length)))), (32, .a (.v (.int .i64 ((k : Int)))))], [⟨g2, true, .box (strsC came ++ ext)⟩, ⟨bx, true, .map (encM Value.string bts mx)⟩, ⟨by_, true, .map (encM Value.string bts my)⟩]⟩ ∧ nn0 = (wentF a b).length - k ∧ (k ≤ (wentF a b).length) ∧ (splitF a b k = (came, out, gone)) ∧ (cap = came.length + ext.length) ∧ (out.length ≤ k) ∧ (gone.length ≤ k) ∧ (came.length ≤ 1000)) ((wentF a b).length - (0)) ⟨111, [(5, .a (.cp [.v (.map (some bx))])), (6, .a (.cp [.v (.map (some by_))])), (8, .a (.v (.slice (some ⟨g2, 0, none⟩) ((wentF b a)).length cap))), (9, .own 9 4 (([]).map FC.cs)), (10, .own 10 4 (([]).map FC.cs)), (30, .a (strsA (wentF a b))), (31, .a (.v (.int .i64 (((wentF a b).map (fun s : ByteArray => [AV.v (.string s)])).length)))), (32, .a (.v (.int .i64 (((0) : Int)))))], [⟨g2, true, .box (strsC ((wentF b a)) ++ (ext))⟩, ⟨bx, true, .map (encM Value.string bts mx)⟩, ⟨by_, true, .map (encM Value.string bts my)⟩]⟩ ⟨rfl, (Slots.cons rfl (by first | exact .refl _ | exact .nilOwn _ _ | exact .nilSl _ | exact .ownSl _ _ _  | exact SV.le.of_eq (by simp)) (Slots.cons rfl (by first | exact .refl _ | exact .nilOwn _ _ | exact .nilSl _ | exact .ownSl _ _ _  | exact SV.le.of_eq (by simp)) (Slots.cons rfl (by first | exact .refl _ | exact .nilOwn _ _ | exact .nilSl _ | exact .ownSl _ _ _  | exact SV.le.of_eq (by simp)) (Slots.cons rfl (by first | exact .refl _ | exact .nilOwn _ _ | exact .nilSl _ | exact .ownSl _ _ _  | exact SV.le.of_eq (by simp)) (Slots.cons rfl (by first | exact .refl _ | exact .nilOwn _ _ | exact .nilSl _ | exact .ownSl _ _ _  | exact SV.le.of_eq (by simp)) (Slots.cons rfl (by first | exact .refl _ | exact .nilOwn _ _ | exact .nilSl _ | exact .ownSl _ _ _  | exact SV.le.of_eq (by simp)) (Slots.cons rfl (by first | exact .refl _ | exact .nilOwn _ _ | exact .nilSl _ | exact .ownSl _ _ _  | exact SV.le.of_eq (by simp)) (Slots.cons rfl (by first | exact .refl _ | exact .nilOwn _ _ | exact .nilSl _ | exact .ownSl _ _ _  | exact SV.le.of_eq (by simp)) Slots.nil)))))))), (by first | exact List.Sublist.refl _ | exact .cons_cons _ (.cons _ (.refl _)) | exact List.nil_sublist _ | exact .cons _ (.refl _) | exact .cons _ (.cons _ (.refl _)) | exact .cons _ (.cons _ (.cons _ (.refl _))) | exact .cons _ (.cons _ (.cons _ (.cons _ (.refl _)))) | exact .cons_cons _ (List.nil_sublist _))⟩ ⟨0, (wentF b a), [], [], ext, rfl, rfl, Nat.zero_le _, rfl, hcap, (by simp), (by simp), (by have := went_len b a; omega)⟩ ?_
  rintro nn0 _ ⟨k, came, out, gone, ext, rfl, rfl, hk, hst, hce, hol, hgl, hcl⟩
  refine awp_seq ?_
  refine awp_region ?_
  refine r_cmp rfl rfl rfl rfl ?_
  refine awl_nil ?_
  refine x_then ?_
  refine awp_seq ?_
  refine awp_cond rfl (fun hc0 => ?_) (fun hc0 => ?_)
  ·
   have hltx : k < (wentF a b).length := by have := of_decide_eq_true hc0; simpa using this
   obtain ⟨x, hx⟩ := get_lt hltx
   refine awp_skip ?_
   refine x_then ?_
   refine awp_seq ?_
   refine awp_block ?_
   refine awp_seq ?_
   refine awp_region ?_
   refine r_index rfl rfl rfl TF.sl54 TF.sz9 (by omega) (get_map hx) rfl ?_
   refine r_load1 rfl TF.agg9 rfl ?_
   refine r_alloc TF.zero9 rfl (fun b12 => ?_)
   refine r_store 0 rfl rfl rfl TF.sz9 rfl rfl rfl ?_
   refine awl_nil ?_
   refine x_then ?_
   refine awp_seq ?_
   refine awp_region ?_
   refine awl_imp (imp_commit 0 12 rfl rfl rfl rfl) ?_
   refine r_move rfl rfl ?_
   refine r_makeFunc rfl (.cons (.ev rfl rfl) (.cons (.ev rfl rfl) (.cons (.ev rfl rfl) .nil))) rfl ?_
   refine r_callO hq rfl rfl (.cons (.ev rfl rfl) (.cons (.ev rfl rfl) .nil)) (idxV_ok (os := [⟨bx, true, .map (encM Value.string bts mx)⟩, ⟨by_, true, .map (encM Value.string bts my)⟩]) (hitF a b x) TF.en57 (fun t => of1_ok htx hty x t) came (by omega)) rfl TF.en56 (List.Sublist.refl _) rfl (fun r nobjs hr => ?_)
   obtain ⟨rfl, rfl⟩ := hr
   refine r_assign rfl rfl ?_
   refine awl_nil ?_
   refine x_then ?_
   refine awp_seq ?_
   refine awp_seq ?_
   refine awp_region ?_
   refine r_move rfl rfl ?_
   refine r_cmp rfl rfl rfl rfl ?_
   refine awl_nil ?_
   refine x_then ?_
   refine awp_cond rfl (fun hc1 => ?_) (fun hc1 => ?_)
   ·
    have hno := optI_none (of_decide_eq_true hc1)
    refine awp_seq ?_
    refine awp_region ?_
    refine r_move rfl rfl ?_
    refine r_load1 rfl TF.agg9 rfl ?_
    refine r_build (parts := [(0, .const ((Go.Value.int Go.IntKind.i64 2))), (1, .tmp 42)]) rfl TF.pl70 TF.zero70 rfl rfl rfl ?_
    refine r_lit 44 (parts := [(0, .tmp 43)]) rfl TF.sl57 TF.sz70 TF.zraw70 rfl rfl rfl rfl rfl rfl rfl ?_
    refine r_append 10 rfl (by first | exact .own _ | exact .nil) rfl (by first | exact .sl _ | exact .own _ _ | exact .nil) TF.sl57 TF.sz70 (by decide) TF.by70 TF.zlen70 (by simp [chunks] <;> omega) (by simp [chunks] <;> omega) rfl ?_
    refine r_assign rfl rfl ?_
    refine awl_nil ?_
    refine x_then ?_
    refine awp_exit ?_
    refine x_thenE ?_
    refine x_blockE ?_
    refine x_then ?_
    refine awp_region ?_
    refine r_ari _ rfl rfl rfl (wrap_id (by first | omega | (simp; omega))) rfl ?_
    refine r_move rfl rfl ?_
    refine awl_nil ?_
    refine x_then ?_
    refine ⟨(wentF a b).length - (k + 1), ⟨111, [(5, .a (.cp [.v (.map (some bx))])), (6, .a (.cp [.v (.map (some by_))])), (8, .a (.v (.slice (some ⟨g2, 0, none⟩) (came).length cap))), (9, .own 9 4 ((out).map FC.cs)), (10, .own 10 4 ((gone ++ [(⟨2, x, E0, []⟩ : FC)]).map FC.cs)), (30, .a (strsA (wentF a b))), (31, .a (.v (.int .i64 (((wentF a b).map (fun s : ByteArray => [AV.v (.string s)])).length)))), (32, .a (.v (.int .i64 (((k + 1) : Int)))))], [⟨g2, true, .box (strsC (came) ++ (ext))⟩, ⟨bx, true, .map (encM Value.string bts mx)⟩, ⟨by_, true, .map (encM Value.string bts my)⟩]⟩, ⟨rfl, (Slots.cons rfl (by first | exact .refl _ | exact .nilOwn _ _ | exact .nilSl _ | exact .ownSl _ _ _  | exact SV.le.ownEq (by first | rfl | (rw [List.map_append]; rfl) | (simp [List.map_append]; done)) | exact SV.le.of_eq (by first | rfl | (rw [List.map_append]; rfl) | (simp [List.map_append]; done))) (Slots.cons rfl (by first | exact .refl _ | exact .nilOwn _ _ | exact .nilSl _ | exact .ownSl _ _ _  | exact SV.le.ownEq (by first | rfl | (rw [List.map_append]; rfl) | (simp [List.map_append]; done)) | exact SV.le.of_eq (by first | rfl | (rw [List.map_append]; rfl) | (simp [List.map_append]; done))) (Slots.cons rfl (by first | exact .refl _ | exact .nilOwn _ _ | exact .nilSl _ | exact .ownSl _ _ _  | exact SV.le.ownEq (by first | rfl | (rw [List.map_append]; rfl) | (simp [List.map_append]; done)) | exact SV.le.of_eq (by first | rfl | (rw [List.map_append]; rfl) | (simp [List.map_append]; done))) (Slots.cons rfl (by first | exact .refl _ | exact .nilOwn _ _ | exact .nilSl _ | exact .ownSl _ _ _  | exact SV.le.ownEq (by first | rfl | (rw [List.map_append]; rfl) | (simp [List.map_append]; done)) | exact SV.le.of_eq (by first | rfl | (rw [List.map_append]; rfl) | (simp [List.map_append]; done))) (Slots.cons rfl (by first | exact .refl _ | exact .nilOwn _ _ | exact .nilSl _ | exact .ownSl _ _ _  | exact SV.le.ownEq (by first | rfl | (rw [List.map_append]; rfl) | (simp [List.map_append]; done)) | exact SV.le.of_eq (by first | rfl | (rw [List.map_append]; rfl) | (simp [List.map_append]; done))) (Slots.cons rfl (by first | exact .refl _ | exact .nilOwn _ _ | exact .nilSl _ | exact .ownSl _ _ _  | exact SV.le.ownEq (by first | rfl | (rw [List.map_append]; rfl) | (simp [List.map_append]; done)) | exact SV.le.of_eq (by first | rfl | (rw [List.map_append]; rfl) | (simp [List.map_append]; done))) (Slots.cons rfl (by first | exact .refl _ | exact .nilOwn _ _ | exact .nilSl _ | exact .ownSl _ _ _  | exact SV.le.ownEq (by first | rfl | (rw [List.map_append]; rfl) | (simp [List.map_append]; done)) | exact SV.le.of_eq (by first | rfl | (rw [List.map_append]; rfl) | (simp [List.map_append]; done))) (Slots.cons rfl (by first | exact .refl _ | exact .nilOwn _ _ | exact .nilSl _ | exact .ownSl _ _ _  | exact SV.le.ownEq (by first | rfl | (rw [List.map_append]; rfl) | (simp [List.map_append]; done)) | exact SV.le.of_eq (by first | rfl | (rw [List.map_append]; rfl) | (simp [List.map_append]; done))) Slots.nil)))))))), (by first | exact List.Sublist.refl _ | exact .cons_cons _ (.cons _ (.refl _)) | exact List.nil_sublist _ | exact .cons _ (.refl _) | exact .cons _ (.cons _ (.refl _)) | exact .cons _ (.cons _ (.cons _ (.refl _))) | exact .cons _ (.cons _ (.cons _ (.cons _ (.refl _)))) | exact .cons_cons _ (List.nil_sublist _))⟩, (by omega), ⟨k + 1, came, out, gone ++ [(⟨2, x, E0, []⟩ : FC)], ext, rfl, rfl, (by omega), (split_none hx hst hno), hce, (by omega), (by simp; omega), hcl⟩⟩
   ·
    obtain ⟨i, hi⟩ := optI_some (o := came.findIdx? (hitF a b x)) (by have := of_decide_eq_false hc1; omega)
    have hoi : optI (came.findIdx? (hitF a b x)) = (i : Int) := by rw [hi]; rfl
    rw [hoi]
    obtain ⟨t0, ht0, _⟩ := fidx_get hi
    have hil := (List.getElem?_eq_some_iff.1 ht0).1
    refine awp_skip ?_
    refine x_then ?_
    refine awp_seq ?_
    refine awp_drawS [46, 47, 48, 49, 50, 51, 52, 53] [_, _, _, _, _, _, _, _] [] [(7, 53)] TF.mixed rfl rfl rfl ⟨⟨⟨⟨⟨⟨⟨⟨trivial
     , ⟨_, rfl, fun sl hd hr ho => by
       refine r_move (hr 9 _ rfl rfl rfl) rfl ?_
       exact awl_nil ⟨rfl, post_put⟩⟩⟩
     , ⟨_, rfl, fun sl hd hr ho => by
       refine r_load1 (hr 12 _ rfl rfl rfl) TF.agg9 rfl ?_
       exact awl_nil ⟨rfl, post_put⟩⟩⟩
     , ⟨_, rfl, fun sl hd hr ho => by
       refine r_move (hr 8 _ rfl rfl rfl) rfl ?_
       exact awl_nil ⟨rfl, post_put⟩⟩⟩
     , ⟨_, rfl, fun sl hd hr ho => by
       refine r_move (hr 13 _ rfl rfl rfl) rfl ?_
       exact awl_nil ⟨rfl, post_put⟩⟩⟩
     , ⟨_, rfl, fun sl hd hr ho => by
       refine r_indexV (hd 2 _ rfl rfl rfl) (hd 3 _ rfl rfl rfl) TF.sl54 TF.sz9 (by omega) (by omega) rfl ?_
       exact awl_nil ⟨rfl, post_put⟩⟩⟩
     , ⟨_, rfl, fun sl hd hr ho => by
       refine r_load1b 0 (hd 4 _ rfl rfl rfl) rfl (str_at ht0) TF.agg9 rfl ?_
       exact awl_nil ⟨rfl, post_put⟩⟩⟩
     , ⟨_, rfl, fun sl hd hr ho => by
       refine r_build (parts := [(0, .const ((Go.Value.int Go.IntKind.i64 4))), (1, .tmp 47), (2, .tmp 51)]) rfl TF.pl70 TF.zero70 (parts_cons rfl (parts_cons (hd 1 _ rfl rfl rfl) (parts_cons (hd 5 _ rfl rfl rfl) parts_nil))) rfl rfl ?_
       exact awl_nil ⟨rfl, post_put⟩⟩⟩
     , ⟨_, rfl, fun sl hd hr ho => by
       refine r_lit 53 (parts := [(0, .tmp 52)]) rfl TF.sl57 TF.sz70 TF.zraw70 rfl rfl (parts_cons (hd 6 _ rfl rfl rfl) parts_nil) rfl rfl rfl rfl ?_
       exact awl_nil ⟨rfl, (post_dem (ho 53 (List.mem_of_elem_eq_true rfl)))⟩⟩⟩
     (by rfl) ?_
    refine r_append 9 rfl (by first | exact .own _ | exact .nil) rfl (by first | exact .sl _ | exact .own _ _ | exact .nil) TF.sl57 TF.sz70 (by decide) TF.by70 TF.zlen70 (by simp [chunks] <;> omega) (by simp [chunks] <;> omega) rfl ?_
    refine r_assign rfl rfl ?_
    refine awl_nil ?_
    refine x_then ?_
    refine awp_region ?_
    refine r_move rfl rfl ?_
    refine r_move rfl rfl ?_
    refine r_move rfl rfl ?_
    refine r_ari _ rfl rfl rfl (wrap_id (by first | omega | (simp; omega))) rfl ?_
    refine r_callW hq [true, false, false] rfl rfl (.cons (.ev rfl rfl) (.cons (.ev rfl rfl) (.cons (.ev rfl rfl) .nil))) (delete_ok came i hil (by omega) hce) rfl TF.en58 rfl rfl (List.nil_sublist _) rfl (fun r nobjs hr => ?_)
    obtain ⟨ext', hce', rfl, rfl⟩ := hr
    refine r_assign rfl rfl ?_
    refine awl_nil ?_
    refine x_block ?_
    refine x_then ?_
    refine awp_region ?_
    refine r_ari _ rfl rfl rfl (wrap_id (by first | omega | (simp; omega))) rfl ?_
    refine r_move rfl rfl ?_
    refine awl_nil ?_
    refine x_then ?_
    refine ⟨(wentF a b).length - (k + 1), ⟨111, [(5, .a (.cp [.v (.map (some bx))])), (6, .a (.cp [.v (.map (some by_))])), (8, .a (.v (.slice (some ⟨g2, 0, none⟩) ((came.eraseIdx i)).length cap))), (9, .own 9 4 ((out ++ [(⟨4, x, t0, []⟩ : FC)]).map FC.cs)), (10, .own 10 4 ((gone).map FC.cs)), (30, .a (strsA (wentF a b))), (31, .a (.v (.int .i64 (((wentF a b).map (fun s : ByteArray => [AV.v (.string s)])).length)))), (32, .a (.v (.int .i64 (((k + 1) : Int)))))], [⟨g2, true, .box (strsC ((came.eraseIdx i)) ++ (ext'))⟩, ⟨bx, true, .map (encM Value.string bts mx)⟩, ⟨by_, true, .map (encM Value.string bts my)⟩]⟩, ⟨rfl, (Slots.cons rfl (by first | exact .refl _ | exact .nilOwn _ _ | exact .nilSl _ | exact .ownSl _ _ _  | exact SV.le.ownEq (by first | rfl | (rw [List.map_append]; rfl) | (simp [List.map_append]; done)) | exact SV.le.of_eq (by first | rfl | (rw [List.map_append]; rfl) | (simp [List.map_append]; done))) (Slots.cons rfl (by first | exact .refl _ | exact .nilOwn _ _ | exact .nilSl _ | exact .ownSl _ _ _  | exact SV.le.ownEq (by first | rfl | (rw [List.map_append]; rfl) | (simp [List.map_append]; done)) | exact SV.le.of_eq (by first | rfl | (rw [List.map_append]; rfl) | (simp [List.map_append]; done))) (Slots.cons rfl (by first | exact .refl _ | exact .nilOwn _ _ | exact .nilSl _ | exact .ownSl _ _ _  | exact SV.le.ownEq (by first | rfl | (rw [List.map_append]; rfl) | (simp [List.map_append]; done)) | exact SV.le.of_eq (by first | rfl | (rw [List.map_append]; rfl) | (simp [List.map_append]; done))) (Slots.cons rfl (by first | exact .refl _ | exact .nilOwn _ _ | exact .nilSl _ | exact .ownSl _ _ _  | exact SV.le.ownEq (by first | rfl | (rw [List.map_append]; rfl) | (simp [List.map_append]; done)) | exact SV.le.of_eq (by first | rfl | (rw [List.map_append]; rfl) | (simp [List.map_append]; done))) (Slots.cons rfl (by first | exact .refl _ | exact .nilOwn _ _ | exact .nilSl _ | exact .ownSl _ _ _  | exact SV.le.ownEq (by first | rfl | (rw [List.map_append]; rfl) | (simp [List.map_append]; done)) | exact SV.le.of_eq (by first | rfl | (rw [List.map_append]; rfl) | (simp [List.map_append]; done))) (Slots.cons rfl (by first | exact .refl _ | exact .nilOwn _ _ | exact .nilSl _ | exact .ownSl _ _ _  | exact SV.le.ownEq (by first | rfl | (rw [List.map_append]; rfl) | (simp [List.map_append]; done)) | exact SV.le.of_eq (by first | rfl | (rw [List.map_append]; rfl) | (simp [List.map_append]; done))) (Slots.cons rfl (by first | exact .refl _ | exact .nilOwn _ _ | exact .nilSl _ | exact .ownSl _ _ _  | exact SV.le.ownEq (by first | rfl | (rw [List.map_append]; rfl) | (simp [List.map_append]; done)) | exact SV.le.of_eq (by first | rfl | (rw [List.map_append]; rfl) | (simp [List.map_append]; done))) (Slots.cons rfl (by first | exact .refl _ | exact .nilOwn _ _ | exact .nilSl _ | exact .ownSl _ _ _  | exact SV.le.ownEq (by first | rfl | (rw [List.map_append]; rfl) | (simp [List.map_append]; done)) | exact SV.le.of_eq (by first | rfl | (rw [List.map_append]; rfl) | (simp [List.map_append]; done))) Slots.nil)))))))), (by first | exact List.Sublist.refl _ | exact .cons_cons _ (.cons _ (.refl _)) | exact List.nil_sublist _ | exact .cons _ (.refl _) | exact .cons _ (.cons _ (.refl _)) | exact .cons _ (.cons _ (.cons _ (.refl _))) | exact .cons _ (.cons _ (.cons _ (.cons _ (.refl _)))) | exact .cons_cons _ (List.nil_sublist _))⟩, (by omega), ⟨k + 1, (came.eraseIdx i), out ++ [(⟨4, x, t0, []⟩ : FC)], gone, ext', rfl, rfl, (by omega), (split_some hx hst hi ht0), hce', (by simp; omega), (by omega), (by rw [List.length_eraseIdx]; split <;> omega)⟩⟩
  ·
   have hge : (wentF a b).length ≤ k := by have := of_decide_eq_false hc0; simp at this; omega
   obtain rfl : k = (wentF a b).length := by omega
   refine awp_exit ?_
   refine x_thenE ?_
   refine x_thenE ?_
   refine x_blockE ?_
   refine x_then ?_
   refine awp_seq ?_
   refine awp_region ?_
   refine r_move rfl rfl ?_
   refine r_move rfl rfl ?_
   refine r_append 9 rfl (by first | exact .own _ | exact .nil) rfl (by first | exact .sl _ | exact .own _ _ | exact .nil) TF.sl57 TF.sz70 (by decide) TF.by70 TF.zlen70 (by simp [chunks] <;> omega) (by simp [chunks] <;> omega) rfl ?_
   refine r_assign rfl rfl ?_
   refine awl_nil ?_
   refine x_then ?_
   refine awp_seq ?_
   refine awp_seq ?_
   refine awp_region ?_
   refine r_load1 rfl TF.agg109 rfl ?_
   refine r_callO hq rfl rfl (.cons (.ev rfl rfl) .nil) (orderN_ok htx hnsa (by omega)) rfl TF.en59 (.cons _ (.cons_cons _ (List.nil_sublist _))) rfl (fun r nobjs hr => ?_)
   obtain ⟨rfl, rfl⟩ := hr
   refine r_lenS rfl rfl TF.sl54 rfl ?_
   refine r_move rfl rfl ?_
   refine awl_nil ?_
   refine x_then ?_
   refine awp_block ?_
   refine awp_loop (fun nn0 S => ∃ k : Nat, S = ⟨111, [(5, .a (.cp [.v (.map (some bx))])), (6, .a (.cp [.v (.map (some by_))])), (8, .a (.v (.slice (some ⟨g2, 0, none⟩) came.length cap))), (9, .own 9 4 (((out ++ gone) ++ ((namesF a).take k).filterMap (chgF a b)).map FC.cs)), (65, .a (strsA (namesF a))), (66, .a (.v (.int .i64 (((namesF a).map (fun s : ByteArray => [AV.v (.string s)])).length)))), (67, .a (.v (.int .i64 ((k : Int)))))], [⟨g2, true, .box (strsC came ++ ext)⟩, ⟨bx, true, .map (encM Value.string bts mx)⟩, ⟨by_, true, .map (encM Value.string bts my)⟩]⟩ ∧ nn0 = (namesF a).length - k ∧ (k ≤ (namesF a).length)) ((namesF a).length - (0)) ⟨111, [(5, .a (.cp [.v (.map (some bx))])), (6, .a (.cp [.v (.map (some by_))])), (8, .a (.v (.slice (some ⟨g2, 0, none⟩) came.length cap))), (9, .own 9 4 (((out ++ gone) ++ ((namesF a).take (0)).filterMap (chgF a b)).map FC.cs)), (65, .a (strsA (namesF a))), (66, .a (.v (.int .i64 (((namesF a).map (fun s : ByteArray => [AV.v (.string s)])).length)))), (67, .a (.v (.int .i64 (((0) : Int)))))], [⟨g2, true, .box (strsC came ++ ext)⟩, ⟨bx, true, .map (encM Value.string bts mx)⟩, ⟨by_, true, .map (encM Value.string bts my)⟩]⟩ ⟨rfl, (Slots.cons rfl (by first | exact .refl _ | exact .nilOwn _ _ | exact .nilSl _ | exact .ownSl _ _ _  | exact SV.le.ownEq (by simp [chunks]) | exact SV.le.of_eq (by simp [chunks])) (Slots.cons rfl (by first | exact .refl _ | exact .nilOwn _ _ | exact .nilSl _ | exact .ownSl _ _ _  | exact SV.le.ownEq (by simp [chunks]) | exact SV.le.of_eq (by simp [chunks])) (Slots.cons rfl (by first | exact .refl _ | exact .nilOwn _ _ | exact .nilSl _ | exact .ownSl _ _ _  | exact SV.le.ownEq (by simp [chunks]) | exact SV.le.of_eq (by simp [chunks])) (Slots.cons rfl (by first | exact .refl _ | exact .nilOwn _ _ | exact .nilSl _ | exact .ownSl _ _ _  | exact SV.le.ownEq (by simp [chunks]) | exact SV.le.of_eq (by simp [chunks])) (Slots.cons rfl (by first | exact .refl _ | exact .nilOwn _ _ | exact .nilSl _ | exact .ownSl _ _ _  | exact SV.le.ownEq (by simp [chunks]) | exact SV.le.of_eq (by simp [chunks])) (Slots.cons rfl (by first | exact .refl _ | exact .nilOwn _ _ | exact .nilSl _ | exact .ownSl _ _ _  | exact SV.le.ownEq (by simp [chunks]) | exact SV.le.of_eq (by simp [chunks])) (Slots.cons rfl (by first | exact .refl _ | exact .nilOwn _ _ | exact .nilSl _ | exact .ownSl _ _ _  | exact SV.le.ownEq (by simp [chunks]) | exact SV.le.of_eq (by simp [chunks])) Slots.nil))))))), (by first | exact List.Sublist.refl _ | exact .cons_cons _ (.cons _ (.refl _)) | exact List.nil_sublist _ | exact .cons _ (.refl _) | exact .cons _ (.cons _ (.refl _)) | exact .cons _ (.cons _ (.cons _ (.refl _))) | exact .cons _ (.cons _ (.cons _ (.cons _ (.refl _)))) | exact .cons_cons _ (List.nil_sublist _))⟩ ⟨0, rfl, rfl, Nat.zero_le _⟩ ?_
   rintro nn0 _ ⟨k, rfl, rfl, hk1⟩
   refine awp_seq ?_
   refine awp_region ?_
   refine r_cmp rfl rfl rfl rfl ?_
   refine awl_nil ?_
   refine x_then ?_
   refine awp_seq ?_
   refine awp_cond rfl (fun hc2 => ?_) (fun hc2 => ?_)
   ·
    have hltx : k < (namesF a).length := by have := of_decide_eq_true hc2; simpa using this
    obtain ⟨x, hx⟩ := get_lt hltx
    have hf1 : (((namesF a).take k).filterMap (chgF a b)).length ≤ k := Nat.le_trans (List.length_filterMap_le _ _) (by simp; omega)
    refine awp_skip ?_
    refine x_then ?_
    refine awp_seq ?_
    refine awp_block ?_
    refine awp_seq ?_
    refine awp_region ?_
    refine r_index rfl rfl rfl TF.sl54 TF.sz9 (by omega) (get_map hx) rfl ?_
    refine r_load1 rfl TF.agg9 rfl ?_
    refine r_assign rfl rfl ?_
    refine awl_nil ?_
    refine x_then ?_
    refine awp_seq ?_
    refine awp_region ?_
    refine r_load1 rfl TF.agg109 rfl ?_
    refine r_move rfl rfl ?_
    refine r_lookupOk 2 (keyEnc_string TF.un9) (ev := bts) [] rfl rfl rfl TF.map109 TF.zavS rfl ?_
    refine r_move rfl rfl ?_
    refine r_extract rfl rfl rfl ?_
    refine r_extract rfl rfl rfl ?_
    refine r_assign rfl rfl ?_
    refine r_assign rfl rfl ?_
    refine awl_nil ?_
    refine x_then ?_
    refine awp_seq ?_
    refine awp_region ?_
    refine r_move rfl rfl ?_
    refine r_move rfl rfl ?_
    refine g_cases (t' := 78) rfl (fun hg78 => ?_) (fun hg78 => ?_)
    ·
     obtain ⟨d, hdq⟩ : ∃ d, mget my x = some d := Option.isSome_iff_exists.1 hg78
     have hq2 : lookF b x = some d := by rw [← hty.get, hdq]
     refine g_run rfl rfl hg78 ?_
     refine r_load1 rfl TF.agg109 rfl ?_
     refine g_run rfl rfl hg78 ?_
     refine r_move rfl rfl ?_
     refine g_run rfl rfl hg78 ?_
     refine r_lookup 1 (keyEnc_string TF.un9) (ev := bts) [] rfl rfl rfl TF.map109 TF.zavS rfl ?_
     refine g_run rfl rfl hg78 ?_
     refine r_move rfl rfl ?_
     refine g_run rfl rfl hg78 ?_
     refine r_call0 hq rfl rfl (.cons (.ev rfl rfl) (.cons (.ev rfl rfl) .nil)) (equal_ok _ _) rfl TF.en35 rfl (fun r hr => ?_)
     obtain rfl := hr
     refine g_run rfl rfl hg78 ?_
     refine r_not rfl rfl ?_
     refine r_pickT rfl hg78 rfl rfl ?_
     refine awl_nil ?_
     refine x_then ?_
     refine awp_cond rfl (fun hc3 => ?_) (fun hc3 => ?_)
     ·
      rw [hdq] at hc3 ⊢
      have hne : decide ((lookF a x).getD [] = d) = false := by rw [← htx.get]; simpa using hc3
      have ht : chgF a b x = some ⟨3, x, E0, d⟩ := by rw [chgF, hq2]; simp only [hne, cond_false]
      have hdl : d.length ≤ 1000000 := by have := look_len hdb x; rw [hq2] at this; simpa using this
      refine awp_region ?_
      refine r_move rfl rfl ?_
      refine r_move rfl rfl ?_
      refine r_move rfl rfl ?_
      refine r_call0 hq rfl rfl (.cons (.ev rfl rfl) .nil) (clone_ok d hdl) rfl TF.en47 rfl (fun r hr => ?_)
      obtain rfl := hr
      refine r_build (parts := [(0, .const ((Go.Value.int Go.IntKind.i64 3))), (1, .tmp 87), (3, .tmp 89)]) rfl TF.pl70 TF.zero70 rfl rfl rfl ?_
      refine r_lit 91 (parts := [(0, .tmp 90)]) rfl TF.sl57 TF.sz70 TF.zraw70 rfl rfl rfl rfl rfl rfl rfl ?_
      refine r_append 9 rfl (by first | exact .own _ | exact .nil) rfl (by first | exact .sl _ | exact .own _ _ | exact .nil) TF.sl57 TF.sz70 (by decide) TF.by70 TF.zlen70 (by simp [chunks] <;> omega) (by simp [chunks] <;> omega) rfl ?_
      refine r_assign rfl rfl ?_
      refine awl_nil ?_
      refine x_block ?_
      refine x_then ?_
      refine awp_region ?_
      refine r_ari _ rfl rfl rfl (wrap_id (by first | omega | (simp; omega))) rfl ?_
      refine r_move rfl rfl ?_
      refine awl_nil ?_
      refine x_then ?_
      have et := fmS_step (f := chgF a b) hx
      rw [ht] at et
      simp only [Option.toList_some, Option.toList_none, List.append_nil] at et
      refine ⟨(namesF a).length - (k + 1), ⟨111, [(5, .a (.cp [.v (.map (some bx))])), (6, .a (.cp [.v (.map (some by_))])), (8, .a (.v (.slice (some ⟨g2, 0, none⟩) came.length cap))), (9, .own 9 4 (((out ++ gone) ++ ((namesF a).take (k + 1)).filterMap (chgF a b)).map FC.cs)), (65, .a (strsA (namesF a))), (66, .a (.v (.int .i64 (((namesF a).map (fun s : ByteArray => [AV.v (.string s)])).length)))), (67, .a (.v (.int .i64 (((k + 1) : Int)))))], [⟨g2, true, .box (strsC came ++ ext)⟩, ⟨bx, true, .map (encM Value.string bts mx)⟩, ⟨by_, true, .map (encM Value.string bts my)⟩]⟩, ⟨rfl, (Slots.cons rfl (by first | exact .refl _ | exact .nilOwn _ _ | exact .nilSl _ | exact .ownSl _ _ _  | exact SV.le.ownEq (by first | rfl | (rw [et, ← List.append_assoc (out ++ gone), List.map_append (l₁ := ((out ++ gone) ++ ((namesF a).take k).filterMap (chgF a b)))]; rfl) | (rw [et]; first | done | rfl)) | exact SV.le.of_eq (by first | rfl | (rw [et, ← List.append_assoc (out ++ gone), List.map_append (l₁ := ((out ++ gone) ++ ((namesF a).take k).filterMap (chgF a b)))]; rfl) | (rw [et]; first | done | rfl))) (Slots.cons rfl (by first | exact .refl _ | exact .nilOwn _ _ | exact .nilSl _ | exact .ownSl _ _ _  | exact SV.le.ownEq (by first | rfl | (rw [et, ← List.append_assoc (out ++ gone), List.map_append (l₁ := ((out ++ gone) ++ ((namesF a).take k).filterMap (chgF a b)))]; rfl) | (rw [et]; first | done | rfl)) | exact SV.le.of_eq (by first | rfl | (rw [et, ← List.append_assoc (out ++ gone), List.map_append (l₁ := ((out ++ gone) ++ ((namesF a).take k).filterMap (chgF a b)))]; rfl) | (rw [et]; first | done | rfl))) (Slots.cons rfl (by first | exact .refl _ | exact .nilOwn _ _ | exact .nilSl _ | exact .ownSl _ _ _  | exact SV.le.ownEq (by first | rfl | (rw [et, ← List.append_assoc (out ++ gone), List.map_append (l₁ := ((out ++ gone) ++ ((namesF a).take k).filterMap (chgF a b)))]; rfl) | (rw [et]; first | done | rfl)) | exact SV.le.of_eq (by first | rfl | (rw [et, ← List.append_assoc (out ++ gone), List.map_append (l₁ := ((out ++ gone) ++ ((namesF a).take k).filterMap (chgF a b)))]; rfl) | (rw [et]; first | done | rfl))) (Slots.cons rfl (by first | exact .refl _ | exact .nilOwn _ _ | exact .nilSl _ | exact .ownSl _ _ _  | exact SV.le.ownEq (by first | rfl | (rw [et, ← List.append_assoc (out ++ gone), List.map_append (l₁ := ((out ++ gone) ++ ((namesF a).take k).filterMap (chgF a b)))]; rfl) | (rw [et]; first | done | rfl)) | exact SV.le.of_eq (by first | rfl | (rw [et, ← List.append_assoc (out ++ gone), List.map_append (l₁ := ((out ++ gone) ++ ((namesF a).take k).filterMap (chgF a b)))]; rfl) | (rw [et]; first | done | rfl))) (Slots.cons rfl (by first | exact .refl _ | exact .nilOwn _ _ | exact .nilSl _ | exact .ownSl _ _ _  | exact SV.le.ownEq (by first | rfl | (rw [et, ← List.append_assoc (out ++ gone), List.map_append (l₁ := ((out ++ gone) ++ ((namesF a).take k).filterMap (chgF a b)))]; rfl) | (rw [et]; first | done | rfl)) | exact SV.le.of_eq (by first | rfl | (rw [et, ← List.append_assoc (out ++ gone), List.map_append (l₁ := ((out ++ gone) ++ ((namesF a).take k).filterMap (chgF a b)))]; rfl) | (rw [et]; first | done | rfl))) (Slots.cons rfl (by first | exact .refl _ | exact .nilOwn _ _ | exact .nilSl _ | exact .ownSl _ _ _  | exact SV.le.ownEq (by first | rfl | (rw [et, ← List.append_assoc (out ++ gone), List.map_append (l₁ := ((out ++ gone) ++ ((namesF a).take k).filterMap (chgF a b)))]; rfl) | (rw [et]; first | done | rfl)) | exact SV.le.of_eq (by first | rfl | (rw [et, ← List.append_assoc (out ++ gone), List.map_append (l₁ := ((out ++ gone) ++ ((namesF a).take k).filterMap (chgF a b)))]; rfl) | (rw [et]; first | done | rfl))) (Slots.cons rfl (by first | exact .refl _ | exact .nilOwn _ _ | exact .nilSl _ | exact .ownSl _ _ _  | exact SV.le.ownEq (by first | rfl | (rw [et, ← List.append_assoc (out ++ gone), List.map_append (l₁ := ((out ++ gone) ++ ((namesF a).take k).filterMap (chgF a b)))]; rfl) | (rw [et]; first | done | rfl)) | exact SV.le.of_eq (by first | rfl | (rw [et, ← List.append_assoc (out ++ gone), List.map_append (l₁ := ((out ++ gone) ++ ((namesF a).take k).filterMap (chgF a b)))]; rfl) | (rw [et]; first | done | rfl))) Slots.nil))))))), (by first | exact List.Sublist.refl _ | exact .cons_cons _ (.cons _ (.refl _)) | exact List.nil_sublist _ | exact .cons _ (.refl _) | exact .cons _ (.cons _ (.refl _)) | exact .cons _ (.cons _ (.cons _ (.refl _))) | exact .cons _ (.cons _ (.cons _ (.cons _ (.refl _)))) | exact .cons_cons _ (List.nil_sublist _))⟩, (by omega), ⟨k + 1, rfl, rfl, (by omega)⟩⟩
     ·
      rw [hdq] at hc3
      have hne : decide ((lookF a x).getD [] = d) = true := by rw [← htx.get]; simpa using hc3
      have ht : chgF a b x = none := by rw [chgF, hq2]; simp only [hne, cond_true]
      refine awp_skip ?_
      refine x_block ?_
      refine x_then ?_
      refine awp_region ?_
      refine r_ari _ rfl rfl rfl (wrap_id (by first | omega | (simp; omega))) rfl ?_
      refine r_move rfl rfl ?_
      refine awl_nil ?_
      refine x_then ?_
      have et := fmS_step (f := chgF a b) hx
      rw [ht] at et
      simp only [Option.toList_some, Option.toList_none, List.append_nil] at et
      refine ⟨(namesF a).length - (k + 1), ⟨111, [(5, .a (.cp [.v (.map (some bx))])), (6, .a (.cp [.v (.map (some by_))])), (8, .a (.v (.slice (some ⟨g2, 0, none⟩) came.length cap))), (9, .own 9 4 (((out ++ gone) ++ ((namesF a).take (k + 1)).filterMap (chgF a b)).map FC.cs)), (65, .a (strsA (namesF a))), (66, .a (.v (.int .i64 (((namesF a).map (fun s : ByteArray => [AV.v (.string s)])).length)))), (67, .a (.v (.int .i64 (((k + 1) : Int)))))], [⟨g2, true, .box (strsC came ++ ext)⟩, ⟨bx, true, .map (encM Value.string bts mx)⟩, ⟨by_, true, .map (encM Value.string bts my)⟩]⟩, ⟨rfl, (Slots.cons rfl (by first | exact .refl _ | exact .nilOwn _ _ | exact .nilSl _ | exact .ownSl _ _ _  | exact SV.le.ownEq (by first | rfl | (rw [et, ← List.append_assoc (out ++ gone), List.map_append (l₁ := ((out ++ gone) ++ ((namesF a).take k).filterMap (chgF a b)))]; rfl) | (rw [et]; first | done | rfl)) | exact SV.le.of_eq (by first | rfl | (rw [et, ← List.append_assoc (out ++ gone), List.map_append (l₁ := ((out ++ gone) ++ ((namesF a).take k).filterMap (chgF a b)))]; rfl) | (rw [et]; first | done | rfl))) (Slots.cons rfl (by first | exact .refl _ | exact .nilOwn _ _ | exact .nilSl _ | exact .ownSl _ _ _  | exact SV.le.ownEq (by first | rfl | (rw [et, ← List.append_assoc (out ++ gone), List.map_append (l₁ := ((out ++ gone) ++ ((namesF a).take k).filterMap (chgF a b)))]; rfl) | (rw [et]; first | done | rfl)) | exact SV.le.of_eq (by first | rfl | (rw [et, ← List.append_assoc (out ++ gone), List.map_append (l₁ := ((out ++ gone) ++ ((namesF a).take k).filterMap (chgF a b)))]; rfl) | (rw [et]; first | done | rfl))) (Slots.cons rfl (by first | exact .refl _ | exact .nilOwn _ _ | exact .nilSl _ | exact .ownSl _ _ _  | exact SV.le.ownEq (by first | rfl | (rw [et, ← List.append_assoc (out ++ gone), List.map_append (l₁ := ((out ++ gone) ++ ((namesF a).take k).filterMap (chgF a b)))]; rfl) | (rw [et]; first | done | rfl)) | exact SV.le.of_eq (by first | rfl | (rw [et, ← List.append_assoc (out ++ gone), List.map_append (l₁ := ((out ++ gone) ++ ((namesF a).take k).filterMap (chgF a b)))]; rfl) | (rw [et]; first | done | rfl))) (Slots.cons rfl (by first | exact .refl _ | exact .nilOwn _ _ | exact .nilSl _ | exact .ownSl _ _ _  | exact SV.le.ownEq (by first | rfl | (rw [et, ← List.append_assoc (out ++ gone), List.map_append (l₁ := ((out ++ gone) ++ ((namesF a).take k).filterMap (chgF a b)))]; rfl) | (rw [et]; first | done | rfl)) | exact SV.le.of_eq (by first | rfl | (rw [et, ← List.append_assoc (out ++ gone), List.map_append (l₁ := ((out ++ gone) ++ ((namesF a).take k).filterMap (chgF a b)))]; rfl) | (rw [et]; first | done | rfl))) (Slots.cons rfl (by first | exact .refl _ | exact .nilOwn _ _ | exact .nilSl _ | exact .ownSl _ _ _  | exact SV.le.ownEq (by first | rfl | (rw [et, ← List.append_assoc (out ++ gone), List.map_append (l₁ := ((out ++ gone) ++ ((namesF a).take k).filterMap (chgF a b)))]; rfl) | (rw [et]; first | done | rfl)) | exact SV.le.of_eq (by first | rfl | (rw [et, ← List.append_assoc (out ++ gone), List.map_append (l₁ := ((out ++ gone) ++ ((namesF a).take k).filterMap (chgF a b)))]; rfl) | (rw [et]; first | done | rfl))) (Slots.cons rfl (by first | exact .refl _ | exact .nilOwn _ _ | exact .nilSl _ | exact .ownSl _ _ _  | exact SV.le.ownEq (by first | rfl | (rw [et, ← List.append_assoc (out ++ gone), List.map_append (l₁ := ((out ++ gone) ++ ((namesF a).take k).filterMap (chgF a b)))]; rfl) | (rw [et]; first | done | rfl)) | exact SV.le.of_eq (by first | rfl | (rw [et, ← List.append_assoc (out ++ gone), List.map_append (l₁ := ((out ++ gone) ++ ((namesF a).take k).filterMap (chgF a b)))]; rfl) | (rw [et]; first | done | rfl))) (Slots.cons rfl (by first | exact .refl _ | exact .nilOwn _ _ | exact .nilSl _ | exact .ownSl _ _ _  | exact SV.le.ownEq (by first | rfl | (rw [et, ← List.append_assoc (out ++ gone), List.map_append (l₁ := ((out ++ gone) ++ ((namesF a).take k).filterMap (chgF a b)))]; rfl) | (rw [et]; first | done | rfl)) | exact SV.le.of_eq (by first | rfl | (rw [et, ← List.append_assoc (out ++ gone), List.map_append (l₁ := ((out ++ gone) ++ ((namesF a).take k).filterMap (chgF a b)))]; rfl) | (rw [et]; first | done | rfl))) Slots.nil))))))), (by first | exact List.Sublist.refl _ | exact .cons_cons _ (.cons _ (.refl _)) | exact List.nil_sublist _ | exact .cons _ (.refl _) | exact .cons _ (.cons _ (.refl _)) | exact .cons _ (.cons _ (.cons _ (.refl _))) | exact .cons _ (.cons _ (.cons _ (.cons _ (.refl _)))) | exact .cons_cons _ (List.nil_sublist _))⟩, (by omega), ⟨k + 1, rfl, rfl, (by omega)⟩⟩
    ·
     have hq2 : lookF b x = none := by
      rw [← hty.get]
      cases h : mget my x with
      | none => rfl
      | some d => rw [h] at hg78; cases hg78
     have ht : chgF a b x = none := by rw [chgF, hq2]
     refine g_skip rfl rfl hg78 rfl ?_
     refine g_skip rfl rfl hg78 rfl ?_
     refine g_skip rfl rfl hg78 rfl ?_
     refine g_skip rfl rfl hg78 rfl ?_
     refine g_skip rfl rfl hg78 rfl ?_
     refine g_skip rfl rfl hg78 rfl ?_
     refine r_pickF rfl hg78 rfl rfl ?_
     refine awl_nil ?_
     refine x_then ?_
     refine awp_condF rfl ?_
     refine awp_skip ?_
     refine x_block ?_
     refine x_then ?_
     refine awp_region ?_
     refine r_ari _ rfl rfl rfl (wrap_id (by first | omega | (simp; omega))) rfl ?_
     refine r_move rfl rfl ?_
     refine awl_nil ?_
     refine x_then ?_
     have et := fmS_step (f := chgF a b) hx
     rw [ht] at et
     simp only [Option.toList_some, Option.toList_none, List.append_nil] at et
     refine ⟨(namesF a).length - (k + 1), ⟨111, [(5, .a (.cp [.v (.map (some bx))])), (6, .a (.cp [.v (.map (some by_))])), (8, .a (.v (.slice (some ⟨g2, 0, none⟩) came.length cap))), (9, .own 9 4 (((out ++ gone) ++ ((namesF a).take (k + 1)).filterMap (chgF a b)).map FC.cs)), (65, .a (strsA (namesF a))), (66, .a (.v (.int .i64 (((namesF a).map (fun s : ByteArray => [AV.v (.string s)])).length)))), (67, .a (.v (.int .i64 (((k + 1) : Int)))))], [⟨g2, true, .box (strsC came ++ ext)⟩, ⟨bx, true, .map (encM Value.string bts mx)⟩, ⟨by_, true, .map (encM Value.string bts my)⟩]⟩, ⟨rfl, (Slots.cons rfl (by first | exact .refl _ | exact .nilOwn _ _ | exact .nilSl _ | exact .ownSl _ _ _  | exact SV.le.ownEq (by first | rfl | (rw [et, ← List.append_assoc (out ++ gone), List.map_append (l₁ := ((out ++ gone) ++ ((namesF a).take k).filterMap (chgF a b)))]; rfl) | (rw [et]; first | done | rfl)) | exact SV.le.of_eq (by first | rfl | (rw [et, ← List.append_assoc (out ++ gone), List.map_append (l₁ := ((out ++ gone) ++ ((namesF a).take k).filterMap (chgF a b)))]; rfl) | (rw [et]; first | done | rfl))) (Slots.cons rfl (by first | exact .refl _ | exact .nilOwn _ _ | exact .nilSl _ | exact .ownSl _ _ _  | exact SV.le.ownEq (by first | rfl | (rw [et, ← List.append_assoc (out ++ gone), List.map_append (l₁ := ((out ++ gone) ++ ((namesF a).take k).filterMap (chgF a b)))]; rfl) | (rw [et]; first | done | rfl)) | exact SV.le.of_eq (by first | rfl | (rw [et, ← List.append_assoc (out ++ gone), List.map_append (l₁ := ((out ++ gone) ++ ((namesF a).take k).filterMap (chgF a b)))]; rfl) | (rw [et]; first | done | rfl))) (Slots.cons rfl (by first | exact .refl _ | exact .nilOwn _ _ | exact .nilSl _ | exact .ownSl _ _ _  | exact SV.le.ownEq (by first | rfl | (rw [et, ← List.append_assoc (out ++ gone), List.map_append (l₁ := ((out ++ gone) ++ ((namesF a).take k).filterMap (chgF a b)))]; rfl) | (rw [et]; first | done | rfl)) | exact SV.le.of_eq (by first | rfl | (rw [et, ← List.append_assoc (out ++ gone), List.map_append (l₁ := ((out ++ gone) ++ ((namesF a).take k).filterMap (chgF a b)))]; rfl) | (rw [et]; first | done | rfl))) (Slots.cons rfl (by first | exact .refl _ | exact .nilOwn _ _ | exact .nilSl _ | exact .ownSl _ _ _  | exact SV.le.ownEq (by first | rfl | (rw [et, ← List.append_assoc (out ++ gone), List.map_append (l₁ := ((out ++ gone) ++ ((namesF a).take k).filterMap (chgF a b)))]; rfl) | (rw [et]; first | done | rfl)) | exact SV.le.of_eq (by first | rfl | (rw [et, ← List.append_assoc (out ++ gone), List.map_append (l₁ := ((out ++ gone) ++ ((namesF a).take k).filterMap (chgF a b)))]; rfl) | (rw [et]; first | done | rfl))) (Slots.cons rfl (by first | exact .refl _ | exact .nilOwn _ _ | exact .nilSl _ | exact .ownSl _ _ _  | exact SV.le.ownEq (by first | rfl | (rw [et, ← List.append_assoc (out ++ gone), List.map_append (l₁ := ((out ++ gone) ++ ((namesF a).take k).filterMap (chgF a b)))]; rfl) | (rw [et]; first | done | rfl)) | exact SV.le.of_eq (by first | rfl | (rw [et, ← List.append_assoc (out ++ gone), List.map_append (l₁ := ((out ++ gone) ++ ((namesF a).take k).filterMap (chgF a b)))]; rfl) | (rw [et]; first | done | rfl))) (Slots.cons rfl (by first | exact .refl _ | exact .nilOwn _ _ | exact .nilSl _ | exact .ownSl _ _ _  | exact SV.le.ownEq (by first | rfl | (rw [et, ← List.append_assoc (out ++ gone), List.map_append (l₁ := ((out ++ gone) ++ ((namesF a).take k).filterMap (chgF a b)))]; rfl) | (rw [et]; first | done | rfl)) | exact SV.le.of_eq (by first | rfl | (rw [et, ← List.append_assoc (out ++ gone), List.map_append (l₁ := ((out ++ gone) ++ ((namesF a).take k).filterMap (chgF a b)))]; rfl) | (rw [et]; first | done | rfl))) (Slots.cons rfl (by first | exact .refl _ | exact .nilOwn _ _ | exact .nilSl _ | exact .ownSl _ _ _  | exact SV.le.ownEq (by first | rfl | (rw [et, ← List.append_assoc (out ++ gone), List.map_append (l₁ := ((out ++ gone) ++ ((namesF a).take k).filterMap (chgF a b)))]; rfl) | (rw [et]; first | done | rfl)) | exact SV.le.of_eq (by first | rfl | (rw [et, ← List.append_assoc (out ++ gone), List.map_append (l₁ := ((out ++ gone) ++ ((namesF a).take k).filterMap (chgF a b)))]; rfl) | (rw [et]; first | done | rfl))) Slots.nil))))))), (by first | exact List.Sublist.refl _ | exact .cons_cons _ (.cons _ (.refl _)) | exact List.nil_sublist _ | exact .cons _ (.refl _) | exact .cons _ (.cons _ (.refl _)) | exact .cons _ (.cons _ (.cons _ (.refl _))) | exact .cons _ (.cons _ (.cons _ (.cons _ (.refl _)))) | exact .cons_cons _ (List.nil_sublist _))⟩, (by omega), ⟨k + 1, rfl, rfl, (by omega)⟩⟩
   ·
    have hge : (namesF a).length ≤ k := by have := of_decide_eq_false hc2; simp at this; omega
    have hkl : (namesF a).take k = namesF a := List.take_of_length_le hge
    rw [hkl]
    have hf2 : ((namesF a).filterMap (chgF a b)).length ≤ (namesF a).length := List.length_filterMap_le _ _
    refine awp_exit ?_
    refine x_thenE ?_
    refine x_thenE ?_
    refine x_blockE ?_
    refine x_then ?_
    refine awp_seq ?_
    refine awp_seq ?_
    refine awp_region ?_
    refine r_move rfl rfl ?_
    refine r_lenV rfl TF.sl54 rfl ?_
    refine r_move rfl rfl ?_
    refine awl_nil ?_
    refine x_then ?_
    refine awp_block ?_
    refine awp_loop (fun nn0 S => ∃ k : Nat, S = ⟨111, [(6, .a (.cp [.v (.map (some by_))])), (9, .own 9 4 (((out ++ gone) ++ (namesF a).filterMap (chgF a b) ++ (came.take k).map (addF b)).map FC.cs)), (94, .a (.v (.slice (some ⟨g2, 0, none⟩) came.length cap))), (95, .a (.v (.int .i64 (came.length)))), (96, .a (.v (.int .i64 ((k : Int)))))], [⟨g2, true, .box (strsC came ++ ext)⟩, ⟨bx, true, .map (encM Value.string bts mx)⟩, ⟨by_, true, .map (encM Value.string bts my)⟩]⟩ ∧ nn0 = came.length - k ∧ (k ≤ came.length)) (came.length - (0)) ⟨111, [(6, .a (.cp [.v (.map (some by_))])), (9, .own 9 4 (((out ++ gone) ++ (namesF a).filterMap (chgF a b) ++ (came.take (0)).map (addF b)).map FC.cs)), (94, .a (.v (.slice (some ⟨g2, 0, none⟩) came.length cap))), (95, .a (.v (.int .i64 (came.length)))), (96, .a (.v (.int .i64 (((0) : Int)))))], [⟨g2, true, .box (strsC came ++ ext)⟩, ⟨bx, true, .map (encM Value.string bts mx)⟩, ⟨by_, true, .map (encM Value.string bts my)⟩]⟩ ⟨rfl, (Slots.cons rfl (by first | exact .refl _ | exact .nilOwn _ _ | exact .nilSl _ | exact .ownSl _ _ _  | exact SV.le.ownEq (by simp) | exact SV.le.of_eq (by simp)) (Slots.cons rfl (by first | exact .refl _ | exact .nilOwn _ _ | exact .nilSl _ | exact .ownSl _ _ _  | exact SV.le.ownEq (by simp) | exact SV.le.of_eq (by simp)) (Slots.cons rfl (by first | exact .refl _ | exact .nilOwn _ _ | exact .nilSl _ | exact .ownSl _ _ _  | exact SV.le.ownEq (by simp) | exact SV.le.of_eq (by simp)) (Slots.cons rfl (by first | exact .refl _ | exact .nilOwn _ _ | exact .nilSl _ | exact .ownSl _ _ _  | exact SV.le.ownEq (by simp) | exact SV.le.of_eq (by simp)) (Slots.cons rfl (by first | exact .refl _ | exact .nilOwn _ _ | exact .nilSl _ | exact .ownSl _ _ _  | exact SV.le.ownEq (by simp) | exact SV.le.of_eq (by simp)) Slots.nil))))), (by first | exact List.Sublist.refl _ | exact .cons_cons _ (.cons _ (.refl _)) | exact List.nil_sublist _ | exact .cons _ (.refl _) | exact .cons _ (.cons _ (.refl _)) | exact .cons _ (.cons _ (.cons _ (.refl _))) | exact .cons _ (.cons _ (.cons _ (.cons _ (.refl _)))) | exact .cons_cons _ (List.nil_sublist _))⟩ ⟨0, rfl, rfl, Nat.zero_le _⟩ ?_
    rintro nn0 _ ⟨k, rfl, rfl, hk2⟩
    refine awp_seq ?_
    refine awp_region ?_
    refine r_cmp rfl rfl rfl rfl ?_
    refine awl_nil ?_
    refine x_then ?_
    refine awp_seq ?_
    refine awp_cond rfl (fun hc4 => ?_) (fun hc4 => ?_)
    ·
     have hltx : k < came.length := by have := of_decide_eq_true hc4; simpa using this
     obtain ⟨x, hx⟩ := get_lt hltx
     refine awp_skip ?_
     refine x_then ?_
     refine awp_seq ?_
     refine awp_block ?_
     refine awp_seq ?_
     refine awp_region ?_
     refine r_indexV rfl rfl TF.sl54 TF.sz9 (by omega) (by omega) rfl ?_
     refine r_load1b 0 rfl rfl (str_at hx) TF.agg9 rfl ?_
     refine r_assign rfl rfl ?_
     refine awl_nil ?_
     refine x_then ?_
     refine awp_region ?_
     refine r_move rfl rfl ?_
     refine r_move rfl rfl ?_
     refine r_load1 rfl TF.agg109 rfl ?_
     refine r_move rfl rfl ?_
     refine r_lookup 2 (keyEnc_string TF.un9) (ev := bts) [] rfl rfl rfl TF.map109 TF.zavS rfl ?_
     refine r_call0 hq rfl rfl (.cons (.ev rfl rfl) .nil) (clone_ok _ (by rw [hty.get]; exact look_len hdb x)) rfl TF.en47 rfl (fun r hr => ?_)
     obtain rfl := hr
     refine r_build (parts := [(0, .const ((Go.Value.int Go.IntKind.i64 1))), (1, .tmp 101), (3, .tmp 105)]) rfl TF.pl70 TF.zero70 rfl rfl rfl ?_
     refine r_lit 107 (parts := [(0, .tmp 106)]) rfl TF.sl57 TF.sz70 TF.zraw70 rfl rfl rfl rfl rfl rfl rfl ?_
     refine r_append 9 rfl (by first | exact .own _ | exact .nil) rfl (by first | exact .sl _ | exact .own _ _ | exact .nil) TF.sl57 TF.sz70 (by decide) TF.by70 TF.zlen70 (by simp [chunks] <;> omega) (by simp [chunks] <;> omega) rfl ?_
     refine r_assign rfl rfl ?_
     refine awl_nil ?_
     refine x_block ?_
     refine x_then ?_
     refine awp_region ?_
     refine r_ari _ rfl rfl rfl (wrap_id (by first | omega | (simp; omega))) rfl ?_
     refine r_move rfl rfl ?_
     refine awl_nil ?_
     refine x_then ?_
     have et : (((out ++ gone) ++ (namesF a).filterMap (chgF a b) ++ (came.take (k + 1)).map (addF b))).map FC.cs = (((out ++ gone) ++ (namesF a).filterMap (chgF a b) ++ (came.take k).map (addF b))).map FC.cs ++ [[.v (.int .i64 1), .v (.string x), .v (.string E0), bts ((mget my x).getD [])]] := by rw [hty.get, map_take hx, ← List.append_assoc, List.map_append]; rfl
     refine ⟨came.length - (k + 1), ⟨111, [(6, .a (.cp [.v (.map (some by_))])), (9, .own 9 4 (((out ++ gone) ++ (namesF a).filterMap (chgF a b) ++ (came.take (k + 1)).map (addF b)).map FC.cs)), (94, .a (.v (.slice (some ⟨g2, 0, none⟩) came.length cap))), (95, .a (.v (.int .i64 (came.length)))), (96, .a (.v (.int .i64 (((k + 1) : Int)))))], [⟨g2, true, .box (strsC came ++ ext)⟩, ⟨bx, true, .map (encM Value.string bts mx)⟩, ⟨by_, true, .map (encM Value.string bts my)⟩]⟩, ⟨rfl, (Slots.cons rfl (by first | exact .refl _ | exact .nilOwn _ _ | exact .nilSl _ | exact .ownSl _ _ _  | exact SV.le.ownEq (by first | rfl | (rw [et]; rfl)) | exact SV.le.of_eq (by first | rfl | (rw [et]; rfl))) (Slots.cons rfl (by first | exact .refl _ | exact .nilOwn _ _ | exact .nilSl _ | exact .ownSl _ _ _  | exact SV.le.ownEq (by first | rfl | (rw [et]; rfl)) | exact SV.le.of_eq (by first | rfl | (rw [et]; rfl))) (Slots.cons rfl (by first | exact .refl _ | exact .nilOwn _ _ | exact .nilSl _ | exact .ownSl _ _ _  | exact SV.le.ownEq (by first | rfl | (rw [et]; rfl)) | exact SV.le.of_eq (by first | rfl | (rw [et]; rfl))) (Slots.cons rfl (by first | exact .refl _ | exact .nilOwn _ _ | exact .nilSl _ | exact .ownSl _ _ _  | exact SV.le.ownEq (by first | rfl | (rw [et]; rfl)) | exact SV.le.of_eq (by first | rfl | (rw [et]; rfl))) (Slots.cons rfl (by first | exact .refl _ | exact .nilOwn _ _ | exact .nilSl _ | exact .ownSl _ _ _  | exact SV.le.ownEq (by first | rfl | (rw [et]; rfl)) | exact SV.le.of_eq (by first | rfl | (rw [et]; rfl))) Slots.nil))))), (by first | exact List.Sublist.refl _ | exact .cons_cons _ (.cons _ (.refl _)) | exact List.nil_sublist _ | exact .cons _ (.refl _) | exact .cons _ (.cons _ (.refl _)) | exact .cons _ (.cons _ (.cons _ (.refl _))) | exact .cons _ (.cons _ (.cons _ (.cons _ (.refl _)))) | exact .cons_cons _ (List.nil_sublist _))⟩, (by omega), ⟨k + 1, rfl, rfl, (by omega)⟩⟩
    ·
     have hge : came.length ≤ k := by have := of_decide_eq_false hc4; simp at this; omega
     have hkl2 : came.take k = came := List.take_of_length_le hge
     refine awp_exit ?_
     refine x_thenE ?_
     refine x_thenE ?_
     refine x_blockE ?_
     refine x_then ?_
     refine awp_seq ?_
     refine awp_region ?_
     refine r_move rfl rfl ?_
     refine r_assign rfl rfl ?_
     refine awl_nil ?_
     refine x_then ?_
     refine awp_ret ?_
     exact ⟨(.inl rfl), _, [], (.one (by first | exact .mk rfl rfl | exact .nil rfl)), ⟨rfl, by rw [hkl2, OfF, show splitE a b = (came, out, gone) from hst]; rfl⟩, (List.nil_sublist _), (by simp)⟩
end Go.Proofs.YtcbhhjahjnlfhaaDoor.A
namespace Go.Proofs.YtcbhhjahjnlfhaaDoor.A
open Go Go.RowKit
set_option linter.unusedVariables false
set_option linter.unusedSimpArgs false
set_option maxRecDepth 100000
theorem TF.sz3 : szT Tryd.prog 3 = some 1 := by kernel_rfl
theorem TF.agg3 : aggT Tryd.prog 3 = some false := by kernel_rfl
theorem TF.pl26 : placesT Tryd.prog 26 = some [(0, 1), (1, 1)] := by kernel_rfl
theorem TF.zraw26 : zeroT Tryd.prog 26 = some [(.string ⟨#[]⟩), (.slice none 0 0)] := by kernel_rfl
theorem TF.by26 : bytesT Tryd.prog 26 = some 40 := by kernel_rfl
theorem TF.zlen26 : (zeroT Tryd.prog 26).map (·.length) = some 2 := by kernel_rfl
end Go.Proofs.YtcbhhjahjnlfhaaDoor.A
namespace Go.Proofs.YtcbhhjahjnlfhaaDoor.A
open Go Go.RowKit
set_option linter.unusedVariables false
set_option linter.unusedSimpArgs false
set_option maxRecDepth 100000
theorem TF.sl87 : sliceT Tryd.prog 87 = some 3 := by kernel_rfl
theorem TF.zraw3 : zeroT Tryd.prog 3 = some [(.int .i64 0)] := by kernel_rfl
theorem TF.map100 : mapT Tryd.prog 100 = some (9, 4) := by kernel_rfl
theorem TF.zav4 : ZeroAV Tryd.prog 4 (.v (.bool false)) := ⟨.v (.bool false), by kernel_rfl, .one (.refl _)⟩
end Go.Proofs.YtcbhhjahjnlfhaaDoor.A
namespace Go.Proofs.YtcbhhjahjnlfhaaDoor.A
open Go Go.RowKit
set_option linter.unusedVariables false
set_option linter.unusedSimpArgs false
set_option maxRecDepth 100000
theorem TF.en53 : entersT Tryd.prog 53 := enters_of Tryd.func53 (by kernel_rfl) (by kernel_rfl)
theorem TF.en52 : entersT Tryd.prog 52 := enters_of Tryd.func52 (by kernel_rfl) (by kernel_rfl)
theorem TF.en18 : entersT Tryd.prog 18 := enters_of Tryd.func18 (by kernel_rfl) (by kernel_rfl)
theorem fsame1_ok (x y : File) : AC Tryd.prog 53 [.agg (File.cs x), .agg (File.cs y)] [] (fun r n => n = [] ∧ r = boolA (decide (x.name = y.name) && decide (x.data = y.data))) := by
 refine ac_of_awp (rs := [4]) (nt := 17) Tryd.func53 rfl rfl rfl rfl (fun w0 C0 hq => ?_)
 refine awp_seq ?_
 refine awp_region ?_
 refine r_box rfl rfl rfl (fun b2 => ?_)
 refine r_box rfl rfl rfl (fun b3 => ?_)
 refine r_assign rfl rfl ?_
 refine awl_nil ?_
 refine x_then ?_
 refine awp_seq ?_
 refine awp_region ?_
 refine r_fieldb rfl TF.f26_0 TF.sz9 rfl ?_
 refine r_load1b 1 rfl rfl rfl TF.agg9 rfl ?_
 refine r_fieldb rfl TF.f26_0 TF.sz9 rfl ?_
 refine r_load1b 0 rfl rfl rfl TF.agg9 rfl ?_
 refine r_str2 rfl rfl rfl rfl ?_
 refine r_move rfl rfl ?_
 refine g_cases (t' := 10) rfl (fun hg10 => ?_) (fun hg10 => ?_)
 ·
  have h1 : x.name = y.name := by simpa using hg10
  refine g_run rfl rfl hg10 ?_
  refine r_fieldb rfl TF.f26_1 TF.sz22 rfl ?_
  refine g_run rfl rfl hg10 ?_
  refine r_load1b 1 rfl rfl rfl TF.agg22 rfl ?_
  refine g_run rfl rfl hg10 ?_
  refine r_fieldb rfl TF.f26_1 TF.sz22 rfl ?_
  refine g_run rfl rfl hg10 ?_
  refine r_load1b 0 rfl rfl rfl TF.agg22 rfl ?_
  refine g_run rfl rfl hg10 ?_
  refine r_call0 hq rfl rfl (.cons (.ev rfl rfl) (.cons (.ev rfl rfl) .nil)) (equal_ok x.data y.data) rfl TF.en35 rfl (fun r hr => ?_)
  obtain rfl := hr
  refine r_pickT rfl hg10 rfl rfl ?_
  refine r_assign rfl rfl ?_
  refine awl_nil ?_
  refine x_then ?_
  refine awp_ret ?_
  exact ⟨(.inl rfl), _, [], (.one (by first | exact .mk rfl rfl | exact .nil rfl)), ⟨rfl, by first | (rw [decide_eq_true h1, Bool.true_and]; rfl) | (rw [decide_eq_false h1, Bool.false_and]; rfl)⟩, (List.nil_sublist _), (by simp)⟩
 ·
  have h1 : ¬ x.name = y.name := by simpa using hg10
  refine g_skip rfl rfl hg10 rfl ?_
  refine g_skip rfl rfl hg10 rfl ?_
  refine g_skip rfl rfl hg10 rfl ?_
  refine g_skip rfl rfl hg10 rfl ?_
  refine g_skip rfl rfl hg10 rfl ?_
  refine r_pickF rfl hg10 rfl rfl ?_
  refine r_assign rfl rfl ?_
  refine awl_nil ?_
  refine x_then ?_
  refine awp_ret ?_
  exact ⟨(.inl rfl), _, [], (.one (by first | exact .mk rfl rfl | exact .nil rfl)), ⟨rfl, by first | (rw [decide_eq_true h1, Bool.true_and]; rfl) | (rw [decide_eq_false h1, Bool.false_and]; rfl)⟩, (List.nil_sublist _), (by simp)⟩
theorem eqf_ok (l : List File) (hl : l.length ≤ 1000000) : AC Tryd.prog 52 [files l, files l, .fn 53 []] [] (fun r n => n = [] ∧ r = boolA true) := by
 refine ac_of_awp (rs := [6]) (nt := 32) Tryd.func52 rfl rfl rfl rfl (fun w0 C0 hq => ?_)
 refine awp_seq ?_
 refine awp_region ?_
 refine r_assign rfl rfl ?_
 refine awl_nil ?_
 refine x_then ?_
 refine awp_seq ?_
 refine awp_seq ?_
 refine awp_region ?_
 refine r_move rfl rfl ?_
 refine r_lenS rfl rfl TF.sl24 rfl ?_
 refine r_move rfl rfl ?_
 refine r_lenS rfl rfl TF.sl24 rfl ?_
 refine r_cmp rfl rfl rfl rfl ?_
 refine awl_nil ?_
 refine x_then ?_
 refine awp_cond rfl (fun hc0 => ?_) (fun hc0 => ?_)
 ·
  exfalso; simp at hc0
 ·
  refine awp_skip ?_
  refine x_then ?_
  refine awp_seq ?_
  refine awp_seq ?_
  refine awp_region ?_
  refine r_move rfl rfl ?_
  refine r_lenS rfl rfl TF.sl24 rfl ?_
  refine r_move rfl rfl ?_
  refine awl_nil ?_
  refine x_then ?_
  refine awp_block ?_
  refine awp_loop (fun nn0 S => ∃ k : Nat, S = ⟨32, [(1, .a (files l)), (2, .a (.fn 53 [])), (15, .a (files l)), (16, .a (.v (.int .i64 ((l.map File.cs).length)))), (17, .a (.v (.int .i64 ((k : Int)))))], []⟩ ∧ nn0 = l.length - k ∧ (k ≤ l.length)) (l.length - (0)) ⟨32, [(1, .a (files l)), (2, .a (.fn 53 [])), (15, .a (files l)), (16, .a (.v (.int .i64 ((l.map File.cs).length)))), (17, .a (.v (.int .i64 (((0) : Int)))))], []⟩ ⟨rfl, (Slots.cons rfl (by first | exact .refl _ | exact .nilOwn _ _ | exact .nilSl _ | exact .ownSl _ _ _  | exact SV.le.of_eq (by simp)) (Slots.cons rfl (by first | exact .refl _ | exact .nilOwn _ _ | exact .nilSl _ | exact .ownSl _ _ _  | exact SV.le.of_eq (by simp)) (Slots.cons rfl (by first | exact .refl _ | exact .nilOwn _ _ | exact .nilSl _ | exact .ownSl _ _ _  | exact SV.le.of_eq (by simp)) (Slots.cons rfl (by first | exact .refl _ | exact .nilOwn _ _ | exact .nilSl _ | exact .ownSl _ _ _  | exact SV.le.of_eq (by simp)) (Slots.cons rfl (by first | exact .refl _ | exact .nilOwn _ _ | exact .nilSl _ | exact .ownSl _ _ _  | exact SV.le.of_eq (by simp)) Slots.nil))))), (by first | exact List.Sublist.refl _ | exact .cons_cons _ (.cons _ (.refl _)) | exact List.nil_sublist _ | exact .cons _ (.refl _) | exact .cons _ (.cons _ (.refl _)) | exact .cons _ (.cons _ (.cons _ (.refl _))) | exact .cons _ (.cons _ (.cons _ (.cons _ (.refl _)))) | exact .cons_cons _ (List.nil_sublist _))⟩ ⟨0, rfl, rfl, Nat.zero_le _⟩ ?_
  rintro nn0 _ ⟨k, rfl, rfl, hk⟩
  refine awp_seq ?_
  refine awp_region ?_
  refine r_cmp rfl rfl rfl rfl ?_
  refine awl_nil ?_
  refine x_then ?_
  refine awp_seq ?_
  refine awp_cond rfl (fun hc1 => ?_) (fun hc1 => ?_)
  ·
   have hltx : k < l.length := by have := of_decide_eq_true hc1; simpa using this
   obtain ⟨x, hx⟩ := get_lt hltx
   refine awp_skip ?_
   refine x_then ?_
   refine awp_seq ?_
   refine awp_block ?_
   refine awp_seq ?_
   refine awp_region ?_
   refine r_move rfl rfl ?_
   refine r_index rfl rfl rfl TF.sl24 TF.sz26 (by omega) (get_map hx) rfl ?_
   refine r_loadA rfl TF.agg26 TF.sz26 rfl rfl ?_
   refine r_alloc TF.zero26 rfl (fun b8 => ?_)
   refine r_assign rfl rfl ?_
   refine r_store 0 rfl rfl rfl TF.sz26 rfl rfl rfl ?_
   refine awl_nil ?_
   refine x_then ?_
   refine awp_seq ?_
   refine awp_region ?_
   refine r_move rfl rfl ?_
   refine r_move rfl rfl ?_
   refine r_index rfl rfl rfl TF.sl24 TF.sz26 (by omega) (get_map hx) rfl ?_
   refine r_loadA rfl TF.agg26 TF.sz26 rfl rfl ?_
   refine r_alloc TF.zero26 rfl (fun b9 => ?_)
   refine r_store 0 rfl rfl rfl TF.sz26 rfl rfl rfl ?_
   refine awl_nil ?_
   refine x_then ?_
   refine awp_seq ?_
   refine awp_region ?_
   refine r_move rfl rfl ?_
   refine r_loadAb 1 rfl rfl TF.agg26 TF.sz26 rfl rfl ?_
   refine r_loadAb 0 rfl rfl TF.agg26 TF.sz26 rfl rfl ?_
   refine r_call0 hq rfl rfl (.cons (.ev rfl rfl) (.cons (.ev rfl rfl) .nil)) (fsame1_ok x x) rfl TF.en53 rfl (fun r hr => ?_)
   obtain rfl := hr
   refine r_not rfl rfl ?_
   refine awl_nil ?_
   refine x_then ?_
   refine awp_cond rfl (fun hc2 => ?_) (fun hc2 => ?_)
   ·
    exfalso; simp at hc2
   ·
    refine awp_skip ?_
    refine x_block ?_
    refine x_then ?_
    refine awp_region ?_
    refine r_ari _ rfl rfl rfl (wrap_id (by first | omega | (simp; omega))) rfl ?_
    refine r_move rfl rfl ?_
    refine awl_nil ?_
    refine x_then ?_
    refine ⟨l.length - (k + 1), ⟨32, [(1, .a (files l)), (2, .a (.fn 53 [])), (15, .a (files l)), (16, .a (.v (.int .i64 ((l.map File.cs).length)))), (17, .a (.v (.int .i64 (((k + 1) : Int)))))], []⟩, ⟨rfl, (Slots.cons rfl (by first | exact .refl _ | exact .nilOwn _ _ | exact .nilSl _ | exact .ownSl _ _ _  | exact SV.le.of_eq (by simp)) (Slots.cons rfl (by first | exact .refl _ | exact .nilOwn _ _ | exact .nilSl _ | exact .ownSl _ _ _  | exact SV.le.of_eq (by simp)) (Slots.cons rfl (by first | exact .refl _ | exact .nilOwn _ _ | exact .nilSl _ | exact .ownSl _ _ _  | exact SV.le.of_eq (by simp)) (Slots.cons rfl (by first | exact .refl _ | exact .nilOwn _ _ | exact .nilSl _ | exact .ownSl _ _ _  | exact SV.le.of_eq (by simp)) (Slots.cons rfl (by first | exact .refl _ | exact .nilOwn _ _ | exact .nilSl _ | exact .ownSl _ _ _  | exact SV.le.of_eq (by simp)) Slots.nil))))), (by first | exact List.Sublist.refl _ | exact .cons_cons _ (.cons _ (.refl _)) | exact List.nil_sublist _ | exact .cons _ (.refl _) | exact .cons _ (.cons _ (.refl _)) | exact .cons _ (.cons _ (.cons _ (.refl _))) | exact .cons _ (.cons _ (.cons _ (.cons _ (.refl _)))) | exact .cons_cons _ (List.nil_sublist _))⟩, (by omega), ⟨k + 1, rfl, rfl, (by omega)⟩⟩
  ·
   refine awp_exit ?_
   refine x_thenE ?_
   refine x_thenE ?_
   refine x_blockE ?_
   refine x_then ?_
   refine awp_seq ?_
   refine awp_region ?_
   refine r_assign rfl rfl ?_
   refine awl_nil ?_
   refine x_then ?_
   refine awp_ret ?_
   exact ⟨(.inl rfl), _, [], (.one (by first | exact .mk rfl rfl | exact .nil rfl)), ⟨rfl, rfl⟩, (List.nil_sublist _), (by simp)⟩
theorem fsame_ok (l : List File) (hl : l.length ≤ 1000000) : AC Tryd.prog 17 [files l, files l] [] (fun r n => n = [] ∧ r = boolA true) := by
 refine ac_of_awp (rs := [4]) (nt := 8) Tryd.func17 rfl rfl rfl rfl (fun w0 C0 hq => ?_)
 refine awp_seq ?_
 refine awp_region ?_
 refine r_assign rfl rfl ?_
 refine awl_nil ?_
 refine x_then ?_
 refine awp_seq ?_
 refine awp_region ?_
 refine r_move rfl rfl ?_
 refine r_move rfl rfl ?_
 refine r_call0 hq rfl rfl (.cons (.ev rfl rfl) (.cons (.ev rfl rfl) (.cons (.ev rfl rfl) .nil))) (eqf_ok l hl) rfl TF.en52 rfl (fun r hr => ?_)
 obtain rfl := hr
 refine r_assign rfl rfl ?_
 refine awl_nil ?_
 refine x_then ?_
 refine awp_ret ?_
 exact ⟨(.inl rfl), _, [], (.one (by first | exact .mk rfl rfl | exact .nil rfl)), ⟨rfl, rfl⟩, (List.nil_sublist _), (by simp)⟩
end Go.Proofs.YtcbhhjahjnlfhaaDoor.A
namespace Go.Proofs.YtcbhhjahjnlfhaaDoor.A
open Go Go.RowKit
set_option linter.unusedVariables false
set_option linter.unusedSimpArgs false
set_option maxRecDepth 100000
theorem TG.en8 : entersT Tryd.prog 8 := enters_of Tryd.func8 (by kernel_rfl) (by kernel_rfl)
theorem TG.en19 : entersT Tryd.prog 19 := enters_of Tryd.func19 (by kernel_rfl) (by kernel_rfl)
theorem TG.en18 : entersT Tryd.prog 18 := enters_of Tryd.func18 (by kernel_rfl) (by kernel_rfl)
theorem TG.sl57 : sliceT Tryd.prog 57 = some 70 := by kernel_rfl
theorem TG.sz70 : szT Tryd.prog 70 = some 4 := by kernel_rfl
theorem TG.en17 : entersT Tryd.prog 17 := enters_of Tryd.func17 (by kernel_rfl) (by kernel_rfl)
end Go.Proofs.YtcbhhjahjnlfhaaDoor.A
namespace Go.Proofs.YtcbhhjahjnlfhaaDoor.A
open Go Go.RowKit
set_option linter.unusedVariables false
set_option linter.unusedSimpArgs false
set_option linter.unusedSectionVars false
variable {P : Program} {w0 : Base} {C0 C : CS} {T : TS} {S S' : AState} {a : Act} {w : World} {ops : Array Oper} {rest : List Oper} {o : Oper} {Q : Exit → AState → Prop}
variable {t : Nat} {ty ty' : TypeId} {pos : String} {aft : Array Edge} {rn : Option Nat}
def cellsOf : AObj → Nat → Option Value
  | .buf _ l _ _ => fun o => match l.flatten[o]? with | some (.v x) => some x | _ => none
  | .box cs => fun o => match cs[o]? with | some (.v x) => if x.oneCell' = true then some x else none | _ => none
  | .priv p => p
  | _ => fun _ => none
def CO : List OE → CS
  | [] => fun _ _ => none
  | e :: r => fun b o => if e.b = b then cellsOf e.o o else CO r b o
theorem co_mem {O : List OE} {b o : Nat} {v : Value} (h : CO O b o = some v) : ∃ e ∈ O, e.b = b ∧ cellsOf e.o o = some v := by
  induction O with
  | nil => cases h
  | cons e r ih =>
    simp only [CO] at h
    split at h
    · rename_i hb; exact ⟨e, List.mem_cons_self, hb, h⟩
    · obtain ⟨e', h1, h2⟩ := ih h; exact ⟨e', List.mem_cons_of_mem _ h1, h2⟩
end Go.Proofs.YtcbhhjahjnlfhaaDoor.A
namespace Go.Proofs.YtcbhhjahjnlfhaaDoor.A
open Go Go.RowKit
set_option linter.unusedVariables false
set_option linter.unusedSimpArgs false
set_option linter.unusedSectionVars false
variable {P : Program} {w0 : Base} {C0 C : CS} {T : TS} {S S' : AState} {a : Act} {w : World} {ops : Array Oper} {rest : List Oper} {o : Oper} {Q : Exit → AState → Prop}
variable {t : Nat} {ty ty' : TypeId} {pos : String} {aft : Array Edge} {rn : Option Nat}
def RawAt (e : OE) (w : World) : Prop := ∃ (xs : List Value) (t : TypeId), e.o = .box (xs.map AV.v) ∧ w.heap[e.b]? = some (.cells xs.toArray t (0, 0))
theorem RawAt.rel {e : OE} (h : RawAt e w) : ObjRel C e.b e.o w := by
  obtain ⟨xs, t, h1, h2⟩ := h
  rw [h1]; exact ⟨xs.toArray, t, h2, by simpa using rels_vs xs⟩
def CX (O : List OE) (C : CS) : CS := fun b o => match C b o with | some v => some v | none => CO O b o
theorem cx_l {O : List OE} {b o : Nat} {v : Value} (h : C b o = some v) : CX O C b o = some v := by simp [CX, h]
theorem cx_r {O : List OE} {b o : Nat} {v : Value} (h0 : C b o = none) (h : CO O b o = some v) : CX O C b o = some v := by simp [CX, h0, h]
theorem rel_cx {O : List OE} (hn : ∀ e ∈ O, ∀ o, C e.b o = none) {c : AV} {v : Value} (h : Rel (CO O) c v) : Rel (CX O C) c v :=
  h.mono (fun b o u hu => by obtain ⟨e, he, rfl, _⟩ := co_mem hu; exact cx_r (hn e he o) hu)
inductive ArgX (O : List OE) (S : AState) : Operand → AV → Prop where
  | arg {x : Operand} {c : AV} (h : Arg S x c) : ArgX O S x c
  | raw {x : Operand} {c : AV} {v : Value} (h : S.ev x = some (.a (.v v))) (hr : Rel (CO O) c v) : ArgX O S x c
inductive ArgsX (O : List OE) (S : AState) : List Operand → List AV → Prop where
  | nil : ArgsX O S [] []
  | cons {x : Operand} {c : AV} {xs : List Operand} {cs : List AV} (h : ArgX O S x c) (r : ArgsX O S xs cs) : ArgsX O S (x :: xs) (c :: cs)
theorem ArgsX.rels (h : SimC w0 C0 C T S a w) {O : List OE} (hn : ∀ e ∈ O, ∀ o, C e.b o = none) {xs : List Operand} {cs : List AV} (hx : ArgsX O S xs cs) : Rels (CX O C) cs (xs.map a.eval) := by
  induction hx with
  | nil => exact Rels.nil
  | cons h1 _ ih =>
    refine Rels.cons ?_ ih
    cases h1 with
    | arg g => exact (g.rel h).mono (fun b o v hv => cx_l hv)
    | raw g hr => rw [h.evv g]; exact rel_cx hn hr
end Go.Proofs.YtcbhhjahjnlfhaaDoor.A
namespace Go.Proofs.YtcbhhjahjnlfhaaDoor.A
open Go Go.RowKit
set_option linter.unusedVariables false
set_option linter.unusedSimpArgs false
set_option linter.unusedSectionVars false
variable {P : Program} {w0 : Base} {C0 C : CS} {T : TS} {S S' : AState} {a : Act} {w : World} {ops : Array Oper} {rest : List Oper} {o : Oper} {Q : Exit → AState → Prop}
variable {t : Nat} {ty ty' : TypeId} {pos : String} {aft : Array Edge} {rn : Option Nat}
def GrowB (sz : Nat) (l : List (List AV)) (r : AV) (n : List OE) : Prop :=
  (l = [] ∧ r = .v (.slice none 0 0) ∧ n = []) ∨ ∃ g cap e, r = .v (.slice (some ⟨g, 0, none⟩) l.length cap) ∧ n = [⟨g, true, .buf sz l cap e⟩]
def ObjLe (o o' : AObj) : Prop := ∀ (C : CS) (b : Nat) (w : World), ObjRel C b o w → ObjRel C b o' w
theorem AC.le {f : FuncId} {args : List AV} {objs objs' : List OE} {R : AV → List OE → Prop} (h : AC P f args objs' R) (hb : objs'.map (·.b) = objs.map (·.b)) (hle : ∀ (i : Nat) (e e' : OE), objs[i]? = some e → objs'[i]? = some e' → ObjLe e.o e'.o) : AC P f args objs R := by
  intro C w vals h1 h2 h3
  refine h C w vals h1 h2 ⟨fun e' he' => ?_, ?_⟩
  · obtain ⟨i, hi⟩ := List.getElem?_of_mem he'
    have hbi : (objs'.map (·.b))[i]? = (objs.map (·.b))[i]? := by rw [hb]
    rw [List.getElem?_map, List.getElem?_map, hi] at hbi
    cases hoi : objs[i]? with
    | none => rw [hoi] at hbi; cases hbi
    | some e =>
      rw [hoi] at hbi
      have hbe : e'.b = e.b := by simpa using hbi
      obtain ⟨g1, g2⟩ := h3.1 e (List.mem_of_getElem? hoi)
      rw [hbe]; exact ⟨hle i e e' hoi hi C e.b w g1, g2⟩
  · exact List.pairwise_map.1 (hb ▸ List.pairwise_map.2 h3.2)
def OwnCell (O : List OE) (c : AV) (u : Value) : Prop :=
  (∃ x, c = .v x ∧ u = x) ∨ ∃ (d : List UInt8) (A : Option Addr) (cap : Nat), c = .sl 1 (u8s d) ∧ u = .slice A d.length cap ∧ d.length ≤ cap ∧
    (d ≠ [] → ∃ b o ys, A = some ⟨b, o, none⟩ ∧ (⟨b, true, .box (List.map AV.v ys)⟩ : OE) ∈ O ∧ ∀ (k : Nat) (x : UInt8), d[k]? = some x → ys[o + k]? = some (.int .u8 x.toNat))
theorem OwnCell.mono {O O' : List OE} (hO : ∀ e ∈ O, e ∈ O') {c : AV} {u : Value} (h : OwnCell O c u) : OwnCell O' c u := by
  rcases h with h | ⟨d, A, cap, h1, h2, h3, h4⟩
  · exact .inl h
  · exact .inr ⟨d, A, cap, h1, h2, h3, fun hd => let ⟨b, o, ys, g1, g2, g3⟩ := h4 hd; ⟨b, o, ys, g1, hO _ g2, g3⟩⟩
end Go.Proofs.YtcbhhjahjnlfhaaDoor.A
namespace Go.Proofs.YtcbhhjahjnlfhaaDoor.A
open Go Go.RowKit
set_option linter.unusedVariables false
set_option linter.unusedSimpArgs false
set_option linter.unusedSectionVars false
variable {P : Program} {w0 : Base} {C0 C : CS} {T : TS} {S S' : AState} {a : Act} {w : World} {ops : Array Oper} {rest : List Oper} {o : Oper} {Q : Exit → AState → Prop}
variable {t : Nat} {ty ty' : TypeId} {pos : String} {aft : Array Edge} {rn : Option Nat}
def nbA : AV → Bool
  | .v v => noU8 v
  | .agg _ => false
  | _ => true
theorem nbA_val {c : AV} {u : Value} (h : Rel C c u) (hn : nbA c = true) : noU8 u = true := by
  cases h with
  | v x => exact hn
  | agg _ _ _ _ => cases hn
  | hi h hs hv => obtain ⟨A, n, c, rfl⟩ := hs; rfl
  | _ => rfl
def dropC (C : CS) (g : Nat) : CS := fun b o => if b = g then none else C b o
def KeepB (r : AV) : Prop := ∀ (C : CS) (v : Value) (g : Nat), Rel C r v → (∀ o u, C g o = some u → noU8 u = true) → Rel (dropC C g) r v
theorem keep_v (x : Value) : KeepB (.v x) := fun C v g h _ => by cases h; exact .v _
theorem keep_rows {sz : Nat} {l : List (List AV)} (hl : ∀ cs ∈ l, ∀ c ∈ cs, ∃ n, c = AV.v (.int .u8 n)) : KeepB (.sl sz l) := by
  intro C v g h hg
  obtain ⟨A, cap, b, o, rfl, h1, h2, h3⟩ := rel_sl_inv h
  refine rel_sl_mk b o rfl h1 h2 ⟨h3.1, fun i cs j c hi hj => ?_⟩
  obtain ⟨u, hu, hr⟩ := h3.2 i cs j c hi hj
  obtain ⟨n, rfl⟩ := hl cs (List.mem_of_getElem? hi) c (List.mem_of_getElem? hj)
  cases hr
  refine ⟨_, ?_, .v _⟩
  have hne : b ≠ g := fun e => by subst e; have := hg _ _ hu; cases this
  simp only [dropC, hne, if_false]; exact hu
theorem keep_tup {x y : AV} (hx : KeepB x) (hy : KeepB y) : KeepB (.tup [x, y]) := by
  intro C v g h hg
  cases h with
  | tup u hn hC hR =>
    obtain ⟨v0, vs, h1, h2, h3⟩ := (rel_tup.1 (.tup u hn hC hR)).cons_inv
    obtain ⟨v1, vs', rfl, h4, h5⟩ := h3.cons_inv
    obtain rfl := h5.nil_inv
    exact rel_tup.2 (by rw [h1]; exact Rels.cons (hx C v0 g h2 hg) (Rels.cons (hy C v1 g h4 hg) Rels.nil))
def Lent (C : CS) (g : Nat) (cs : List AV) : Prop := ∀ j c, cs[j]? = some c → ∃ u, C g j = some u ∧ Rel C c u
theorem lent_sl {g n cap sz : Nat} {cs ext : List AV} {l : List (List AV)} (h : Lent C g cs) (hcs : cs = l.flatten ++ ext) (hn : n = l.length) (hcap : n ≤ cap) (hz : ∀ c, c ∈ l → c.length = sz) : Rel C (.sl sz l) (.slice (some ⟨g, 0, none⟩) n cap) := by
  subst hcs
  refine rel_sl_mk g 0 hn hcap (fun _ => rfl) ⟨hz, fun i c j x hi hj => ?_⟩
  have h1 := flat_get hz hi hj
  have hlt := (List.getElem?_eq_some_iff.1 h1).1
  obtain ⟨u, hu, hr⟩ := h (i * sz + j) x (by rw [List.getElem?_append_left hlt]; exact h1)
  exact ⟨u, by rw [Nat.zero_add]; exact hu, hr⟩
theorem r_callT (hq : w0.q = false) (Cs : CS) (hcs : CsOk Cs w0 C0) (i : Nat) {g : Nat} {rw' : Bool} {cs ext : List AV} (hi : S.objs[i]? = some ⟨g, rw', .box (cs ++ ext)⟩) (hone : cs.all AV.one = true) (hnb : cs.all nbA = true)
    {x : Operand} {xs : List Operand} {xa : Array Operand} {tys : Array TypeId} {f : FuncId} {args : List AV} {R : AV → List OE → Prop} (hx : S.ev x = some (.a (.fn f []))) (hxa : xa = xs.toArray)
    (hargs : ∀ (C C1 : CS) (T : TS) (a : Act) (w : World), SimC w0 C0 C T S a w → (∀ b o v, C b o = some v → C1 b o = some v) → Lent C1 g cs → Rels C1 args (xs.map a.eval))
    (hc : AWC Cs P f args [] [] R) (hen : entersT P f) (ht : Nat.blt t S.nt = true) (hk : ∀ r n, R r n → KeepB r)
    (hr : ∀ r n, R r n → AWL P w0 C0 ops rest Q (S.put t (.a r))) :
    AWL P w0 C0 ops (⟨some t, .call ⟨.value x, xa, tys⟩, ty, pos, aft, none⟩ :: rest) Q S := by
  rintro a w ⟨C, T, hs⟩
  subst hxa
  have hf := hs.ev hx
  generalize hv : a.eval x = u at hf
  obtain ⟨arr0, rfl⟩ : ∃ arr, u = .func (.func f) #[] arr := by cases hf; exact ⟨_, rfl⟩
  have hcaps := (rel_fn.1 hf).nil_inv
  obtain rfl : arr0 = #[] := by simpa using hcaps
  obtain ⟨⟨arr, t0, g1, g0⟩, hno, _⟩ := hs.objs _ (mem_of_get hi)
  obtain ⟨al, hal⟩ : ∃ al, al = arr.toList.take cs.length := ⟨_, rfl⟩
  have halj : ∀ j v, al[j]? = some v → arr.toList[j]? = some v := fun j v h => by
    rw [hal, List.getElem?_take] at h
    split at h
    · exact h
    · cases h
  have g2 : Rels C cs al := by
    refine ⟨by rw [hal, List.length_take]; have := g0.1; simp at this ⊢; omega, fun j c u hj hu => g0.2 j c u ?_ (halj j u hu)⟩
    rw [List.getElem?_append_left (List.getElem?_eq_some_iff.1 hj).1]; exact hj
  have hgl : g < w.heap.size := (Array.getElem?_eq_some_iff.1 g1).1
  have hmono := CS.add_mono (C := C) (b := g) (o := 0) (vs := al) (fun j _ => hno _)
  have hlent : Lent (C.add g 0 al) g cs := fun j c hj => by
    obtain ⟨u, hu, hr⟩ := g2.get hj
    exact ⟨u, by have := CS.add_at (C := C) (b := g) (o := 0) hu; rwa [Nat.zero_add] at this, hr.mono hmono⟩
  have hcom : Com (C.add g 0 al) w := by
    refine ⟨fun b o v hc => ?_, fun b o v hc => ?_⟩
    · rcases CS.add_cases hc with ⟨rfl, j, rfl, hj⟩ | hc'
      · refine ⟨?_, fun _ _ => ⟨arr, t0, g1⟩⟩
        rw [cell_of_row w _ _ arr t0 (0, 0) g1, Nat.zero_add]; simpa using halj j _ hj
      · exact hs.com _ _ _ hc'
    · rcases CS.add_cases hc with ⟨rfl, j, rfl, hj⟩ | hc'
      · exact g2.ones hone _ (List.mem_of_getElem? hj)
      · exact hs.one _ _ _ hc'
  have hrels := hargs C _ T a w hs hmono hlent
  have hrun : (execOp a.eval ⟨some t, .call ⟨.value x, xs.toArray, tys⟩, ty, pos, aft, none⟩).run P w = .ok (.enter f (xs.map a.eval).toArray) w := by
    have : (xs.map a.eval).toArray = (xs.map a.eval).toArray ++ #[] := by simp
    rw [this]
    simp [execOp, resolve, invoke, hv, Deferred.ofValue, hen (xs.map a.eval).toArray w]
  refine wpList_plain rfl (fun K hK => ?_)
  unfold Oper.wp
  rw [hrun]
  refine (hc (C.add g 0 al) w (xs.map a.eval).toArray (fun b o v hc => hmono _ _ _ (by obtain ⟨h1, h2, h3⟩ := hcs b o v hc; rw [hs.old b o h2 h3]; exact h1)) hcom (by simpa using hrels) ⟨by simp, by simp⟩).mono ?_
  rintro e w' ⟨v, C', r, nobjs, rfl, hR, hb, hC, hcom', hrel, hn, hnb'⟩
  have hb' : Below w.heap.size w w' := ⟨hb.os, hb.tape, hb.output, hb.size, fun k hk => hb.block k hk wb_nil⟩
  have hdrop : ∀ b o, b < w.heap.size → dropC C' g b o = C b o := fun b o hbl => by
    by_cases e : b = g
    · subst e; simp only [dropC, if_true]; exact (hno o).symm
    · simp only [dropC, e, if_false]; rw [hC b o hbl wb_nil, CS.add_other e]
  have hcom2 : Com (dropC C' g) w' := by
    refine ⟨fun b o v hc => ?_, fun b o v hc => ?_⟩ <;> (simp only [dropC] at hc; split at hc)
    · cases hc
    · exact hcom'.1 _ _ _ hc
    · cases hc
    · exact hcom'.2 _ _ _ hc
  have hgb : ∀ o u, C' g o = some u → noU8 u = true := fun o u hu => by
    rw [hC g o hgl wb_nil] at hu
    rcases CS.add_cases hu with ⟨_, j, rfl, hj⟩ | hc'
    · have hjl : j < cs.length := by have := (List.getElem?_eq_some_iff.1 hj).1; have := g2.1; omega
      exact nbA_val (g2.2 j cs[j] u (List.getElem?_eq_getElem hjl) hj) (List.all_eq_true.1 hnb _ (List.getElem_mem hjl))
    · rw [hno o] at hc'; cases hc'
  have hrel2 := hk r nobjs hR C' v g hrel hgb
  exact hK _ _ (hr r nobjs hR _ _ ⟨dropC C' g, T, by
    have := (hs.called (nobjs := []) hb' (fun h => by rw [hq] at h; cases h) hdrop hcom2 ⟨by simp, by simp⟩ (by simp)).put ht (x := .a r) hrel2
    exact this⟩)
theorem r_cat {xt yt : TypeId} {x y : Operand} {i j : ByteArray} (hx : S.ev x = some (.a (.v (.string i)))) (hy : S.ev y = some (.a (.v (.string j)))) (hsz : i.size + j.size ≤ 9223372036854775807)
    (ht : Nat.blt t S.nt = true) (hr : AWL P w0 C0 ops rest Q (S.put t (.a (.v (.string (i ++ j)))))) :
    AWL P w0 C0 ops (⟨some t, .binOp .add xt x y yt, ty, pos, aft, none⟩ :: rest) Q S :=
  awl_pure ht (fun C T a w hs => ⟨.string (i ++ j), by
    simp [execOp, hs.evv hx, hs.evv hy, eqGuard, binOp, run_string_add_sum w i j hsz], srel_v _⟩) hr
end Go.Proofs.YtcbhhjahjnlfhaaDoor.A

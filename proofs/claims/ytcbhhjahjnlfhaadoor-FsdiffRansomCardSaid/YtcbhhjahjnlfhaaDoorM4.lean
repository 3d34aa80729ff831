import Derived.WalkKit
import Derived.Below
import Derived.Laws.Rows
import Derived.Laws.CopyRow
import Derived.Laws.AppendOwn
import Derived.RangeFuncLeaves
import Derived.RangeFuncSeq
import Derived.RangeFuncCalls
import Derived.MapKept
import Derived.Orders
import Derived.Laws.IdiomStrings
import Derived.Laws.BytesArg
import Derived.Shelf.SlIter.Nil
import Derived.Shelf.SortM.Plain
import Derived.Shelf.SortM.SortNone
import Derived.Ground.GgzProg
import Derived.Ground.SlgmProg
import Derived.Test.YtcbhhjahjnlfhaaDoorProg
import Derived.KernelRfl
import Derived.RangeFuncBound
import Derived.Maps.RangeRun
import Derived.DeepKeys3
import Derived.Laws.StructEq
import Derived.Shelf.SlSortCmp.NoneTotal
import Derived.ChangeKeysEq
import Derived.Laws.MakeOwn
import Derived.ChangeArms
import Derived.ChangeOld
import Derived.Laws.DeepStrings4
import Derived.OpenShut
import Derived.OrdersIn
import Derived.Lib.AppendZeros
import Derived.Lib.AppendZerosOnto
import Derived.Lib.Overlaps
import Derived.Deep.AppendSrc
import Derived.Lib.BytesEntry
import Derived.Laws.Concat
import Derived.Laws.Strings3
import Derived.Test.YtcbhhjahjnlfhaaDoorRows
import Derived.ProofKit
import Derived.LaidMore
import Derived.Stop.Joined
import Derived.Test.YtcbhhjahjnlfhaaDoorM3
namespace Go.Proofs.YtcbhhjahjnlfhaaDoor.A
open Go Go.RowKit
set_option linter.unusedVariables false
set_option linter.unusedSimpArgs false
set_option maxRecDepth 100000
theorem TF.sl22 : sliceT Tryd.prog 22 = some 5 := by kernel_rfl
theorem TF.sz5 : szT Tryd.prog 5 = some 1 := by kernel_rfl
theorem TF.zraw5 : zeroT Tryd.prog 5 = some [(.int .u8 0)] := by kernel_rfl
theorem TF.by5 : bytesT Tryd.prog 5 = some 1 := by kernel_rfl
theorem TF.zlen5 : (zeroT Tryd.prog 5).map (·.length) = some 1 := by kernel_rfl
theorem TF.un5 : Tryd.prog.underlying 5 = some (.int .u8) := by kernel_rfl
theorem TF.un9 : Tryd.prog.underlying 9 = some .string := by kernel_rfl
theorem TF.sl24 : sliceT Tryd.prog 24 = some 26 := by kernel_rfl
theorem TF.sz26 : szT Tryd.prog 26 = some 2 := by kernel_rfl
theorem TF.agg26 : aggT Tryd.prog 26 = some true := by kernel_rfl
theorem TF.zero26 : ZeroT Tryd.prog 26 [.v (.string ⟨#[]⟩), .sl 1 []] := ⟨[(.string ⟨#[]⟩), (.slice none 0 0)], by kernel_rfl, (.cons (.refl _) (.cons (.nil 1) .nil))⟩
theorem TF.f26_0 : fieldT Tryd.prog 26 0 = some (0, 9) := by kernel_rfl
theorem TF.map109 : mapT Tryd.prog 109 = some (9, 22) := by kernel_rfl
theorem TF.f26_1 : fieldT Tryd.prog 26 1 = some (1, 22) := by kernel_rfl
theorem TF.sz22 : szT Tryd.prog 22 = some 1 := by kernel_rfl
theorem TF.agg22 : aggT Tryd.prog 22 = some false := by kernel_rfl
theorem TF.en47 : entersT Tryd.prog 47 := enters_of Tryd.func47 (by kernel_rfl) (by kernel_rfl)
theorem TF.en86 : entersT Tryd.prog 86 := enters_of Tryd.func86 (by kernel_rfl) (by kernel_rfl)
theorem TF.en81 : entersT Tryd.prog 81 := enters_of Tryd.func81 (by kernel_rfl) (by kernel_rfl)
theorem TF.agg109 : aggT Tryd.prog 109 = some false := by kernel_rfl
theorem TF.en85 : entersT Tryd.prog 85 := enters_of Tryd.func85 (by kernel_rfl) (by kernel_rfl)
theorem TF.en59 : entersT Tryd.prog 59 := enters_of Tryd.func59 (by kernel_rfl) (by kernel_rfl)
theorem TF.en84 : entersT Tryd.prog 84 := enters_of Tryd.func84 (by kernel_rfl) (by kernel_rfl)
theorem TF.en35 : entersT Tryd.prog 35 := enters_of Tryd.func35 (by kernel_rfl) (by kernel_rfl)
theorem ba_mk (a b : List UInt8) : decide ((⟨a.toArray⟩ : ByteArray) = ⟨b.toArray⟩) = decide (a = b) := by simp
theorem u8s_len (l : List UInt8) : (u8s l).length = l.length := by simp [u8s]
theorem clone_ok (l : List UInt8) (hl : l.length ≤ 1000000) : AC Tryd.prog 47 [bts l] [] (fun r n => n = [] ∧ r = bts l) := by
 refine ac_of_awp (rs := [2]) (nt := 8) Tryd.func47 rfl rfl rfl rfl (fun w0 C0 hq => ?_)
 refine awp_seq ?_
 refine awp_region ?_
 refine r_assign rfl rfl ?_
 refine awl_nil ?_
 refine x_then ?_
 refine awp_seq ?_
 refine awp_seq ?_
 refine awp_region ?_
 refine r_move rfl rfl ?_
 refine r_slnil rfl rfl TF.sl22 rfl (fun b4 hb4 => ?_)
 refine awl_nil ?_
 refine x_then ?_
 refine awp_cond rfl (fun hc0 => ?_) (fun hc0 => ?_)
 ·
  obtain rfl : l = [] := by simpa [u8s] using hb4 hc0
  refine awp_seq ?_
  refine awp_region ?_
  refine r_assign rfl rfl ?_
  refine awl_nil ?_
  refine x_then ?_
  refine awp_ret ?_
  refine x_thenR ?_
  exact ⟨(.inl rfl), _, [], (.one (by first | exact .mk rfl rfl | exact .nil rfl)), ⟨rfl, rfl⟩, (List.nil_sublist _), (by simp)⟩
 ·
  refine awp_skip ?_
  refine x_then ?_
  refine awp_seq ?_
  refine awp_region ?_
  refine r_lit 5 (parts := []) rfl TF.sl22 TF.sz5 TF.zraw5 rfl rfl rfl rfl rfl rfl rfl ?_
  refine r_move rfl rfl ?_
  refine r_append 5 rfl (by first | exact .own _ | exact .nil) rfl (by first | exact .sl _ | exact .own _ _ | exact .nil) TF.sl22 TF.sz5 (by decide) TF.by5 TF.zlen5 (by simp [chunks, u8s]; omega) (by simp [chunks, u8s]; omega) rfl ?_
  refine r_assign rfl rfl ?_
  refine awl_nil ?_
  refine x_then ?_
  refine awp_ret ?_
  exact ⟨(.inl rfl), _, [], (.one (by first | exact .mk rfl rfl | exact .nil rfl)), ⟨rfl, by first | rfl | simp [chunks, bts, SV.av]⟩, (List.nil_sublist _), (by simp)⟩
theorem sclone_ok (l : List UInt8) (hl : l.length ≤ 1000000) : AC Tryd.prog 79 [bts l] [] (fun r n => n = [] ∧ r = bts l) := by
 refine ac_of_awp (rs := [2]) (nt := 8) Tryd.func79 rfl rfl rfl rfl (fun w0 C0 hq => ?_)
 refine awp_seq ?_
 refine awp_region ?_
 refine r_assign rfl rfl ?_
 refine awl_nil ?_
 refine x_then ?_
 refine awp_seq ?_
 refine awp_seq ?_
 refine awp_region ?_
 refine r_move rfl rfl ?_
 refine r_slnil rfl rfl TF.sl22 rfl (fun b4 hb4 => ?_)
 refine awl_nil ?_
 refine x_then ?_
 refine awp_cond rfl (fun hc0 => ?_) (fun hc0 => ?_)
 ·
  obtain rfl : l = [] := by simpa [u8s] using hb4 hc0
  refine awp_seq ?_
  refine awp_region ?_
  refine r_assign rfl rfl ?_
  refine awl_nil ?_
  refine x_then ?_
  refine awp_ret ?_
  refine x_thenR ?_
  exact ⟨(.inl rfl), _, [], (.one (by first | exact .mk rfl rfl | exact .nil rfl)), ⟨rfl, rfl⟩, (List.nil_sublist _), (by simp)⟩
 ·
  refine awp_skip ?_
  refine x_then ?_
  refine awp_seq ?_
  refine awp_region ?_
  refine r_lit 5 (parts := []) rfl TF.sl22 TF.sz5 TF.zraw5 rfl rfl rfl rfl rfl rfl rfl ?_
  refine r_move rfl rfl ?_
  refine r_append 5 rfl (by first | exact .own _ | exact .nil) rfl (by first | exact .sl _ | exact .own _ _ | exact .nil) TF.sl22 TF.sz5 (by decide) TF.by5 TF.zlen5 (by simp [chunks, u8s]; omega) (by simp [chunks, u8s]; omega) rfl ?_
  refine r_assign rfl rfl ?_
  refine awl_nil ?_
  refine x_then ?_
  refine awp_ret ?_
  exact ⟨(.inl rfl), _, [], (.one (by first | exact .mk rfl rfl | exact .nil rfl)), ⟨rfl, by first | rfl | simp [chunks, bts, SV.av]⟩, (List.nil_sublist _), (by simp)⟩
theorem equal_ok (a b : List UInt8) : AC Tryd.prog 35 [bts a, bts b] [] (fun r n => n = [] ∧ r = boolA (decide (a = b))) := by
 refine ac_of_awp (rs := [4]) (nt := 10) Tryd.func35 rfl rfl rfl rfl (fun w0 C0 hq => ?_)
 refine awp_seq ?_
 refine awp_region ?_
 refine r_assign rfl rfl ?_
 refine awl_nil ?_
 refine x_then ?_
 refine awp_seq ?_
 refine awp_region ?_
 refine r_move rfl rfl ?_
 refine r_convBS a rfl rfl TF.sl22 TF.un5 TF.un9 rfl ?_
 refine r_move rfl rfl ?_
 refine r_convBS b rfl rfl TF.sl22 TF.un5 TF.un9 rfl ?_
 refine r_str2 rfl rfl rfl rfl ?_
 refine r_assign rfl rfl ?_
 refine awl_nil ?_
 refine x_then ?_
 refine awp_ret ?_
 exact ⟨(.inl rfl), _, [], (.one (by first | exact .mk rfl rfl | exact .nil rfl)), ⟨rfl, by rw [← ba_mk]; rfl⟩, (List.nil_sublist _), (by simp)⟩
theorem named_ok (l : List File) (hl : l.length ≤ 1000000) (hda : ∀ f ∈ l, f.data.length ≤ 1000000) : AC Tryd.prog 54 [files l] [] (fun r n => ∃ b m, r = .v (.map (some b)) ∧ n = [⟨b, true, .map (encM Value.string bts m)⟩] ∧ TellsS m l) := by
 refine ac_of_awp (rs := [2]) (nt := 32) Tryd.func54 rfl rfl rfl rfl (fun w0 C0 hq => ?_)
 refine awp_seq ?_
 refine awp_region ?_
 refine r_assign rfl rfl ?_
 refine awl_nil ?_
 refine x_then ?_
 refine awp_seq ?_
 refine awp_region ?_
 refine r_makeMap (ek := Value.string) (ev := bts) [] rfl rfl (fun b8 => ?_)
 refine r_assign rfl rfl ?_
 refine awl_nil ?_
 refine x_then ?_
 refine awp_seq ?_
 refine awp_seq ?_
 refine awp_region ?_
 refine r_move rfl rfl ?_
 refine r_lenS rfl rfl TF.sl24 rfl ?_
 refine r_move rfl rfl ?_
 refine awl_nil ?_
 refine x_then ?_
 refine awp_block ?_
 refine awp_loop (fun nn0 S => ∃ k : Nat, ∃ m : List (ByteArray × List UInt8), S = ⟨32, [(3, .a (.v (.map (some b8)))), (9, .a (files l)), (10, .a (.v (.int .i64 ((l.map File.cs).length)))), (11, .a (.v (.int .i64 ((k : Int)))))], [⟨b8, true, .map (encM Value.string bts m)⟩]⟩ ∧ nn0 = l.length - k ∧ (k ≤ l.length) ∧ (TellsS m (l.take k))) (l.length - (0)) ⟨32, [(3, .a (.v (.map (some b8)))), (9, .a (files l)), (10, .a (.v (.int .i64 ((l.map File.cs).length)))), (11, .a (.v (.int .i64 (((0) : Int)))))], [⟨b8, true, .map (encM Value.string bts ([]))⟩]⟩ ⟨rfl, (Slots.cons rfl (by first | exact .refl _ | exact .nilOwn _ _ | exact .nilSl _ | exact .ownSl _ _ _  | exact SV.le.of_eq (by simp)) (Slots.cons rfl (by first | exact .refl _ | exact .nilOwn _ _ | exact .nilSl _ | exact .ownSl _ _ _  | exact SV.le.of_eq (by simp)) (Slots.cons rfl (by first | exact .refl _ | exact .nilOwn _ _ | exact .nilSl _ | exact .ownSl _ _ _  | exact SV.le.of_eq (by simp)) (Slots.cons rfl (by first | exact .refl _ | exact .nilOwn _ _ | exact .nilSl _ | exact .ownSl _ _ _  | exact SV.le.of_eq (by simp)) Slots.nil)))), (by first | exact List.Sublist.refl _ | exact .cons_cons _ (.cons _ (.refl _)) | exact List.nil_sublist _ | exact .cons _ (.refl _) | exact .cons _ (.cons _ (.refl _)) | exact .cons _ (.cons _ (.cons _ (.refl _))) | exact .cons _ (.cons _ (.cons _ (.cons _ (.refl _)))) | exact .cons_cons _ (List.nil_sublist _))⟩ ⟨0, [], rfl, rfl, Nat.zero_le _, tellsS_nil⟩ ?_
 rintro nn0 _ ⟨k, m, rfl, rfl, hk, ht⟩
 refine awp_seq ?_
 refine awp_region ?_
 refine r_cmp rfl rfl rfl rfl ?_
 refine awl_nil ?_
 refine x_then ?_
 refine awp_seq ?_
 refine awp_cond rfl (fun hc0 => ?_) (fun hc0 => ?_)
 ·
  have hltx : k < l.length := by have := of_decide_eq_true hc0; simpa using this
  obtain ⟨x, hx⟩ := get_lt hltx
  refine awp_skip ?_
  refine x_then ?_
  refine awp_seq ?_
  refine awp_block ?_
  refine awp_seq ?_
  refine awp_region ?_
  refine r_index rfl rfl rfl TF.sl24 TF.sz26 (by omega) (get_map hx) rfl ?_
  refine r_loadA rfl TF.agg26 TF.sz26 rfl rfl ?_
  refine r_alloc TF.zero26 rfl (fun b5 => ?_)
  refine r_store 0 rfl rfl rfl TF.sz26 rfl rfl rfl ?_
  refine awl_nil ?_
  refine x_then ?_
  refine awp_seq ?_
  refine awp_region ?_
  refine r_move rfl rfl ?_
  refine r_fieldb rfl TF.f26_0 TF.sz9 rfl ?_
  refine r_load1b 0 rfl rfl rfl TF.agg9 rfl ?_
  refine r_lookupOk 1 (keyEnc_string TF.un9) (ev := bts) [] rfl rfl rfl TF.map109 TF.zavS rfl ?_
  refine r_move rfl rfl ?_
  refine r_extract rfl rfl rfl ?_
  refine r_extract rfl rfl rfl ?_
  refine r_assign rfl rfl ?_
  refine r_assign rfl rfl ?_
  refine awl_nil ?_
  refine x_then ?_
  refine awp_seq ?_
  refine awp_region ?_
  refine r_move rfl rfl ?_
  refine r_not rfl rfl ?_
  refine awl_nil ?_
  refine x_then ?_
  refine awp_cond rfl (fun hc1 => ?_) (fun hc1 => ?_)
  ·
   have hg : (mget m x.name).isSome = false := by simpa using hc1
   refine awp_drawS [24, 25, 26, 27, 28, 29] [_, _, _, _, _, _] [] [] TF.mixed rfl rfl rfl ⟨⟨⟨⟨⟨⟨trivial
    , ⟨_, rfl, fun sl hd hr ho => by
      refine r_move (hr 3 _ rfl rfl rfl) rfl ?_
      exact awl_nil ⟨rfl, post_put⟩⟩⟩
    , ⟨_, rfl, fun sl hd hr ho => by
      refine r_fieldb (hr 5 _ rfl rfl rfl) TF.f26_0 TF.sz9 rfl ?_
      exact awl_nil ⟨rfl, post_put⟩⟩⟩
    , ⟨_, rfl, fun sl hd hr ho => by
      refine r_load1b 0 (hd 1 _ rfl rfl rfl) rfl rfl TF.agg9 rfl ?_
      exact awl_nil ⟨rfl, post_put⟩⟩⟩
    , ⟨_, rfl, fun sl hd hr ho => by
      refine r_fieldb (hr 5 _ rfl rfl rfl) TF.f26_1 TF.sz22 rfl ?_
      exact awl_nil ⟨rfl, post_put⟩⟩⟩
    , ⟨_, rfl, fun sl hd hr ho => by
      refine r_load1b 0 (hd 3 _ rfl rfl rfl) rfl rfl TF.agg22 rfl ?_
      exact awl_nil ⟨rfl, post_put⟩⟩⟩
    , ⟨_, rfl, fun sl hd hr ho => by
      refine r_call0 hq rfl rfl (.cons (.ev (hd 4 _ rfl rfl rfl) rfl) .nil) (clone_ok x.data (hda x (List.mem_of_getElem? hx))) rfl TF.en47 rfl (fun r hr => ?_)
      obtain rfl := hr
      exact awl_nil ⟨rfl, post_put⟩⟩⟩
    (by rfl) ?_
   refine r_mapUpdate 1 (keyEnc_string TF.un9) (ev := bts) x.data rfl rfl rfl rfl rfl TF.map109 ?_
   refine awl_nil ?_
   refine x_block ?_
   refine x_then ?_
   refine awp_region ?_
   refine r_ari _ rfl rfl rfl (wrap_id (by first | omega | (simp; omega))) rfl ?_
   refine r_move rfl rfl ?_
   refine awl_nil ?_
   refine x_then ?_
   refine ⟨l.length - (k + 1), ⟨32, [(3, .a (.v (.map (some b8)))), (9, .a (files l)), (10, .a (.v (.int .i64 ((l.map File.cs).length)))), (11, .a (.v (.int .i64 (((k + 1) : Int)))))], [⟨b8, true, .map (encM Value.string bts (mset m x.name x.data))⟩]⟩, ⟨rfl, (Slots.cons rfl (by first | exact .refl _ | exact .nilOwn _ _ | exact .nilSl _ | exact .ownSl _ _ _  | exact SV.le.of_eq (by simp)) (Slots.cons rfl (by first | exact .refl _ | exact .nilOwn _ _ | exact .nilSl _ | exact .ownSl _ _ _  | exact SV.le.of_eq (by simp)) (Slots.cons rfl (by first | exact .refl _ | exact .nilOwn _ _ | exact .nilSl _ | exact .ownSl _ _ _  | exact SV.le.of_eq (by simp)) (Slots.cons rfl (by first | exact .refl _ | exact .nilOwn _ _ | exact .nilSl _ | exact .ownSl _ _ _  | exact SV.le.of_eq (by simp)) Slots.nil)))), (by first | exact List.Sublist.refl _ | exact .cons_cons _ (.cons _ (.refl _)) | exact List.nil_sublist _ | exact .cons _ (.refl _) | exact .cons _ (.cons _ (.refl _)) | exact .cons _ (.cons _ (.cons _ (.refl _))) | exact .cons _ (.cons _ (.cons _ (.cons _ (.refl _)))) | exact .cons_cons _ (List.nil_sublist _))⟩, (by omega), ⟨k + 1, mset m x.name x.data, rfl, rfl, (by omega), (tellsS_new ht hx hg)⟩⟩
  ·
   have hg : (mget m x.name).isSome = true := by simpa using hc1
   refine awp_skip ?_
   refine x_block ?_
   refine x_then ?_
   refine awp_region ?_
   refine r_ari _ rfl rfl rfl (wrap_id (by first | omega | (simp; omega))) rfl ?_
   refine r_move rfl rfl ?_
   refine awl_nil ?_
   refine x_then ?_
   refine ⟨l.length - (k + 1), ⟨32, [(3, .a (.v (.map (some b8)))), (9, .a (files l)), (10, .a (.v (.int .i64 ((l.map File.cs).length)))), (11, .a (.v (.int .i64 (((k + 1) : Int)))))], [⟨b8, true, .map (encM Value.string bts (m))⟩]⟩, ⟨rfl, (Slots.cons rfl (by first | exact .refl _ | exact .nilOwn _ _ | exact .nilSl _ | exact .ownSl _ _ _  | exact SV.le.of_eq (by simp)) (Slots.cons rfl (by first | exact .refl _ | exact .nilOwn _ _ | exact .nilSl _ | exact .ownSl _ _ _  | exact SV.le.of_eq (by simp)) (Slots.cons rfl (by first | exact .refl _ | exact .nilOwn _ _ | exact .nilSl _ | exact .ownSl _ _ _  | exact SV.le.of_eq (by simp)) (Slots.cons rfl (by first | exact .refl _ | exact .nilOwn _ _ | exact .nilSl _ | exact .ownSl _ _ _  | exact SV.le.of_eq (by simp)) Slots.nil)))), (by first | exact List.Sublist.refl _ | exact .cons_cons _ (.cons _ (.refl _)) | exact List.nil_sublist _ | exact .cons _ (.refl _) | exact .cons _ (.cons _ (.refl _)) | exact .cons _ (.cons _ (.cons _ (.refl _))) | exact .cons _ (.cons _ (.cons _ (.cons _ (.refl _)))) | exact .cons_cons _ (List.nil_sublist _))⟩, (by omega), ⟨k + 1, m, rfl, rfl, (by omega), (tellsS_has ht hx hg)⟩⟩
 ·
  have hge : l.length ≤ k := by have := of_decide_eq_false hc0; simp at this; omega
  rw [List.take_of_length_le hge] at ht
  refine awp_exit ?_
  refine x_thenE ?_
  refine x_thenE ?_
  refine x_blockE ?_
  refine x_then ?_
  refine awp_seq ?_
  refine awp_region ?_
  refine r_move rfl rfl ?_
  refine r_assign rfl rfl ?_
  refine awl_nil ?_
  refine x_then ?_
  refine awp_ret ?_
  exact ⟨(.inl rfl), _, [⟨b8, true, .map (encM Value.string bts m)⟩], (.one (by first | exact .mk rfl rfl | exact .nil rfl)), ⟨b8, m, rfl, rfl, ht⟩, (by first | exact List.Sublist.refl _ | exact .cons_cons _ (.cons _ (.refl _)) | exact List.nil_sublist _ | exact .cons _ (.refl _) | exact .cons _ (.cons _ (.refl _)) | exact .cons _ (.cons _ (.cons _ (.refl _))) | exact .cons _ (.cons _ (.cons _ (.cons _ (.refl _)))) | exact .cons_cons _ (List.nil_sublist _)), (by simp)⟩
theorem order_ok (m : List (ByteArray × List UInt8)) (hnd : (m.map (·.1)).Nodup) (hsz : ∀ s ∈ m.map (·.1), s.size ≤ maxLen) (hlen : m.length ≤ 1000000) {b : Nat} {fl : Bool} : AC Tryd.prog 59 [.v (.map (some b))] [⟨b, fl, .map (encM Value.string bts m)⟩] (fun r n => n = [] ∧ r = strsA (sortB (m.map (·.1)))) := by
 refine ac_of_awp (rs := [2]) (nt := 6) Tryd.func59 rfl rfl rfl rfl (fun w0 C0 hq => ?_)
 refine awp_seq ?_
 refine awp_region ?_
 refine r_assign rfl rfl ?_
 refine awl_nil ?_
 refine x_then ?_
 refine awp_seq ?_
 refine awp_region ?_
 refine r_move rfl rfl ?_
 refine r_callO hq rfl rfl (.cons (.ev rfl rfl) .nil) (ac_keys keys86) rfl TF.en86 (by first | exact List.Sublist.refl _ | exact .cons_cons _ (.cons _ (.refl _)) | exact List.nil_sublist _ | exact .cons _ (.refl _) | exact .cons _ (.cons _ (.refl _)) | exact .cons _ (.cons _ (.cons _ (.refl _))) | exact .cons _ (.cons _ (.cons _ (.cons _ (.refl _)))) | exact .cons_cons _ (List.nil_sublist _)) rfl (fun r nobjs hr => ?_)
 obtain ⟨g, rfl, rfl⟩ := hr
 refine r_callO hq rfl rfl (.cons (.ev rfl rfl) .nil) (ac_sorted sorted81_86 TF.un9 (encM_keys (ek := Value.string) (ev := bts) m) hnd hsz (by rw [encM_len]; exact hlen)) rfl TF.en81 (by first | exact List.Sublist.refl _ | exact .cons_cons _ (.cons _ (.refl _)) | exact List.nil_sublist _ | exact .cons _ (.refl _) | exact .cons _ (.cons _ (.refl _)) | exact .cons _ (.cons _ (.cons _ (.refl _))) | exact .cons _ (.cons _ (.cons _ (.cons _ (.refl _)))) | exact .cons_cons _ (List.nil_sublist _)) rfl (fun r nobjs hr => ?_)
 obtain ⟨rfl, rfl⟩ := hr
 refine r_assign rfl rfl ?_
 refine awl_nil ?_
 refine x_then ?_
 refine awp_ret ?_
 exact ⟨(.inl rfl), _, [], (.one (by first | exact .mk rfl rfl | exact .nil rfl)), ⟨rfl, rfl⟩, (List.nil_sublist _), (by simp)⟩
theorem orderG_ok (m : List (ByteArray × List UInt8)) (hnd : (m.map (·.1)).Nodup) (hsz : ∀ s ∈ m.map (·.1), s.size ≤ maxLen) (hlen : m.length ≤ 1000000) {b : Nat} {fl : Bool} : AC Tryd.prog 59 [.v (.map (some b))] [⟨b, fl, .map (encM Value.string bts m)⟩] (GrowS (sortB (m.map (·.1)))) := by
 refine ac_of_awp (rs := [2]) (nt := 6) Tryd.func59 rfl rfl rfl rfl (fun w0 C0 hq => ?_)
 refine awp_seq ?_
 refine awp_region ?_
 refine r_assign rfl rfl ?_
 refine awl_nil ?_
 refine x_then ?_
 refine awp_seq ?_
 refine awp_region ?_
 refine r_move rfl rfl ?_
 refine r_callO hq rfl rfl (.cons (.ev rfl rfl) .nil) (ac_keys keys86) rfl TF.en86 (by first | exact List.Sublist.refl _ | exact .cons_cons _ (.cons _ (.refl _)) | exact List.nil_sublist _ | exact .cons _ (.refl _) | exact .cons _ (.cons _ (.refl _)) | exact .cons _ (.cons _ (.cons _ (.refl _))) | exact .cons _ (.cons _ (.cons _ (.cons _ (.refl _)))) | exact .cons_cons _ (List.nil_sublist _)) rfl (fun r nobjs hr => ?_)
 obtain ⟨g, rfl, rfl⟩ := hr
 refine r_callO hq rfl rfl (.cons (.ev rfl rfl) .nil) (ac_sortedG sorted81_86 TF.un9 (encM_keys (ek := Value.string) (ev := bts) m) hnd hsz (by rw [encM_len]; exact hlen)) rfl TF.en81 (by first | exact List.Sublist.refl _ | exact .cons_cons _ (.cons _ (.refl _)) | exact List.nil_sublist _ | exact .cons _ (.refl _) | exact .cons _ (.cons _ (.refl _)) | exact .cons _ (.cons _ (.cons _ (.refl _))) | exact .cons _ (.cons _ (.cons _ (.cons _ (.refl _)))) | exact .cons_cons _ (List.nil_sublist _)) rfl (fun r nobjs hr => ?_)
 rcases hr with ⟨h0, rfl, rfl⟩ | ⟨g2, cap, ext, hcap, rfl, rfl⟩
 ·
  refine r_assign rfl rfl ?_
  refine awl_nil ?_
  refine x_then ?_
  refine awp_ret ?_
  exact ⟨(.inl rfl), _, [], (.one (by first | exact .mk rfl rfl | exact .nil rfl)), (.inl ⟨h0, rfl, rfl⟩), (List.nil_sublist _), (by simp)⟩
 ·
  refine r_assign rfl rfl ?_
  refine awl_nil ?_
  refine x_then ?_
  refine awp_ret ?_
  exact ⟨(.inl rfl), _, [⟨g2, true, .box (strsC (sortB (m.map (·.1))) ++ ext)⟩], (.one (by first | exact .mk rfl rfl | exact .nil rfl)), (.inr ⟨g2, cap, ext, hcap, rfl, rfl⟩), (by first | exact List.Sublist.refl _ | exact .cons_cons _ (.cons _ (.refl _)) | exact List.nil_sublist _ | exact .cons _ (.refl _) | exact .cons _ (.cons _ (.refl _)) | exact .cons _ (.cons _ (.cons _ (.refl _))) | exact .cons _ (.cons _ (.cons _ (.cons _ (.refl _)))) | exact .cons_cons _ (List.nil_sublist _)), (by simp)⟩
theorem without1_ok (m : List (ByteArray × List UInt8)) (s : ByteArray) {b : Nat} {fl : Bool} : AC Tryd.prog 85 [.v (.string s), .cp [.v (.map (some b))]] [⟨b, fl, .map (encM Value.string bts m)⟩] (fun r n => n = [] ∧ r = boolA (mget m s).isSome) := by
 refine ac_of_awp (rs := [3]) (nt := 13) Tryd.func85 rfl rfl rfl rfl (fun w0 C0 hq => ?_)
 refine awp_seq ?_
 refine awp_region ?_
 refine r_assign rfl rfl ?_
 refine awl_nil ?_
 refine x_then ?_
 refine awp_seq ?_
 refine awp_region ?_
 refine r_load1 rfl TF.agg109 rfl ?_
 refine r_move rfl rfl ?_
 refine r_lookupOk 0 (keyEnc_string TF.un9) (ev := bts) [] rfl rfl rfl TF.map109 TF.zavS rfl ?_
 refine r_move rfl rfl ?_
 refine r_extract rfl rfl rfl ?_
 refine r_extract rfl rfl rfl ?_
 refine r_assign rfl rfl ?_
 refine r_assign rfl rfl ?_
 refine awl_nil ?_
 refine x_then ?_
 refine awp_seq ?_
 refine awp_region ?_
 refine r_move rfl rfl ?_
 refine r_assign rfl rfl ?_
 refine awl_nil ?_
 refine x_then ?_
 refine awp_ret ?_
 exact ⟨(.inl rfl), _, [], (.one (by first | exact .mk rfl rfl | exact .nil rfl)), ⟨rfl, rfl⟩, (List.nil_sublist _), (by simp)⟩
theorem withoutG_ok (ma mb : List (ByteArray × List UInt8)) (hnd : (ma.map (·.1)).Nodup) (hsz : ∀ s ∈ ma.map (·.1), s.size ≤ maxLen) (hlen : ma.length ≤ 1000000) {ba bb : Nat} {f1 f2 : Bool} : AC Tryd.prog 55 [.v (.map (some ba)), .v (.map (some bb))] [⟨ba, f1, .map (encM Value.string bts ma)⟩, ⟨bb, f2, .map (encM Value.string bts mb)⟩] (GrowS ((sortB (ma.map (·.1))).filter (fun s => !(mget mb s).isSome))) := by
 refine ac_of_awp (rs := [4]) (nt := 9) Tryd.func55 rfl rfl rfl rfl (fun w0 C0 hq => ?_)
 refine awp_seq ?_
 refine awp_region ?_
 refine r_box rfl rfl rfl (fun b3 => ?_)
 refine r_assign rfl rfl ?_
 refine awl_nil ?_
 refine x_then ?_
 refine awp_seq ?_
 refine awp_region ?_
 refine awl_imp (imp_commit 0 3 rfl rfl rfl rfl) ?_
 refine r_move rfl rfl ?_
 refine r_callO hq rfl rfl (.cons (.ev rfl rfl) .nil) (orderG_ok ma hnd hsz hlen) rfl TF.en59 (.cons_cons _ (List.nil_sublist _)) rfl (fun r nobjs hr => ?_)
 rcases hr with ⟨h0, rfl, rfl⟩ | ⟨g2, cap, ext, hcap, rfl, rfl⟩
 ·
  refine r_makeFunc rfl (.cons (.ev rfl rfl) .nil) rfl ?_
  refine r_call0 hq rfl rfl (.cons (.ev rfl rfl) (.cons (.ev rfl rfl) .nil)) (delN_ok) rfl TF.en84 rfl (fun r hr => ?_)
  obtain rfl := hr
  refine r_assign rfl rfl ?_
  refine awl_nil ?_
  refine x_then ?_
  refine awp_ret ?_
  exact ⟨(.inl rfl), _, [], (.one (by first | exact .mk rfl rfl | exact .nil rfl)), (.inl ⟨by rw [h0]; rfl, rfl, rfl⟩), (List.nil_sublist _), (by simp)⟩
 ·
  refine r_makeFunc rfl (.cons (.ev rfl rfl) .nil) rfl ?_
  refine r_callW hq [true, false, false] rfl rfl (.cons (.ev rfl rfl) (.cons (.ev rfl rfl) .nil)) (delV_ok (fun s => (mget mb s).isSome) TF.en85 (os := [⟨bb, false, .map (encM Value.string bts mb)⟩]) (fun s => without1_ok mb s) _ (by rw [sortB_len, List.length_map]; exact hlen) hcap) rfl TF.en84 rfl rfl (.cons _ (.refl _)) rfl (fun r nobjs hr => ?_)
  obtain ⟨ext', hcap', rfl, rfl⟩ := hr
  refine r_assign rfl rfl ?_
  refine awl_nil ?_
  refine x_then ?_
  refine awp_ret ?_
  exact ⟨(.inl rfl), _, [⟨g2, true, .box (strsC ((sortB (ma.map (·.1))).filter (fun s => !(mget mb s).isSome)) ++ ext')⟩], (.one (by first | exact .mk rfl rfl | exact .nil rfl)), (.inr ⟨g2, cap, ext', hcap', rfl, rfl⟩), (by first | exact List.Sublist.refl _ | exact .cons_cons _ (.cons _ (.refl _)) | exact List.nil_sublist _ | exact .cons _ (.refl _) | exact .cons _ (.cons _ (.refl _)) | exact .cons _ (.cons _ (.cons _ (.refl _))) | exact .cons _ (.cons _ (.cons _ (.cons _ (.refl _)))) | exact .cons_cons _ (List.nil_sublist _)), (by simp)⟩
theorem without_ok (ma mb : List (ByteArray × List UInt8)) (hnd : (ma.map (·.1)).Nodup) (hsz : ∀ s ∈ ma.map (·.1), s.size ≤ maxLen) (hlen : ma.length ≤ 1000000) {ba bb : Nat} {f1 f2 : Bool} : AC Tryd.prog 55 [.v (.map (some ba)), .v (.map (some bb))] [⟨ba, f1, .map (encM Value.string bts ma)⟩, ⟨bb, f2, .map (encM Value.string bts mb)⟩] (fun r n => n = [] ∧ r = strsA ((sortB (ma.map (·.1))).filter (fun s => !(mget mb s).isSome))) := by
 refine ac_of_awp (rs := [4]) (nt := 9) Tryd.func55 rfl rfl rfl rfl (fun w0 C0 hq => ?_)
 refine awp_seq ?_
 refine awp_region ?_
 refine r_box rfl rfl rfl (fun b3 => ?_)
 refine r_assign rfl rfl ?_
 refine awl_nil ?_
 refine x_then ?_
 refine awp_seq ?_
 refine awp_region ?_
 refine awl_imp (imp_commit 0 3 rfl rfl rfl rfl) ?_
 refine r_move rfl rfl ?_
 refine r_callO hq rfl rfl (.cons (.ev rfl rfl) .nil) (orderG_ok ma hnd hsz hlen) rfl TF.en59 (.cons_cons _ (List.nil_sublist _)) rfl (fun r nobjs hr => ?_)
 rcases hr with ⟨h0, rfl, rfl⟩ | ⟨g2, cap, ext, hcap, rfl, rfl⟩
 ·
  refine r_makeFunc rfl (.cons (.ev rfl rfl) .nil) rfl ?_
  refine r_call0 hq rfl rfl (.cons (.ev rfl rfl) (.cons (.ev rfl rfl) .nil)) (delN_ok) rfl TF.en84 rfl (fun r hr => ?_)
  obtain rfl := hr
  refine r_assign rfl rfl ?_
  refine awl_nil ?_
  refine x_then ?_
  refine awp_ret ?_
  exact ⟨(.inl rfl), _, [], (.one (.nil (sz := 1) rfl)), ⟨rfl, by rw [h0]; rfl⟩, (List.nil_sublist _), (by simp)⟩
 ·
  refine r_makeFunc rfl (.cons (.ev rfl rfl) .nil) rfl ?_
  refine r_callW hq [true, false, false] rfl rfl (.cons (.ev rfl rfl) (.cons (.ev rfl rfl) .nil)) (delV_ok (fun s => (mget mb s).isSome) TF.en85 (os := [⟨bb, false, .map (encM Value.string bts mb)⟩]) (fun s => without1_ok mb s) _ (by rw [sortB_len, List.length_map]; exact hlen) hcap) rfl TF.en84 rfl rfl (.cons _ (.refl _)) rfl (fun r nobjs hr => ?_)
  obtain ⟨ext', hcap', rfl, rfl⟩ := hr
  refine awl_boxBuf 0 rfl hcap' (fun be => ?_)
  refine awl_imp (imp_commitB 0 8 rfl (by simp) rfl) ?_
  ·
   refine r_assign rfl rfl ?_
   refine awl_nil ?_
   refine x_then ?_
   refine awp_ret ?_
   exact ⟨(.inl rfl), _, [], (.one (by first | exact .mk rfl rfl | exact .nil rfl)), ⟨rfl, rfl⟩, (List.nil_sublist _), (by simp)⟩
theorem of1_ok {a b : List File} {mx my : List (ByteArray × List UInt8)} (hx : TellsS mx a) (hy : TellsS my b) (s t : ByteArray) {bx by_ : Nat} {f1 f2 : Bool} : AC Tryd.prog 57 [.v (.string t), .cp [.v (.map (some bx))], .cp [.v (.string s)], .cp [.v (.map (some by_))]] [⟨bx, f1, .map (encM Value.string bts mx)⟩, ⟨by_, f2, .map (encM Value.string bts my)⟩] (fun r n => n = [] ∧ r = boolA (hitF a b s t)) := by
 refine ac_of_awp (rs := [5]) (nt := 20) Tryd.func57 rfl rfl rfl rfl (fun w0 C0 hq => ?_)
 refine awp_seq ?_
 refine awp_region ?_
 refine r_assign rfl rfl ?_
 refine awl_nil ?_
 refine x_then ?_
 refine awp_seq ?_
 refine awp_region ?_
 refine r_load1 rfl TF.agg109 rfl ?_
 refine r_load1 rfl TF.agg9 rfl ?_
 refine r_lookup 0 (keyEnc_string TF.un9) (ev := bts) [] rfl rfl rfl TF.map109 TF.zavS rfl ?_
 refine r_lenS rfl rfl TF.sl22 rfl ?_
 refine r_cmp rfl rfl rfl rfl ?_
 refine r_move rfl rfl ?_
 refine g_cases (t' := 11) rfl (fun hg11 => ?_) (fun hg11 => ?_)
 ·
  have h1 : 0 < ((mget mx s).getD []).length := by have := of_decide_eq_true hg11; simpa [u8s_len] using this
  refine g_run rfl rfl hg11 ?_
  refine r_load1 rfl TF.agg109 rfl ?_
  refine g_run rfl rfl hg11 ?_
  refine r_load1 rfl TF.agg9 rfl ?_
  refine g_run rfl rfl hg11 ?_
  refine r_lookup 0 (keyEnc_string TF.un9) (ev := bts) [] rfl rfl rfl TF.map109 TF.zavS rfl ?_
  refine g_run rfl rfl hg11 ?_
  refine r_load1 rfl TF.agg109 rfl ?_
  refine g_run rfl rfl hg11 ?_
  refine r_move rfl rfl ?_
  refine g_run rfl rfl hg11 ?_
  refine r_lookup 1 (keyEnc_string TF.un9) (ev := bts) [] rfl rfl rfl TF.map109 TF.zavS rfl ?_
  refine g_run rfl rfl hg11 ?_
  refine r_call0 hq rfl rfl (.cons (.ev rfl rfl) (.cons (.ev rfl rfl) .nil)) (equal_ok _ _) rfl TF.en35 rfl (fun r hr => ?_)
  obtain rfl := hr
  refine r_pickT rfl hg11 rfl rfl ?_
  refine r_assign rfl rfl ?_
  refine awl_nil ?_
  refine x_then ?_
  refine awp_ret ?_
  exact ⟨(.inl rfl), _, [], (.one (by first | exact .mk rfl rfl | exact .nil rfl)), ⟨rfl, by rw [hitF, ← hx.get, ← hy.get]; first | (rw [decide_eq_true h1, Bool.true_and]; rfl) | (rw [decide_eq_false h1, Bool.false_and]; rfl)⟩, (List.nil_sublist _), (by simp)⟩
 ·
  have h1 : ¬ 0 < ((mget mx s).getD []).length := by have := of_decide_eq_false hg11; simpa [u8s_len] using this
  refine g_skip rfl rfl hg11 rfl ?_
  refine g_skip rfl rfl hg11 rfl ?_
  refine g_skip rfl rfl hg11 rfl ?_
  refine g_skip rfl rfl hg11 rfl ?_
  refine g_skip rfl rfl hg11 rfl ?_
  refine g_skip rfl rfl hg11 rfl ?_
  refine g_skip rfl rfl hg11 rfl ?_
  refine r_pickF rfl hg11 rfl rfl ?_
  refine r_assign rfl rfl ?_
  refine awl_nil ?_
  refine x_then ?_
  refine awp_ret ?_
  exact ⟨(.inl rfl), _, [], (.one (by first | exact .mk rfl rfl | exact .nil rfl)), ⟨rfl, by rw [hitF, ← hx.get, ← hy.get]; first | (rw [decide_eq_true h1, Bool.true_and]; rfl) | (rw [decide_eq_false h1, Bool.false_and]; rfl)⟩, (List.nil_sublist _), (by simp)⟩
end Go.Proofs.YtcbhhjahjnlfhaaDoor.A
namespace Go.Proofs.YtcbhhjahjnlfhaaDoor.A
open Go Go.RowKit
set_option linter.unusedVariables false
set_option linter.unusedSimpArgs false
set_option maxRecDepth 100000
theorem TG.agg35 : aggT Tryd.prog 35 = some false := by kernel_rfl
theorem TG.sz3 : szT Tryd.prog 3 = some 1 := by kernel_rfl
theorem ro_roF (os : List OE) : ro (ro os) = ro os := by simp [ro]
theorem togetherO_ok (l : List File) {n : Nat} (hnl : n = l.length) (hl : l.length ≤ 1000000) (hs : ∀ f ∈ l, f.name.size ≤ 1000000) {g cap : Nat} {ext : List AV} {fl : Bool} : AC Tryd.prog 41 [.v (.slice (some ⟨g, 0, none⟩) n cap)] [⟨g, fl, .box (boxF l ext)⟩] (fun r n => n = [] ∧ r = boolA (togetherS l)) := by
 subst hnl
 refine ac_of_awp (rs := [2]) (nt := 26) Tryd.func41 rfl rfl rfl rfl (fun w0 C0 hq => ?_)
 refine awp_seq ?_
 refine awp_region ?_
 refine r_assign rfl rfl ?_
 refine awl_nil ?_
 refine x_then ?_
 refine awp_seq ?_
 refine awp_region ?_
 refine r_makeMap (ek := Value.string) (ev := boolA) [] rfl rfl (fun b6 => ?_)
 refine r_assign rfl rfl ?_
 refine awl_nil ?_
 refine x_then ?_
 refine awp_seq ?_
 refine awp_seq ?_
 refine awp_region ?_
 refine r_move rfl rfl ?_
 refine r_lenV rfl TG.sl24 rfl ?_
 refine r_move rfl rfl ?_
 refine awl_nil ?_
 refine x_then ?_
 refine awp_block ?_
 refine awp_loop (fun nn0 S => ∃ k : Nat, ∃ m : List (ByteArray × Bool), S = ⟨26, [(3, .a (.v (.map (some b6)))), (7, .a (.v (.slice (some ⟨g, 0, none⟩) l.length cap))), (8, .a (.v (.int .i64 ((l.length : Int))))), (9, .a (.v (.int .i64 ((k : Int)))))], [⟨b6, true, .map (encM Value.string boolA m)⟩, ⟨g, false, .box (boxF l ext)⟩]⟩ ∧ nn0 = l.length - k ∧ (k ≤ l.length) ∧ ((l.take k).all rightS = true) ∧ (((l.take k).map (·.name)).Nodup) ∧ (HasN m ((l.take k).map (·.name)))) (l.length - (0)) ⟨26, [(3, .a (.v (.map (some b6)))), (7, .a (.v (.slice (some ⟨g, 0, none⟩) l.length cap))), (8, .a (.v (.int .i64 ((l.length : Int))))), (9, .a (.v (.int .i64 (((0) : Int)))))], [⟨b6, true, .map (encM Value.string boolA ([]))⟩, ⟨g, false, .box (boxF l ext)⟩]⟩ ⟨rfl, (Slots.cons rfl (by first | exact .refl _ | exact .nilOwn _ _ | exact .nilSl _ | exact .ownSl _ _ _  | exact SV.le.of_eq (by simp)) (Slots.cons rfl (by first | exact .refl _ | exact .nilOwn _ _ | exact .nilSl _ | exact .ownSl _ _ _  | exact SV.le.of_eq (by simp)) (Slots.cons rfl (by first | exact .refl _ | exact .nilOwn _ _ | exact .nilSl _ | exact .ownSl _ _ _  | exact SV.le.of_eq (by simp)) (Slots.cons rfl (by first | exact .refl _ | exact .nilOwn _ _ | exact .nilSl _ | exact .ownSl _ _ _  | exact SV.le.of_eq (by simp)) Slots.nil)))), (by first | exact List.Sublist.refl _ | exact .cons_cons _ (.cons _ (.refl _)) | exact List.nil_sublist _ | exact .cons _ (.refl _) | exact .cons _ (.cons _ (.refl _)) | exact .cons _ (.cons _ (.cons _ (.refl _))) | exact .cons _ (.cons _ (.cons _ (.cons _ (.refl _)))) | exact .cons_cons _ (List.nil_sublist _))⟩ ⟨0, [], rfl, rfl, Nat.zero_le _, rfl, (by simp), hasN_nil⟩ ?_
 rintro nn0 _ ⟨k, m, rfl, rfl, hk, ha, hnd, hm⟩
 refine awp_seq ?_
 refine awp_region ?_
 refine r_cmp rfl rfl rfl rfl ?_
 refine awl_nil ?_
 refine x_then ?_
 refine awp_seq ?_
 refine awp_cond rfl (fun hc0 => ?_) (fun hc0 => ?_)
 ·
  have hltx : k < l.length := by have := of_decide_eq_true hc0; omega
  obtain ⟨x, hx⟩ := get_lt hltx
  have hsx := hs x (List.mem_of_getElem? hx)
  refine awp_skip ?_
  refine x_then ?_
  refine awp_seq ?_
  refine awp_block ?_
  refine awp_seq ?_
  refine awp_region ?_
  refine r_indexV rfl rfl TG.sl24 TG.sz26 (by omega) (by omega) rfl ?_
  refine r_loadAbe 1 (File.cs x) (by rw [Int.toNat_natCast]; exact (flat_drop (f := File.cs) (n := 2) (ext := ext) (fun _ => rfl) hx).1) rfl rfl TG.agg26 TG.sz26 (Nat.ble_eq_true_of_le (by rw [Int.toNat_natCast]; exact (flat_drop (f := File.cs) (n := 2) (ext := ext) (fun _ => rfl) hx).2)) rfl ?_
  refine r_alloc TG.zero26 rfl (fun b5 => ?_)
  refine r_store 0 rfl rfl rfl TG.sz26 rfl rfl rfl ?_
  refine awl_nil ?_
  refine x_then ?_
  refine awp_seq ?_
  refine awp_seq ?_
  refine awp_region ?_
  refine r_loadAb 0 rfl rfl TG.agg26 TG.sz26 rfl rfl ?_
  refine r_call0 hq rfl rfl (.cons (.ev rfl rfl) .nil) (right_fs_ok x hsx) rfl TG.en77 rfl (fun r hr => ?_)
  obtain rfl := hr
  refine r_not rfl rfl ?_
  refine r_move rfl rfl ?_
  refine g_cases (t' := 16) rfl (fun hg16 => ?_) (fun hg16 => ?_)
  ·
   have hrx : rightS x = false := by simpa using hg16
   refine g_skip rfl rfl hg16 rfl ?_
   refine g_skip rfl rfl hg16 rfl ?_
   refine g_skip rfl rfl hg16 rfl ?_
   refine g_skip rfl rfl hg16 rfl ?_
   refine r_pickT rfl hg16 rfl rfl ?_
   refine awl_nil ?_
   refine x_then ?_
   refine awp_condT rfl ?_
   have hbad : togetherS l = false := by first | exact tog_bad hx hrx | exact tog_dup hx ((hm x.name).1 (by simpa using hc1))
   refine awp_seq ?_
   refine awp_region ?_
   refine r_assign rfl rfl ?_
   refine awl_nil ?_
   refine x_then ?_
   refine awp_ret ?_
   refine x_thenR ?_
   refine x_blockR ?_
   refine x_thenR ?_
   refine x_thenR ?_
   refine x_blockR ?_
   refine x_thenR ?_
   exact ⟨(.inl rfl), _, [], (.one (by first | exact .mk rfl rfl | exact .nil rfl)), ⟨rfl, by first | (rw [hbad]; done) | (rw [hbad]; rfl) | (rw [tog_good ha hnd]; rfl)⟩, (List.nil_sublist _), (by simp)⟩
  ·
   have hrx : rightS x = true := by simpa using hg16
   refine g_run rfl rfl hg16 ?_
   refine r_move rfl rfl ?_
   refine g_run rfl rfl hg16 ?_
   refine r_fieldb rfl TG.f26_0 TG.sz9 rfl ?_
   refine g_run rfl rfl hg16 ?_
   refine r_load1b 0 rfl rfl rfl TG.agg9 rfl ?_
   refine g_run rfl rfl hg16 ?_
   refine r_lookup 1 (keyEnc_string TG.un9) (ev := boolA) false rfl rfl rfl TG.map100 TG.zav4 rfl ?_
   refine r_pickF rfl hg16 rfl rfl ?_
   refine awl_nil ?_
   refine x_then ?_
   refine awp_cond rfl (fun hc1 => ?_) (fun hc1 => ?_)
   ·
    have hbad : togetherS l = false := by first | exact tog_bad hx hrx | exact tog_dup hx ((hm x.name).1 (by simpa using hc1))
    refine awp_seq ?_
    refine awp_region ?_
    refine r_assign rfl rfl ?_
    refine awl_nil ?_
    refine x_then ?_
    refine awp_ret ?_
    refine x_thenR ?_
    refine x_blockR ?_
    refine x_thenR ?_
    refine x_thenR ?_
    refine x_blockR ?_
    refine x_thenR ?_
    exact ⟨(.inl rfl), _, [], (.one (by first | exact .mk rfl rfl | exact .nil rfl)), ⟨rfl, by first | (rw [hbad]; done) | (rw [hbad]; rfl) | (rw [tog_good ha hnd]; rfl)⟩, (List.nil_sublist _), (by simp)⟩
   ·
    have hnx : (mget m x.name).getD false = false := by simpa using hc1
    refine awp_skip ?_
    refine x_then ?_
    refine awp_region ?_
    refine r_move rfl rfl ?_
    refine r_fieldb rfl TG.f26_0 TG.sz9 rfl ?_
    refine r_load1b 0 rfl rfl rfl TG.agg9 rfl ?_
    refine r_mapUpdate 1 (keyEnc_string TG.un9) (ev := boolA) true rfl rfl rfl rfl rfl TG.map100 ?_
    refine awl_nil ?_
    refine x_block ?_
    refine x_then ?_
    refine awp_region ?_
    refine r_ari _ rfl rfl rfl (wrap_id (by first | omega | (simp; omega))) rfl ?_
    refine r_move rfl rfl ?_
    refine awl_nil ?_
    refine x_then ?_
    refine ⟨l.length - (k + 1), ⟨26, [(3, .a (.v (.map (some b6)))), (7, .a (.v (.slice (some ⟨g, 0, none⟩) l.length cap))), (8, .a (.v (.int .i64 ((l.length : Int))))), (9, .a (.v (.int .i64 (((k + 1) : Int)))))], [⟨b6, true, .map (encM Value.string boolA ((mset m x.name true)))⟩, ⟨g, false, .box (boxF l ext)⟩]⟩, ⟨rfl, (Slots.cons rfl (by first | exact .refl _ | exact .nilOwn _ _ | exact .nilSl _ | exact .ownSl _ _ _  | exact SV.le.of_eq (by simp)) (Slots.cons rfl (by first | exact .refl _ | exact .nilOwn _ _ | exact .nilSl _ | exact .ownSl _ _ _  | exact SV.le.of_eq (by simp)) (Slots.cons rfl (by first | exact .refl _ | exact .nilOwn _ _ | exact .nilSl _ | exact .ownSl _ _ _  | exact SV.le.of_eq (by simp)) (Slots.cons rfl (by first | exact .refl _ | exact .nilOwn _ _ | exact .nilSl _ | exact .ownSl _ _ _  | exact SV.le.of_eq (by simp)) Slots.nil)))), (by first | exact List.Sublist.refl _ | exact .cons_cons _ (.cons _ (.refl _)) | exact List.nil_sublist _ | exact .cons _ (.refl _) | exact .cons _ (.cons _ (.refl _)) | exact .cons _ (.cons _ (.cons _ (.refl _))) | exact .cons _ (.cons _ (.cons _ (.cons _ (.refl _)))) | exact .cons_cons _ (List.nil_sublist _))⟩, (by omega), ⟨k + 1, (mset m x.name true), rfl, rfl, (by omega), (tog_all hx ha hrx), (tog_nd hx hnd (fun h => by rw [(hm _).2 h] at hnx; cases hnx)), (tog_set hx hm)⟩⟩
 ·
  have hge : l.length ≤ k := by have := of_decide_eq_false hc0; omega
  rw [List.take_of_length_le hge] at ha hnd
  refine awp_exit ?_
  refine x_thenE ?_
  refine x_thenE ?_
  refine x_blockE ?_
  refine x_then ?_
  refine awp_seq ?_
  refine awp_region ?_
  refine r_assign rfl rfl ?_
  refine awl_nil ?_
  refine x_then ?_
  refine awp_ret ?_
  exact ⟨(.inl rfl), _, [], (.one (by first | exact .mk rfl rfl | exact .nil rfl)), ⟨rfl, by first | (rw [hbad]; done) | (rw [hbad]; rfl) | (rw [tog_good ha hnd]; rfl)⟩, (List.nil_sublist _), (by simp)⟩
set_option maxHeartbeats 1000000 in
theorem take_ok {f : FuncId} {caps : List AV} (hen : entersT Tryd.prog f) {os : List OE} {D : List Blk} (hf : ∀ (k : Nat) (b : Blk), D[k]? = some b → AC Tryd.prog f (.v (.int .i64 (k : Int)) :: caps) (ro os) (fun r n => n = [] ∧ r = .tup [blkA b, .v (.bool true)])) (k : Nat) (b : Blk) (hb : D[k]? = some b) (hk : k ≤ 1000000) {g : Nat} : AW Tryd.prog 34 [.cp [.fn f caps], .v (.pointer (some ⟨g, 0, none⟩))] os [⟨g, true, .box [.v (.int .i64 (((k : Nat) : Int)))]⟩] (fun r n => r = blkA b ∧ n = [⟨g, true, .box [.v (.int .i64 (((k + 1 : Nat) : Int)))]⟩]) := by
 refine aw_of_awpG (so := (ro os ++ [⟨g, true, .box [.v (.int .i64 (((k : Nat) : Int)))]⟩])) (fun S r => ResK Tryd.prog S (.cell 2 33) r) (nt := 17) Tryd.func34 rfl rfl rfl rfl (resK1_run rfl) (fun w0 C0 hq => ?_)
 refine awp_imp (imp_perm List.perm_append_comm) ?_
 refine awp_seq ?_
 refine awp_region ?_
 refine r_alloc TG.zero33 rfl (fun b2 => ?_)
 refine awl_nil ?_
 refine x_then ?_
 refine awp_seq ?_
 refine awp_region ?_
 refine r_load1 rfl TG.agg35 rfl ?_
 refine r_load1b 1 rfl rfl rfl TG.agg3 rfl ?_
 refine r_callO hq rfl rfl (.cons (.ev rfl rfl) .nil) (hf k b hb) rfl hen (.cons _ (.cons _ (.refl _))) rfl (fun r nobjs hr => ?_)
 obtain ⟨rfl, rfl⟩ := hr
 refine r_move rfl rfl ?_
 refine r_extract rfl rfl rfl ?_
 refine r_extract rfl rfl rfl ?_
 refine r_alloc TG.zero33 rfl (fun b3 => ?_)
 refine r_store 0 rfl rfl rfl TG.sz33 rfl rfl rfl ?_
 refine r_assign rfl rfl ?_
 refine awl_nil ?_
 refine x_then ?_
 refine awp_seq ?_
 refine awp_region ?_
 refine r_load1b 2 rfl rfl rfl TG.agg3 rfl ?_
 refine r_ari ((k + 1 : Nat) : Int) rfl rfl rfl (by rw [wrap_id (by omega)]; omega) rfl ?_
 refine r_store 2 rfl rfl rfl TG.sz3 rfl rfl rfl ?_
 refine awl_nil ?_
 refine x_then ?_
 refine awp_seq ?_
 refine awp_seq ?_
 refine awp_region ?_
 refine r_move rfl rfl ?_
 refine r_not rfl rfl ?_
 refine awl_nil ?_
 refine x_then ?_
 refine awp_cond rfl (fun hc0 => ?_) (fun hc0 => ?_)
 ·
  exfalso; exact absurd hc0 (by decide)
 ·
  refine awp_skip ?_
  refine x_then ?_
  refine awp_seq ?_
  refine awp_region ?_
  refine r_loadAb 0 rfl rfl TG.agg33 TG.sz33 rfl rfl ?_
  refine r_store 1 rfl rfl rfl TG.sz33 rfl rfl rfl ?_
  refine awl_nil ?_
  refine x_then ?_
  refine awp_ret ?_
  exact ⟨(.inl rfl), _, [⟨g, true, .box [.v (.int .i64 (((k + 1 : Nat) : Int)))]⟩], (.box (by first | exact .mk' 0 rfl rfl TG.agg33 TG.sz33 rfl | exact .mk' 1 rfl rfl TG.agg33 TG.sz33 rfl | exact .mk' 2 rfl rfl TG.agg33 TG.sz33 rfl | exact .mk' 3 rfl rfl TG.agg33 TG.sz33 rfl | exact .mk' 4 rfl rfl TG.agg33 TG.sz33 rfl | exact .mk' 5 rfl rfl TG.agg33 TG.sz33 rfl)), ⟨rfl, rfl⟩, (.cons _ (.cons _ (.cons_cons _ (List.nil_sublist _)))), (by simp)⟩
end Go.Proofs.YtcbhhjahjnlfhaaDoor.A
namespace Go.Proofs.YtcbhhjahjnlfhaaDoor.A
open Go Go.RowKit
set_option linter.unusedVariables false
set_option linter.unusedSimpArgs false
set_option maxRecDepth 100000
theorem TG.en34 : entersT Tryd.prog 34 := enters_of Tryd.func34 (by kernel_rfl) (by kernel_rfl)
theorem TG.un35 : Tryd.prog.underlying 35 = some (.func #[3] #[33, 4] false) := by kernel_rfl
theorem TG.zero3 : ZeroT Tryd.prog 3 [.v (.int .i64 0)] := ⟨[(.int .i64 0)], by kernel_rfl, (LeCells.refl _)⟩
theorem TG.en35 : entersT Tryd.prog 35 := enters_of Tryd.func35 (by kernel_rfl) (by kernel_rfl)
theorem TG.sl87 : sliceT Tryd.prog 87 = some 3 := by kernel_rfl
theorem TG.by3 : bytesT Tryd.prog 3 = some 8 := by kernel_rfl
theorem TG.zraw3 : zeroT Tryd.prog 3 = some [(.int .i64 0)] := by kernel_rfl
theorem TG.en39 : entersT Tryd.prog 39 := enters_of Tryd.func39 (by kernel_rfl) (by kernel_rfl)
theorem TG.pl26 : placesT Tryd.prog 26 = some [(0, 1), (1, 1)] := by kernel_rfl
theorem TG.zraw26 : zeroT Tryd.prog 26 = some [(.string ⟨#[]⟩), (.slice none 0 0)] := by kernel_rfl
theorem TG.by26 : bytesT Tryd.prog 26 = some 40 := by kernel_rfl
theorem TG.zlen26 : (zeroT Tryd.prog 26).map (·.length) = some 2 := by kernel_rfl
theorem TG.en40 : entersT Tryd.prog 40 := enters_of Tryd.func40 (by kernel_rfl) (by kernel_rfl)
theorem TG.zlen5 : (zeroT Tryd.prog 5).map (·.length) = some 1 := by kernel_rfl
set_option maxHeartbeats 4000000 in
theorem readD_ok (l : List File) (hok : okFs l = true) {f : FuncId} {caps : List AV} (hen : entersT Tryd.prog f) {os : List OE} (hf : ∀ (k : Nat) (b : Blk), (diskF l)[k]? = some b → AC Tryd.prog f (.v (.int .i64 (k : Int)) :: caps) (ro os) (fun r n => n = [] ∧ r = .tup [blkA b, .v (.bool true)])) : AWC MG Tryd.prog 8 [.fn f caps] os [] (fun r n => n = [] ∧ r = .tup [files l, .v (.int .i64 0)]) := by
 obtain ⟨hl8, htog⟩ := okFs_len hok
 obtain ⟨hB0, hhB⟩ : ∃ hB0, hB0 = headF l.length (tabs l (1 + l.length)) := ⟨_, rfl⟩
 have hmg : bpart hB0 0 5 = magicL := by rw [hhB]; exact head_magic _ _
 have hc5 : (blkC hB0)[5]? = some (.v (.int .u8 (l.length : Int))) := by rw [blkC_at _ (by decide), hhB, head_n _ hl8, u8_small hl8]
 have h68 : bpart hB0 6 8 = [(sumF (tabs l (1 + l.length)) / 256).toUInt8, (sumF (tabs l (1 + l.length))).toUInt8] := by rw [hhB]; exact head_sum _ _
 have hz8 : noughtS (bpart hB0 8 32) = true := by rw [hhB]; exact head_rest _ _
 refine awc_of_awpG MG (so := ro os) (nt := 143) (fun S r => Result1 S [2, 3] r) Tryd.func8 rfl rfl rfl (by simp [Tr]) (result1_run rfl) (fun w0 C0 hq hcs => ?_)
 refine awp_seq ?_
 refine awp_region ?_
 refine r_box rfl rfl rfl (fun b1 => ?_)
 refine r_assign rfl rfl ?_
 refine r_assign rfl rfl ?_
 refine awl_nil ?_
 refine x_then ?_
 refine awp_seq ?_
 refine awp_seq ?_
 refine awp_region ?_
 refine awl_imp (imp_commit 0 1 rfl rfl rfl rfl) ?_
 refine r_load1 rfl TG.agg35 rfl ?_
 refine r_fn_eq rfl TG.un35 rfl ?_
 refine awl_nil ?_
 refine x_then ?_
 refine awp_cond rfl (fun hc0 => ?_) (fun hc0 => ?_)
 ·
  exfalso; first | cases hc0 | exact absurd hc0 (by decide) | simp at hc0
 ·
  refine awp_skip ?_
  refine x_then ?_
  refine awp_seq ?_
  refine awp_region ?_
  refine r_alloc TG.zero3 rfl (fun b4 => ?_)
  refine r_store 0 rfl rfl rfl TG.sz3 rfl rfl rfl ?_
  refine awl_nil ?_
  refine x_then ?_
  refine awp_seq ?_
  refine awp_region ?_
  refine r_makeFunc rfl (.cons (.ev rfl rfl) (.cons (.ev rfl rfl) .nil)) rfl ?_
  refine r_assign rfl rfl ?_
  refine awl_nil ?_
  refine x_then ?_
  refine awp_seq ?_
  refine awp_region ?_
  refine r_move rfl rfl ?_
  refine r_callW hq [true] rfl rfl .nil (take_ok (os := ro os) hen (fun k b h => by rw [ro_roF]; exact hf k b h) 0 hB0 (by rw [disk_head, hhB]) (by omega)) rfl TG.en34 rfl rfl (List.Sublist.refl _) rfl (fun r nobjs hr => ?_)
  obtain ⟨rfl, rfl⟩ := hr
  refine r_alloc TG.zero33 rfl (fun b6 => ?_)
  refine r_store 0 rfl rfl rfl TG.sz33 rfl rfl rfl ?_
  refine awl_nil ?_
  refine x_then ?_
  refine awp_seq ?_
  refine awp_seq ?_
  refine awp_imp (imp_commit 0 6 rfl rfl rfl rfl) ?_
  refine awp_drawS [29, 30] [_, _] [] [] TG.mixed rfl rfl rfl ⟨⟨trivial
   , ⟨_, rfl, fun sl hd hr ho => by
     refine r_arrC (u8s (bpart hB0 0 5)) (arr_part hB0 0 5) (hr 6 _ rfl rfl rfl) TG.un33 TG.sz5 rfl .none (.some rfl) (by omega) (by omega) rfl ?_
     exact awl_nil ⟨rfl, post_put⟩⟩⟩
   , ⟨_, rfl, fun sl hd hr ho => by
     refine r_arrG hcs mg_at TG.un83 TG.sz5 rfl ?_
     exact awl_nil ⟨rfl, post_put⟩⟩⟩
   (by rfl) ?_
  refine r_call0 hq rfl rfl (.cons (.ev rfl rfl) (.cons (.ev rfl rfl) .nil)) (equal_ok (bpart hB0 0 5) magicL) rfl TG.en35 rfl (fun r hr => ?_)
  rw [decide_eq_true hmg] at hr
  obtain rfl := hr
  refine r_not rfl rfl ?_
  refine r_move rfl rfl ?_
  refine g_run rfl rfl rfl ?_
  refine r_arrAtE (i := 5) (c := .v (.int .u8 (l.length : Int))) rfl rfl TG.un33 TG.sz5 (by decide) hc5 rfl ?_
  refine g_run rfl rfl rfl ?_
  refine r_load1 rfl TG.agg5 rfl ?_
  refine g_run rfl rfl rfl ?_
  refine r_cmp rfl rfl rfl rfl ?_
  refine r_pickF rfl rfl rfl rfl ?_
  refine r_move rfl rfl ?_
  refine g_run rfl rfl (decide_eq_false (by omega)) ?_
  refine r_arrC (u8s (bpart hB0 8 32)) (arr_part hB0 8 32) rfl TG.un33 TG.sz5 rfl (.some rfl) .none (by omega) (by omega) rfl ?_
  refine g_run rfl rfl (decide_eq_false (by omega)) ?_
  refine r_call0 hq rfl rfl (.cons (.ev rfl rfl) .nil) (nought_ok (bpart hB0 8 32)) rfl TG.en36 rfl (fun r hr => ?_)
  rw [hz8] at hr
  obtain rfl := hr
  refine g_run rfl rfl (decide_eq_false (by omega)) ?_
  refine r_not rfl rfl ?_
  refine r_pickF rfl (decide_eq_false (by omega)) rfl rfl ?_
  refine awl_nil ?_
  refine x_then ?_
  refine awp_cond rfl (fun hc1 => ?_) (fun hc1 => ?_)
  ·
   exfalso; first | cases hc1 | simp at hc1
  ·
   refine awp_skip ?_
   refine x_then ?_
   refine awp_seq ?_
   refine awp_region ?_
   refine r_assign rfl rfl ?_
   refine awl_nil ?_
   refine x_then ?_
   refine awp_seq ?_
   refine awp_seq ?_
   refine awp_region ?_
   refine r_arrAtE (i := 5) (c := .v (.int .u8 (l.length : Int))) rfl rfl TG.un33 TG.sz5 (by decide) hc5 rfl ?_
   refine r_load1 rfl TG.agg5 rfl ?_
   refine r_move rfl rfl ?_
   refine awl_nil ?_
   refine x_then ?_
   refine awp_block ?_
   refine awp_loop (fun nn0 S => ∃ i : Nat, S = ⟨143, [(1, .a (.cp [.fn f caps])), (4, .a (.v (.pointer (some ⟨b4, 0, none⟩)))), (5, .a (.fn 34 [.cp [.fn f caps], .v (.pointer (some ⟨b4, 0, none⟩))])), (6, .a (.cp (blkC hB0))), (7, .own 7 32 (((tabs l (1 + l.length)).take i).map blkC)), (44, .a (.v (.int .u8 ((l.length : Int))))), (45, .a (.v (.int .u8 ((i : Int)))))], ⟨b4, true, .box [.v (.int .i64 (((1 + i) : Nat) : Int))]⟩ :: ro os⟩ ∧ nn0 = l.length - i ∧ (i ≤ l.length)) (l.length - (0)) ⟨143, [(1, .a (.cp [.fn f caps])), (4, .a (.v (.pointer (some ⟨b4, 0, none⟩)))), (5, .a (.fn 34 [.cp [.fn f caps], .v (.pointer (some ⟨b4, 0, none⟩))])), (6, .a (.cp (blkC hB0))), (7, .own 7 32 (((tabs l (1 + l.length)).take (0)).map blkC)), (44, .a (.v (.int .u8 ((l.length : Int))))), (45, .a (.v (.int .u8 (((0) : Int)))))], ⟨b4, true, .box [.v (.int .i64 (((1 + (0)) : Nat) : Int))]⟩ :: ro os⟩ ⟨rfl, (Slots.cons rfl (by first | exact .refl _ | exact .nilOwn _ _ | exact .nilSl _ | exact .ownSl _ _ _  | exact SV.le.of_eq (by simp)) (Slots.cons rfl (by first | exact .refl _ | exact .nilOwn _ _ | exact .nilSl _ | exact .ownSl _ _ _  | exact SV.le.of_eq (by simp)) (Slots.cons rfl (by first | exact .refl _ | exact .nilOwn _ _ | exact .nilSl _ | exact .ownSl _ _ _  | exact SV.le.of_eq (by simp)) (Slots.cons rfl (by first | exact .refl _ | exact .nilOwn _ _ | exact .nilSl _ | exact .ownSl _ _ _  | exact SV.le.of_eq (by simp)) (Slots.cons rfl (by first | exact .refl _ | exact .nilOwn _ _ | exact .nilSl _ | exact .ownSl _ _ _  | exact SV.le.of_eq (by simp)) (Slots.cons rfl (by first | exact .refl _ | exact .nilOwn _ _ | exact .nilSl _ | exact .ownSl _ _ _  | exact SV.le.of_eq (by simp)) (Slots.cons rfl (by first | exact .refl _ | exact .nilOwn _ _ | exact .nilSl _ | exact .ownSl _ _ _  | exact SV.le.of_eq (by simp)) Slots.nil))))))), (List.Sublist.refl _)⟩ ⟨0, rfl, rfl, Nat.zero_le _⟩ ?_
   rintro nn0 _ ⟨i, rfl, rfl, hi⟩
   refine awp_seq ?_
   refine awp_region ?_
   refine r_cmp rfl rfl rfl rfl ?_
   refine awl_nil ?_
   refine x_then ?_
   refine awp_seq ?_
   refine awp_cond rfl (fun hc2 => ?_) (fun hc2 => ?_)
   ·
    have hlti : i < l.length := by have := of_decide_eq_true hc2; omega
    obtain ⟨x, hx⟩ := get_lt hlti
    refine awp_skip ?_
    refine x_then ?_
    refine awp_seq ?_
    refine awp_block ?_
    refine awp_region ?_
    refine r_move rfl rfl ?_
    refine r_move rfl rfl ?_
    refine r_callW hq [true] rfl rfl .nil (take_ok (os := ro os) hen (fun k b h => by rw [ro_roF]; exact hf k b h) (1 + i) (tabF x (atF l i)) (disk_tab hx) (by omega)) rfl TG.en34 rfl rfl (List.Sublist.refl _) rfl (fun r nobjs hr => ?_)
    obtain ⟨rfl, rfl⟩ := hr
    refine r_lit 50 (parts := [(0, .tmp 49)]) rfl TG.sl59 TG.sz33 TG.zraw33 rfl rfl rfl rfl rfl rfl rfl ?_
    refine r_append 7 rfl (by first | exact .own _ | exact .nil) rfl (by first | exact .sl _ | exact .own _ _ | exact .nil) TG.sl59 TG.sz33 (by decide) TG.by33 TG.zlen33 (by simp [chunks, tabs_len] <;> omega) (by simp [chunks, tabs_len] <;> omega) rfl ?_
    refine r_assign rfl rfl ?_
    refine awl_nil ?_
    refine x_block ?_
    refine x_then ?_
    refine awp_region ?_
    refine r_ari ((i + 1 : Nat) : Int) rfl rfl rfl (by rw [IntKind.wrap_u8]; omega) rfl ?_
    refine r_move rfl rfl ?_
    refine awl_nil ?_
    refine x_then ?_
    refine ⟨l.length - (i + 1), ⟨143, [(1, .a (.cp [.fn f caps])), (4, .a (.v (.pointer (some ⟨b4, 0, none⟩)))), (5, .a (.fn 34 [.cp [.fn f caps], .v (.pointer (some ⟨b4, 0, none⟩))])), (6, .a (.cp (blkC hB0))), (7, .own 7 32 (((tabs l (1 + l.length)).take (i + 1)).map blkC)), (44, .a (.v (.int .u8 ((l.length : Int))))), (45, .a (.v (.int .u8 (((i + 1) : Int)))))], ⟨b4, true, .box [.v (.int .i64 (((1 + (i + 1)) : Nat) : Int))]⟩ :: ro os⟩, ⟨rfl, (Slots.cons rfl (by first | exact .refl _ | exact .nilOwn _ _ | exact .nilSl _ | exact .ownSl _ _ _  | exact SV.le.ownEq (by first | rfl | (rw [map_take (tabs_get hx), List.map_append]; rfl) | (rw [map_take (tabs_get hx)]; rfl)) | exact SV.le.of_eq (by first | rfl | (rw [map_take (tabs_get hx), List.map_append]; rfl) | (rw [map_take (tabs_get hx)]; rfl))) (Slots.cons rfl (by first | exact .refl _ | exact .nilOwn _ _ | exact .nilSl _ | exact .ownSl _ _ _  | exact SV.le.ownEq (by first | rfl | (rw [map_take (tabs_get hx), List.map_append]; rfl) | (rw [map_take (tabs_get hx)]; rfl)) | exact SV.le.of_eq (by first | rfl | (rw [map_take (tabs_get hx), List.map_append]; rfl) | (rw [map_take (tabs_get hx)]; rfl))) (Slots.cons rfl (by first | exact .refl _ | exact .nilOwn _ _ | exact .nilSl _ | exact .ownSl _ _ _  | exact SV.le.ownEq (by first | rfl | (rw [map_take (tabs_get hx), List.map_append]; rfl) | (rw [map_take (tabs_get hx)]; rfl)) | exact SV.le.of_eq (by first | rfl | (rw [map_take (tabs_get hx), List.map_append]; rfl) | (rw [map_take (tabs_get hx)]; rfl))) (Slots.cons rfl (by first | exact .refl _ | exact .nilOwn _ _ | exact .nilSl _ | exact .ownSl _ _ _  | exact SV.le.ownEq (by first | rfl | (rw [map_take (tabs_get hx), List.map_append]; rfl) | (rw [map_take (tabs_get hx)]; rfl)) | exact SV.le.of_eq (by first | rfl | (rw [map_take (tabs_get hx), List.map_append]; rfl) | (rw [map_take (tabs_get hx)]; rfl))) (Slots.cons rfl (by first | exact .refl _ | exact .nilOwn _ _ | exact .nilSl _ | exact .ownSl _ _ _  | exact SV.le.ownEq (by first | rfl | (rw [map_take (tabs_get hx), List.map_append]; rfl) | (rw [map_take (tabs_get hx)]; rfl)) | exact SV.le.of_eq (by first | rfl | (rw [map_take (tabs_get hx), List.map_append]; rfl) | (rw [map_take (tabs_get hx)]; rfl))) (Slots.cons rfl (by first | exact .refl _ | exact .nilOwn _ _ | exact .nilSl _ | exact .ownSl _ _ _  | exact SV.le.ownEq (by first | rfl | (rw [map_take (tabs_get hx), List.map_append]; rfl) | (rw [map_take (tabs_get hx)]; rfl)) | exact SV.le.of_eq (by first | rfl | (rw [map_take (tabs_get hx), List.map_append]; rfl) | (rw [map_take (tabs_get hx)]; rfl))) (Slots.cons rfl (by first | exact .refl _ | exact .nilOwn _ _ | exact .nilSl _ | exact .ownSl _ _ _  | exact SV.le.ownEq (by first | rfl | (rw [map_take (tabs_get hx), List.map_append]; rfl) | (rw [map_take (tabs_get hx)]; rfl)) | exact SV.le.of_eq (by first | rfl | (rw [map_take (tabs_get hx), List.map_append]; rfl) | (rw [map_take (tabs_get hx)]; rfl))) Slots.nil))))))), (List.Sublist.refl _)⟩, (by omega), ⟨i + 1, rfl, rfl, (by omega)⟩⟩
   ·
    obtain rfl : i = l.length := by have := of_decide_eq_false hc2; omega
    have hTt : (tabs l (1 + l.length)).take l.length = (tabs l (1 + l.length)) := List.take_of_length_le (by rw [tabs_len]; exact Nat.le_refl _)
    have hTl : ((tabs l (1 + l.length)).map blkC).length = l.length := by rw [List.length_map, tabs_len]
    rw [hTt]
    refine awp_exit ?_
    refine x_thenE ?_
    refine x_thenE ?_
    refine x_blockE ?_
    refine x_then ?_
    refine awp_seq ?_
    refine awp_seq ?_
    refine awp_region ?_
    refine r_arrC (u8s (bpart hB0 6 8)) (arr_part hB0 6 8) rfl TG.un33 TG.sz5 rfl (.some rfl) (.some rfl) (by omega) (by omega) rfl ?_
    rw [h68]
    refine r_call0 hq rfl rfl (.cons (.ev rfl rfl) .nil) (get2_ok _ _) rfl TG.en37 rfl (fun r hr => ?_)
    obtain rfl := hr
    refine r_move rfl rfl ?_
    refine r_extract rfl rfl rfl ?_
    refine r_extract rfl rfl rfl ?_
    refine r_assign rfl rfl ?_
    refine r_assign rfl rfl ?_
    refine awl_nil ?_
    refine x_then ?_
    refine awp_seq ?_
    refine awp_region ?_
    refine r_move rfl rfl ?_
    refine r_move rfl rfl ?_
    refine r_call0 hq rfl rfl (.cons (.ev rfl rfl) .nil) (sum_ok (tabs l (1 + l.length)) (by rw [tabs_len]; omega)) rfl TG.en38 rfl (fun r hr => ?_)
    obtain rfl := hr
    refine r_cmp rfl rfl rfl rfl ?_
    refine awl_nil ?_
    refine x_then ?_
    refine awp_cond rfl (fun hc3 => ?_) (fun hc3 => ?_)
    ·
     exfalso; rw [g2_be2 (sum_lt _)] at hc3; simp at hc3
    ·
     refine awp_skip ?_
     refine x_then ?_
     refine awp_seq ?_
     refine awp_region ?_
     refine r_assign rfl rfl ?_
     refine awl_nil ?_
     refine x_then ?_
     refine awp_seq ?_
     refine awp_region ?_
     refine r_load1b 0 rfl rfl rfl TG.agg3 rfl ?_
     refine r_assign rfl rfl ?_
     refine awl_nil ?_
     refine x_then ?_
     refine awp_seq ?_
     refine awp_region ?_
     refine r_move rfl rfl ?_
     refine r_lenS rfl rfl TG.sl59 rfl ?_
     rw [hTl]
     refine r_makeSlice rfl rfl TG.sl87 TG.sz3 TG.by3 TG.zraw3 (by omega) (by omega) rfl (fun b65 => ?_)
     refine r_assign rfl rfl ?_
     refine awl_nil ?_
     refine x_then ?_
     refine awp_seq ?_
     refine awp_seq ?_
     refine awp_region ?_
     refine r_move rfl rfl ?_
     refine r_lenS rfl rfl TG.sl59 rfl ?_
     rw [hTl]
     refine r_move rfl rfl ?_
     refine awl_nil ?_
     refine x_then ?_
     refine awp_block ?_
     refine awp_loop (fun nn0 S => ∃ i : Nat, ∃ A : Option Addr, ∃ cap : Nat, ∃ O : List OE, S = ⟨143, [(1, .a (.cp [.fn f caps])), (4, .a (.v (.pointer (some ⟨b4, 0, none⟩)))), (5, .a (.fn 34 [.cp [.fn f caps], .v (.pointer (some ⟨b4, 0, none⟩))])), (10, .a (.v (.slice A i cap))), (11, .a (.v (.int .i64 (((atF l i : Nat) : Int))))), (12, .a (.v (.slice (some ⟨b65, 0, none⟩) l.length l.length))), (66, .a (blksA (tabs l (1 + l.length)))), (67, .a (.v (.int .i64 ((l.length : Int))))), (68, .a (.v (.int .i64 ((i : Int)))))], O ++ (⟨b65, true, .box (szB l i)⟩ :: ⟨b4, true, .box [.v (.int .i64 (((1 + l.length) : Nat) : Int))]⟩ :: ro os)⟩ ∧ nn0 = l.length - i ∧ (i ≤ l.length) ∧ (OutO 26 l i A cap O)) (l.length - (0)) ⟨143, [(1, .a (.cp [.fn f caps])), (4, .a (.v (.pointer (some ⟨b4, 0, none⟩)))), (5, .a (.fn 34 [.cp [.fn f caps], .v (.pointer (some ⟨b4, 0, none⟩))])), (10, .a (.v (.slice (none) (0) (0)))), (11, .a (.v (.int .i64 (((atF l (0) : Nat) : Int))))), (12, .a (.v (.slice (some ⟨b65, 0, none⟩) l.length l.length))), (66, .a (blksA (tabs l (1 + l.length)))), (67, .a (.v (.int .i64 ((l.length : Int))))), (68, .a (.v (.int .i64 (((0) : Int)))))], ([]) ++ (⟨b65, true, .box (szB l (0))⟩ :: ⟨b4, true, .box [.v (.int .i64 (((1 + l.length) : Nat) : Int))]⟩ :: ro os)⟩ ⟨rfl, (Slots.cons rfl (by first | exact .refl _ | exact .nilOwn _ _ | exact .nilSl _ | exact .ownSl _ _ _  | exact SV.le.ownEq (by first | (rw [atF_zero]; done) | simp) | exact SV.le.of_eq (by first | (rw [atF_zero]; done) | simp)) (Slots.cons rfl (by first | exact .refl _ | exact .nilOwn _ _ | exact .nilSl _ | exact .ownSl _ _ _  | exact SV.le.ownEq (by first | (rw [atF_zero]; done) | simp) | exact SV.le.of_eq (by first | (rw [atF_zero]; done) | simp)) (Slots.cons rfl (by first | exact .refl _ | exact .nilOwn _ _ | exact .nilSl _ | exact .ownSl _ _ _  | exact SV.le.ownEq (by first | (rw [atF_zero]; done) | simp) | exact SV.le.of_eq (by first | (rw [atF_zero]; done) | simp)) (Slots.cons rfl (by first | exact .refl _ | exact .nilOwn _ _ | exact .nilSl _ | exact .ownSl _ _ _  | exact SV.le.ownEq (by first | (rw [atF_zero]; done) | simp) | exact SV.le.of_eq (by first | (rw [atF_zero]; done) | simp)) (Slots.cons rfl (by first | exact .refl _ | exact .nilOwn _ _ | exact .nilSl _ | exact .ownSl _ _ _  | exact SV.le.ownEq (by first | (rw [atF_zero]; done) | simp) | exact SV.le.of_eq (by first | (rw [atF_zero]; done) | simp)) (Slots.cons rfl (by first | exact .refl _ | exact .nilOwn _ _ | exact .nilSl _ | exact .ownSl _ _ _  | exact SV.le.ownEq (by first | (rw [atF_zero]; done) | simp) | exact SV.le.of_eq (by first | (rw [atF_zero]; done) | simp)) (Slots.cons rfl (by first | exact .refl _ | exact .nilOwn _ _ | exact .nilSl _ | exact .ownSl _ _ _  | exact SV.le.ownEq (by first | (rw [atF_zero]; done) | simp) | exact SV.le.of_eq (by first | (rw [atF_zero]; done) | simp)) (Slots.cons rfl (by first | exact .refl _ | exact .nilOwn _ _ | exact .nilSl _ | exact .ownSl _ _ _  | exact SV.le.ownEq (by first | (rw [atF_zero]; done) | simp) | exact SV.le.of_eq (by first | (rw [atF_zero]; done) | simp)) (Slots.cons rfl (by first | exact .refl _ | exact .nilOwn _ _ | exact .nilSl _ | exact .ownSl _ _ _  | exact SV.le.ownEq (by first | (rw [atF_zero]; done) | simp) | exact SV.le.of_eq (by first | (rw [atF_zero]; done) | simp)) Slots.nil))))))))), (by rw [szB_zero]; exact List.Sublist.refl _)⟩ ⟨0, none, 0, [], rfl, rfl, Nat.zero_le _, (.inl ⟨rfl, rfl, rfl, rfl⟩)⟩ ?_
     rintro nn0 _ ⟨i, A, cap, O, rfl, rfl, hi, hO⟩
     refine awp_seq ?_
     refine awp_region ?_
     refine r_cmp rfl rfl rfl rfl ?_
     refine awl_nil ?_
     refine x_then ?_
     refine awp_seq ?_
     refine awp_cond rfl (fun hc4 => ?_) (fun hc4 => ?_)
     ·
      have hlti : i < l.length := by have := of_decide_eq_true hc4; omega
      obtain ⟨x, hx⟩ := get_lt hlti
      have hrx := tog_right htog (List.mem_of_getElem? hx)
      obtain ⟨hn1, hn12, hd256⟩ := right_bnd hrx
      have hat := atF_small hok (k := i) (by omega)
      have hml := many_le hd256
      refine awp_skip ?_
      refine x_then ?_
      refine awp_seq ?_
      refine awp_block ?_
      refine awp_seq ?_
      refine awp_region ?_
      refine r_move rfl rfl ?_
      refine r_index rfl rfl rfl TG.sl59 TG.sz33 (by omega) (get_map (tabs_get hx)) rfl ?_
      refine r_loadA rfl TG.agg33 TG.sz33 rfl rfl ?_
      refine r_alloc TG.zero33 rfl (fun b14 => ?_)
      refine r_assign rfl rfl ?_
      refine r_store 0 rfl rfl rfl TG.sz33 rfl rfl rfl ?_
      refine awl_nil ?_
      refine x_then ?_
      refine awp_seq ?_
      refine awp_region ?_
      refine r_loadAbe 0 (blkC (tabF x (atF l i))) rfl rfl rfl TG.agg33 TG.sz33 rfl rfl ?_
      refine r_call0 hq rfl rfl (.cons (.ev rfl rfl) .nil) (entryG_ok (tabF x (atF l i)) x.name.size hn12 (tab_idx hrx) _ _ _ _ (tab_size hn12) (tab_at hn12) (tab_z1 hn12) (tab_z2 hn12)) rfl TG.en39 rfl (fun r hr => ?_)
      obtain rfl := hr
      rw [tab_nm hn12, g2_be2 (show x.data.length < 65536 by omega), g2_be2 (show (if x.data = [] then 0 else atF l i) < 65536 by split <;> omega)]
      refine r_move rfl rfl ?_
      refine r_extract rfl rfl rfl ?_
      refine r_extract rfl rfl rfl ?_
      refine r_extract rfl rfl rfl ?_
      refine r_extract rfl rfl rfl ?_
      refine r_assign rfl rfl ?_
      refine r_assign rfl rfl ?_
      refine r_assign rfl rfl ?_
      refine r_assign rfl rfl ?_
      refine awl_nil ?_
      refine x_then ?_
      refine awp_seq ?_
      refine awp_region ?_
      refine r_move rfl rfl ?_
      refine r_assign rfl rfl ?_
      refine awl_nil ?_
      refine x_then ?_
      refine awp_cut (fun S => S = ⟨143, [(1, .a (.cp [.fn f caps])), (4, .a (.v (.pointer (some ⟨b4, 0, none⟩)))), (5, .a (.fn 34 [.cp [.fn f caps], .v (.pointer (some ⟨b4, 0, none⟩))])), (10, .a (.v (.slice A i cap))), (11, .a (.v (.int .i64 (((atF l i : Nat) : Int))))), (12, .a (.v (.slice (some ⟨b65, 0, none⟩) l.length l.length))), (66, .a (blksA (tabs l (1 + l.length)))), (67, .a (.v (.int .i64 ((l.length : Int))))), (68, .a (.v (.int .i64 ((i : Int))))), (13, .a (.v (.int .i64 ((i : Int))))), (15, .a (.v (.string x.name))), (16, .a (.v (.int .i64 ((x.data.length : Int))))), (17, .a (.v (.int .i64 (((if x.data = [] then 0 else atF l i : Nat) : Int))))), (18, .a (.v (.bool true))), (19, .a (.v (.int .i64 (((if x.data = [] then 0 else atF l i : Nat) : Int)))))], O ++ (⟨b65, true, .box (szB l i)⟩ :: ⟨b4, true, .box [.v (.int .i64 (((1 + l.length) : Nat) : Int))]⟩ :: ro os)⟩) ?_ ?_
      ·
       refine awp_seq ?_
       refine awp_region ?_
       refine r_move rfl rfl ?_
       refine r_cmp rfl rfl rfl rfl ?_
       refine awl_nil ?_
       refine x_then ?_
       refine awp_cond rfl (fun hc5 => ?_) (fun hc5 => ?_)
       ·
        have hv : (if x.data = [] then 0 else atF l i) = 0 := if_pos (List.eq_nil_of_length_eq_zero (by have := eq_of_beq hc5; omega))
        refine awp_region ?_
        refine r_assign rfl rfl ?_
        refine awl_nil ?_
        refine x_then ?_
        refine ⟨⟨143, [(1, .a (.cp [.fn f caps])), (4, .a (.v (.pointer (some ⟨b4, 0, none⟩)))), (5, .a (.fn 34 [.cp [.fn f caps], .v (.pointer (some ⟨b4, 0, none⟩))])), (10, .a (.v (.slice A i cap))), (11, .a (.v (.int .i64 (((atF l i : Nat) : Int))))), (12, .a (.v (.slice (some ⟨b65, 0, none⟩) l.length l.length))), (66, .a (blksA (tabs l (1 + l.length)))), (67, .a (.v (.int .i64 ((l.length : Int))))), (68, .a (.v (.int .i64 ((i : Int))))), (13, .a (.v (.int .i64 ((i : Int))))), (15, .a (.v (.string x.name))), (16, .a (.v (.int .i64 ((x.data.length : Int))))), (17, .a (.v (.int .i64 (((if x.data = [] then 0 else atF l i : Nat) : Int))))), (18, .a (.v (.bool true))), (19, .a (.v (.int .i64 (((if x.data = [] then 0 else atF l i : Nat) : Int)))))], O ++ (⟨b65, true, .box (szB l i)⟩ :: ⟨b4, true, .box [.v (.int .i64 (((1 + l.length) : Nat) : Int))]⟩ :: ro os)⟩, ⟨rfl, (Slots.cons rfl (by first | exact .refl _ | exact .nilOwn _ _ | exact .nilSl _ | exact .ownSl _ _ _  | exact SV.le.ownEq (by first | (rw [hv]; done) | (rw [hv]; rfl)) | exact SV.le.of_eq (by first | (rw [hv]; done) | (rw [hv]; rfl))) (Slots.cons rfl (by first | exact .refl _ | exact .nilOwn _ _ | exact .nilSl _ | exact .ownSl _ _ _  | exact SV.le.ownEq (by first | (rw [hv]; done) | (rw [hv]; rfl)) | exact SV.le.of_eq (by first | (rw [hv]; done) | (rw [hv]; rfl))) (Slots.cons rfl (by first | exact .refl _ | exact .nilOwn _ _ | exact .nilSl _ | exact .ownSl _ _ _  | exact SV.le.ownEq (by first | (rw [hv]; done) | (rw [hv]; rfl)) | exact SV.le.of_eq (by first | (rw [hv]; done) | (rw [hv]; rfl))) (Slots.cons rfl (by first | exact .refl _ | exact .nilOwn _ _ | exact .nilSl _ | exact .ownSl _ _ _  | exact SV.le.ownEq (by first | (rw [hv]; done) | (rw [hv]; rfl)) | exact SV.le.of_eq (by first | (rw [hv]; done) | (rw [hv]; rfl))) (Slots.cons rfl (by first | exact .refl _ | exact .nilOwn _ _ | exact .nilSl _ | exact .ownSl _ _ _  | exact SV.le.ownEq (by first | (rw [hv]; done) | (rw [hv]; rfl)) | exact SV.le.of_eq (by first | (rw [hv]; done) | (rw [hv]; rfl))) (Slots.cons rfl (by first | exact .refl _ | exact .nilOwn _ _ | exact .nilSl _ | exact .ownSl _ _ _  | exact SV.le.ownEq (by first | (rw [hv]; done) | (rw [hv]; rfl)) | exact SV.le.of_eq (by first | (rw [hv]; done) | (rw [hv]; rfl))) (Slots.cons rfl (by first | exact .refl _ | exact .nilOwn _ _ | exact .nilSl _ | exact .ownSl _ _ _  | exact SV.le.ownEq (by first | (rw [hv]; done) | (rw [hv]; rfl)) | exact SV.le.of_eq (by first | (rw [hv]; done) | (rw [hv]; rfl))) (Slots.cons rfl (by first | exact .refl _ | exact .nilOwn _ _ | exact .nilSl _ | exact .ownSl _ _ _  | exact SV.le.ownEq (by first | (rw [hv]; done) | (rw [hv]; rfl)) | exact SV.le.of_eq (by first | (rw [hv]; done) | (rw [hv]; rfl))) (Slots.cons rfl (by first | exact .refl _ | exact .nilOwn _ _ | exact .nilSl _ | exact .ownSl _ _ _  | exact SV.le.ownEq (by first | (rw [hv]; done) | (rw [hv]; rfl)) | exact SV.le.of_eq (by first | (rw [hv]; done) | (rw [hv]; rfl))) (Slots.cons rfl (by first | exact .refl _ | exact .nilOwn _ _ | exact .nilSl _ | exact .ownSl _ _ _  | exact SV.le.ownEq (by first | (rw [hv]; done) | (rw [hv]; rfl)) | exact SV.le.of_eq (by first | (rw [hv]; done) | (rw [hv]; rfl))) (Slots.cons rfl (by first | exact .refl _ | exact .nilOwn _ _ | exact .nilSl _ | exact .ownSl _ _ _  | exact SV.le.ownEq (by first | (rw [hv]; done) | (rw [hv]; rfl)) | exact SV.le.of_eq (by first | (rw [hv]; done) | (rw [hv]; rfl))) (Slots.cons rfl (by first | exact .refl _ | exact .nilOwn _ _ | exact .nilSl _ | exact .ownSl _ _ _  | exact SV.le.ownEq (by first | (rw [hv]; done) | (rw [hv]; rfl)) | exact SV.le.of_eq (by first | (rw [hv]; done) | (rw [hv]; rfl))) (Slots.cons rfl (by first | exact .refl _ | exact .nilOwn _ _ | exact .nilSl _ | exact .ownSl _ _ _  | exact SV.le.ownEq (by first | (rw [hv]; done) | (rw [hv]; rfl)) | exact SV.le.of_eq (by first | (rw [hv]; done) | (rw [hv]; rfl))) (Slots.cons rfl (by first | exact .refl _ | exact .nilOwn _ _ | exact .nilSl _ | exact .ownSl _ _ _  | exact SV.le.ownEq (by first | (rw [hv]; done) | (rw [hv]; rfl)) | exact SV.le.of_eq (by first | (rw [hv]; done) | (rw [hv]; rfl))) (Slots.cons rfl (by first | exact .refl _ | exact .nilOwn _ _ | exact .nilSl _ | exact .ownSl _ _ _  | exact SV.le.ownEq (by first | (rw [hv]; done) | (rw [hv]; rfl)) | exact SV.le.of_eq (by first | (rw [hv]; done) | (rw [hv]; rfl))) Slots.nil))))))))))))))), (.cons _ (.refl _))⟩, rfl⟩
       ·
        have hv : (if x.data = [] then 0 else atF l i) = atF l i := if_neg (fun h => by rw [h] at hc5; simp at hc5)
        refine awp_skip ?_
        refine x_then ?_
        refine ⟨⟨143, [(1, .a (.cp [.fn f caps])), (4, .a (.v (.pointer (some ⟨b4, 0, none⟩)))), (5, .a (.fn 34 [.cp [.fn f caps], .v (.pointer (some ⟨b4, 0, none⟩))])), (10, .a (.v (.slice A i cap))), (11, .a (.v (.int .i64 (((atF l i : Nat) : Int))))), (12, .a (.v (.slice (some ⟨b65, 0, none⟩) l.length l.length))), (66, .a (blksA (tabs l (1 + l.length)))), (67, .a (.v (.int .i64 ((l.length : Int))))), (68, .a (.v (.int .i64 ((i : Int))))), (13, .a (.v (.int .i64 ((i : Int))))), (15, .a (.v (.string x.name))), (16, .a (.v (.int .i64 ((x.data.length : Int))))), (17, .a (.v (.int .i64 (((if x.data = [] then 0 else atF l i : Nat) : Int))))), (18, .a (.v (.bool true))), (19, .a (.v (.int .i64 (((if x.data = [] then 0 else atF l i : Nat) : Int)))))], O ++ (⟨b65, true, .box (szB l i)⟩ :: ⟨b4, true, .box [.v (.int .i64 (((1 + l.length) : Nat) : Int))]⟩ :: ro os)⟩, ⟨rfl, (Slots.cons rfl (by first | exact .refl _ | exact .nilOwn _ _ | exact .nilSl _ | exact .ownSl _ _ _  | exact SV.le.ownEq (by first | (rw [hv]; done) | (rw [hv]; rfl)) | exact SV.le.of_eq (by first | (rw [hv]; done) | (rw [hv]; rfl))) (Slots.cons rfl (by first | exact .refl _ | exact .nilOwn _ _ | exact .nilSl _ | exact .ownSl _ _ _  | exact SV.le.ownEq (by first | (rw [hv]; done) | (rw [hv]; rfl)) | exact SV.le.of_eq (by first | (rw [hv]; done) | (rw [hv]; rfl))) (Slots.cons rfl (by first | exact .refl _ | exact .nilOwn _ _ | exact .nilSl _ | exact .ownSl _ _ _  | exact SV.le.ownEq (by first | (rw [hv]; done) | (rw [hv]; rfl)) | exact SV.le.of_eq (by first | (rw [hv]; done) | (rw [hv]; rfl))) (Slots.cons rfl (by first | exact .refl _ | exact .nilOwn _ _ | exact .nilSl _ | exact .ownSl _ _ _  | exact SV.le.ownEq (by first | (rw [hv]; done) | (rw [hv]; rfl)) | exact SV.le.of_eq (by first | (rw [hv]; done) | (rw [hv]; rfl))) (Slots.cons rfl (by first | exact .refl _ | exact .nilOwn _ _ | exact .nilSl _ | exact .ownSl _ _ _  | exact SV.le.ownEq (by first | (rw [hv]; done) | (rw [hv]; rfl)) | exact SV.le.of_eq (by first | (rw [hv]; done) | (rw [hv]; rfl))) (Slots.cons rfl (by first | exact .refl _ | exact .nilOwn _ _ | exact .nilSl _ | exact .ownSl _ _ _  | exact SV.le.ownEq (by first | (rw [hv]; done) | (rw [hv]; rfl)) | exact SV.le.of_eq (by first | (rw [hv]; done) | (rw [hv]; rfl))) (Slots.cons rfl (by first | exact .refl _ | exact .nilOwn _ _ | exact .nilSl _ | exact .ownSl _ _ _  | exact SV.le.ownEq (by first | (rw [hv]; done) | (rw [hv]; rfl)) | exact SV.le.of_eq (by first | (rw [hv]; done) | (rw [hv]; rfl))) (Slots.cons rfl (by first | exact .refl _ | exact .nilOwn _ _ | exact .nilSl _ | exact .ownSl _ _ _  | exact SV.le.ownEq (by first | (rw [hv]; done) | (rw [hv]; rfl)) | exact SV.le.of_eq (by first | (rw [hv]; done) | (rw [hv]; rfl))) (Slots.cons rfl (by first | exact .refl _ | exact .nilOwn _ _ | exact .nilSl _ | exact .ownSl _ _ _  | exact SV.le.ownEq (by first | (rw [hv]; done) | (rw [hv]; rfl)) | exact SV.le.of_eq (by first | (rw [hv]; done) | (rw [hv]; rfl))) (Slots.cons rfl (by first | exact .refl _ | exact .nilOwn _ _ | exact .nilSl _ | exact .ownSl _ _ _  | exact SV.le.ownEq (by first | (rw [hv]; done) | (rw [hv]; rfl)) | exact SV.le.of_eq (by first | (rw [hv]; done) | (rw [hv]; rfl))) (Slots.cons rfl (by first | exact .refl _ | exact .nilOwn _ _ | exact .nilSl _ | exact .ownSl _ _ _  | exact SV.le.ownEq (by first | (rw [hv]; done) | (rw [hv]; rfl)) | exact SV.le.of_eq (by first | (rw [hv]; done) | (rw [hv]; rfl))) (Slots.cons rfl (by first | exact .refl _ | exact .nilOwn _ _ | exact .nilSl _ | exact .ownSl _ _ _  | exact SV.le.ownEq (by first | (rw [hv]; done) | (rw [hv]; rfl)) | exact SV.le.of_eq (by first | (rw [hv]; done) | (rw [hv]; rfl))) (Slots.cons rfl (by first | exact .refl _ | exact .nilOwn _ _ | exact .nilSl _ | exact .ownSl _ _ _  | exact SV.le.ownEq (by first | (rw [hv]; done) | (rw [hv]; rfl)) | exact SV.le.of_eq (by first | (rw [hv]; done) | (rw [hv]; rfl))) (Slots.cons rfl (by first | exact .refl _ | exact .nilOwn _ _ | exact .nilSl _ | exact .ownSl _ _ _  | exact SV.le.ownEq (by first | (rw [hv]; done) | (rw [hv]; rfl)) | exact SV.le.of_eq (by first | (rw [hv]; done) | (rw [hv]; rfl))) (Slots.cons rfl (by first | exact .refl _ | exact .nilOwn _ _ | exact .nilSl _ | exact .ownSl _ _ _  | exact SV.le.ownEq (by first | (rw [hv]; done) | (rw [hv]; rfl)) | exact SV.le.of_eq (by first | (rw [hv]; done) | (rw [hv]; rfl))) Slots.nil))))))))))))))), (.cons _ (.refl _))⟩, rfl⟩
      ·
       rintro _ ⟨rfl⟩
       refine awp_seq ?_
       refine awp_seq ?_
       refine awp_region ?_
       refine r_move rfl rfl ?_
       refine r_not rfl rfl ?_
       refine r_move rfl rfl ?_
       refine g_run rfl rfl rfl ?_
       refine r_move rfl rfl ?_
       refine g_run rfl rfl rfl ?_
       refine r_cmp rfl rfl rfl rfl ?_
       refine r_pickF rfl rfl rfl rfl ?_
       refine r_move rfl rfl ?_
       refine g_run rfl rfl (decide_eq_false (by omega)) ?_
       refine r_move rfl rfl ?_
       refine g_run rfl rfl (decide_eq_false (by omega)) ?_
       refine r_move rfl rfl ?_
       refine g_run rfl rfl (decide_eq_false (by omega)) ?_
       refine r_cmp rfl rfl rfl rfl ?_
       refine r_pickF rfl (decide_eq_false (by omega)) rfl rfl ?_
       refine awl_nil ?_
       refine x_then ?_
       refine awp_cond rfl (fun hc6 => ?_) (fun hc6 => ?_)
       ·
        exfalso; simp at hc6
       ·
        refine awp_skip ?_
        refine x_then ?_
        refine awp_seq ?_
        refine awp_region ?_
        refine r_move rfl rfl ?_
        rcases hO with ⟨rfl, rfl, rfl, rfl⟩ | ⟨h0, g, rfl, rfl⟩
        ·
         have hb1 : ((bareL (l.take (0 + 1))).map File.cs) = [[.v (.string x.name), bts []]] := by rw [bareL_snoc hx]; rfl
         refine r_move rfl rfl ?_
         refine r_move rfl rfl ?_
         refine r_move rfl rfl ?_
         refine r_build (parts := [(0, .tmp 97)]) rfl TG.pl26 TG.zero26 rfl rfl rfl ?_
         refine r_lit 99 (parts := [(0, .tmp 98)]) rfl TG.sl24 TG.sz26 TG.zraw26 rfl rfl rfl rfl rfl rfl rfl ?_
         refine r_appendBN rfl rfl (by first | exact .sl _ | exact .own _ _) (by simp [chunks]) TG.sl24 TG.sz26 TG.by26 TG.zlen26 (by simp [chunks] <;> omega) (by simp [chunks] <;> omega) rfl (fun gb gc => ?_)
         refine r_move rfl rfl ?_
         refine r_assign rfl rfl ?_
         refine r_indexV rfl rfl TG.sl87 TG.sz3 (by omega) (by omega) rfl ?_
         refine r_store 1 rfl rfl rfl TG.sz3 rfl (Nat.ble_eq_true_of_le (by rw [szB_len (by omega)]; omega)) rfl ?_
         refine awl_nil ?_
         refine x_then ?_
         refine awp_region ?_
         refine r_move rfl rfl ?_
         refine r_move rfl rfl ?_
         refine r_call0 hq rfl rfl (.cons (.ev rfl rfl) .nil) (many_ok x.data.length (by omega)) rfl TG.en40 rfl (fun r hr => ?_)
         obtain rfl := hr
         refine r_ari ((atF l (_ + 1) : Nat) : Int) rfl rfl rfl (by rw [atF_step hx, wrap_id (by omega)]; omega) rfl ?_
         refine r_assign rfl rfl ?_
         refine awl_nil ?_
         refine x_block ?_
         refine x_then ?_
         refine awp_region ?_
         refine r_ari _ rfl rfl rfl (wrap_id (by first | omega | (simp; omega))) rfl ?_
         refine r_move rfl rfl ?_
         refine awl_nil ?_
         refine x_then ?_
         refine ⟨l.length - (0 + 1), ⟨143, [(1, .a (.cp [.fn f caps])), (4, .a (.v (.pointer (some ⟨b4, 0, none⟩)))), (5, .a (.fn 34 [.cp [.fn f caps], .v (.pointer (some ⟨b4, 0, none⟩))])), (10, .a (.v (.slice ((some ⟨gb, 0, none⟩)) (0 + 1) (gc)))), (11, .a (.v (.int .i64 (((atF l (0 + 1) : Nat) : Int))))), (12, .a (.v (.slice (some ⟨b65, 0, none⟩) l.length l.length))), (66, .a (blksA (tabs l (1 + l.length)))), (67, .a (.v (.int .i64 ((l.length : Int))))), (68, .a (.v (.int .i64 (((0 + 1) : Int)))))], ([⟨gb, true, .buf 2 ((bareL (l.take (0 + 1))).map File.cs) gc 26⟩]) ++ (⟨b65, true, .box (szB l (0 + 1))⟩ :: ⟨b4, true, .box [.v (.int .i64 (((1 + l.length) : Nat) : Int))]⟩ :: ro os)⟩, ⟨rfl, (Slots.cons rfl (by first | exact .refl _ | exact .nilOwn _ _ | exact .nilSl _ | exact .ownSl _ _ _  | exact SV.le.of_eq (by simp)) (Slots.cons rfl (by first | exact .refl _ | exact .nilOwn _ _ | exact .nilSl _ | exact .ownSl _ _ _  | exact SV.le.of_eq (by simp)) (Slots.cons rfl (by first | exact .refl _ | exact .nilOwn _ _ | exact .nilSl _ | exact .ownSl _ _ _  | exact SV.le.of_eq (by simp)) (Slots.cons rfl (by first | exact .refl _ | exact .nilOwn _ _ | exact .nilSl _ | exact .ownSl _ _ _  | exact SV.le.of_eq (by simp)) (Slots.cons rfl (by first | exact .refl _ | exact .nilOwn _ _ | exact .nilSl _ | exact .ownSl _ _ _  | exact SV.le.of_eq (by simp)) (Slots.cons rfl (by first | exact .refl _ | exact .nilOwn _ _ | exact .nilSl _ | exact .ownSl _ _ _  | exact SV.le.of_eq (by simp)) (Slots.cons rfl (by first | exact .refl _ | exact .nilOwn _ _ | exact .nilSl _ | exact .ownSl _ _ _  | exact SV.le.of_eq (by simp)) (Slots.cons rfl (by first | exact .refl _ | exact .nilOwn _ _ | exact .nilSl _ | exact .ownSl _ _ _  | exact SV.le.of_eq (by simp)) (Slots.cons rfl (by first | exact .refl _ | exact .nilOwn _ _ | exact .nilSl _ | exact .ownSl _ _ _  | exact SV.le.of_eq (by simp)) Slots.nil))))))))), (by rw [hb1, ← szB_step hx]; exact List.Sublist.refl _)⟩, (by omega), ⟨0 + 1, (some ⟨gb, 0, none⟩), gc, [⟨gb, true, .buf 2 ((bareL (l.take (0 + 1))).map File.cs) gc 26⟩], rfl, rfl, (by omega), (.inr ⟨by omega, gb, rfl, rfl⟩)⟩⟩
        ·
         have hrl : ((bareL (l.take (i))).map File.cs).length = i := by rw [List.length_map, bareL_len, List.length_take]; omega
         have hb1 : ((bareL (l.take (i + 1))).map File.cs) = ((bareL (l.take (i))).map File.cs) ++ [[.v (.string x.name), bts []]] := by rw [bareL_snoc hx, List.map_append]; rfl
         refine r_move rfl rfl ?_
         refine r_move rfl rfl ?_
         refine r_move rfl rfl ?_
         refine r_build (parts := [(0, .tmp 97)]) rfl TG.pl26 TG.zero26 rfl rfl rfl ?_
         refine r_lit 99 (parts := [(0, .tmp 98)]) rfl TG.sl24 TG.sz26 TG.zraw26 rfl rfl rfl rfl rfl rfl rfl ?_
         refine r_appendBG 0 rfl hrl.symm rfl rfl (by first | exact .sl _ | exact .own _ _) (by simp [chunks]) TG.sl24 TG.sz26 TG.by26 TG.zlen26 (by simp only [hrl]; simp [chunks] <;> omega) (by simp only [hrl]; simp [chunks] <;> omega) rfl (fun gb gc => ?_)
         refine r_move rfl rfl ?_
         refine r_assign rfl rfl ?_
         refine r_indexV rfl rfl TG.sl87 TG.sz3 (by omega) (by omega) rfl ?_
         refine r_store 1 rfl rfl rfl TG.sz3 rfl (Nat.ble_eq_true_of_le (by rw [szB_len (by omega)]; omega)) rfl ?_
         refine awl_nil ?_
         refine x_then ?_
         refine awp_region ?_
         refine r_move rfl rfl ?_
         refine r_move rfl rfl ?_
         refine r_call0 hq rfl rfl (.cons (.ev rfl rfl) .nil) (many_ok x.data.length (by omega)) rfl TG.en40 rfl (fun r hr => ?_)
         obtain rfl := hr
         refine r_ari ((atF l (_ + 1) : Nat) : Int) rfl rfl rfl (by rw [atF_step hx, wrap_id (by omega)]; omega) rfl ?_
         refine r_assign rfl rfl ?_
         refine awl_nil ?_
         refine x_block ?_
         refine x_then ?_
         refine awp_region ?_
         refine r_ari _ rfl rfl rfl (wrap_id (by first | omega | (simp; omega))) rfl ?_
         refine r_move rfl rfl ?_
         refine awl_nil ?_
         refine x_then ?_
         refine ⟨l.length - (i + 1), ⟨143, [(1, .a (.cp [.fn f caps])), (4, .a (.v (.pointer (some ⟨b4, 0, none⟩)))), (5, .a (.fn 34 [.cp [.fn f caps], .v (.pointer (some ⟨b4, 0, none⟩))])), (10, .a (.v (.slice ((some ⟨gb, 0, none⟩)) (i + 1) (gc)))), (11, .a (.v (.int .i64 (((atF l (i + 1) : Nat) : Int))))), (12, .a (.v (.slice (some ⟨b65, 0, none⟩) l.length l.length))), (66, .a (blksA (tabs l (1 + l.length)))), (67, .a (.v (.int .i64 ((l.length : Int))))), (68, .a (.v (.int .i64 (((i + 1) : Int)))))], ([⟨gb, true, .buf 2 ((bareL (l.take (i + 1))).map File.cs) gc 26⟩]) ++ (⟨b65, true, .box (szB l (i + 1))⟩ :: ⟨b4, true, .box [.v (.int .i64 (((1 + l.length) : Nat) : Int))]⟩ :: ro os)⟩, ⟨rfl, (Slots.cons rfl (by first | exact .refl _ | exact .nilOwn _ _ | exact .nilSl _ | exact .ownSl _ _ _  | exact SV.le.ownEq (by first | rfl | (rw [List.length_append, hrl]; rfl)) | exact SV.le.of_eq (by first | rfl | (rw [List.length_append, hrl]; rfl))) (Slots.cons rfl (by first | exact .refl _ | exact .nilOwn _ _ | exact .nilSl _ | exact .ownSl _ _ _  | exact SV.le.ownEq (by first | rfl | (rw [List.length_append, hrl]; rfl)) | exact SV.le.of_eq (by first | rfl | (rw [List.length_append, hrl]; rfl))) (Slots.cons rfl (by first | exact .refl _ | exact .nilOwn _ _ | exact .nilSl _ | exact .ownSl _ _ _  | exact SV.le.ownEq (by first | rfl | (rw [List.length_append, hrl]; rfl)) | exact SV.le.of_eq (by first | rfl | (rw [List.length_append, hrl]; rfl))) (Slots.cons rfl (by first | exact .refl _ | exact .nilOwn _ _ | exact .nilSl _ | exact .ownSl _ _ _  | exact SV.le.ownEq (by first | rfl | (rw [List.length_append, hrl]; rfl)) | exact SV.le.of_eq (by first | rfl | (rw [List.length_append, hrl]; rfl))) (Slots.cons rfl (by first | exact .refl _ | exact .nilOwn _ _ | exact .nilSl _ | exact .ownSl _ _ _  | exact SV.le.ownEq (by first | rfl | (rw [List.length_append, hrl]; rfl)) | exact SV.le.of_eq (by first | rfl | (rw [List.length_append, hrl]; rfl))) (Slots.cons rfl (by first | exact .refl _ | exact .nilOwn _ _ | exact .nilSl _ | exact .ownSl _ _ _  | exact SV.le.ownEq (by first | rfl | (rw [List.length_append, hrl]; rfl)) | exact SV.le.of_eq (by first | rfl | (rw [List.length_append, hrl]; rfl))) (Slots.cons rfl (by first | exact .refl _ | exact .nilOwn _ _ | exact .nilSl _ | exact .ownSl _ _ _  | exact SV.le.ownEq (by first | rfl | (rw [List.length_append, hrl]; rfl)) | exact SV.le.of_eq (by first | rfl | (rw [List.length_append, hrl]; rfl))) (Slots.cons rfl (by first | exact .refl _ | exact .nilOwn _ _ | exact .nilSl _ | exact .ownSl _ _ _  | exact SV.le.ownEq (by first | rfl | (rw [List.length_append, hrl]; rfl)) | exact SV.le.of_eq (by first | rfl | (rw [List.length_append, hrl]; rfl))) (Slots.cons rfl (by first | exact .refl _ | exact .nilOwn _ _ | exact .nilSl _ | exact .ownSl _ _ _  | exact SV.le.ownEq (by first | rfl | (rw [List.length_append, hrl]; rfl)) | exact SV.le.of_eq (by first | rfl | (rw [List.length_append, hrl]; rfl))) Slots.nil))))))))), (by rw [hb1, ← szB_step hx]; exact List.Sublist.refl _)⟩, (by omega), ⟨i + 1, (some ⟨gb, 0, none⟩), gc, [⟨gb, true, .buf 2 ((bareL (l.take (i + 1))).map File.cs) gc 26⟩], rfl, rfl, (by omega), (.inr ⟨by omega, gb, rfl, rfl⟩)⟩⟩
     ·
      obtain rfl : i = l.length := by have := of_decide_eq_false hc4; omega
      refine awp_exit ?_
      refine x_thenE ?_
      refine x_thenE ?_
      refine x_blockE ?_
      refine x_then ?_
      refine awp_seq ?_
      refine awp_seq ?_
      refine awp_region ?_
      refine r_move rfl rfl ?_
      rcases hO with ⟨h0, rfl, rfl, rfl⟩ | ⟨h0, g, rfl, rfl⟩
      ·
       have hl0 : l = [] := List.eq_nil_of_length_eq_zero h0
       rw [show AV.v (Value.slice none l.length 0) = AV.v (.slice none 0 0) by rw [h0]]
       refine r_call0 hq rfl rfl (.cons (.nil rfl) .nil) (together_ok [] (by simp) (by simp)) rfl TG.en41 rfl (fun r hr => ?_)
       obtain rfl := hr
       refine r_not rfl rfl ?_
       refine awl_nil ?_
       refine x_then ?_
       refine awp_cond rfl (fun hc7 => ?_) (fun hc7 => ?_)
       ·
        exfalso; first | cases hc7 | exact absurd hc7 (by decide) | simp at hc7
       ·
        refine awp_skip ?_
        refine x_then ?_
        refine awp_seq ?_
        refine awp_seq ?_
        refine awp_region ?_
        refine r_move rfl rfl ?_
        refine r_lenV rfl TG.sl87 rfl ?_
        refine r_move rfl rfl ?_
        refine awl_nil ?_
        refine x_then ?_
        refine awp_block ?_
        refine awp_loop (fun nn0 S => S = ⟨143, [(10, .a (.v (.slice none 0 0))), (112, .a (.v (.int .i64 ((l.length : Int))))), (113, .a (.v (.int .i64 (0))))], []⟩ ∧ nn0 = 0) (0) ⟨143, [(10, .a (.v (.slice none 0 0))), (112, .a (.v (.int .i64 ((l.length : Int))))), (113, .a (.v (.int .i64 (0))))], []⟩ ⟨rfl, (Slots.cons rfl (by first | exact .refl _ | exact .nilOwn _ _ | exact .nilSl _ | exact .ownSl _ _ _  | exact SV.le.of_eq (by simp)) (Slots.cons rfl (by first | exact .refl _ | exact .nilOwn _ _ | exact .nilSl _ | exact .ownSl _ _ _  | exact SV.le.of_eq (by simp)) (Slots.cons rfl (by first | exact .refl _ | exact .nilOwn _ _ | exact .nilSl _ | exact .ownSl _ _ _  | exact SV.le.of_eq (by simp)) Slots.nil))), (by first | exact List.Sublist.refl _ | exact .cons_cons _ (.cons _ (.refl _)) | exact List.nil_sublist _ | exact .cons _ (.refl _) | exact .cons _ (.cons _ (.refl _)) | exact .cons _ (.cons _ (.cons _ (.refl _))) | exact .cons _ (.cons _ (.cons _ (.cons _ (.refl _)))) | exact .cons_cons _ (List.nil_sublist _))⟩ ⟨rfl, rfl⟩ ?_
        rintro nn0 _ ⟨rfl, rfl⟩
        refine awp_seq ?_
        refine awp_region ?_
        refine r_cmp rfl rfl rfl rfl ?_
        refine awl_nil ?_
        refine x_then ?_
        refine awp_seq ?_
        refine awp_cond rfl (fun hc8 => ?_) (fun hc8 => ?_)
        ·
         exfalso; have := of_decide_eq_true hc8; omega
        ·
         refine awp_exit ?_
         refine x_thenE ?_
         refine x_thenE ?_
         refine x_blockE ?_
         refine x_then ?_
         refine awp_seq ?_
         refine awp_region ?_
         refine r_move rfl rfl ?_
         refine r_assign rfl rfl ?_
         refine r_assign rfl rfl ?_
         refine awl_nil ?_
         refine x_then ?_
         refine awp_ret ?_
         exact ⟨(.inl rfl), _, [], (.two (.nil (sz := 2) rfl) (.mk rfl rfl)), ⟨rfl, by rw [hl0]; rfl⟩, (List.nil_sublist _), (by simp)⟩
      ·
       rw [List.take_of_length_le (Nat.le_refl _)]
       refine awl_bufBoxL 0 rfl (fun ext hcap hext => ?_)
       rw [List.length_map, bareL_len] at hcap
       have hext2 : l.length * 2 + ext.length = cap * 2 := by rw [← hext, flat_len (sz := 2) (fun c hc => by obtain ⟨f, _, rfl⟩ := List.mem_map.1 hc; rfl), List.length_map, bareL_len]
       refine r_callO hq rfl rfl (.cons (.ev rfl rfl) .nil) (togetherO_ok (bareL l) (ext := ext) (bareL_len l).symm (by rw [bareL_len]; omega) (fun f hf => by obtain ⟨x, hx, rfl⟩ := List.mem_map.1 hf; have := right_bnd (tog_right htog hx); show x.name.size ≤ _; omega)) rfl TG.en41 (.cons_cons _ (List.nil_sublist _)) rfl (fun r nobjs hr => ?_)
       obtain ⟨rfl, rfl⟩ := hr
       rw [bareL_tog htog]
       refine r_not rfl rfl ?_
       refine awl_nil ?_
       refine x_then ?_
       refine awp_cond rfl (fun hc7 => ?_) (fun hc7 => ?_)
       ·
        exfalso; first | cases hc7 | simp at hc7
       ·
        refine awp_skip ?_
        refine x_then ?_
        refine awp_seq ?_
        refine awp_seq ?_
        refine awp_region ?_
        refine r_move rfl rfl ?_
        refine r_lenV rfl TG.sl87 rfl ?_
        refine r_move rfl rfl ?_
        refine awl_nil ?_
        refine x_then ?_
        refine awp_block ?_
        refine awp_imp (imp_perm (objs := ⟨b4, true, .box [.v (.int .i64 (((1 + l.length) : Nat) : Int))]⟩ :: ⟨g, true, .box (boxF (bareL l) ext)⟩ :: ⟨b65, true, .box (szB l l.length)⟩ :: ro os) perm3) ?_
        refine awp_loop (fun nn0 S => ∃ k : Nat, S = ⟨143, [(1, .a (.cp [.fn f caps])), (4, .a (.v (.pointer (some ⟨b4, 0, none⟩)))), (5, .a (.fn 34 [.cp [.fn f caps], .v (.pointer (some ⟨b4, 0, none⟩))])), (10, .a (.v (.slice (some ⟨g, 0, none⟩) l.length cap))), (111, .a (.v (.slice (some ⟨b65, 0, none⟩) l.length l.length))), (112, .a (.v (.int .i64 ((l.length : Int))))), (113, .a (.v (.int .i64 ((k : Int)))))], ⟨b4, true, .box [.v (.int .i64 (((atF l k) : Nat) : Int))]⟩ :: ⟨g, true, .box (fillF l k ext)⟩ :: ⟨b65, true, .box (szB l l.length)⟩ :: ro os⟩ ∧ nn0 = l.length - k ∧ (k ≤ l.length)) (l.length - (0)) ⟨143, [(1, .a (.cp [.fn f caps])), (4, .a (.v (.pointer (some ⟨b4, 0, none⟩)))), (5, .a (.fn 34 [.cp [.fn f caps], .v (.pointer (some ⟨b4, 0, none⟩))])), (10, .a (.v (.slice (some ⟨g, 0, none⟩) l.length cap))), (111, .a (.v (.slice (some ⟨b65, 0, none⟩) l.length l.length))), (112, .a (.v (.int .i64 ((l.length : Int))))), (113, .a (.v (.int .i64 (((0) : Int)))))], ⟨b4, true, .box [.v (.int .i64 (((atF l (0)) : Nat) : Int))]⟩ :: ⟨g, true, .box (fillF l (0) ext)⟩ :: ⟨b65, true, .box (szB l l.length)⟩ :: ro os⟩ ⟨rfl, (Slots.cons rfl (by first | exact .refl _ | exact .nilOwn _ _ | exact .nilSl _ | exact .ownSl _ _ _  | exact SV.le.of_eq (by simp)) (Slots.cons rfl (by first | exact .refl _ | exact .nilOwn _ _ | exact .nilSl _ | exact .ownSl _ _ _  | exact SV.le.of_eq (by simp)) (Slots.cons rfl (by first | exact .refl _ | exact .nilOwn _ _ | exact .nilSl _ | exact .ownSl _ _ _  | exact SV.le.of_eq (by simp)) (Slots.cons rfl (by first | exact .refl _ | exact .nilOwn _ _ | exact .nilSl _ | exact .ownSl _ _ _  | exact SV.le.of_eq (by simp)) (Slots.cons rfl (by first | exact .refl _ | exact .nilOwn _ _ | exact .nilSl _ | exact .ownSl _ _ _  | exact SV.le.of_eq (by simp)) (Slots.cons rfl (by first | exact .refl _ | exact .nilOwn _ _ | exact .nilSl _ | exact .ownSl _ _ _  | exact SV.le.of_eq (by simp)) (Slots.cons rfl (by first | exact .refl _ | exact .nilOwn _ _ | exact .nilSl _ | exact .ownSl _ _ _  | exact SV.le.of_eq (by simp)) Slots.nil))))))), (by rw [atF_zero, fill_zero]; exact List.Sublist.refl _)⟩ ⟨0, rfl, rfl, Nat.zero_le _⟩ ?_
        rintro nn0 _ ⟨k, rfl, rfl, hk⟩
        refine awp_seq ?_
        refine awp_region ?_
        refine r_cmp rfl rfl rfl rfl ?_
        refine awl_nil ?_
        refine x_then ?_
        refine awp_seq ?_
        refine awp_cond rfl (fun hc8 => ?_) (fun hc8 => ?_)
        ·
         have hltk : k < l.length := by have := of_decide_eq_true hc8; omega
         obtain ⟨x, hx⟩ := get_lt hltk
         obtain ⟨hn1, hn12, hd256⟩ := right_bnd (tog_right htog (List.mem_of_getElem? hx))
         have hat := atF_small hok (k := k) (by omega)
         have hml := many_le hd256
         have hdl := dat_len x
         have hft := dat_fits x
         have hgl := gath_len (datF x)
         refine awp_skip ?_
         refine x_then ?_
         refine awp_seq ?_
         refine awp_block ?_
         refine awp_seq ?_
         refine awp_region ?_
         refine r_move rfl rfl ?_
         refine r_indexV rfl rfl TG.sl87 TG.sz3 (by omega) (by omega) rfl ?_
         refine r_load1b 2 rfl rfl (szB_at hx) TG.agg3 rfl ?_
         refine r_assign rfl rfl ?_
         refine r_assign rfl rfl ?_
         refine awl_nil ?_
         refine x_then ?_
         refine awp_seq ?_
         refine awp_region ?_
         refine r_assign rfl rfl ?_
         refine awl_nil ?_
         refine x_then ?_
         refine awp_seq ?_
         refine awp_seq ?_
         refine awp_region ?_
         refine r_move rfl rfl ?_
         refine r_call0 hq rfl rfl (.cons (.ev rfl rfl) .nil) (many_ok x.data.length (by omega)) rfl TG.en40 rfl (fun r hr => ?_)
         obtain rfl := hr
         refine r_move rfl rfl ?_
         refine awl_nil ?_
         refine x_then ?_
         refine awp_block ?_
         refine awp_loop (fun nn0 S => ∃ j : Nat, S = ⟨143, [(1, .a (.cp [.fn f caps])), (4, .a (.v (.pointer (some ⟨b4, 0, none⟩)))), (5, .a (.fn 34 [.cp [.fn f caps], .v (.pointer (some ⟨b4, 0, none⟩))])), (10, .a (.v (.slice (some ⟨g, 0, none⟩) l.length cap))), (111, .a (.v (.slice (some ⟨b65, 0, none⟩) l.length l.length))), (112, .a (.v (.int .i64 ((l.length : Int))))), (113, .a (.v (.int .i64 ((k : Int))))), (20, .a (.v (.int .i64 ((k : Int))))), (21, .a (.v (.int .i64 ((x.data.length : Int))))), (22, .own 22 1 (u8s (gath ((datF x).take j)))), (119, .a (.v (.int .i64 (((manyF x.data.length : Nat) : Int))))), (120, .a (.v (.int .i64 ((j : Int)))))], ⟨b4, true, .box [.v (.int .i64 (((atF l k + j) : Nat) : Int))]⟩ :: ⟨g, true, .box (fillF l k ext)⟩ :: ⟨b65, true, .box (szB l l.length)⟩ :: ro os⟩ ∧ nn0 = manyF x.data.length - j ∧ (j ≤ manyF x.data.length)) (manyF x.data.length - (0)) ⟨143, [(1, .a (.cp [.fn f caps])), (4, .a (.v (.pointer (some ⟨b4, 0, none⟩)))), (5, .a (.fn 34 [.cp [.fn f caps], .v (.pointer (some ⟨b4, 0, none⟩))])), (10, .a (.v (.slice (some ⟨g, 0, none⟩) l.length cap))), (111, .a (.v (.slice (some ⟨b65, 0, none⟩) l.length l.length))), (112, .a (.v (.int .i64 ((l.length : Int))))), (113, .a (.v (.int .i64 ((k : Int))))), (20, .a (.v (.int .i64 ((k : Int))))), (21, .a (.v (.int .i64 ((x.data.length : Int))))), (22, .own 22 1 (u8s (gath ((datF x).take (0))))), (119, .a (.v (.int .i64 (((manyF x.data.length : Nat) : Int))))), (120, .a (.v (.int .i64 (((0) : Int)))))], ⟨b4, true, .box [.v (.int .i64 (((atF l k + (0)) : Nat) : Int))]⟩ :: ⟨g, true, .box (fillF l k ext)⟩ :: ⟨b65, true, .box (szB l l.length)⟩ :: ro os⟩ ⟨rfl, (Slots.cons rfl (by first | exact .refl _ | exact .nilOwn _ _ | exact .nilSl _ | exact .ownSl _ _ _  | exact SV.le.of_eq (by simp)) (Slots.cons rfl (by first | exact .refl _ | exact .nilOwn _ _ | exact .nilSl _ | exact .ownSl _ _ _  | exact SV.le.of_eq (by simp)) (Slots.cons rfl (by first | exact .refl _ | exact .nilOwn _ _ | exact .nilSl _ | exact .ownSl _ _ _  | exact SV.le.of_eq (by simp)) (Slots.cons rfl (by first | exact .refl _ | exact .nilOwn _ _ | exact .nilSl _ | exact .ownSl _ _ _  | exact SV.le.of_eq (by simp)) (Slots.cons rfl (by first | exact .refl _ | exact .nilOwn _ _ | exact .nilSl _ | exact .ownSl _ _ _  | exact SV.le.of_eq (by simp)) (Slots.cons rfl (by first | exact .refl _ | exact .nilOwn _ _ | exact .nilSl _ | exact .ownSl _ _ _  | exact SV.le.of_eq (by simp)) (Slots.cons rfl (by first | exact .refl _ | exact .nilOwn _ _ | exact .nilSl _ | exact .ownSl _ _ _  | exact SV.le.of_eq (by simp)) (Slots.cons rfl (by first | exact .refl _ | exact .nilOwn _ _ | exact .nilSl _ | exact .ownSl _ _ _  | exact SV.le.of_eq (by simp)) (Slots.cons rfl (by first | exact .refl _ | exact .nilOwn _ _ | exact .nilSl _ | exact .ownSl _ _ _  | exact SV.le.of_eq (by simp)) (Slots.cons rfl (by first | exact .refl _ | exact .nilOwn _ _ | exact .nilSl _ | exact .ownSl _ _ _  | exact SV.le.of_eq (by simp)) (Slots.cons rfl (by first | exact .refl _ | exact .nilOwn _ _ | exact .nilSl _ | exact .ownSl _ _ _  | exact SV.le.of_eq (by simp)) (Slots.cons rfl (by first | exact .refl _ | exact .nilOwn _ _ | exact .nilSl _ | exact .ownSl _ _ _  | exact SV.le.of_eq (by simp)) Slots.nil)))))))))))), (List.Sublist.refl _)⟩ ⟨0, rfl, rfl, Nat.zero_le _⟩ ?_
         rintro nn0 _ ⟨j, rfl, rfl, hj⟩
         refine awp_seq ?_
         refine awp_region ?_
         refine r_cmp rfl rfl rfl rfl ?_
         refine awl_nil ?_
         refine x_then ?_
         refine awp_seq ?_
         refine awp_cond rfl (fun hc9 => ?_) (fun hc9 => ?_)
         ·
          have hltj : j < (datF x).length := by rw [dat_len]; have := of_decide_eq_true hc9; omega
          obtain ⟨p, hp⟩ := get_lt hltj
          have hgj : (gath ((datF x).take j)).length ≤ 256 := by rw [gath_len, List.length_take]; omega
          refine awp_skip ?_
          refine x_then ?_
          refine awp_seq ?_
          refine awp_block ?_
          refine awp_seq ?_
          refine awp_region ?_
          refine r_move rfl rfl ?_
          refine r_callW hq [true] rfl rfl .nil (take_ok (os := ro os) hen (fun k b h => by rw [ro_roF]; exact hf k b h) (atF l k + j) p (disk_dat hx hp) (by omega)) rfl TG.en34 rfl rfl (.cons _ (.cons _ (.refl _))) rfl (fun r nobjs hr => ?_)
          obtain ⟨rfl, rfl⟩ := hr
          refine r_alloc TG.zero33 rfl (fun b23 => ?_)
          refine r_store 0 rfl rfl rfl TG.sz33 rfl rfl rfl ?_
          refine awl_nil ?_
          refine x_then ?_
          refine awp_region ?_
          refine r_move rfl rfl ?_
          refine awl_imp (imp_commit 0 23 rfl rfl rfl rfl) ?_
          refine r_arrC (u8s (bpart p 0 32)) (arr_part p 0 32) rfl TG.un33 TG.sz5 rfl .none .none (by omega) (by omega) rfl ?_
          refine r_append 22 rfl (by first | exact .own _ | exact .nil) rfl (by first | exact .sl _ | exact .own _ _ | exact .nil) TG.sl22 TG.sz5 (by decide) TG.by5 TG.zlen5 (by simp [u8s, bpart_len] <;> omega) (by simp [u8s, bpart_len] <;> omega) rfl ?_
          refine r_assign rfl rfl ?_
          refine awl_nil ?_
          refine x_block ?_
          refine x_then ?_
          refine awp_region ?_
          refine r_ari _ rfl rfl rfl (wrap_id (by first | omega | (simp; omega))) rfl ?_
          refine r_move rfl rfl ?_
          refine awl_nil ?_
          refine x_then ?_
          refine ⟨manyF x.data.length - (j + 1), ⟨143, [(1, .a (.cp [.fn f caps])), (4, .a (.v (.pointer (some ⟨b4, 0, none⟩)))), (5, .a (.fn 34 [.cp [.fn f caps], .v (.pointer (some ⟨b4, 0, none⟩))])), (10, .a (.v (.slice (some ⟨g, 0, none⟩) l.length cap))), (111, .a (.v (.slice (some ⟨b65, 0, none⟩) l.length l.length))), (112, .a (.v (.int .i64 ((l.length : Int))))), (113, .a (.v (.int .i64 ((k : Int))))), (20, .a (.v (.int .i64 ((k : Int))))), (21, .a (.v (.int .i64 ((x.data.length : Int))))), (22, .own 22 1 (u8s (gath ((datF x).take (j + 1))))), (119, .a (.v (.int .i64 (((manyF x.data.length : Nat) : Int))))), (120, .a (.v (.int .i64 (((j + 1) : Int)))))], ⟨b4, true, .box [.v (.int .i64 (((atF l k + (j + 1)) : Nat) : Int))]⟩ :: ⟨g, true, .box (fillF l k ext)⟩ :: ⟨b65, true, .box (szB l l.length)⟩ :: ro os⟩, ⟨rfl, (Slots.cons rfl (by first | exact .refl _ | exact .nilOwn _ _ | exact .nilSl _ | exact .ownSl _ _ _  | exact SV.le.ownEq (by first | rfl | (rw [takeS hp, gath_snoc, u8s_app]; done) | (rw [takeS hp, gath_snoc, u8s_app]; rfl)) | exact SV.le.of_eq (by first | rfl | (rw [takeS hp, gath_snoc, u8s_app]; done) | (rw [takeS hp, gath_snoc, u8s_app]; rfl))) (Slots.cons rfl (by first | exact .refl _ | exact .nilOwn _ _ | exact .nilSl _ | exact .ownSl _ _ _  | exact SV.le.ownEq (by first | rfl | (rw [takeS hp, gath_snoc, u8s_app]; done) | (rw [takeS hp, gath_snoc, u8s_app]; rfl)) | exact SV.le.of_eq (by first | rfl | (rw [takeS hp, gath_snoc, u8s_app]; done) | (rw [takeS hp, gath_snoc, u8s_app]; rfl))) (Slots.cons rfl (by first | exact .refl _ | exact .nilOwn _ _ | exact .nilSl _ | exact .ownSl _ _ _  | exact SV.le.ownEq (by first | rfl | (rw [takeS hp, gath_snoc, u8s_app]; done) | (rw [takeS hp, gath_snoc, u8s_app]; rfl)) | exact SV.le.of_eq (by first | rfl | (rw [takeS hp, gath_snoc, u8s_app]; done) | (rw [takeS hp, gath_snoc, u8s_app]; rfl))) (Slots.cons rfl (by first | exact .refl _ | exact .nilOwn _ _ | exact .nilSl _ | exact .ownSl _ _ _  | exact SV.le.ownEq (by first | rfl | (rw [takeS hp, gath_snoc, u8s_app]; done) | (rw [takeS hp, gath_snoc, u8s_app]; rfl)) | exact SV.le.of_eq (by first | rfl | (rw [takeS hp, gath_snoc, u8s_app]; done) | (rw [takeS hp, gath_snoc, u8s_app]; rfl))) (Slots.cons rfl (by first | exact .refl _ | exact .nilOwn _ _ | exact .nilSl _ | exact .ownSl _ _ _  | exact SV.le.ownEq (by first | rfl | (rw [takeS hp, gath_snoc, u8s_app]; done) | (rw [takeS hp, gath_snoc, u8s_app]; rfl)) | exact SV.le.of_eq (by first | rfl | (rw [takeS hp, gath_snoc, u8s_app]; done) | (rw [takeS hp, gath_snoc, u8s_app]; rfl))) (Slots.cons rfl (by first | exact .refl _ | exact .nilOwn _ _ | exact .nilSl _ | exact .ownSl _ _ _  | exact SV.le.ownEq (by first | rfl | (rw [takeS hp, gath_snoc, u8s_app]; done) | (rw [takeS hp, gath_snoc, u8s_app]; rfl)) | exact SV.le.of_eq (by first | rfl | (rw [takeS hp, gath_snoc, u8s_app]; done) | (rw [takeS hp, gath_snoc, u8s_app]; rfl))) (Slots.cons rfl (by first | exact .refl _ | exact .nilOwn _ _ | exact .nilSl _ | exact .ownSl _ _ _  | exact SV.le.ownEq (by first | rfl | (rw [takeS hp, gath_snoc, u8s_app]; done) | (rw [takeS hp, gath_snoc, u8s_app]; rfl)) | exact SV.le.of_eq (by first | rfl | (rw [takeS hp, gath_snoc, u8s_app]; done) | (rw [takeS hp, gath_snoc, u8s_app]; rfl))) (Slots.cons rfl (by first | exact .refl _ | exact .nilOwn _ _ | exact .nilSl _ | exact .ownSl _ _ _  | exact SV.le.ownEq (by first | rfl | (rw [takeS hp, gath_snoc, u8s_app]; done) | (rw [takeS hp, gath_snoc, u8s_app]; rfl)) | exact SV.le.of_eq (by first | rfl | (rw [takeS hp, gath_snoc, u8s_app]; done) | (rw [takeS hp, gath_snoc, u8s_app]; rfl))) (Slots.cons rfl (by first | exact .refl _ | exact .nilOwn _ _ | exact .nilSl _ | exact .ownSl _ _ _  | exact SV.le.ownEq (by first | rfl | (rw [takeS hp, gath_snoc, u8s_app]; done) | (rw [takeS hp, gath_snoc, u8s_app]; rfl)) | exact SV.le.of_eq (by first | rfl | (rw [takeS hp, gath_snoc, u8s_app]; done) | (rw [takeS hp, gath_snoc, u8s_app]; rfl))) (Slots.cons rfl (by first | exact .refl _ | exact .nilOwn _ _ | exact .nilSl _ | exact .ownSl _ _ _  | exact SV.le.ownEq (by first | rfl | (rw [takeS hp, gath_snoc, u8s_app]; done) | (rw [takeS hp, gath_snoc, u8s_app]; rfl)) | exact SV.le.of_eq (by first | rfl | (rw [takeS hp, gath_snoc, u8s_app]; done) | (rw [takeS hp, gath_snoc, u8s_app]; rfl))) (Slots.cons rfl (by first | exact .refl _ | exact .nilOwn _ _ | exact .nilSl _ | exact .ownSl _ _ _  | exact SV.le.ownEq (by first | rfl | (rw [takeS hp, gath_snoc, u8s_app]; done) | (rw [takeS hp, gath_snoc, u8s_app]; rfl)) | exact SV.le.of_eq (by first | rfl | (rw [takeS hp, gath_snoc, u8s_app]; done) | (rw [takeS hp, gath_snoc, u8s_app]; rfl))) (Slots.cons rfl (by first | exact .refl _ | exact .nilOwn _ _ | exact .nilSl _ | exact .ownSl _ _ _  | exact SV.le.ownEq (by first | rfl | (rw [takeS hp, gath_snoc, u8s_app]; done) | (rw [takeS hp, gath_snoc, u8s_app]; rfl)) | exact SV.le.of_eq (by first | rfl | (rw [takeS hp, gath_snoc, u8s_app]; done) | (rw [takeS hp, gath_snoc, u8s_app]; rfl))) Slots.nil)))))))))))), (List.Sublist.refl _)⟩, (by omega), ⟨j + 1, rfl, rfl, (by omega)⟩⟩
         ·
          obtain rfl : j = manyF x.data.length := by have := of_decide_eq_false hc9; omega
          rw [← hdl, List.take_of_length_le (Nat.le_refl _)]
          refine awp_exit ?_
          refine x_thenE ?_
          refine x_thenE ?_
          refine x_blockE ?_
          refine x_then ?_
          refine awp_seq ?_
          refine awp_seq ?_
          refine awp_region ?_
          refine r_move rfl rfl ?_
          refine r_move rfl rfl ?_
          refine r_sliceL rfl rfl rfl TG.sl22 TG.sz5 (by omega) (by rw [u8sL]; omega) rfl ?_
          rw [Int.toNat_natCast, drop_u8s]
          refine r_call0 hq rfl rfl (.cons (.ev rfl rfl) .nil) (nought_ok ((gath (datF x)).drop x.data.length)) rfl TG.en36 rfl (fun r hr => ?_)
          rw [dat_nought] at hr
          obtain rfl := hr
          refine r_not rfl rfl ?_
          refine awl_nil ?_
          refine x_then ?_
          refine awp_cond rfl (fun hc10 => ?_) (fun hc10 => ?_)
          ·
           exfalso; first | cases hc10 | simp at hc10
          ·
           refine awp_skip ?_
           refine x_then ?_
           refine awp_region ?_
           refine r_move rfl rfl ?_
           refine r_move rfl rfl ?_
           refine r_move rfl rfl ?_
           refine r_move rfl rfl ?_
           refine r_move rfl rfl ?_
           refine r_slice3 rfl rfl rfl rfl TG.sl22 TG.sz5 (by omega) (by omega) (by rw [u8sL]; omega) rfl ?_
           rw [Int.toNat_natCast, take_u8s, dat_take]
           refine r_indexV rfl rfl TG.sl24 TG.sz26 (by omega) (by omega) rfl ?_
           refine r_fieldb rfl TG.f26_1 TG.sz22 rfl ?_
           refine r_store 1 rfl rfl rfl TG.sz22 rfl (Nat.ble_eq_true_of_le (by rw [fill_len (by omega)]; omega)) rfl ?_
           refine awl_nil ?_
           refine x_block ?_
           refine x_then ?_
           refine awp_region ?_
           refine r_ari _ rfl rfl rfl (wrap_id (by first | omega | (simp; omega))) rfl ?_
           refine r_move rfl rfl ?_
           refine awl_nil ?_
           refine x_then ?_
           refine ⟨l.length - (k + 1), ⟨143, [(1, .a (.cp [.fn f caps])), (4, .a (.v (.pointer (some ⟨b4, 0, none⟩)))), (5, .a (.fn 34 [.cp [.fn f caps], .v (.pointer (some ⟨b4, 0, none⟩))])), (10, .a (.v (.slice (some ⟨g, 0, none⟩) l.length cap))), (111, .a (.v (.slice (some ⟨b65, 0, none⟩) l.length l.length))), (112, .a (.v (.int .i64 ((l.length : Int))))), (113, .a (.v (.int .i64 (((k + 1) : Int)))))], ⟨b4, true, .box [.v (.int .i64 (((atF l (k + 1)) : Nat) : Int))]⟩ :: ⟨g, true, .box (fillF l (k + 1) ext)⟩ :: ⟨b65, true, .box (szB l l.length)⟩ :: ro os⟩, ⟨rfl, (Slots.cons rfl (by first | exact .refl _ | exact .nilOwn _ _ | exact .nilSl _ | exact .ownSl _ _ _  | exact SV.le.of_eq (by simp)) (Slots.cons rfl (by first | exact .refl _ | exact .nilOwn _ _ | exact .nilSl _ | exact .ownSl _ _ _  | exact SV.le.of_eq (by simp)) (Slots.cons rfl (by first | exact .refl _ | exact .nilOwn _ _ | exact .nilSl _ | exact .ownSl _ _ _  | exact SV.le.of_eq (by simp)) (Slots.cons rfl (by first | exact .refl _ | exact .nilOwn _ _ | exact .nilSl _ | exact .ownSl _ _ _  | exact SV.le.of_eq (by simp)) (Slots.cons rfl (by first | exact .refl _ | exact .nilOwn _ _ | exact .nilSl _ | exact .ownSl _ _ _  | exact SV.le.of_eq (by simp)) (Slots.cons rfl (by first | exact .refl _ | exact .nilOwn _ _ | exact .nilSl _ | exact .ownSl _ _ _  | exact SV.le.of_eq (by simp)) (Slots.cons rfl (by first | exact .refl _ | exact .nilOwn _ _ | exact .nilSl _ | exact .ownSl _ _ _  | exact SV.le.of_eq (by simp)) Slots.nil))))))), (by rw [atF_step hx, ← hdl, ← fill_step hx]; exact List.Sublist.refl _)⟩, (by omega), ⟨k + 1, rfl, rfl, (by omega)⟩⟩
        ·
         obtain rfl : k = l.length := by have := of_decide_eq_false hc8; omega
         rw [fill_end]
         refine awp_exit ?_
         refine x_thenE ?_
         refine x_thenE ?_
         refine x_blockE ?_
         refine x_then ?_
         refine awp_seq ?_
         refine awp_region ?_
         refine awl_imp (imp_commitS 1 10 (sz := 2) (l := l.map File.cs) (ext := ext) rfl rfl rfl (by rw [List.length_map]) hcap (fun c hc => by obtain ⟨f, _, rfl⟩ := List.mem_map.1 hc; rfl) (by rw [List.length_append, flat_len (sz := 2) (fun c hc => by obtain ⟨f, _, rfl⟩ := List.mem_map.1 hc; rfl), List.length_map]; exact hext2) files_one) ?_
         refine r_move rfl rfl ?_
         refine r_assign rfl rfl ?_
         refine r_assign rfl rfl ?_
         refine awl_nil ?_
         refine x_then ?_
         refine awp_ret ?_
         exact ⟨(.inl rfl), _, [], (.two (by first | exact .mk rfl rfl | exact .nil rfl) (by first | exact .mk rfl rfl | exact .nil rfl)), ⟨rfl, rfl⟩, (List.nil_sublist _), (by simp)⟩
end Go.Proofs.YtcbhhjahjnlfhaaDoor.A
namespace Go.Proofs.YtcbhhjahjnlfhaaDoor.A
open Go Go.RowKit Go.Maps Go.Sort
set_option linter.unusedVariables false
set_option linter.unusedSimpArgs false
abbrev SM := List (ByteArray × List UInt8)
def firstM (l : List File) : SM := l.foldl (fun m f => if (mget m f.name).isSome then m else mset m f.name f.data) []
theorem firstM_step {l : List File} {k : Nat} {x : File} (h : l[k]? = some x) : firstM (l.take (k + 1)) = if (mget (firstM (l.take k)) x.name).isSome then firstM (l.take k) else mset (firstM (l.take k)) x.name x.data := by
  unfold firstM; rw [fold_take h]
theorem tells_take (l : List File) : ∀ k, k ≤ l.length → TellsS (firstM (l.take k)) (l.take k)
  | 0, _ => tellsS_nil
  | k + 1, hk => by
    obtain ⟨x, hx⟩ := get_lt (show k < l.length by omega)
    have ih := tells_take l k (by omega)
    rw [firstM_step hx]
    cases hg : (mget (firstM (l.take k)) x.name).isSome with
    | true => rw [if_pos rfl]; exact tellsS_has ih hx hg
    | false => rw [if_neg (by simp)]; exact tellsS_new ih hx hg
theorem tells_first (l : List File) : TellsS (firstM l) l := by
  have := tells_take l l.length (Nat.le_refl _)
  rwa [List.take_length] at this
def alterM (m : SM) (c : FC) : Int × SM :=
  if c.kind = 2 then (0, mdel m c.name)
  else if c.kind = 3 then (0, mset m c.name c.data)
  else if c.kind = 4 then (if (mget m c.to).isSome then (5, m) else (0, mdel (mset m c.to ((mget m c.name).getD [])) c.name))
  else (0, m)
def stepM (m : SM) (c : FC) : Int × SM :=
  if c.kind = 1 then (if (mget m c.name).isSome then (5, m) else (0, mset m c.name c.data))
  else if c.kind = 2 ∨ c.kind = 3 ∨ c.kind = 4 then (if (mget m c.name).isSome then alterM m c else (4, m))
  else (18, m)
def applyM (m : SM) (d : List FC) : Int × SM := d.foldl (fun s c => if s.1 = 0 then stepM s.2 c else s) (0, m)
def filesM (m : SM) : List File := (sortB (m.map (·.1))).map fun s => ⟨s, (mget m s).getD []⟩
theorem applyM_step {m m' : SM} {d : List FC} {k : Nat} {c : FC} (h : d[k]? = some c) (ha : applyM m (d.take k) = (0, m')) : applyM m (d.take (k + 1)) = stepM m' c := by
  unfold applyM at *; rw [fold_take h, ha]; simp
theorem fold_stuck (d : List FC) (s : Int × SM) (h : ¬ s.1 = 0) : d.foldl (fun s c => if s.1 = 0 then stepM s.2 c else s) s = s := by
  induction d with
  | nil => rfl
  | cons c d ih => rw [List.foldl_cons, if_neg h]; exact ih
theorem applyM_fail {m m' : SM} {d : List FC} {k : Nat} {c : FC} (h : d[k]? = some c) (ha : applyM m (d.take k) = (0, m')) (hf : ¬ (stepM m' c).1 = 0) : applyM m d = stepM m' c := by
  have h1 := applyM_step h ha
  have e : d = d.take (k + 1) ++ d.drop (k + 1) := (List.take_append_drop _ _).symm
  unfold applyM at *
  rw [e, List.foldl_append, h1, fold_stuck _ _ hf]
theorem applyM_end {m m' : SM} {d : List FC} {k : Nat} (hk : d.length ≤ k) (ha : applyM m (d.take k) = (0, m')) : applyM m d = (0, m') := by rwa [List.take_of_length_le hk] at ha
theorem applyM_app {m m' : SM} {d d' : List FC} (ha : applyM m d = (0, m')) : applyM m (d ++ d') = applyM m' d' := by
  unfold applyM at *; rw [List.foldl_append, ha]
structure OkM (m : SM) (n : Nat) : Prop where
  nd : (m.map (·.1)).Nodup
  sz : ∀ s ∈ m.map (·.1), s.size ≤ maxLen
  len : m.length ≤ n
theorem okM_set {m : SM} {n : Nat} {s : ByteArray} {v : List UInt8} (h : OkM m n) (hs : s.size ≤ maxLen) : OkM (mset m s v) (n + 1) :=
  ⟨mset_nodup h.nd, fun x hx => by rw [mset_keys] at hx; rcases hx with rfl | hx; exact hs; exact h.sz x hx, Nat.le_trans mset_len (by have := h.len; omega)⟩
theorem okM_del {m : SM} {n : Nat} {s : ByteArray} (h : OkM m n) : OkM (mdel m s) n :=
  ⟨h.nd.sublist ((mdel_sub m s).map _), fun x hx => h.sz x (((mdel_sub m s).map _).mem hx), Nat.le_trans (mdel_sub m s).length_le h.len⟩
theorem okM_more {m : SM} {n : Nat} (h : OkM m n) : OkM m (n + 1) := ⟨h.nd, h.sz, Nat.le_succ_of_le h.len⟩
theorem okM_alter {m : SM} {n : Nat} {c : FC} (h : OkM m n) (h1 : c.name.size ≤ maxLen) (h2 : c.to.size ≤ maxLen) : OkM (alterM m c).2 (n + 1) := by
  unfold alterM
  split
  · exact okM_more (okM_del h)
  · split
    · exact okM_set h h1
    · split
      · split
        · exact okM_more h
        · exact okM_del (okM_set h h2)
      · exact okM_more h
theorem okM_step {m : SM} {n : Nat} {c : FC} (h : OkM m n) (h1 : c.name.size ≤ maxLen) (h2 : c.to.size ≤ maxLen) : OkM (stepM m c).2 (n + 1) := by
  unfold stepM
  split
  · split
    · exact okM_more h
    · exact okM_set h h1
  · split
    · split
      · exact okM_alter h h1 h2
      · exact okM_more h
    · exact okM_more h
theorem okM_first {l : List File} (hl : ∀ f ∈ l, f.name.size ≤ 1000000) : OkM (firstM l) l.length := ⟨(tells_first l).nd, keys_size (tells_first l) hl, (tells_first l).len⟩
end Go.Proofs.YtcbhhjahjnlfhaaDoor.A
namespace Go.Proofs.YtcbhhjahjnlfhaaDoor.A
open Go Go.RowKit Go.Maps Go.Sort
set_option linter.unusedVariables false
set_option linter.unusedSimpArgs false
theorem ite_iff2 {α : Type} {p p' q q' : Prop} {_ : Decidable p} {_ : Decidable p'} {_ : Decidable q} {_ : Decidable q'} {x y z : α} (h1 : p' ↔ p) (h2 : q' ↔ q) : (if p then x else if q then y else z) = if p' then x else if q' then y else z := by
  by_cases hp : p
  · rw [if_pos hp, if_pos (h1.2 hp)]
  · rw [if_neg hp, if_neg (fun h => hp (h1.1 h))]
    by_cases hq : q
    · rw [if_pos hq, if_pos (h2.2 hq)]
    · rw [if_neg hq, if_neg (fun h => hq (h2.1 h))]
open Classical in
structure StM (a b : List File) (F T : List ByteArray) (m : SM) : Prop where
  nd : (m.map (·.1)).Nodup
  get : ∀ x, mget m x = if x ∈ F then none else if x ∈ T then lookF b x else lookF a x
variable {a b : List File} {F T : List ByteArray} {m : SM}
theorem st_ren (h : StM a b F T m) {s t : ByteArray} {d : List UInt8} (hs : s ∉ F) (hsT : s ∉ T) (ht : t ∉ F) (htT : t ∉ T) (ha : lookF a s = some d) (hat : lookF a t = none) (hb : lookF b t = some d) :
    ∃ m', stepM m ⟨4, s, t, []⟩ = (0, m') ∧ StM a b (s :: F) (t :: T) m' := by
  have g1 : mget m s = some d := by rw [h.get, if_neg hs, if_neg hsT, ha]
  have g2 : mget m t = none := by rw [h.get, if_neg ht, if_neg htT, hat]
  refine ⟨mdel (mset m t d) s, by simp [stepM, alterM, g1, g2], (mset_nodup h.nd).sublist ((mdel_sub _ _).map _), fun x => ?_⟩
  rw [mget_mdel _ _ _ (mset_nodup h.nd), mget_mset, h.get]
  by_cases h1 : s = x
  · subst h1; simp
  · have h1' : ¬ x = s := fun e => h1 e.symm
    by_cases h2 : t = x
    · subst h2; simp [h1, h1', ht, hb]
    · have h2' : ¬ x = t := fun e => h2 e.symm
      rw [if_neg h1, if_neg h2]
      exact ite_iff2 (by simp [h1']) (by simp [h2'])
theorem st_gone (h : StM a b F T m) {s : ByteArray} {d : List UInt8} (hs : s ∉ F) (hsT : s ∉ T) (ha : lookF a s = some d) :
    ∃ m', stepM m ⟨2, s, E0, []⟩ = (0, m') ∧ StM a b (s :: F) T m' := by
  have g1 : mget m s = some d := by rw [h.get, if_neg hs, if_neg hsT, ha]
  refine ⟨mdel m s, by simp [stepM, alterM, g1], h.nd.sublist ((mdel_sub _ _).map _), fun x => ?_⟩
  rw [mget_mdel _ _ _ h.nd, h.get]
  by_cases h1 : s = x
  · subst h1; simp
  · have h1' : ¬ x = s := fun e => h1 e.symm
    rw [if_neg h1]
    exact ite_iff2 (by simp [h1']) Iff.rfl
theorem st_chg (h : StM a b F T m) {s : ByteArray} {d : List UInt8} (hs : s ∉ F) (ha : (lookF a s).isSome = true) (hb : lookF b s = some d) :
    ∃ m', stepM m ⟨3, s, E0, d⟩ = (0, m') ∧ StM a b F (s :: T) m' := by
  have g1 : (mget m s).isSome = true := by
    rw [h.get, if_neg hs]
    by_cases h1 : s ∈ T
    · rw [if_pos h1, hb]; rfl
    · rw [if_neg h1]; exact ha
  refine ⟨mset m s d, by simp [stepM, alterM, g1], mset_nodup h.nd, fun x => ?_⟩
  rw [mget_mset, h.get]
  by_cases h1 : s = x
  · subst h1; simp [hs, hb]
  · have h1' : ¬ x = s := fun e => h1 e.symm
    rw [if_neg h1]
    exact ite_iff2 Iff.rfl (by simp [h1'])
theorem st_add (h : StM a b F T m) {t : ByteArray} {d : List UInt8} (ht : t ∉ F) (htT : t ∉ T) (hat : lookF a t = none) (hb : lookF b t = some d) :
    ∃ m', stepM m ⟨1, t, E0, d⟩ = (0, m') ∧ StM a b F (t :: T) m' := by
  have g2 : mget m t = none := by rw [h.get, if_neg ht, if_neg htT, hat]
  refine ⟨mset m t d, by simp [stepM, g2], mset_nodup h.nd, fun x => ?_⟩
  rw [mget_mset, h.get]
  by_cases h1 : t = x
  · subst h1; simp [ht, hb]
  · have h1' : ¬ x = t := fun e => h1 e.symm
    rw [if_neg h1]
    exact ite_iff2 Iff.rfl (by simp [h1'])
theorem went_in {a b : List File} {s : ByteArray} : s ∈ wentF a b ↔ (lookF a s).isSome = true ∧ lookF b s = none := by
  unfold wentF
  rw [List.mem_filter, names_in]
  simp
theorem sorted_nd {l : List ByteArray} (h : SortedS l) : l.Nodup := h.imp (fun {x y} hxy e => by rw [e, ltS_irrefl] at hxy; cases hxy)
theorem names_nd (l : List File) : (namesF l).Nodup := sorted_nd (names_ok l)
theorem went_nd (a b : List File) : (wentF a b).Nodup := (names_nd a).filter _
def renF (p : ByteArray × ByteArray) : FC := ⟨4, p.1, p.2, []⟩
def goneF (s : ByteArray) : FC := ⟨2, s, E0, []⟩
structure Rounds (a b : List File) (k : Nat) (R : List (ByteArray × ByteArray)) (G came : List ByteArray) : Prop where
  fst : (R.map (·.1) ++ G).Perm ((wentF a b).take k)
  snd : (R.map (·.2) ++ came).Perm (wentF b a)
  eq : ∀ p ∈ R, lookF a p.1 = lookF b p.2
theorem hit_eq {a b : List File} {s t : ByteArray} (h : hitF a b s t = true) (hs : (lookF a s).isSome = true) (ht : (lookF b t).isSome = true) : lookF a s = lookF b t := by
  unfold hitF at h
  simp only [Bool.and_eq_true, decide_eq_true_eq] at h
  obtain ⟨x, hx⟩ := Option.isSome_iff_exists.1 hs
  obtain ⟨y, hy⟩ := Option.isSome_iff_exists.1 ht
  have := h.2
  rw [hx, hy] at this ⊢
  simpa using this
theorem rounds (a b : List File) : ∀ k, k ≤ (wentF a b).length → ∃ R G came, splitF a b k = (came, R.map renF, G.map goneF) ∧ Rounds a b k R G came
  | 0, _ => ⟨[], [], wentF b a, rfl, ⟨by simp, by simp, by simp⟩⟩
  | k + 1, hk => by
    obtain ⟨R, G, came, h1, h2⟩ := rounds a b k (by omega)
    obtain ⟨s, hs⟩ := get_lt (show k < (wentF a b).length by omega)
    have hsm := went_in.1 (List.mem_of_getElem? hs)
    cases hf : came.findIdx? (hitF a b s) with
    | none =>
      refine ⟨R, G ++ [s], came, ?_, ?_, h2.snd, h2.eq⟩
      · rw [split_none hs h1 hf, List.map_append]; rfl
      · rw [takeS hs, ← List.append_assoc]; exact h2.fst.append_right _
    | some i =>
      obtain ⟨t, ht, hh⟩ := fidx_get hf
      have htm : t ∈ wentF b a := h2.snd.mem_iff.1 (List.mem_append_right _ (List.mem_of_getElem? ht))
      have hi := (List.getElem?_eq_some_iff.1 ht).1
      refine ⟨R ++ [(s, t)], G, came.eraseIdx i, ?_, ?_, ?_, ?_⟩
      · rw [split_some hs h1 hf ht, List.map_append]; rfl
      · rw [takeS hs, List.map_append, List.append_assoc]
        refine (List.Perm.append_left _ List.perm_append_comm).trans ?_
        rw [← List.append_assoc]
        exact h2.fst.append_right _
      · refine List.Perm.trans ?_ h2.snd
        rw [List.map_append, List.append_assoc]
        refine List.Perm.append_left _ ?_
        have e : came.take i ++ t :: came.drop (i + 1) = came := by
          have h3 : came.drop i = t :: came.drop (i + 1) := by rw [List.drop_eq_getElem_cons hi, (List.getElem?_eq_some_iff.1 ht).2]
          rw [← h3, List.take_append_drop]
        have h4 : (t :: came.eraseIdx i).Perm (came.take i ++ t :: came.drop (i + 1)) := by rw [List.eraseIdx_eq_take_drop_succ]; exact List.perm_middle.symm
        exact h4.trans (by rw [e])
      · intro p hp
        rcases List.mem_append.1 hp with hp | hp
        · exact h2.eq p hp
        · obtain rfl := List.mem_singleton.1 hp
          exact hit_eq hh hsm.1 (went_in.1 htm).1
theorem applyM_cons {m m1 : SM} {c : FC} {d : List FC} (h : stepM m c = (0, m1)) : applyM m (c :: d) = applyM m1 d := by
  unfold applyM; rw [List.foldl_cons]; simp [h]
theorem ph_ren : ∀ (R : List (ByteArray × ByteArray)) (F T : List ByteArray) (m : SM), StM a b F T m → (R.map (·.1)).Nodup → (R.map (·.2)).Nodup → (∀ p ∈ R, (lookF a p.1).isSome = true ∧ lookF b p.1 = none ∧ lookF a p.2 = none ∧ lookF a p.1 = lookF b p.2) →
    (∀ p ∈ R, p.1 ∉ F ∧ p.2 ∉ T) → (∀ x ∈ F, lookF b x = none) → (∀ x ∈ T, lookF a x = none) →
    ∃ F' T' m', applyM m (R.map renF) = (0, m') ∧ StM a b F' T' m' ∧ (∀ x, x ∈ F' ↔ x ∈ F ∨ x ∈ R.map (·.1)) ∧ (∀ x, x ∈ T' ↔ x ∈ T ∨ x ∈ R.map (·.2))
  | [], F, T, m, h, _, _, _, _, _, _ => ⟨F, T, m, rfl, h, by simp, by simp⟩
  | (s, t) :: R, F, T, m, h, n1, n2, hp, hn, hF, hT => by
    obtain ⟨q1, q2, q3, q4⟩ := hp (s, t) (by simp)
    obtain ⟨r1, r2⟩ := hn (s, t) (by simp)
    simp only at q1 q2 q3 q4 r1 r2
    obtain ⟨d, hd⟩ := Option.isSome_iff_exists.1 q1
    have hbt : lookF b t = some d := by rw [← q4, hd]
    rw [List.map_cons, List.nodup_cons] at n1 n2
    obtain ⟨m1, e1, st1⟩ := st_ren h r1 (fun hs => by rw [hT s hs] at hd; cases hd) (fun ht => by rw [hF t ht] at hbt; cases hbt) r2 hd q3 hbt
    obtain ⟨F', T', m', g1, g2, g3, g4⟩ := ph_ren R (s :: F) (t :: T) m1 st1 n1.2 n2.2 (fun p hp' => hp p (by simp [hp'])) (fun p hp' => by
        obtain ⟨k1, k2⟩ := hn p (by simp [hp'])
        refine ⟨fun hm => ?_, fun hm => ?_⟩
        · rcases List.mem_cons.1 hm with e | hm
          · exact n1.1 (by rw [← e]; exact List.mem_map.2 ⟨p, hp', rfl⟩)
          · exact k1 hm
        · rcases List.mem_cons.1 hm with e | hm
          · exact n2.1 (by rw [← e]; exact List.mem_map.2 ⟨p, hp', rfl⟩)
          · exact k2 hm) (fun x hx => by rcases List.mem_cons.1 hx with rfl | hx; exact q2; exact hF x hx) (fun x hx => by rcases List.mem_cons.1 hx with rfl | hx; exact q3; exact hT x hx)
    refine ⟨F', T', m', by rw [List.map_cons, applyM_cons (show stepM m (renF (s, t)) = (0, m1) from e1)]; exact g1, g2, fun x => ?_, fun x => ?_⟩
    · rw [g3, List.map_cons, List.mem_cons, List.mem_cons]
      constructor
      · rintro ((h | h) | h) <;> simp [h]
      · rintro (h | h | h) <;> simp [h]
    · rw [g4, List.map_cons, List.mem_cons, List.mem_cons]
      constructor
      · rintro ((h | h) | h) <;> simp [h]
      · rintro (h | h | h) <;> simp [h]
theorem ph_gone : ∀ (G : List ByteArray) (F T : List ByteArray) (m : SM), StM a b F T m → G.Nodup → (∀ s ∈ G, (lookF a s).isSome = true ∧ s ∉ F ∧ s ∉ T) →
    ∃ F' m', applyM m (G.map goneF) = (0, m') ∧ StM a b F' T m' ∧ ∀ x, x ∈ F' ↔ x ∈ F ∨ x ∈ G
  | [], F, T, m, h, _, _ => ⟨F, m, rfl, h, by simp⟩
  | s :: G, F, T, m, h, n, hp => by
    obtain ⟨q1, q2, q3⟩ := hp s (by simp)
    obtain ⟨d, hd⟩ := Option.isSome_iff_exists.1 q1
    rw [List.nodup_cons] at n
    obtain ⟨m1, e1, st1⟩ := st_gone h q2 q3 hd
    obtain ⟨F', m', g1, g2, g3⟩ := ph_gone G (s :: F) T m1 st1 n.2 (fun x hx => by
      obtain ⟨k1, k2, k3⟩ := hp x (by simp [hx])
      exact ⟨k1, fun hm => by rcases List.mem_cons.1 hm with e | hm; exact n.1 (by rw [← e]; exact hx); exact k2 hm, k3⟩)
    refine ⟨F', m', by rw [List.map_cons, applyM_cons (show stepM m (goneF s) = (0, m1) from e1)]; exact g1, g2, fun x => ?_⟩
    rw [g3, List.mem_cons, List.mem_cons]
    constructor
    · rintro ((h | h) | h) <;> simp [h]
    · rintro (h | h | h) <;> simp [h]
theorem ph_chg : ∀ (N : List ByteArray) (F T : List ByteArray) (m : SM), StM a b F T m → (∀ s ∈ N, (lookF a s).isSome = true) → (∀ x ∈ F, lookF b x = none) →
    ∃ T' m', applyM m (N.filterMap (chgF a b)) = (0, m') ∧ StM a b F T' m' ∧ (∀ x, x ∈ T' → x ∈ T ∨ x ∈ N) ∧ (∀ x, x ∈ T → x ∈ T') ∧ ∀ x ∈ N, (chgF a b x).isSome = true → x ∈ T'
  | [], F, T, m, h, _, _ => ⟨T, m, rfl, h, by simp, by simp, by simp⟩
  | s :: N, F, T, m, h, hp, hF => by
    cases hc : chgF a b s with
    | none =>
      obtain ⟨T', m', g1, g2, g3, g4, g5⟩ := ph_chg N F T m h (fun x hx => hp x (by simp [hx])) hF
      refine ⟨T', m', by rw [List.filterMap_cons, hc]; exact g1, g2, fun x hx => (g3 x hx).imp id (fun h => by simp [h]), g4, fun x hx hs => ?_⟩
      rcases List.mem_cons.1 hx with rfl | hx
      · rw [hc] at hs; cases hs
      · exact g5 x hx hs
    | some c =>
      obtain ⟨d, hd, rfl⟩ : ∃ d, lookF b s = some d ∧ c = ⟨3, s, E0, d⟩ := by
        unfold chgF at hc
        cases hb : lookF b s with
        | none => rw [hb] at hc; cases hc
        | some d =>
          rw [hb] at hc
          simp only at hc
          cases hq : decide ((lookF a s).getD [] = d) <;> simp [hq] at hc
          exact ⟨d, rfl, hc.symm⟩
      obtain ⟨m1, e1, st1⟩ := st_chg h (fun hs => by rw [hF s hs] at hd; cases hd) (hp s (by simp)) hd
      obtain ⟨T', m', g1, g2, g3, g4, g5⟩ := ph_chg N F (s :: T) m1 st1 (fun x hx => hp x (by simp [hx])) hF
      refine ⟨T', m', by rw [List.filterMap_cons, hc]; simp only; rw [applyM_cons e1]; exact g1, g2, fun x hx => ?_, fun x hx => g4 x (by simp [hx]), fun x hx hs => ?_⟩
      · rcases g3 x hx with h | h
        · rcases List.mem_cons.1 h with rfl | h
          · exact .inr (by simp)
          · exact .inl h
        · exact .inr (by simp [h])
      · rcases List.mem_cons.1 hx with rfl | hx
        · exact g4 _ (by simp)
        · exact g5 x hx hs
theorem ph_add : ∀ (N : List ByteArray) (F T : List ByteArray) (m : SM), StM a b F T m → N.Nodup → (∀ t ∈ N, (lookF b t).isSome = true ∧ lookF a t = none ∧ t ∉ T) → (∀ x ∈ F, lookF b x = none) →
    ∃ T' m', applyM m (N.map (addF b)) = (0, m') ∧ StM a b F T' m' ∧ ∀ x, x ∈ T' ↔ x ∈ T ∨ x ∈ N
  | [], F, T, m, h, _, _, _ => ⟨T, m, rfl, h, by simp⟩
  | t :: N, F, T, m, h, n, hp, hF => by
    obtain ⟨q1, q2, q3⟩ := hp t (by simp)
    obtain ⟨d, hd⟩ := Option.isSome_iff_exists.1 q1
    rw [List.nodup_cons] at n
    obtain ⟨m1, e1, st1⟩ := st_add h (fun ht => by rw [hF t ht] at hd; cases hd) q3 q2 hd
    obtain ⟨T', m', g1, g2, g3⟩ := ph_add N F (t :: T) m1 st1 n.2 (fun x hx => by
      obtain ⟨k1, k2, k3⟩ := hp x (by simp [hx])
      exact ⟨k1, k2, fun hm => by rcases List.mem_cons.1 hm with e | hm; exact n.1 (by rw [← e]; exact hx); exact k3 hm⟩) hF
    refine ⟨T', m', by rw [List.map_cons, applyM_cons (show stepM m (addF b t) = (0, m1) from by rw [addF, hd]; exact e1)]; exact g1, g2, fun x => ?_⟩
    rw [g3, List.mem_cons, List.mem_cons]
    constructor
    · rintro ((h | h) | h) <;> simp [h]
    · rintro (h | h | h) <;> simp [h]
theorem apply_of (a b : List File) {m0 : SM} (h0 : (m0.map (·.1)).Nodup) (hg : ∀ x, mget m0 x = lookF a x) : ∃ m, applyM m0 (OfF a b) = (0, m) ∧ (m.map (·.1)).Nodup ∧ ∀ x, mget m x = lookF b x := by
  obtain ⟨R, G, came, h1, h2⟩ := rounds a b (wentF a b).length (Nat.le_refl _)
  have hfst := h2.fst
  rw [List.take_length] at hfst
  have hnd1 := hfst.nodup_iff.2 (went_nd a b)
  have hnd2 := h2.snd.nodup_iff.2 (went_nd b a)
  rw [List.nodup_append] at hnd1 hnd2
  have hR1 : ∀ p ∈ R, p.1 ∈ wentF a b := fun p hp => hfst.mem_iff.1 (List.mem_append_left _ (List.mem_map.2 ⟨p, hp, rfl⟩))
  have hR2 : ∀ p ∈ R, p.2 ∈ wentF b a := fun p hp => h2.snd.mem_iff.1 (List.mem_append_left _ (List.mem_map.2 ⟨p, hp, rfl⟩))
  have hG : ∀ s ∈ G, s ∈ wentF a b := fun s hs => hfst.mem_iff.1 (List.mem_append_right _ hs)
  have hC : ∀ s ∈ came, s ∈ wentF b a := fun s hs => h2.snd.mem_iff.1 (List.mem_append_right _ hs)
  obtain ⟨F1, T1, m1, a1, s1, f1, t1⟩ := ph_ren R [] [] m0 ⟨h0, fun x => by simp [hg]⟩ hnd1.1 hnd2.1 (fun p hp => ⟨(went_in.1 (hR1 p hp)).1, (went_in.1 (hR1 p hp)).2, (went_in.1 (hR2 p hp)).2, h2.eq p hp⟩) (fun p hp => by simp) (by simp) (by simp)
  simp only [List.not_mem_nil, false_or] at f1 t1
  obtain ⟨F2, m2, a2, s2, f2⟩ := ph_gone G F1 T1 m1 s1 hnd1.2.1 (fun s hs => ⟨(went_in.1 (hG s hs)).1, fun h => (hnd1.2.2 s ((f1 s).1 h) s hs) rfl, fun h => by
    obtain ⟨p, hp, e⟩ := List.mem_map.1 ((t1 s).1 h)
    have k1 := (went_in.1 (hR2 p hp)).2
    have k2 := (went_in.1 (hG s hs)).1
    rw [e] at k1; rw [k1] at k2; cases k2⟩)
  have hF2 : ∀ x, x ∈ F2 ↔ x ∈ wentF a b := fun x => by rw [f2, f1, ← List.mem_append, hfst.mem_iff]
  have hFb : ∀ x ∈ F2, lookF b x = none := fun x hx => (went_in.1 ((hF2 x).1 hx)).2
  obtain ⟨T3, m3, a3, s3, t3, t3', t3c⟩ := ph_chg (namesF a) F2 T1 m2 s2 (fun s hs => names_in.1 hs) hFb
  obtain ⟨T4, m4, a4, s4, t4⟩ := ph_add came F2 T3 m3 s3 hnd2.2.1 (fun t ht => ⟨(went_in.1 (hC t ht)).1, (went_in.1 (hC t ht)).2, fun h => by
    rcases t3 t h with h | h
    · exact (hnd2.2.2 t ((t1 t).1 h) t ht) rfl
    · have k := names_in.1 h; rw [(went_in.1 (hC t ht)).2] at k; cases k⟩) hFb
  refine ⟨m4, ?_, s4.nd, fun x => ?_⟩
  · rw [OfF, show splitE a b = (came, R.map renF, G.map goneF) from h1]
    simp only
    rw [applyM_app (applyM_app ((applyM_app a1).trans a2) |>.trans a3)]
    exact a4
  · rw [s4.get]
    by_cases hx : x ∈ F2
    · rw [if_pos hx, hFb x hx]
    · rw [if_neg hx]
      by_cases hT : x ∈ T4
      · rw [if_pos hT]
      · rw [if_neg hT]
        cases ha : lookF a x with
        | none =>
          cases hb : lookF b x with
          | none => rfl
          | some d =>
            exfalso
            have hw : x ∈ wentF b a := went_in.2 ⟨by rw [hb]; rfl, ha⟩
            rcases List.mem_append.1 (h2.snd.mem_iff.2 hw) with h | h
            · exact hT ((t4 x).2 (.inl (t3' x ((t1 x).2 h))))
            · exact hT ((t4 x).2 (.inr h))
        | some d =>
          cases hb : lookF b x with
          | none => exact absurd ((hF2 x).2 (went_in.2 ⟨by rw [ha]; rfl, hb⟩)) hx
          | some d' =>
            by_cases hd : d = d'
            · rw [hd]
            · exfalso
              have hc : (chgF a b x).isSome = true := by
                unfold chgF
                rw [hb]
                simp [ha, hd]
              exact hT ((t4 x).2 (.inl (t3c x (names_in.2 (by rw [ha]; rfl)) hc)))
end Go.Proofs.YtcbhhjahjnlfhaaDoor.A
namespace Go.Proofs.YtcbhhjahjnlfhaaDoor.A
open Go Go.RowKit Go.Maps Go.Sort
set_option linter.unusedVariables false
set_option linter.unusedSimpArgs false
def rankF (k : Int) : Int := optI ([4, 2, 3, 1].findIdx? (fun x => k == x))
def bareF (c : FC) : Bool := !(!(c.kind == 4) && !decide (c.to = E0)) && (decide (c.data.length = 0) || ((c.kind == 1) || (c.kind == 3)))
def namesC (c : FC) : List ByteArray := if c.kind = 4 then [c.name, c.to] else [c.name]
def pairF (p c : FC) : Bool := decide (rankF p.kind > rankF c.kind) || ((p.kind == c.kind) && !ltS p.name c.name)
def okC (d : List FC) (i : Nat) : Bool :=
  match d[i]? with
  | none => true
  | some c => !decide (rankF c.kind < 0) && bareF c && !(decide (0 < i) && match d[i - 1]? with | none => false | some p => pairF p c)
def rightF (d : List FC) : Bool := (List.range d.length).all (okC d) && decide ((d.flatMap namesC).Nodup)
theorem right_bad {d : List FC} {i : Nat} (h : i < d.length) (hb : okC d i = false) : rightF d = false := by
  unfold rightF
  rw [Bool.and_eq_false_iff]
  left
  rw [List.all_eq_false]
  exact ⟨i, List.mem_range.2 h, by simp [hb]⟩
theorem names_take {d : List FC} {k : Nat} {c : FC} (h : d[k]? = some c) : (d.take (k + 1)).flatMap namesC = (d.take k).flatMap namesC ++ namesC c := by
  rw [takeS h, List.flatMap_append]; simp
theorem right_dup {d : List FC} {k j : Nat} {c : FC} {s : ByteArray} (h : d[k]? = some c) (hs : (namesC c)[j]? = some s) (hm : s ∈ (d.take k).flatMap namesC ++ (namesC c).take j) : rightF d = false := by
  unfold rightF
  rw [Bool.and_eq_false_iff]
  right
  rw [decide_eq_false_iff_not]
  intro hn
  have e : d = d.take (k + 1) ++ d.drop (k + 1) := (List.take_append_drop _ _).symm
  rw [e, List.flatMap_append, names_take h] at hn
  have e2 : namesC c = (namesC c).take j ++ s :: (namesC c).drop (j + 1) := by
    have hj := (List.getElem?_eq_some_iff.1 hs).1
    have h3 : (namesC c).drop j = s :: (namesC c).drop (j + 1) := by rw [List.drop_eq_getElem_cons hj, (List.getElem?_eq_some_iff.1 hs).2]
    rw [← h3, List.take_append_drop]
  rw [e2, List.nodup_append] at hn
  have h1 := hn.1
  rw [← List.append_assoc, List.nodup_append] at h1
  exact h1.2.2 s hm s (by simp) rfl
theorem right_good {d : List FC} (ha : ∀ i, i < d.length → okC d i = true) (hn : (d.flatMap namesC).Nodup) : rightF d = true := by
  unfold rightF
  rw [Bool.and_eq_true]
  exact ⟨List.all_eq_true.2 fun i hi => ha i (List.mem_range.1 hi), decide_eq_true hn⟩
def HasS (m : List (ByteArray × Bool)) (l : List ByteArray) : Prop := ∀ s, (mget m s).getD false = true ↔ s ∈ l
theorem hasS_nil : HasS [] [] := fun s => by simp [mget]
theorem hasS_set {m : List (ByteArray × Bool)} {l : List ByteArray} {s : ByteArray} (h : HasS m l) : HasS (mset m s true) (l ++ [s]) := fun x => by
  rw [mget_mset, List.mem_append, List.mem_singleton, ← h x]
  by_cases hs : s = x
  · subst hs; simp
  · have : ¬ x = s := fun e => hs e.symm
    simp [hs, this]
theorem nodup_snoc {l : List ByteArray} {s : ByteArray} (h : l.Nodup) (hs : s ∉ l) : (l ++ [s]).Nodup := by
  rw [List.nodup_append]
  exact ⟨h, by simp, fun a ha b hb e => by simp at hb; subst hb e; exact hs ha⟩
end Go.Proofs.YtcbhhjahjnlfhaaDoor.A
namespace Go.Proofs.YtcbhhjahjnlfhaaDoor.A
open Go Go.RowKit Go.Maps Go.Sort
set_option linter.unusedVariables false
set_option linter.unusedSimpArgs false
def cleanS (l : List File) : List File := (namesF l).map fun s => ⟨s, (lookF l s).getD []⟩
theorem find_look {l : List File} {s : ByteArray} (h : s ∈ namesF l) : ∃ i y, l.findIdx? (fun f => decide (f.name = s)) = some i ∧ l[i]? = some y ∧ y = ⟨s, (lookF l s).getD []⟩ := by
  rw [names_in] at h
  unfold lookF at h ⊢
  cases hf : l.findIdx? (fun f => decide (f.name = s)) with
  | none =>
    rw [List.findIdx?_eq_none_iff] at hf
    simp [List.find?_isSome] at h
    obtain ⟨f, hf1, hf2⟩ := h
    have := hf f hf1
    simp [hf2] at this
  | some i =>
    obtain ⟨y, hy, hp⟩ := fidx_get hf
    refine ⟨i, y, rfl, hy, ?_⟩
    have h1 := List.findIdx?_eq_some_iff_getElem.1 hf
    obtain ⟨hi, h2, h3⟩ := h1
    have : l.find? (fun f => decide (f.name = s)) = some y := by
      have e : l = l.take i ++ y :: l.drop (i + 1) := by
        have h4 : l.drop i = y :: l.drop (i + 1) := by rw [List.drop_eq_getElem_cons hi, (List.getElem?_eq_some_iff.1 hy).2]
        rw [← h4, List.take_append_drop]
      rw [e, List.find?_append]
      have hn : (l.take i).find? (fun f => decide (f.name = s)) = none := by
        rw [List.find?_eq_none]
        intro x hx
        obtain ⟨j, hj⟩ := List.getElem?_of_mem hx
        rw [List.getElem?_take] at hj
        split at hj
        · rename_i hji
          obtain ⟨hjl, rfl⟩ := List.getElem?_eq_some_iff.1 hj
          simpa using h3 j hji
        · cases hj
      rw [hn]
      simp [hp]
    rw [this]
    simp at hp
    cases y
    simp at hp
    subst hp
    rfl
theorem files_clean {m : SM} {l : List File} (h1 : (m.map (·.1)).Nodup) (h : ∀ s, mget m s = lookF l s) : filesM m = cleanS l := by
  unfold filesM cleanS
  have e : sortB (m.map (·.1)) = namesF l := sortedS_ext (sortB_sorted h1) (names_ok l) (fun x => by rw [sortB_mem, ← mget_some, h, names_in])
  rw [e]
  exact List.map_congr_left fun s _ => by rw [h]
theorem apply_clean (a b : List File) : ∃ m, applyM (firstM a) (OfF a b) = (0, m) ∧ (m.map (·.1)).Nodup ∧ (∀ s, mget m s = lookF b s) ∧ filesM m = cleanS b := by
  obtain ⟨m, h1, h2, h3⟩ := apply_of a b (tells_first a).nd (tells_first a).get
  exact ⟨m, h1, h2, h3, files_clean h2 h3⟩
theorem name_file {l : List File} {s : ByteArray} (h : s ∈ namesF l) : ∃ f ∈ l, f.name = s := by
  have := (namesF_mem s l []).1 h; simpa using this
theorem of_mem {a b : List File} {c : FC} (h : c ∈ OfF a b) :
    (c.kind = 4 ∧ c.data = [] ∧ c.name ∈ wentF a b ∧ c.to ∈ wentF b a) ∨ (c.kind = 2 ∧ c.data = [] ∧ c.to = E0 ∧ c.name ∈ wentF a b) ∨ (c.kind = 3 ∧ c.to = E0 ∧ c.name ∈ namesF a ∧ lookF b c.name = some c.data) ∨ (c.kind = 1 ∧ c.to = E0 ∧ c.name ∈ wentF b a ∧ c.data = (lookF b c.name).getD []) := by
  obtain ⟨R, G, came, h1, h2⟩ := rounds a b (wentF a b).length (Nat.le_refl _)
  have hfst := h2.fst
  rw [List.take_length] at hfst
  rw [OfF, show splitE a b = (came, R.map renF, G.map goneF) from h1] at h
  simp only [List.mem_append] at h
  rcases h with ((h | h) | h) | h
  · obtain ⟨p, hp, rfl⟩ := List.mem_map.1 h
    exact .inl ⟨rfl, rfl, hfst.mem_iff.1 (List.mem_append_left _ (List.mem_map.2 ⟨p, hp, rfl⟩)), h2.snd.mem_iff.1 (List.mem_append_left _ (List.mem_map.2 ⟨p, hp, rfl⟩))⟩
  · obtain ⟨s, hs, rfl⟩ := List.mem_map.1 h
    exact .inr (.inl ⟨rfl, rfl, rfl, hfst.mem_iff.1 (List.mem_append_right _ hs)⟩)
  · obtain ⟨s, hs, he⟩ := List.mem_filterMap.1 h
    unfold chgF at he
    cases hb : lookF b s with
    | none => rw [hb] at he; cases he
    | some d =>
      rw [hb] at he
      simp only at he
      cases hq : decide ((lookF a s).getD [] = d) <;> simp [hq] at he
      subst he
      exact .inr (.inr (.inl ⟨rfl, rfl, hs, hb⟩))
  · obtain ⟨s, hs, rfl⟩ := List.mem_map.1 h
    exact .inr (.inr (.inr ⟨rfl, rfl, h2.snd.mem_iff.1 (List.mem_append_right _ hs), rfl⟩))
theorem went_file {a b : List File} {s : ByteArray} (h : s ∈ wentF a b) : ∃ f ∈ a, f.name = s := name_file (names_in.2 (went_in.1 h).1)
theorem of_bound {a b : List File} (ha : ∀ f ∈ a, f.name.size ≤ 1000000) (hb : ∀ f ∈ b, f.name.size ≤ 1000000) (hd : ∀ f ∈ b, f.data.length ≤ 1000000) : ∀ c ∈ OfF a b, c.name.size ≤ 1000000 ∧ c.to.size ≤ 1000000 ∧ c.data.length ≤ 1000000 := fun c hc => by
  have e0 : E0.size ≤ 1000000 := by decide
  rcases of_mem hc with ⟨_, h2, h3, h4⟩ | ⟨_, h2, h3, h4⟩ | ⟨_, h2, h3, h4⟩ | ⟨_, h2, h3, h4⟩
  · obtain ⟨f, hf, e⟩ := went_file h3
    obtain ⟨g, hg, e'⟩ := went_file h4
    exact ⟨by rw [← e]; exact ha f hf, by rw [← e']; exact hb g hg, by rw [h2]; simp⟩
  · obtain ⟨f, hf, e⟩ := went_file h4
    exact ⟨by rw [← e]; exact ha f hf, by rw [h3]; exact e0, by rw [h2]; simp⟩
  · obtain ⟨f, hf, e⟩ := name_file h3
    have := look_len hd c.name
    rw [h4] at this
    exact ⟨by rw [← e]; exact ha f hf, by rw [h2]; exact e0, by simpa using this⟩
  · obtain ⟨f, hf, e⟩ := went_file h3
    exact ⟨by rw [← e]; exact hb f hf, by rw [h2]; exact e0, by rw [h4]; exact look_len hd _⟩
theorem of_len (a b : List File) : (OfF a b).length ≤ 2 * a.length + b.length := by
  obtain ⟨R, G, came, h1, h2⟩ := rounds a b (wentF a b).length (Nat.le_refl _)
  have hfst := h2.fst.length_eq
  have hsnd := h2.snd.length_eq
  have k1 := went_len a b
  have k2 := went_len b a
  have k3 := List.length_filterMap_le (chgF a b) (namesF a)
  have k4 := names_len a
  rw [OfF, show splitE a b = (came, R.map renF, G.map goneF) from h1]
  simp at hfst hsnd ⊢
  omega
end Go.Proofs.YtcbhhjahjnlfhaaDoor.A

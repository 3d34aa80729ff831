/- Layer 62: walks of the names and their order. -/
import Derived.Test.YtmbfmnhcahhciaaProg
import Derived.KernelRfl
import Derived.Test.YtmbfmnhcahhciaaX62A
namespace Go.Proofs.Ytmbfmnhcahhciaa.A
open Go Go.RowKit
set_option linter.unusedVariables false
set_option linter.unusedSimpArgs false
set_option maxRecDepth 100000

theorem TF.sl42 : sliceT Try.prog 42 = some 5 := by kernel_rfl
theorem TF.sz5 : szT Try.prog 5 = some 1 := by kernel_rfl
theorem TF.zraw5 : zeroT Try.prog 5 = some [(.int .u8 0)] := by kernel_rfl
theorem TF.by5 : bytesT Try.prog 5 = some 1 := by kernel_rfl
theorem TF.zlen5 : (zeroT Try.prog 5).map (·.length) = some 1 := by kernel_rfl
theorem TF.un5 : Try.prog.underlying 5 = some (.int .u8) := by kernel_rfl
theorem TF.un9 : Try.prog.underlying 9 = some .string := by kernel_rfl
theorem TF.sl31 : sliceT Try.prog 31 = some 67 := by kernel_rfl
theorem TF.sz67 : szT Try.prog 67 = some 2 := by kernel_rfl
theorem TF.agg67 : aggT Try.prog 67 = some true := by kernel_rfl
theorem TF.zero67 : ZeroT Try.prog 67 [.v (.string ⟨#[]⟩), .sl 1 []] := ⟨[(.string ⟨#[]⟩), (.slice none 0 0)], by kernel_rfl, (.cons (.refl _) (.cons (.nil 1) .nil))⟩
theorem TF.f67_0 : fieldT Try.prog 67 0 = some (0, 9) := by kernel_rfl
theorem TF.map72 : mapT Try.prog 72 = some (9, 42) := by kernel_rfl
theorem TF.f67_1 : fieldT Try.prog 67 1 = some (1, 42) := by kernel_rfl
theorem TF.sz42 : szT Try.prog 42 = some 1 := by kernel_rfl
theorem TF.agg42 : aggT Try.prog 42 = some false := by kernel_rfl
theorem TF.en39 : entersT Try.prog 39 := enters_of Try.func39 (by kernel_rfl) (by kernel_rfl)
theorem TF.en57 : entersT Try.prog 57 := enters_of Try.func57 (by kernel_rfl) (by kernel_rfl)
theorem TF.en56 : entersT Try.prog 56 := enters_of Try.func56 (by kernel_rfl) (by kernel_rfl)
theorem TF.agg72 : aggT Try.prog 72 = some false := by kernel_rfl
theorem TF.en55 : entersT Try.prog 55 := enters_of Try.func55 (by kernel_rfl) (by kernel_rfl)
theorem TF.en38 : entersT Try.prog 38 := enters_of Try.func38 (by kernel_rfl) (by kernel_rfl)
theorem TF.en54 : entersT Try.prog 54 := enters_of Try.func54 (by kernel_rfl) (by kernel_rfl)
theorem TF.en36 : entersT Try.prog 36 := enters_of Try.func36 (by kernel_rfl) (by kernel_rfl)

theorem ba_mk (a b : List UInt8) : decide ((⟨a.toArray⟩ : ByteArray) = ⟨b.toArray⟩) = decide (a = b) := by simp
theorem u8s_len (l : List UInt8) : (u8s l).length = l.length := by simp [u8s]

theorem clone_ok (l : List UInt8) (hl : l.length ≤ 1000000) : AC Try.prog 39 [bts l] [] (fun r n => n = [] ∧ r = bts l) := by
  refine ac_of_awp (rs := [2]) (nt := 8) Try.func39 rfl rfl rfl rfl (fun w0 C0 hq => ?_)
  refine awp_seq ?_
  refine awp_region ?_
  refine r_assign rfl rfl ?_
  refine awl_nil ?_
  refine x_then ?_
  refine awp_seq ?_
  refine awp_seq ?_
  refine awp_region ?_
  refine r_move rfl rfl ?_
  refine r_slnil rfl rfl TF.sl42 rfl (fun b4 hb4 => ?_)
  refine awl_nil ?_
  refine x_then ?_
  refine awp_cond rfl (fun hc0 => ?_) (fun hc0 => ?_)
  ·
    obtain rfl : l = [] := by simpa [u8s] using hb4 hc0
    refine awp_seq ?_
    refine awp_region ?_
    refine r_assign rfl rfl ?_
    refine awl_nil ?_
    refine x_then ?_
    refine awp_ret ?_
    refine x_thenR ?_
    exact ⟨(.inl rfl), _, [], (.one (by first | exact .mk rfl rfl | exact .nil rfl)), ⟨rfl, rfl⟩, (List.nil_sublist _), (by simp)⟩
  ·
    refine awp_skip ?_
    refine x_then ?_
    refine awp_seq ?_
    refine awp_region ?_
    refine r_lit 5 (parts := []) rfl TF.sl42 TF.sz5 TF.zraw5 rfl rfl rfl rfl rfl rfl rfl ?_
    refine r_move rfl rfl ?_
    refine r_append 5 rfl (by first | exact .own _ | exact .nil) rfl (by first | exact .sl _ | exact .own _ _ | exact .nil) TF.sl42 TF.sz5 (by decide) TF.by5 TF.zlen5 (by simp [chunks, u8s]; omega) (by simp [chunks, u8s]; omega) rfl ?_
    refine r_assign rfl rfl ?_
    refine awl_nil ?_
    refine x_then ?_
    refine awp_ret ?_
    exact ⟨(.inl rfl), _, [], (.one (by first | exact .mk rfl rfl | exact .nil rfl)), ⟨rfl, by first | rfl | simp [chunks, bts, SV.av]⟩, (List.nil_sublist _), (by simp)⟩

theorem sclone_ok (l : List UInt8) (hl : l.length ≤ 1000000) : AC Try.prog 42 [bts l] [] (fun r n => n = [] ∧ r = bts l) := by
  refine ac_of_awp (rs := [2]) (nt := 8) Try.func42 rfl rfl rfl rfl (fun w0 C0 hq => ?_)
  refine awp_seq ?_
  refine awp_region ?_
  refine r_assign rfl rfl ?_
  refine awl_nil ?_
  refine x_then ?_
  refine awp_seq ?_
  refine awp_seq ?_
  refine awp_region ?_
  refine r_move rfl rfl ?_
  refine r_slnil rfl rfl TF.sl42 rfl (fun b4 hb4 => ?_)
  refine awl_nil ?_
  refine x_then ?_
  refine awp_cond rfl (fun hc0 => ?_) (fun hc0 => ?_)
  ·
    obtain rfl : l = [] := by simpa [u8s] using hb4 hc0
    refine awp_seq ?_
    refine awp_region ?_
    refine r_assign rfl rfl ?_
    refine awl_nil ?_
    refine x_then ?_
    refine awp_ret ?_
    refine x_thenR ?_
    exact ⟨(.inl rfl), _, [], (.one (by first | exact .mk rfl rfl | exact .nil rfl)), ⟨rfl, rfl⟩, (List.nil_sublist _), (by simp)⟩
  ·
    refine awp_skip ?_
    refine x_then ?_
    refine awp_seq ?_
    refine awp_region ?_
    refine r_lit 5 (parts := []) rfl TF.sl42 TF.sz5 TF.zraw5 rfl rfl rfl rfl rfl rfl rfl ?_
    refine r_move rfl rfl ?_
    refine r_append 5 rfl (by first | exact .own _ | exact .nil) rfl (by first | exact .sl _ | exact .own _ _ | exact .nil) TF.sl42 TF.sz5 (by decide) TF.by5 TF.zlen5 (by simp [chunks, u8s]; omega) (by simp [chunks, u8s]; omega) rfl ?_
    refine r_assign rfl rfl ?_
    refine awl_nil ?_
    refine x_then ?_
    refine awp_ret ?_
    exact ⟨(.inl rfl), _, [], (.one (by first | exact .mk rfl rfl | exact .nil rfl)), ⟨rfl, by first | rfl | simp [chunks, bts, SV.av]⟩, (List.nil_sublist _), (by simp)⟩

theorem equal_ok (a b : List UInt8) : AC Try.prog 36 [bts a, bts b] [] (fun r n => n = [] ∧ r = boolA (decide (a = b))) := by
  refine ac_of_awp (rs := [4]) (nt := 10) Try.func36 rfl rfl rfl rfl (fun w0 C0 hq => ?_)
  refine awp_seq ?_
  refine awp_region ?_
  refine r_assign rfl rfl ?_
  refine awl_nil ?_
  refine x_then ?_
  refine awp_seq ?_
  refine awp_region ?_
  refine r_move rfl rfl ?_
  refine r_convBS a rfl rfl TF.sl42 TF.un5 TF.un9 rfl ?_
  refine r_move rfl rfl ?_
  refine r_convBS b rfl rfl TF.sl42 TF.un5 TF.un9 rfl ?_
  refine r_str2 rfl rfl rfl rfl ?_
  refine r_assign rfl rfl ?_
  refine awl_nil ?_
  refine x_then ?_
  refine awp_ret ?_
  exact ⟨(.inl rfl), _, [], (.one (by first | exact .mk rfl rfl | exact .nil rfl)), ⟨rfl, by rw [← ba_mk]; rfl⟩, (List.nil_sublist _), (by simp)⟩

theorem named_ok (l : List File) (hl : l.length ≤ 1000000) (hda : ∀ f ∈ l, f.data.length ≤ 1000000) : AC Try.prog 32 [files l] [] (fun r n => ∃ b m, r = .v (.map (some b)) ∧ n = [⟨b, true, .map (encM Value.string bts m)⟩] ∧ TellsS m l) := by
  refine ac_of_awp (rs := [2]) (nt := 32) Try.func32 rfl rfl rfl rfl (fun w0 C0 hq => ?_)
  refine awp_seq ?_
  refine awp_region ?_
  refine r_assign rfl rfl ?_
  refine awl_nil ?_
  refine x_then ?_
  refine awp_seq ?_
  refine awp_region ?_
  refine r_makeMap (ek := Value.string) (ev := bts) [] rfl rfl (fun b8 => ?_)
  refine r_assign rfl rfl ?_
  refine awl_nil ?_
  refine x_then ?_
  refine awp_seq ?_
  refine awp_seq ?_
  refine awp_region ?_
  refine r_move rfl rfl ?_
  first | (refine r_lenS rfl rfl TF.sl31 rfl ?_) | (refine r_lenNil rfl TF.sl31 rfl ?_) | (refine r_lenV rfl TF.sl31 rfl ?_)
  refine r_move rfl rfl ?_
  refine awl_nil ?_
  refine x_then ?_
  refine awp_block ?_
  refine awp_loop (fun nn0 S => ∃ k : Nat, ∃ m : List (ByteArray × List UInt8), S = ⟨32, [(3, .a (.v (.map (some b8)))), (9, .a (files l)), (10, .a (.v (.int .i64 ((l.map File.cs).length)))), (11, .a (.v (.int .i64 ((k : Int)))))], [⟨b8, true, .map (encM Value.string bts m)⟩]⟩ ∧ nn0 = l.length - k ∧ (k ≤ l.length) ∧ (TellsS m (l.take k))) (l.length - (0)) ⟨32, [(3, .a (.v (.map (some b8)))), (9, .a (files l)), (10, .a (.v (.int .i64 ((l.map File.cs).length)))), (11, .a (.v (.int .i64 (((0) : Int)))))], [⟨b8, true, .map (encM Value.string bts ([]))⟩]⟩ ⟨rfl, (Slots.cons rfl (by first | exact .refl _ | exact .nilOwn _ _ | exact .nilSl _ | exact .ownSl _ _ _  | exact SV.le.of_eq (by simp)) (Slots.cons rfl (by first | exact .refl _ | exact .nilOwn _ _ | exact .nilSl _ | exact .ownSl _ _ _  | exact SV.le.of_eq (by simp)) (Slots.cons rfl (by first | exact .refl _ | exact .nilOwn _ _ | exact .nilSl _ | exact .ownSl _ _ _  | exact SV.le.of_eq (by simp)) (Slots.cons rfl (by first | exact .refl _ | exact .nilOwn _ _ | exact .nilSl _ | exact .ownSl _ _ _  | exact SV.le.of_eq (by simp)) Slots.nil)))), (by first | exact List.Sublist.refl _ | exact .cons_cons _ (.cons _ (.refl _)) | exact List.nil_sublist _ | exact .cons _ (.refl _) | exact .cons _ (.cons _ (.refl _)) | exact .cons _ (.cons _ (.cons _ (.refl _))) | exact .cons _ (.cons _ (.cons _ (.cons _ (.refl _)))) | exact .cons_cons _ (List.nil_sublist _))⟩ ⟨0, [], rfl, rfl, Nat.zero_le _, tellsS_nil⟩ ?_
  rintro nn0 _ ⟨k, m, rfl, rfl, hk, ht⟩
  refine awp_seq ?_
  refine awp_region ?_
  refine r_cmp rfl rfl rfl rfl ?_
  refine awl_nil ?_
  refine x_then ?_
  refine awp_seq ?_
  refine awp_cond rfl (fun hc0 => ?_) (fun hc0 => ?_)
  ·
    have hltx : k < l.length := by have := of_decide_eq_true hc0; simpa using this
    obtain ⟨x, hx⟩ := get_lt hltx
    refine awp_skip ?_
    refine x_then ?_
    refine awp_seq ?_
    refine awp_block ?_
    refine awp_seq ?_
    refine awp_region ?_
    refine r_index rfl rfl rfl TF.sl31 TF.sz67 (by omega) (get_map hx) rfl ?_
    first | (refine r_loadA rfl TF.agg67 TF.sz67 rfl rfl ?_) | (refine r_loadAb 0 rfl rfl TF.agg67 TF.sz67 rfl rfl ?_)
    refine r_alloc TF.zero67 rfl (fun b5 => ?_)
    first | (refine r_store 0 rfl rfl rfl TF.sz67 rfl rfl rfl ?_) | (refine r_store 1 rfl rfl rfl TF.sz67 rfl rfl rfl ?_)
    refine awl_nil ?_
    refine x_then ?_
    refine awp_seq ?_
    refine awp_region ?_
    refine r_move rfl rfl ?_
    first | (refine r_fieldb rfl TF.f67_0 TF.sz9 rfl ?_) | (refine r_fieldcp rfl TF.f67_0 TF.sz9 rfl ?_)
    refine r_load1b 0 rfl rfl rfl TF.agg9 rfl ?_
    first | (refine r_lookupOk 0 (keyEnc_string TF.un9) (ev := bts) [] rfl rfl rfl TF.map72 TF.zavS rfl ?_) | (refine r_lookupOk 1 (keyEnc_string TF.un9) (ev := bts) [] rfl rfl rfl TF.map72 TF.zavS rfl ?_)
    refine r_move rfl rfl ?_
    refine r_extract rfl rfl rfl ?_
    refine r_extract rfl rfl rfl ?_
    refine r_assign rfl rfl ?_
    refine r_assign rfl rfl ?_
    refine awl_nil ?_
    refine x_then ?_
    refine awp_seq ?_
    refine awp_region ?_
    refine r_move rfl rfl ?_
    refine r_not rfl rfl ?_
    refine awl_nil ?_
    refine x_then ?_
    refine awp_cond rfl (fun hc1 => ?_) (fun hc1 => ?_)
    ·
      have hg : (mget m x.name).isSome = false := by simpa using hc1
      refine awp_drawS [24, 25, 26, 27, 28, 29] [_, _, _, _, _, _] [] [] TF.mixed rfl rfl rfl ⟨⟨⟨⟨⟨⟨trivial
        , ⟨_, rfl, fun sl hd hr ho => by
            refine r_move (hr 3 _ rfl rfl rfl) rfl ?_
            exact awl_nil ⟨rfl, post_put⟩⟩⟩
        , ⟨_, rfl, fun sl hd hr ho => by
            first | (refine r_fieldb (hr 5 _ rfl rfl rfl) TF.f67_0 TF.sz9 rfl ?_) | (refine r_fieldcp (hr 5 _ rfl rfl rfl) TF.f67_0 TF.sz9 rfl ?_)
            exact awl_nil ⟨rfl, post_put⟩⟩⟩
        , ⟨_, rfl, fun sl hd hr ho => by
            refine r_load1b 0 (hd 1 _ rfl rfl rfl) rfl rfl TF.agg9 rfl ?_
            exact awl_nil ⟨rfl, post_put⟩⟩⟩
        , ⟨_, rfl, fun sl hd hr ho => by
            first | (refine r_fieldb (hr 5 _ rfl rfl rfl) TF.f67_1 TF.sz42 rfl ?_) | (refine r_fieldcp (hr 5 _ rfl rfl rfl) TF.f67_1 TF.sz42 rfl ?_)
            exact awl_nil ⟨rfl, post_put⟩⟩⟩
        , ⟨_, rfl, fun sl hd hr ho => by
            refine r_load1b 0 (hd 3 _ rfl rfl rfl) rfl rfl TF.agg42 rfl ?_
            exact awl_nil ⟨rfl, post_put⟩⟩⟩
        , ⟨_, rfl, fun sl hd hr ho => by
            refine r_call0 hq rfl rfl (.cons (.ev (hd 4 _ rfl rfl rfl) rfl) .nil) (clone_ok x.data (hda x (List.mem_of_getElem? hx))) rfl TF.en39 rfl (fun r hr => ?_)
            obtain rfl := hr
            exact awl_nil ⟨rfl, post_put⟩⟩⟩
        (by rfl) ?_
      first | (refine r_mapUpdate 0 (keyEnc_string TF.un9) (ev := bts) x.data rfl rfl rfl rfl rfl TF.map72 ?_) | (refine r_mapUpdate 1 (keyEnc_string TF.un9) (ev := bts) x.data rfl rfl rfl rfl rfl TF.map72 ?_)
      refine awl_nil ?_
      refine x_block ?_
      refine x_then ?_
      refine awp_region ?_
      refine r_ari _ rfl rfl rfl (wrap_id (by first | omega | (simp; omega))) rfl ?_
      refine r_move rfl rfl ?_
      refine awl_nil ?_
      refine x_then ?_
      refine ⟨l.length - (k + 1), ⟨32, [(3, .a (.v (.map (some b8)))), (9, .a (files l)), (10, .a (.v (.int .i64 ((l.map File.cs).length)))), (11, .a (.v (.int .i64 (((k + 1) : Int)))))], [⟨b8, true, .map (encM Value.string bts (mset m x.name x.data))⟩]⟩, ⟨rfl, (Slots.cons rfl (by first | exact .refl _ | exact .nilOwn _ _ | exact .nilSl _ | exact .ownSl _ _ _  | exact SV.le.of_eq (by simp)) (Slots.cons rfl (by first | exact .refl _ | exact .nilOwn _ _ | exact .nilSl _ | exact .ownSl _ _ _  | exact SV.le.of_eq (by simp)) (Slots.cons rfl (by first | exact .refl _ | exact .nilOwn _ _ | exact .nilSl _ | exact .ownSl _ _ _  | exact SV.le.of_eq (by simp)) (Slots.cons rfl (by first | exact .refl _ | exact .nilOwn _ _ | exact .nilSl _ | exact .ownSl _ _ _  | exact SV.le.of_eq (by simp)) Slots.nil)))), (by first | exact List.Sublist.refl _ | exact .cons_cons _ (.cons _ (.refl _)) | exact List.nil_sublist _ | exact .cons _ (.refl _) | exact .cons _ (.cons _ (.refl _)) | exact .cons _ (.cons _ (.cons _ (.refl _))) | exact .cons _ (.cons _ (.cons _ (.cons _ (.refl _)))) | exact .cons_cons _ (List.nil_sublist _))⟩, (by omega), ⟨k + 1, mset m x.name x.data, rfl, rfl, (by omega), (tellsS_new ht hx hg)⟩⟩
    ·
      have hg : (mget m x.name).isSome = true := by simpa using hc1
      refine awp_skip ?_
      refine x_block ?_
      refine x_then ?_
      refine awp_region ?_
      refine r_ari _ rfl rfl rfl (wrap_id (by first | omega | (simp; omega))) rfl ?_
      refine r_move rfl rfl ?_
      refine awl_nil ?_
      refine x_then ?_
      refine ⟨l.length - (k + 1), ⟨32, [(3, .a (.v (.map (some b8)))), (9, .a (files l)), (10, .a (.v (.int .i64 ((l.map File.cs).length)))), (11, .a (.v (.int .i64 (((k + 1) : Int)))))], [⟨b8, true, .map (encM Value.string bts (m))⟩]⟩, ⟨rfl, (Slots.cons rfl (by first | exact .refl _ | exact .nilOwn _ _ | exact .nilSl _ | exact .ownSl _ _ _  | exact SV.le.of_eq (by simp)) (Slots.cons rfl (by first | exact .refl _ | exact .nilOwn _ _ | exact .nilSl _ | exact .ownSl _ _ _  | exact SV.le.of_eq (by simp)) (Slots.cons rfl (by first | exact .refl _ | exact .nilOwn _ _ | exact .nilSl _ | exact .ownSl _ _ _  | exact SV.le.of_eq (by simp)) (Slots.cons rfl (by first | exact .refl _ | exact .nilOwn _ _ | exact .nilSl _ | exact .ownSl _ _ _  | exact SV.le.of_eq (by simp)) Slots.nil)))), (by first | exact List.Sublist.refl _ | exact .cons_cons _ (.cons _ (.refl _)) | exact List.nil_sublist _ | exact .cons _ (.refl _) | exact .cons _ (.cons _ (.refl _)) | exact .cons _ (.cons _ (.cons _ (.refl _))) | exact .cons _ (.cons _ (.cons _ (.cons _ (.refl _)))) | exact .cons_cons _ (List.nil_sublist _))⟩, (by omega), ⟨k + 1, m, rfl, rfl, (by omega), (tellsS_has ht hx hg)⟩⟩
  ·
    have hge : l.length ≤ k := by have := of_decide_eq_false hc0; simp at this; omega
    rw [List.take_of_length_le hge] at ht
    refine awp_exit ?_
    refine x_thenE ?_
    refine x_thenE ?_
    refine x_blockE ?_
    refine x_then ?_
    refine awp_seq ?_
    refine awp_region ?_
    refine r_move rfl rfl ?_
    refine r_assign rfl rfl ?_
    refine awl_nil ?_
    refine x_then ?_
    refine awp_ret ?_
    exact ⟨(.inl rfl), _, [⟨b8, true, .map (encM Value.string bts m)⟩], (.one (by first | exact .mk rfl rfl | exact .nil rfl)), ⟨b8, m, rfl, rfl, ht⟩, (by first | exact List.Sublist.refl _ | exact .cons_cons _ (.cons _ (.refl _)) | exact List.nil_sublist _ | exact .cons _ (.refl _) | exact .cons _ (.cons _ (.refl _)) | exact .cons _ (.cons _ (.cons _ (.refl _))) | exact .cons _ (.cons _ (.cons _ (.cons _ (.refl _)))) | exact .cons_cons _ (List.nil_sublist _)), (by simp)⟩

theorem order_ok (m : List (ByteArray × List UInt8)) (hnd : (m.map (·.1)).Nodup) (hsz : ∀ s ∈ m.map (·.1), s.size ≤ maxLen) (hlen : m.length ≤ 1000000) {b : Nat} {fl : Bool} : AC Try.prog 38 [.v (.map (some b))] [⟨b, fl, .map (encM Value.string bts m)⟩] (fun r n => n = [] ∧ r = strsA (sortB (m.map (·.1)))) := by
  refine ac_of_awp (rs := [2]) (nt := 6) Try.func38 rfl rfl rfl rfl (fun w0 C0 hq => ?_)
  refine awp_seq ?_
  refine awp_region ?_
  refine r_assign rfl rfl ?_
  refine awl_nil ?_
  refine x_then ?_
  refine awp_seq ?_
  refine awp_region ?_
  refine r_move rfl rfl ?_
  refine r_callO hq rfl rfl (.cons (.ev rfl rfl) .nil) (ac_keys keys57) rfl TF.en57 (by first | exact List.Sublist.refl _ | exact .cons_cons _ (.cons _ (.refl _)) | exact List.nil_sublist _ | exact .cons _ (.refl _) | exact .cons _ (.cons _ (.refl _)) | exact .cons _ (.cons _ (.cons _ (.refl _))) | exact .cons _ (.cons _ (.cons _ (.cons _ (.refl _)))) | exact .cons_cons _ (List.nil_sublist _)) rfl (fun r nobjs hr => ?_)
  obtain ⟨g, rfl, rfl⟩ := hr
  refine r_callO hq rfl rfl (.cons (.ev rfl rfl) .nil) (ac_sorted sorted56_57 TF.un9 (encM_keys (ek := Value.string) (ev := bts) m) hnd hsz (by rw [encM_len]; exact hlen)) rfl TF.en56 (by first | exact List.Sublist.refl _ | exact .cons_cons _ (.cons _ (.refl _)) | exact List.nil_sublist _ | exact .cons _ (.refl _) | exact .cons _ (.cons _ (.refl _)) | exact .cons _ (.cons _ (.cons _ (.refl _))) | exact .cons _ (.cons _ (.cons _ (.cons _ (.refl _)))) | exact .cons_cons _ (List.nil_sublist _)) rfl (fun r nobjs hr => ?_)
  obtain ⟨rfl, rfl⟩ := hr
  refine r_assign rfl rfl ?_
  refine awl_nil ?_
  refine x_then ?_
  refine awp_ret ?_
  exact ⟨(.inl rfl), _, [], (.one (by first | exact .mk rfl rfl | exact .nil rfl)), ⟨rfl, rfl⟩, (List.nil_sublist _), (by simp)⟩

theorem orderG_ok (m : List (ByteArray × List UInt8)) (hnd : (m.map (·.1)).Nodup) (hsz : ∀ s ∈ m.map (·.1), s.size ≤ maxLen) (hlen : m.length ≤ 1000000) {b : Nat} {fl : Bool} : AC Try.prog 38 [.v (.map (some b))] [⟨b, fl, .map (encM Value.string bts m)⟩] (GrowS (sortB (m.map (·.1)))) := by
  refine ac_of_awp (rs := [2]) (nt := 6) Try.func38 rfl rfl rfl rfl (fun w0 C0 hq => ?_)
  refine awp_seq ?_
  refine awp_region ?_
  refine r_assign rfl rfl ?_
  refine awl_nil ?_
  refine x_then ?_
  refine awp_seq ?_
  refine awp_region ?_
  refine r_move rfl rfl ?_
  refine r_callO hq rfl rfl (.cons (.ev rfl rfl) .nil) (ac_keys keys57) rfl TF.en57 (by first | exact List.Sublist.refl _ | exact .cons_cons _ (.cons _ (.refl _)) | exact List.nil_sublist _ | exact .cons _ (.refl _) | exact .cons _ (.cons _ (.refl _)) | exact .cons _ (.cons _ (.cons _ (.refl _))) | exact .cons _ (.cons _ (.cons _ (.cons _ (.refl _)))) | exact .cons_cons _ (List.nil_sublist _)) rfl (fun r nobjs hr => ?_)
  obtain ⟨g, rfl, rfl⟩ := hr
  refine r_callO hq rfl rfl (.cons (.ev rfl rfl) .nil) (ac_sortedG sorted56_57 TF.un9 (encM_keys (ek := Value.string) (ev := bts) m) hnd hsz (by rw [encM_len]; exact hlen)) rfl TF.en56 (by first | exact List.Sublist.refl _ | exact .cons_cons _ (.cons _ (.refl _)) | exact List.nil_sublist _ | exact .cons _ (.refl _) | exact .cons _ (.cons _ (.refl _)) | exact .cons _ (.cons _ (.cons _ (.refl _))) | exact .cons _ (.cons _ (.cons _ (.cons _ (.refl _)))) | exact .cons_cons _ (List.nil_sublist _)) rfl (fun r nobjs hr => ?_)
  rcases hr with ⟨h0, rfl, rfl⟩ | ⟨g2, cap, ext, hcap, rfl, rfl⟩
  
  ·
    refine r_assign rfl rfl ?_
    refine awl_nil ?_
    refine x_then ?_
    refine awp_ret ?_
    exact ⟨(.inl rfl), _, [], (.one (by first | exact .mk rfl rfl | exact .nil rfl)), (.inl ⟨h0, rfl, rfl⟩), (List.nil_sublist _), (by simp)⟩
  ·
    refine r_assign rfl rfl ?_
    refine awl_nil ?_
    refine x_then ?_
    refine awp_ret ?_
    exact ⟨(.inl rfl), _, [⟨g2, true, .box (strsC (sortB (m.map (·.1))) ++ ext)⟩], (.one (by first | exact .mk rfl rfl | exact .nil rfl)), (.inr ⟨g2, cap, ext, hcap, rfl, rfl⟩), (by first | exact List.Sublist.refl _ | exact .cons_cons _ (.cons _ (.refl _)) | exact List.nil_sublist _ | exact .cons _ (.refl _) | exact .cons _ (.cons _ (.refl _)) | exact .cons _ (.cons _ (.cons _ (.refl _))) | exact .cons _ (.cons _ (.cons _ (.cons _ (.refl _)))) | exact .cons_cons _ (List.nil_sublist _)), (by simp)⟩

theorem without1_ok (m : List (ByteArray × List UInt8)) (s : ByteArray) {b : Nat} {fl : Bool} : AC Try.prog 55 [.v (.string s), .cp [.v (.map (some b))]] [⟨b, fl, .map (encM Value.string bts m)⟩] (fun r n => n = [] ∧ r = boolA (mget m s).isSome) := by
  refine ac_of_awp (rs := [3]) (nt := 13) Try.func55 rfl rfl rfl rfl (fun w0 C0 hq => ?_)
  refine awp_seq ?_
  refine awp_region ?_
  refine r_assign rfl rfl ?_
  refine awl_nil ?_
  refine x_then ?_
  refine awp_seq ?_
  refine awp_region ?_
  first | (refine r_load1 rfl TF.agg72 rfl ?_) | (refine r_load1b 0 rfl rfl rfl TF.agg72 rfl ?_)
  refine r_move rfl rfl ?_
  refine r_lookupOk 0 (keyEnc_string TF.un9) (ev := bts) [] rfl rfl rfl TF.map72 TF.zavS rfl ?_
  refine r_move rfl rfl ?_
  refine r_extract rfl rfl rfl ?_
  refine r_extract rfl rfl rfl ?_
  refine r_assign rfl rfl ?_
  refine r_assign rfl rfl ?_
  refine awl_nil ?_
  refine x_then ?_
  refine awp_seq ?_
  refine awp_region ?_
  refine r_move rfl rfl ?_
  refine r_assign rfl rfl ?_
  refine awl_nil ?_
  refine x_then ?_
  refine awp_ret ?_
  exact ⟨(.inl rfl), _, [], (.one (by first | exact .mk rfl rfl | exact .nil rfl)), ⟨rfl, rfl⟩, (List.nil_sublist _), (by simp)⟩

theorem withoutG_ok (ma mb : List (ByteArray × List UInt8)) (hnd : (ma.map (·.1)).Nodup) (hsz : ∀ s ∈ ma.map (·.1), s.size ≤ maxLen) (hlen : ma.length ≤ 1000000) {ba bb : Nat} {f1 f2 : Bool} : AC Try.prog 33 [.v (.map (some ba)), .v (.map (some bb))] [⟨ba, f1, .map (encM Value.string bts ma)⟩, ⟨bb, f2, .map (encM Value.string bts mb)⟩] (GrowS ((sortB (ma.map (·.1))).filter (fun s => !(mget mb s).isSome))) := by
  refine ac_of_awp (rs := [4]) (nt := 9) Try.func33 rfl rfl rfl rfl (fun w0 C0 hq => ?_)
  refine awp_seq ?_
  refine awp_region ?_
  refine r_box rfl rfl rfl (fun b3 => ?_)
  refine r_assign rfl rfl ?_
  refine awl_nil ?_
  refine x_then ?_
  refine awp_seq ?_
  refine awp_region ?_
  refine awl_imp (imp_commit 0 3 rfl rfl rfl rfl) ?_
  refine r_move rfl rfl ?_
  refine r_callO hq rfl rfl (.cons (.ev rfl rfl) .nil) (orderG_ok ma hnd hsz hlen) rfl TF.en38 (.cons_cons _ (List.nil_sublist _)) rfl (fun r nobjs hr => ?_)
  rcases hr with ⟨h0, rfl, rfl⟩ | ⟨g2, cap, ext, hcap, rfl, rfl⟩
  
  ·
    refine r_makeFunc rfl (.cons (.ev rfl rfl) .nil) rfl ?_
    refine r_call0 hq rfl rfl (.cons (.ev rfl rfl) (.cons (.ev rfl rfl) .nil)) (delN_ok) rfl TF.en54 rfl (fun r hr => ?_)
    obtain rfl := hr
    refine r_assign rfl rfl ?_
    refine awl_nil ?_
    refine x_then ?_
    refine awp_ret ?_
    exact ⟨(.inl rfl), _, [], (.one (by first | exact .mk rfl rfl | exact .nil rfl)), (.inl ⟨by rw [h0]; rfl, rfl, rfl⟩), (List.nil_sublist _), (by simp)⟩
  ·
    refine r_makeFunc rfl (.cons (.ev rfl rfl) .nil) rfl ?_
    refine r_callW hq [true, false, false] rfl rfl (.cons (.ev rfl rfl) (.cons (.ev rfl rfl) .nil)) (delV_ok (fun s => (mget mb s).isSome) TF.en55 (os := [⟨bb, false, .map (encM Value.string bts mb)⟩]) (fun s => without1_ok mb s) _ (by rw [sortB_len, List.length_map]; exact hlen) hcap) rfl TF.en54 rfl rfl (.cons _ (.refl _)) rfl (fun r nobjs hr => ?_)
    obtain ⟨ext', hcap', rfl, rfl⟩ := hr
    refine r_assign rfl rfl ?_
    refine awl_nil ?_
    refine x_then ?_
    refine awp_ret ?_
    exact ⟨(.inl rfl), _, [⟨g2, true, .box (strsC ((sortB (ma.map (·.1))).filter (fun s => !(mget mb s).isSome)) ++ ext')⟩], (.one (by first | exact .mk rfl rfl | exact .nil rfl)), (.inr ⟨g2, cap, ext', hcap', rfl, rfl⟩), (by first | exact List.Sublist.refl _ | exact .cons_cons _ (.cons _ (.refl _)) | exact List.nil_sublist _ | exact .cons _ (.refl _) | exact .cons _ (.cons _ (.refl _)) | exact .cons _ (.cons _ (.cons _ (.refl _))) | exact .cons _ (.cons _ (.cons _ (.cons _ (.refl _)))) | exact .cons_cons _ (List.nil_sublist _)), (by simp)⟩

theorem without_ok (ma mb : List (ByteArray × List UInt8)) (hnd : (ma.map (·.1)).Nodup) (hsz : ∀ s ∈ ma.map (·.1), s.size ≤ maxLen) (hlen : ma.length ≤ 1000000) {ba bb : Nat} {f1 f2 : Bool} : AC Try.prog 33 [.v (.map (some ba)), .v (.map (some bb))] [⟨ba, f1, .map (encM Value.string bts ma)⟩, ⟨bb, f2, .map (encM Value.string bts mb)⟩] (fun r n => n = [] ∧ r = strsA ((sortB (ma.map (·.1))).filter (fun s => !(mget mb s).isSome))) := by
  refine ac_of_awp (rs := [4]) (nt := 9) Try.func33 rfl rfl rfl rfl (fun w0 C0 hq => ?_)
  refine awp_seq ?_
  refine awp_region ?_
  refine r_box rfl rfl rfl (fun b3 => ?_)
  refine r_assign rfl rfl ?_
  refine awl_nil ?_
  refine x_then ?_
  refine awp_seq ?_
  refine awp_region ?_
  refine awl_imp (imp_commit 0 3 rfl rfl rfl rfl) ?_
  refine r_move rfl rfl ?_
  refine r_callO hq rfl rfl (.cons (.ev rfl rfl) .nil) (orderG_ok ma hnd hsz hlen) rfl TF.en38 (.cons_cons _ (List.nil_sublist _)) rfl (fun r nobjs hr => ?_)
  rcases hr with ⟨h0, rfl, rfl⟩ | ⟨g2, cap, ext, hcap, rfl, rfl⟩
  
  ·
    refine r_makeFunc rfl (.cons (.ev rfl rfl) .nil) rfl ?_
    refine r_call0 hq rfl rfl (.cons (.ev rfl rfl) (.cons (.ev rfl rfl) .nil)) (delN_ok) rfl TF.en54 rfl (fun r hr => ?_)
    obtain rfl := hr
    refine r_assign rfl rfl ?_
    refine awl_nil ?_
    refine x_then ?_
    refine awp_ret ?_
    exact ⟨(.inl rfl), _, [], (.one (.nil (sz := 1) rfl)), ⟨rfl, by rw [h0]; rfl⟩, (List.nil_sublist _), (by simp)⟩
  ·
    refine r_makeFunc rfl (.cons (.ev rfl rfl) .nil) rfl ?_
    refine r_callW hq [true, false, false] rfl rfl (.cons (.ev rfl rfl) (.cons (.ev rfl rfl) .nil)) (delV_ok (fun s => (mget mb s).isSome) TF.en55 (os := [⟨bb, false, .map (encM Value.string bts mb)⟩]) (fun s => without1_ok mb s) _ (by rw [sortB_len, List.length_map]; exact hlen) hcap) rfl TF.en54 rfl rfl (.cons _ (.refl _)) rfl (fun r nobjs hr => ?_)
    obtain ⟨ext', hcap', rfl, rfl⟩ := hr
    refine awl_boxBuf 0 rfl hcap' (fun be => ?_)
    refine awl_imp (imp_commitB 0 8 rfl (by simp) rfl) ?_
    ·
      refine r_assign rfl rfl ?_
      refine awl_nil ?_
      refine x_then ?_
      refine awp_ret ?_
      exact ⟨(.inl rfl), _, [], (.one (by first | exact .mk rfl rfl | exact .nil rfl)), ⟨rfl, rfl⟩, (List.nil_sublist _), (by simp)⟩

theorem of1_ok {a b : List File} {mx my : List (ByteArray × List UInt8)} (hx : TellsS mx a) (hy : TellsS my b) (s t : ByteArray) {bx by_ : Nat} {f1 f2 : Bool} : AC Try.prog 35 [.v (.string t), .cp [.v (.map (some bx))], .cp [.v (.string s)], .cp [.v (.map (some by_))]] [⟨bx, f1, .map (encM Value.string bts mx)⟩, ⟨by_, f2, .map (encM Value.string bts my)⟩] (fun r n => n = [] ∧ r = boolA (hitF a b s t)) := by
  refine ac_of_awp (rs := [5]) (nt := 20) Try.func35 rfl rfl rfl rfl (fun w0 C0 hq => ?_)
  refine awp_seq ?_
  refine awp_region ?_
  refine r_assign rfl rfl ?_
  refine awl_nil ?_
  refine x_then ?_
  refine awp_seq ?_
  refine awp_region ?_
  first | (refine r_load1 rfl TF.agg72 rfl ?_) | (refine r_load1b 0 rfl rfl rfl TF.agg72 rfl ?_) | (refine r_load1b 1 rfl rfl rfl TF.agg72 rfl ?_)
  first | (refine r_load1 rfl TF.agg9 rfl ?_) | (refine r_load1b 0 rfl rfl rfl TF.agg9 rfl ?_) | (refine r_load1b 1 rfl rfl rfl TF.agg9 rfl ?_)
  first | (refine r_lookup 0 (keyEnc_string TF.un9) (ev := bts) [] rfl rfl rfl TF.map72 TF.zavS rfl ?_) | (refine r_lookup 1 (keyEnc_string TF.un9) (ev := bts) [] rfl rfl rfl TF.map72 TF.zavS rfl ?_)
  first | (refine r_lenS rfl rfl TF.sl42 rfl ?_) | (refine r_lenNil rfl TF.sl42 rfl ?_) | (refine r_lenV rfl TF.sl42 rfl ?_)
  refine r_cmp rfl rfl rfl rfl ?_
  refine r_move rfl rfl ?_
  refine g_cases (t' := 11) rfl (fun hg11 => ?_) (fun hg11 => ?_)
  ·
    have h1 : 0 < ((mget mx s).getD []).length := by have := of_decide_eq_true hg11; simpa [u8s_len] using this
    refine g_run rfl rfl hg11 ?_
    first | (refine r_load1 rfl TF.agg72 rfl ?_) | (refine r_load1b 0 rfl rfl rfl TF.agg72 rfl ?_) | (refine r_load1b 1 rfl rfl rfl TF.agg72 rfl ?_)
    refine g_run rfl rfl hg11 ?_
    first | (refine r_load1 rfl TF.agg9 rfl ?_) | (refine r_load1b 0 rfl rfl rfl TF.agg9 rfl ?_) | (refine r_load1b 1 rfl rfl rfl TF.agg9 rfl ?_)
    refine g_run rfl rfl hg11 ?_
    first | (refine r_lookup 0 (keyEnc_string TF.un9) (ev := bts) [] rfl rfl rfl TF.map72 TF.zavS rfl ?_) | (refine r_lookup 1 (keyEnc_string TF.un9) (ev := bts) [] rfl rfl rfl TF.map72 TF.zavS rfl ?_)
    refine g_run rfl rfl hg11 ?_
    first | (refine r_load1 rfl TF.agg72 rfl ?_) | (refine r_load1b 0 rfl rfl rfl TF.agg72 rfl ?_) | (refine r_load1b 1 rfl rfl rfl TF.agg72 rfl ?_)
    refine g_run rfl rfl hg11 ?_
    refine r_move rfl rfl ?_
    refine g_run rfl rfl hg11 ?_
    first | (refine r_lookup 0 (keyEnc_string TF.un9) (ev := bts) [] rfl rfl rfl TF.map72 TF.zavS rfl ?_) | (refine r_lookup 1 (keyEnc_string TF.un9) (ev := bts) [] rfl rfl rfl TF.map72 TF.zavS rfl ?_)
    refine g_run rfl rfl hg11 ?_
    refine r_call0 hq rfl rfl (.cons (.ev rfl rfl) (.cons (.ev rfl rfl) .nil)) (equal_ok _ _) rfl TF.en36 rfl (fun r hr => ?_)
    obtain rfl := hr
    refine r_pickT rfl hg11 rfl rfl ?_
    refine r_assign rfl rfl ?_
    refine awl_nil ?_
    refine x_then ?_
    refine awp_ret ?_
    exact ⟨(.inl rfl), _, [], (.one (by first | exact .mk rfl rfl | exact .nil rfl)), ⟨rfl, by rw [hitF, ← hx.get, ← hy.get]; first | (rw [decide_eq_true h1, Bool.true_and]; rfl) | (rw [decide_eq_false h1, Bool.false_and]; rfl)⟩, (List.nil_sublist _), (by simp)⟩
  ·
    have h1 : ¬ 0 < ((mget mx s).getD []).length := by have := of_decide_eq_false hg11; simpa [u8s_len] using this
    refine g_skip rfl rfl hg11 rfl ?_
    refine g_skip rfl rfl hg11 rfl ?_
    refine g_skip rfl rfl hg11 rfl ?_
    refine g_skip rfl rfl hg11 rfl ?_
    refine g_skip rfl rfl hg11 rfl ?_
    refine g_skip rfl rfl hg11 rfl ?_
    refine g_skip rfl rfl hg11 rfl ?_
    refine r_pickF rfl hg11 rfl rfl ?_
    refine r_assign rfl rfl ?_
    refine awl_nil ?_
    refine x_then ?_
    refine awp_ret ?_
    exact ⟨(.inl rfl), _, [], (.one (by first | exact .mk rfl rfl | exact .nil rfl)), ⟨rfl, by rw [hitF, ← hx.get, ← hy.get]; first | (rw [decide_eq_true h1, Bool.true_and]; rfl) | (rw [decide_eq_false h1, Bool.false_and]; rfl)⟩, (List.nil_sublist _), (by simp)⟩

end Go.Proofs.Ytmbfmnhcahhciaa.A

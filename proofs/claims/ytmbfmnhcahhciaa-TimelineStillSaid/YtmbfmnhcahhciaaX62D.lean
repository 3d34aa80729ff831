/- Layer 62: walks of Apply. -/
import Derived.Test.YtmbfmnhcahhciaaProg
import Derived.KernelRfl
import Derived.Test.YtmbfmnhcahhciaaX62C
import Derived.Test.YtmbfmnhcahhciaaX62T
namespace Go.Proofs.Ytmbfmnhcahhciaa.A
open Go Go.RowKit
set_option linter.unusedVariables false
set_option linter.unusedSimpArgs false
set_option maxRecDepth 100000

theorem TF.f44_0 : fieldT Try.prog 44 0 = some (0, 3) := by kernel_rfl
theorem TF.sz3 : szT Try.prog 3 = some 1 := by kernel_rfl
theorem TF.agg3 : aggT Try.prog 3 = some false := by kernel_rfl
theorem TF.f44_1 : fieldT Try.prog 44 1 = some (1, 9) := by kernel_rfl
theorem TF.f44_3 : fieldT Try.prog 44 3 = some (3, 42) := by kernel_rfl
theorem TF.f44_2 : fieldT Try.prog 44 2 = some (2, 9) := by kernel_rfl
theorem TF.agg44 : aggT Try.prog 44 = some true := by kernel_rfl
theorem TF.en60 : entersT Try.prog 60 := enters_of Try.func60 (by kernel_rfl) (by kernel_rfl)
theorem TF.en50 : entersT Try.prog 50 := enters_of Try.func50 (by kernel_rfl) (by kernel_rfl)
theorem TF.pl67 : placesT Try.prog 67 = some [(0, 1), (1, 1)] := by kernel_rfl
theorem TF.zraw67 : zeroT Try.prog 67 = some [(.string ⟨#[]⟩), (.slice none 0 0)] := by kernel_rfl
theorem TF.by67 : bytesT Try.prog 67 = some 40 := by kernel_rfl
theorem TF.zlen67 : (zeroT Try.prog 67).map (·.length) = some 2 := by kernel_rfl

theorem named2_ok (l : List File) (hl : l.length ≤ 1000000) (hda : ∀ f ∈ l, f.data.length ≤ 1000000) : AC Try.prog 32 [files l] [] (fun r n => ∃ b, r = .v (.map (some b)) ∧ n = [⟨b, true, .map (encM Value.string bts (firstM l))⟩]) := by
  refine ac_of_awp (rs := [2]) (nt := 32) Try.func32 rfl rfl rfl rfl (fun w0 C0 hq => ?_)
  refine awp_seq ?_
  refine awp_region ?_
  refine r_assign rfl rfl ?_
  refine awl_nil ?_
  refine x_then ?_
  refine awp_seq ?_
  refine awp_region ?_
  refine r_makeMap (ek := Value.string) (ev := bts) [] rfl rfl (fun b8 => ?_)
  refine r_assign rfl rfl ?_
  refine awl_nil ?_
  refine x_then ?_
  refine awp_seq ?_
  refine awp_seq ?_
  refine awp_region ?_
  refine r_move rfl rfl ?_
  first | (refine r_lenS rfl rfl TF.sl31 rfl ?_) | (refine r_lenNil rfl TF.sl31 rfl ?_) | (refine r_lenV rfl TF.sl31 rfl ?_)
  refine r_move rfl rfl ?_
  refine awl_nil ?_
  refine x_then ?_
  refine awp_block ?_
  refine awp_loop (fun nn0 S => ∃ k : Nat, S = ⟨32, [(3, .a (.v (.map (some b8)))), (9, .a (files l)), (10, .a (.v (.int .i64 ((l.map File.cs).length)))), (11, .a (.v (.int .i64 ((k : Int)))))], [⟨b8, true, .map (encM Value.string bts (firstM (l.take k)))⟩]⟩ ∧ nn0 = l.length - k ∧ (k ≤ l.length)) (l.length - (0)) ⟨32, [(3, .a (.v (.map (some b8)))), (9, .a (files l)), (10, .a (.v (.int .i64 ((l.map File.cs).length)))), (11, .a (.v (.int .i64 (((0) : Int)))))], [⟨b8, true, .map (encM Value.string bts (firstM (l.take (0))))⟩]⟩ ⟨rfl, (Slots.cons rfl (by first | exact .refl _ | exact .nilOwn _ _ | exact .nilSl _ | exact .ownSl _ _ _  | exact SV.le.of_eq (by simp)) (Slots.cons rfl (by first | exact .refl _ | exact .nilOwn _ _ | exact .nilSl _ | exact .ownSl _ _ _  | exact SV.le.of_eq (by simp)) (Slots.cons rfl (by first | exact .refl _ | exact .nilOwn _ _ | exact .nilSl _ | exact .ownSl _ _ _  | exact SV.le.of_eq (by simp)) (Slots.cons rfl (by first | exact .refl _ | exact .nilOwn _ _ | exact .nilSl _ | exact .ownSl _ _ _  | exact SV.le.of_eq (by simp)) Slots.nil)))), (by first | exact List.Sublist.refl _ | exact .cons_cons _ (.cons _ (.refl _)) | exact List.nil_sublist _ | exact .cons _ (.refl _) | exact .cons _ (.cons _ (.refl _)) | exact .cons _ (.cons _ (.cons _ (.refl _))) | exact .cons _ (.cons _ (.cons _ (.cons _ (.refl _)))) | exact .cons_cons _ (List.nil_sublist _))⟩ ⟨0, rfl, rfl, Nat.zero_le _⟩ ?_
  rintro nn0 _ ⟨k, rfl, rfl, hk⟩
  refine awp_seq ?_
  refine awp_region ?_
  refine r_cmp rfl rfl rfl rfl ?_
  refine awl_nil ?_
  refine x_then ?_
  refine awp_seq ?_
  refine awp_cond rfl (fun hc0 => ?_) (fun hc0 => ?_)
  ·
    have hltx : k < l.length := by have := of_decide_eq_true hc0; simpa using this
    obtain ⟨x, hx⟩ := get_lt hltx
    refine awp_skip ?_
    refine x_then ?_
    refine awp_seq ?_
    refine awp_block ?_
    refine awp_seq ?_
    refine awp_region ?_
    refine r_index rfl rfl rfl TF.sl31 TF.sz67 (by omega) (get_map hx) rfl ?_
    first | (refine r_loadA rfl TF.agg67 TF.sz67 rfl rfl ?_) | (refine r_loadAb 0 rfl rfl TF.agg67 TF.sz67 rfl rfl ?_)
    refine r_alloc TF.zero67 rfl (fun b5 => ?_)
    first | (refine r_store 0 rfl rfl rfl TF.sz67 rfl rfl rfl ?_) | (refine r_store 1 rfl rfl rfl TF.sz67 rfl rfl rfl ?_)
    refine awl_nil ?_
    refine x_then ?_
    refine awp_seq ?_
    refine awp_region ?_
    refine r_move rfl rfl ?_
    first | (refine r_fieldb rfl TF.f67_0 TF.sz9 rfl ?_) | (refine r_fieldcp rfl TF.f67_0 TF.sz9 rfl ?_)
    refine r_load1b 0 rfl rfl rfl TF.agg9 rfl ?_
    first | (refine r_lookupOk 0 (keyEnc_string TF.un9) (ev := bts) [] rfl rfl rfl TF.map72 TF.zavS rfl ?_) | (refine r_lookupOk 1 (keyEnc_string TF.un9) (ev := bts) [] rfl rfl rfl TF.map72 TF.zavS rfl ?_)
    refine r_move rfl rfl ?_
    refine r_extract rfl rfl rfl ?_
    refine r_extract rfl rfl rfl ?_
    refine r_assign rfl rfl ?_
    refine r_assign rfl rfl ?_
    refine awl_nil ?_
    refine x_then ?_
    refine awp_seq ?_
    refine awp_region ?_
    refine r_move rfl rfl ?_
    refine r_not rfl rfl ?_
    refine awl_nil ?_
    refine x_then ?_
    refine awp_cond rfl (fun hc1 => ?_) (fun hc1 => ?_)
    ·
      have hg : (mget (firstM (l.take k)) x.name).isSome = false := by simpa using hc1
      refine awp_drawS [24, 25, 26, 27, 28, 29] [_, _, _, _, _, _] [] [] TF.mixed rfl rfl rfl ⟨⟨⟨⟨⟨⟨trivial
        , ⟨_, rfl, fun sl hd hr ho => by
            refine r_move (hr 3 _ rfl rfl rfl) rfl ?_
            exact awl_nil ⟨rfl, post_put⟩⟩⟩
        , ⟨_, rfl, fun sl hd hr ho => by
            first | (refine r_fieldb (hr 5 _ rfl rfl rfl) TF.f67_0 TF.sz9 rfl ?_) | (refine r_fieldcp (hr 5 _ rfl rfl rfl) TF.f67_0 TF.sz9 rfl ?_)
            exact awl_nil ⟨rfl, post_put⟩⟩⟩
        , ⟨_, rfl, fun sl hd hr ho => by
            refine r_load1b 0 (hd 1 _ rfl rfl rfl) rfl rfl TF.agg9 rfl ?_
            exact awl_nil ⟨rfl, post_put⟩⟩⟩
        , ⟨_, rfl, fun sl hd hr ho => by
            first | (refine r_fieldb (hr 5 _ rfl rfl rfl) TF.f67_1 TF.sz42 rfl ?_) | (refine r_fieldcp (hr 5 _ rfl rfl rfl) TF.f67_1 TF.sz42 rfl ?_)
            exact awl_nil ⟨rfl, post_put⟩⟩⟩
        , ⟨_, rfl, fun sl hd hr ho => by
            refine r_load1b 0 (hd 3 _ rfl rfl rfl) rfl rfl TF.agg42 rfl ?_
            exact awl_nil ⟨rfl, post_put⟩⟩⟩
        , ⟨_, rfl, fun sl hd hr ho => by
            refine r_call0 hq rfl rfl (.cons (.ev (hd 4 _ rfl rfl rfl) rfl) .nil) (clone_ok x.data (hda x (List.mem_of_getElem? hx))) rfl TF.en39 rfl (fun r hr => ?_)
            obtain rfl := hr
            exact awl_nil ⟨rfl, post_put⟩⟩⟩
        (by rfl) ?_
      first | (refine r_mapUpdate 0 (keyEnc_string TF.un9) (ev := bts) x.data rfl rfl rfl rfl rfl TF.map72 ?_) | (refine r_mapUpdate 1 (keyEnc_string TF.un9) (ev := bts) x.data rfl rfl rfl rfl rfl TF.map72 ?_)
      refine awl_nil ?_
      refine x_block ?_
      refine x_then ?_
      refine awp_region ?_
      refine r_ari _ rfl rfl rfl (wrap_id (by first | omega | (simp; omega))) rfl ?_
      refine r_move rfl rfl ?_
      refine awl_nil ?_
      refine x_then ?_
      have hst := firstM_step hx
      refine ⟨l.length - (k + 1), ⟨32, [(3, .a (.v (.map (some b8)))), (9, .a (files l)), (10, .a (.v (.int .i64 ((l.map File.cs).length)))), (11, .a (.v (.int .i64 (((k + 1) : Int)))))], [⟨b8, true, .map (encM Value.string bts (firstM (l.take (k + 1))))⟩]⟩, ⟨rfl, (Slots.cons rfl (by first | exact .refl _ | exact .nilOwn _ _ | exact .nilSl _ | exact .ownSl _ _ _  | exact SV.le.of_eq (by simp)) (Slots.cons rfl (by first | exact .refl _ | exact .nilOwn _ _ | exact .nilSl _ | exact .ownSl _ _ _  | exact SV.le.of_eq (by simp)) (Slots.cons rfl (by first | exact .refl _ | exact .nilOwn _ _ | exact .nilSl _ | exact .ownSl _ _ _  | exact SV.le.of_eq (by simp)) (Slots.cons rfl (by first | exact .refl _ | exact .nilOwn _ _ | exact .nilSl _ | exact .ownSl _ _ _  | exact SV.le.of_eq (by simp)) Slots.nil)))), (by rw [hst, hg]; first | exact List.Sublist.refl _ | exact .cons_cons _ (.cons _ (.refl _)) | exact List.nil_sublist _ | exact .cons _ (.refl _) | exact .cons _ (.cons _ (.refl _)) | exact .cons _ (.cons _ (.cons _ (.refl _))) | exact .cons _ (.cons _ (.cons _ (.cons _ (.refl _)))) | exact .cons_cons _ (List.nil_sublist _))⟩, (by omega), ⟨k + 1, rfl, rfl, (by omega)⟩⟩
    ·
      have hg : (mget (firstM (l.take k)) x.name).isSome = true := by simpa using hc1
      refine awp_skip ?_
      refine x_block ?_
      refine x_then ?_
      refine awp_region ?_
      refine r_ari _ rfl rfl rfl (wrap_id (by first | omega | (simp; omega))) rfl ?_
      refine r_move rfl rfl ?_
      refine awl_nil ?_
      refine x_then ?_
      have hst := firstM_step hx
      refine ⟨l.length - (k + 1), ⟨32, [(3, .a (.v (.map (some b8)))), (9, .a (files l)), (10, .a (.v (.int .i64 ((l.map File.cs).length)))), (11, .a (.v (.int .i64 (((k + 1) : Int)))))], [⟨b8, true, .map (encM Value.string bts (firstM (l.take (k + 1))))⟩]⟩, ⟨rfl, (Slots.cons rfl (by first | exact .refl _ | exact .nilOwn _ _ | exact .nilSl _ | exact .ownSl _ _ _  | exact SV.le.of_eq (by simp)) (Slots.cons rfl (by first | exact .refl _ | exact .nilOwn _ _ | exact .nilSl _ | exact .ownSl _ _ _  | exact SV.le.of_eq (by simp)) (Slots.cons rfl (by first | exact .refl _ | exact .nilOwn _ _ | exact .nilSl _ | exact .ownSl _ _ _  | exact SV.le.of_eq (by simp)) (Slots.cons rfl (by first | exact .refl _ | exact .nilOwn _ _ | exact .nilSl _ | exact .ownSl _ _ _  | exact SV.le.of_eq (by simp)) Slots.nil)))), (by rw [hst, hg]; first | exact List.Sublist.refl _ | exact .cons_cons _ (.cons _ (.refl _)) | exact List.nil_sublist _ | exact .cons _ (.refl _) | exact .cons _ (.cons _ (.refl _)) | exact .cons _ (.cons _ (.cons _ (.refl _))) | exact .cons _ (.cons _ (.cons _ (.cons _ (.refl _)))) | exact .cons_cons _ (List.nil_sublist _))⟩, (by omega), ⟨k + 1, rfl, rfl, (by omega)⟩⟩
  ·
    have hge : l.length ≤ k := by have := of_decide_eq_false hc0; simp at this; omega
    rw [List.take_of_length_le hge]
    refine awp_exit ?_
    refine x_thenE ?_
    refine x_thenE ?_
    refine x_blockE ?_
    refine x_then ?_
    refine awp_seq ?_
    refine awp_region ?_
    refine r_move rfl rfl ?_
    refine r_assign rfl rfl ?_
    refine awl_nil ?_
    refine x_then ?_
    refine awp_ret ?_
    exact ⟨(.inl rfl), _, [⟨b8, true, .map (encM Value.string bts (firstM l))⟩], (.one (by first | exact .mk rfl rfl | exact .nil rfl)), ⟨b8, rfl, rfl⟩, (by first | exact List.Sublist.refl _ | exact .cons_cons _ (.cons _ (.refl _)) | exact List.nil_sublist _ | exact .cons _ (.refl _) | exact .cons _ (.cons _ (.refl _)) | exact .cons _ (.cons _ (.cons _ (.refl _))) | exact .cons _ (.cons _ (.cons _ (.cons _ (.refl _)))) | exact .cons_cons _ (List.nil_sublist _)), (by simp)⟩

theorem alter_ok (m : SM) (c : FC) (hdc : c.data.length ≤ 1000000) {b : Nat} {fl : Bool} : AW Try.prog 60 [.v (.map (some b)), .agg (FC.cs c)] [] [⟨b, fl, .map (encM Value.string bts m)⟩] (fun r n => r = .v (.int .i64 (alterM m c).1) ∧ n = [⟨b, true, .map (encM Value.string bts (alterM m c).2)⟩]) := by
  refine aw_of_awp (rs := [4]) (nt := 42) (so := [⟨b, true, .map (encM Value.string bts m)⟩]) Try.func60 rfl rfl rfl rfl rfl (fun w0 C0 hq => ?_)
  refine awp_seq ?_
  refine awp_region ?_
  refine r_box rfl rfl rfl (fun b3 => ?_)
  refine r_assign rfl rfl ?_
  refine awl_nil ?_
  refine x_then ?_
  refine awp_seq ?_
  refine awp_seq ?_
  refine awp_region ?_
  first | (refine r_fieldb rfl TF.f44_0 TF.sz3 rfl ?_) | (refine r_fieldcp rfl TF.f44_0 TF.sz3 rfl ?_)
  first | (refine r_load1b 0 rfl rfl rfl TF.agg3 rfl ?_) | (refine r_load1 rfl TF.agg3 rfl ?_) | (refine r_load1b 1 rfl rfl rfl TF.agg3 rfl ?_)
  refine awl_nil ?_
  refine x_then ?_
  refine awp_block ?_
  refine awp_seq ?_
  refine awp_region ?_
  refine r_cmp rfl rfl rfl rfl ?_
  refine r_assign rfl rfl ?_
  refine awl_nil ?_
  refine x_then ?_
  refine awp_cond rfl (fun hc0 => ?_) (fun hc0 => ?_)
  ·
    have hk2 : c.kind = 2 := eq_of_beq hc0
    have ha : alterM m c = (0, mdel m c.name) := by simp [alterM, hk2]
    refine awp_region ?_
    refine r_move rfl rfl ?_
    first | (refine r_fieldb rfl TF.f44_1 TF.sz9 rfl ?_) | (refine r_fieldcp rfl TF.f44_1 TF.sz9 rfl ?_)
    first | (refine r_load1b 0 rfl rfl rfl TF.agg9 rfl ?_) | (refine r_load1 rfl TF.agg9 rfl ?_) | (refine r_load1b 1 rfl rfl rfl TF.agg9 rfl ?_)
    first | (refine r_delete 0 (keyEnc_string TF.un9) rfl rfl rfl TF.map72 ?_) | (refine r_delete 1 (keyEnc_string TF.un9) rfl rfl rfl TF.map72 ?_)
    refine awl_nil ?_
    refine x_block ?_
    refine x_then ?_
    refine awp_seq ?_
    refine awp_region ?_
    refine r_assign rfl rfl ?_
    refine awl_nil ?_
    refine x_then ?_
    refine awp_ret ?_
    exact ⟨(.inl rfl), _, [⟨b, true, .map (encM Value.string bts (alterM m c).2)⟩], (.one (by first | exact .mk rfl rfl | exact .nil rfl)), ⟨by rw [ha]; rfl, rfl⟩, (by rw [ha]; first | exact .cons _ (.refl _) | exact .cons_cons _ (List.nil_sublist _) | exact List.Sublist.refl _), (by simp)⟩
  ·
    have hk2 : ¬ c.kind = 2 := by simpa using hc0
    refine awp_seq ?_
    refine awp_region ?_
    refine r_cmp rfl rfl rfl rfl ?_
    refine r_assign rfl rfl ?_
    refine awl_nil ?_
    refine x_then ?_
    refine awp_cond rfl (fun hc1 => ?_) (fun hc1 => ?_)
    ·
      have hk3 : c.kind = 3 := eq_of_beq hc1
      have ha : alterM m c = (0, mset m c.name c.data) := by simp [alterM, hk3]
      refine awp_drawS [16, 17, 18, 19, 20, 21] [_, _, _, _, _, _] [] [] TF.mixed rfl rfl rfl ⟨⟨⟨⟨⟨⟨trivial
        , ⟨_, rfl, fun sl hd hr ho => by
            refine r_move (hr 0 _ rfl rfl rfl) rfl ?_
            exact awl_nil ⟨rfl, post_put⟩⟩⟩
        , ⟨_, rfl, fun sl hd hr ho => by
            first | (refine r_fieldb (hr 3 _ rfl rfl rfl) TF.f44_1 TF.sz9 rfl ?_) | (refine r_fieldcp (hr 3 _ rfl rfl rfl) TF.f44_1 TF.sz9 rfl ?_)
            exact awl_nil ⟨rfl, post_put⟩⟩⟩
        , ⟨_, rfl, fun sl hd hr ho => by
            first | (refine r_load1b 0 (hd 1 _ rfl rfl rfl) rfl rfl TF.agg9 rfl ?_) | (refine r_load1 (hd 1 _ rfl rfl rfl) TF.agg9 rfl ?_) | (refine r_load1b 1 (hd 1 _ rfl rfl rfl) rfl rfl TF.agg9 rfl ?_)
            exact awl_nil ⟨rfl, post_put⟩⟩⟩
        , ⟨_, rfl, fun sl hd hr ho => by
            first | (refine r_fieldb (hr 3 _ rfl rfl rfl) TF.f44_3 TF.sz42 rfl ?_) | (refine r_fieldcp (hr 3 _ rfl rfl rfl) TF.f44_3 TF.sz42 rfl ?_)
            exact awl_nil ⟨rfl, post_put⟩⟩⟩
        , ⟨_, rfl, fun sl hd hr ho => by
            first | (refine r_load1b 0 (hd 3 _ rfl rfl rfl) rfl rfl TF.agg42 rfl ?_) | (refine r_load1 (hd 3 _ rfl rfl rfl) TF.agg42 rfl ?_) | (refine r_load1b 1 (hd 3 _ rfl rfl rfl) rfl rfl TF.agg42 rfl ?_)
            exact awl_nil ⟨rfl, post_put⟩⟩⟩
        , ⟨_, rfl, fun sl hd hr ho => by
            refine r_call0 hq rfl rfl (.cons (.ev (hd 4 _ rfl rfl rfl) rfl) .nil) (clone_ok c.data hdc) rfl TF.en39 rfl (fun r hr => ?_)
            obtain rfl := hr
            exact awl_nil ⟨rfl, post_put⟩⟩⟩
        (by rfl) ?_
      first | (refine r_mapUpdate 0 (keyEnc_string TF.un9) (ev := bts) _ rfl rfl rfl rfl rfl TF.map72 ?_) | (refine r_mapUpdate 1 (keyEnc_string TF.un9) (ev := bts) _ rfl rfl rfl rfl rfl TF.map72 ?_)
      refine awl_nil ?_
      refine x_block ?_
      refine x_then ?_
      refine awp_seq ?_
      refine awp_region ?_
      refine r_assign rfl rfl ?_
      refine awl_nil ?_
      refine x_then ?_
      refine awp_ret ?_
      exact ⟨(.inl rfl), _, [⟨b, true, .map (encM Value.string bts (alterM m c).2)⟩], (.one (by first | exact .mk rfl rfl | exact .nil rfl)), ⟨by rw [ha]; rfl, rfl⟩, (by rw [ha]; first | exact .cons _ (.refl _) | exact .cons_cons _ (List.nil_sublist _) | exact List.Sublist.refl _), (by simp)⟩
    ·
      have hk3 : ¬ c.kind = 3 := by simpa using hc1
      refine awp_seq ?_
      refine awp_region ?_
      refine r_cmp rfl rfl rfl rfl ?_
      refine r_assign rfl rfl ?_
      refine awl_nil ?_
      refine x_then ?_
      refine awp_cond rfl (fun hc2 => ?_) (fun hc2 => ?_)
      ·
        have hk4 : c.kind = 4 := eq_of_beq hc2
        refine awp_seq ?_
        refine awp_seq ?_
        refine awp_region ?_
        refine r_move rfl rfl ?_
        first | (refine r_fieldb rfl TF.f44_2 TF.sz9 rfl ?_) | (refine r_fieldcp rfl TF.f44_2 TF.sz9 rfl ?_)
        first | (refine r_load1b 0 rfl rfl rfl TF.agg9 rfl ?_) | (refine r_load1 rfl TF.agg9 rfl ?_) | (refine r_load1b 1 rfl rfl rfl TF.agg9 rfl ?_)
        first | (refine r_lookupOk 0 (keyEnc_string TF.un9) (ev := bts) [] rfl rfl rfl TF.map72 TF.zavS rfl ?_) | (refine r_lookupOk 1 (keyEnc_string TF.un9) (ev := bts) [] rfl rfl rfl TF.map72 TF.zavS rfl ?_)
        refine r_move rfl rfl ?_
        refine r_extract rfl rfl rfl ?_
        refine r_extract rfl rfl rfl ?_
        refine r_assign rfl rfl ?_
        refine r_assign rfl rfl ?_
        refine awl_nil ?_
        refine x_then ?_
        refine awp_seq ?_
        refine awp_region ?_
        refine r_move rfl rfl ?_
        refine awl_nil ?_
        refine x_then ?_
        refine awp_cond rfl (fun hc3 => ?_) (fun hc3 => ?_)
        ·
          have ha : alterM m c = (5, m) := by simp only [alterM, hk4]; simp; intro h; rw [h] at hc3; cases hc3
          refine awp_seq ?_
          refine awp_region ?_
          refine r_assign rfl rfl ?_
          refine awl_nil ?_
          refine x_then ?_
          refine awp_ret ?_
          refine x_thenR ?_
          refine x_blockR ?_
          refine x_thenR ?_
          exact ⟨(.inl rfl), _, [⟨b, true, .map (encM Value.string bts (alterM m c).2)⟩], (.one (by first | exact .mk rfl rfl | exact .nil rfl)), ⟨by rw [ha]; rfl, rfl⟩, (by rw [ha]; first | exact .cons _ (.refl _) | exact .cons_cons _ (List.nil_sublist _) | exact List.Sublist.refl _), (by simp)⟩
        ·
          have ha : alterM m c = (0, mdel (mset m c.to ((mget m c.name).getD [])) c.name) := by simp only [alterM, hk4]; simp; simpa using hc3
          refine awp_skip ?_
          refine x_then ?_
          refine awp_seq ?_
          refine awp_region ?_
          refine r_move rfl rfl ?_
          first | (refine r_fieldb rfl TF.f44_2 TF.sz9 rfl ?_) | (refine r_fieldcp rfl TF.f44_2 TF.sz9 rfl ?_)
          first | (refine r_load1b 0 rfl rfl rfl TF.agg9 rfl ?_) | (refine r_load1 rfl TF.agg9 rfl ?_) | (refine r_load1b 1 rfl rfl rfl TF.agg9 rfl ?_)
          refine r_move rfl rfl ?_
          first | (refine r_fieldb rfl TF.f44_1 TF.sz9 rfl ?_) | (refine r_fieldcp rfl TF.f44_1 TF.sz9 rfl ?_)
          first | (refine r_load1b 0 rfl rfl rfl TF.agg9 rfl ?_) | (refine r_load1 rfl TF.agg9 rfl ?_) | (refine r_load1b 1 rfl rfl rfl TF.agg9 rfl ?_)
          first | (refine r_lookup 0 (keyEnc_string TF.un9) (ev := bts) [] rfl rfl rfl TF.map72 TF.zavS rfl ?_) | (refine r_lookup 1 (keyEnc_string TF.un9) (ev := bts) [] rfl rfl rfl TF.map72 TF.zavS rfl ?_)
          first | (refine r_mapUpdate 0 (keyEnc_string TF.un9) (ev := bts) _ rfl rfl rfl rfl rfl TF.map72 ?_) | (refine r_mapUpdate 1 (keyEnc_string TF.un9) (ev := bts) _ rfl rfl rfl rfl rfl TF.map72 ?_)
          refine awl_nil ?_
          refine x_then ?_
          refine awp_region ?_
          refine r_move rfl rfl ?_
          first | (refine r_fieldb rfl TF.f44_1 TF.sz9 rfl ?_) | (refine r_fieldcp rfl TF.f44_1 TF.sz9 rfl ?_)
          first | (refine r_load1b 0 rfl rfl rfl TF.agg9 rfl ?_) | (refine r_load1 rfl TF.agg9 rfl ?_) | (refine r_load1b 1 rfl rfl rfl TF.agg9 rfl ?_)
          first | (refine r_delete 0 (keyEnc_string TF.un9) rfl rfl rfl TF.map72 ?_) | (refine r_delete 1 (keyEnc_string TF.un9) rfl rfl rfl TF.map72 ?_)
          refine awl_nil ?_
          refine x_block ?_
          refine x_then ?_
          refine awp_seq ?_
          refine awp_region ?_
          refine r_assign rfl rfl ?_
          refine awl_nil ?_
          refine x_then ?_
          refine awp_ret ?_
          exact ⟨(.inl rfl), _, [⟨b, true, .map (encM Value.string bts (alterM m c).2)⟩], (.one (by first | exact .mk rfl rfl | exact .nil rfl)), ⟨by rw [ha]; rfl, rfl⟩, (by rw [ha]; first | exact .cons _ (.refl _) | exact .cons_cons _ (List.nil_sublist _) | exact List.Sublist.refl _), (by simp)⟩
      ·
        have hk4 : ¬ c.kind = 4 := by simpa using hc2
        have ha : alterM m c = (0, m) := by simp [alterM, hk2, hk3, hk4]
        refine awp_skip ?_
        refine x_block ?_
        refine x_then ?_
        refine awp_seq ?_
        refine awp_region ?_
        refine r_assign rfl rfl ?_
        refine awl_nil ?_
        refine x_then ?_
        refine awp_ret ?_
        exact ⟨(.inl rfl), _, [⟨b, true, .map (encM Value.string bts (alterM m c).2)⟩], (.one (by first | exact .mk rfl rfl | exact .nil rfl)), ⟨by rw [ha]; rfl, rfl⟩, (by rw [ha]; first | exact .cons _ (.refl _) | exact .cons_cons _ (List.nil_sublist _) | exact List.Sublist.refl _), (by simp)⟩

theorem step_ok (m : SM) (c : FC) (hdc : c.data.length ≤ 1000000) {b : Nat} {fl : Bool} : AW Try.prog 50 [.v (.map (some b)), .agg (FC.cs c)] [] [⟨b, fl, .map (encM Value.string bts m)⟩] (fun r n => r = .v (.int .i64 (stepM m c).1) ∧ n = [⟨b, true, .map (encM Value.string bts (stepM m c).2)⟩]) := by
  refine aw_of_awp (rs := [4]) (nt := 34) (so := [⟨b, true, .map (encM Value.string bts m)⟩]) Try.func50 rfl rfl rfl rfl rfl (fun w0 C0 hq => ?_)
  refine awp_seq ?_
  refine awp_region ?_
  refine r_box rfl rfl rfl (fun b3 => ?_)
  refine r_assign rfl rfl ?_
  refine awl_nil ?_
  refine x_then ?_
  refine awp_seq ?_
  refine awp_region ?_
  refine r_move rfl rfl ?_
  first | (refine r_fieldb rfl TF.f44_1 TF.sz9 rfl ?_) | (refine r_fieldcp rfl TF.f44_1 TF.sz9 rfl ?_)
  first | (refine r_load1b 0 rfl rfl rfl TF.agg9 rfl ?_) | (refine r_load1 rfl TF.agg9 rfl ?_) | (refine r_load1b 1 rfl rfl rfl TF.agg9 rfl ?_)
  first | (refine r_lookupOk 0 (keyEnc_string TF.un9) (ev := bts) [] rfl rfl rfl TF.map72 TF.zavS rfl ?_) | (refine r_lookupOk 1 (keyEnc_string TF.un9) (ev := bts) [] rfl rfl rfl TF.map72 TF.zavS rfl ?_)
  refine r_move rfl rfl ?_
  refine r_extract rfl rfl rfl ?_
  refine r_extract rfl rfl rfl ?_
  refine r_assign rfl rfl ?_
  refine r_assign rfl rfl ?_
  refine awl_nil ?_
  refine x_then ?_
  refine awp_seq ?_
  refine awp_seq ?_
  refine awp_region ?_
  first | (refine r_fieldb rfl TF.f44_0 TF.sz3 rfl ?_) | (refine r_fieldcp rfl TF.f44_0 TF.sz3 rfl ?_)
  first | (refine r_load1b 0 rfl rfl rfl TF.agg3 rfl ?_) | (refine r_load1 rfl TF.agg3 rfl ?_) | (refine r_load1b 1 rfl rfl rfl TF.agg3 rfl ?_)
  refine awl_nil ?_
  refine x_then ?_
  refine awp_block ?_
  refine awp_seq ?_
  refine awp_region ?_
  refine r_cmp rfl rfl rfl rfl ?_
  refine r_assign rfl rfl ?_
  refine awl_nil ?_
  refine x_then ?_
  refine awp_cond rfl (fun hc0 => ?_) (fun hc0 => ?_)
  ·
    have hk1 : c.kind = 1 := eq_of_beq hc0
    refine awp_seq ?_
    refine awp_seq ?_
    refine awp_region ?_
    refine r_move rfl rfl ?_
    refine awl_nil ?_
    refine x_then ?_
    refine awp_cond rfl (fun hc1 => ?_) (fun hc1 => ?_)
    ·
      have ha : stepM m c = (5, m) := by simp only [stepM, hk1]; simp; intro h; rw [h] at hc1; cases hc1
      refine awp_seq ?_
      refine awp_region ?_
      refine r_assign rfl rfl ?_
      refine awl_nil ?_
      refine x_then ?_
      refine awp_ret ?_
      refine x_thenR ?_
      refine x_blockR ?_
      refine x_thenR ?_
      exact ⟨(.inl rfl), _, [⟨b, true, .map (encM Value.string bts (stepM m c).2)⟩], (.one (by first | exact .mk rfl rfl | exact .nil rfl)), ⟨by rw [ha]; rfl, rfl⟩, (by rw [ha]; first | exact .cons _ (.refl _) | exact .cons_cons _ (List.nil_sublist _) | exact List.Sublist.refl _), (by simp)⟩
    ·
      have ha : stepM m c = (0, mset m c.name c.data) := by simp only [stepM, hk1]; simp; simpa using hc1
      refine awp_skip ?_
      refine x_then ?_
      refine awp_drawS [19, 20, 21, 22, 23, 24] [_, _, _, _, _, _] [] [] TF.mixed rfl rfl rfl ⟨⟨⟨⟨⟨⟨trivial
        , ⟨_, rfl, fun sl hd hr ho => by
            refine r_move (hr 0 _ rfl rfl rfl) rfl ?_
            exact awl_nil ⟨rfl, post_put⟩⟩⟩
        , ⟨_, rfl, fun sl hd hr ho => by
            first | (refine r_fieldb (hr 3 _ rfl rfl rfl) TF.f44_1 TF.sz9 rfl ?_) | (refine r_fieldcp (hr 3 _ rfl rfl rfl) TF.f44_1 TF.sz9 rfl ?_)
            exact awl_nil ⟨rfl, post_put⟩⟩⟩
        , ⟨_, rfl, fun sl hd hr ho => by
            first | (refine r_load1b 0 (hd 1 _ rfl rfl rfl) rfl rfl TF.agg9 rfl ?_) | (refine r_load1 (hd 1 _ rfl rfl rfl) TF.agg9 rfl ?_) | (refine r_load1b 1 (hd 1 _ rfl rfl rfl) rfl rfl TF.agg9 rfl ?_)
            exact awl_nil ⟨rfl, post_put⟩⟩⟩
        , ⟨_, rfl, fun sl hd hr ho => by
            first | (refine r_fieldb (hr 3 _ rfl rfl rfl) TF.f44_3 TF.sz42 rfl ?_) | (refine r_fieldcp (hr 3 _ rfl rfl rfl) TF.f44_3 TF.sz42 rfl ?_)
            exact awl_nil ⟨rfl, post_put⟩⟩⟩
        , ⟨_, rfl, fun sl hd hr ho => by
            first | (refine r_load1b 0 (hd 3 _ rfl rfl rfl) rfl rfl TF.agg42 rfl ?_) | (refine r_load1 (hd 3 _ rfl rfl rfl) TF.agg42 rfl ?_) | (refine r_load1b 1 (hd 3 _ rfl rfl rfl) rfl rfl TF.agg42 rfl ?_)
            exact awl_nil ⟨rfl, post_put⟩⟩⟩
        , ⟨_, rfl, fun sl hd hr ho => by
            refine r_call0 hq rfl rfl (.cons (.ev (hd 4 _ rfl rfl rfl) rfl) .nil) (clone_ok c.data hdc) rfl TF.en39 rfl (fun r hr => ?_)
            obtain rfl := hr
            exact awl_nil ⟨rfl, post_put⟩⟩⟩
        (by rfl) ?_
      first | (refine r_mapUpdate 0 (keyEnc_string TF.un9) (ev := bts) c.data rfl rfl rfl rfl rfl TF.map72 ?_) | (refine r_mapUpdate 1 (keyEnc_string TF.un9) (ev := bts) c.data rfl rfl rfl rfl rfl TF.map72 ?_)
      refine awl_nil ?_
      refine x_block ?_
      refine x_then ?_
      refine awp_seq ?_
      refine awp_region ?_
      refine r_assign rfl rfl ?_
      refine awl_nil ?_
      refine x_then ?_
      refine awp_ret ?_
      exact ⟨(.inl rfl), _, [⟨b, true, .map (encM Value.string bts (stepM m c).2)⟩], (.one (by first | exact .mk rfl rfl | exact .nil rfl)), ⟨by rw [ha]; rfl, rfl⟩, (by rw [ha]; first | exact .cons _ (.refl _) | exact .cons_cons _ (List.nil_sublist _) | exact List.Sublist.refl _), (by simp)⟩
  ·
    have hk1 : ¬ c.kind = 1 := by simpa using hc0
    refine awp_seq ?_
    refine awp_seq ?_
    refine awp_region ?_
    refine r_cmp rfl rfl rfl rfl ?_
    refine r_assign rfl rfl ?_
    refine awl_nil ?_
    refine x_then ?_
    refine awp_cond rfl (fun hc2 => ?_) (fun hc2 => ?_)
    ·
      have hkk : c.kind = 2 ∨ c.kind = 3 ∨ c.kind = 4 := .inl (eq_of_beq hc2)
      refine awp_skip ?_
      refine x_then ?_
      refine awp_cond rfl (fun hc4 => ?_) (fun hc4 => ?_)
      ·
        refine awp_seq ?_
        refine awp_seq ?_
        refine awp_region ?_
        refine r_move rfl rfl ?_
        refine r_not rfl rfl ?_
        refine awl_nil ?_
        refine x_then ?_
        refine awp_cond rfl (fun hc5 => ?_) (fun hc5 => ?_)
        ·
          have ha : stepM m c = (4, m) := by simp only [stepM, hk1, if_false, if_pos hkk]; rw [if_neg (by simpa using hc5)]
          refine awp_seq ?_
          refine awp_region ?_
          refine r_assign rfl rfl ?_
          refine awl_nil ?_
          refine x_then ?_
          refine awp_ret ?_
          refine x_thenR ?_
          refine x_blockR ?_
          refine x_thenR ?_
          exact ⟨(.inl rfl), _, [⟨b, true, .map (encM Value.string bts (stepM m c).2)⟩], (.one (by first | exact .mk rfl rfl | exact .nil rfl)), ⟨by rw [ha]; rfl, rfl⟩, (by rw [ha]; first | exact .cons _ (.refl _) | exact .cons_cons _ (List.nil_sublist _) | exact List.Sublist.refl _), (by simp)⟩
        ·
          have ha : stepM m c = alterM m c := by simp only [stepM, hk1, if_false, if_pos hkk]; rw [if_pos (by simpa using hc5)]
          refine awp_skip ?_
          refine x_then ?_
          refine awp_seq ?_
          refine awp_region ?_
          refine r_move rfl rfl ?_
          first | (refine r_loadAb 0 rfl rfl TF.agg44 TF.sz44 rfl rfl ?_) | (refine r_loadA rfl TF.agg44 TF.sz44 rfl rfl ?_) | (refine r_loadAb 1 rfl rfl TF.agg44 TF.sz44 rfl rfl ?_)
          refine r_callW hq [false, true] rfl rfl (.cons (.ev rfl rfl) (.cons (.ev rfl rfl) .nil)) (alter_ok m c hdc) rfl TF.en60 rfl rfl (List.nil_sublist _) rfl (fun r nobjs hr => ?_)
          obtain ⟨rfl, rfl⟩ := hr
          refine r_assign rfl rfl ?_
          refine awl_nil ?_
          refine x_then ?_
          refine awp_ret ?_
          refine x_blockR ?_
          refine x_thenR ?_
          exact ⟨(.inl rfl), _, [⟨b, true, .map (encM Value.string bts (stepM m c).2)⟩], (.one (by first | exact .mk rfl rfl | exact .nil rfl)), ⟨by rw [ha]; rfl, rfl⟩, (by rw [ha]; first | exact .cons _ (.refl _) | exact .cons_cons _ (List.nil_sublist _) | exact List.Sublist.refl _), (by simp)⟩
      ·
        exfalso; rw [hc2] at hc4; cases hc4
    ·
      have hk2 : ¬ c.kind = 2 := by simpa using hc2
      refine awp_seq ?_
      refine awp_region ?_
      refine r_cmp rfl rfl rfl rfl ?_
      refine r_assign rfl rfl ?_
      refine awl_nil ?_
      refine x_then ?_
      refine awp_cond rfl (fun hc3 => ?_) (fun hc3 => ?_)
      ·
        have hkk : c.kind = 2 ∨ c.kind = 3 ∨ c.kind = 4 := .inr (.inl (eq_of_beq hc3))
        refine awp_skip ?_
        refine x_then ?_
        refine awp_cond rfl (fun hc4 => ?_) (fun hc4 => ?_)
        ·
          refine awp_seq ?_
          refine awp_seq ?_
          refine awp_region ?_
          refine r_move rfl rfl ?_
          refine r_not rfl rfl ?_
          refine awl_nil ?_
          refine x_then ?_
          refine awp_cond rfl (fun hc5 => ?_) (fun hc5 => ?_)
          ·
            have ha : stepM m c = (4, m) := by simp only [stepM, hk1, if_false, if_pos hkk]; rw [if_neg (by simpa using hc5)]
            refine awp_seq ?_
            refine awp_region ?_
            refine r_assign rfl rfl ?_
            refine awl_nil ?_
            refine x_then ?_
            refine awp_ret ?_
            refine x_thenR ?_
            refine x_blockR ?_
            refine x_thenR ?_
            exact ⟨(.inl rfl), _, [⟨b, true, .map (encM Value.string bts (stepM m c).2)⟩], (.one (by first | exact .mk rfl rfl | exact .nil rfl)), ⟨by rw [ha]; rfl, rfl⟩, (by rw [ha]; first | exact .cons _ (.refl _) | exact .cons_cons _ (List.nil_sublist _) | exact List.Sublist.refl _), (by simp)⟩
          ·
            have ha : stepM m c = alterM m c := by simp only [stepM, hk1, if_false, if_pos hkk]; rw [if_pos (by simpa using hc5)]
            refine awp_skip ?_
            refine x_then ?_
            refine awp_seq ?_
            refine awp_region ?_
            refine r_move rfl rfl ?_
            first | (refine r_loadAb 0 rfl rfl TF.agg44 TF.sz44 rfl rfl ?_) | (refine r_loadA rfl TF.agg44 TF.sz44 rfl rfl ?_) | (refine r_loadAb 1 rfl rfl TF.agg44 TF.sz44 rfl rfl ?_)
            refine r_callW hq [false, true] rfl rfl (.cons (.ev rfl rfl) (.cons (.ev rfl rfl) .nil)) (alter_ok m c hdc) rfl TF.en60 rfl rfl (List.nil_sublist _) rfl (fun r nobjs hr => ?_)
            obtain ⟨rfl, rfl⟩ := hr
            refine r_assign rfl rfl ?_
            refine awl_nil ?_
            refine x_then ?_
            refine awp_ret ?_
            refine x_blockR ?_
            refine x_thenR ?_
            exact ⟨(.inl rfl), _, [⟨b, true, .map (encM Value.string bts (stepM m c).2)⟩], (.one (by first | exact .mk rfl rfl | exact .nil rfl)), ⟨by rw [ha]; rfl, rfl⟩, (by rw [ha]; first | exact .cons _ (.refl _) | exact .cons_cons _ (List.nil_sublist _) | exact List.Sublist.refl _), (by simp)⟩
        ·
          exfalso; rw [hc3] at hc4; cases hc4
      ·
        have hk3 : ¬ c.kind = 3 := by simpa using hc3
        refine awp_region ?_
        refine r_cmp rfl rfl rfl rfl ?_
        refine r_assign rfl rfl ?_
        refine awl_nil ?_
        refine x_then ?_
        refine awp_cond rfl (fun hc4 => ?_) (fun hc4 => ?_)
        ·
          have hkk : c.kind = 2 ∨ c.kind = 3 ∨ c.kind = 4 := .inr (.inr (eq_of_beq hc4))
          refine awp_seq ?_
          refine awp_seq ?_
          refine awp_region ?_
          refine r_move rfl rfl ?_
          refine r_not rfl rfl ?_
          refine awl_nil ?_
          refine x_then ?_
          refine awp_cond rfl (fun hc5 => ?_) (fun hc5 => ?_)
          ·
            have ha : stepM m c = (4, m) := by simp only [stepM, hk1, if_false, if_pos hkk]; rw [if_neg (by simpa using hc5)]
            refine awp_seq ?_
            refine awp_region ?_
            refine r_assign rfl rfl ?_
            refine awl_nil ?_
            refine x_then ?_
            refine awp_ret ?_
            refine x_thenR ?_
            refine x_blockR ?_
            refine x_thenR ?_
            exact ⟨(.inl rfl), _, [⟨b, true, .map (encM Value.string bts (stepM m c).2)⟩], (.one (by first | exact .mk rfl rfl | exact .nil rfl)), ⟨by rw [ha]; rfl, rfl⟩, (by rw [ha]; first | exact .cons _ (.refl _) | exact .cons_cons _ (List.nil_sublist _) | exact List.Sublist.refl _), (by simp)⟩
          ·
            have ha : stepM m c = alterM m c := by simp only [stepM, hk1, if_false, if_pos hkk]; rw [if_pos (by simpa using hc5)]
            refine awp_skip ?_
            refine x_then ?_
            refine awp_seq ?_
            refine awp_region ?_
            refine r_move rfl rfl ?_
            first | (refine r_loadAb 0 rfl rfl TF.agg44 TF.sz44 rfl rfl ?_) | (refine r_loadA rfl TF.agg44 TF.sz44 rfl rfl ?_) | (refine r_loadAb 1 rfl rfl TF.agg44 TF.sz44 rfl rfl ?_)
            refine r_callW hq [false, true] rfl rfl (.cons (.ev rfl rfl) (.cons (.ev rfl rfl) .nil)) (alter_ok m c hdc) rfl TF.en60 rfl rfl (List.nil_sublist _) rfl (fun r nobjs hr => ?_)
            obtain ⟨rfl, rfl⟩ := hr
            refine r_assign rfl rfl ?_
            refine awl_nil ?_
            refine x_then ?_
            refine awp_ret ?_
            refine x_blockR ?_
            refine x_thenR ?_
            exact ⟨(.inl rfl), _, [⟨b, true, .map (encM Value.string bts (stepM m c).2)⟩], (.one (by first | exact .mk rfl rfl | exact .nil rfl)), ⟨by rw [ha]; rfl, rfl⟩, (by rw [ha]; first | exact .cons _ (.refl _) | exact .cons_cons _ (List.nil_sublist _) | exact List.Sublist.refl _), (by simp)⟩
        ·
          have hk4 : ¬ c.kind = 4 := by simpa using hc4
          have ha : stepM m c = (18, m) := by simp [stepM, hk1, hk2, hk3, hk4]
          refine awp_seq ?_
          refine awp_region ?_
          refine r_assign rfl rfl ?_
          refine awl_nil ?_
          refine x_then ?_
          refine awp_ret ?_
          refine x_blockR ?_
          refine x_thenR ?_
          exact ⟨(.inl rfl), _, [⟨b, true, .map (encM Value.string bts (stepM m c).2)⟩], (.one (by first | exact .mk rfl rfl | exact .nil rfl)), ⟨by rw [ha]; rfl, rfl⟩, (by rw [ha]; first | exact .cons _ (.refl _) | exact .cons_cons _ (List.nil_sublist _) | exact List.Sublist.refl _), (by simp)⟩

set_option maxHeartbeats 1000000 in
theorem apply_ok (l : List File) (d : List FC) (hl : l.length ≤ 1000) (hld : d.length ≤ 10000) (hln : ∀ f ∈ l, f.name.size ≤ 1000000) (hdl : ∀ f ∈ l, f.data.length ≤ 1000000) (hdn : ∀ c ∈ d, c.name.size ≤ 1000000 ∧ c.to.size ≤ 1000000 ∧ c.data.length ≤ 1000000) : AC Try.prog 25 [files l, fcsA d] [] (fun r n => n = [] ∧ ((∃ m, applyM (firstM l) d = (0, m) ∧ OkM m (l.length + d.length) ∧ r = .tup [files (filesM m), .v (.int .i64 0)]) ∨ (∃ e m, applyM (firstM l) d = (e, m) ∧ ¬ e = 0 ∧ r = .tup [.v (.slice none 0 0), .v (.int .i64 e)]))) := by
  refine ac_of_awp (rs := [4, 5]) (nt := 45) Try.func25 rfl rfl rfl rfl (fun w0 C0 hq => ?_)
  refine awp_seq ?_
  refine awp_region ?_
  refine r_assign rfl rfl ?_
  refine r_assign rfl rfl ?_
  refine awl_nil ?_
  refine x_then ?_
  refine awp_seq ?_
  refine awp_region ?_
  refine r_move rfl rfl ?_
  refine r_callO hq rfl rfl (.cons (.ev rfl rfl) .nil) (named2_ok l (by omega) hdl) rfl TF.en32 (List.nil_sublist _) rfl (fun r nobjs hr => ?_)
  obtain ⟨bm, rfl, rfl⟩ := hr
  refine r_assign rfl rfl ?_
  refine awl_nil ?_
  refine x_then ?_
  refine awp_seq ?_
  refine awp_seq ?_
  refine awp_region ?_
  refine r_move rfl rfl ?_
  first | (refine r_lenS rfl rfl TF.sl39 rfl ?_) | (refine r_lenNil rfl TF.sl39 rfl ?_) | (refine r_lenV rfl TF.sl39 rfl ?_)
  refine r_move rfl rfl ?_
  refine awl_nil ?_
  refine x_then ?_
  refine awp_block ?_
  refine awp_loop (fun nn0 S => ∃ k : Nat, ∃ m : SM, S = ⟨45, [(6, .a (.v (.map (some bm)))), (15, .a (fcsA d)), (16, .a (.v (.int .i64 ((d.map FC.cs).length)))), (17, .a (.v (.int .i64 ((k : Int)))))], [⟨bm, true, .map (encM Value.string bts m)⟩]⟩ ∧ nn0 = d.length - k ∧ (k ≤ d.length) ∧ (applyM (firstM l) (d.take k) = (0, m)) ∧ (OkM m (l.length + k))) (d.length - (0)) ⟨45, [(6, .a (.v (.map (some bm)))), (15, .a (fcsA d)), (16, .a (.v (.int .i64 ((d.map FC.cs).length)))), (17, .a (.v (.int .i64 (((0) : Int)))))], [⟨bm, true, .map (encM Value.string bts ((firstM l)))⟩]⟩ ⟨rfl, (Slots.cons rfl (by first | exact .refl _ | exact .nilOwn _ _ | exact .nilSl _ | exact .ownSl _ _ _  | exact SV.le.of_eq (by simp)) (Slots.cons rfl (by first | exact .refl _ | exact .nilOwn _ _ | exact .nilSl _ | exact .ownSl _ _ _  | exact SV.le.of_eq (by simp)) (Slots.cons rfl (by first | exact .refl _ | exact .nilOwn _ _ | exact .nilSl _ | exact .ownSl _ _ _  | exact SV.le.of_eq (by simp)) (Slots.cons rfl (by first | exact .refl _ | exact .nilOwn _ _ | exact .nilSl _ | exact .ownSl _ _ _  | exact SV.le.of_eq (by simp)) Slots.nil)))), (by first | exact List.Sublist.refl _ | exact .cons_cons _ (.cons _ (.refl _)) | exact List.nil_sublist _ | exact .cons _ (.refl _) | exact .cons _ (.cons _ (.refl _)) | exact .cons _ (.cons _ (.cons _ (.refl _))) | exact .cons _ (.cons _ (.cons _ (.cons _ (.refl _)))) | exact .cons_cons _ (List.nil_sublist _))⟩ ⟨0, (firstM l), rfl, rfl, Nat.zero_le _, rfl, (okM_first hln)⟩ ?_
  rintro nn0 _ ⟨k, m, rfl, rfl, hk, hap, hok⟩
  refine awp_seq ?_
  refine awp_region ?_
  refine r_cmp rfl rfl rfl rfl ?_
  refine awl_nil ?_
  refine x_then ?_
  refine awp_seq ?_
  refine awp_cond rfl (fun hc0 => ?_) (fun hc0 => ?_)
  ·
    have hltx : k < d.length := by have := of_decide_eq_true hc0; simpa using this
    obtain ⟨x, hx⟩ := get_lt hltx
    refine awp_skip ?_
    refine x_then ?_
    refine awp_seq ?_
    refine awp_block ?_
    refine awp_seq ?_
    refine awp_region ?_
    refine r_index rfl rfl rfl TF.sl39 TF.sz44 (by omega) (get_map hx) rfl ?_
    first | (refine r_loadA rfl TF.agg44 TF.sz44 rfl rfl ?_) | (refine r_loadAb 0 rfl rfl TF.agg44 TF.sz44 rfl rfl ?_)
    refine r_alloc TF.zero44 rfl (fun b8 => ?_)
    first | (refine r_store 0 rfl rfl rfl TF.sz44 rfl rfl rfl ?_) | (refine r_store 1 rfl rfl rfl TF.sz44 rfl rfl rfl ?_)
    refine awl_nil ?_
    refine x_then ?_
    refine awp_seq ?_
    refine awp_region ?_
    refine r_move rfl rfl ?_
    first | (refine r_loadAb 0 rfl rfl TF.agg44 TF.sz44 rfl rfl ?_) | (refine r_loadA rfl TF.agg44 TF.sz44 rfl rfl ?_) | (refine r_loadAb 1 rfl rfl TF.agg44 TF.sz44 rfl rfl ?_)
    refine r_callW hq [false, true] rfl rfl (.cons (.ev rfl rfl) (.cons (.ev rfl rfl) .nil)) (step_ok m x (hdn x (List.mem_of_getElem? hx)).2.2) rfl TF.en50 rfl rfl (List.nil_sublist _) rfl (fun r nobjs hr => ?_)
    obtain ⟨rfl, rfl⟩ := hr
    refine r_assign rfl rfl ?_
    refine awl_nil ?_
    refine x_then ?_
    refine awp_seq ?_
    refine awp_region ?_
    refine r_move rfl rfl ?_
    refine r_cmp rfl rfl rfl rfl ?_
    refine awl_nil ?_
    refine x_then ?_
    refine awp_cond rfl (fun hc1 => ?_) (fun hc1 => ?_)
    ·
      have hne : ¬ (stepM m x).1 = 0 := by simpa using hc1
      refine awp_seq ?_
      refine awp_region ?_
      refine r_move rfl rfl ?_
      refine r_assign rfl rfl ?_
      refine r_assign rfl rfl ?_
      refine awl_nil ?_
      refine x_then ?_
      refine awp_ret ?_
      refine x_blockR ?_
      refine x_thenR ?_
      refine x_thenR ?_
      refine x_blockR ?_
      refine x_thenR ?_
      exact ⟨(.inl rfl), _, [], (.two (by first | exact .mk rfl rfl | exact .nil rfl) (by first | exact .mk rfl rfl | exact .nil rfl)), ⟨rfl, .inr ⟨(stepM m x).1, (stepM m x).2, applyM_fail hx hap hne, hne, rfl⟩⟩, (List.nil_sublist _), (by simp)⟩
    ·
      have h0 : (stepM m x).1 = 0 := by simpa using hc1
      refine awp_skip ?_
      refine x_block ?_
      refine x_then ?_
      refine awp_region ?_
      refine r_ari _ rfl rfl rfl (wrap_id (by first | omega | (simp; omega))) rfl ?_
      refine r_move rfl rfl ?_
      refine awl_nil ?_
      refine x_then ?_
      refine ⟨d.length - (k + 1), ⟨45, [(6, .a (.v (.map (some bm)))), (15, .a (fcsA d)), (16, .a (.v (.int .i64 ((d.map FC.cs).length)))), (17, .a (.v (.int .i64 (((k + 1) : Int)))))], [⟨bm, true, .map (encM Value.string bts ((stepM m x).2))⟩]⟩, ⟨rfl, (Slots.cons rfl (by first | exact .refl _ | exact .nilOwn _ _ | exact .nilSl _ | exact .ownSl _ _ _  | exact SV.le.of_eq (by simp)) (Slots.cons rfl (by first | exact .refl _ | exact .nilOwn _ _ | exact .nilSl _ | exact .ownSl _ _ _  | exact SV.le.of_eq (by simp)) (Slots.cons rfl (by first | exact .refl _ | exact .nilOwn _ _ | exact .nilSl _ | exact .ownSl _ _ _  | exact SV.le.of_eq (by simp)) (Slots.cons rfl (by first | exact .refl _ | exact .nilOwn _ _ | exact .nilSl _ | exact .ownSl _ _ _  | exact SV.le.of_eq (by simp)) Slots.nil)))), (by first | exact List.Sublist.refl _ | exact .cons_cons _ (.cons _ (.refl _)) | exact List.nil_sublist _ | exact .cons _ (.refl _) | exact .cons _ (.cons _ (.refl _)) | exact .cons _ (.cons _ (.cons _ (.refl _))) | exact .cons _ (.cons _ (.cons _ (.cons _ (.refl _)))) | exact .cons_cons _ (List.nil_sublist _))⟩, (by omega), ⟨k + 1, (stepM m x).2, rfl, rfl, (by omega), (by rw [applyM_step hx hap, ← h0]), (okM_step hok (by have := (hdn x (List.mem_of_getElem? hx)).1; unfold maxLen; omega) (by have := (hdn x (List.mem_of_getElem? hx)).2.1; unfold maxLen; omega))⟩⟩
  ·
    have hge : d.length ≤ k := by have := of_decide_eq_false hc0; simp at this; omega
    obtain rfl : k = d.length := by omega
    have hap2 := applyM_end hge hap
    obtain ⟨ns, hns⟩ : ∃ ns, ns = sortB (m.map (·.1)) := ⟨_, rfl⟩
    have hnl : ns.length = m.length := by rw [hns, sortB_len, List.length_map]
    have hml := hok.len
    refine awp_exit ?_
    refine x_thenE ?_
    refine x_thenE ?_
    refine x_blockE ?_
    refine x_then ?_
    refine awp_seq ?_
    refine awp_region ?_
    refine r_assign rfl rfl ?_
    refine awl_nil ?_
    refine x_then ?_
    refine awp_seq ?_
    refine awp_seq ?_
    refine awp_region ?_
    refine r_move rfl rfl ?_
    refine r_callO hq rfl rfl (.cons (.ev rfl rfl) .nil) (order_ok m hok.nd hok.sz (by omega)) rfl TF.en38 (.cons_cons _ (List.nil_sublist _)) rfl (fun r nobjs hr => ?_)
    obtain ⟨rfl, hr2⟩ := hr
    rw [← hns] at hr2
    obtain rfl := hr2
    first | (refine r_lenS rfl rfl TF.sl74 rfl ?_) | (refine r_lenNil rfl TF.sl74 rfl ?_) | (refine r_lenV rfl TF.sl74 rfl ?_)
    refine r_move rfl rfl ?_
    refine awl_nil ?_
    refine x_then ?_
    refine awp_block ?_
    refine awp_loop (fun nn0 S => ∃ k : Nat, S = ⟨45, [(6, .a (.v (.map (some bm)))), (10, .own 10 2 (((ns.take k).map (fun s : ByteArray => (⟨s, (mget m s).getD []⟩ : File))).map File.cs)), (29, .a (strsA ns)), (30, .a (.v (.int .i64 ((ns.map (fun s : ByteArray => [AV.v (.string s)])).length)))), (31, .a (.v (.int .i64 ((k : Int)))))], [⟨bm, true, .map (encM Value.string bts m)⟩]⟩ ∧ nn0 = ns.length - k ∧ (k ≤ ns.length)) (ns.length - (0)) ⟨45, [(6, .a (.v (.map (some bm)))), (10, .own 10 2 (((ns.take (0)).map (fun s : ByteArray => (⟨s, (mget m s).getD []⟩ : File))).map File.cs)), (29, .a (strsA ns)), (30, .a (.v (.int .i64 ((ns.map (fun s : ByteArray => [AV.v (.string s)])).length)))), (31, .a (.v (.int .i64 (((0) : Int)))))], [⟨bm, true, .map (encM Value.string bts m)⟩]⟩ ⟨rfl, (Slots.cons rfl (by first | exact .refl _ | exact .nilOwn _ _ | exact .nilSl _ | exact .ownSl _ _ _  | exact SV.le.of_eq (by simp)) (Slots.cons rfl (by first | exact .refl _ | exact .nilOwn _ _ | exact .nilSl _ | exact .ownSl _ _ _  | exact SV.le.of_eq (by simp)) (Slots.cons rfl (by first | exact .refl _ | exact .nilOwn _ _ | exact .nilSl _ | exact .ownSl _ _ _  | exact SV.le.of_eq (by simp)) (Slots.cons rfl (by first | exact .refl _ | exact .nilOwn _ _ | exact .nilSl _ | exact .ownSl _ _ _  | exact SV.le.of_eq (by simp)) (Slots.cons rfl (by first | exact .refl _ | exact .nilOwn _ _ | exact .nilSl _ | exact .ownSl _ _ _  | exact SV.le.of_eq (by simp)) Slots.nil))))), (by first | exact List.Sublist.refl _ | exact .cons_cons _ (.cons _ (.refl _)) | exact List.nil_sublist _ | exact .cons _ (.refl _) | exact .cons _ (.cons _ (.refl _)) | exact .cons _ (.cons _ (.cons _ (.refl _))) | exact .cons _ (.cons _ (.cons _ (.cons _ (.refl _)))) | exact .cons_cons _ (List.nil_sublist _))⟩ ⟨0, rfl, rfl, Nat.zero_le _⟩ ?_
    rintro nn0 _ ⟨k, rfl, rfl, hk1⟩
    refine awp_seq ?_
    refine awp_region ?_
    refine r_cmp rfl rfl rfl rfl ?_
    refine awl_nil ?_
    refine x_then ?_
    refine awp_seq ?_
    refine awp_cond rfl (fun hc2 => ?_) (fun hc2 => ?_)
    ·
      have hltx : k < ns.length := by have := of_decide_eq_true hc2; simpa using this
      obtain ⟨x, hx⟩ := get_lt hltx
      refine awp_skip ?_
      refine x_then ?_
      refine awp_seq ?_
      refine awp_block ?_
      refine awp_seq ?_
      refine awp_region ?_
      refine r_index rfl rfl rfl TF.sl74 TF.sz9 (by omega) (get_map hx) rfl ?_
      first | (refine r_load1b 0 rfl rfl rfl TF.agg9 rfl ?_) | (refine r_load1 rfl TF.agg9 rfl ?_)
      refine r_assign rfl rfl ?_
      refine awl_nil ?_
      refine x_then ?_
      refine awp_region ?_
      refine r_move rfl rfl ?_
      refine r_move rfl rfl ?_
      refine r_move rfl rfl ?_
      refine r_move rfl rfl ?_
      refine r_lookup 0 (keyEnc_string TF.un9) (ev := bts) [] rfl rfl rfl TF.map72 TF.zavS rfl ?_
      refine r_build (parts := [(0, .tmp 36), (1, .tmp 39)]) rfl TF.pl67 TF.zero67 rfl rfl rfl ?_
      refine r_lit 41 (parts := [(0, .tmp 40)]) rfl TF.sl31 TF.sz67 TF.zraw67 rfl rfl rfl rfl rfl rfl rfl ?_
      refine r_append 10 rfl (by first | exact .own _ | exact .nil) rfl (by first | exact .sl _ | exact .own _ _ | exact .nil) TF.sl31 TF.sz67 (by decide) TF.by67 TF.zlen67 (by simp [chunks] <;> omega) (by simp [chunks] <;> omega) rfl ?_
      refine r_assign rfl rfl ?_
      refine awl_nil ?_
      refine x_block ?_
      refine x_then ?_
      refine awp_region ?_
      refine r_ari _ rfl rfl rfl (wrap_id (by first | omega | (simp; omega))) rfl ?_
      refine r_move rfl rfl ?_
      refine awl_nil ?_
      refine x_then ?_
      refine ⟨ns.length - (k + 1), ⟨45, [(6, .a (.v (.map (some bm)))), (10, .own 10 2 (((ns.take (k + 1)).map (fun s : ByteArray => (⟨s, (mget m s).getD []⟩ : File))).map File.cs)), (29, .a (strsA ns)), (30, .a (.v (.int .i64 ((ns.map (fun s : ByteArray => [AV.v (.string s)])).length)))), (31, .a (.v (.int .i64 (((k + 1) : Int)))))], [⟨bm, true, .map (encM Value.string bts m)⟩]⟩, ⟨rfl, (Slots.cons rfl (by first | exact .refl _ | exact .nilOwn _ _ | exact .nilSl _ | exact .ownSl _ _ _  | exact SV.le.ownEq (by first | rfl | (rw [map_take hx, List.map_append]; rfl)) | exact SV.le.of_eq (by first | rfl | (rw [map_take hx, List.map_append]; rfl))) (Slots.cons rfl (by first | exact .refl _ | exact .nilOwn _ _ | exact .nilSl _ | exact .ownSl _ _ _  | exact SV.le.ownEq (by first | rfl | (rw [map_take hx, List.map_append]; rfl)) | exact SV.le.of_eq (by first | rfl | (rw [map_take hx, List.map_append]; rfl))) (Slots.cons rfl (by first | exact .refl _ | exact .nilOwn _ _ | exact .nilSl _ | exact .ownSl _ _ _  | exact SV.le.ownEq (by first | rfl | (rw [map_take hx, List.map_append]; rfl)) | exact SV.le.of_eq (by first | rfl | (rw [map_take hx, List.map_append]; rfl))) (Slots.cons rfl (by first | exact .refl _ | exact .nilOwn _ _ | exact .nilSl _ | exact .ownSl _ _ _  | exact SV.le.ownEq (by first | rfl | (rw [map_take hx, List.map_append]; rfl)) | exact SV.le.of_eq (by first | rfl | (rw [map_take hx, List.map_append]; rfl))) (Slots.cons rfl (by first | exact .refl _ | exact .nilOwn _ _ | exact .nilSl _ | exact .ownSl _ _ _  | exact SV.le.ownEq (by first | rfl | (rw [map_take hx, List.map_append]; rfl)) | exact SV.le.of_eq (by first | rfl | (rw [map_take hx, List.map_append]; rfl))) Slots.nil))))), (by first | exact List.Sublist.refl _ | exact .cons_cons _ (.cons _ (.refl _)) | exact List.nil_sublist _ | exact .cons _ (.refl _) | exact .cons _ (.cons _ (.refl _)) | exact .cons _ (.cons _ (.cons _ (.refl _))) | exact .cons _ (.cons _ (.cons _ (.cons _ (.refl _)))) | exact .cons_cons _ (List.nil_sublist _))⟩, (by omega), ⟨k + 1, rfl, rfl, (by omega)⟩⟩
    ·
      have hge : ns.length ≤ k := by have := of_decide_eq_false hc2; simp at this; omega
      have hkl : ns.take k = ns := List.take_of_length_le hge
      refine awp_exit ?_
      refine x_thenE ?_
      refine x_thenE ?_
      refine x_blockE ?_
      refine x_then ?_
      refine awp_seq ?_
      refine awp_region ?_
      refine r_move rfl rfl ?_
      refine r_assign rfl rfl ?_
      refine r_assign rfl rfl ?_
      refine awl_nil ?_
      refine x_then ?_
      refine awp_ret ?_
      exact ⟨(.inl rfl), _, [], (.two (by first | exact .mk rfl rfl | exact .nil rfl) (by first | exact .mk rfl rfl | exact .nil rfl)), ⟨rfl, .inl ⟨m, hap2, hok, by rw [hkl, hns]; rfl⟩⟩, (List.nil_sublist _), (by simp)⟩

end Go.Proofs.Ytmbfmnhcahhciaa.A

/- Layer 66: walks of sorted keys, of Files, of Lost. -/
import Derived.Test.YtpoacfbobalpkaaProg
import Derived.KernelRfl
import Derived.Test.YtpoacfbobalpkaaX66B
import Derived.Test.YtpoacfbobalpkaaIU
namespace Go.Proofs.Ytpoacfbobalpkaa.A
open Go Go.RowKit
set_option linter.unusedVariables false
set_option linter.unusedSimpArgs false
set_option maxRecDepth 100000

theorem T.en47 : entersT Try.prog 47 := enters_of Try.func47 (by kernel_rfl) (by kernel_rfl)
theorem T.en46 : entersT Try.prog 46 := enters_of Try.func46 (by kernel_rfl) (by kernel_rfl)
theorem T.en48 : entersT Try.prog 48 := enters_of Try.func48 (by kernel_rfl) (by kernel_rfl)
theorem T.en37 : entersT Try.prog 37 := enters_of Try.func37 (by kernel_rfl) (by kernel_rfl)
theorem T.en31 : entersT Try.prog 31 := enters_of Try.func31 (by kernel_rfl) (by kernel_rfl)
theorem T.en30 : entersT Try.prog 30 := enters_of Try.func30 (by kernel_rfl) (by kernel_rfl)
theorem T.map53 : mapT Try.prog 53 = some (9, 4) := by kernel_rfl
theorem T.en38 : entersT Try.prog 38 := enters_of Try.func38 (by kernel_rfl) (by kernel_rfl)

theorem sortedC_ok {b : Nat} {rw' : Bool} {es : List (Value × AV)} {ss : List ByteArray} (hes : es.map (·.1) = ss.map Value.string) (hnd : ss.Nodup) (hsz : ∀ s ∈ ss, s.size ≤ maxLen) (hlen : es.length ≤ 1000000) :
    AC Try.prog 31 [.v (.map (some b))] [⟨b, rw', .map es⟩] (fun r n => n = [] ∧ r = strsA (sortB ss)) := by
  refine ac_of_awp (rs := [2]) (nt := 6) Try.func31 rfl rfl rfl rfl (fun w0 C0 => ?_)
  refine awp_seq ?_
  refine awp_region ?_
  refine r_assign rfl rfl ?_
  refine awl_nil ?_
  refine x_then ?_
  refine awp_seq ?_
  refine awp_region ?_
  refine r_move rfl rfl ?_
  refine r_callO rfl rfl (.cons (.ev rfl rfl) .nil) (ac_keys keys47) rfl T.en47 (by first | exact List.Sublist.refl _ | exact List.nil_sublist _ | exact .cons _ (.refl _) | exact .cons _ (.cons _ (.refl _)) | exact .cons _ (.cons _ (.cons _ (.refl _))) | exact .cons _ (.cons _ (.cons _ (.cons _ (.refl _)))) | exact .cons_cons _ (List.nil_sublist _)) rfl (fun r nobjs hr => ?_)
  obtain ⟨g, rfl, rfl⟩ := hr
  refine r_callO rfl rfl (.cons (.ev rfl rfl) .nil) (ac_sorted sorted46_47 T.un9 hes hnd hsz hlen) rfl T.en46 (by first | exact List.Sublist.refl _ | exact List.nil_sublist _ | exact .cons _ (.refl _) | exact .cons _ (.cons _ (.refl _)) | exact .cons _ (.cons _ (.cons _ (.refl _))) | exact .cons _ (.cons _ (.cons _ (.cons _ (.refl _)))) | exact .cons_cons _ (List.nil_sublist _)) rfl (fun r nobjs hr => ?_)
  obtain ⟨rfl, rfl⟩ := hr
  refine r_assign rfl rfl ?_
  refine awl_nil ?_
  refine x_then ?_
  refine awp_ret ?_
  exact ⟨(.inl rfl), _, [], (.one (by first | exact .mk rfl rfl | exact .nil rfl)), ⟨rfl, rfl⟩, (List.nil_sublist _), (by simp)⟩

theorem sortedB_ok {b : Nat} {rw' : Bool} {es : List (Value × AV)} {ss : List ByteArray} (hes : es.map (·.1) = ss.map Value.string) (hnd : ss.Nodup) (hsz : ∀ s ∈ ss, s.size ≤ maxLen) (hlen : es.length ≤ 1000000) :
    AC Try.prog 38 [.v (.map (some b))] [⟨b, rw', .map es⟩] (fun r n => n = [] ∧ r = strsA (sortB ss)) := by
  refine ac_of_awp (rs := [2]) (nt := 6) Try.func38 rfl rfl rfl rfl (fun w0 C0 => ?_)
  refine awp_seq ?_
  refine awp_region ?_
  refine r_assign rfl rfl ?_
  refine awl_nil ?_
  refine x_then ?_
  refine awp_seq ?_
  refine awp_region ?_
  refine r_move rfl rfl ?_
  refine r_callO rfl rfl (.cons (.ev rfl rfl) .nil) (ac_keys keys48) rfl T.en48 (by first | exact List.Sublist.refl _ | exact List.nil_sublist _ | exact .cons _ (.refl _) | exact .cons _ (.cons _ (.refl _)) | exact .cons _ (.cons _ (.cons _ (.refl _))) | exact .cons _ (.cons _ (.cons _ (.cons _ (.refl _)))) | exact .cons_cons _ (List.nil_sublist _)) rfl (fun r nobjs hr => ?_)
  obtain ⟨g, rfl, rfl⟩ := hr
  refine r_callO rfl rfl (.cons (.ev rfl rfl) .nil) (ac_sorted sorted46_48 T.un9 hes hnd hsz hlen) rfl T.en46 (by first | exact List.Sublist.refl _ | exact List.nil_sublist _ | exact .cons _ (.refl _) | exact .cons _ (.cons _ (.refl _)) | exact .cons _ (.cons _ (.cons _ (.refl _))) | exact .cons _ (.cons _ (.cons _ (.cons _ (.refl _)))) | exact .cons_cons _ (List.nil_sublist _)) rfl (fun r nobjs hr => ?_)
  obtain ⟨rfl, rfl⟩ := hr
  refine r_assign rfl rfl ?_
  refine awl_nil ?_
  refine x_then ?_
  refine awp_ret ?_
  exact ⟨(.inl rfl), _, [], (.one (by first | exact .mk rfl rfl | exact .nil rfl)), ⟨rfl, rfl⟩, (List.nil_sublist _), (by simp)⟩

theorem sfiles_ok (l : List Choice) (hl : l.length ≤ 1000000) (hd : ∀ c ∈ l, c.name.size ≤ 1000000 ∧ c.data.length ≤ 1000000) :
    AC Try.prog 16 [choicesA l] [] (fun r n => n = [] ∧ r = files (filesOf l)) := by
  refine ac_of_awp (rs := [2]) (nt := 31) Try.func16 rfl rfl rfl rfl (fun w0 C0 => ?_)
  refine awp_seq ?_
  refine awp_region ?_
  refine r_assign rfl rfl ?_
  refine awl_nil ?_
  refine x_then ?_
  refine awp_seq ?_
  refine awp_region ?_
  refine r_move rfl rfl ?_
  refine r_callO rfl rfl (.cons (.ev rfl rfl) .nil) (chosen_ok l hl) rfl T.en37 (by first | exact List.Sublist.refl _ | exact List.nil_sublist _ | exact .cons _ (.refl _) | exact .cons _ (.cons _ (.refl _)) | exact .cons _ (.cons _ (.cons _ (.refl _))) | exact .cons _ (.cons _ (.cons _ (.cons _ (.refl _)))) | exact .cons_cons _ (List.nil_sublist _)) rfl (fun r nobjs hr => ?_)
  obtain ⟨b, rfl, rfl⟩ := hr
  refine r_assign rfl rfl ?_
  refine awl_nil ?_
  refine x_then ?_
  refine awp_seq ?_
  refine awp_region ?_
  refine r_assign rfl rfl ?_
  refine awl_nil ?_
  refine x_then ?_
  refine awp_seq ?_
  refine awp_seq ?_
  refine awp_region ?_
  refine r_move rfl rfl ?_
  refine r_callO rfl rfl (.cons (.ev rfl rfl) .nil) (sortedC_ok (encM_keys (ek := Value.string) (ev := Choice.av) (chosen l)) (chosen_nodup l) (fun s hs => by obtain ⟨c, h1, h2, _⟩ := chosen_names l s hs; have := (hd c h1).1; rw [← h2]; unfold maxLen; omega) (by rw [encM_len]; have := chosen_len l; omega)) rfl T.en31 (by first | exact List.Sublist.refl _ | exact List.nil_sublist _ | exact .cons _ (.refl _) | exact .cons _ (.cons _ (.refl _)) | exact .cons _ (.cons _ (.cons _ (.refl _))) | exact .cons _ (.cons _ (.cons _ (.cons _ (.refl _)))) | exact .cons_cons _ (List.nil_sublist _)) rfl (fun r nobjs hr => ?_)
  obtain ⟨rfl, rfl⟩ := hr
  generalize hns : sortB ((chosen l).map (·.1)) = ns
  have hnl : ns.length ≤ 1000000 := by rw [← hns, sortB_len, List.length_map]; have := chosen_len l; omega
  first | (refine r_lenS rfl rfl T.sl46 rfl ?_) | (refine r_lenNil rfl T.sl46 rfl ?_)
  refine r_move rfl rfl ?_
  refine awl_nil ?_
  refine x_then ?_
  refine awp_block ?_
  refine awp_loop (fun nn0 S => ∃ k : Nat, S = ⟨31, [(3, .a (.v (.map (some b)))), (4, .own 4 2 ((((ns.take k).take 8).map (fun n : ByteArray => (⟨n, ((mget (chosen l) n).getD .zero).data⟩ : File))).map File.cs)), (10, .a (strsA ns)), (11, .a (.v (.int .i64 ((ns.map fun s => [AV.v (.string s)]).length)))), (12, .a (.v (.int .i64 ((k : Int)))))], [⟨b, true, .map (encM Value.string Choice.av (chosen l))⟩]⟩ ∧ nn0 = ns.length - k ∧ (k ≤ ns.length)) (ns.length - (0)) ⟨31, [(3, .a (.v (.map (some b)))), (4, .own 4 2 ((((ns.take (0)).take 8).map (fun n : ByteArray => (⟨n, ((mget (chosen l) n).getD .zero).data⟩ : File))).map File.cs)), (10, .a (strsA ns)), (11, .a (.v (.int .i64 ((ns.map fun s => [AV.v (.string s)]).length)))), (12, .a (.v (.int .i64 (((0) : Int)))))], [⟨b, true, .map (encM Value.string Choice.av (chosen l))⟩]⟩ ⟨rfl, (Slots.cons rfl (by first | exact .refl _ | exact .nilOwn _ _ | exact .nilSl _ | exact .ownSl _ _ _ | exact SV.le.of_eq (by simp)) (Slots.cons rfl (by first | exact .refl _ | exact .nilOwn _ _ | exact .nilSl _ | exact .ownSl _ _ _ | exact SV.le.of_eq (by simp)) (Slots.cons rfl (by first | exact .refl _ | exact .nilOwn _ _ | exact .nilSl _ | exact .ownSl _ _ _ | exact SV.le.of_eq (by simp)) (Slots.cons rfl (by first | exact .refl _ | exact .nilOwn _ _ | exact .nilSl _ | exact .ownSl _ _ _ | exact SV.le.of_eq (by simp)) (Slots.cons rfl (by first | exact .refl _ | exact .nilOwn _ _ | exact .nilSl _ | exact .ownSl _ _ _ | exact SV.le.of_eq (by simp)) Slots.nil))))), (by first | exact List.Sublist.refl _ | exact List.nil_sublist _ | exact .cons _ (.refl _) | exact .cons _ (.cons _ (.refl _)) | exact .cons _ (.cons _ (.cons _ (.refl _))) | exact .cons _ (.cons _ (.cons _ (.cons _ (.refl _)))) | exact .cons_cons _ (List.nil_sublist _))⟩ ⟨0, rfl, rfl, Nat.zero_le _⟩ ?_
  rintro nn0 _ ⟨k, rfl, rfl, hk⟩
  refine awp_seq ?_
  refine awp_region ?_
  refine r_cmp rfl rfl rfl rfl ?_
  refine awl_nil ?_
  refine x_then ?_
  refine awp_seq ?_
  refine awp_cond rfl (fun hc0 => ?_) (fun hc0 => ?_)
  ·
    have hlt : k < ns.length := by have := of_decide_eq_true hc0; simpa using this
    obtain ⟨x, hx⟩ := get_lt hlt
    have hxd : ((mget (chosen l) x).getD .zero).data.length ≤ 1000000 := by
      cases hm : mget (chosen l) x with
      | none => simp [Choice.zero]
      | some c => have := (hd c (chosen_from l hm).2.1).2; simpa using this
    refine awp_skip ?_
    refine x_then ?_
    refine awp_seq ?_
    refine awp_block ?_
    refine awp_seq ?_
    refine awp_region ?_
    refine r_index rfl rfl rfl T.sl46 T.sz9 (by omega) (get_map hx) rfl ?_
    first | (refine r_load1 rfl T.agg9 rfl ?_) | (refine r_load1b 0 rfl rfl rfl T.agg9 rfl ?_)
    refine r_assign rfl rfl ?_
    refine awl_nil ?_
    refine x_then ?_
    refine awp_seq ?_
    refine awp_region ?_
    refine r_move rfl rfl ?_
    first | (refine r_lenS rfl rfl T.sl41 rfl ?_) | (refine r_lenNil rfl T.sl41 rfl ?_)
    refine r_cmp rfl rfl rfl rfl ?_
    refine awl_nil ?_
    refine x_then ?_
    refine awp_cond rfl (fun hc1 => ?_) (fun hc1 => ?_)
    ·
      have hk8 : k < 8 := by have := of_decide_eq_true hc1; simp at this; omega
      have e : (((ns.take (k + 1)).take 8).map (fun n : ByteArray => (⟨n, ((mget (chosen l) n).getD .zero).data⟩ : File))).map File.cs = (((ns.take k).take 8).map (fun n : ByteArray => (⟨n, ((mget (chosen l) n).getD .zero).data⟩ : File))).map File.cs ++ [File.cs ((fun n : ByteArray => (⟨n, ((mget (chosen l) n).getD .zero).data⟩ : File)) x)] := by
        rw [List.take_of_length_le (by simp; omega), List.take_of_length_le (l := ns.take k) (by simp; omega), map_take hx, List.map_append]; rfl
      refine awp_region ?_
      refine r_move rfl rfl ?_
      refine r_move rfl rfl ?_
      refine r_move rfl rfl ?_
      refine r_move rfl rfl ?_
      refine r_lookup 0 (keyEnc_string T.un9) (ev := Choice.av) Choice.zero rfl rfl rfl T.map71 T.zav33 rfl ?_
      refine r_field1 rfl T.f33_3 T.agg31 rfl rfl ?_
      refine r_call0 rfl rfl (.cons (.ev rfl rfl) .nil) (clone_ok _ hxd) rfl T.en30 rfl (fun r hr => ?_)
      obtain rfl := hr
      refine r_build (parts := [(0, .tmp 20), (1, .tmp 25)]) rfl T.pl50 T.zero50 rfl rfl rfl ?_
      refine r_lit 27 (parts := [(0, .tmp 26)]) rfl T.sl41 T.sz50 T.zraw50 rfl rfl rfl rfl rfl rfl rfl ?_
      refine r_append 4 rfl (by first | exact .own _ | exact .nil) rfl (by first | exact .sl _ | exact .own _ _ | exact .nil) T.sl41 T.sz50 (by decide) T.by50 T.zlen50 (by simp [chunks] <;> omega) (by simp [chunks] <;> omega) rfl ?_
      refine r_assign rfl rfl ?_
      refine awl_nil ?_
      refine x_block ?_
      refine x_then ?_
      refine awp_region ?_
      refine r_ari _ rfl rfl rfl (wrap_id (by omega)) rfl ?_
      refine r_move rfl rfl ?_
      refine awl_nil ?_
      refine x_then ?_
      refine ⟨ns.length - (k + 1), ⟨31, [(3, .a (.v (.map (some b)))), (4, .own 4 2 ((((ns.take (k + 1)).take 8).map (fun n : ByteArray => (⟨n, ((mget (chosen l) n).getD .zero).data⟩ : File))).map File.cs)), (10, .a (strsA ns)), (11, .a (.v (.int .i64 ((ns.map fun s => [AV.v (.string s)]).length)))), (12, .a (.v (.int .i64 (((k + 1) : Int)))))], [⟨b, true, .map (encM Value.string Choice.av (chosen l))⟩]⟩, ⟨rfl, (Slots.cons rfl (by first | exact .refl _ | exact .nilOwn _ _ | exact .nilSl _ | exact .ownSl _ _ _ | exact SV.le.of_eq (by rw [e] <;> rfl)) (Slots.cons rfl (by first | exact .refl _ | exact .nilOwn _ _ | exact .nilSl _ | exact .ownSl _ _ _ | exact SV.le.of_eq (by rw [e] <;> rfl)) (Slots.cons rfl (by first | exact .refl _ | exact .nilOwn _ _ | exact .nilSl _ | exact .ownSl _ _ _ | exact SV.le.of_eq (by rw [e] <;> rfl)) (Slots.cons rfl (by first | exact .refl _ | exact .nilOwn _ _ | exact .nilSl _ | exact .ownSl _ _ _ | exact SV.le.of_eq (by rw [e] <;> rfl)) (Slots.cons rfl (by first | exact .refl _ | exact .nilOwn _ _ | exact .nilSl _ | exact .ownSl _ _ _ | exact SV.le.of_eq (by rw [e] <;> rfl)) Slots.nil))))), (by first | exact List.Sublist.refl _ | exact List.nil_sublist _ | exact .cons _ (.refl _) | exact .cons _ (.cons _ (.refl _)) | exact .cons _ (.cons _ (.cons _ (.refl _))) | exact .cons _ (.cons _ (.cons _ (.cons _ (.refl _)))) | exact .cons_cons _ (List.nil_sublist _))⟩, (by omega), ⟨k + 1, rfl, rfl, (by have := (List.getElem?_eq_some_iff.1 hx).1; omega)⟩⟩
    ·
      have hk8 : 8 ≤ k := by have := of_decide_eq_false hc1; simp at this; omega
      have e : (((ns.take (k + 1)).take 8).map (fun n : ByteArray => (⟨n, ((mget (chosen l) n).getD .zero).data⟩ : File))).map File.cs = (((ns.take k).take 8).map (fun n : ByteArray => (⟨n, ((mget (chosen l) n).getD .zero).data⟩ : File))).map File.cs := by
        rw [List.take_take, List.take_take, Nat.min_eq_left (by omega), Nat.min_eq_left (by omega)]
      refine awp_skip ?_
      refine x_block ?_
      refine x_then ?_
      refine awp_region ?_
      refine r_ari _ rfl rfl rfl (wrap_id (by omega)) rfl ?_
      refine r_move rfl rfl ?_
      refine awl_nil ?_
      refine x_then ?_
      refine ⟨ns.length - (k + 1), ⟨31, [(3, .a (.v (.map (some b)))), (4, .own 4 2 ((((ns.take (k + 1)).take 8).map (fun n : ByteArray => (⟨n, ((mget (chosen l) n).getD .zero).data⟩ : File))).map File.cs)), (10, .a (strsA ns)), (11, .a (.v (.int .i64 ((ns.map fun s => [AV.v (.string s)]).length)))), (12, .a (.v (.int .i64 (((k + 1) : Int)))))], [⟨b, true, .map (encM Value.string Choice.av (chosen l))⟩]⟩, ⟨rfl, (Slots.cons rfl (by first | exact .refl _ | exact .nilOwn _ _ | exact .nilSl _ | exact .ownSl _ _ _ | exact SV.le.of_eq (by rw [e] <;> rfl)) (Slots.cons rfl (by first | exact .refl _ | exact .nilOwn _ _ | exact .nilSl _ | exact .ownSl _ _ _ | exact SV.le.of_eq (by rw [e] <;> rfl)) (Slots.cons rfl (by first | exact .refl _ | exact .nilOwn _ _ | exact .nilSl _ | exact .ownSl _ _ _ | exact SV.le.of_eq (by rw [e] <;> rfl)) (Slots.cons rfl (by first | exact .refl _ | exact .nilOwn _ _ | exact .nilSl _ | exact .ownSl _ _ _ | exact SV.le.of_eq (by rw [e] <;> rfl)) (Slots.cons rfl (by first | exact .refl _ | exact .nilOwn _ _ | exact .nilSl _ | exact .ownSl _ _ _ | exact SV.le.of_eq (by rw [e] <;> rfl)) Slots.nil))))), (by first | exact List.Sublist.refl _ | exact List.nil_sublist _ | exact .cons _ (.refl _) | exact .cons _ (.cons _ (.refl _)) | exact .cons _ (.cons _ (.cons _ (.refl _))) | exact .cons _ (.cons _ (.cons _ (.cons _ (.refl _)))) | exact .cons_cons _ (List.nil_sublist _))⟩, (by omega), ⟨k + 1, rfl, rfl, (by have := (List.getElem?_eq_some_iff.1 hx).1; omega)⟩⟩
  ·
    have hge : ns.length ≤ k := by have := of_decide_eq_false hc0; simp at this; omega
    have hkl : ns.take k = ns := List.take_of_length_le hge
    refine awp_exit ?_
    refine x_thenE ?_
    refine x_thenE ?_
    refine x_blockE ?_
    refine x_then ?_
    refine awp_seq ?_
    refine awp_region ?_
    refine r_move rfl rfl ?_
    refine r_assign rfl rfl ?_
    refine awl_nil ?_
    refine x_then ?_
    refine awp_ret ?_
    exact ⟨(.inl rfl), _, [], (.one (by first | exact .mk rfl rfl | exact .nil rfl)), ⟨rfl, by rw [hkl, ← hns]; rfl⟩, (List.nil_sublist _), (by simp)⟩

theorem slost_ok (l : List Choice) (hl : l.length ≤ 1000000) (hd : ∀ c ∈ l, c.name.size ≤ 1000000 ∧ c.data.length ≤ 1000000) :
    AC Try.prog 19 [choicesA l] [] (fun r n => n = [] ∧ r = strsA (lostOf l)) := by
  refine ac_of_awp (rs := [2]) (nt := 33) Try.func19 rfl rfl rfl rfl (fun w0 C0 => ?_)
  refine awp_seq ?_
  refine awp_region ?_
  refine r_assign rfl rfl ?_
  refine awl_nil ?_
  refine x_then ?_
  refine awp_seq ?_
  refine awp_region ?_
  refine r_move rfl rfl ?_
  refine r_callO rfl rfl (.cons (.ev rfl rfl) .nil) (chosen_ok l hl) rfl T.en37 (by first | exact List.Sublist.refl _ | exact List.nil_sublist _ | exact .cons _ (.refl _) | exact .cons _ (.cons _ (.refl _)) | exact .cons _ (.cons _ (.cons _ (.refl _))) | exact .cons _ (.cons _ (.cons _ (.cons _ (.refl _)))) | exact .cons_cons _ (List.nil_sublist _)) rfl (fun r nobjs hr => ?_)
  obtain ⟨b, rfl, rfl⟩ := hr
  refine r_assign rfl rfl ?_
  refine awl_nil ?_
  refine x_then ?_
  refine awp_seq ?_
  refine awp_region ?_
  refine r_makeMap (ek := Value.string) (ev := boolA) [] rfl rfl (fun b11 => ?_)
  refine r_assign rfl rfl ?_
  refine awl_nil ?_
  refine x_then ?_
  refine awp_seq ?_
  refine awp_seq ?_
  refine awp_region ?_
  refine r_move rfl rfl ?_
  first | (refine r_lenS rfl rfl T.sl26 rfl ?_) | (refine r_lenNil rfl T.sl26 rfl ?_)
  refine r_move rfl rfl ?_
  refine awl_nil ?_
  refine x_then ?_
  refine awp_block ?_
  refine awp_loop (fun nn0 S => ∃ k : Nat, S = ⟨33, [(3, .a (.v (.map (some b)))), (4, .a (.v (.map (some b11)))), (12, .a (choicesA l)), (13, .a (.v (.int .i64 ((l.map Choice.cs).length)))), (14, .a (.v (.int .i64 ((k : Int)))))], [⟨b11, true, .map (encM Value.string boolA ((l.take k).foldl (stepL (chosen l)) []))⟩, ⟨b, true, .map (encM Value.string Choice.av (chosen l))⟩]⟩ ∧ nn0 = l.length - k ∧ (k ≤ l.length)) (l.length - (0)) ⟨33, [(3, .a (.v (.map (some b)))), (4, .a (.v (.map (some b11)))), (12, .a (choicesA l)), (13, .a (.v (.int .i64 ((l.map Choice.cs).length)))), (14, .a (.v (.int .i64 (((0) : Int)))))], [⟨b11, true, .map (encM Value.string boolA ((l.take (0)).foldl (stepL (chosen l)) []))⟩, ⟨b, true, .map (encM Value.string Choice.av (chosen l))⟩]⟩ ⟨rfl, (Slots.cons rfl (by first | exact .refl _ | exact .nilOwn _ _ | exact .nilSl _ | exact .ownSl _ _ _ | exact SV.le.of_eq (by simp)) (Slots.cons rfl (by first | exact .refl _ | exact .nilOwn _ _ | exact .nilSl _ | exact .ownSl _ _ _ | exact SV.le.of_eq (by simp)) (Slots.cons rfl (by first | exact .refl _ | exact .nilOwn _ _ | exact .nilSl _ | exact .ownSl _ _ _ | exact SV.le.of_eq (by simp)) (Slots.cons rfl (by first | exact .refl _ | exact .nilOwn _ _ | exact .nilSl _ | exact .ownSl _ _ _ | exact SV.le.of_eq (by simp)) (Slots.cons rfl (by first | exact .refl _ | exact .nilOwn _ _ | exact .nilSl _ | exact .ownSl _ _ _ | exact SV.le.of_eq (by simp)) Slots.nil))))), (by first | exact List.Sublist.refl _ | exact List.nil_sublist _ | exact .cons _ (.refl _) | exact .cons _ (.cons _ (.refl _)) | exact .cons _ (.cons _ (.cons _ (.refl _))) | exact .cons _ (.cons _ (.cons _ (.cons _ (.refl _)))) | exact .cons_cons _ (List.nil_sublist _))⟩ ⟨0, rfl, rfl, Nat.zero_le _⟩ ?_
  rintro nn0 _ ⟨k, rfl, rfl, hk⟩
  refine awp_seq ?_
  refine awp_region ?_
  refine r_cmp rfl rfl rfl rfl ?_
  refine awl_nil ?_
  refine x_then ?_
  refine awp_seq ?_
  refine awp_cond rfl (fun hc0 => ?_) (fun hc0 => ?_)
  ·
    have hlt : k < l.length := by have := of_decide_eq_true hc0; simpa using this
    obtain ⟨x, hx⟩ := get_lt hlt
    have e : (l.take (k + 1)).foldl (stepL (chosen l)) [] = stepL (chosen l) ((l.take k).foldl (stepL (chosen l)) []) x := fold_take hx
    rw [stepL] at e
    refine awp_skip ?_
    refine x_then ?_
    refine awp_seq ?_
    refine awp_block ?_
    refine awp_seq ?_
    refine awp_region ?_
    refine r_index rfl rfl rfl T.sl26 T.sz33 (by omega) (get_map hx) rfl ?_
    first | (refine r_loadA rfl T.agg33 T.sz33 rfl rfl ?_) | (refine r_loadAb 0 rfl rfl T.agg33 T.sz33 rfl rfl ?_) | (refine r_loadAb 1 rfl rfl T.agg33 T.sz33 rfl rfl ?_)
    refine r_alloc T.zero33 rfl (fun b6 => ?_)
    first | (refine r_store 0 rfl rfl rfl T.sz33 rfl rfl rfl ?_) | (refine r_store 1 rfl rfl rfl T.sz33 rfl rfl rfl ?_) | (refine r_store 2 rfl rfl rfl T.sz33 rfl rfl rfl ?_)
    refine awl_nil ?_
    refine x_then ?_
    refine awp_seq ?_
    refine awp_region ?_
    refine r_move rfl rfl ?_
    first | (refine r_fieldcp rfl T.f33_0 T.sz9 rfl ?_) | (refine r_fieldb rfl T.f33_0 T.sz9 rfl ?_)
    first | (refine r_load1 rfl T.agg9 rfl ?_) | (refine r_load1b 0 rfl rfl rfl T.agg9 rfl ?_) | (refine r_load1b 1 rfl rfl rfl T.agg9 rfl ?_) | (refine r_load1b 2 rfl rfl rfl T.agg9 rfl ?_)
    first | (refine r_lookupOk 0 (keyEnc_string T.un9) (ev := Choice.av) Choice.zero rfl rfl rfl T.map71 T.zav33 rfl ?_) | (refine r_lookupOk 1 (keyEnc_string T.un9) (ev := Choice.av) Choice.zero rfl rfl rfl T.map71 T.zav33 rfl ?_) | (refine r_lookupOk 2 (keyEnc_string T.un9) (ev := Choice.av) Choice.zero rfl rfl rfl T.map71 T.zav33 rfl ?_)
    refine r_move rfl rfl ?_
    refine r_extract rfl rfl rfl ?_
    refine r_extract rfl rfl rfl ?_
    refine r_alloc T.zero33 rfl (fun b7 => ?_)
    first | (refine r_store 0 rfl rfl rfl T.sz33 rfl rfl rfl ?_) | (refine r_store 1 rfl rfl rfl T.sz33 rfl rfl rfl ?_) | (refine r_store 2 rfl rfl rfl T.sz33 rfl rfl rfl ?_) | (refine r_store 3 rfl rfl rfl T.sz33 rfl rfl rfl ?_)
    refine r_assign rfl rfl ?_
    refine awl_nil ?_
    refine x_then ?_
    refine awp_seq ?_
    refine awp_region ?_
    refine r_move rfl rfl ?_
    refine r_not rfl rfl ?_
    refine awl_nil ?_
    refine x_then ?_
    refine awp_cond rfl (fun hc1 => ?_) (fun hc1 => ?_)
    ·
      rw [show (mget (chosen l) x.name).isSome = false by simpa using hc1] at e
      refine awp_region ?_
      refine r_move rfl rfl ?_
      first | (refine r_fieldcp rfl T.f33_0 T.sz9 rfl ?_) | (refine r_fieldb rfl T.f33_0 T.sz9 rfl ?_)
      first | (refine r_load1 rfl T.agg9 rfl ?_) | (refine r_load1b 0 rfl rfl rfl T.agg9 rfl ?_) | (refine r_load1b 1 rfl rfl rfl T.agg9 rfl ?_) | (refine r_load1b 2 rfl rfl rfl T.agg9 rfl ?_) | (refine r_load1b 3 rfl rfl rfl T.agg9 rfl ?_)
      first | (refine r_mapUpdate 0 (keyEnc_string T.un9) (ev := boolA) true rfl rfl rfl rfl rfl T.map53 ?_) | (refine r_mapUpdate 1 (keyEnc_string T.un9) (ev := boolA) true rfl rfl rfl rfl rfl T.map53 ?_) | (refine r_mapUpdate 2 (keyEnc_string T.un9) (ev := boolA) true rfl rfl rfl rfl rfl T.map53 ?_) | (refine r_mapUpdate 3 (keyEnc_string T.un9) (ev := boolA) true rfl rfl rfl rfl rfl T.map53 ?_)
      refine awl_nil ?_
      refine x_block ?_
      refine x_then ?_
      refine awp_region ?_
      refine r_ari _ rfl rfl rfl (wrap_id (by omega)) rfl ?_
      refine r_move rfl rfl ?_
      refine awl_nil ?_
      refine x_then ?_
      refine ⟨l.length - (k + 1), ⟨33, [(3, .a (.v (.map (some b)))), (4, .a (.v (.map (some b11)))), (12, .a (choicesA l)), (13, .a (.v (.int .i64 ((l.map Choice.cs).length)))), (14, .a (.v (.int .i64 (((k + 1) : Int)))))], [⟨b11, true, .map (encM Value.string boolA ((l.take (k + 1)).foldl (stepL (chosen l)) []))⟩, ⟨b, true, .map (encM Value.string Choice.av (chosen l))⟩]⟩, ⟨rfl, (Slots.cons rfl (by first | exact .refl _ | exact .nilOwn _ _ | exact .nilSl _ | exact .ownSl _ _ _ | exact SV.le.of_eq (by simp)) (Slots.cons rfl (by first | exact .refl _ | exact .nilOwn _ _ | exact .nilSl _ | exact .ownSl _ _ _ | exact SV.le.of_eq (by simp)) (Slots.cons rfl (by first | exact .refl _ | exact .nilOwn _ _ | exact .nilSl _ | exact .ownSl _ _ _ | exact SV.le.of_eq (by simp)) (Slots.cons rfl (by first | exact .refl _ | exact .nilOwn _ _ | exact .nilSl _ | exact .ownSl _ _ _ | exact SV.le.of_eq (by simp)) (Slots.cons rfl (by first | exact .refl _ | exact .nilOwn _ _ | exact .nilSl _ | exact .ownSl _ _ _ | exact SV.le.of_eq (by simp)) Slots.nil))))), (by rw [e]; first | exact List.Sublist.refl _ | exact List.nil_sublist _ | exact .cons _ (.refl _) | exact .cons _ (.cons _ (.refl _)) | exact .cons _ (.cons _ (.cons _ (.refl _))) | exact .cons _ (.cons _ (.cons _ (.cons _ (.refl _)))) | exact .cons_cons _ (List.nil_sublist _))⟩, (by omega), ⟨k + 1, rfl, rfl, (by have := (List.getElem?_eq_some_iff.1 hx).1; omega)⟩⟩
    ·
      rw [show (mget (chosen l) x.name).isSome = true by simpa using hc1] at e
      refine awp_skip ?_
      refine x_block ?_
      refine x_then ?_
      refine awp_region ?_
      refine r_ari _ rfl rfl rfl (wrap_id (by omega)) rfl ?_
      refine r_move rfl rfl ?_
      refine awl_nil ?_
      refine x_then ?_
      refine ⟨l.length - (k + 1), ⟨33, [(3, .a (.v (.map (some b)))), (4, .a (.v (.map (some b11)))), (12, .a (choicesA l)), (13, .a (.v (.int .i64 ((l.map Choice.cs).length)))), (14, .a (.v (.int .i64 (((k + 1) : Int)))))], [⟨b11, true, .map (encM Value.string boolA ((l.take (k + 1)).foldl (stepL (chosen l)) []))⟩, ⟨b, true, .map (encM Value.string Choice.av (chosen l))⟩]⟩, ⟨rfl, (Slots.cons rfl (by first | exact .refl _ | exact .nilOwn _ _ | exact .nilSl _ | exact .ownSl _ _ _ | exact SV.le.of_eq (by simp)) (Slots.cons rfl (by first | exact .refl _ | exact .nilOwn _ _ | exact .nilSl _ | exact .ownSl _ _ _ | exact SV.le.of_eq (by simp)) (Slots.cons rfl (by first | exact .refl _ | exact .nilOwn _ _ | exact .nilSl _ | exact .ownSl _ _ _ | exact SV.le.of_eq (by simp)) (Slots.cons rfl (by first | exact .refl _ | exact .nilOwn _ _ | exact .nilSl _ | exact .ownSl _ _ _ | exact SV.le.of_eq (by simp)) (Slots.cons rfl (by first | exact .refl _ | exact .nilOwn _ _ | exact .nilSl _ | exact .ownSl _ _ _ | exact SV.le.of_eq (by simp)) Slots.nil))))), (by rw [e]; first | exact List.Sublist.refl _ | exact List.nil_sublist _ | exact .cons _ (.refl _) | exact .cons _ (.cons _ (.refl _)) | exact .cons _ (.cons _ (.cons _ (.refl _))) | exact .cons _ (.cons _ (.cons _ (.cons _ (.refl _)))) | exact .cons_cons _ (List.nil_sublist _))⟩, (by omega), ⟨k + 1, rfl, rfl, (by have := (List.getElem?_eq_some_iff.1 hx).1; omega)⟩⟩
  ·
    have hge : l.length ≤ k := by have := of_decide_eq_false hc0; simp at this; omega
    have hkl : l.take k = l := List.take_of_length_le hge
    refine awp_exit ?_
    refine x_thenE ?_
    refine x_thenE ?_
    refine x_blockE ?_
    refine x_then ?_
    refine awp_seq ?_
    refine awp_region ?_
    refine r_move rfl rfl ?_
    refine r_callO rfl rfl (.cons (.ev rfl rfl) .nil) (sortedB_ok (encM_keys (ek := Value.string) (ev := boolA) ((l.take k).foldl (stepL (chosen l)) [])) (lost_nodup_aux (chosen l) _ [] (by simp)) (fun s hs => by obtain ⟨c, h1, h2, _⟩ := ((lost_keys_aux (chosen l) _ [] s).1 hs).resolve_left (by simp); rw [hkl] at h1; have := (hd c h1).1; rw [← h2]; unfold maxLen; omega) (by rw [encM_len, hkl]; have := lost_len_aux (chosen l) l []; simp at this; omega)) rfl T.en38 (.cons_cons _ (List.nil_sublist _)) rfl (fun r nobjs hr => ?_)
    obtain ⟨rfl, rfl⟩ := hr
    refine r_assign rfl rfl ?_
    refine awl_nil ?_
    refine x_then ?_
    refine awp_ret ?_
    exact ⟨(.inl rfl), _, [], (.one (by first | exact .mk rfl rfl | exact .nil rfl)), ⟨rfl, by rw [hkl]; rfl⟩, (List.nil_sublist _), (by simp)⟩

end Go.Proofs.Ytpoacfbobalpkaa.A

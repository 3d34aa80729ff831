/- Layer 66: walks of the document's Plan. -/
import Derived.Test.YtpoacfbobalpkaaProg
import Derived.KernelRfl
import Derived.Test.YtpoacfbobalpkaaX66D
namespace Go.Proofs.Ytpoacfbobalpkaa.A
open Go Go.RowKit
set_option linter.unusedVariables false
set_option linter.unusedSimpArgs false
set_option maxRecDepth 100000

theorem T.en34 : entersT Try.prog 34 := enters_of Try.func34 (by kernel_rfl) (by kernel_rfl)
theorem T.zraw40 : zeroT Try.prog 40 = some [(.string ⟨#[]⟩), (.int .u64 0), (.bool false), (.slice none 0 0)] := by kernel_rfl
theorem T.pl40 : placesT Try.prog 40 = some [(0, 1), (1, 1), (2, 1), (3, 1)] := by kernel_rfl
theorem T.en35 : entersT Try.prog 35 := enters_of Try.func35 (by kernel_rfl) (by kernel_rfl)
theorem T.by40 : bytesT Try.prog 40 = some 56 := by kernel_rfl
theorem T.zlen40 : (zeroT Try.prog 40).map (·.length) = some 4 := by kernel_rfl

def namesStep (l : List Moment) (ns : List ByteArray) (m : Int) : List ByteArray := match lookM l m with | some fs => fs.foldl (fun ns f => insS ns f.name) ns | none => ns
theorem namesOf_eq (l : List Moment) (nums : List Int) : namesOf (lookM l) nums = nums.foldl (namesStep l) [] := rfl
theorem ins_len : ∀ (fs : List File) (ns : List ByteArray), (fs.foldl (fun ns f => insS ns f.name) ns).length ≤ ns.length + fs.length
  | [], ns => by simp
  | f :: r, ns => by
    have := ins_len r (insS ns f.name)
    have h2 := insS_len (n := f.name) (l := ns)
    simp only [List.foldl_cons, List.length_cons]; omega
theorem look_len {l : List Moment} {nums : List Int} (h : Small l nums) {m : Int} {fs : List File} (hl : lookM l m = some fs) : fs.length ≤ 10 ∧ ∀ f ∈ fs, f.name.size ≤ 40 ∧ f.data.length ≤ 300 := by
  unfold lookM at hl
  split at hl
  · rename_i x hx
    have hm := List.mem_of_find?_eq_some hx
    cases hc : x.can with
    | true => rw [hc] at hl; cases hl; exact h.files x hm
    | false => rw [hc] at hl; cases hl
  · cases hl
theorem names_len {l : List Moment} {nums : List Int} (h : Small l nums) : ∀ (ms : List Int) (ns : List ByteArray), (ms.foldl (namesStep l) ns).length ≤ ns.length + 10 * ms.length
  | [], ns => by simp
  | m :: r, ns => by
    have := names_len h r (namesStep l ns m)
    have h2 : (namesStep l ns m).length ≤ ns.length + 10 := by
      unfold namesStep
      cases hl : lookM l m with
      | none => simp
      | some fs => have := ins_len fs ns; have := (look_len h hl).1; simp only; omega
    simp only [List.foldl_cons, List.length_cons]; omega
theorem findF_some {fs : List File} {nm : ByteArray} {k : Nat} {f : File} (h : findF fs nm = some k) (hf : fs[k]? = some f) : fs.find? (fun f => decide (f.name = nm)) = some f := by
  rw [find_idx h, hf]
theorem findF_none {fs : List File} {nm : ByteArray} (h : findF fs nm = none) : fs.find? (fun f => decide (f.name = nm)) = none := find_idx_none h

theorem rplan_ok (l : List Moment) (nums : List Int) (not : Int) (h : Small l nums) : AC Try.prog 13 [momentsA l, numsA nums, u8A not] [] (fun r n => n = [] ∧ r = choicesA (rplanOf (lookM l) not nums)) := by
  refine ac_of_awp (rs := [6]) (nt := 143) Try.func13 rfl rfl rfl rfl (fun w0 C0 => ?_)
  refine awp_seq ?_
  refine awp_region ?_
  refine r_assign rfl rfl ?_
  refine awl_nil ?_
  refine x_then ?_
  refine awp_seq ?_
  refine awp_region ?_
  refine r_lit 17 (parts := []) rfl T.sl46 T.sz9 T.zraw9 rfl rfl rfl rfl rfl rfl rfl ?_
  refine r_assign rfl rfl ?_
  refine awl_nil ?_
  refine x_then ?_
  refine awp_seq ?_
  refine awp_seq ?_
  refine awp_region ?_
  refine r_assign rfl rfl ?_
  refine awl_nil ?_
  refine x_then ?_
  refine awp_block ?_
  refine awp_loop (fun nn0 S => ∃ k : Nat, S = ⟨143, [(0, .a (momentsA l)), (1, .a (numsA nums)), (2, .a (u8A not)), (7, .a (strsA ((nums.take k).foldl (namesStep l) []))), (8, .a (.v (.int .i64 ((k : Int)))))], []⟩ ∧ nn0 = nums.length - k ∧ (k ≤ nums.length)) (nums.length - (0)) ⟨143, [(0, .a (momentsA l)), (1, .a (numsA nums)), (2, .a (u8A not)), (7, .a (strsA ((nums.take (0)).foldl (namesStep l) []))), (8, .a (.v (.int .i64 (((0) : Int)))))], []⟩ ⟨rfl, (Slots.cons rfl (by first | exact .refl _ | exact .nilOwn _ _ | exact .nilSl _ | exact .ownSl _ _ _ | exact SV.le.of_eq (by simp)) (Slots.cons rfl (by first | exact .refl _ | exact .nilOwn _ _ | exact .nilSl _ | exact .ownSl _ _ _ | exact SV.le.of_eq (by simp)) (Slots.cons rfl (by first | exact .refl _ | exact .nilOwn _ _ | exact .nilSl _ | exact .ownSl _ _ _ | exact SV.le.of_eq (by simp)) (Slots.cons rfl (by first | exact .refl _ | exact .nilOwn _ _ | exact .nilSl _ | exact .ownSl _ _ _ | exact SV.le.of_eq (by simp)) (Slots.cons rfl (by first | exact .refl _ | exact .nilOwn _ _ | exact .nilSl _ | exact .ownSl _ _ _ | exact SV.le.of_eq (by simp)) Slots.nil))))), (by first | exact List.Sublist.refl _ | exact List.nil_sublist _ | exact .cons _ (.refl _) | exact .cons _ (.cons _ (.refl _)) | exact .cons _ (.cons _ (.cons _ (.refl _))) | exact .cons _ (.cons _ (.cons _ (.cons _ (.refl _)))) | exact .cons_cons _ (List.nil_sublist _))⟩ ⟨0, rfl, rfl, Nat.zero_le _⟩ ?_
  rintro nn0 _ ⟨k, rfl, rfl, hk⟩
  refine awp_seq ?_
  refine awp_seq ?_
  refine awp_region ?_
  refine r_move rfl rfl ?_
  refine r_move rfl rfl ?_
  first | (refine r_lenS rfl rfl T.sl23 rfl ?_) | (refine r_lenNil rfl T.sl23 rfl ?_)
  refine r_cmp rfl rfl rfl rfl ?_
  refine awl_nil ?_
  refine x_then ?_
  refine awp_cond rfl (fun hc0 => ?_) (fun hc0 => ?_)
  ·
    have hlt : k < nums.length := by have := of_decide_eq_true hc0; simpa using this
    obtain ⟨x, hx⟩ := get_lt hlt
    have hn10 := h.nums
    have hl8 := h.len
    have hnn := names_len h (nums.take k) []
    rw [List.length_take] at hnn
    have e : (nums.take (k + 1)).foldl (namesStep l) [] = namesStep l ((nums.take k).foldl (namesStep l) []) x := fold_take hx
    refine awp_skip ?_
    refine x_then ?_
    refine awp_seq ?_
    refine awp_block ?_
    refine awp_seq ?_
    refine awp_region ?_
    refine r_move rfl rfl ?_
    refine r_move rfl rfl ?_
    refine r_move rfl rfl ?_
    refine r_index rfl rfl rfl T.sl23 T.sz30 (by omega) (get_map hx) rfl ?_
    refine r_load1 rfl T.agg30 rfl ?_
    refine r_call0 rfl rfl (.cons (.ev rfl rfl) (.cons (.ev rfl rfl) .nil)) (at_ok l x (by have := h.len; omega)) rfl T.en22 rfl (fun r hr => ?_)
    obtain rfl := hr
    refine r_assign rfl rfl ?_
    refine awl_nil ?_
    refine x_then ?_
    refine awp_seq ?_
    refine awp_seq ?_
    refine awp_region ?_
    refine r_move rfl rfl ?_
    refine r_cmp rfl rfl rfl rfl ?_
    refine r_move rfl rfl ?_
    refine g_cases (t' := 32) rfl (fun hg32 => ?_) (fun hg32 => ?_)
    ·
      have hkn := optI_none (of_decide_eq_true hg32)
      have hlk : lookM l x = none := look_none hkn
      rw [namesStep, hlk] at e
      refine g_skip rfl rfl hg32 rfl ?_
      refine g_skip rfl rfl hg32 rfl ?_
      refine g_skip rfl rfl hg32 rfl ?_
      refine g_skip rfl rfl hg32 rfl ?_
      refine g_skip rfl rfl hg32 rfl ?_
      refine g_skip rfl rfl hg32 rfl ?_
      refine r_pickT rfl hg32 rfl rfl ?_
      refine awl_nil ?_
      refine x_then ?_
      refine awp_condT rfl ?_
      refine awp_exit ?_
      refine x_thenE ?_
      refine x_blockE ?_
      refine x_then ?_
      refine awp_region ?_
      refine r_move rfl rfl ?_
      refine r_ari _ rfl rfl rfl (wrap_id (by omega)) rfl ?_
      refine r_assign rfl rfl ?_
      refine awl_nil ?_
      refine x_then ?_
      refine ⟨nums.length - (k + 1), ⟨143, [(0, .a (momentsA l)), (1, .a (numsA nums)), (2, .a (u8A not)), (7, .a (strsA ((nums.take (k + 1)).foldl (namesStep l) []))), (8, .a (.v (.int .i64 (((k + 1) : Int)))))], []⟩, ⟨rfl, (Slots.cons rfl (by first | exact .refl _ | exact .nilOwn _ _ | exact .nilSl _ | exact .ownSl _ _ _ | exact SV.le.of_eq (by rw [e] <;> rfl)) (Slots.cons rfl (by first | exact .refl _ | exact .nilOwn _ _ | exact .nilSl _ | exact .ownSl _ _ _ | exact SV.le.of_eq (by rw [e] <;> rfl)) (Slots.cons rfl (by first | exact .refl _ | exact .nilOwn _ _ | exact .nilSl _ | exact .ownSl _ _ _ | exact SV.le.of_eq (by rw [e] <;> rfl)) (Slots.cons rfl (by first | exact .refl _ | exact .nilOwn _ _ | exact .nilSl _ | exact .ownSl _ _ _ | exact SV.le.of_eq (by rw [e] <;> rfl)) (Slots.cons rfl (by first | exact .refl _ | exact .nilOwn _ _ | exact .nilSl _ | exact .ownSl _ _ _ | exact SV.le.of_eq (by rw [e] <;> rfl)) Slots.nil))))), (by first | exact List.Sublist.refl _ | exact List.nil_sublist _ | exact .cons _ (.refl _) | exact .cons _ (.cons _ (.refl _)) | exact .cons _ (.cons _ (.cons _ (.refl _))) | exact .cons _ (.cons _ (.cons _ (.cons _ (.refl _)))) | exact .cons_cons _ (List.nil_sublist _))⟩, (by omega), ⟨k + 1, rfl, rfl, (by have := (List.getElem?_eq_some_iff.1 hx).1; omega)⟩⟩
    ·
      obtain ⟨kk, hkk⟩ := optI_some (Int.not_lt.1 (of_decide_eq_false hg32))
      obtain ⟨m, hm, _⟩ := fidx_get hkk
      have hmm := h.files m (List.mem_of_getElem? hm)
      refine g_run rfl rfl hg32 ?_
      refine r_move rfl rfl ?_
      refine g_run rfl rfl hg32 ?_
      refine r_move rfl rfl ?_
      refine g_run rfl rfl hg32 ?_
      refine r_index rfl rfl rfl T.sl22 T.sz57 (by rw [hkk]; simp [optI]) (by rw [hkk]; exact get_map hm) rfl ?_
      refine g_run rfl rfl hg32 ?_
      first | (refine r_fieldcp rfl T.f57_1 T.sz4 rfl ?_) | (refine r_fieldb rfl T.f57_1 T.sz4 rfl ?_)
      refine g_run rfl rfl hg32 ?_
      refine r_load1 rfl T.agg4 rfl ?_
      refine g_run rfl rfl hg32 ?_
      refine r_not rfl rfl ?_
      refine r_pickF rfl hg32 rfl rfl ?_
      refine awl_nil ?_
      refine x_then ?_
      refine awp_cond rfl (fun hc1 => ?_) (fun hc1 => ?_)
      ·
        have hlk : lookM l x = none := by rw [look_some hkk hm, show m.can = false by simpa using hc1]; rfl
        rw [namesStep, hlk] at e
        refine awp_exit ?_
        refine x_thenE ?_
        refine x_blockE ?_
        refine x_then ?_
        refine awp_region ?_
        refine r_move rfl rfl ?_
        refine r_ari _ rfl rfl rfl (wrap_id (by omega)) rfl ?_
        refine r_assign rfl rfl ?_
        refine awl_nil ?_
        refine x_then ?_
        refine ⟨nums.length - (k + 1), ⟨143, [(0, .a (momentsA l)), (1, .a (numsA nums)), (2, .a (u8A not)), (7, .a (strsA ((nums.take (k + 1)).foldl (namesStep l) []))), (8, .a (.v (.int .i64 (((k + 1) : Int)))))], []⟩, ⟨rfl, (Slots.cons rfl (by first | exact .refl _ | exact .nilOwn _ _ | exact .nilSl _ | exact .ownSl _ _ _ | exact SV.le.of_eq (by rw [e] <;> rfl)) (Slots.cons rfl (by first | exact .refl _ | exact .nilOwn _ _ | exact .nilSl _ | exact .ownSl _ _ _ | exact SV.le.of_eq (by rw [e] <;> rfl)) (Slots.cons rfl (by first | exact .refl _ | exact .nilOwn _ _ | exact .nilSl _ | exact .ownSl _ _ _ | exact SV.le.of_eq (by rw [e] <;> rfl)) (Slots.cons rfl (by first | exact .refl _ | exact .nilOwn _ _ | exact .nilSl _ | exact .ownSl _ _ _ | exact SV.le.of_eq (by rw [e] <;> rfl)) (Slots.cons rfl (by first | exact .refl _ | exact .nilOwn _ _ | exact .nilSl _ | exact .ownSl _ _ _ | exact SV.le.of_eq (by rw [e] <;> rfl)) Slots.nil))))), (by first | exact List.Sublist.refl _ | exact List.nil_sublist _ | exact .cons _ (.refl _) | exact .cons _ (.cons _ (.refl _)) | exact .cons _ (.cons _ (.cons _ (.refl _))) | exact .cons _ (.cons _ (.cons _ (.cons _ (.refl _)))) | exact .cons_cons _ (List.nil_sublist _))⟩, (by omega), ⟨k + 1, rfl, rfl, (by have := (List.getElem?_eq_some_iff.1 hx).1; omega)⟩⟩
      ·
        have hlk : lookM l x = some m.files := by rw [look_some hkk hm, show m.can = true by simpa using hc1]; rfl
        rw [namesStep, hlk] at e
        refine awp_skip ?_
        refine x_then ?_
        refine awp_seq ?_
        refine awp_region ?_
        refine r_assign rfl rfl ?_
        refine awl_nil ?_
        refine x_then ?_
        refine awp_block ?_
        refine awp_loop (fun nn0 S => ∃ j : Nat, S = ⟨143, [(0, .a (momentsA l)), (1, .a (numsA nums)), (2, .a (u8A not)), (7, .a (strsA ((m.files.take j).foldl (fun ns f => insS ns f.name) ((nums.take k).foldl (namesStep l) [])))), (8, .a (.v (.int .i64 ((k : Int))))), (9, .a (.v (.int .i64 (optI (atM l x))))), (10, .a (.v (.int .i64 ((j : Int)))))], []⟩ ∧ nn0 = m.files.length - j ∧ (j ≤ m.files.length)) (m.files.length - (0)) ⟨143, [(0, .a (momentsA l)), (1, .a (numsA nums)), (2, .a (u8A not)), (7, .a (strsA ((m.files.take (0)).foldl (fun ns f => insS ns f.name) ((nums.take k).foldl (namesStep l) [])))), (8, .a (.v (.int .i64 ((k : Int))))), (9, .a (.v (.int .i64 (optI (atM l x))))), (10, .a (.v (.int .i64 (((0) : Int)))))], []⟩ ⟨rfl, (Slots.cons rfl (by first | exact .refl _ | exact .nilOwn _ _ | exact .nilSl _ | exact .ownSl _ _ _ | exact SV.le.of_eq (by simp)) (Slots.cons rfl (by first | exact .refl _ | exact .nilOwn _ _ | exact .nilSl _ | exact .ownSl _ _ _ | exact SV.le.of_eq (by simp)) (Slots.cons rfl (by first | exact .refl _ | exact .nilOwn _ _ | exact .nilSl _ | exact .ownSl _ _ _ | exact SV.le.of_eq (by simp)) (Slots.cons rfl (by first | exact .refl _ | exact .nilOwn _ _ | exact .nilSl _ | exact .ownSl _ _ _ | exact SV.le.of_eq (by simp)) (Slots.cons rfl (by first | exact .refl _ | exact .nilOwn _ _ | exact .nilSl _ | exact .ownSl _ _ _ | exact SV.le.of_eq (by simp)) (Slots.cons rfl (by first | exact .refl _ | exact .nilOwn _ _ | exact .nilSl _ | exact .ownSl _ _ _ | exact SV.le.of_eq (by simp)) (Slots.cons rfl (by first | exact .refl _ | exact .nilOwn _ _ | exact .nilSl _ | exact .ownSl _ _ _ | exact SV.le.of_eq (by simp)) Slots.nil))))))), (by first | exact List.Sublist.refl _ | exact List.nil_sublist _ | exact .cons _ (.refl _) | exact .cons _ (.cons _ (.refl _)) | exact .cons _ (.cons _ (.cons _ (.refl _))) | exact .cons _ (.cons _ (.cons _ (.cons _ (.refl _)))) | exact .cons_cons _ (List.nil_sublist _))⟩ ⟨0, rfl, rfl, Nat.zero_le _⟩ ?_
        rintro nn0 _ ⟨j, rfl, rfl, hj⟩
        refine awp_seq ?_
        refine awp_seq ?_
        refine awp_region ?_
        refine r_move rfl rfl ?_
        refine r_move rfl rfl ?_
        refine r_move rfl rfl ?_
        refine r_index rfl rfl rfl T.sl22 T.sz57 (by rw [hkk]; simp [optI]) (by rw [hkk]; exact get_map hm) rfl ?_
        first | (refine r_fieldcp rfl T.f57_2 T.sz44 rfl ?_) | (refine r_fieldb rfl T.f57_2 T.sz44 rfl ?_)
        refine r_load1 rfl T.agg44 rfl ?_
        first | (refine r_lenS rfl rfl T.sl44 rfl ?_) | (refine r_lenNil rfl T.sl44 rfl ?_)
        refine r_cmp rfl rfl rfl rfl ?_
        refine awl_nil ?_
        refine x_then ?_
        refine awp_cond rfl (fun hc2 => ?_) (fun hc2 => ?_)
        ·
          have hltj : j < m.files.length := by have := of_decide_eq_true hc2; simpa using this
          obtain ⟨y, hy⟩ := get_lt hltj
          have e2 : (m.files.take (j + 1)).foldl (fun ns f => insS ns f.name) ((nums.take k).foldl (namesStep l) []) = insS ((m.files.take j).foldl (fun ns f => insS ns f.name) ((nums.take k).foldl (namesStep l) [])) y.name := fold_take hy
          have hnj := ins_len (m.files.take j) ((nums.take k).foldl (namesStep l) [])
          rw [List.length_take] at hnj
          refine awp_skip ?_
          refine x_then ?_
          refine awp_seq ?_
          refine awp_block ?_
          refine awp_region ?_
          refine r_move rfl rfl ?_
          refine r_move rfl rfl ?_
          refine r_move rfl rfl ?_
          refine r_index rfl rfl rfl T.sl22 T.sz57 (by rw [hkk]; simp [optI]) (by rw [hkk]; exact get_map hm) rfl ?_
          first | (refine r_fieldcp rfl T.f57_2 T.sz44 rfl ?_) | (refine r_fieldb rfl T.f57_2 T.sz44 rfl ?_)
          refine r_load1 rfl T.agg44 rfl ?_
          refine r_move rfl rfl ?_
          refine r_index rfl rfl rfl T.sl44 T.sz51 (by omega) (get_map hy) rfl ?_
          first | (refine r_fieldcp rfl T.f51_0 T.sz9 rfl ?_) | (refine r_fieldb rfl T.f51_0 T.sz9 rfl ?_)
          refine r_load1 rfl T.agg9 rfl ?_
          refine r_call0 rfl rfl (.cons (.ev rfl rfl) (.cons (.ev rfl rfl) .nil)) (insert_ok _ y.name (by have := hmm.1; simp at hnn; omega)) rfl T.en34 rfl (fun r hr => ?_)
          obtain rfl := hr
          refine r_assign rfl rfl ?_
          refine awl_nil ?_
          refine x_block ?_
          refine x_then ?_
          refine awp_region ?_
          refine r_move rfl rfl ?_
          refine r_ari _ rfl rfl rfl (wrap_id (by omega)) rfl ?_
          refine r_assign rfl rfl ?_
          refine awl_nil ?_
          refine x_then ?_
          refine ⟨m.files.length - (j + 1), ⟨143, [(0, .a (momentsA l)), (1, .a (numsA nums)), (2, .a (u8A not)), (7, .a (strsA ((m.files.take (j + 1)).foldl (fun ns f => insS ns f.name) ((nums.take k).foldl (namesStep l) [])))), (8, .a (.v (.int .i64 ((k : Int))))), (9, .a (.v (.int .i64 (optI (atM l x))))), (10, .a (.v (.int .i64 (((j + 1) : Int)))))], []⟩, ⟨rfl, (Slots.cons rfl (by first | exact .refl _ | exact .nilOwn _ _ | exact .nilSl _ | exact .ownSl _ _ _ | exact SV.le.of_eq (by rw [e2] <;> rfl)) (Slots.cons rfl (by first | exact .refl _ | exact .nilOwn _ _ | exact .nilSl _ | exact .ownSl _ _ _ | exact SV.le.of_eq (by rw [e2] <;> rfl)) (Slots.cons rfl (by first | exact .refl _ | exact .nilOwn _ _ | exact .nilSl _ | exact .ownSl _ _ _ | exact SV.le.of_eq (by rw [e2] <;> rfl)) (Slots.cons rfl (by first | exact .refl _ | exact .nilOwn _ _ | exact .nilSl _ | exact .ownSl _ _ _ | exact SV.le.of_eq (by rw [e2] <;> rfl)) (Slots.cons rfl (by first | exact .refl _ | exact .nilOwn _ _ | exact .nilSl _ | exact .ownSl _ _ _ | exact SV.le.of_eq (by rw [e2] <;> rfl)) (Slots.cons rfl (by first | exact .refl _ | exact .nilOwn _ _ | exact .nilSl _ | exact .ownSl _ _ _ | exact SV.le.of_eq (by rw [e2] <;> rfl)) (Slots.cons rfl (by first | exact .refl _ | exact .nilOwn _ _ | exact .nilSl _ | exact .ownSl _ _ _ | exact SV.le.of_eq (by rw [e2] <;> rfl)) Slots.nil))))))), (by first | exact List.Sublist.refl _ | exact List.nil_sublist _ | exact .cons _ (.refl _) | exact .cons _ (.cons _ (.refl _)) | exact .cons _ (.cons _ (.cons _ (.refl _))) | exact .cons _ (.cons _ (.cons _ (.cons _ (.refl _)))) | exact .cons_cons _ (List.nil_sublist _))⟩, (by omega), ⟨j + 1, rfl, rfl, (by have := (List.getElem?_eq_some_iff.1 hy).1; omega)⟩⟩
        ·
          have hgej : m.files.length ≤ j := by have := of_decide_eq_false hc2; simp at this; omega
          have hjl : m.files.take j = m.files := List.take_of_length_le hgej
          rw [hjl]
          refine awp_exit ?_
          refine x_thenE ?_
          refine x_thenE ?_
          refine x_blockE ?_
          refine x_block ?_
          refine x_then ?_
          refine awp_region ?_
          refine r_move rfl rfl ?_
          refine r_ari _ rfl rfl rfl (wrap_id (by omega)) rfl ?_
          refine r_assign rfl rfl ?_
          refine awl_nil ?_
          refine x_then ?_
          refine ⟨nums.length - (k + 1), ⟨143, [(0, .a (momentsA l)), (1, .a (numsA nums)), (2, .a (u8A not)), (7, .a (strsA ((nums.take (k + 1)).foldl (namesStep l) []))), (8, .a (.v (.int .i64 (((k + 1) : Int)))))], []⟩, ⟨rfl, (Slots.cons rfl (by first | exact .refl _ | exact .nilOwn _ _ | exact .nilSl _ | exact .ownSl _ _ _ | exact SV.le.of_eq (by rw [e] <;> rfl)) (Slots.cons rfl (by first | exact .refl _ | exact .nilOwn _ _ | exact .nilSl _ | exact .ownSl _ _ _ | exact SV.le.of_eq (by rw [e] <;> rfl)) (Slots.cons rfl (by first | exact .refl _ | exact .nilOwn _ _ | exact .nilSl _ | exact .ownSl _ _ _ | exact SV.le.of_eq (by rw [e] <;> rfl)) (Slots.cons rfl (by first | exact .refl _ | exact .nilOwn _ _ | exact .nilSl _ | exact .ownSl _ _ _ | exact SV.le.of_eq (by rw [e] <;> rfl)) (Slots.cons rfl (by first | exact .refl _ | exact .nilOwn _ _ | exact .nilSl _ | exact .ownSl _ _ _ | exact SV.le.of_eq (by rw [e] <;> rfl)) Slots.nil))))), (by first | exact List.Sublist.refl _ | exact List.nil_sublist _ | exact .cons _ (.refl _) | exact .cons _ (.cons _ (.refl _)) | exact .cons _ (.cons _ (.cons _ (.refl _))) | exact .cons _ (.cons _ (.cons _ (.cons _ (.refl _)))) | exact .cons_cons _ (List.nil_sublist _))⟩, (by omega), ⟨k + 1, rfl, rfl, (by have := (List.getElem?_eq_some_iff.1 hx).1; omega)⟩⟩
  ·
    have hge : nums.length ≤ k := by have := of_decide_eq_false hc0; simp at this; omega
    have hkl : nums.take k = nums := List.take_of_length_le hge
    refine awp_exit ?_
    refine x_thenE ?_
    refine x_thenE ?_
    refine x_blockE ?_
    refine x_then ?_
    refine awp_seq ?_
    refine awp_region ?_
    rw [hkl]
    have hnn := names_len h nums []
    generalize hns : nums.foldl (namesStep l) [] = ns at hnn ⊢
    simp only [List.length_nil, Nat.zero_add] at hnn
    have hn10 := h.nums
    have hl8 := h.len
    refine r_lit 61 (parts := []) rfl T.sl34 T.sz40 T.zraw40 rfl rfl rfl rfl rfl rfl rfl ?_
    refine r_assign rfl rfl ?_
    refine awl_nil ?_
    refine x_then ?_
    refine awp_seq ?_
    refine awp_seq ?_
    refine awp_region ?_
    refine r_assign rfl rfl ?_
    refine awl_nil ?_
    refine x_then ?_
    refine awp_block ?_
    refine awp_loop (fun nn0 S => ∃ q : Nat, S = ⟨143, [(0, .a (momentsA l)), (1, .a (numsA nums)), (2, .a (u8A not)), (7, .a (strsA ns)), (11, .own 61 4 (((ns.take q).map fun nm => nums.foldl (choiceOf (lookM l) not nm) ⟨nm, 0, false, []⟩).map Choice.cs)), (12, .a (.v (.int .i64 ((q : Int)))))], []⟩ ∧ nn0 = ns.length - q ∧ (q ≤ ns.length)) (ns.length - (0)) ⟨143, [(0, .a (momentsA l)), (1, .a (numsA nums)), (2, .a (u8A not)), (7, .a (strsA ns)), (11, .own 61 4 (((ns.take (0)).map fun nm => nums.foldl (choiceOf (lookM l) not nm) ⟨nm, 0, false, []⟩).map Choice.cs)), (12, .a (.v (.int .i64 (((0) : Int)))))], []⟩ ⟨rfl, (Slots.cons rfl (by first | exact .refl _ | exact .nilOwn _ _ | exact .nilSl _ | exact .ownSl _ _ _ | exact SV.le.of_eq (by simp)) (Slots.cons rfl (by first | exact .refl _ | exact .nilOwn _ _ | exact .nilSl _ | exact .ownSl _ _ _ | exact SV.le.of_eq (by simp)) (Slots.cons rfl (by first | exact .refl _ | exact .nilOwn _ _ | exact .nilSl _ | exact .ownSl _ _ _ | exact SV.le.of_eq (by simp)) (Slots.cons rfl (by first | exact .refl _ | exact .nilOwn _ _ | exact .nilSl _ | exact .ownSl _ _ _ | exact SV.le.of_eq (by simp)) (Slots.cons rfl (by first | exact .refl _ | exact .nilOwn _ _ | exact .nilSl _ | exact .ownSl _ _ _ | exact SV.le.of_eq (by simp)) (Slots.cons rfl (by first | exact .refl _ | exact .nilOwn _ _ | exact .nilSl _ | exact .ownSl _ _ _ | exact SV.le.of_eq (by simp)) Slots.nil)))))), (by first | exact List.Sublist.refl _ | exact List.nil_sublist _ | exact .cons _ (.refl _) | exact .cons _ (.cons _ (.refl _)) | exact .cons _ (.cons _ (.cons _ (.refl _))) | exact .cons _ (.cons _ (.cons _ (.cons _ (.refl _)))) | exact .cons_cons _ (List.nil_sublist _))⟩ ⟨0, rfl, rfl, Nat.zero_le _⟩ ?_
    rintro nn0 _ ⟨q, rfl, rfl, hn⟩
    refine awp_seq ?_
    refine awp_seq ?_
    refine awp_region ?_
    refine r_move rfl rfl ?_
    refine r_move rfl rfl ?_
    first | (refine r_lenS rfl rfl T.sl46 rfl ?_) | (refine r_lenNil rfl T.sl46 rfl ?_)
    refine r_cmp rfl rfl rfl rfl ?_
    refine awl_nil ?_
    refine x_then ?_
    refine awp_cond rfl (fun hc3 => ?_) (fun hc3 => ?_)
    ·
      have hltn : q < ns.length := by have := of_decide_eq_true hc3; simpa using this
      obtain ⟨nm, hnm⟩ := get_lt hltn
      have e3 : ((ns.take (q + 1)).map fun nm => nums.foldl (choiceOf (lookM l) not nm) ⟨nm, 0, false, []⟩).map Choice.cs = ((ns.take q).map fun nm => nums.foldl (choiceOf (lookM l) not nm) ⟨nm, 0, false, []⟩).map Choice.cs ++ [Choice.cs (nums.foldl (choiceOf (lookM l) not nm) ⟨nm, 0, false, []⟩)] := by rw [map_take hnm, List.map_append]; rfl
      refine awp_skip ?_
      refine x_then ?_
      refine awp_seq ?_
      refine awp_block ?_
      refine awp_seq ?_
      refine awp_region ?_
      refine r_move rfl rfl ?_
      refine r_move rfl rfl ?_
      refine r_index rfl rfl rfl T.sl46 T.sz9 (by omega) (get_map hnm) rfl ?_
      refine r_load1 rfl T.agg9 rfl ?_
      refine r_build (parts := [(0, .tmp 71)]) rfl T.pl40 T.zero40 rfl rfl rfl ?_
      refine r_alloc T.zero40 rfl (fun b13 => ?_)
      refine r_store 0 rfl rfl rfl T.sz40 rfl rfl rfl ?_
      refine awl_nil ?_
      refine x_then ?_
      refine awp_seq ?_
      refine awp_seq ?_
      refine awp_region ?_
      refine r_assign rfl rfl ?_
      refine awl_nil ?_
      refine x_then ?_
      refine awp_block ?_
      refine awp_loop (fun nn0 S => ∃ k : Nat, S = ⟨143, [(0, .a (momentsA l)), (1, .a (numsA nums)), (2, .a (u8A not)), (7, .a (strsA ns)), (11, .own 61 4 (((ns.take q).map fun nm => nums.foldl (choiceOf (lookM l) not nm) ⟨nm, 0, false, []⟩).map Choice.cs)), (12, .a (.v (.int .i64 ((q : Int))))), (13, .a (.v (.pointer (some ⟨b13, 0, none⟩)))), (14, .a (.v (.int .i64 ((k : Int)))))], [⟨b13, true, .box (Choice.cs ((nums.take k).foldl (choiceOf (lookM l) not nm) ⟨nm, 0, false, []⟩))⟩]⟩ ∧ nn0 = nums.length - k ∧ (k ≤ nums.length)) (nums.length - (0)) ⟨143, [(0, .a (momentsA l)), (1, .a (numsA nums)), (2, .a (u8A not)), (7, .a (strsA ns)), (11, .own 61 4 (((ns.take q).map fun nm => nums.foldl (choiceOf (lookM l) not nm) ⟨nm, 0, false, []⟩).map Choice.cs)), (12, .a (.v (.int .i64 ((q : Int))))), (13, .a (.v (.pointer (some ⟨b13, 0, none⟩)))), (14, .a (.v (.int .i64 (((0) : Int)))))], [⟨b13, true, .box (Choice.cs ((nums.take (0)).foldl (choiceOf (lookM l) not nm) ⟨nm, 0, false, []⟩))⟩]⟩ ⟨rfl, (Slots.cons rfl (by first | exact .refl _ | exact .nilOwn _ _ | exact .nilSl _ | exact .ownSl _ _ _ | exact SV.le.of_eq (by simp)) (Slots.cons rfl (by first | exact .refl _ | exact .nilOwn _ _ | exact .nilSl _ | exact .ownSl _ _ _ | exact SV.le.of_eq (by simp)) (Slots.cons rfl (by first | exact .refl _ | exact .nilOwn _ _ | exact .nilSl _ | exact .ownSl _ _ _ | exact SV.le.of_eq (by simp)) (Slots.cons rfl (by first | exact .refl _ | exact .nilOwn _ _ | exact .nilSl _ | exact .ownSl _ _ _ | exact SV.le.of_eq (by simp)) (Slots.cons rfl (by first | exact .refl _ | exact .nilOwn _ _ | exact .nilSl _ | exact .ownSl _ _ _ | exact SV.le.of_eq (by simp)) (Slots.cons rfl (by first | exact .refl _ | exact .nilOwn _ _ | exact .nilSl _ | exact .ownSl _ _ _ | exact SV.le.of_eq (by simp)) (Slots.cons rfl (by first | exact .refl _ | exact .nilOwn _ _ | exact .nilSl _ | exact .ownSl _ _ _ | exact SV.le.of_eq (by simp)) (Slots.cons rfl (by first | exact .refl _ | exact .nilOwn _ _ | exact .nilSl _ | exact .ownSl _ _ _ | exact SV.le.of_eq (by simp)) Slots.nil)))))))), (by first | exact List.Sublist.refl _ | exact List.nil_sublist _ | exact .cons _ (.refl _) | exact .cons _ (.cons _ (.refl _)) | exact .cons _ (.cons _ (.cons _ (.refl _))) | exact .cons _ (.cons _ (.cons _ (.cons _ (.refl _)))) | exact .cons_cons _ (List.nil_sublist _))⟩ ⟨0, rfl, rfl, Nat.zero_le _⟩ ?_
      rintro nn0 _ ⟨k, rfl, rfl, hk⟩
      refine awp_seq ?_
      refine awp_seq ?_
      refine awp_region ?_
      refine r_move rfl rfl ?_
      refine r_move rfl rfl ?_
      first | (refine r_lenS rfl rfl T.sl23 rfl ?_) | (refine r_lenNil rfl T.sl23 rfl ?_)
      refine r_cmp rfl rfl rfl rfl ?_
      refine awl_nil ?_
      refine x_then ?_
      refine awp_cond rfl (fun hc4 => ?_) (fun hc4 => ?_)
      ·
        have hlt : k < nums.length := by have := of_decide_eq_true hc4; simpa using this
        obtain ⟨x, hx⟩ := get_lt hlt
        have e : ((nums.take (k + 1)).foldl (choiceOf (lookM l) not nm) ⟨nm, 0, false, []⟩) = choiceOf (lookM l) not nm ((nums.take k).foldl (choiceOf (lookM l) not nm) ⟨nm, 0, false, []⟩) x := fold_take hx
        refine awp_skip ?_
        refine x_then ?_
        refine awp_seq ?_
        refine awp_block ?_
        refine awp_seq ?_
        refine awp_region ?_
        refine r_move rfl rfl ?_
        refine r_move rfl rfl ?_
        refine r_move rfl rfl ?_
        refine r_index rfl rfl rfl T.sl23 T.sz30 (by omega) (get_map hx) rfl ?_
        first | (refine r_load1 rfl T.agg30 rfl ?_) | (refine r_load1b 0 rfl rfl rfl T.agg30 rfl ?_)
        refine r_call0 rfl rfl (.cons (.ev rfl rfl) (.cons (.ev rfl rfl) .nil)) (at_ok l x (by omega)) rfl T.en22 rfl (fun r hr => ?_)
        obtain rfl := hr
        refine r_assign rfl rfl ?_
        refine awl_nil ?_
        refine x_then ?_
        refine awp_seq ?_
        refine awp_seq ?_
        refine awp_region ?_
        refine r_move rfl rfl ?_
        refine r_cmp rfl rfl rfl rfl ?_
        refine r_move rfl rfl ?_
        refine g_cases (t' := 87) rfl (fun hg87 => ?_) (fun hg87 => ?_)
        ·
          have hkn := optI_none (of_decide_eq_true hg87)
          have hlk : lookM l x = none := look_none hkn
          rw [choiceOf, hlk] at e
          refine g_skip rfl rfl hg87 rfl ?_
          refine g_skip rfl rfl hg87 rfl ?_
          refine g_skip rfl rfl hg87 rfl ?_
          refine g_skip rfl rfl hg87 rfl ?_
          refine g_skip rfl rfl hg87 rfl ?_
          refine g_skip rfl rfl hg87 rfl ?_
          refine r_pickT rfl hg87 rfl rfl ?_
          refine awl_nil ?_
          refine x_then ?_
          refine awp_condT rfl ?_
          refine awp_exit ?_
          refine x_thenE ?_
          refine x_blockE ?_
          refine x_then ?_
          refine awp_region ?_
          refine r_move rfl rfl ?_
          refine r_ari _ rfl rfl rfl (wrap_id (by omega)) rfl ?_
          refine r_assign rfl rfl ?_
          refine awl_nil ?_
          refine x_then ?_
          refine ⟨nums.length - (k + 1), ⟨143, [(0, .a (momentsA l)), (1, .a (numsA nums)), (2, .a (u8A not)), (7, .a (strsA ns)), (11, .own 61 4 (((ns.take q).map fun nm => nums.foldl (choiceOf (lookM l) not nm) ⟨nm, 0, false, []⟩).map Choice.cs)), (12, .a (.v (.int .i64 ((q : Int))))), (13, .a (.v (.pointer (some ⟨b13, 0, none⟩)))), (14, .a (.v (.int .i64 (((k + 1) : Int)))))], [⟨b13, true, .box (Choice.cs ((nums.take (k + 1)).foldl (choiceOf (lookM l) not nm) ⟨nm, 0, false, []⟩))⟩]⟩, ⟨rfl, (Slots.cons rfl (by first | exact .refl _ | exact .nilOwn _ _ | exact .nilSl _ | exact .ownSl _ _ _ | exact SV.le.of_eq (by simp)) (Slots.cons rfl (by first | exact .refl _ | exact .nilOwn _ _ | exact .nilSl _ | exact .ownSl _ _ _ | exact SV.le.of_eq (by simp)) (Slots.cons rfl (by first | exact .refl _ | exact .nilOwn _ _ | exact .nilSl _ | exact .ownSl _ _ _ | exact SV.le.of_eq (by simp)) (Slots.cons rfl (by first | exact .refl _ | exact .nilOwn _ _ | exact .nilSl _ | exact .ownSl _ _ _ | exact SV.le.of_eq (by simp)) (Slots.cons rfl (by first | exact .refl _ | exact .nilOwn _ _ | exact .nilSl _ | exact .ownSl _ _ _ | exact SV.le.of_eq (by simp)) (Slots.cons rfl (by first | exact .refl _ | exact .nilOwn _ _ | exact .nilSl _ | exact .ownSl _ _ _ | exact SV.le.of_eq (by simp)) (Slots.cons rfl (by first | exact .refl _ | exact .nilOwn _ _ | exact .nilSl _ | exact .ownSl _ _ _ | exact SV.le.of_eq (by simp)) (Slots.cons rfl (by first | exact .refl _ | exact .nilOwn _ _ | exact .nilSl _ | exact .ownSl _ _ _ | exact SV.le.of_eq (by simp)) Slots.nil)))))))), (by rw [e]; first | exact List.Sublist.refl _ | exact List.nil_sublist _ | exact .cons _ (.refl _) | exact .cons _ (.cons _ (.refl _)) | exact .cons _ (.cons _ (.cons _ (.refl _))) | exact .cons _ (.cons _ (.cons _ (.cons _ (.refl _)))) | exact .cons_cons _ (List.nil_sublist _))⟩, (by omega), ⟨k + 1, rfl, rfl, (by have := (List.getElem?_eq_some_iff.1 hx).1; omega)⟩⟩
        ·
          obtain ⟨kk, hkk⟩ := optI_some (Int.not_lt.1 (of_decide_eq_false hg87))
          obtain ⟨m, hm, _⟩ := fidx_get hkk
          have hmm := h.files m (List.mem_of_getElem? hm)
          refine g_run rfl rfl hg87 ?_
          refine r_move rfl rfl ?_
          refine g_run rfl rfl hg87 ?_
          refine r_move rfl rfl ?_
          refine g_run rfl rfl hg87 ?_
          refine r_index rfl rfl rfl T.sl22 T.sz57 (by rw [hkk]; simp [optI]) (by rw [hkk]; exact get_map hm) rfl ?_
          refine g_run rfl rfl hg87 ?_
          first | (refine r_fieldcp rfl T.f57_1 T.sz4 rfl ?_) | (refine r_fieldb rfl T.f57_1 T.sz4 rfl ?_)
          refine g_run rfl rfl hg87 ?_
          first | (refine r_load1 rfl T.agg4 rfl ?_) | (refine r_load1b 0 rfl rfl rfl T.agg4 rfl ?_)
          refine g_run rfl rfl hg87 ?_
          refine r_not rfl rfl ?_
          refine r_pickF rfl hg87 rfl rfl ?_
          refine awl_nil ?_
          refine x_then ?_
          refine awp_cond rfl (fun hc5 => ?_) (fun hc5 => ?_)
          ·
            have hlk : lookM l x = none := by rw [look_some hkk hm, show m.can = false by simpa using hc5]; rfl
            rw [choiceOf, hlk] at e
            refine awp_exit ?_
            refine x_thenE ?_
            refine x_blockE ?_
            refine x_then ?_
            refine awp_region ?_
            refine r_move rfl rfl ?_
            refine r_ari _ rfl rfl rfl (wrap_id (by omega)) rfl ?_
            refine r_assign rfl rfl ?_
            refine awl_nil ?_
            refine x_then ?_
            refine ⟨nums.length - (k + 1), ⟨143, [(0, .a (momentsA l)), (1, .a (numsA nums)), (2, .a (u8A not)), (7, .a (strsA ns)), (11, .own 61 4 (((ns.take q).map fun nm => nums.foldl (choiceOf (lookM l) not nm) ⟨nm, 0, false, []⟩).map Choice.cs)), (12, .a (.v (.int .i64 ((q : Int))))), (13, .a (.v (.pointer (some ⟨b13, 0, none⟩)))), (14, .a (.v (.int .i64 (((k + 1) : Int)))))], [⟨b13, true, .box (Choice.cs ((nums.take (k + 1)).foldl (choiceOf (lookM l) not nm) ⟨nm, 0, false, []⟩))⟩]⟩, ⟨rfl, (Slots.cons rfl (by first | exact .refl _ | exact .nilOwn _ _ | exact .nilSl _ | exact .ownSl _ _ _ | exact SV.le.of_eq (by simp)) (Slots.cons rfl (by first | exact .refl _ | exact .nilOwn _ _ | exact .nilSl _ | exact .ownSl _ _ _ | exact SV.le.of_eq (by simp)) (Slots.cons rfl (by first | exact .refl _ | exact .nilOwn _ _ | exact .nilSl _ | exact .ownSl _ _ _ | exact SV.le.of_eq (by simp)) (Slots.cons rfl (by first | exact .refl _ | exact .nilOwn _ _ | exact .nilSl _ | exact .ownSl _ _ _ | exact SV.le.of_eq (by simp)) (Slots.cons rfl (by first | exact .refl _ | exact .nilOwn _ _ | exact .nilSl _ | exact .ownSl _ _ _ | exact SV.le.of_eq (by simp)) (Slots.cons rfl (by first | exact .refl _ | exact .nilOwn _ _ | exact .nilSl _ | exact .ownSl _ _ _ | exact SV.le.of_eq (by simp)) (Slots.cons rfl (by first | exact .refl _ | exact .nilOwn _ _ | exact .nilSl _ | exact .ownSl _ _ _ | exact SV.le.of_eq (by simp)) (Slots.cons rfl (by first | exact .refl _ | exact .nilOwn _ _ | exact .nilSl _ | exact .ownSl _ _ _ | exact SV.le.of_eq (by simp)) Slots.nil)))))))), (by rw [e]; first | exact List.Sublist.refl _ | exact List.nil_sublist _ | exact .cons _ (.refl _) | exact .cons _ (.cons _ (.refl _)) | exact .cons _ (.cons _ (.cons _ (.refl _))) | exact .cons _ (.cons _ (.cons _ (.cons _ (.refl _)))) | exact .cons_cons _ (List.nil_sublist _))⟩, (by omega), ⟨k + 1, rfl, rfl, (by have := (List.getElem?_eq_some_iff.1 hx).1; omega)⟩⟩
          ·
            have hlk : lookM l x = some m.files := by rw [look_some hkk hm, show m.can = true by simpa using hc5]; rfl
            rw [choiceOf, hlk] at e
            refine awp_skip ?_
            refine x_then ?_
            refine awp_seq ?_
            refine awp_drawS [95, 96, 97, 98, 99, 100, 101, 102, 103] [_, _, _, _, _, _, _, _, _] [] [] T.mixed rfl rfl rfl ⟨⟨⟨⟨⟨⟨⟨⟨⟨trivial
              , ⟨_, rfl, fun sl hd hr ho => by
                  refine r_move (hr 0 _ rfl rfl rfl) rfl ?_
                  exact awl_nil ⟨rfl, post_put⟩⟩⟩
              , ⟨_, rfl, fun sl hd hr ho => by
                  refine r_move (hr 15 _ rfl rfl rfl) rfl ?_
                  exact awl_nil ⟨rfl, post_put⟩⟩⟩
              , ⟨_, rfl, fun sl hd hr ho => by
                  refine r_index (hd 0 _ rfl rfl rfl) rfl (hd 1 _ rfl rfl rfl) T.sl22 T.sz57 (by rw [hkk]; simp [optI]) (by rw [hkk]; exact get_map hm) rfl ?_
                  exact awl_nil ⟨rfl, post_put⟩⟩⟩
              , ⟨_, rfl, fun sl hd hr ho => by
                  first | (refine r_fieldcp (hd 2 _ rfl rfl rfl) T.f57_2 T.sz44 rfl ?_) | (refine r_fieldb (hd 2 _ rfl rfl rfl) T.f57_2 T.sz44 rfl ?_)
                  exact awl_nil ⟨rfl, post_put⟩⟩⟩
              , ⟨_, rfl, fun sl hd hr ho => by
                  first | (refine r_load1 (hd 3 _ rfl rfl rfl) T.agg44 rfl ?_) | (refine r_load1b 0 (hd 3 _ rfl rfl rfl) rfl rfl T.agg44 rfl ?_)
                  exact awl_nil ⟨rfl, post_put⟩⟩⟩
              , ⟨_, rfl, fun sl hd hr ho => by
                  refine r_move (hr 7 _ rfl rfl rfl) rfl ?_
                  exact awl_nil ⟨rfl, post_put⟩⟩⟩
              , ⟨_, rfl, fun sl hd hr ho => by
                  refine r_move (hr 12 _ rfl rfl rfl) rfl ?_
                  exact awl_nil ⟨rfl, post_put⟩⟩⟩
              , ⟨_, rfl, fun sl hd hr ho => by
                  refine r_index (hd 5 _ rfl rfl rfl) rfl (hd 6 _ rfl rfl rfl) T.sl46 T.sz9 (by omega) (get_map hnm) rfl ?_
                  exact awl_nil ⟨rfl, post_put⟩⟩⟩
              , ⟨_, rfl, fun sl hd hr ho => by
                  first | (refine r_load1 (hd 7 _ rfl rfl rfl) T.agg9 rfl ?_) | (refine r_load1b 0 (hd 7 _ rfl rfl rfl) rfl rfl T.agg9 rfl ?_)
                  exact awl_nil ⟨rfl, post_put⟩⟩⟩
              (by rfl) ?_
            refine r_call0 rfl rfl (.cons (.ev rfl rfl) (.cons (.ev rfl rfl) .nil)) (find_ok m.files nm (by have := hmm.1; omega)) rfl T.en35 rfl (fun r hr => ?_)
            obtain rfl := hr
            refine r_assign rfl rfl ?_
            refine awl_nil ?_
            refine x_then ?_
            refine awp_seq ?_
            refine awp_region ?_
            refine r_move rfl rfl ?_
            refine r_cmp rfl rfl rfl rfl ?_
            refine r_move rfl rfl ?_
            refine g_cases (t' := 107) rfl (fun hg107 => ?_) (fun hg107 => ?_)
            ·
              obtain ⟨jj, hjj⟩ := optI_some (of_decide_eq_true hg107)
              obtain ⟨f, hf, _⟩ := fidx_get hjj
              have hff := hmm.2 f (List.mem_of_getElem? hf)
              simp only [findF_some hjj hf] at e
              refine g_run rfl rfl hg107 ?_
              refine r_move rfl rfl ?_
              refine g_run rfl rfl hg107 ?_
              refine r_move rfl rfl ?_
              refine g_run rfl rfl hg107 ?_
              refine r_index rfl rfl rfl T.sl22 T.sz57 (by rw [hkk]; simp [optI]) (by rw [hkk]; exact get_map hm) rfl ?_
              refine g_run rfl rfl hg107 ?_
              first | (refine r_fieldcp rfl T.f57_2 T.sz44 rfl ?_) | (refine r_fieldb rfl T.f57_2 T.sz44 rfl ?_)
              refine g_run rfl rfl hg107 ?_
              first | (refine r_load1 rfl T.agg44 rfl ?_) | (refine r_load1b 0 rfl rfl rfl T.agg44 rfl ?_)
              refine g_run rfl rfl hg107 ?_
              refine r_move rfl rfl ?_
              refine g_run rfl rfl hg107 ?_
              refine r_index rfl rfl rfl T.sl44 T.sz51 (by rw [hjj]; simp [optI]) (by rw [hjj]; exact get_map hf) rfl ?_
              refine g_run rfl rfl hg107 ?_
              first | (refine r_fieldcp rfl T.f51_1 T.sz31 rfl ?_) | (refine r_fieldb rfl T.f51_1 T.sz31 rfl ?_)
              refine g_run rfl rfl hg107 ?_
              first | (refine r_load1 rfl T.agg31 rfl ?_) | (refine r_load1b 0 rfl rfl rfl T.agg31 rfl ?_)
              refine g_run rfl rfl hg107 ?_
              refine r_move rfl rfl ?_
              refine g_run rfl rfl hg107 ?_
              refine r_call0 rfl rfl (.cons (.ev rfl rfl) (.cons (.ev rfl rfl) .nil)) (whole_ok f.data not (by omega)) rfl T.en21 rfl (fun r hr => ?_)
              obtain rfl := hr
              refine r_pickT rfl hg107 rfl rfl ?_
              refine awl_nil ?_
              refine x_then ?_
              refine awp_cond rfl (fun hc6 => ?_) (fun hc6 => ?_)
              ·
                rw [hc6] at e
                refine awp_drawS [120, 121, 122, 123, 124, 125, 126, 127, 128, 129, 130, 131, 132, 133, 134, 135, 136] [_, _, _, _, _, _, _, _, _, _, _, _, _, _, _, _, _] [] [] T.mixed rfl rfl rfl ⟨⟨⟨⟨⟨⟨⟨⟨⟨⟨⟨⟨⟨⟨⟨⟨⟨trivial
                  , ⟨_, rfl, fun sl hd hr ho => by
                      refine r_move (hr 7 _ rfl rfl rfl) rfl ?_
                      exact awl_nil ⟨rfl, post_put⟩⟩⟩
                  , ⟨_, rfl, fun sl hd hr ho => by
                      refine r_move (hr 12 _ rfl rfl rfl) rfl ?_
                      exact awl_nil ⟨rfl, post_put⟩⟩⟩
                  , ⟨_, rfl, fun sl hd hr ho => by
                      refine r_index (hd 0 _ rfl rfl rfl) rfl (hd 1 _ rfl rfl rfl) T.sl46 T.sz9 (by omega) (get_map hnm) rfl ?_
                      exact awl_nil ⟨rfl, post_put⟩⟩⟩
                  , ⟨_, rfl, fun sl hd hr ho => by
                      first | (refine r_load1 (hd 2 _ rfl rfl rfl) T.agg9 rfl ?_) | (refine r_load1b 0 (hd 2 _ rfl rfl rfl) rfl rfl T.agg9 rfl ?_)
                      exact awl_nil ⟨rfl, post_put⟩⟩⟩
                  , ⟨_, rfl, fun sl hd hr ho => by
                      refine r_move (hr 1 _ rfl rfl rfl) rfl ?_
                      exact awl_nil ⟨rfl, post_put⟩⟩⟩
                  , ⟨_, rfl, fun sl hd hr ho => by
                      refine r_move (hr 14 _ rfl rfl rfl) rfl ?_
                      exact awl_nil ⟨rfl, post_put⟩⟩⟩
                  , ⟨_, rfl, fun sl hd hr ho => by
                      refine r_index (hd 4 _ rfl rfl rfl) rfl (hd 5 _ rfl rfl rfl) T.sl23 T.sz30 (by omega) (get_map hx) rfl ?_
                      exact awl_nil ⟨rfl, post_put⟩⟩⟩
                  , ⟨_, rfl, fun sl hd hr ho => by
                      first | (refine r_load1 (hd 6 _ rfl rfl rfl) T.agg30 rfl ?_) | (refine r_load1b 0 (hd 6 _ rfl rfl rfl) rfl rfl T.agg30 rfl ?_)
                      exact awl_nil ⟨rfl, post_put⟩⟩⟩
                  , ⟨_, rfl, fun sl hd hr ho => by
                      refine r_move (hr 0 _ rfl rfl rfl) rfl ?_
                      exact awl_nil ⟨rfl, post_put⟩⟩⟩
                  , ⟨_, rfl, fun sl hd hr ho => by
                      refine r_move (hr 15 _ rfl rfl rfl) rfl ?_
                      exact awl_nil ⟨rfl, post_put⟩⟩⟩
                  , ⟨_, rfl, fun sl hd hr ho => by
                      refine r_index (hd 8 _ rfl rfl rfl) rfl (hd 9 _ rfl rfl rfl) T.sl22 T.sz57 (by rw [hkk]; simp [optI]) (by rw [hkk]; exact get_map hm) rfl ?_
                      exact awl_nil ⟨rfl, post_put⟩⟩⟩
                  , ⟨_, rfl, fun sl hd hr ho => by
                      first | (refine r_fieldcp (hd 10 _ rfl rfl rfl) T.f57_2 T.sz44 rfl ?_) | (refine r_fieldb (hd 10 _ rfl rfl rfl) T.f57_2 T.sz44 rfl ?_)
                      exact awl_nil ⟨rfl, post_put⟩⟩⟩
                  , ⟨_, rfl, fun sl hd hr ho => by
                      first | (refine r_load1 (hd 11 _ rfl rfl rfl) T.agg44 rfl ?_) | (refine r_load1b 0 (hd 11 _ rfl rfl rfl) rfl rfl T.agg44 rfl ?_)
                      exact awl_nil ⟨rfl, post_put⟩⟩⟩
                  , ⟨_, rfl, fun sl hd hr ho => by
                      refine r_move (hr 16 _ rfl rfl rfl) rfl ?_
                      exact awl_nil ⟨rfl, post_put⟩⟩⟩
                  , ⟨_, rfl, fun sl hd hr ho => by
                      refine r_index (hd 12 _ rfl rfl rfl) rfl (hd 13 _ rfl rfl rfl) T.sl44 T.sz51 (by rw [hjj]; simp [optI]) (by rw [hjj]; exact get_map hf) rfl ?_
                      exact awl_nil ⟨rfl, post_put⟩⟩⟩
                  , ⟨_, rfl, fun sl hd hr ho => by
                      first | (refine r_fieldcp (hd 14 _ rfl rfl rfl) T.f51_1 T.sz31 rfl ?_) | (refine r_fieldb (hd 14 _ rfl rfl rfl) T.f51_1 T.sz31 rfl ?_)
                      exact awl_nil ⟨rfl, post_put⟩⟩⟩
                  , ⟨_, rfl, fun sl hd hr ho => by
                      first | (refine r_load1 (hd 15 _ rfl rfl rfl) T.agg31 rfl ?_) | (refine r_load1b 0 (hd 15 _ rfl rfl rfl) rfl rfl T.agg31 rfl ?_)
                      exact awl_nil ⟨rfl, post_put⟩⟩⟩
                  (by rfl) ?_
                refine r_build (parts := [(0, .tmp 123), (1, .tmp 127), (2, .const ((Go.Value.bool true))), (3, .tmp 136)]) rfl T.pl40 T.zero40 rfl rfl rfl ?_
                refine r_store 0 rfl rfl rfl T.sz40 rfl rfl rfl ?_
                refine awl_nil ?_
                refine x_block ?_
                refine x_then ?_
                refine awp_region ?_
                refine r_move rfl rfl ?_
                refine r_ari _ rfl rfl rfl (wrap_id (by omega)) rfl ?_
                refine r_assign rfl rfl ?_
                refine awl_nil ?_
                refine x_then ?_
                refine ⟨nums.length - (k + 1), ⟨143, [(0, .a (momentsA l)), (1, .a (numsA nums)), (2, .a (u8A not)), (7, .a (strsA ns)), (11, .own 61 4 (((ns.take q).map fun nm => nums.foldl (choiceOf (lookM l) not nm) ⟨nm, 0, false, []⟩).map Choice.cs)), (12, .a (.v (.int .i64 ((q : Int))))), (13, .a (.v (.pointer (some ⟨b13, 0, none⟩)))), (14, .a (.v (.int .i64 (((k + 1) : Int)))))], [⟨b13, true, .box (Choice.cs ((nums.take (k + 1)).foldl (choiceOf (lookM l) not nm) ⟨nm, 0, false, []⟩))⟩]⟩, ⟨rfl, (Slots.cons rfl (by first | exact .refl _ | exact .nilOwn _ _ | exact .nilSl _ | exact .ownSl _ _ _ | exact SV.le.of_eq (by simp)) (Slots.cons rfl (by first | exact .refl _ | exact .nilOwn _ _ | exact .nilSl _ | exact .ownSl _ _ _ | exact SV.le.of_eq (by simp)) (Slots.cons rfl (by first | exact .refl _ | exact .nilOwn _ _ | exact .nilSl _ | exact .ownSl _ _ _ | exact SV.le.of_eq (by simp)) (Slots.cons rfl (by first | exact .refl _ | exact .nilOwn _ _ | exact .nilSl _ | exact .ownSl _ _ _ | exact SV.le.of_eq (by simp)) (Slots.cons rfl (by first | exact .refl _ | exact .nilOwn _ _ | exact .nilSl _ | exact .ownSl _ _ _ | exact SV.le.of_eq (by simp)) (Slots.cons rfl (by first | exact .refl _ | exact .nilOwn _ _ | exact .nilSl _ | exact .ownSl _ _ _ | exact SV.le.of_eq (by simp)) (Slots.cons rfl (by first | exact .refl _ | exact .nilOwn _ _ | exact .nilSl _ | exact .ownSl _ _ _ | exact SV.le.of_eq (by simp)) (Slots.cons rfl (by first | exact .refl _ | exact .nilOwn _ _ | exact .nilSl _ | exact .ownSl _ _ _ | exact SV.le.of_eq (by simp)) Slots.nil)))))))), (by rw [e]; first | exact List.Sublist.refl _ | exact List.nil_sublist _ | exact .cons _ (.refl _) | exact .cons _ (.cons _ (.refl _)) | exact .cons _ (.cons _ (.cons _ (.refl _))) | exact .cons _ (.cons _ (.cons _ (.cons _ (.refl _)))) | exact .cons_cons _ (List.nil_sublist _))⟩, (by omega), ⟨k + 1, rfl, rfl, (by have := (List.getElem?_eq_some_iff.1 hx).1; omega)⟩⟩
              ·
                rw [hc6] at e
                refine awp_skip ?_
                refine x_block ?_
                refine x_then ?_
                refine awp_region ?_
                refine r_move rfl rfl ?_
                refine r_ari _ rfl rfl rfl (wrap_id (by omega)) rfl ?_
                refine r_assign rfl rfl ?_
                refine awl_nil ?_
                refine x_then ?_
                refine ⟨nums.length - (k + 1), ⟨143, [(0, .a (momentsA l)), (1, .a (numsA nums)), (2, .a (u8A not)), (7, .a (strsA ns)), (11, .own 61 4 (((ns.take q).map fun nm => nums.foldl (choiceOf (lookM l) not nm) ⟨nm, 0, false, []⟩).map Choice.cs)), (12, .a (.v (.int .i64 ((q : Int))))), (13, .a (.v (.pointer (some ⟨b13, 0, none⟩)))), (14, .a (.v (.int .i64 (((k + 1) : Int)))))], [⟨b13, true, .box (Choice.cs ((nums.take (k + 1)).foldl (choiceOf (lookM l) not nm) ⟨nm, 0, false, []⟩))⟩]⟩, ⟨rfl, (Slots.cons rfl (by first | exact .refl _ | exact .nilOwn _ _ | exact .nilSl _ | exact .ownSl _ _ _ | exact SV.le.of_eq (by simp)) (Slots.cons rfl (by first | exact .refl _ | exact .nilOwn _ _ | exact .nilSl _ | exact .ownSl _ _ _ | exact SV.le.of_eq (by simp)) (Slots.cons rfl (by first | exact .refl _ | exact .nilOwn _ _ | exact .nilSl _ | exact .ownSl _ _ _ | exact SV.le.of_eq (by simp)) (Slots.cons rfl (by first | exact .refl _ | exact .nilOwn _ _ | exact .nilSl _ | exact .ownSl _ _ _ | exact SV.le.of_eq (by simp)) (Slots.cons rfl (by first | exact .refl _ | exact .nilOwn _ _ | exact .nilSl _ | exact .ownSl _ _ _ | exact SV.le.of_eq (by simp)) (Slots.cons rfl (by first | exact .refl _ | exact .nilOwn _ _ | exact .nilSl _ | exact .ownSl _ _ _ | exact SV.le.of_eq (by simp)) (Slots.cons rfl (by first | exact .refl _ | exact .nilOwn _ _ | exact .nilSl _ | exact .ownSl _ _ _ | exact SV.le.of_eq (by simp)) (Slots.cons rfl (by first | exact .refl _ | exact .nilOwn _ _ | exact .nilSl _ | exact .ownSl _ _ _ | exact SV.le.of_eq (by simp)) Slots.nil)))))))), (by rw [e]; first | exact List.Sublist.refl _ | exact List.nil_sublist _ | exact .cons _ (.refl _) | exact .cons _ (.cons _ (.refl _)) | exact .cons _ (.cons _ (.cons _ (.refl _))) | exact .cons _ (.cons _ (.cons _ (.cons _ (.refl _)))) | exact .cons_cons _ (List.nil_sublist _))⟩, (by omega), ⟨k + 1, rfl, rfl, (by have := (List.getElem?_eq_some_iff.1 hx).1; omega)⟩⟩
            ·
              have hjn := optI_none (Int.not_le.1 (of_decide_eq_false hg107))
              simp only [findF_none hjn] at e
              refine g_skip rfl rfl hg107 rfl ?_
              refine g_skip rfl rfl hg107 rfl ?_
              refine g_skip rfl rfl hg107 rfl ?_
              refine g_skip rfl rfl hg107 rfl ?_
              refine g_skip rfl rfl hg107 rfl ?_
              refine g_skip rfl rfl hg107 rfl ?_
              refine g_skip rfl rfl hg107 rfl ?_
              refine g_skip rfl rfl hg107 rfl ?_
              refine g_skip rfl rfl hg107 rfl ?_
              refine g_skip rfl rfl hg107 rfl ?_
              refine g_skip rfl rfl hg107 rfl ?_
              refine r_pickF rfl hg107 rfl rfl ?_
              refine awl_nil ?_
              refine x_then ?_
              refine awp_condF rfl ?_
              refine awp_skip ?_
              refine x_block ?_
              refine x_then ?_
              refine awp_region ?_
              refine r_move rfl rfl ?_
              refine r_ari _ rfl rfl rfl (wrap_id (by omega)) rfl ?_
              refine r_assign rfl rfl ?_
              refine awl_nil ?_
              refine x_then ?_
              refine ⟨nums.length - (k + 1), ⟨143, [(0, .a (momentsA l)), (1, .a (numsA nums)), (2, .a (u8A not)), (7, .a (strsA ns)), (11, .own 61 4 (((ns.take q).map fun nm => nums.foldl (choiceOf (lookM l) not nm) ⟨nm, 0, false, []⟩).map Choice.cs)), (12, .a (.v (.int .i64 ((q : Int))))), (13, .a (.v (.pointer (some ⟨b13, 0, none⟩)))), (14, .a (.v (.int .i64 (((k + 1) : Int)))))], [⟨b13, true, .box (Choice.cs ((nums.take (k + 1)).foldl (choiceOf (lookM l) not nm) ⟨nm, 0, false, []⟩))⟩]⟩, ⟨rfl, (Slots.cons rfl (by first | exact .refl _ | exact .nilOwn _ _ | exact .nilSl _ | exact .ownSl _ _ _ | exact SV.le.of_eq (by simp)) (Slots.cons rfl (by first | exact .refl _ | exact .nilOwn _ _ | exact .nilSl _ | exact .ownSl _ _ _ | exact SV.le.of_eq (by simp)) (Slots.cons rfl (by first | exact .refl _ | exact .nilOwn _ _ | exact .nilSl _ | exact .ownSl _ _ _ | exact SV.le.of_eq (by simp)) (Slots.cons rfl (by first | exact .refl _ | exact .nilOwn _ _ | exact .nilSl _ | exact .ownSl _ _ _ | exact SV.le.of_eq (by simp)) (Slots.cons rfl (by first | exact .refl _ | exact .nilOwn _ _ | exact .nilSl _ | exact .ownSl _ _ _ | exact SV.le.of_eq (by simp)) (Slots.cons rfl (by first | exact .refl _ | exact .nilOwn _ _ | exact .nilSl _ | exact .ownSl _ _ _ | exact SV.le.of_eq (by simp)) (Slots.cons rfl (by first | exact .refl _ | exact .nilOwn _ _ | exact .nilSl _ | exact .ownSl _ _ _ | exact SV.le.of_eq (by simp)) (Slots.cons rfl (by first | exact .refl _ | exact .nilOwn _ _ | exact .nilSl _ | exact .ownSl _ _ _ | exact SV.le.of_eq (by simp)) Slots.nil)))))))), (by rw [e]; first | exact List.Sublist.refl _ | exact List.nil_sublist _ | exact .cons _ (.refl _) | exact .cons _ (.cons _ (.refl _)) | exact .cons _ (.cons _ (.cons _ (.refl _))) | exact .cons _ (.cons _ (.cons _ (.cons _ (.refl _)))) | exact .cons_cons _ (List.nil_sublist _))⟩, (by omega), ⟨k + 1, rfl, rfl, (by have := (List.getElem?_eq_some_iff.1 hx).1; omega)⟩⟩
      ·
        have hge : nums.length ≤ k := by have := of_decide_eq_false hc4; simp at this; omega
        have hkl : nums.take k = nums := List.take_of_length_le hge
        rw [hkl]
        refine awp_exit ?_
        refine x_thenE ?_
        refine x_thenE ?_
        refine x_blockE ?_
        refine x_then ?_
        refine awp_region ?_
        refine r_move rfl rfl ?_
        first | (refine r_loadA rfl T.agg40 T.sz40 rfl rfl ?_) | (refine r_loadAb 0 rfl rfl T.agg40 T.sz40 rfl rfl ?_)
        refine r_lit 140 (parts := [(0, .tmp 139)]) rfl T.sl34 T.sz40 T.zraw40 rfl rfl rfl rfl rfl rfl rfl ?_
        refine r_append 61 rfl (by first | exact .own _ | exact .nil) rfl (by first | exact .sl _ | exact .own _ _ | exact .nil) T.sl34 T.sz40 (by decide) T.by40 T.zlen40 (by simp [chunks] <;> omega) (by simp [chunks] <;> omega) rfl ?_
        refine r_assign rfl rfl ?_
        refine awl_nil ?_
        refine x_block ?_
        refine x_then ?_
        refine awp_region ?_
        refine r_move rfl rfl ?_
        refine r_ari _ rfl rfl rfl (wrap_id (by omega)) rfl ?_
        refine r_assign rfl rfl ?_
        refine awl_nil ?_
        refine x_then ?_
        refine ⟨ns.length - (q + 1), ⟨143, [(0, .a (momentsA l)), (1, .a (numsA nums)), (2, .a (u8A not)), (7, .a (strsA ns)), (11, .own 61 4 (((ns.take (q + 1)).map fun nm => nums.foldl (choiceOf (lookM l) not nm) ⟨nm, 0, false, []⟩).map Choice.cs)), (12, .a (.v (.int .i64 (((q + 1) : Int)))))], []⟩, ⟨rfl, (Slots.cons rfl (by first | exact .refl _ | exact .nilOwn _ _ | exact .nilSl _ | exact .ownSl _ _ _ | exact SV.le.of_eq (by rw [e3] <;> rfl)) (Slots.cons rfl (by first | exact .refl _ | exact .nilOwn _ _ | exact .nilSl _ | exact .ownSl _ _ _ | exact SV.le.of_eq (by rw [e3] <;> rfl)) (Slots.cons rfl (by first | exact .refl _ | exact .nilOwn _ _ | exact .nilSl _ | exact .ownSl _ _ _ | exact SV.le.of_eq (by rw [e3] <;> rfl)) (Slots.cons rfl (by first | exact .refl _ | exact .nilOwn _ _ | exact .nilSl _ | exact .ownSl _ _ _ | exact SV.le.of_eq (by rw [e3] <;> rfl)) (Slots.cons rfl (by first | exact .refl _ | exact .nilOwn _ _ | exact .nilSl _ | exact .ownSl _ _ _ | exact SV.le.of_eq (by rw [e3] <;> rfl)) (Slots.cons rfl (by first | exact .refl _ | exact .nilOwn _ _ | exact .nilSl _ | exact .ownSl _ _ _ | exact SV.le.of_eq (by rw [e3] <;> rfl)) Slots.nil)))))), (by first | exact List.Sublist.refl _ | exact List.nil_sublist _ | exact .cons _ (.refl _) | exact .cons _ (.cons _ (.refl _)) | exact .cons _ (.cons _ (.cons _ (.refl _))) | exact .cons _ (.cons _ (.cons _ (.cons _ (.refl _)))) | exact .cons_cons _ (List.nil_sublist _))⟩, (by omega), ⟨q + 1, rfl, rfl, (by have := (List.getElem?_eq_some_iff.1 hnm).1; omega)⟩⟩
    ·
      have hgen : ns.length ≤ q := by have := of_decide_eq_false hc3; simp at this; omega
      have hnl : ns.take q = ns := List.take_of_length_le hgen
      refine awp_exit ?_
      refine x_thenE ?_
      refine x_thenE ?_
      refine x_blockE ?_
      refine x_then ?_
      refine awp_seq ?_
      refine awp_region ?_
      refine r_move rfl rfl ?_
      refine r_assign rfl rfl ?_
      refine awl_nil ?_
      refine x_then ?_
      refine awp_ret ?_
      exact ⟨(.inl rfl), _, [], (.one (by first | exact .mk rfl rfl | exact .nil rfl)), ⟨rfl, by rw [hnl, rplanOf, namesOf_eq, hns]; rfl⟩, (List.nil_sublist _), (by simp)⟩

end Go.Proofs.Ytpoacfbobalpkaa.A

/- Layer 63: what the events tell. -/
import Derived.Test.YtmbfmnhcahhciaaX63S
import Derived.Test.YtmbfmnhcahhciaaX62W
namespace Go.Proofs.Ytmbfmnhcahhciaa.A
open Go Go.RowKit Go.Maps Go.Sort
set_option linter.unusedVariables false
set_option linter.unusedSimpArgs false

abbrev AT := Int → List File × Bool
def evR (at_ : AT) : List File → List Int → List Ev
  | _, [] => []
  | was, m :: rest => cond (at_ m).2 ((OfF was (at_ m).1).map (Ev.mk m) ++ evR at_ (at_ m).1 rest) (evR at_ was rest)
def stR (at_ : AT) : List File → List Int → List File
  | was, [] => was
  | was, m :: rest => cond (at_ m).2 (stR at_ (at_ m).1 rest) (stR at_ was rest)
theorem tl_fold (at_ : AT) : ∀ (rest : List Int) (was : List File) (out : List Ev), rest.foldl (tlStep at_) (was, out) = (stR at_ was rest, out ++ evR at_ was rest)
  | [], was, out => by simp [stR, evR]
  | m :: rest, was, out => by
    rw [List.foldl_cons, tlStep]
    cases h : (at_ m).2 with
    | true => simp only [cond_true]; rw [tl_fold at_ rest, stR, evR, h]; simp
    | false => simp only [cond_false]; rw [tl_fold at_ rest, stR, evR, h]; simp
theorem tlG_eq (ms : List Int) (at_ : AT) : tlG ms at_ = (stR at_ [] ms, evR at_ [] ms) := by unfold tlG; rw [tl_fold]; simp
theorem evR_app (at_ : AT) : ∀ (a b : List Int) (was : List File), evR at_ was (a ++ b) = evR at_ was a ++ evR at_ (stR at_ was a) b
  | [], b, was => rfl
  | m :: a, b, was => by
    simp only [List.cons_append, evR, stR]
    cases h : (at_ m).2 with
    | true => simp only [cond_true]; rw [evR_app at_ a b, List.append_assoc]
    | false => simp only [cond_false]; rw [evR_app at_ a b]
theorem stR_app (at_ : AT) : ∀ (a b : List Int) (was : List File), stR at_ was (a ++ b) = stR at_ (stR at_ was a) b
  | [], b, was => rfl
  | m :: a, b, was => by
    simp only [List.cons_append, stR]
    cases h : (at_ m).2 <;> simp only [cond_true, cond_false] <;> exact stR_app at_ a b _
theorem evR_mem {at_ : AT} {e : Ev} : ∀ {rest : List Int} {was : List File}, e ∈ evR at_ was rest → e.moment ∈ rest
  | [], was, h => by simp [evR] at h
  | m :: rest, was, h => by
    rw [evR] at h
    cases hm : (at_ m).2 with
    | true =>
      rw [hm, cond_true, List.mem_append] at h
      rcases h with h | h
      · obtain ⟨c, _, rfl⟩ := List.mem_map.1 h; simp
      · exact List.mem_cons_of_mem _ (evR_mem h)
    | false => rw [hm, cond_false] at h; exact List.mem_cons_of_mem _ (evR_mem h)
/-- two tellers that tell the same of some moments -/
theorem evR_congr {at_ at' : AT} : ∀ {rest : List Int} {was : List File}, (∀ m ∈ rest, at_ m = at' m) → evR at_ was rest = evR at' was rest ∧ stR at_ was rest = stR at' was rest
  | [], was, h => ⟨rfl, rfl⟩
  | m :: rest, was, h => by
    simp only [evR, stR]
    rw [h m (by simp)]
    have ih := fun w => evR_congr (at_ := at_) (at' := at') (rest := rest) (was := w) (fun x hx => h x (by simp [hx]))
    rw [(ih _).1, (ih _).2, (ih was).1, (ih was).2]
    exact ⟨rfl, rfl⟩

/-! ### how many there are -/
def lets : List ByteArray := [nm 0, nm 1, nm 2, nm 3]
def InL (l : List File) : Prop := ∀ f ∈ l, f.name ∈ lets
theorem nm_in {i : Nat} (h : i < 4) : nm i ∈ lets := by
  match i, h with
  | 0, _ => simp [lets]
  | 1, _ => simp [lets]
  | 2, _ => simp [lets]
  | 3, _ => simp [lets]
theorem inD (d : Disk) : InL (filesD d) := fun f hf => by obtain ⟨i, hi, _, rfl⟩ := files_mem hf; exact nm_in hi
theorem nodup_sub {α : Type} [DecidableEq α] : ∀ {l l' : List α}, l.Nodup → (∀ x ∈ l, x ∈ l') → l.length ≤ l'.length
  | [], l', _, _ => by simp
  | x :: l, l', hn, hs => by
    rw [List.nodup_cons] at hn
    have hx := hs x (by simp)
    have := nodup_sub (l := l) (l' := l'.erase x) hn.2 (fun y hy => by
      have hne : y ≠ x := fun e => hn.1 (e ▸ hy)
      exact (List.mem_erase_of_ne hne).2 (hs y (by simp [hy])))
    have hp := List.length_erase_of_mem hx
    have h0 : 0 < l'.length := List.length_pos_of_mem hx
    simp; omega
theorem flat_len2 (d : List FC) : d.length ≤ (d.flatMap namesC).length := by
  induction d with
  | nil => simp
  | cons c d ih =>
    simp only [List.flatMap_cons, List.length_append, List.length_cons]
    have : 1 ≤ (namesC c).length := by unfold namesC; split <;> simp
    omega
theorem names_let {a : List File} (h : InL a) {s : ByteArray} (hs : s ∈ namesF a) : s ∈ lets := by
  obtain ⟨f, hf, rfl⟩ := name_file hs; exact h f hf
theorem of_names {a b : List File} (ha : InL a) (hb : InL b) : ∀ s ∈ (OfF a b).flatMap namesC, s ∈ lets := fun s hs => by
  obtain ⟨c, hc, hsc⟩ := List.mem_flatMap.1 hs
  have hw : ∀ {a b : List File} {t : ByteArray}, InL a → t ∈ wentF a b → t ∈ lets := fun h ht => names_let h (names_in.2 (went_in.1 ht).1)
  unfold namesC at hsc
  rcases of_mem hc with ⟨k, _, h3, h4⟩ | ⟨k, _, _, h4⟩ | ⟨k, _, h3, _⟩ | ⟨k, _, h3, _⟩
  · rw [if_pos k] at hsc
    simp at hsc
    rcases hsc with rfl | rfl
    · exact hw ha h3
    · exact hw hb h4
  · rw [if_neg (by rw [k]; decide)] at hsc; simp at hsc; subst hsc; exact hw ha h4
  · rw [if_neg (by rw [k]; decide)] at hsc; simp at hsc; subst hsc; exact names_let ha h3
  · rw [if_neg (by rw [k]; decide)] at hsc; simp at hsc; subst hsc; exact hw hb h3
theorem right_nodup {d : List FC} (h : rightF d = true) : (d.flatMap namesC).Nodup := by
  unfold rightF at h
  rw [Bool.and_eq_true] at h
  exact of_decide_eq_true h.2
theorem of_len4 {a b : List File} (ha : InL a) (hb : InL b) : (OfF a b).length ≤ 4 := by
  have h1 := flat_len2 (OfF a b)
  have h2 := nodup_sub (right_nodup (right_of a b)) (of_names ha hb)
  have : lets.length = 4 := rfl
  omega
theorem inL_nil : InL [] := fun f hf => by simp at hf
theorem evR_len {at_ : AT} (hg : ∀ m, InL (at_ m).1) : ∀ (rest : List Int) (was : List File), InL was → (evR at_ was rest).length ≤ 4 * rest.length
  | [], was, h => by simp [evR]
  | m :: rest, was, h => by
    rw [evR]
    cases (at_ m).2 with
    | true =>
      have := evR_len hg rest (at_ m).1 (hg m)
      have := of_len4 h (hg m)
      simp only [cond_true, List.length_append, List.length_map, List.length_cons]; omega
    | false =>
      have := evR_len hg rest was h
      simp only [cond_false, List.length_cons]; omega
theorem in_at (ms : List Int) (ds : List Disk) (m : Int) : InL (atF ms ds m).1 := by
  unfold atF
  split
  · exact inD _
  · exact inL_nil
theorem tlF_len (ns : List Int) (ms : List Int) (ds : List Disk) : (tlF ns (atF ms ds)).length ≤ 4 * ns.length := by
  unfold tlF
  cases riseF ns with
  | false => simp
  | true => rw [cond_true, tlG_eq]; exact evR_len (in_at ms ds) ns [] inL_nil

/-! ### moments that rise -/
theorem rise_pw {ms : List Int} (h : riseF ms = true) : ms.Pairwise (· < ·) := of_decide_eq_true h
theorem at_idx {ms : List Int} {ds : List Disk} {i : Nat} {m : Int} {d : Disk} (h : ms.Pairwise (· < ·)) (hm : ms[i]? = some m) (hd : ds[i]? = some d) : atF ms ds m = (filesD d, d.told) := by
  have hz : (ms.zip ds)[i]? = some (m, d) := by rw [List.getElem?_zip_eq_some]; exact ⟨hm, hd⟩
  have : (ms.zip ds).find? (fun p => p.1 == m) = some (m, d) := by
    rw [List.find?_eq_some_iff_getElem]
    obtain ⟨hi, hz'⟩ := List.getElem?_eq_some_iff.1 hz
    refine ⟨by simp, i, hi, hz', fun j hj => ?_⟩
    have hjz : j < (ms.zip ds).length := by omega
    have hjm : j < ms.length := by simp at hjz; omega
    obtain ⟨him, rfl⟩ := List.getElem?_eq_some_iff.1 hm
    have := List.pairwise_iff_getElem.1 h j i hjm him hj
    simp [List.getElem_zip]; omega
  unfold atF; rw [this]
theorem at_past {ms : List Int} {ds : List Disk} {i : Nat} {m : Int} (h : ms.Pairwise (· < ·)) (hm : ms[i]? = some m) (hd : ds.length ≤ i) : atF ms ds m = ([], false) := by
  unfold atF
  rw [List.find?_eq_none.2 (fun p hp => ?_)]
  obtain ⟨j, hj⟩ := List.getElem?_of_mem hp
  obtain ⟨h1, h2⟩ := List.getElem?_zip_eq_some.1 hj
  have hjd := (List.getElem?_eq_some_iff.1 h2).1
  obtain ⟨him, rfl⟩ := List.getElem?_eq_some_iff.1 hm
  obtain ⟨hjm, hjp⟩ := List.getElem?_eq_some_iff.1 h1
  have := List.pairwise_iff_getElem.1 h j i hjm him (by omega)
  rw [← hjp]; simp; omega

/-! ### files in the order of names -/
def CleanL (l : List File) : Prop := cleanS l = l
theorem sorted_nil : CleanL [] := rfl
theorem clean_sorted : ∀ {l : List File}, SortedS (l.map (·.name)) → CleanL l := by
  intro l h
  have hn : namesF l = l.map (·.name) := sortedS_ext (names_ok l) h (fun x => by
    rw [show (x ∈ namesF l ↔ _) from namesF_mem x l []]
    simp)
  unfold CleanL
  rw [clean_map, hn, List.map_map]
  apply List.ext_getElem?
  intro i
  rw [List.getElem?_map]
  cases hx : l[i]? with
  | none => rfl
  | some f =>
    simp only [Option.map_some, Function.comp, fA]
    have hl : lookF l f.name = some f.data := by
      have hnd : (l.map (·.name)).Nodup := sorted_nd h
      obtain ⟨p1, _⟩ := parts hx hnd
      rw [p1, if_pos rfl]
    rw [hl]; rfl
theorem nm_lt {i j : Nat} (hij : i < j) (hj : j < 4) : ltS (nm i) (nm j) = true := by
  have h : ∀ a : Fin 4, ∀ b : Fin 4, a < b → ltS (nm a) (nm b) = true := by
    intro a b hab
    match a, b, hab with
    | 0, 1, _ => rfl
    | 0, 2, _ => rfl
    | 0, 3, _ => rfl
    | 1, 2, _ => rfl
    | 1, 3, _ => rfl
    | 2, 3, _ => rfl
    | 0, 0, h => exact absurd h (by decide)
    | 1, 0, h => exact absurd h (by decide)
    | 1, 1, h => exact absurd h (by decide)
    | 2, 0, h => exact absurd h (by decide)
    | 2, 1, h => exact absurd h (by decide)
    | 2, 2, h => exact absurd h (by decide)
    | 3, 0, h => exact absurd h (by decide)
    | 3, 1, h => exact absurd h (by decide)
    | 3, 2, h => exact absurd h (by decide)
    | 3, 3, h => exact absurd h (by decide)
  exact h ⟨i, by omega⟩ ⟨j, hj⟩ hij
theorem files_sorted (d : Disk) : SortedS ((filesD d).map (·.name)) := by
  unfold filesD SortedS
  rw [List.pairwise_map, List.pairwise_filterMap]
  refine List.Pairwise.imp_of_mem ?_ List.pairwise_lt_range
  intro i j hi hj hij f hf g hg
  rw [List.mem_range] at hj
  unfold fileD at hf hg
  split at hf <;> cases hf
  split at hg <;> cases hg
  exact nm_lt hij hj
theorem clean_D (d : Disk) : CleanL (filesD d) := clean_sorted (files_sorted d)
theorem clean_at (ms : List Int) (ds : List Disk) (m : Int) : CleanL (atF ms ds m).1 := by
  unfold atF
  split
  · exact clean_D _
  · exact sorted_nil
theorem clean_eq {a b : List File} (ha : CleanL a) (hb : CleanL b) (h : ∀ s, lookF a s = lookF b s) : a = b := by
  rw [← ha, ← hb]
  unfold cleanS
  rw [names_ext h]
  exact List.map_congr_left fun s _ => by rw [h]
theorem of_nil_eq {a b : List File} (ha : CleanL a) (hb : CleanL b) (h : OfF a b = []) : a = b := by
  refine clean_eq ha hb fun s => ?_
  obtain ⟨m, h1, h2, h3⟩ := apply_of a b (tells_first a).nd (tells_first a).get
  rw [h] at h1
  cases h1
  rw [← h3 s, (tells_first a).get]

/-! ### At -/
def runF : List Ev → Nat
  | [] => 0
  | e :: r => 1 + (r.takeWhile (fun x => x.moment == e.moment)).length
def atLoop : Nat → List File → List Ev → Int → Int × List File
  | 0, fs, _, _ => (0, fs)
  | n + 1, fs, l, mo =>
    match l with
    | [] => (0, fs)
    | e :: r =>
      if e.moment ≤ mo then
        (if (applyM (firstM fs) (((e :: r).take (runF (e :: r))).map (·.ch))).1 = 0 then atLoop n (filesM (applyM (firstM fs) (((e :: r).take (runF (e :: r))).map (·.ch))).2) ((e :: r).drop (runF (e :: r))) mo
          else ((applyM (firstM fs) (((e :: r).take (runF (e :: r))).map (·.ch))).1, []))
      else (0, fs)
def sortedE (l : List Ev) : Bool := decide (l.Pairwise (fun a b => a.moment ≤ b.moment))
def AtF (l : List Ev) (mo : Int) : Int × List File := if sortedE l = true then atLoop l.length [] l mo else (15, [])
theorem runF_cons (e : Ev) (r : List Ev) : runF (e :: r) = 1 + (r.takeWhile (fun x => x.moment == e.moment)).length := rfl
theorem run_pos {e : Ev} {r : List Ev} : 0 < runF (e :: r) := by simp [runF]; omega
theorem tw_at {α : Type} {p : α → Bool} : ∀ {r : List α} {i : Nat} {x : α}, r[i]? = some x → i ≤ (r.takeWhile p).length → p x = decide (i < (r.takeWhile p).length)
  | [], i, x, h, _ => by simp at h
  | y :: r, 0, x, h, _ => by
    simp at h; subst h
    cases hp : p y <;> simp [List.takeWhile_cons, hp]
  | y :: r, i + 1, x, h, hi => by
    cases hp : p y with
    | false => simp [List.takeWhile_cons, hp] at hi
    | true =>
      simp only [List.takeWhile_cons, hp, if_true, List.length_cons] at hi ⊢
      rw [tw_at (p := p) (by simpa using h) (by omega)]
      exact decide_eq_decide.2 (by omega)
theorem tw_len {α : Type} (p : α → Bool) (r : List α) : (r.takeWhile p).length ≤ r.length := (List.takeWhile_sublist p).length_le
theorem run_len (l : List Ev) : runF l ≤ l.length := by
  cases l with
  | nil => simp [runF]
  | cons e r => have := tw_len (fun x : Ev => x.moment == e.moment) r; simp [runF]; omega
theorem run_at {e x : Ev} {r : List Ev} {n : Nat} (hx : (e :: r)[n]? = some x) (h1 : 0 < n) (h2 : n ≤ runF (e :: r)) : (x.moment == e.moment) = decide (n < runF (e :: r)) := by
  obtain ⟨i, rfl⟩ : ∃ i, n = i + 1 := ⟨n - 1, by omega⟩
  rw [runF_cons] at h2 ⊢
  rw [tw_at (p := fun x : Ev => x.moment == e.moment) (r := r) (i := i) (x := x) (by simpa using hx) (by omega)]
  exact decide_eq_decide.2 (by omega)
theorem atLoop_fuel : ∀ (n k : Nat) (fs : List File) (l : List Ev) (mo : Int), l.length ≤ n → l.length ≤ k → atLoop n fs l mo = atLoop k fs l mo
  | 0, 0, _, _, _, _, _ => rfl
  | 0, k + 1, fs, l, mo, h, _ => by obtain rfl := List.eq_nil_of_length_eq_zero (by omega : l.length = 0); rfl
  | n + 1, 0, fs, l, mo, _, h => by obtain rfl := List.eq_nil_of_length_eq_zero (by omega : l.length = 0); rfl
  | n + 1, k + 1, fs, [], mo, _, _ => rfl
  | n + 1, k + 1, fs, e :: r, mo, h, h' => by
    have hp := run_pos (e := e) (r := r)
    simp only [atLoop]
    split
    · split
      · exact atLoop_fuel n k _ _ mo (by simp at h ⊢; omega) (by simp at h' ⊢; omega)
      · rfl
    · rfl
theorem at_done {fs : List File} {l : List Ev} {mo : Int} (h : ∀ e r, l = e :: r → ¬ e.moment ≤ mo) : atLoop l.length fs l mo = (0, fs) := by
  cases l with
  | nil => rfl
  | cons e r => simp only [List.length_cons, atLoop]; rw [if_neg (h e r rfl)]
theorem at_ok1 {fs : List File} {e : Ev} {r : List Ev} {mo : Int} {m : SM} (h : e.moment ≤ mo) (ha : applyM (firstM fs) (((e :: r).take (runF (e :: r))).map (·.ch)) = (0, m)) :
    atLoop (e :: r).length fs (e :: r) mo = atLoop ((e :: r).drop (runF (e :: r))).length (filesM m) ((e :: r).drop (runF (e :: r))) mo := by
  have hp := run_pos (e := e) (r := r)
  simp only [List.length_cons, atLoop]
  rw [if_pos h, ha, if_pos rfl]
  exact atLoop_fuel _ _ _ _ _ (by simp; omega) (by simp)
theorem at_bad1 {fs : List File} {e : Ev} {r : List Ev} {mo k : Int} {m : SM} (h : e.moment ≤ mo) (ha : applyM (firstM fs) (((e :: r).take (runF (e :: r))).map (·.ch)) = (k, m)) (hk : ¬ k = 0) :
    atLoop (e :: r).length fs (e :: r) mo = (k, []) := by
  simp only [List.length_cons, atLoop]
  rw [if_pos h, ha, if_neg hk]
def lastR (at_ : AT) (mo : Int) : List File → List Int → List File
  | was, [] => was
  | was, m :: rest => cond ((at_ m).2 && decide (m ≤ mo)) (lastR at_ mo (at_ m).1 rest) (lastR at_ mo was rest)
theorem last_past {at_ : AT} {mo : Int} : ∀ {rest : List Int} {was : List File}, (∀ m ∈ rest, mo < m) → lastR at_ mo was rest = was
  | [], was, h => rfl
  | m :: rest, was, h => by
    have h1 := h m (by simp)
    have : decide (m ≤ mo) = false := decide_eq_false (by omega)
    rw [lastR, this, Bool.and_false, cond_false]
    exact last_past (fun x hx => h x (by simp [hx]))
theorem last_snoc {at_ : AT} {mo : Int} {m : Int} : ∀ {a : List Int} {was : List File}, lastR at_ mo was (a ++ [m]) = cond ((at_ m).2 && decide (m ≤ mo)) (at_ m).1 (lastR at_ mo was a)
  | [], was => by simp only [List.nil_append, lastR]
  | x :: a, was => by
    simp only [List.cons_append, lastR]
    cases (at_ x).2 && decide (x ≤ mo) <;> simp only [cond_true, cond_false] <;> exact last_snoc
theorem run_group {m : Int} {d : List FC} {tl : List Ev} (hd : d ≠ []) (ht : ∀ e ∈ tl, ¬ e.moment = m) : runF (d.map (Ev.mk m) ++ tl) = d.length := by
  obtain ⟨c, d', rfl⟩ := List.exists_cons_of_ne_nil hd
  simp only [List.map_cons, List.cons_append, runF, List.length_cons]
  have : ((d'.map (Ev.mk m) ++ tl).takeWhile (fun x => x.moment == m)) = d'.map (Ev.mk m) := by
    clear hd
    induction d' with
    | nil =>
      cases tl with
      | nil => rfl
      | cons e tl => have := ht e (by simp); simp [List.takeWhile_cons, this]
    | cons c' d' ih => simp [List.takeWhile_cons, ih]
  rw [this]; simp; omega
theorem files_clean2 {a : List File} {m : SM} {b : List File} (hb : CleanL b) (h1 : (m.map (·.1)).Nodup) (h : ∀ s, mget m s = lookF b s) : filesM m = b := (files_clean h1 h).trans hb
/-- what became of them tells what they were -/
theorem at_evR {at_ : AT} (hc : ∀ m, CleanL (at_ m).1) (mo : Int) : ∀ (rest : List Int) (was : List File), CleanL was → rest.Pairwise (· < ·) → atLoop (evR at_ was rest).length was (evR at_ was rest) mo = (0, lastR at_ mo was rest)
  | [], was, _, _ => rfl
  | m :: rest, was, hw, hp => by
    rw [List.pairwise_cons] at hp
    rw [evR, lastR]
    cases ht : (at_ m).2 with
    | false => simp only [cond_false, Bool.false_and]; exact at_evR hc mo rest was hw hp.2
    | true =>
      simp only [cond_true, Bool.true_and]
      cases hd : OfF was (at_ m).1 with
      | nil =>
        have he := of_nil_eq hw (hc m) hd
        rw [List.map_nil, List.nil_append, ← he]
        rw [show cond (decide (m ≤ mo)) (lastR at_ mo was rest) (lastR at_ mo was rest) = lastR at_ mo was rest from by cases decide (m ≤ mo) <;> rfl]
        exact at_evR hc mo rest was hw hp.2
      | cons c d =>
        have htl : ∀ e ∈ evR at_ (at_ m).1 rest, ¬ e.moment = m := fun e he => by have := hp.1 _ (evR_mem he); omega
        have hrun := run_group (m := m) (d := c :: d) (tl := evR at_ (at_ m).1 rest) (by simp) htl
        by_cases hm : m ≤ mo
        · rw [decide_eq_true hm, cond_true]
          obtain ⟨m', h1, h2, h3⟩ := apply_of was (at_ m).1 (tells_first was).nd (tells_first was).get
          rw [hd] at h1
          simp only [List.map_cons, List.cons_append] at hrun ⊢
          have htk : ((((⟨m, c⟩ : Ev) :: (d.map (Ev.mk m) ++ evR at_ (at_ m).1 rest)).take (runF (⟨m, c⟩ :: (d.map (Ev.mk m) ++ evR at_ (at_ m).1 rest)))).map (·.ch)) = c :: d := by
            rw [hrun, List.length_cons, List.take_succ_cons, List.take_left' (by simp)]
            rw [List.map_cons, List.map_map, show ((fun x : Ev => x.ch) ∘ Ev.mk m) = id from rfl, List.map_id]
          have hdr : (((⟨m, c⟩ : Ev) :: (d.map (Ev.mk m) ++ evR at_ (at_ m).1 rest)).drop (runF (⟨m, c⟩ :: (d.map (Ev.mk m) ++ evR at_ (at_ m).1 rest)))) = evR at_ (at_ m).1 rest := by
            rw [hrun, List.length_cons, List.drop_succ_cons, List.drop_left' (by simp)]
          rw [at_ok1 (m := m') hm (by rw [htk]; exact h1), hdr, files_clean2 (a := was) (hc m) h2 h3]
          exact at_evR hc mo rest _ (hc m) hp.2
        · rw [decide_eq_false hm, cond_false, last_past (fun x hx => by have := hp.1 x hx; omega)]
          exact at_done (fun e r h => by simp only [List.map_cons, List.cons_append] at h; cases h; exact hm)
theorem sorted_evR {at_ : AT} : ∀ (rest : List Int) (was : List File), rest.Pairwise (· < ·) → (evR at_ was rest).Pairwise (fun a b => a.moment ≤ b.moment)
  | [], was, _ => List.Pairwise.nil
  | m :: rest, was, hp => by
    rw [List.pairwise_cons] at hp
    rw [evR]
    cases ht : (at_ m).2 with
    | false => exact sorted_evR rest was hp.2
    | true =>
      simp only [cond_true]
      rw [List.pairwise_append]
      refine ⟨?_, sorted_evR rest _ hp.2, fun x hx y hy => ?_⟩
      · rw [List.pairwise_map]; exact List.pairwise_of_forall (fun _ _ => Int.le_refl _)
      · obtain ⟨c, _, rfl⟩ := List.mem_map.1 hx
        have := hp.1 _ (evR_mem hy); simp only; omega
theorem AtF_tl {ms : List Int} {ds : List Disk} (h : riseF ms = true) (mo : Int) : AtF (tlF ms (atF ms ds)) mo = (0, lastR (atF ms ds) mo [] ms) := by
  have hp := rise_pw h
  unfold tlF
  rw [h, cond_true, tlG_eq]
  unfold AtF
  simp only
  rw [if_pos (show sortedE (evR (atF ms ds) [] ms) = true from decide_eq_true (sorted_evR ms [] hp))]
  exact at_evR (clean_at ms ds) mo ms [] sorted_nil hp
theorem at_congr : ∀ (n : Nat) (fs : List File) (l : List Ev) (a c : Int), (∀ e ∈ l, e.moment ≤ a ↔ e.moment ≤ c) → atLoop n fs l a = atLoop n fs l c
  | 0, _, _, _, _, _ => rfl
  | n + 1, fs, [], a, c, _ => rfl
  | n + 1, fs, e :: r, a, c, h => by
    simp only [atLoop]
    have he := h e (by simp)
    by_cases ha : e.moment ≤ a
    · rw [if_pos ha, if_pos (he.1 ha)]
      split
      · exact at_congr n _ _ a c (fun x hx => h x (List.mem_of_mem_drop hx))
      · rfl
    · rw [if_neg ha, if_neg (fun h' => ha (he.2 h'))]
theorem at_quiet {l : List Ev} {a c : Int} (hac : a ≤ c) (h : quietF l a c = true) : AtF l a = AtF l c := by
  unfold AtF
  split
  · refine at_congr _ _ _ _ _ fun e he => ?_
    unfold quietF at h
    rw [Bool.not_eq_true', List.any_eq_false] at h
    have := h e he
    simp at this
    constructor
    · omega
    · intro h1
      rcases Int.lt_or_le a e.moment with h2 | h2
      · have := this h2; omega
      · exact h2
  · rfl
theorem quiet_parts {l : List Ev} {a b c : Int} (h1 : a ≤ b) (h2 : b ≤ c) : quietF l a c = (quietF l a b && quietF l b c) := by
  unfold quietF
  rw [← Bool.not_or]
  congr 1
  induction l with
  | nil => rfl
  | cons e l ih =>
    simp only [List.any_cons]
    rw [ih]
    have : (decide (a < e.moment) && decide (e.moment ≤ c)) = ((decide (a < e.moment) && decide (e.moment ≤ b)) || (decide (b < e.moment) && decide (e.moment ≤ c))) := by
      rw [Bool.eq_iff_iff]; simp; omega
    rw [this]
    cases (decide (a < e.moment) && decide (e.moment ≤ b)) <;> cases (decide (b < e.moment) && decide (e.moment ≤ c)) <;> simp
theorem quiet_same (l : List Ev) (a : Int) : quietF l a a = true := by
  unfold quietF
  rw [Bool.not_eq_true', List.any_eq_false]
  intro e _
  simp
/-! ### At's files, bounded -/
def BndM (m : SM) : Prop := ∀ s d, mget m s = some d → s.size ≤ 1000000 ∧ d.length ≤ 1000000
def BndC (c : FC) : Prop := c.name.size ≤ 1000000 ∧ c.to.size ≤ 1000000 ∧ c.data.length ≤ 1000000
theorem bnd_set {m : SM} {s : ByteArray} {d : List UInt8} (h : BndM m) (hs : s.size ≤ 1000000) (hd : d.length ≤ 1000000) : BndM (mset m s d) := fun x e he => by
  rw [mget_mset] at he
  by_cases hx : s = x
  · subst hx; rw [if_pos rfl] at he; cases he; exact ⟨hs, hd⟩
  · rw [if_neg hx] at he; exact h x e he
theorem bnd_del {m : SM} {s : ByteArray} (h : BndM m) (hn : (m.map (·.1)).Nodup) : BndM (mdel m s) := fun x e he => by
  rw [mget_mdel _ _ _ hn] at he
  by_cases hx : s = x
  · rw [if_pos hx] at he; cases he
  · rw [if_neg hx] at he; exact h x e he
theorem bnd_step {m : SM} {c : FC} (h : BndM m) (hn : (m.map (·.1)).Nodup) (hc : BndC c) : BndM (stepM m c).2 := by
  unfold stepM
  split
  · split
    · exact h
    · exact bnd_set h hc.1 hc.2.2
  · split
    · split
      · unfold alterM
        split
        · exact bnd_del h hn
        · split
          · exact bnd_set h hc.1 hc.2.2
          · split
            · split
              · exact h
              · refine bnd_del (bnd_set h hc.2.1 ?_) (mset_nodup hn)
                cases hg : mget m c.name with
                | none => simp
                | some d => exact (h _ _ hg).2
            · exact h
      · exact h
    · exact h
theorem bnd_apply : ∀ (d : List FC) (m : SM) (k : Int), BndM m → (m.map (·.1)).Nodup → (∀ c ∈ d, BndC c) → BndM (d.foldl (fun s c => if s.1 = 0 then stepM s.2 c else s) (k, m)).2 ∧ ((d.foldl (fun s c => if s.1 = 0 then stepM s.2 c else s) (k, m)).2.map (·.1)).Nodup
  | [], m, k, h, hn, _ => ⟨h, hn⟩
  | c :: d, m, k, h, hn, hc => by
    rw [List.foldl_cons]
    by_cases hk : k = 0
    · simp only [hk, if_true]
      exact bnd_apply d _ _ (bnd_step h hn (hc c (by simp))) (step_nd hn) (fun x hx => hc x (by simp [hx]))
    · simp only [hk, if_false]
      exact bnd_apply d m k h hn (fun x hx => hc x (by simp [hx]))
def BndL (l : List File) : Prop := ∀ f ∈ l, f.name.size ≤ 1000000 ∧ f.data.length ≤ 1000000
theorem bnd_first {l : List File} (h : BndL l) : BndM (firstM l) := fun s d hd => by
  rw [(tells_first l).get] at hd
  unfold lookF at hd
  cases hf : l.find? (fun f => decide (f.name = s)) with
  | none => rw [hf] at hd; cases hd
  | some f =>
    rw [hf] at hd
    simp at hd
    have h1 := List.mem_of_find?_eq_some hf
    have h2 : f.name = s := by simpa using List.find?_some hf
    rw [← h2, ← hd]; exact h f h1
theorem bnd_files {m : SM} (h : BndM m) : BndL (filesM m) := fun f hf => by
  unfold filesM at hf
  obtain ⟨s, hs, rfl⟩ := List.mem_map.1 hf
  rw [sortB_mem, ← mget_some] at hs
  obtain ⟨d, hd⟩ := Option.isSome_iff_exists.1 hs
  rw [hd]
  exact h s d hd
theorem bnd_at {fs : List File} {d : List FC} {m : SM} (hf : BndL fs) (hd : ∀ c ∈ d, BndC c) (ha : applyM (firstM fs) d = (0, m)) : BndL (filesM m) := by
  have := bnd_apply d (firstM fs) 0 (bnd_first hf) (tells_first fs).nd hd
  unfold applyM at ha
  rw [ha] at this
  exact bnd_files this.1
end Go.Proofs.Ytmbfmnhcahhciaa.A

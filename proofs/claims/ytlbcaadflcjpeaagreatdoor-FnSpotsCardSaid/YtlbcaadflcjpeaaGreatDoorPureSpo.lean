/- Spots and DefSpot in plain Lean: the two lexers cut a text alike; what is kept of the tokens is kept alike; what is marked is held. No condition. -/
import Derived.Test.YtlbcaadflcjpeaaGreatDoorPSpox9
namespace Go.Proofs.YtlbcaadflcjpeaaGreatDoor.Pure
open Go Go.RowKit Go.Proofs.YtlbcaadflcjpeaaGreatDoor.PSpo Go.Proofs.YtlbcaadflcjpeaaGreatDoorW.PrintWords Go.Proofs.YtlbcaadflcjpeaaGreatDoorW.PrintLast
set_option linter.unusedVariables false
set_option linter.unusedSimpArgs false
/-- With enough rounds: this result. -/
def Ev {α : Type} (g : Nat → Option α) (r : α) : Prop := ∃ K, ∀ k, K ≤ k → g k = some r
theorem Ev.const {α : Type} (r : α) : Ev (fun _ => some r) r := ⟨0, fun _ _ => rfl⟩
theorem Ev.all {α : Type} {g : Option α} {r : α} (h : g = some r) : Ev (fun _ => g) r := ⟨0, fun _ _ => h⟩
theorem Ev.succ {α : Type} {g : Nat → Option α} {r : α} (h : Ev (fun k => g (k + 1)) r) : Ev g r := by
  obtain ⟨K, h⟩ := h
  exact ⟨K + 1, fun k hk => by obtain ⟨m, rfl⟩ : ∃ m, k = m + 1 := ⟨k - 1, by omega⟩; exact h m (by omega)⟩
theorem Ev.bind {α β : Type} {g : Nat → Option α} {f : Nat → α → Option β} {a : α} {r : β} (h : Ev g a) (hf : Ev (fun k => f k a) r) : Ev (fun k => (g k).bind (f k)) r := by
  obtain ⟨K, h⟩ := h
  obtain ⟨L, hf⟩ := hf
  exact ⟨max K L, fun k hk => by show (g k).bind (f k) = some r; rw [h k (by omega)]; exact hf k (by omega)⟩
theorem Ev.pos {α : Type} {c : Prop} [Decidable c] {a b : Nat → Option α} {r : α} (hc : c) (h : Ev a r) : Ev (fun k => if c then a k else b k) r := by
  simpa only [if_pos hc] using h
theorem Ev.neg {α : Type} {c : Prop} [Decidable c] {a b : Nat → Option α} {r : α} (hc : ¬ c) (h : Ev b r) : Ev (fun k => if c then a k else b k) r := by
  simpa only [if_neg hc] using h
theorem wrap_succ {i : Nat} (h : i < 9223372036854775807) : wrap64 ((i : Int) + 1) = ((i + 1 : Nat) : Int) := by
  unfold wrap64; omega
theorem wrap_id {x : Int} (h0 : -9223372036854775808 ≤ x) (h1 : x ≤ 9223372036854775807) : wrap64 x = x := by unfold wrap64; omega
theorem rdOf_at (l : List ByteArray) (i : Nat) (h : i < l.length) : rdOf ByteArray.empty l (i : Int) = l[i] := by
  unfold rdOf
  rw [Int.toNat_natCast, List.getD_eq_getElem?_getD, List.getElem?_eq_getElem h]
  rfl
/-! #### bytes -/
theorem size_len (s : ByteArray) : s.size = s.data.toList.length := rfl
theorem bt_get (s : ByteArray) (i : Nat) (h : i < s.size) : bt s (i : Int) = ((s.data.toList[i]'(by rw [← size_len]; exact h)).toNat : Int) := by
  unfold bt
  rw [dif_pos (by simpa using h)]
  rfl
theorem bt_lo (s : ByteArray) (i : Int) : 0 ≤ bt s i := (bt_range s i).1
theorem bt_hi (s : ByteArray) (i : Int) : bt s i ≤ 255 := (bt_range s i).2
theorem ex_list (s : ByteArray) (i j : Nat) (hij : i ≤ j) (hj : j ≤ s.size) : (s.extract i j).data.toList = (s.data.toList.drop i).take (j - i) := by
  rw [ByteArray.data_extract, Array.toList_extract]
  try simp [List.extract]
theorem ex_size (s : ByteArray) (i j : Nat) (hij : i ≤ j) (hj : j ≤ s.size) : (s.extract i j).size = j - i := by
  rw [size_len, ex_list s i j hij hj, List.length_take, List.length_drop, ← size_len]; omega
theorem ex_bt (s : ByteArray) (i j m : Nat) (hj : j ≤ s.size) (hm : i + m < j) : bt (s.extract i j) (m : Int) = bt s ((i + m : Nat) : Int) := by
  have h1 : m < (s.extract i j).size := by rw [ex_size s i j (by omega) hj]; omega
  rw [bt_get _ m h1, bt_get s (i + m) (by omega)]
  have : (s.extract i j).data.toList[m]'(by rw [← size_len]; exact h1) = s.data.toList[i + m]'(by rw [← size_len]; omega) := by
    simp only [ex_list s i j (by omega) hj, List.getElem_take, List.getElem_drop]
  rw [this]
theorem ex_ex (s : ByteArray) (i n : Nat) (hi : i + n ≤ s.size) : (s.extract i s.size).extract 0 n = s.extract i (i + n) := by
  apply ByteArray.ext
  apply Array.toList_inj.1
  have h0 : (s.extract i s.size).size = s.size - i := ex_size s i s.size (by omega) (Nat.le_refl _)
  rw [ex_list (s.extract i s.size) 0 n (Nat.zero_le _) (by omega), ex_list s i s.size (by omega) (Nat.le_refl _), ex_list s i (i + n) (by omega) hi, List.drop_zero, List.take_take]
  congr 1
  omega
theorem list1 (s : ByteArray) (i : Nat) (h : i < s.size) (c : UInt8) : ((s.extract i (i + 1)).toList = [c]) ↔ bt s (i : Int) = (c.toNat : Int) := by
  rw [ByteArray.toList_eq, ex_list s i (i + 1) (by omega) (by omega), bt_get s i h]
  have hl : i < s.data.toList.length := by rw [← size_len]; exact h
  have : (s.data.toList.drop i).take (i + 1 - i) = [s.data.toList[i]] := by
    rw [show i + 1 - i = 1 by omega, List.drop_eq_getElem_cons hl]; rfl
  rw [this]
  constructor
  · intro e; rw [List.singleton_inj] at e; rw [e]
  · intro e
    have : s.data.toList[i] = c := UInt8.toNat_inj.1 (by omega)
    rw [this]
theorem list2 (s : ByteArray) (i : Nat) (h : i + 2 ≤ s.size) (c d : UInt8) : ((s.extract i (i + 2)).toList = [c, d]) ↔ (bt s (i : Int) = (c.toNat : Int) ∧ bt s ((i + 1 : Nat) : Int) = (d.toNat : Int)) := by
  rw [ByteArray.toList_eq, ex_list s i (i + 2) (by omega) (by omega), bt_get s i (by omega), bt_get s (i + 1) (by omega)]
  have hl : i < s.data.toList.length := by rw [← size_len]; omega
  have hl2 : i + 1 < s.data.toList.length := by rw [← size_len]; omega
  have : (s.data.toList.drop i).take (i + 2 - i) = [s.data.toList[i], s.data.toList[i + 1]] := by
    rw [show i + 2 - i = 2 by omega, List.drop_eq_getElem_cons hl, List.drop_eq_getElem_cons hl2]; rfl
  rw [this]
  constructor
  · intro e
    injection e with e1 e2
    injection e2 with e2 _
    rw [e1, e2]; exact ⟨rfl, rfl⟩
  · rintro ⟨e1, e2⟩
    have h1 : s.data.toList[i] = c := UInt8.toNat_inj.1 (by omega)
    have h2 : s.data.toList[i + 1] = d := UInt8.toNat_inj.1 (by omega)
    rw [h1, h2]
/-! #### classes of bytes -/
def isD (c : Int) : Bool := decide (48 ≤ c ∧ c ≤ 57)
def isL (c : Int) : Bool := decide ((97 ≤ c ∧ c ≤ 122) ∨ (65 ≤ c ∧ c ≤ 90))
def isB (c : Int) : Bool := isL c || isD c
theorem iDigit (c : Int) : impl_isDigit.f c = some (isD c) := by
  unfold impl_isDigit.f isD
  by_cases h : c ≥ 48
  · rw [if_pos h]; congr 1; simp; omega
  · rw [if_neg h]; congr 1; simp; omega
theorem iLetter (c : Int) : impl_isLetter.f c = some (isL c) := by
  unfold impl_isLetter.f isL
  split
  · split
    · exact congrArg some (decide_eq_true (by omega)).symm
    · split
      · exact congrArg some (decide_eq_decide.2 (by omega))
      · exact congrArg some (decide_eq_false (by omega)).symm
  · split
    · exact congrArg some (decide_eq_decide.2 (by omega))
    · exact congrArg some (decide_eq_false (by omega)).symm
theorem iBoth (c : Int) : impl_nextTok_lit1.f c = some (isB c) := by
  simp only [impl_nextTok_lit1.f, iLetter, iDigit, Option.bind_some, isB]
  cases isL c <;> simp
theorem iNl (c : Int) : impl_passed_lit1.f c = some (c != 10) := rfl
theorem sIn (a b c : Int) : spec_l1In.f a b c = some (decide (b ≤ a ∧ a ≤ c)) := by
  unfold spec_l1In.f
  split
  · congr 1; simp; omega
  · congr 1; simp; omega
theorem iIn (a b c : Int) : impl_in.f a b c = some (decide (b ≤ a ∧ a ≤ c)) := by
  unfold impl_in.f
  split
  · congr 1; simp; omega
  · congr 1; simp; omega
theorem sDigit (s : ByteArray) (i : Int) : spec_l1Digit.f (bt s i) = some (isD (bt s i)) := by
  have h0 := bt_lo s i
  have h1 := bt_hi s i
  simp only [spec_l1Digit.f, sIn, Option.bind_some, wrap_id (by omega : -9223372036854775808 ≤ bt s i) (by omega : bt s i ≤ 9223372036854775807)]
  rfl
def isS (c : Int) : Bool := decide (97 ≤ c ∧ c ≤ 122)
def isG (c : Int) : Bool := decide (65 ≤ c ∧ c ≤ 90)
theorem sSmall (s : ByteArray) (i : Int) : spec_l1Small.f (bt s i) = some (isS (bt s i)) := by
  have h0 := bt_lo s i
  have h1 := bt_hi s i
  simp only [spec_l1Small.f, sIn, Option.bind_some, wrap_id (by omega : -9223372036854775808 ≤ bt s i) (by omega : bt s i ≤ 9223372036854775807)]
  rfl
theorem sLarge (s : ByteArray) (i : Int) : spec_l1Large.f (bt s i) = some (isG (bt s i)) := by
  have h0 := bt_lo s i
  have h1 := bt_hi s i
  simp only [spec_l1Large.f, sIn, Option.bind_some, wrap_id (by omega : -9223372036854775808 ≤ bt s i) (by omega : bt s i ≤ 9223372036854775807)]
  rfl
theorem isL_eq (c : Int) : isL c = (isS c || isG c) := by
  unfold isL isS isG
  rw [Bool.eq_iff_iff]; simp
theorem sLetter (s : ByteArray) (i : Int) : spec_l1Letter.f (bt s i) = some (isB (bt s i)) := by
  simp only [spec_l1Letter.f, sSmall, sLarge, sDigit, Option.bind_some, isB, isL_eq]
  cases isS (bt s i) <;> cases isG (bt s i) <;> simp
/-! #### runs -/
/-- Where the run from i on ends. -/
def runTo (p : Int → Bool) (s : ByteArray) : Nat → Nat → Nat
  | 0, i => i
  | d + 1, i => if i < s.size ∧ p (bt s (i : Int)) = true then runTo p s d (i + 1) else i
theorem runTo_ge (p : Int → Bool) (s : ByteArray) : ∀ (d i : Nat), i ≤ runTo p s d i
  | 0, _ => Nat.le_refl _
  | d + 1, i => by
    unfold runTo
    split
    · exact Nat.le_trans (Nat.le_succ i) (runTo_ge p s d (i + 1))
    · exact Nat.le_refl _
theorem runTo_le (p : Int → Bool) (s : ByteArray) : ∀ (d i : Nat), i ≤ s.size → runTo p s d i ≤ s.size
  | 0, _, h => h
  | d + 1, i, h => by
    unfold runTo
    split
    · rename_i hc; exact runTo_le p s d (i + 1) (by omega)
    · exact h
theorem runTo_in (p : Int → Bool) (s : ByteArray) : ∀ (d i j : Nat), i ≤ j → j < runTo p s d i → p (bt s (j : Int)) = true
  | 0, i, j, h1, h2 => by unfold runTo at h2; omega
  | d + 1, i, j, h1, h2 => by
    unfold runTo at h2
    split at h2
    · rename_i hc
      by_cases e : j = i
      · rw [e]; exact hc.2
      · exact runTo_in p s d (i + 1) j (by omega) h2
    · omega
theorem runTo_pos (p : Int → Bool) (s : ByteArray) (d i : Nat) (h : i < s.size) (hp : p (bt s (i : Int)) = true) : i < runTo p s (d + 1) i := by
  unfold runTo
  rw [if_pos ⟨h, hp⟩]
  exact runTo_ge p s d (i + 1)
def notNl (c : Int) : Bool := c != 10
theorem run_d (s : ByteArray) (hs : s.size < 9223372036854775807) (a : Nat) : ∀ (d i : Nat), a ≤ i → i + d = s.size → Ev (fun k => impl_runLen_digit.l0 k (s.extract a s.size) ((i - a : Nat) : Int)) ((runTo isD s d i - a : Nat) : Int) := by
  intro d
  induction d with
  | zero =>
    intro i ha hi
    refine Ev.succ ?_
    simp only [impl_runLen_digit.l0]
    have hz : (s.extract a s.size).size = s.size - a := ex_size s a s.size (by omega) (Nat.le_refl _)
    exact Ev.neg (by rw [hz]; omega) (Ev.const _)
  | succ d ih =>
    intro i ha hi
    refine Ev.succ ?_
    simp only [impl_runLen_digit.l0]
    have hz : (s.extract a s.size).size = s.size - a := ex_size s a s.size (by omega) (Nat.le_refl _)
    have hb : bt (s.extract a s.size) ((i - a : Nat) : Int) = bt s (i : Int) := by rw [ex_bt s a s.size (i - a) (Nat.le_refl _) (by omega)]; congr 2; omega
    have hw : wrap64 (((i - a : Nat) : Int) + 1) = ((i + 1 - a : Nat) : Int) := by
      have : s.size < 9223372036854775807 := hs
      rw [wrap_succ (by omega)]; congr 1; omega
    refine Ev.pos (by rw [hz]; omega) (Ev.pos (by omega) (Ev.bind (Ev.all (by rw [hb]; exact iDigit _)) ?_))
    unfold runTo
    by_cases c : isD (bt s (i : Int)) = true
    · rw [if_pos ⟨by omega, c⟩]
      refine Ev.pos c ?_
      rw [hw]
      exact ih (i + 1) (by omega) (by omega)
    · rw [if_neg (fun h => c h.2)]
      exact Ev.neg c (Ev.const _)
theorem run_b (s : ByteArray) (hs : s.size < 9223372036854775807) (a : Nat) : ∀ (d i : Nat), a ≤ i → i + d = s.size → Ev (fun k => impl_runLen_both.l0 k (s.extract a s.size) ((i - a : Nat) : Int)) ((runTo isB s d i - a : Nat) : Int) := by
  intro d
  induction d with
  | zero =>
    intro i ha hi
    refine Ev.succ ?_
    simp only [impl_runLen_both.l0]
    have hz : (s.extract a s.size).size = s.size - a := ex_size s a s.size (by omega) (Nat.le_refl _)
    exact Ev.neg (by rw [hz]; omega) (Ev.const _)
  | succ d ih =>
    intro i ha hi
    refine Ev.succ ?_
    simp only [impl_runLen_both.l0]
    have hz : (s.extract a s.size).size = s.size - a := ex_size s a s.size (by omega) (Nat.le_refl _)
    have hb : bt (s.extract a s.size) ((i - a : Nat) : Int) = bt s (i : Int) := by rw [ex_bt s a s.size (i - a) (Nat.le_refl _) (by omega)]; congr 2; omega
    have hw : wrap64 (((i - a : Nat) : Int) + 1) = ((i + 1 - a : Nat) : Int) := by
      have : s.size < 9223372036854775807 := hs
      rw [wrap_succ (by omega)]; congr 1; omega
    refine Ev.pos (by rw [hz]; omega) (Ev.pos (by omega) (Ev.bind (Ev.all (by rw [hb]; exact iBoth _)) ?_))
    unfold runTo
    by_cases c : isB (bt s (i : Int)) = true
    · rw [if_pos ⟨by omega, c⟩]
      refine Ev.pos c ?_
      rw [hw]
      exact ih (i + 1) (by omega) (by omega)
    · rw [if_neg (fun h => c h.2)]
      exact Ev.neg c (Ev.const _)
theorem run_l (s : ByteArray) (hs : s.size < 9223372036854775807) (a : Nat) : ∀ (d i : Nat), a ≤ i → i + d = s.size → Ev (fun k => impl_runLen_line.l0 k (s.extract a s.size) ((i - a : Nat) : Int)) ((runTo notNl s d i - a : Nat) : Int) := by
  intro d
  induction d with
  | zero =>
    intro i ha hi
    refine Ev.succ ?_
    simp only [impl_runLen_line.l0]
    have hz : (s.extract a s.size).size = s.size - a := ex_size s a s.size (by omega) (Nat.le_refl _)
    exact Ev.neg (by rw [hz]; omega) (Ev.const _)
  | succ d ih =>
    intro i ha hi
    refine Ev.succ ?_
    simp only [impl_runLen_line.l0]
    have hz : (s.extract a s.size).size = s.size - a := ex_size s a s.size (by omega) (Nat.le_refl _)
    have hb : bt (s.extract a s.size) ((i - a : Nat) : Int) = bt s (i : Int) := by rw [ex_bt s a s.size (i - a) (Nat.le_refl _) (by omega)]; congr 2; omega
    have hw : wrap64 (((i - a : Nat) : Int) + 1) = ((i + 1 - a : Nat) : Int) := by
      have : s.size < 9223372036854775807 := hs
      rw [wrap_succ (by omega)]; congr 1; omega
    refine Ev.pos (by rw [hz]; omega) (Ev.pos (by omega) (Ev.bind (Ev.all (by rw [hb]; exact iNl _)) ?_))
    unfold runTo
    by_cases c : notNl (bt s (i : Int)) = true
    · rw [if_pos ⟨by omega, c⟩]
      refine Ev.pos c ?_
      rw [hw]
      exact ih (i + 1) (by omega) (by omega)
    · rw [if_neg (fun h => c h.2)]
      exact Ev.neg c (Ev.const _)

/-! #### lists of texts and of bytes -/
def hasT (l : List ByteArray) (w : ByteArray) : Bool := decide (∃ q, q ∈ l ∧ q.toList = w.toList)
theorem rdOf_get (l : List ByteArray) (i : Nat) (h : i < l.length) : rdOf ByteArray.empty l (i : Int) = l[i] := rdOf_at l i h
theorem shas (l : List ByteArray) (hl : l.length ≤ 1000) (w : ByteArray) : ∀ (d i : Nat), i + d = l.length → Ev (fun k => spec_l1Has.l0 k l w (i : Int)) (hasT (l.drop i) w) := by
  intro d
  induction d with
  | zero =>
    intro i hi
    refine Ev.succ ?_
    simp only [spec_l1Has.l0]
    have : hasT (l.drop i) w = false := by rw [List.drop_eq_nil_of_le (by omega)]; simp [hasT]
    rw [this]
    exact Ev.neg (by omega) (Ev.const _)
  | succ d ih =>
    intro i hi
    refine Ev.succ ?_
    have hil : i < l.length := by omega
    simp only [spec_l1Has.l0, rdOf_get l i hil, wrap_succ (by omega : i < 9223372036854775807)]
    refine Ev.pos (by omega) (Ev.pos (by omega) ?_)
    by_cases c : l[i].toList = w.toList
    · have : hasT (l.drop i) w = true := decide_eq_true ⟨l[i], by rw [List.drop_eq_getElem_cons hil]; exact List.mem_cons_self, c⟩
      rw [this]
      exact Ev.pos c (Ev.const _)
    · have : hasT (l.drop i) w = hasT (l.drop (i + 1)) w := by
        rw [List.drop_eq_getElem_cons hil]
        unfold hasT
        refine decide_eq_decide.2 ⟨?_, ?_⟩
        · rintro ⟨q, hq, e⟩
          rcases List.mem_cons.1 hq with rfl | hq
          · exact absurd e c
          · exact ⟨q, hq, e⟩
        · rintro ⟨q, hq, e⟩
          exact ⟨q, List.mem_cons_of_mem _ hq, e⟩
      rw [this]
      exact Ev.neg c (ih (i + 1) (by omega))
theorem ihas (l : List ByteArray) (hl : l.length ≤ 1000) (w : ByteArray) : ∀ (d i : Nat), i + d = l.length → ∃ r : Int, Ev (fun k => slices_Index_string_string.l0 k l w (l.length : Int) (i : Int)) r ∧ decide (r ≥ 0) = hasT (l.drop i) w := by
  intro d
  induction d with
  | zero =>
    intro i hi
    refine ⟨-1, Ev.succ ?_, by rw [List.drop_eq_nil_of_le (by omega)]; simp [hasT]⟩
    simp only [slices_Index_string_string.l0]
    exact Ev.neg (by omega) (Ev.const _)
  | succ d ih =>
    intro i hi
    have hil : i < l.length := by omega
    by_cases c : w.toList = l[i].toList
    · refine ⟨i, Ev.succ ?_, ?_⟩
      · simp only [slices_Index_string_string.l0, rdOf_get l i hil]
        exact Ev.pos (by omega) (Ev.pos (by omega) (Ev.pos (by omega) (Ev.pos c (Ev.const _))))
      · have : hasT (l.drop i) w = true := decide_eq_true ⟨l[i], by rw [List.drop_eq_getElem_cons hil]; exact List.mem_cons_self, c.symm⟩
        rw [this]; exact decide_eq_true (by omega)
    · obtain ⟨r, e, hr⟩ := ih (i + 1) (by omega)
      refine ⟨r, Ev.succ ?_, ?_⟩
      · simp only [slices_Index_string_string.l0, rdOf_get l i hil, wrap_succ (by omega : i < 9223372036854775807)]
        exact Ev.pos (by omega) (Ev.pos (by omega) (Ev.pos (by omega) (Ev.neg c e)))
      · rw [hr, List.drop_eq_getElem_cons hil]
        unfold hasT
        refine decide_eq_decide.2 ⟨?_, ?_⟩
        · rintro ⟨q, hq, e⟩
          exact ⟨q, List.mem_cons_of_mem _ hq, e⟩
        · rintro ⟨q, hq, e⟩
          rcases List.mem_cons.1 hq with rfl | hq
          · exact absurd e.symm c
          · exact ⟨q, hq, e⟩
theorem icon (l : List ByteArray) (hl : l.length ≤ 1000) (w : ByteArray) : Ev (fun k => slices_Contains_string_string.f k l w) (hasT l w) := by
  obtain ⟨r, e, hr⟩ := ihas l hl w l.length 0 (by omega)
  rw [List.drop_zero] at hr
  rw [← hr]
  simp only [slices_Contains_string_string.f, slices_Index_string_string.f]
  exact Ev.bind e (Ev.const _)
theorem ibyte (l : List Int) (hl : l.length ≤ 1000) (c : Int) : ∀ (d i : Nat), i + d = l.length → ∃ r : Int, Ev (fun k => slices_Index_byte_byte.l0 k l c (l.length : Int) (i : Int)) r ∧ decide (r ≥ 0) = decide (c ∈ l.drop i) := by
  intro d
  induction d with
  | zero =>
    intro i hi
    refine ⟨-1, Ev.succ ?_, by rw [List.drop_eq_nil_of_le (by omega)]; simp⟩
    simp only [slices_Index_byte_byte.l0]
    exact Ev.neg (by omega) (Ev.const _)
  | succ d ih =>
    intro i hi
    have hil : i < l.length := by omega
    have hrd : rd l (i : Int) = l[i] := by
      unfold rd
      simp [List.getD_eq_getElem?_getD, List.getElem?_eq_getElem hil]
    by_cases e0 : c = l[i]
    · refine ⟨i, Ev.succ ?_, ?_⟩
      · simp only [slices_Index_byte_byte.l0, hrd]
        exact Ev.pos (by omega) (Ev.pos (by omega) (Ev.pos (by omega) (Ev.pos e0 (Ev.const _))))
      · rw [List.drop_eq_getElem_cons hil]
        exact decide_eq_decide.2 ⟨fun _ => by rw [e0]; exact List.mem_cons_self, fun _ => by omega⟩
    · obtain ⟨r, e, hr⟩ := ih (i + 1) (by omega)
      refine ⟨r, Ev.succ ?_, ?_⟩
      · simp only [slices_Index_byte_byte.l0, hrd, wrap_succ (by omega : i < 9223372036854775807)]
        exact Ev.pos (by omega) (Ev.pos (by omega) (Ev.pos (by omega) (Ev.neg e0 e)))
      · rw [hr, List.drop_eq_getElem_cons hil]
        exact decide_eq_decide.2 ⟨fun h => List.mem_cons_of_mem _ h, fun h => (List.mem_cons.1 h).resolve_left e0⟩
theorem ibytes (l : List Int) (hl : l.length ≤ 1000) (c : Int) : Ev (fun k => slices_Contains_byte_byte.f k l c) (decide (c ∈ l)) := by
  obtain ⟨r, e, hr⟩ := ibyte l hl c l.length 0 (by omega)
  rw [List.drop_zero] at hr
  rw [← hr]
  simp only [slices_Contains_byte_byte.f, slices_Index_byte_byte.f]
  exact Ev.bind e (Ev.const _)
/-! #### words -/
def wordsL : List ByteArray := [(⟨#[108, 101, 116]⟩ : ByteArray), (⟨#[105, 110]⟩ : ByteArray), (⟨#[119, 104, 101, 114, 101]⟩ : ByteArray), (⟨#[99, 97, 115, 101]⟩ : ByteArray), (⟨#[111, 102]⟩ : ByteArray), (⟨#[105, 102]⟩ : ByteArray), (⟨#[116, 104, 101, 110]⟩ : ByteArray), (⟨#[101, 108, 115, 101]⟩ : ByteArray), (⟨#[100, 97, 116, 97]⟩ : ByteArray)]
theorem sword (w : ByteArray) : Ev (fun k => spec_l1IsWord.f k w) (hasT wordsL w) := by
  simp only [spec_l1IsWord.f, spec_l1Has.f]
  exact Ev.bind (shas wordsL (by decide) w wordsL.length 0 (by omega)) (Ev.const _)
theorem iwords : impl_words.f = some wordsL := rfl
/-- A text of letters and digits that begins with a letter. -/
def Wd (w : ByteArray) : Prop := 0 < w.size ∧ w.size < 9223372036854775807 ∧ isL (bt w 0) = true ∧ ∀ i : Nat, i < w.size → isB (bt w (i : Int)) = true
theorem iword_loop (w : ByteArray) (h : Wd w) : ∀ (d i : Nat), i + d = w.size → Ev (fun k => impl_wordLike.l0 k w (w.size : Int) (i : Int)) (decide (1 ≤ (w.size : Int) ∧ (w.size : Int) ≤ 8)) := by
  obtain ⟨h0, h1, h2, h3⟩ := h
  intro d
  induction d with
  | zero =>
    intro i hi
    refine Ev.succ ?_
    simp only [impl_wordLike.l0, iIn]
    exact Ev.neg (by omega) (Ev.bind (Ev.all rfl) (Ev.const _))
  | succ d ih =>
    intro i hi
    refine Ev.succ ?_
    simp only [impl_wordLike.l0, iLetter, iDigit, wrap_succ (by omega : i < 9223372036854775807)]
    refine Ev.pos (by omega) (Ev.pos (by omega) (Ev.pos (by omega) (Ev.bind (Ev.all rfl) ?_)))
    by_cases c : isL (bt w (i : Int)) = true
    · exact Ev.pos c (ih (i + 1) (by omega))
    · have hi0 : i ≠ 0 := by rintro rfl; exact c h2
      have hd : isD (bt w (i : Int)) = true := by
        have := h3 i (by omega)
        unfold isB at this
        simpa [c] using this
      exact Ev.neg c (Ev.neg (by omega) (Ev.bind (Ev.all rfl) (Ev.pos hd (ih (i + 1) (by omega)))))
theorem sword_loop (w : ByteArray) (h : Wd w) : ∀ (d i : Nat), i + d = w.size → Ev (fun k => spec_l1Letters.l0 k w (i : Int)) (decide (1 ≤ (w.size : Int) ∧ (w.size : Int) ≤ 8)) := by
  obtain ⟨h0, h1, h2, h3⟩ := h
  intro d
  induction d with
  | zero =>
    intro i hi
    refine Ev.succ ?_
    simp only [spec_l1Letters.l0, sIn]
    exact Ev.neg (by omega) (Ev.bind (Ev.all rfl) (Ev.const _))
  | succ d ih =>
    intro i hi
    refine Ev.succ ?_
    simp only [spec_l1Letters.l0, sLetter, wrap_succ (by omega : i < 9223372036854775807)]
    exact Ev.pos (by omega) (Ev.pos (by omega) (Ev.bind (Ev.all rfl) (Ev.pos (h3 i (by omega)) (ih (i + 1) (by omega)))))
theorem isL_split {c : Int} (h : isL c = true) : (isS c = decide (c ≥ 97)) ∧ (isG c = decide (c ≤ 90)) := by
  unfold isL at h
  have h := of_decide_eq_true h
  exact ⟨decide_eq_decide.2 (by omega), decide_eq_decide.2 (by omega)⟩
/-- The kind of a word. -/
def kindW (w : ByteArray) : Int := if hasT wordsL w = true then 4 else if w.size ≤ 8 then (if bt w 0 ≥ 97 then 1 else 2) else 0
theorem skind (w : ByteArray) (h : Wd w) : Ev (fun k => spec_l1Kind.f k w) (kindW w) := by
  have hl := sword_loop w h w.size 0 (by omega)
  obtain ⟨h0, h1, h2, h3⟩ := h
  obtain ⟨e1, e2⟩ := isL_split h2
  simp only [spec_l1Kind.f, spec_NameOk.f, spec_GreatOk.f, spec_l1Letters.f, sSmall, sLarge]
  unfold kindW
  refine Ev.bind (sword w) ?_
  by_cases c : hasT wordsL w = true
  · rw [if_pos c]; exact Ev.pos c (Ev.const _)
  rw [if_neg c]
  refine Ev.neg c ?_
  by_cases c2 : w.size ≤ 8
  · have hd : decide (1 ≤ (w.size : Int) ∧ (w.size : Int) ≤ 8) = true := decide_eq_true (by omega)
    rw [hd] at hl
    rw [if_pos c2]
    by_cases c3 : bt w 0 ≥ 97
    · rw [if_pos c3]
      refine Ev.bind (a := true) (Ev.bind hl (Ev.pos rfl (Ev.pos (by omega) (Ev.bind (Ev.all rfl) (Ev.pos (by rw [e1]; exact decide_eq_true c3) (Ev.bind (sword w) ?_)))))) (Ev.pos rfl (Ev.const _))
      rw [Bool.eq_false_iff.2 c]
      exact Ev.const _
    · rw [if_neg c3]
      have hG : bt w 0 ≤ 90 := by have := of_decide_eq_true (show decide _ = true from h2); omega
      refine Ev.bind (a := false) (Ev.bind hl (Ev.pos rfl (Ev.pos (by omega) (Ev.bind (Ev.all rfl) (Ev.neg (by rw [e1]; simpa using c3) (Ev.const _)))))) (Ev.neg (by decide) ?_)
      exact Ev.bind (a := true) (Ev.bind hl (Ev.pos rfl (Ev.pos (by omega) (Ev.bind (Ev.all rfl) (by rw [e2, decide_eq_true hG]; exact Ev.const _))))) (Ev.pos rfl (Ev.const _))
  · have hd : decide (1 ≤ (w.size : Int) ∧ (w.size : Int) ≤ 8) = false := decide_eq_false (by omega)
    rw [hd] at hl
    rw [if_neg c2]
    refine Ev.bind (a := false) (Ev.bind hl (Ev.neg (by decide) (Ev.const _))) (Ev.neg (by decide) ?_)
    exact Ev.bind (a := false) (Ev.bind hl (Ev.neg (by decide) (Ev.const _))) (Ev.neg (by decide) (Ev.const _))
theorem iname (w : ByteArray) (h : Wd w) (hc : hasT wordsL w = false) : Ev (fun k => impl_NameOk.f k w) (decide (w.size ≤ 8 ∧ bt w 0 ≥ 97)) := by
  have hl := iword_loop w h w.size 0 (by omega)
  obtain ⟨h0, h1, h2, h3⟩ := h
  simp only [impl_NameOk.f, impl_wordLike.f, iwords]
  by_cases c2 : w.size ≤ 8
  · have hd : decide (1 ≤ (w.size : Int) ∧ (w.size : Int) ≤ 8) = true := decide_eq_true (by omega)
    rw [hd] at hl
    refine Ev.bind hl (Ev.pos rfl (Ev.pos (by omega) ?_))
    by_cases c3 : bt w 0 ≥ 97
    · rw [decide_eq_true ⟨c2, c3⟩]
      refine Ev.pos c3 (Ev.bind (Ev.all rfl) (Ev.bind (icon wordsL (by decide) w) ?_))
      rw [hc]
      exact Ev.const _
    · rw [decide_eq_false (fun h => c3 h.2)]
      exact Ev.neg c3 (Ev.const _)
  · have hd : decide (1 ≤ (w.size : Int) ∧ (w.size : Int) ≤ 8) = false := decide_eq_false (by omega)
    rw [hd] at hl
    rw [decide_eq_false (fun h => c2 h.1)]
    exact Ev.bind hl (Ev.neg (by decide) (Ev.const _))
theorem igreat (w : ByteArray) (h : Wd w) : Ev (fun k => impl_GreatOk.f k w) (decide (w.size ≤ 8 ∧ bt w 0 ≤ 90)) := by
  have hl := iword_loop w h w.size 0 (by omega)
  obtain ⟨h0, h1, h2, h3⟩ := h
  simp only [impl_GreatOk.f, impl_wordLike.f]
  by_cases c2 : w.size ≤ 8
  · have hd : decide (1 ≤ (w.size : Int) ∧ (w.size : Int) ≤ 8) = true := decide_eq_true (by omega)
    rw [hd] at hl
    refine Ev.bind hl (Ev.pos rfl (Ev.pos (by omega) ?_))
    rw [show decide (w.size ≤ 8 ∧ bt w 0 ≤ 90) = decide (bt w 0 ≤ 90) from decide_eq_decide.2 ⟨fun h => h.2, fun h => ⟨c2, h⟩⟩]
    exact Ev.const _
  · have hd : decide (1 ≤ (w.size : Int) ∧ (w.size : Int) ≤ 8) = false := decide_eq_false (by omega)
    rw [hd] at hl
    have hf : decide (w.size ≤ 8 ∧ bt w 0 ≤ 90) = false := decide_eq_false (fun h => c2 h.1)
    rw [hf]
    exact Ev.bind hl (Ev.neg (by decide) (Ev.const _))

/-! #### tokens -/
theorem wd_run (s : ByteArray) (hs : s.size < 9223372036854775807) (a : Nat) (ha : a < s.size) (hL : isL (bt s (a : Int)) = true) (j : Nat) (hj : j = runTo isB s (s.size - a) a) : a < j ∧ j ≤ s.size ∧ Wd (s.extract a j) := by
  have hB : isB (bt s (a : Int)) = true := by unfold isB; rw [hL]; rfl
  have h1 : a < j := by
    rw [hj, show s.size - a = (s.size - a - 1) + 1 by omega]
    exact runTo_pos isB s _ a ha hB
  have h2 : j ≤ s.size := by rw [hj]; exact runTo_le isB s _ a (by omega)
  have hz := ex_size s a j (by omega) h2
  refine ⟨h1, h2, by omega, by omega, ?_, fun i hi => ?_⟩
  · have := ex_bt s a j 0 h2 (by omega)
    rw [show ((0 : Nat) : Int) = 0 from rfl] at this
    rw [this]; exact hL
  · rw [ex_bt s a j i h2 (by omega)]
    exact runTo_in isB s (s.size - a) a (a + i) (by omega) (by rw [← hj]; omega)
theorem snext_w (s : ByteArray) (hs : s.size < 9223372036854775807) (a j : Nat) (haj : a ≤ j) (hj : j ≤ s.size) (hw : Wd (s.extract a j)) : ∀ (d i : Nat), a ≤ i → i + d = s.size → runTo isB s d i = j → Ev (fun k => spec_l1Next.l1 k s (a : Int) (i : Int)) (((j - a : Nat) : Int), kindW (s.extract a j)) := by
  have hk := skind _ hw
  intro d
  induction d with
  | zero =>
    intro i hai hi hr
    refine Ev.succ ?_
    have hij : i = j := hr
    subst hij
    simp only [spec_l1Next.l1, Int.toNat_natCast, show wrap64 ((i : Int) - (a : Int)) = ((i - a : Nat) : Int) by rw [wrap_id (by omega) (by omega)]; omega]
    exact Ev.neg (by omega) (Ev.pos (by omega) (Ev.pos (by omega) (Ev.pos (by omega) (Ev.bind hk (Ev.const _)))))
  | succ d ih =>
    intro i hai hi hr
    refine Ev.succ ?_
    simp only [spec_l1Next.l1, sLetter, Int.toNat_natCast, wrap_succ (by omega : i < 9223372036854775807)]
    refine Ev.pos (by omega) (Ev.pos (by omega) (Ev.bind (Ev.all rfl) ?_))
    unfold runTo at hr
    by_cases c : isB (bt s (i : Int)) = true
    · rw [if_pos ⟨by omega, c⟩] at hr
      exact Ev.pos c (ih (i + 1) (by omega) (by omega) hr)
    · rw [if_neg (fun h => c h.2)] at hr
      subst hr
      rw [show wrap64 ((i : Int) - (a : Int)) = ((i - a : Nat) : Int) by rw [wrap_id (by omega) (by omega)]; omega]
      exact Ev.neg c (Ev.pos (by omega) (Ev.pos (by omega) (Ev.pos (by omega) (Ev.bind hk (Ev.const _)))))
/-- A number. -/
def numW (w : ByteArray) : Bool := decide (w.size ≤ 6 ∧ (w.size = 1 ∨ bt w 0 ≠ 48))
theorem inum (w : ByteArray) (h0 : 0 < w.size) : impl_numberLike.f w = some (numW w) := by
  simp only [impl_numberLike.f, iIn, Option.bind_some, numW]
  by_cases c : w.size ≤ 6
  · rw [if_pos (decide_eq_true (by omega)), if_pos (by omega)]
    by_cases c2 : bt w 0 = 48
    · rw [if_pos c2]
      congr 1
      rw [Bool.eq_iff_iff]
      simp [c, c2]
      omega
    · rw [if_neg c2]
      congr 1
      exact (decide_eq_true ⟨c, .inr c2⟩).symm
  · rw [if_neg (by simp; omega)]
    congr 1
    exact (decide_eq_false (fun h => c h.1)).symm
theorem snum (w : ByteArray) (h0 : 0 < w.size) (h1 : w.size < 9223372036854775807) (hd : ∀ i : Nat, i < w.size → isD (bt w (i : Int)) = true) : ∀ (d i : Nat), i + d = w.size → Ev (fun k => spec_l1NumOk.l0 k w (i : Int)) (numW w) := by
  intro d
  induction d with
  | zero =>
    intro i hi
    refine Ev.succ ?_
    simp only [spec_l1NumOk.l0, sIn, numW]
    refine Ev.neg (by omega) (Ev.bind (Ev.all rfl) ?_)
    by_cases c : w.size ≤ 6
    · refine Ev.pos (decide_eq_true (by omega)) ?_
      by_cases c1 : w.size = 1
      · rw [decide_eq_true (show w.size ≤ 6 ∧ (w.size = 1 ∨ bt w 0 ≠ 48) from ⟨c, .inl c1⟩)]
        exact Ev.pos (by omega) (Ev.const _)
      · have : decide (w.size ≤ 6 ∧ (w.size = 1 ∨ bt w 0 ≠ 48)) = (bt w 0 != 48) := by
          rw [Bool.eq_iff_iff]
          simp [c, c1]
        rw [this]
        exact Ev.neg (by omega) (Ev.pos (by omega) (Ev.const _))
    · have : decide (w.size ≤ 6 ∧ (w.size = 1 ∨ bt w 0 ≠ 48)) = false := decide_eq_false (fun h => c h.1)
      rw [this]
      exact Ev.neg (by simp; omega) (Ev.const _)
  | succ d ih =>
    intro i hi
    refine Ev.succ ?_
    simp only [spec_l1NumOk.l0, sDigit, wrap_succ (by omega : i < 9223372036854775807)]
    exact Ev.pos (by omega) (Ev.pos (by omega) (Ev.bind (Ev.all rfl) (Ev.pos (hd i (by omega)) (ih (i + 1) (by omega)))))
theorem snext_d (s : ByteArray) (hs : s.size < 9223372036854775807) (a j : Nat) (haj : a < j) (hj : j ≤ s.size) (hd : ∀ i : Nat, i < (s.extract a j).size → isD (bt (s.extract a j) (i : Int)) = true) : ∀ (d i : Nat), a ≤ i → i + d = s.size → runTo isD s d i = j → Ev (fun k => spec_l1Next.l0 k s (a : Int) (i : Int)) (if numW (s.extract a j) = true then (((j - a : Nat) : Int), (3 : Int)) else (0, 0)) := by
  have hz := ex_size s a j (by omega) hj
  have hk : Ev (fun k => spec_l1NumOk.f k (s.extract a j)) (numW (s.extract a j)) := snum _ (by omega) (by omega) hd (s.extract a j).size 0 (by omega)
  have hfin : Ev (fun k => (spec_l1NumOk.f k (s.extract a j)).bind fun t => if t = true then some (((j - a : Nat) : Int), (3 : Int)) else some (0, 0)) (if numW (s.extract a j) = true then (((j - a : Nat) : Int), (3 : Int)) else (0, 0)) := by
    refine Ev.bind hk ?_
    by_cases c : numW (s.extract a j) = true
    · simp only [if_pos c]; exact Ev.const _
    · simp only [if_neg c]; exact Ev.const _
  intro d
  induction d with
  | zero =>
    intro i hai hi hr
    refine Ev.succ ?_
    have hij : i = j := hr
    subst hij
    simp only [spec_l1Next.l0, Int.toNat_natCast, show wrap64 ((i : Int) - (a : Int)) = ((i - a : Nat) : Int) by rw [wrap_id (by omega) (by omega)]; omega]
    exact Ev.neg (by omega) (Ev.pos (by omega) (Ev.pos (by omega) (Ev.pos (by omega) hfin)))
  | succ d ih =>
    intro i hai hi hr
    refine Ev.succ ?_
    simp only [spec_l1Next.l0, sDigit, Int.toNat_natCast, wrap_succ (by omega : i < 9223372036854775807)]
    refine Ev.pos (by omega) (Ev.pos (by omega) (Ev.bind (Ev.all rfl) ?_))
    unfold runTo at hr
    by_cases c : isD (bt s (i : Int)) = true
    · rw [if_pos ⟨by omega, c⟩] at hr
      exact Ev.pos c (ih (i + 1) (by omega) (by omega) hr)
    · rw [if_neg (fun h => c h.2)] at hr
      subst hr
      rw [show wrap64 ((i : Int) - (a : Int)) = ((i - a : Nat) : Int) by rw [wrap_id (by omega) (by omega)]; omega]
      exact Ev.neg c (Ev.pos (by omega) (Ev.pos (by omega) (Ev.pos (by omega) hfin)))
theorem prefix2 (s : ByteArray) (a : Nat) (ha : a ≤ s.size) (c d : UInt8) : strings_HasPrefix.f (s.extract a s.size) (⟨#[c, d]⟩ : ByteArray) = some (decide (a + 2 ≤ s.size ∧ bt s (a : Int) = (c.toNat : Int) ∧ bt s ((a + 1 : Nat) : Int) = (d.toNat : Int))) := by
  have e1 : ((⟨#[c, d]⟩ : ByteArray).size : Int) = 2 := rfl
  have e2 : (⟨#[c, d]⟩ : ByteArray).toList = [c, d] := by rw [ByteArray.toList_eq]
  have hz := ex_size s a s.size ha (Nat.le_refl _)
  simp only [strings_HasPrefix.f, stringslite_HasPrefix.f, e1, e2, hz]
  by_cases h : a + 2 ≤ s.size
  · rw [if_pos (by omega), if_pos (by omega), if_pos (by omega)]
    simp only [Option.bind_some]
    congr 1
    rw [show ((2 : Int)).toNat = 2 from rfl, ex_ex s a 2 h]
    rw [Bool.eq_iff_iff]
    simp only [beq_iff_eq, decide_eq_true_eq]
    rw [list2 s a h c d]
    exact ⟨fun q => ⟨h, q⟩, fun q => q.2⟩
  · rw [if_neg (by omega)]
    simp only [Option.bind_some]
    congr 1
    exact (decide_eq_false (fun q => h q.1)).symm
def marksB : List Int := [40, 41, 123, 125, 59, 61, 92, 124, 43, 45, 42, 60, 95]
def marksT : List ByteArray := [(⟨#[40]⟩ : ByteArray), (⟨#[41]⟩ : ByteArray), (⟨#[123]⟩ : ByteArray), (⟨#[125]⟩ : ByteArray), (⟨#[59]⟩ : ByteArray), (⟨#[61]⟩ : ByteArray), (⟨#[92]⟩ : ByteArray), (⟨#[124]⟩ : ByteArray), (⟨#[43]⟩ : ByteArray), (⟨#[45]⟩ : ByteArray), (⟨#[42]⟩ : ByteArray), (⟨#[60]⟩ : ByteArray), (⟨#[95]⟩ : ByteArray)]
theorem marks_eq (s : ByteArray) (a : Nat) (ha : a < s.size) : hasT marksT (s.extract a (a + 1)) = decide (bt s (a : Int) ∈ marksB) := by
  have h1 : ∀ c : UInt8, ((⟨#[c]⟩ : ByteArray).toList = (s.extract a (a + 1)).toList) ↔ bt s (a : Int) = (c.toNat : Int) := fun c => by
    rw [← list1 s a ha c, show (⟨#[c]⟩ : ByteArray).toList = [c] by rw [ByteArray.toList_eq]]
    exact eq_comm
  unfold hasT
  refine decide_eq_decide.2 ?_
  simp only [marksT, marksB, List.mem_cons, List.not_mem_nil, or_false, exists_eq_or_imp, exists_eq_left, h1]
  exact Iff.rfl

/-- A token, as both cut it. -/
def Tok (s : ByteArray) (a : Nat) (kd : Int) (w : ByteArray) (n : Nat) : Prop := (kd ≠ 0 ∧ 1 ≤ kd ∧ kd ≤ 5) ∧ 0 < n ∧ a + n ≤ s.size ∧ w = s.extract a (a + n) ∧ ∀ j : Nat, a ≤ j → j < a + n → bt s (j : Int) ≠ 10
theorem isB_ne (c : Int) (h : isB c = true) : c ≠ 10 := by
  rintro rfl
  revert h
  decide
theorem isD_ne (c : Int) (h : isD c = true) : c ≠ 10 := by
  rintro rfl
  revert h
  decide
theorem tok_both (s : ByteArray) (hs : s.size < 9223372036854775000) (a : Nat) (ha : a < s.size) :
    (∃ kd w n, Ev (fun k => impl_nextTok.f k (s.extract a s.size)) (kd, w, 0, 0, true) ∧ Ev (fun k => spec_l1Next.f k s (a : Int)) ((n : Nat), kd) ∧ Tok s a kd w n)
    ∨ ((∃ kd w, Ev (fun k => impl_nextTok.f k (s.extract a s.size)) (kd, w, 0, 0, false)) ∧ ∃ m, Ev (fun k => spec_l1Next.f k s (a : Int)) (m, 0)) := by
  have hz := ex_size s a s.size (by omega) (Nat.le_refl _)
  have hb0 : bt (s.extract a s.size) 0 = bt s (a : Int) := ex_bt s a s.size 0 (Nat.le_refl _) (by omega)
  have hp : ∀ n : Nat, a + n ≤ s.size → (s.extract a s.size).extract 0 n = s.extract a (a + n) := fun n hn => ex_ex s a n hn
  by_cases cL : isL (bt s (a : Int)) = true
  · -- a word
    obtain ⟨j, hj⟩ : ∃ j, j = runTo isB s (s.size - a) a := ⟨_, rfl⟩
    obtain ⟨h1, h2, hw⟩ := wd_run s (by omega) a ha cL j hj
    have hD : isD (bt s (a : Int)) = false := by
      unfold isL at cL
      have := of_decide_eq_true cL
      unfold isD
      exact decide_eq_false (by omega)
    have hrun : Ev (fun k => impl_runLen_both.f k (s.extract a s.size) 46000) ((j - a : Nat) : Int) := by
      have := run_b s (by omega) a (s.size - a) a (Nat.le_refl _) (by omega)
      rw [show a - a = 0 by omega, ← hj] at this
      exact this
    have hn := snext_w s (by omega) a j (by omega) h2 hw (s.size - a) a (Nat.le_refl _) (by omega) hj.symm
    have hspec : Ev (fun k => spec_l1Next.f k s (a : Int)) (((j - a : Nat) : Int), kindW (s.extract a j)) := by
      simp only [spec_l1Next.f, sDigit, sSmall, sLarge]
      refine Ev.pos (by omega) (Ev.pos (by omega) (Ev.bind (Ev.all rfl) (Ev.neg (by rw [hD]; decide) (Ev.bind (Ev.all rfl) ?_))))
      have hj1 : Ev (fun k => spec_l1Next.j1 k s (a : Int) (a : Int) true) (((j - a : Nat) : Int), kindW (s.extract a j)) := by
        refine Ev.succ ?_
        simp only [spec_l1Next.j1]
        exact Ev.pos trivial hn
      by_cases cS : isS (bt s (a : Int)) = true
      · exact Ev.pos cS hj1
      · refine Ev.neg cS (Ev.bind (Ev.all rfl) ?_)
        have : isG (bt s (a : Int)) = true := by rw [isL_eq] at cL; simpa [cS] using cL
        rw [this]; exact hj1
    have hex : (s.extract a s.size).extract 0 (j - a) = s.extract a j := by rw [hp (j - a) (by omega)]; congr 1; omega
    have hwz := ex_size s a j (by omega) h2
    have hb1 : bt (s.extract a j) 0 = bt s (a : Int) := ex_bt s a j 0 h2 (by omega)
    have htok : ∀ kd : Int, (kd ≠ 0 ∧ 1 ≤ kd ∧ kd ≤ 5) → Tok s a kd (s.extract a j) (j - a) := fun kd hk => ⟨hk, by omega, by omega, by congr 1; omega, fun q hq hq2 => isB_ne _ (runTo_in isB s (s.size - a) a q hq (by rw [← hj]; omega))⟩
    unfold kindW at hspec
    by_cases c4 : hasT wordsL (s.extract a j) = true
    · rw [if_pos c4] at hspec
      refine .inl ⟨4, s.extract a j, j - a, ?_, hspec, htok 4 (by decide)⟩
      simp only [impl_nextTok.f, iLetter, iDigit, iwords, hb0, hz]
      refine Ev.pos (by omega) (Ev.bind (Ev.all rfl) (Ev.pos cL (Ev.bind hrun (Ev.pos (by omega) (Ev.pos (by omega) (Ev.bind (Ev.all rfl) ?_))))))
      rw [Int.toNat_natCast, hex]
      exact Ev.bind (icon wordsL (by decide) _) (Ev.pos c4 (Ev.const _))
    · rw [if_neg c4] at hspec
      have c4f := Bool.eq_false_iff.2 c4
      have hN := iname _ hw c4f
      have hG := igreat _ hw
      by_cases c8 : (s.extract a j).size ≤ 8
      · rw [if_pos c8] at hspec
        by_cases c97 : bt (s.extract a j) 0 ≥ 97
        · rw [if_pos c97] at hspec
          rw [decide_eq_true (show (s.extract a j).size ≤ 8 ∧ bt (s.extract a j) 0 ≥ 97 from ⟨c8, c97⟩)] at hN
          refine .inl ⟨1, s.extract a j, j - a, ?_, hspec, htok 1 (by decide)⟩
          simp only [impl_nextTok.f, iLetter, iDigit, iwords, hb0, hz]
          refine Ev.pos (by omega) (Ev.bind (Ev.all rfl) (Ev.pos cL (Ev.bind hrun (Ev.pos (by omega) (Ev.pos (by omega) (Ev.bind (Ev.all rfl) ?_))))))
          rw [Int.toNat_natCast, hex]
          exact Ev.bind (icon wordsL (by decide) _) (Ev.neg c4 (Ev.bind hN (Ev.pos rfl (Ev.const _))))
        · rw [if_neg c97] at hspec
          rw [decide_eq_false (show ¬ ((s.extract a j).size ≤ 8 ∧ bt (s.extract a j) 0 ≥ 97) from fun h => c97 h.2)] at hN
          have h90 : bt (s.extract a j) 0 ≤ 90 := by
            rw [hb1] at c97 ⊢
            unfold isL at cL
            have := of_decide_eq_true cL
            omega
          rw [decide_eq_true (show (s.extract a j).size ≤ 8 ∧ bt (s.extract a j) 0 ≤ 90 from ⟨c8, h90⟩)] at hG
          refine .inl ⟨2, s.extract a j, j - a, ?_, hspec, htok 2 (by decide)⟩
          simp only [impl_nextTok.f, iLetter, iDigit, iwords, hb0, hz]
          refine Ev.pos (by omega) (Ev.bind (Ev.all rfl) (Ev.pos cL (Ev.bind hrun (Ev.pos (by omega) (Ev.pos (by omega) (Ev.bind (Ev.all rfl) ?_))))))
          rw [Int.toNat_natCast, hex]
          exact Ev.bind (icon wordsL (by decide) _) (Ev.neg c4 (Ev.bind hN (Ev.neg (by decide) (Ev.bind hG (Ev.const _)))))
      · rw [if_neg c8] at hspec
        rw [decide_eq_false (show ¬ ((s.extract a j).size ≤ 8 ∧ bt (s.extract a j) 0 ≥ 97) from fun h => c8 h.1)] at hN
        rw [decide_eq_false (show ¬ ((s.extract a j).size ≤ 8 ∧ bt (s.extract a j) 0 ≤ 90) from fun h => c8 h.1)] at hG
        refine .inr ⟨⟨2, s.extract a j, ?_⟩, _, hspec⟩
        simp only [impl_nextTok.f, iLetter, iDigit, iwords, hb0, hz]
        refine Ev.pos (by omega) (Ev.bind (Ev.all rfl) (Ev.pos cL (Ev.bind hrun (Ev.pos (by omega) (Ev.pos (by omega) (Ev.bind (Ev.all rfl) ?_))))))
        rw [Int.toNat_natCast, hex]
        exact Ev.bind (icon wordsL (by decide) _) (Ev.neg c4 (Ev.bind hN (Ev.neg (by decide) (Ev.bind hG (Ev.const _)))))
  · have hS : isS (bt s (a : Int)) = false := by rw [isL_eq] at cL; simp at cL; exact cL.1
    have hG : isG (bt s (a : Int)) = false := by rw [isL_eq] at cL; simp at cL; exact cL.2
    by_cases cD : isD (bt s (a : Int)) = true
    · -- a number
      obtain ⟨j, hj⟩ : ∃ j, j = runTo isD s (s.size - a) a := ⟨_, rfl⟩
      have h1 : a < j := by
        rw [hj, show s.size - a = (s.size - a - 1) + 1 by omega]
        exact runTo_pos isD s _ a ha cD
      have h2 : j ≤ s.size := by rw [hj]; exact runTo_le isD s _ a (by omega)
      have hwz := ex_size s a j (by omega) h2
      have hall : ∀ i : Nat, i < (s.extract a j).size → isD (bt (s.extract a j) (i : Int)) = true := fun i hi => by
        rw [ex_bt s a j i h2 (by omega)]
        exact runTo_in isD s (s.size - a) a (a + i) (by omega) (by rw [← hj]; omega)
      have hrun : Ev (fun k => impl_runLen_digit.f k (s.extract a s.size) 47000) ((j - a : Nat) : Int) := by
        have := run_d s (by omega) a (s.size - a) a (Nat.le_refl _) (by omega)
        rw [show a - a = 0 by omega, ← hj] at this
        exact this
      have hn := snext_d s (by omega) a j h1 h2 hall (s.size - a) a (Nat.le_refl _) (by omega) hj.symm
      have hspec : Ev (fun k => spec_l1Next.f k s (a : Int)) (if numW (s.extract a j) = true then (((j - a : Nat) : Int), (3 : Int)) else (0, 0)) := by
        simp only [spec_l1Next.f, sDigit, sSmall, sLarge]
        exact Ev.pos (by omega) (Ev.pos (by omega) (Ev.bind (Ev.all rfl) (Ev.pos cD hn)))
      have hex : (s.extract a s.size).extract 0 (j - a) = s.extract a j := by rw [hp (j - a) (by omega)]; congr 1; omega
      have himpl : Ev (fun k => impl_nextTok.f k (s.extract a s.size)) (3, s.extract a j, 0, 0, numW (s.extract a j)) := by
        simp only [impl_nextTok.f, iLetter, iDigit, iwords, hb0, hz]
        refine Ev.pos (by omega) (Ev.bind (Ev.all rfl) (Ev.neg cL (Ev.bind (Ev.all rfl) (Ev.pos cD (Ev.bind hrun (Ev.pos (by omega) (Ev.pos (by omega) ?_)))))))
        rw [Int.toNat_natCast, hex]
        exact Ev.bind (Ev.all (inum _ (by omega))) (Ev.const _)
      by_cases cn : numW (s.extract a j) = true
      · rw [if_pos cn] at hspec
        rw [cn] at himpl
        exact .inl ⟨3, s.extract a j, j - a, himpl, hspec, by decide, by omega, by omega, by congr 1; omega, fun q hq hq2 => isD_ne _ (runTo_in isD s (s.size - a) a q hq (by rw [← hj]; omega))⟩
      · rw [if_neg cn] at hspec
        rw [Bool.eq_false_iff.2 cn] at himpl
        exact .inr ⟨⟨3, s.extract a j, himpl⟩, 0, hspec⟩
    · -- a mark
      have cDf := Bool.eq_false_iff.2 cD
      have hsp : ∀ {r}, Ev (fun k => spec_l1Next.j1 k s (a : Int) (a : Int) false) r → Ev (fun k => spec_l1Next.f k s (a : Int)) r := fun {r} h => by
        simp only [spec_l1Next.f, sDigit, sSmall, sLarge]
        refine Ev.pos (by omega) (Ev.pos (by omega) (Ev.bind (Ev.all rfl) (Ev.neg cD (Ev.bind (Ev.all rfl) (Ev.neg (by rw [hS]; decide) (Ev.bind (Ev.all rfl) ?_))))))
        rw [hG]; exact h
      have w2 : wrap64 ((a : Int) + 2) = ((a + 2 : Nat) : Int) := by rw [wrap_id (by omega) (by omega)]; omega
      have w1 : wrap64 ((a : Int) + 1) = ((a + 1 : Nat) : Int) := wrap_succ (by omega)
      have p1 := prefix2 s a (by omega) 45 62
      have p2 := prefix2 s a (by omega) 61 61
      have n45 : ((45 : UInt8).toNat : Int) = 45 := rfl
      have n62 : ((62 : UInt8).toNat : Int) = 62 := rfl
      have n61 : ((61 : UInt8).toNat : Int) = 61 := rfl
      rw [n45, n62] at p1
      rw [n61] at p2
      by_cases ca : a + 2 ≤ s.size ∧ bt s (a : Int) = 45 ∧ bt s ((a + 1 : Nat) : Int) = 62
      · rw [decide_eq_true ca] at p1
        refine .inl ⟨5, s.extract a (a + 2), 2, ?_, hsp ?_, by decide, by omega, ca.1, rfl, fun q hq hq2 => ?_⟩
        · simp only [impl_nextTok.f, iLetter, iDigit, iwords, hb0, hz]
          refine Ev.pos (by omega) (Ev.bind (Ev.all rfl) (Ev.neg cL (Ev.bind (Ev.all rfl) (Ev.neg cD (Ev.bind (Ev.all p1) (Ev.pos rfl (Ev.pos (by omega) (Ev.pos (by omega) ?_))))))))
          rw [hp 2 ca.1]
          exact Ev.const _
        · refine Ev.succ ?_
          simp only [spec_l1Next.j1, w2, Int.toNat_natCast]
          refine Ev.neg (by decide) (Ev.pos (by omega) (Ev.pos (by omega) (Ev.pos (by omega) (Ev.pos ((list2 s a ca.1 45 62).2 ca.2) (Ev.succ ?_)))))
          simp only [spec_l1Next.j3]
          exact Ev.pos trivial (Ev.const _)
        · rcases (show q = a ∨ q = a + 1 by omega) with rfl | rfl
          · rw [ca.2.1]; decide
          · rw [ca.2.2]; decide
      · rw [decide_eq_false ca] at p1
        by_cases cb : a + 2 ≤ s.size ∧ bt s (a : Int) = 61 ∧ bt s ((a + 1 : Nat) : Int) = 61
        · rw [decide_eq_true cb] at p2
          refine .inl ⟨5, s.extract a (a + 2), 2, ?_, hsp ?_, by decide, by omega, cb.1, rfl, fun q hq hq2 => ?_⟩
          · simp only [impl_nextTok.f, iLetter, iDigit, iwords, hb0, hz]
            refine Ev.pos (by omega) (Ev.bind (Ev.all rfl) (Ev.neg cL (Ev.bind (Ev.all rfl) (Ev.neg cD (Ev.bind (Ev.all p1) (Ev.neg (by decide) (Ev.bind (Ev.all p2) (Ev.pos rfl (Ev.pos (by omega) (Ev.pos (by omega) ?_))))))))))
            rw [hp 2 cb.1]
            exact Ev.const _
          · refine Ev.succ ?_
            simp only [spec_l1Next.j1, w2, Int.toNat_natCast]
            refine Ev.neg (by decide) (Ev.pos (by omega) (Ev.pos (by omega) (Ev.pos (by omega) (Ev.neg (fun h => ca ⟨cb.1, (list2 s a cb.1 45 62).1 h⟩) ?_))))
            rw [beq_iff_eq.2 ((list2 s a cb.1 61 61).2 cb.2)]
            refine Ev.succ ?_
            simp only [spec_l1Next.j3]
            exact Ev.pos trivial (Ev.const _)
          · rcases (show q = a ∨ q = a + 1 by omega) with rfl | rfl
            · rw [cb.2.1]; decide
            · rw [cb.2.2]; decide
        · rw [decide_eq_false cb] at p2
          have hm := marks_eq s a ha
          have himpl : Ev (fun k => impl_nextTok.f k (s.extract a s.size)) (5, s.extract a (a + 1), 0, 0, decide (bt s (a : Int) ∈ marksB)) := by
            simp only [impl_nextTok.f, iLetter, iDigit, iwords, hb0, hz]
            refine Ev.pos (by omega) (Ev.bind (Ev.all rfl) (Ev.neg cL (Ev.bind (Ev.all rfl) (Ev.neg cD (Ev.bind (Ev.all p1) (Ev.neg (by decide) (Ev.bind (Ev.all p2) (Ev.neg (by decide) (Ev.pos (by omega) (Ev.pos (by omega) (Ev.bind (ibytes marksB (by decide) _) ?_)))))))))))
            rw [hp 1 (by omega)]
            exact Ev.const _
          have hj3 : Ev (fun k => spec_l1Next.j3 k s (a : Int) false) (if bt s (a : Int) ∈ marksB then ((1 : Int), (5 : Int)) else (0, 0)) := by
            refine Ev.succ ?_
            simp only [spec_l1Next.j3, w1, Int.toNat_natCast]
            refine Ev.neg (by decide) (Ev.pos (by omega) (Ev.pos (by omega) (Ev.pos (by omega) (Ev.bind (a := decide (bt s (a : Int) ∈ marksB)) ?_ ?_))))
            · rw [← hm]
              exact shas marksT (by decide) (s.extract a (a + 1)) marksT.length 0 (by omega)
            · by_cases cm : bt s (a : Int) ∈ marksB
              · simp only [if_pos cm, decide_eq_true cm, if_true]; exact Ev.const _
              · simp only [if_neg cm, decide_eq_false cm, Bool.false_eq_true, if_false]; exact Ev.const _
          have hspec : Ev (fun k => spec_l1Next.f k s (a : Int)) (if bt s (a : Int) ∈ marksB then ((1 : Int), (5 : Int)) else (0, 0)) := by
            refine hsp (Ev.succ ?_)
            simp only [spec_l1Next.j1, w2, Int.toNat_natCast]
            refine Ev.neg (by decide) ?_
            by_cases c2 : a + 2 ≤ s.size
            · refine Ev.pos (by omega) (Ev.pos (by omega) (Ev.pos (by omega) (Ev.neg (fun h => ca ⟨c2, (list2 s a c2 45 62).1 h⟩) ?_)))
              rw [show ((s.extract a (a + 2)).toList == [61, 61]) = false from beq_eq_false_iff_ne.2 (fun h => cb ⟨c2, (list2 s a c2 61 61).1 h⟩)]
              exact hj3
            · exact Ev.neg (by omega) hj3
          by_cases cm : bt s (a : Int) ∈ marksB
          · rw [if_pos cm] at hspec
            rw [decide_eq_true cm] at himpl
            refine .inl ⟨5, s.extract a (a + 1), 1, himpl, hspec, by decide, by omega, by omega, rfl, fun q hq hq2 => ?_⟩
            obtain rfl : q = a := by omega
            intro e
            rw [e] at cm
            revert cm
            decide
          · rw [if_neg cm] at hspec
            rw [decide_eq_false cm] at himpl
            exact .inr ⟨⟨5, _, himpl⟩, 0, hspec⟩

/-! #### what is passed over -/
def dash (s : ByteArray) (a : Nat) : Prop := a + 2 ≤ s.size ∧ bt s (a : Int) = 45 ∧ bt s ((a + 1 : Nat) : Int) = 45
instance (s : ByteArray) (a : Nat) : Decidable (dash s a) := by unfold dash; infer_instance
def pas (s : ByteArray) (a : Nat) : Nat := if bt s (a : Int) = 32 ∨ bt s (a : Int) = 10 then 1 else (if dash s a then runTo notNl s (s.size - a) a - a else 0)
theorem dash_run (s : ByteArray) (a : Nat) (h : dash s a) : a < runTo notNl s (s.size - a) a ∧ runTo notNl s (s.size - a) a ≤ s.size := by
  have h1 : a < s.size := by have := h.1; omega
  refine ⟨?_, runTo_le notNl s _ a (by omega)⟩
  rw [show s.size - a = (s.size - a - 1) + 1 by omega]
  exact runTo_pos notNl s _ a h1 (by unfold notNl; rw [h.2.1]; decide)
theorem pas_le (s : ByteArray) (a : Nat) (h : a < s.size) : a + pas s a ≤ s.size := by
  unfold pas
  split
  · omega
  · split
    · rename_i hd; have := dash_run s a hd; omega
    · omega
theorem ipas (s : ByteArray) (hs : s.size < 9223372036854775000) (a : Nat) (ha : a < s.size) : Ev (fun k => impl_passed.f k (s.extract a s.size)) ((pas s a : Nat) : Int) := by
  have hz := ex_size s a s.size (by omega) (Nat.le_refl _)
  have hb0 : bt (s.extract a s.size) 0 = bt s (a : Int) := ex_bt s a s.size 0 (Nat.le_refl _) (by omega)
  have p1 := prefix2 s a (by omega) 45 45
  rw [show ((45 : UInt8).toNat : Int) = 45 from rfl] at p1
  have hj1 : Ev (fun k => impl_passed.j0 k (s.extract a s.size) true) 1 := by
    refine Ev.succ ?_
    simp only [impl_passed.j0]
    exact Ev.pos trivial (Ev.const _)
  simp only [impl_passed.f, hb0, hz]
  refine Ev.pos (by omega) ?_
  unfold pas
  by_cases c1 : bt s (a : Int) = 32
  · rw [if_pos (.inl c1)]
    exact Ev.pos c1 hj1
  refine Ev.neg c1 ?_
  by_cases c2 : bt s (a : Int) = 10
  · rw [if_pos (.inr c2), show (bt s (a : Int) == 10) = true from beq_iff_eq.2 c2]
    exact hj1
  rw [if_neg (fun h => h.elim c1 c2), show (bt s (a : Int) == 10) = false from beq_eq_false_iff_ne.2 c2]
  refine Ev.succ ?_
  simp only [impl_passed.j0]
  refine Ev.neg (by decide) (Ev.bind (Ev.all p1) ?_)
  by_cases c3 : dash s a
  · rw [if_pos c3]
    have hrun : Ev (fun k => impl_runLen_line.f k (s.extract a s.size) 44000) ((runTo notNl s (s.size - a) a - a : Nat) : Int) := by
      have := run_l s (by omega) a (s.size - a) a (Nat.le_refl _) (by omega)
      rw [show a - a = 0 by omega] at this
      exact this
    exact Ev.pos (decide_eq_true c3) (Ev.bind hrun (Ev.const _))
  · rw [if_neg c3]
    exact Ev.neg (fun h => c3 (of_decide_eq_true h)) (Ev.const _)
theorem skip_run (s : ByteArray) (hs : s.size < 9223372036854775000) (r : Int) : ∀ (d i : Nat), i + d = s.size → Ev (fun k => spec_l1Skip.l0 k s ((runTo notNl s d i : Nat) : Int)) r → Ev (fun k => spec_l1Skip.l1 k s (i : Int)) r := by
  intro d
  induction d with
  | zero =>
    intro i hi h
    refine Ev.succ ?_
    simp only [spec_l1Skip.l1]
    exact Ev.neg (by omega) h
  | succ d ih =>
    intro i hi h
    refine Ev.succ ?_
    simp only [spec_l1Skip.l1, wrap_succ (by omega : i < 9223372036854775807)]
    refine Ev.pos (by omega) (Ev.pos (by omega) ?_)
    unfold runTo at h
    by_cases c : notNl (bt s (i : Int)) = true
    · rw [if_pos ⟨by omega, c⟩] at h
      exact Ev.neg (by unfold notNl at c; simpa using c) (ih (i + 1) (by omega) h)
    · rw [if_neg (fun q => c q.2)] at h
      exact Ev.pos (by unfold notNl at c; simpa using c) h
theorem skip_j (s : ByteArray) (hs : s.size < 9223372036854775000) (a : Nat) (ha : a < s.size) (r : Int) (hd : dash s a → Ev (fun k => spec_l1Skip.j1 k s (a : Int) true) r) (hn : ¬ dash s a → Ev (fun k => spec_l1Skip.j1 k s (a : Int) false) r) : Ev (fun k => spec_l1Skip.l0 k s (a : Int)) r := by
  have w2 : wrap64 ((a : Int) + 2) = ((a + 2 : Nat) : Int) := by rw [wrap_id (by omega) (by omega)]; omega
  refine Ev.succ ?_
  simp only [spec_l1Skip.l0, w2, Int.toNat_natCast]
  refine Ev.pos (by omega) ?_
  by_cases c : a + 2 ≤ s.size
  · refine Ev.pos (by omega) (Ev.pos (by omega) (Ev.pos (by omega) ?_))
    have hl := list2 s a c 45 45
    rw [show ((45 : UInt8).toNat : Int) = 45 from rfl] at hl
    by_cases c2 : dash s a
    · rw [beq_iff_eq.2 (hl.2 c2.2)]
      exact hd c2
    · rw [show ((s.extract a (a + 2)).toList == [45, 45]) = false from beq_eq_false_iff_ne.2 (fun h => c2 ⟨c, hl.1 h⟩)]
      exact hn c2
  · exact Ev.neg (by omega) (hn (fun h => c h.1))
theorem skip_step (s : ByteArray) (hs : s.size < 9223372036854775000) (a : Nat) (ha : a < s.size) (hp : 0 < pas s a) (r : Int) (h : Ev (fun k => spec_l1Skip.l0 k s ((a + pas s a : Nat) : Int)) r) : Ev (fun k => spec_l1Skip.l0 k s (a : Int)) r := by
  unfold pas at hp h
  refine skip_j s hs a ha r (fun hd => ?_) (fun hn => ?_)
  · have hne : ¬ (bt s (a : Int) = 32 ∨ bt s (a : Int) = 10) := by have := hd.2.1; omega
    rw [if_neg hne, if_pos hd] at h
    have hdr := dash_run s a hd
    rw [show a + (runTo notNl s (s.size - a) a - a) = runTo notNl s (s.size - a) a by omega] at h
    refine Ev.succ ?_
    simp only [spec_l1Skip.j1]
    exact Ev.pos trivial (skip_run s hs r (s.size - a) a (by omega) h)
  · rw [if_neg hn] at hp h
    by_cases c : bt s (a : Int) = 32 ∨ bt s (a : Int) = 10
    · rw [if_pos c] at h
      refine Ev.succ ?_
      simp only [spec_l1Skip.j1, wrap_succ (by omega : a < 9223372036854775807)]
      refine Ev.neg (by decide) (Ev.pos (by omega) (Ev.pos (by omega) ?_))
      by_cases c2 : bt s (a : Int) = 32
      · exact Ev.pos c2 h
      · exact Ev.neg c2 (Ev.pos (c.resolve_left c2) h)
    · rw [if_neg c] at hp
      omega
theorem skip_stop (s : ByteArray) (hs : s.size < 9223372036854775000) (a : Nat) (h : s.size ≤ a ∨ (a < s.size ∧ pas s a = 0)) : Ev (fun k => spec_l1Skip.l0 k s (a : Int)) (a : Int) := by
  rcases h with h | ⟨ha, hp⟩
  · refine Ev.succ ?_
    simp only [spec_l1Skip.l0]
    exact Ev.neg (by omega) (Ev.const _)
  · unfold pas at hp
    by_cases c : bt s (a : Int) = 32 ∨ bt s (a : Int) = 10
    · rw [if_pos c] at hp; omega
    rw [if_neg c] at hp
    refine skip_j s hs a ha _ (fun hd => ?_) (fun hn => ?_)
    · rw [if_pos hd] at hp
      have := dash_run s a hd
      omega
    · refine Ev.succ ?_
      simp only [spec_l1Skip.j1]
      exact Ev.neg (by decide) (Ev.pos (by omega) (Ev.pos (by omega) (Ev.neg (fun h => c (.inl h)) (Ev.neg (fun h => c (.inr h)) (Ev.const _)))))
/-! #### lines -/
def nlb (s : ByteArray) : Nat → Int × Int
  | 0 => (1, 0)
  | i + 1 => if bt s (i : Int) = 10 then ((nlb s i).1 + 1, (i : Int) + 1) else nlb s i
theorem nlb_bound (s : ByteArray) : ∀ i : Nat, 1 ≤ (nlb s i).1 ∧ (nlb s i).1 ≤ (i : Int) + 1 ∧ 0 ≤ (nlb s i).2 ∧ (nlb s i).2 ≤ (i : Int)
  | 0 => by simp [nlb]
  | i + 1 => by
    have := nlb_bound s i
    unfold nlb
    split
    · simp; omega
    · omega
theorem nlb_same (s : ByteArray) (a : Nat) : ∀ n : Nat, (∀ j : Nat, a ≤ j → j < a + n → bt s (j : Int) ≠ 10) → nlb s (a + n) = nlb s a
  | 0, _ => rfl
  | n + 1, h => by
    have := nlb_same s a n (fun j h1 h2 => h j h1 (by omega))
    rw [show nlb s (a + (n + 1)) = if bt s ((a + n : Nat) : Int) = 10 then ((nlb s (a + n)).1 + 1, ((a + n : Nat) : Int) + 1) else nlb s (a + n) from rfl, if_neg (h (a + n) (by omega) (by omega))]
    exact this

/-! #### the two lexers -/
theorem Ev.unbind {α β : Type} {g : Nat → Option α} {f : Nat → α → Option β} {a : α} {r : β} (h : Ev g a) (hb : Ev (fun k => (g k).bind (f k)) r) : Ev (fun k => f k a) r := by
  obtain ⟨K, h⟩ := h
  obtain ⟨L, hb⟩ := hb
  exact ⟨max K L, fun k hk => by
    have h1 := hb k (by omega)
    have e := h k (by omega)
    show f k a = some r
    rw [← h1]
    show f k a = (g k).bind (f k)
    rw [e]
    rfl⟩
theorem skip_ok (s : ByteArray) (hs : s.size < 9223372036854775000) : ∀ (d a : Nat), s.size - a ≤ d → ∃ t, Ev (fun k => spec_l1Skip.l0 k s (a : Int)) t := by
  intro d
  induction d with
  | zero => intro a h; exact ⟨_, skip_stop s hs a (.inl (by omega))⟩
  | succ d ih =>
    intro a h
    by_cases ha : a < s.size
    · by_cases hp : pas s a = 0
      · exact ⟨_, skip_stop s hs a (.inr ⟨ha, hp⟩)⟩
      · obtain ⟨t, e⟩ := ih (a + pas s a) (by omega)
        exact ⟨t, skip_step s hs a ha (by omega) t e⟩
    · exact ⟨_, skip_stop s hs a (.inl (by omega))⟩
theorem lex_end (s : ByteArray) (hs : s.size ≤ 1500) (acc : List S30) (hacc : acc.length ≤ 5000) (l b : Int) : Ev (fun k => impl_Lex.l0 k s acc l b (s.size : Int)) (if 400 ≤ acc.length then (([] : List S30), false) else (acc ++ [⟨6, ⟨#[]⟩, l, wrap64 (wrap64 ((s.size : Int) - b) + 1)⟩], true)) := by
  refine Ev.succ ?_
  simp only [impl_Lex.l0]
  refine Ev.neg (by omega) (Ev.pos (by omega) (Ev.bind (Ev.all rfl) ?_))
  have hl : (acc ++ [(⟨6, ⟨#[]⟩, l, wrap64 (wrap64 ((s.size : Int) - b) + 1)⟩ : S30)]).length = acc.length + 1 := by simp
  by_cases c : 400 ≤ acc.length
  · rw [if_pos c]
    exact Ev.pos (by rw [hl]; omega) (Ev.const _)
  · rw [if_neg c]
    exact Ev.neg (by rw [hl]; omega) (Ev.const _)
theorem lex_big (s : ByteArray) (hs : s.size ≤ 1500) : ∀ (d a : Nat) (acc : List S30) (l b : Int), s.size - a ≤ d → a ≤ s.size → 400 ≤ acc.length → acc.length + (s.size - a) ≤ 5000 → Ev (fun k => impl_Lex.l0 k s acc l b (a : Int)) (([] : List S30), false) := by
  intro d
  induction d with
  | zero =>
    intro a acc l b h1 h2 h3 h4
    obtain rfl : a = s.size := by omega
    have := lex_end s hs acc (by omega) l b
    rw [if_pos h3] at this
    exact this
  | succ d ih =>
    intro a acc l b h1 h2 h3 h4
    by_cases ha : a < s.size
    · have hpl := pas_le s a ha
      refine Ev.succ ?_
      simp only [impl_Lex.l0, Int.toNat_natCast]
      refine Ev.pos (by omega) (Ev.pos (by omega) (Ev.pos (by omega) (Ev.bind (ipas s (by omega) a ha) ?_)))
      by_cases hp : pas s a = 0
      · refine Ev.neg (by omega) ?_
        rcases tok_both s (by omega) a ha with ⟨kd, w, n, e1, e2, ht⟩ | ⟨⟨kd, w, e1⟩, m, e2⟩
        · obtain ⟨hk, hn, han, hw, hnl⟩ := ht
          have hwz : w.size = n := by rw [hw, ex_size s a (a + n) (by omega) han]; omega
          refine Ev.bind e1 (Ev.pos rfl (Ev.pos (by omega) ?_))
          rw [hwz, show wrap64 ((a : Int) + (n : Int)) = ((a + n : Nat) : Int) by rw [wrap_id (by omega) (by omega)]; omega]
          exact ih (a + n) _ _ _ (by omega) han (by simp; omega) (by simp; omega)
        · exact Ev.bind e1 (Ev.neg (show ¬ (false = true) by decide) (Ev.const _))
      · refine Ev.pos (by omega) ?_
        rw [show wrap64 ((a : Int) + ((pas s a : Nat) : Int)) = ((a + pas s a : Nat) : Int) by rw [wrap_id (by omega) (by omega)]; omega]
        by_cases c : bt s (a : Int) = 10
        · exact Ev.pos c (ih _ _ _ _ (by omega) hpl h3 (by omega))
        · exact Ev.neg c (ih _ _ _ _ (by omega) hpl h3 (by omega))
    · obtain rfl : a = s.size := by omega
      have := lex_end s hs acc (by omega) l b
      rw [if_pos h3] at this
      exact this
theorem place_ok (s : ByteArray) (hs : s.size ≤ 1500) : ∀ (d i : Nat), i + d = s.size → Ev (fun k => spec_l1Place.l0 k s (s.size : Int) (nlb s i).1 ((i : Int) - (nlb s i).2 + 1) (i : Int)) ((nlb s s.size).1, (s.size : Int) - (nlb s s.size).2 + 1) := by
  intro d
  induction d with
  | zero =>
    intro i hi
    obtain rfl : i = s.size := by omega
    refine Ev.succ ?_
    simp only [spec_l1Place.l0]
    exact Ev.neg (by omega) (Ev.const _)
  | succ d ih =>
    intro i hi
    have hb := nlb_bound s i
    have h := ih (i + 1) (by omega)
    refine Ev.succ ?_
    simp only [spec_l1Place.l0, wrap_succ (by omega : i < 9223372036854775807)]
    refine Ev.pos (by omega) (Ev.pos (by omega) (Ev.pos (by omega) ?_))
    rw [show nlb s (i + 1) = if bt s (i : Int) = 10 then ((nlb s i).1 + 1, (i : Int) + 1) else nlb s i from rfl] at h
    by_cases c : bt s (i : Int) = 10
    · rw [if_pos c] at h
      rw [wrap_id (by omega) (by omega)]
      rw [show ((i + 1 : Nat) : Int) - ((nlb s i).1 + 1, (i : Int) + 1).2 + 1 = 1 by show ((i + 1 : Nat) : Int) - ((i : Int) + 1) + 1 = 1; omega] at h
      exact Ev.pos c h
    · rw [if_neg c] at h
      rw [show wrap64 ((i : Int) - (nlb s i).2 + 1 + 1) = ((i + 1 : Nat) : Int) - (nlb s i).2 + 1 by rw [wrap_id (by omega) (by omega)]; omega]
      exact Ev.neg c h
theorem adv (s : ByteArray) (hs : s.size ≤ 1500) (acc : List S30) (a : Nat) (ha : a < s.size) (n kd : Int) (r : List S30 × Bool) (h : Ev (fun k => spec_Lex.l1 k s acc (nlb s a).1 (nlb s a).2 (a : Int) n kd (a : Int)) r) : ∀ (e i : Nat), i + e = a → Ev (fun k => spec_Lex.l1 k s acc (nlb s i).1 (nlb s i).2 (a : Int) n kd (i : Int)) r := by
  intro e
  induction e with
  | zero =>
    intro i hi
    obtain rfl : i = a := by omega
    exact h
  | succ e ih =>
    intro i hi
    have hb := nlb_bound s i
    have h1 := ih (i + 1) (by omega)
    refine Ev.succ ?_
    simp only [spec_Lex.l1, wrap_succ (by omega : i < 9223372036854775807)]
    refine Ev.pos (by omega) (Ev.pos (by omega) (Ev.pos (by omega) ?_))
    rw [show nlb s (i + 1) = if bt s (i : Int) = 10 then ((nlb s i).1 + 1, (i : Int) + 1) else nlb s i from rfl] at h1
    by_cases c : bt s (i : Int) = 10
    · rw [if_pos c] at h1
      rw [wrap_id (by omega) (by omega)]
      exact Ev.pos c h1
    · rw [if_neg c] at h1
      exact Ev.neg c h1
/-- What is told of a token: its parts are in their ranges; a name stands at its line and column. -/
structure TokAt (s : ByteArray) (t : S30) : Prop where
  k : 1 ≤ t.f0 ∧ t.f0 ≤ 6
  w : t.f1.size ≤ 1500
  l : 1 ≤ t.f2 ∧ t.f2 ≤ 1501
  c : 1 ≤ t.f3 ∧ t.f3 ≤ 1501
  at_ : t.f0 ≠ 6 → ∃ a n : Nat, 0 < n ∧ a + n ≤ s.size ∧ t.f1 = s.extract a (a + n) ∧ (∀ j : Nat, a ≤ j → j < a + n → bt s (j : Int) ≠ 10) ∧ t.f2 = (nlb s a).1 ∧ t.f3 = (a : Int) - (nlb s a).2 + 1
set_option maxHeartbeats 2000000 in
theorem sim (s : ByteArray) (hs : s.size ≤ 1500) : ∀ (d a : Nat) (acc : List S30) (last : Nat), s.size - a ≤ d → a ≤ s.size → last ≤ a → acc.length + (s.size - a) ≤ 5000 →
    ∃ R, Ev (fun k => impl_Lex.l0 k s acc (nlb s a).1 (nlb s a).2 (a : Int)) R ∧ Ev (fun k => (spec_l1Skip.f k s (a : Int)).bind fun t => spec_Lex.l0 k s acc (nlb s last).1 (nlb s last).2 (last : Int) t) R ∧ R.1.length ≤ 6000 ∧ ((∀ t ∈ acc, TokAt s t) → ∀ t ∈ R.1, TokAt s t) := by
  have hend : ∀ (acc : List S30) (last : Nat), last ≤ s.size → acc.length ≤ 5000 → ∃ R, Ev (fun k => impl_Lex.l0 k s acc (nlb s s.size).1 (nlb s s.size).2 (s.size : Int)) R ∧ Ev (fun k => (spec_l1Skip.f k s (s.size : Int)).bind fun t => spec_Lex.l0 k s acc (nlb s last).1 (nlb s last).2 (last : Int) t) R ∧ R.1.length ≤ 6000 ∧ ((∀ t ∈ acc, TokAt s t) → ∀ t ∈ R.1, TokAt s t) := by
    intro acc last hl hacc
    have hb_ := nlb_bound s s.size
    refine ⟨_, lex_end s hs acc hacc _ _, ?_, by split <;> simp <;> omega, fun hA t ht => ?_⟩
    rotate_left
    · split at ht
      · cases ht
      · rw [List.mem_append] at ht
        rcases ht with ht | ht
        · exact hA t ht
        · rw [List.mem_singleton] at ht
          subst ht
          have hw_ : wrap64 (wrap64 ((s.size : Int) - (nlb s s.size).2) + 1) = (s.size : Int) - (nlb s s.size).2 + 1 := by rw [wrap_id (x := (s.size : Int) - (nlb s s.size).2) (by omega) (by omega), wrap_id (by omega) (by omega)]
          exact ⟨⟨show (1 : Int) ≤ 6 by decide, show (6 : Int) ≤ 6 by decide⟩, Nat.zero_le _, ⟨by have := hb_.1; simpa using this, by have := hb_.2.1; simp only; omega⟩, ⟨by simp only; omega, by simp only; omega⟩, fun h => absurd rfl h⟩
    refine Ev.bind (skip_stop s (by omega) s.size (.inl (Nat.le_refl _))) (Ev.succ ?_)
    simp only [spec_Lex.l0]
    refine Ev.neg (by omega) (Ev.succ ?_)
    simp only [spec_Lex.j1]
    refine Ev.neg (by decide) (Ev.neg (by omega) ?_)
    by_cases c : 400 ≤ acc.length
    · rw [if_pos c]
      exact Ev.pos (by omega) (Ev.const _)
    · rw [if_neg c]
      have hb := nlb_bound s s.size
      have hp := place_ok s hs s.size 0 (by omega)
      rw [show ((0 : Nat) : Int) - (nlb s 0).2 + 1 = 1 from rfl, show (nlb s 0).1 = 1 from rfl] at hp
      rw [show wrap64 (wrap64 ((s.size : Int) - (nlb s s.size).2) + 1) = (s.size : Int) - (nlb s s.size).2 + 1 by rw [wrap_id (x := (s.size : Int) - (nlb s s.size).2) (by omega) (by omega), wrap_id (by omega) (by omega)]]
      exact Ev.neg (by omega) (Ev.bind hp (Ev.pos (by omega) (Ev.const _)))
  intro d
  induction d with
  | zero =>
    intro a acc last h1 h2 h3 h4
    obtain rfl : a = s.size := by omega
    exact hend acc last h3 (by omega)
  | succ d ih =>
    intro a acc last h1 h2 h3 h4
    by_cases ha : a < s.size
    · have hpl := pas_le s a ha
      by_cases hp : pas s a = 0
      · have hskip := skip_stop s (by omega) a (.inr ⟨ha, hp⟩)
        -- the spec's two first rounds
        have hs0 : ∀ {R}, Ev (fun k => spec_Lex.j1 k s acc (nlb s last).1 (nlb s last).2 (last : Int) (a : Int) true) R → Ev (fun k => (spec_l1Skip.f k s (a : Int)).bind fun t => spec_Lex.l0 k s acc (nlb s last).1 (nlb s last).2 (last : Int) t) R := fun {R} h => by
          refine Ev.bind hskip (Ev.succ ?_)
          simp only [spec_Lex.l0]
          refine Ev.pos (by omega) ?_
          rw [decide_eq_true (by omega : (s.size : Int) ≤ 1500)]
          exact h
        rcases tok_both s (by omega) a ha with ⟨kd, w, n, e1, e2, hk, hn, han, hw, hnl⟩ | ⟨⟨kd, w, e1⟩, m, e2⟩
        · have HK := Aside0.mk hk
          clear hk
          have hwz : w.size = n := by rw [hw, ex_size s a (a + n) (by omega) han]; omega
          have hwr : wrap64 ((a : Int) + (n : Int)) = ((a + n : Nat) : Int) := by rw [wrap_id (by omega) (by omega)]; omega
          by_cases c4 : 400 ≤ acc.length
          · refine ⟨_, lex_big s hs (d + 1) a acc _ _ h1 h2 c4 h4, hs0 (Ev.succ ?_), Nat.zero_le _, fun _ t ht => by cases ht⟩
            simp only [spec_Lex.j1]
            refine Ev.pos trivial (Ev.bind e2 (Ev.neg HK.out.1 ?_))
            rw [decide_eq_true (by omega : (acc.length : Int) ≥ 400)]
            refine Ev.succ ?_
            simp only [spec_Lex.j2]
            exact Ev.pos trivial (Ev.const _)
          · obtain ⟨R, r1, r2, r3⟩ := ih (a + n) (acc ++ [⟨kd, w, (nlb s a).1, wrap64 (wrap64 ((a : Int) - (nlb s a).2) + 1)⟩]) a (by omega) han (by omega) (by simp; omega)
            rw [nlb_same s a n hnl] at r1
            have hb_ := nlb_bound s a
            have hw_ : wrap64 (wrap64 ((a : Int) - (nlb s a).2) + 1) = (a : Int) - (nlb s a).2 + 1 := by rw [wrap_id (x := (a : Int) - (nlb s a).2) (by omega) (by omega), wrap_id (by omega) (by omega)]
            refine ⟨R, ?_, hs0 (Ev.succ ?_), r3.1, fun hA => r3.2 fun t ht => ?_⟩
            rotate_right
            · rw [List.mem_append] at ht
              rcases ht with ht | ht
              · exact hA t ht
              · rw [List.mem_singleton] at ht
                subst ht
                exact ⟨⟨HK.out.2.1, by have := HK.out.2.2; simp only; omega⟩, by simp only; omega, ⟨by have := hb_.1; simpa using this, by have := hb_.2.1; simp only; omega⟩, ⟨by simp only; omega, by simp only; omega⟩, fun _ => ⟨a, n, hn, han, hw, hnl, rfl, hw_⟩⟩
            · refine Ev.succ ?_
              simp only [impl_Lex.l0, Int.toNat_natCast]
              refine Ev.pos (by omega) (Ev.pos (by omega) (Ev.pos (by omega) (Ev.bind (ipas s (by omega) a ha) (Ev.neg (by omega) (Ev.bind e1 (Ev.pos rfl (Ev.pos (by omega) ?_)))))))
              rw [hwz, hwr]
              exact r1
            · simp only [spec_Lex.j1]
              refine Ev.pos trivial (Ev.bind e2 (Ev.neg HK.out.1 ?_))
              rw [decide_eq_false (by omega : ¬ (acc.length : Int) ≥ 400)]
              refine Ev.succ ?_
              simp only [spec_Lex.j2]
              refine Ev.neg (by decide) (adv s hs acc a ha _ _ R ?_ (a - last) last (by omega))
              refine Ev.succ ?_
              simp only [spec_Lex.l1, hwr, Int.toNat_natCast]
              rw [← hw]
              exact Ev.neg (by omega) (Ev.pos (by omega) (Ev.pos (by omega) (Ev.pos (by omega) (Ev.pos (by omega) r2))))
        · refine ⟨(([] : List S30), false), ?_, hs0 (Ev.succ ?_), Nat.zero_le _, fun _ t ht => by cases ht⟩
          · refine Ev.succ ?_
            simp only [impl_Lex.l0, Int.toNat_natCast]
            exact Ev.pos (by omega) (Ev.pos (by omega) (Ev.pos (by omega) (Ev.bind (ipas s (by omega) a ha) (Ev.neg (by omega) (Ev.bind e1 (Ev.neg (show ¬ (false = true) by decide) (Ev.const _)))))))
          · simp only [spec_Lex.j1]
            refine Ev.pos trivial (Ev.bind e2 (Ev.pos rfl (Ev.succ ?_)))
            simp only [spec_Lex.j2]
            exact Ev.pos trivial (Ev.const _)
      · obtain ⟨R, r1, r2, r3⟩ := ih (a + pas s a) acc last (by omega) hpl (by omega) (by omega)
        obtain ⟨t, et⟩ := skip_ok s (by omega) s.size (a + pas s a) (by omega)
        refine ⟨R, ?_, Ev.bind (skip_step s (by omega) a ha (by omega) t et) (Ev.unbind et r2), r3⟩
        refine Ev.succ ?_
        simp only [impl_Lex.l0, Int.toNat_natCast]
        refine Ev.pos (by omega) (Ev.pos (by omega) (Ev.pos (by omega) (Ev.bind (ipas s (by omega) a ha) (Ev.pos (by omega) ?_))))
        rw [show wrap64 ((a : Int) + ((pas s a : Nat) : Int)) = ((a + pas s a : Nat) : Int) by rw [wrap_id (by omega) (by omega)]; omega, wrap_succ (by omega : a < 9223372036854775807)]
        have hb := nlb_bound s a
        have hnx : nlb s (a + 1) = if bt s (a : Int) = 10 then ((nlb s a).1 + 1, (a : Int) + 1) else nlb s a := rfl
        by_cases c : bt s (a : Int) = 10
        · refine Ev.pos c ?_
          have hp1 : pas s a = 1 := by unfold pas; rw [if_pos (.inr c)]
          rw [hp1, hnx, if_pos c] at r1
          rw [hp1, wrap_id (by omega) (by omega)]
          exact r1
        · refine Ev.neg c ?_
          have hsame : nlb s (a + pas s a) = nlb s a := nlb_same s a (pas s a) (fun j h1 h2 => by
            unfold pas at h2
            by_cases c32 : bt s (a : Int) = 32
            · rw [if_pos (.inl c32)] at h2
              obtain rfl : j = a := by omega
              exact c
            · rw [if_neg (fun h => h.elim c32 c)] at h2
              by_cases cd : dash s a
              · rw [if_pos cd] at h2
                have := runTo_in notNl s (s.size - a) a j h1 (by have := dash_run s a cd; omega)
                unfold notNl at this
                simpa using this
              · rw [if_neg cd] at h2; omega)
          rw [hsame] at r1
          exact r1
    · obtain rfl : a = s.size := by omega
      exact hend acc last h3 (by omega)
theorem lex_both (s : ByteArray) (hs : s.size < 9223372036854775000) : ∃ R, Ev (fun k => impl_Lex.f k s) R ∧ Ev (fun k => spec_Lex.f k s) R ∧ R.1.length ≤ 6000 ∧ ∀ t ∈ R.1, TokAt s t := by
  by_cases c : s.size ≤ 1500
  · obtain ⟨R, r1, r2, r3⟩ := sim s c s.size 0 [] 0 (by omega) (by omega) (by omega) (by simp; omega)
    refine ⟨R, ?_, r2, r3.1, r3.2 fun t ht => by cases ht⟩
    simp only [impl_Lex.f]
    exact Ev.neg (by omega) r1
  · refine ⟨(([] : List S30), false), ?_, ?_, Nat.zero_le _, fun t ht => by cases ht⟩
    · simp only [impl_Lex.f]
      exact Ev.pos (by omega) (Ev.const _)
    · obtain ⟨t, et⟩ := skip_ok s hs s.size 0 (by omega)
      have hj : ∀ t : Int, Ev (fun k => spec_Lex.j1 k s [] 1 0 0 t false) (([] : List S30), false) := fun t => by
        refine Ev.succ ?_
        simp only [spec_Lex.j1]
        exact Ev.neg (by decide) (Ev.pos (by omega) (Ev.const _))
      simp only [spec_Lex.f]
      refine Ev.bind et (Ev.succ ?_)
      simp only [spec_Lex.l0]
      by_cases ct : t < (s.size : Int)
      · refine Ev.pos ct ?_
        rw [decide_eq_false (by omega : ¬ (s.size : Int) ≤ 1500)]
        exact hj t
      · exact Ev.neg ct (hj t)
/-! #### what is kept -/
def keep (name : ByteArray) (t : S30) : Bool := decide (t.f0 = 1) && (t.f1.toList == name.toList)
theorem lit_eq (name : ByteArray) (t : S30) : impl_Spots_lit.f t.f0 t.f1 t.f2 t.f3 name = some (!keep name t) := by
  unfold impl_Spots_lit.f keep
  by_cases c : t.f0 = 1
  · rw [if_pos c, decide_eq_true c]; rfl
  · rw [if_neg c, decide_eq_false c]; rfl
theorem is_eq (name : ByteArray) (t : S30) : spec_l25Is.f t.f0 t.f1 t.f2 t.f3 name = some (keep name t) := by
  unfold spec_l25Is.f keep
  by_cases c : t.f0 = 1
  · rw [if_pos c, decide_eq_true c]; rfl
  · rw [if_neg c, decide_eq_false c]; rfl
theorem rd30 (l : List S30) (i : Nat) (h : i < l.length) : rd_T30 l (i : Int) = l[i] := by
  unfold rd_T30
  rw [Int.toNat_natCast, List.getD_eq_getElem?_getD, List.getElem?_eq_getElem h]
  rfl
theorem take_filter {name : ByteArray} {l : List S30} {i : Nat} (h : i < l.length) : (l.take (i + 1)).filter (keep name) = (l.take i).filter (keep name) ++ (if keep name l[i] = true then [l[i]] else []) := by
  rw [List.take_succ_eq_append_getElem h, List.filter_append]
  congr 1
  by_cases c : keep name l[i] = true
  · rw [if_pos c, List.filter_cons_of_pos c]; rfl
  · rw [if_neg c, List.filter_cons_of_neg c]; rfl
theorem sspots (name : ByteArray) (l : List S30) (hl : l.length ≤ 6000) : ∀ (d i : Nat), i + d = l.length → Ev (fun k => spec_Spots.l0 k name ((l.take i).filter (keep name)) l (i : Int)) (l.filter (keep name)) := by
  intro d
  induction d with
  | zero =>
    intro i hi
    refine Ev.succ ?_
    simp only [spec_Spots.l0]
    rw [List.take_of_length_le (by omega)]
    exact Ev.neg (by omega) (Ev.const _)
  | succ d ih =>
    intro i hi
    have hil : i < l.length := by omega
    have h := ih (i + 1) (by omega)
    rw [take_filter hil] at h
    refine Ev.succ ?_
    simp only [spec_Spots.l0, rd30 l i hil, wrap_succ (by omega : i < 9223372036854775807)]
    refine Ev.pos (by omega) (Ev.pos (by omega) (Ev.bind (Ev.all (is_eq name _)) ?_))
    by_cases c : keep name l[i] = true
    · rw [if_pos c] at h
      have hlen : ((l.take i).filter (keep name)).length ≤ 6000 := Nat.le_trans (List.length_filter_le _ _) (by simp; omega)
      exact Ev.pos c (Ev.pos (by omega) h)
    · rw [if_neg c, List.append_nil] at h
      exact Ev.neg c h
theorem index_ok (name : ByteArray) (l : List S30) (hl : l.length ≤ 6000) : ∀ (d i : Nat), i + d = l.length → (∀ j (hj : j < l.length), j < i → keep name l[j] = true) →
    (Ev (fun k => slices_IndexFunc_spot.l0 k l name (l.length : Int) (i : Int)) (-1) ∧ ∀ t ∈ l, keep name t = true) ∨ ∃ m, ∃ hm : m < l.length, Ev (fun k => slices_IndexFunc_spot.l0 k l name (l.length : Int) (i : Int)) (m : Int) ∧ keep name l[m] = false ∧ ∀ j (hj : j < l.length), j < m → keep name l[j] = true := by
  intro d
  induction d with
  | zero =>
    intro i hi hall
    refine .inl ⟨Ev.succ ?_, fun t ht => ?_⟩
    · simp only [slices_IndexFunc_spot.l0]
      exact Ev.neg (by omega) (Ev.const _)
    · obtain ⟨j, hj, rfl⟩ := List.getElem_of_mem ht
      exact hall j hj (by omega)
  | succ d ih =>
    intro i hi hall
    have hil : i < l.length := by omega
    by_cases c : keep name l[i] = true
    · have hst : ∀ {r}, Ev (fun k => slices_IndexFunc_spot.l0 k l name (l.length : Int) ((i + 1 : Nat) : Int)) r → Ev (fun k => slices_IndexFunc_spot.l0 k l name (l.length : Int) (i : Int)) r := fun {r} h => by
        refine Ev.succ ?_
        simp only [slices_IndexFunc_spot.l0, rd30 l i hil, wrap_succ (by omega : i < 9223372036854775807)]
        exact Ev.pos (by omega) (Ev.pos (by omega) (Ev.pos (by omega) (Ev.bind (Ev.all (lit_eq name _)) (Ev.neg (by rw [c]; decide) h))))
      rcases ih (i + 1) (by omega) (fun j hj hji => by
        by_cases e : j = i
        · subst e; exact c
        · exact hall j hj (by omega)) with ⟨h1, h2⟩ | ⟨m, hm, h1, h2⟩
      · exact .inl ⟨hst h1, h2⟩
      · exact .inr ⟨m, hm, hst h1, h2⟩
    · refine .inr ⟨i, hil, Ev.succ ?_, Bool.eq_false_iff.2 c, hall⟩
      simp only [slices_IndexFunc_spot.l0, rd30 l i hil]
      exact Ev.pos (by omega) (Ev.pos (by omega) (Ev.pos (by omega) (Ev.bind (Ev.all (lit_eq name _)) (Ev.pos (by rw [Bool.eq_false_iff.2 c]; rfl) (Ev.const _)))))
theorem del_loop (name : ByteArray) (l : List S30) (hl : l.length ≤ 6000) : ∀ (d i j : Nat) (x : List S30), j + d = l.length → i < j → x.length = l.length → x.take i = (l.take j).filter (keep name) → x.drop j = l.drop j →
    Ev (fun k => slices_DeleteFunc_spot.l0 k x name (i : Int) (j : Int)) (l.filter (keep name)) := by
  intro d
  induction d with
  | zero =>
    intro i j x hj hij hx ht hd
    refine Ev.succ ?_
    simp only [slices_DeleteFunc_spot.l0, Int.toNat_natCast]
    rw [List.take_of_length_le (by omega : l.length ≤ j)] at ht
    rw [← ht]
    exact Ev.neg (by omega) (Ev.pos (by omega) (Ev.pos (by omega) (Ev.const _)))
  | succ d ih =>
    intro i j x hj hij hx ht hd
    have hjl : j < l.length := by omega
    have hjx : j < x.length := by omega
    have hxj : x[j] = l[j] := by
      rw [List.drop_eq_getElem_cons hjx, List.drop_eq_getElem_cons hjl] at hd
      injection hd
    have hdr : x.drop (j + 1) = l.drop (j + 1) := by
      rw [List.drop_eq_getElem_cons hjx, List.drop_eq_getElem_cons hjl] at hd
      injection hd
    refine Ev.succ ?_
    simp only [slices_DeleteFunc_spot.l0, rd30 x j hjx, hxj, Int.toNat_natCast, wrap_succ (by omega : j < 9223372036854775807), wrap_succ (by omega : i < 9223372036854775807)]
    refine Ev.pos (by omega) (Ev.pos (by omega) (Ev.bind (Ev.all (lit_eq name _)) ?_))
    by_cases c : keep name l[j] = true
    · refine Ev.neg (by rw [c]; decide) (Ev.pos (by omega) (Ev.pos (by omega) ?_))
      refine ih (i + 1) (j + 1) (x.set i l[j]) (by omega) (by omega) (by simpa using hx) ?_ ?_
      · rw [take_filter hjl, if_pos c, ← ht, List.take_succ_eq_append_getElem (by simp; omega)]
        congr 1
        · rw [List.take_set_of_le (Nat.le_refl _)]
        · simp
      · rw [List.drop_set_of_lt (by omega)]
        exact hdr
    · refine Ev.pos (by rw [Bool.eq_false_iff.2 c]; rfl) ?_
      refine ih i (j + 1) x (by omega) (by omega) hx ?_ hdr
      rw [take_filter hjl, if_neg c, List.append_nil]
      exact ht
theorem del_ok (name : ByteArray) (l : List S30) (hl : l.length ≤ 6000) : Ev (fun k => slices_DeleteFunc_spot.f k l name) (l.filter (keep name)) := by
  simp only [slices_DeleteFunc_spot.f, slices_IndexFunc_spot.f]
  rcases index_ok name l hl l.length 0 (by omega) (fun j hj h => by omega) with ⟨h1, h2⟩ | ⟨m, hm, h1, h2, h3⟩
  · rw [List.filter_eq_self.2 h2]
    exact Ev.bind h1 (Ev.pos rfl (Ev.const _))
  · refine Ev.bind h1 (Ev.neg (by omega) ?_)
    rw [wrap_succ (by omega : m < 9223372036854775807)]
    refine del_loop name l hl (l.length - (m + 1)) m (m + 1) l (by omega) (by omega) rfl ?_ rfl
    rw [take_filter hm, if_neg (by rw [h2]; decide), List.append_nil]
    refine (List.filter_eq_self.2 (fun t ht => ?_)).symm
    obtain ⟨j, hj, rfl⟩ := List.getElem_of_mem ht
    rw [List.length_take] at hj
    rw [List.getElem_take]
    exact h3 j (by omega) (by omega)
/-- The first that stands ahead. -/
def fd : List S30 → Int × ByteArray × Int × Int × Bool
  | [] => (0, (⟨#[]⟩ : ByteArray), 0, 0, false)
  | t :: ts => if t.f3 = 1 then (t.f0, t.f1, t.f2, t.f3, true) else fd ts
theorem sfd (l : List S30) (hl : l.length ≤ 6000) : ∀ (d i : Nat), i + d = l.length → Ev (fun k => spec_DefSpot.l0 k l (i : Int)) (fd (l.drop i)) := by
  intro d
  induction d with
  | zero =>
    intro i hi
    refine Ev.succ ?_
    rw [List.drop_eq_nil_of_le (by omega)]
    simp only [spec_DefSpot.l0]
    exact Ev.neg (by omega) (Ev.const _)
  | succ d ih =>
    intro i hi
    have hil : i < l.length := by omega
    refine Ev.succ ?_
    rw [List.drop_eq_getElem_cons hil]
    simp only [spec_DefSpot.l0, rd30 l i hil, wrap_succ (by omega : i < 9223372036854775807), fd]
    refine Ev.pos (by omega) (Ev.pos (by omega) ?_)
    by_cases c : l[i].f3 = 1
    · simp only [if_pos c]; exact Ev.const _
    · simp only [if_neg c]; exact ih (i + 1) (by omega)
theorem ifd (l : List S30) (hl : l.length ≤ 6000) : ∀ (d i : Nat), i + d = l.length → Ev (fun k => impl_DefSpot.l0 k l (l.length : Int) (i : Int)) (fd (l.drop i)) := by
  intro d
  induction d with
  | zero =>
    intro i hi
    refine Ev.succ ?_
    rw [List.drop_eq_nil_of_le (by omega)]
    simp only [impl_DefSpot.l0]
    exact Ev.neg (by omega) (Ev.const _)
  | succ d ih =>
    intro i hi
    have hil : i < l.length := by omega
    refine Ev.succ ?_
    rw [List.drop_eq_getElem_cons hil]
    simp only [impl_DefSpot.l0, rd30 l i hil, wrap_succ (by omega : i < 9223372036854775807), fd]
    refine Ev.pos (by omega) (Ev.pos (by omega) (Ev.pos (by omega) ?_))
    by_cases c : l[i].f3 = 1
    · simp only [if_pos c]; exact Ev.const _
    · simp only [if_neg c]; exact ih (i + 1) (by omega)
/-- Spots, DefSpot and the lexer, of both: alike, and what is told of the tokens. -/
theorem spots_both (s name : ByteArray) (hs : s.size < 9223372036854775000) : ∃ R : List S30 × Bool, R.1.length ≤ 6000 ∧ (∀ t ∈ R.1, TokAt s t) ∧ Ev (fun k => spec_Lex.f k s) R ∧
    Ev (fun k => impl_Spots.f k s name) (R.1.filter (keep name)) ∧ Ev (fun k => spec_Spots.f k s name) (R.1.filter (keep name)) ∧
    Ev (fun k => impl_DefSpot.f k s name) (fd (R.1.filter (keep name))) ∧ Ev (fun k => spec_DefSpot.f k s name) (fd (R.1.filter (keep name))) := by
  obtain ⟨R, r1, r2, r3, r4⟩ := lex_both s hs
  have hf : (R.1.filter (keep name)).length ≤ 6000 := Nat.le_trans (List.length_filter_le _ _) r3
  refine ⟨R, r3, r4, r2, ?_, ?_, ?_, ?_⟩
  · simp only [impl_Spots.f]
    exact Ev.bind r1 (Ev.bind (del_ok name R.1 r3) (Ev.const _))
  · simp only [spec_Spots.f]
    exact Ev.bind r2 (sspots name R.1 r3 R.1.length 0 (by omega))
  · simp only [impl_DefSpot.f, impl_Spots.f]
    exact Ev.bind (Ev.bind r1 (Ev.bind (del_ok name R.1 r3) (Ev.const _))) (ifd _ hf (R.1.filter (keep name)).length 0 (by omega))
  · simp only [spec_DefSpot.f, spec_Spots.f]
    exact Ev.bind (Ev.bind r2 (sspots name R.1 r3 R.1.length 0 (by omega))) (sfd _ hf (R.1.filter (keep name)).length 0 (by omega))
end Go.Proofs.YtlbcaadflcjpeaaGreatDoor.Pure

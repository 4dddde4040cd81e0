/- Lexing in plain Lean: what the lexer cuts of the law's text. Conditions: the two numbers are digits, at most six, without a needless zero ahead; the operation is one of five. -/
import Derived.Test.YtdbbchgbgdbhbaaGreatDoorPSpox8
import Derived.Test.YtdbbchgbgdbhbaaGreatDoorPAtx1
set_option linter.unusedVariables false
set_option linter.unusedSimpArgs false
namespace Go.Proofs.YtdbbchgbgdbhbaaGreatDoor.Pure
open Go Go.RowKit Go.Proofs.YtdbbchgbgdbhbaaGreatDoor.PSpo Go.Proofs.YtdbbchgbgdbhbaaGreatDoorW.PrintWords Go.Proofs.YtdbbchgbgdbhbaaGreatDoorW.PrintLast

def Ev {α : Type} (g : Nat → Option α) (r : α) : Prop := ∃ K, ∀ k, K ≤ k → g k = some r
theorem Ev.const {α : Type} (r : α) : Ev (fun _ => some r) r := ⟨0, fun _ _ => rfl⟩
theorem Ev.all {α : Type} {g : Option α} {r : α} (h : g = some r) : Ev (fun _ => g) r := ⟨0, fun _ _ => h⟩
theorem Ev.succ {α : Type} {g : Nat → Option α} {r : α} (h : Ev (fun k => g (k + 1)) r) : Ev g r := by
  obtain ⟨K, h⟩ := h
  exact ⟨K + 1, fun k hk => by obtain ⟨m, rfl⟩ : ∃ m, k = m + 1 := ⟨k - 1, by omega⟩; exact h m (by omega)⟩
theorem Ev.bind {α β : Type} {g : Nat → Option α} {f : Nat → α → Option β} {a : α} {r : β} (h : Ev g a) (hf : Ev (fun k => f k a) r) : Ev (fun k => (g k).bind (f k)) r := by
  obtain ⟨K, h⟩ := h
  obtain ⟨L, hf⟩ := hf
  exact ⟨max K L, fun k hk => by show (g k).bind (f k) = some r; rw [h k (by omega)]; exact hf k (by omega)⟩
theorem Ev.pos {α : Type} {c : Prop} [Decidable c] {a b : Nat → Option α} {r : α} (hc : c) (h : Ev a r) : Ev (fun k => if c then a k else b k) r := by
  simpa only [if_pos hc] using h
theorem Ev.neg {α : Type} {c : Prop} [Decidable c] {a b : Nat → Option α} {r : α} (hc : ¬ c) (h : Ev b r) : Ev (fun k => if c then a k else b k) r := by
  simpa only [if_neg hc] using h
theorem wrap_succ {i : Nat} (h : i < 9223372036854775807) : wrap64 ((i : Int) + 1) = ((i + 1 : Nat) : Int) := by
  unfold wrap64; omega
theorem wrap_id {x : Int} (h0 : -9223372036854775808 ≤ x) (h1 : x ≤ 9223372036854775807) : wrap64 x = x := by unfold wrap64; omega
theorem rdOf_at (l : List ByteArray) (i : Nat) (h : i < l.length) : rdOf ByteArray.empty l (i : Int) = l[i] := by
  unfold rdOf
  rw [Int.toNat_natCast, List.getD_eq_getElem?_getD, List.getElem?_eq_getElem h]
  rfl
theorem size_len (s : ByteArray) : s.size = s.data.toList.length := rfl
theorem bt_get (s : ByteArray) (i : Nat) (h : i < s.size) : bt s (i : Int) = ((s.data.toList[i]'(by rw [← size_len]; exact h)).toNat : Int) := by
  unfold bt
  rw [dif_pos (by simpa using h)]
  rfl
theorem bt_lo (s : ByteArray) (i : Int) : 0 ≤ bt s i := (bt_range s i).1
theorem bt_hi (s : ByteArray) (i : Int) : bt s i ≤ 255 := (bt_range s i).2
def isD (c : Int) : Bool := decide (48 ≤ c ∧ c ≤ 57)
def isL (c : Int) : Bool := decide ((97 ≤ c ∧ c ≤ 122) ∨ (65 ≤ c ∧ c ≤ 90))
def isB (c : Int) : Bool := isL c || isD c
theorem iDigit (c : Int) : impl_isDigit.f c = some (isD c) := by
  unfold impl_isDigit.f isD
  by_cases h : c ≥ 48
  · rw [if_pos h]; congr 1; simp; omega
  · rw [if_neg h]; congr 1; simp; omega
theorem iLetter (c : Int) : impl_isLetter.f c = some (isL c) := by
  unfold impl_isLetter.f isL
  split
  · split
    · exact congrArg some (decide_eq_true (by omega)).symm
    · split
      · exact congrArg some (decide_eq_decide.2 (by omega))
      · exact congrArg some (decide_eq_false (by omega)).symm
  · split
    · exact congrArg some (decide_eq_decide.2 (by omega))
    · exact congrArg some (decide_eq_false (by omega)).symm
theorem iBoth (c : Int) : impl_nextTok_lit1.f c = some (isB c) := by
  simp only [impl_nextTok_lit1.f, iLetter, iDigit, Option.bind_some, isB]
  cases isL c <;> simp
theorem iNl (c : Int) : impl_passed_lit1.f c = some (c != 10) := rfl
theorem iIn (a b c : Int) : impl_in.f a b c = some (decide (b ≤ a ∧ a ≤ c)) := by
  unfold impl_in.f
  split
  · congr 1; simp; omega
  · congr 1; simp; omega
def hasT (l : List ByteArray) (w : ByteArray) : Bool := decide (∃ q, q ∈ l ∧ q.toList = w.toList)
theorem rdOf_get (l : List ByteArray) (i : Nat) (h : i < l.length) : rdOf ByteArray.empty l (i : Int) = l[i] := rdOf_at l i h
theorem ihas (l : List ByteArray) (hl : l.length ≤ 1000) (w : ByteArray) : ∀ (d i : Nat), i + d = l.length → ∃ r : Int, Ev (fun k => slices_Index_string_string.l0 k l w (l.length : Int) (i : Int)) r ∧ decide (r ≥ 0) = hasT (l.drop i) w := by
  intro d
  induction d with
  | zero =>
    intro i hi
    refine ⟨-1, Ev.succ ?_, by rw [List.drop_eq_nil_of_le (by omega)]; simp [hasT]⟩
    simp only [slices_Index_string_string.l0]
    exact Ev.neg (by omega) (Ev.const _)
  | succ d ih =>
    intro i hi
    have hil : i < l.length := by omega
    by_cases c : w.toList = l[i].toList
    · refine ⟨i, Ev.succ ?_, ?_⟩
      · simp only [slices_Index_string_string.l0, rdOf_get l i hil]
        exact Ev.pos (by omega) (Ev.pos (by omega) (Ev.pos (by omega) (Ev.pos c (Ev.const _))))
      · have : hasT (l.drop i) w = true := decide_eq_true ⟨l[i], by rw [List.drop_eq_getElem_cons hil]; exact List.mem_cons_self, c.symm⟩
        rw [this]; exact decide_eq_true (by omega)
    · obtain ⟨r, e, hr⟩ := ih (i + 1) (by omega)
      refine ⟨r, Ev.succ ?_, ?_⟩
      · simp only [slices_Index_string_string.l0, rdOf_get l i hil, wrap_succ (by omega : i < 9223372036854775807)]
        exact Ev.pos (by omega) (Ev.pos (by omega) (Ev.pos (by omega) (Ev.neg c e)))
      · rw [hr, List.drop_eq_getElem_cons hil]
        unfold hasT
        refine decide_eq_decide.2 ⟨?_, ?_⟩
        · rintro ⟨q, hq, e⟩
          exact ⟨q, List.mem_cons_of_mem _ hq, e⟩
        · rintro ⟨q, hq, e⟩
          rcases List.mem_cons.1 hq with rfl | hq
          · exact absurd e.symm c
          · exact ⟨q, hq, e⟩
theorem icon (l : List ByteArray) (hl : l.length ≤ 1000) (w : ByteArray) : Ev (fun k => slices_Contains_string_string.f k l w) (hasT l w) := by
  obtain ⟨r, e, hr⟩ := ihas l hl w l.length 0 (by omega)
  rw [List.drop_zero] at hr
  rw [← hr]
  simp only [slices_Contains_string_string.f, slices_Index_string_string.f]
  exact Ev.bind e (Ev.const _)
theorem ibyte (l : List Int) (hl : l.length ≤ 1000) (c : Int) : ∀ (d i : Nat), i + d = l.length → ∃ r : Int, Ev (fun k => slices_Index_byte_byte.l0 k l c (l.length : Int) (i : Int)) r ∧ decide (r ≥ 0) = decide (c ∈ l.drop i) := by
  intro d
  induction d with
  | zero =>
    intro i hi
    refine ⟨-1, Ev.succ ?_, by rw [List.drop_eq_nil_of_le (by omega)]; simp⟩
    simp only [slices_Index_byte_byte.l0]
    exact Ev.neg (by omega) (Ev.const _)
  | succ d ih =>
    intro i hi
    have hil : i < l.length := by omega
    have hrd : rd l (i : Int) = l[i] := by
      unfold rd
      simp [List.getD_eq_getElem?_getD, List.getElem?_eq_getElem hil]
    by_cases e0 : c = l[i]
    · refine ⟨i, Ev.succ ?_, ?_⟩
      · simp only [slices_Index_byte_byte.l0, hrd]
        exact Ev.pos (by omega) (Ev.pos (by omega) (Ev.pos (by omega) (Ev.pos e0 (Ev.const _))))
      · rw [List.drop_eq_getElem_cons hil]
        exact decide_eq_decide.2 ⟨fun _ => by rw [e0]; exact List.mem_cons_self, fun _ => by omega⟩
    · obtain ⟨r, e, hr⟩ := ih (i + 1) (by omega)
      refine ⟨r, Ev.succ ?_, ?_⟩
      · simp only [slices_Index_byte_byte.l0, hrd, wrap_succ (by omega : i < 9223372036854775807)]
        exact Ev.pos (by omega) (Ev.pos (by omega) (Ev.pos (by omega) (Ev.neg e0 e)))
      · rw [hr, List.drop_eq_getElem_cons hil]
        exact decide_eq_decide.2 ⟨fun h => List.mem_cons_of_mem _ h, fun h => (List.mem_cons.1 h).resolve_left e0⟩
theorem ibytes (l : List Int) (hl : l.length ≤ 1000) (c : Int) : Ev (fun k => slices_Contains_byte_byte.f k l c) (decide (c ∈ l)) := by
  obtain ⟨r, e, hr⟩ := ibyte l hl c l.length 0 (by omega)
  rw [List.drop_zero] at hr
  rw [← hr]
  simp only [slices_Contains_byte_byte.f, slices_Index_byte_byte.f]
  exact Ev.bind e (Ev.const _)
def wordsL : List ByteArray := [(⟨#[108, 101, 116]⟩ : ByteArray), (⟨#[105, 110]⟩ : ByteArray), (⟨#[119, 104, 101, 114, 101]⟩ : ByteArray), (⟨#[99, 97, 115, 101]⟩ : ByteArray), (⟨#[111, 102]⟩ : ByteArray), (⟨#[105, 102]⟩ : ByteArray), (⟨#[116, 104, 101, 110]⟩ : ByteArray), (⟨#[101, 108, 115, 101]⟩ : ByteArray), (⟨#[100, 97, 116, 97]⟩ : ByteArray)]
theorem iwords : impl_words.f = some wordsL := rfl
def Wd (w : ByteArray) : Prop := 0 < w.size ∧ w.size < 9223372036854775807 ∧ isL (bt w 0) = true ∧ ∀ i : Nat, i < w.size → isB (bt w (i : Int)) = true
theorem iword_loop (w : ByteArray) (h : Wd w) : ∀ (d i : Nat), i + d = w.size → Ev (fun k => impl_wordLike.l0 k w (w.size : Int) (i : Int)) (decide (1 ≤ (w.size : Int) ∧ (w.size : Int) ≤ 8)) := by
  obtain ⟨h0, h1, h2, h3⟩ := h
  intro d
  induction d with
  | zero =>
    intro i hi
    refine Ev.succ ?_
    simp only [impl_wordLike.l0, iIn]
    exact Ev.neg (by omega) (Ev.bind (Ev.all rfl) (Ev.const _))
  | succ d ih =>
    intro i hi
    refine Ev.succ ?_
    simp only [impl_wordLike.l0, iLetter, iDigit, wrap_succ (by omega : i < 9223372036854775807)]
    refine Ev.pos (by omega) (Ev.pos (by omega) (Ev.pos (by omega) (Ev.bind (Ev.all rfl) ?_)))
    by_cases c : isL (bt w (i : Int)) = true
    · exact Ev.pos c (ih (i + 1) (by omega))
    · have hi0 : i ≠ 0 := by rintro rfl; exact c h2
      have hd : isD (bt w (i : Int)) = true := by
        have := h3 i (by omega)
        unfold isB at this
        simpa [c] using this
      exact Ev.neg c (Ev.neg (by omega) (Ev.bind (Ev.all rfl) (Ev.pos hd (ih (i + 1) (by omega)))))
theorem iname (w : ByteArray) (h : Wd w) (hc : hasT wordsL w = false) : Ev (fun k => impl_NameOk.f k w) (decide (w.size ≤ 8 ∧ bt w 0 ≥ 97)) := by
  have hl := iword_loop w h w.size 0 (by omega)
  obtain ⟨h0, h1, h2, h3⟩ := h
  simp only [impl_NameOk.f, impl_wordLike.f, iwords]
  by_cases c2 : w.size ≤ 8
  · have hd : decide (1 ≤ (w.size : Int) ∧ (w.size : Int) ≤ 8) = true := decide_eq_true (by omega)
    rw [hd] at hl
    refine Ev.bind hl (Ev.pos rfl (Ev.pos (by omega) ?_))
    by_cases c3 : bt w 0 ≥ 97
    · rw [decide_eq_true ⟨c2, c3⟩]
      refine Ev.pos c3 (Ev.bind (Ev.all rfl) (Ev.bind (icon wordsL (by decide) w) ?_))
      rw [hc]
      exact Ev.const _
    · rw [decide_eq_false (fun h => c3 h.2)]
      exact Ev.neg c3 (Ev.const _)
  · have hd : decide (1 ≤ (w.size : Int) ∧ (w.size : Int) ≤ 8) = false := decide_eq_false (by omega)
    rw [hd] at hl
    rw [decide_eq_false (fun h => c2 h.1)]
    exact Ev.bind hl (Ev.neg (by decide) (Ev.const _))
def numW (w : ByteArray) : Bool := decide (w.size ≤ 6 ∧ (w.size = 1 ∨ bt w 0 ≠ 48))
theorem inum (w : ByteArray) (h0 : 0 < w.size) : impl_numberLike.f w = some (numW w) := by
  simp only [impl_numberLike.f, iIn, Option.bind_some, numW]
  by_cases c : w.size ≤ 6
  · rw [if_pos (decide_eq_true (by omega)), if_pos (by omega)]
    by_cases c2 : bt w 0 = 48
    · rw [if_pos c2]
      congr 1
      rw [Bool.eq_iff_iff]
      simp [c, c2]
      omega
    · rw [if_neg c2]
      congr 1
      exact (decide_eq_true ⟨c, .inr c2⟩).symm
  · rw [if_neg (by simp; omega)]
    congr 1
    exact (decide_eq_false (fun h => c h.1)).symm

/-! ### A text as a list of bytes -/
def bs (l : List UInt8) : ByteArray := ⟨l.toArray⟩

theorem bs_size (l : List UInt8) : (bs l).size = l.length := by simp [bs, ByteArray.size]
theorem bs_list (l : List UInt8) : (bs l).data.toList = l := by simp [bs]
theorem bs_inj {l m : List UInt8} (h : bs l = bs m) : l = m := by rw [← bs_list l, h, bs_list]
theorem bs_of (s : ByteArray) : bs s.data.toList = s := by simp [bs]
theorem bs_app (l m : List UInt8) : bs l ++ bs m = bs (l ++ m) := by
  apply ByteArray.ext
  simp [bs, ByteArray.data_append]
theorem bs_toList (l : List UInt8) : (bs l).toList = l := by rw [ByteArray.toList_eq, bs_list]

theorem bs_bt (l : List UInt8) (i : Nat) (h : i < l.length) : bt (bs l) (i : Int) = ((l[i]).toNat : Int) := by
  rw [bt_get (bs l) i (by rw [bs_size]; exact h)]
  simp [bs]

theorem bs_ex (l : List UInt8) (i j : Nat) : (bs l).extract i j = bs ((l.drop i).take (j - i)) := by
  apply ByteArray.ext
  apply Array.ext'
  rw [ByteArray.data_extract, Array.toList_extract]
  simp [bs, List.extract]

theorem run_dig (l : List UInt8) (hl : l.length ≤ 2000) (m : Nat) (hm : m ≤ l.length) (hp : ∀ i (h : i < l.length), i < m → isD ((l[i]).toNat : Int) = true) (hs : ∀ h : m < l.length, isD ((l[m]).toNat : Int) = false) :
    ∀ (d i : Nat), i + d = m → Ev (fun k => impl_runLen_digit.l0 k (bs l) (i : Int)) (m : Int) := by
  intro d
  induction d with
  | zero =>
    intro i hi
    have hi : i = m := by omega
    subst hi
    refine Ev.succ ?_
    simp only [impl_runLen_digit.l0, bs_size, iDigit, Option.bind_some]
    by_cases h : i < l.length
    · refine Ev.pos (by omega) (Ev.pos (by omega) (Ev.neg ?_ (Ev.const _)))
      rw [bs_bt l i h, hs h]
      simp
    · exact Ev.neg (by omega) (Ev.const _)
  | succ d ih =>
    intro i hi
    have h : i < l.length := by omega
    refine Ev.succ ?_
    simp only [impl_runLen_digit.l0, bs_size, iDigit, Option.bind_some, wrap_succ (by omega : i < 9223372036854775807)]
    refine Ev.pos (by omega) (Ev.pos (by omega) (Ev.pos ?_ (ih (i + 1) (by omega))))
    rw [bs_bt l i h]
    exact hp i h (by omega)

theorem run_wd (l : List UInt8) (hl : l.length ≤ 2000) (m : Nat) (hm : m ≤ l.length) (hp : ∀ i (h : i < l.length), i < m → isB ((l[i]).toNat : Int) = true) (hs : ∀ h : m < l.length, isB ((l[m]).toNat : Int) = false) :
    ∀ (d i : Nat), i + d = m → Ev (fun k => impl_runLen_both.l0 k (bs l) (i : Int)) (m : Int) := by
  intro d
  induction d with
  | zero =>
    intro i hi
    have hi : i = m := by omega
    subst hi
    refine Ev.succ ?_
    simp only [impl_runLen_both.l0, bs_size, iBoth, Option.bind_some]
    by_cases h : i < l.length
    · refine Ev.pos (by omega) (Ev.pos (by omega) (Ev.neg ?_ (Ev.const _)))
      rw [bs_bt l i h, hs h]
      simp
    · exact Ev.neg (by omega) (Ev.const _)
  | succ d ih =>
    intro i hi
    have h : i < l.length := by omega
    refine Ev.succ ?_
    simp only [impl_runLen_both.l0, bs_size, iBoth, Option.bind_some, wrap_succ (by omega : i < 9223372036854775807)]
    refine Ev.pos (by omega) (Ev.pos (by omega) (Ev.pos ?_ (ih (i + 1) (by omega))))
    rw [bs_bt l i h]
    exact hp i h (by omega)

theorem prefix2 (c d x y : UInt8) (r : List UInt8) : strings_HasPrefix.f (bs (c :: d :: r)) (⟨#[x, y]⟩ : ByteArray) = some (decide (c = x ∧ d = y)) := by
  have h2 : (⟨#[x, y]⟩ : ByteArray).size = 2 := rfl
  simp only [strings_HasPrefix.f, stringslite_HasPrefix.f, h2, bs_size, List.length_cons]
  rw [if_pos (by omega), if_pos (by decide), if_pos (by omega)]
  simp only [Option.bind_some, Option.some.injEq]
  have e1 : ((bs (c :: d :: r)).extract 0 (((2 : Nat) : Int)).toNat).toList = [c, d] := by
    rw [bs_ex, bs_toList]
    simp
  have e2 : (⟨#[x, y]⟩ : ByteArray).toList = [x, y] := by
    rw [ByteArray.toList_eq]
  rw [e1, e2]
  by_cases h1 : c = x <;> by_cases h2 : d = y <;> simp [h1, h2]

/-! ### What is passed over -/
theorem ps_one (c : UInt8) (r : List UInt8) (hc : c = 32 ∨ c = 10) : Ev (fun k => impl_passed.f k (bs (c :: r))) (1 : Int) := by
  have hb : bt (bs (c :: r)) 0 = (c.toNat : Int) := bs_bt (c :: r) 0 (by simp)
  refine Ev.succ ?_
  simp only [impl_passed.f, bs_size, hb]
  refine Ev.pos (by simp only [List.length_cons]; omega) ?_
  rcases hc with rfl | rfl
  · refine Ev.pos (by first | rfl | trivial | decide) ?_
    simp only [impl_passed.j0]
    exact Ev.pos (by first | rfl | trivial) (Ev.const _)
  · refine Ev.neg (by decide) ?_
    simp only [impl_passed.j0]
    exact Ev.pos (by first | rfl | trivial | decide) (Ev.const _)

theorem ps_no (c d : UInt8) (r : List UInt8) (hc : c ≠ 32 ∧ c ≠ 10) (hd : ¬ (c = 45 ∧ d = 45)) : Ev (fun k => impl_passed.f k (bs (c :: d :: r))) (0 : Int) := by
  have hb : bt (bs (c :: d :: r)) 0 = (c.toNat : Int) := bs_bt (c :: d :: r) 0 (by simp)
  have n32 : ¬ (c.toNat : Int) = 32 := fun h => hc.1 (UInt8.toNat_inj.1 (by simpa using (by omega : c.toNat = 32)))
  have n10 : ((c.toNat : Int) == 10) = false := by
    simp only [beq_eq_false_iff_ne, ne_eq]
    exact fun h => hc.2 (UInt8.toNat_inj.1 (by simpa using (by omega : c.toNat = 10)))
  refine Ev.succ ?_
  simp only [impl_passed.f, bs_size, hb, n10]
  refine Ev.pos (by simp only [List.length_cons]; omega) (Ev.neg n32 ?_)
  simp only [impl_passed.j0, prefix2]
  refine Ev.neg (by decide) ?_
  simp only [Option.bind_some, decide_eq_false hd]
  exact Ev.neg (by decide) (Ev.const _)

/-! ### Tokens -/
theorem take_app (a r : List UInt8) : (((a ++ r).drop 0).take (a.length - 0)) = a := by simp

theorem tk_main (c : UInt8) (r : List UInt8) (hr : r.length ≤ 1500) (hc : isB (c.toNat : Int) = false) : Ev (fun k => impl_nextTok.f k (bs ([109, 97, 105, 110] ++ c :: r))) (1, bs [109, 97, 105, 110], 0, 0, true) := by
  have hb : bt (bs ([109, 97, 105, 110] ++ c :: r)) 0 = 109 := bs_bt ([109, 97, 105, 110] ++ c :: r) 0 (by simp)
  have hrun := run_wd ([109, 97, 105, 110] ++ c :: r) (by simp; omega) 4 (by simp) (fun i h hi => by
    match i, hi with
    | 0, _ => rfl
    | 1, _ => rfl
    | 2, _ => rfl
    | 3, _ => rfl) (fun h => by simpa using hc) 4 0 rfl
  have hex : (bs ([109, 97, 105, 110] ++ c :: r)).extract 0 ((((4 : Nat) : Int)).toNat) = bs [109, 97, 105, 110] := by
    rw [bs_ex]
    simp
  have hno : hasT wordsL (bs [109, 97, 105, 110]) = false := by
    unfold hasT
    refine decide_eq_false ?_
    rintro ⟨q, hq, he⟩
    rw [bs_toList] at he
    simp only [wordsL, List.mem_cons, List.not_mem_nil, or_false] at hq
    rcases hq with rfl | rfl | rfl | rfl | rfl | rfl | rfl | rfl | rfl <;> rw [ByteArray.toList_eq] at he <;> simp at he
  have hcon := icon wordsL (by decide) (bs [109, 97, 105, 110])
  rw [hno] at hcon
  have hname := iname (bs [109, 97, 105, 110]) ⟨by rw [bs_size]; decide, by rw [bs_size]; decide, by rfl, fun i hi => by
    rw [bs_size] at hi
    match i, hi with
    | 0, _ => rfl
    | 1, _ => rfl
    | 2, _ => rfl
    | 3, _ => rfl⟩ hno
  have hd : decide ((bs [109, 97, 105, 110]).size ≤ 8 ∧ bt (bs [109, 97, 105, 110]) 0 ≥ 97) = true := by
    refine decide_eq_true ⟨by rw [bs_size]; decide, ?_⟩
    rw [show bt (bs [109, 97, 105, 110]) 0 = 109 from bs_bt [109, 97, 105, 110] 0 (by simp)]
    decide
  rw [hd] at hname
  simp only [impl_nextTok.f, hb, iLetter, Option.bind_some, bs_size]
  refine Ev.pos (by simp; omega) (Ev.pos (by rfl) (Ev.bind (a := ((4 : Nat) : Int)) hrun ?_))
  refine Ev.pos (by decide) (Ev.pos (by simp; omega) ?_)
  rw [hex]
  simp only [iwords, Option.bind_some]
  exact Ev.bind hcon (Ev.neg (by decide) (Ev.bind hname (Ev.pos rfl (Ev.const _))))

/-- Digits that are a number. -/
structure Num (A : List UInt8) : Prop where
  pos : 0 < A.length
  le : A.length ≤ 6
  dig : ∀ i (h : i < A.length), isD ((A[i]).toNat : Int) = true
  top : A.length = 1 ∨ ∀ h : 0 < A.length, A[0] ≠ 48

theorem tk_num (A : List UInt8) (hA : Num A) (c : UInt8) (r : List UInt8) (hr : r.length ≤ 1500) (hc : isD (c.toNat : Int) = false) : Ev (fun k => impl_nextTok.f k (bs (A ++ c :: r))) (3, bs A, 0, 0, true) := by
  have h0 := hA.pos
  have hlen : (A ++ c :: r).length = A.length + (r.length + 1) := by simp
  have hle := hA.le
  have hb : bt (bs (A ++ c :: r)) 0 = ((A[0]).toNat : Int) := by
    have := bs_bt (A ++ c :: r) 0 (by simp; omega)
    rw [List.getElem_append_left h0] at this
    exact this
  have hd0 := hA.dig 0 h0
  have hl0 : isL ((A[0]).toNat : Int) = false := by
    unfold isD at hd0
    unfold isL
    have := of_decide_eq_true hd0
    exact decide_eq_false (by omega)
  have hrun := run_dig (A ++ c :: r) (by omega) A.length (by omega) (fun i h hi => by rw [List.getElem_append_left hi]; exact hA.dig i hi) (fun h => by simpa using hc) A.length 0 (by omega)
  have hex : (bs (A ++ c :: r)).extract 0 (((A.length : Nat) : Int)).toNat = bs A := by
    rw [bs_ex]
    simp
  have hnum : impl_numberLike.f (bs A) = some true := by
    rw [inum (bs A) (by rw [bs_size]; exact h0)]
    congr 1
    unfold numW
    refine decide_eq_true ⟨by rw [bs_size]; exact hle, ?_⟩
    rw [bs_size]
    rcases hA.top with h | h
    · exact .inl h
    · refine .inr fun he => h h0 ?_
      have hb' : bt (bs A) 0 = ((A[0]).toNat : Int) := bs_bt A 0 h0
      rw [hb'] at he
      exact UInt8.toNat_inj.1 (by simpa using (by omega : (A[0]).toNat = 48))
  simp only [impl_nextTok.f, hb, iLetter, iDigit, Option.bind_some, bs_size]
  refine Ev.pos (by omega) (Ev.neg (by rw [hl0]; decide) (Ev.pos hd0 (Ev.bind (a := ((A.length : Nat) : Int)) hrun ?_)))
  refine Ev.pos (by omega) (Ev.pos (by omega) ?_)
  rw [hex, hnum]
  exact Ev.const _

theorem tk_op (c : UInt8) (d : UInt8) (r : List UInt8) (hr : r.length ≤ 1500) (hc : ([43, 45, 42, 60, 61] : List UInt8).contains c = true) (hd : d ≠ 62 ∧ d ≠ 61) : Ev (fun k => impl_nextTok.f k (bs (c :: d :: r))) (5, bs [c], 0, 0, true) := by
  have hb : bt (bs (c :: d :: r)) 0 = (c.toNat : Int) := bs_bt (c :: d :: r) 0 (by simp)
  have hmem : c = 43 ∨ c = 45 ∨ c = 42 ∨ c = 60 ∨ c = 61 := by simpa using hc
  have hL : isL (c.toNat : Int) = false := by rcases hmem with rfl | rfl | rfl | rfl | rfl <;> rfl
  have hD : isD (c.toNat : Int) = false := by rcases hmem with rfl | rfl | rfl | rfl | rfl <;> rfl
  have hM : decide ((c.toNat : Int) ∈ ([40, 41, 123, 125, 59, 61, 92, 124, 43, 45, 42, 60, 95] : List Int)) = true := by rcases hmem with rfl | rfl | rfl | rfl | rfl <;> decide
  have hex : (bs (c :: d :: r)).extract 0 1 = bs [c] := by
    rw [bs_ex]
    simp
  have hby := ibytes ([40, 41, 123, 125, 59, 61, 92, 124, 43, 45, 42, 60, 95] : List Int) (by decide) (c.toNat : Int)
  rw [hM] at hby
  simp only [impl_nextTok.f, hb, iLetter, iDigit, Option.bind_some, bs_size, prefix2, decide_eq_false (fun h : c = 45 ∧ d = 62 => hd.1 h.2), decide_eq_false (fun h : c = 61 ∧ d = 61 => hd.2 h.2), hex]
  refine Ev.pos (by simp; omega) (Ev.neg (by rw [hL]; decide) (Ev.neg (by rw [hD]; decide) (Ev.neg (by decide) (Ev.neg (by decide) (Ev.pos (by decide) (Ev.pos (by simp; omega) (Ev.bind hby (Ev.const _))))))))

theorem tk_eq (r : List UInt8) (hr : r.length ≤ 1500) : Ev (fun k => impl_nextTok.f k (bs (61 :: 61 :: r))) (5, bs [61, 61], 0, 0, true) := by
  have hb : bt (bs (61 :: 61 :: r)) 0 = 61 := bs_bt (61 :: 61 :: r) 0 (by simp)
  have hex : (bs (61 :: 61 :: r)).extract 0 2 = bs [61, 61] := by
    rw [bs_ex]
    simp
  simp only [impl_nextTok.f, hb, iLetter, iDigit, Option.bind_some, bs_size, prefix2, hex]
  refine Ev.pos (by simp; omega) (Ev.neg (by decide) (Ev.neg (by decide) (Ev.neg (by decide) (Ev.pos (by decide) (Ev.pos (by decide) (Ev.pos (by simp; omega) (Ev.const _)))))))

/-! ### The lexer's rounds -/
section
variable {L : List UInt8} {x4 : List S30} {R : List S30 × Bool} {ln b a : Nat}

theorem suf {r : List UInt8} {a : Nat} (hd : L.drop a = r) (hr : 0 < r.length) : a < L.length ∧ (bs L).extract a L.length = bs r ∧ ∀ c t, r = c :: t → bt (bs L) (a : Int) = (c.toNat : Int) := by
  have hlen := congrArg List.length hd
  rw [List.length_drop] at hlen
  have hlt : a < L.length := by omega
  refine ⟨hlt, ?_, fun c t h => ?_⟩
  · rw [bs_ex, hd, List.take_of_length_le (by omega)]
  · rw [bs_bt L a hlt]
    subst h
    have := congrArg (·[0]?) hd
    simp only [List.getElem?_drop, List.getElem?_cons_zero, Nat.add_zero, List.getElem?_eq_getElem hlt, Option.some.injEq] at this
    rw [this]

theorem lx_skip (hL : L.length ≤ 1500) {r : List UInt8} (hd : L.drop a = 32 :: r) (h : Ev (fun k => impl_Lex.l0 k (bs L) x4 (ln : Int) (b : Int) ((a + 1 : Nat) : Int)) R) : Ev (fun k => impl_Lex.l0 k (bs L) x4 (ln : Int) (b : Int) (a : Int)) R := by
  obtain ⟨hlt, hex, hbt⟩ := suf hd (by simp)
  have hb := hbt 32 r rfl
  refine Ev.succ ?_
  simp only [impl_Lex.l0, Int.toNat_natCast, hex, hb, bs_size]
  refine Ev.pos (by omega) (Ev.pos (by omega) (Ev.pos (by omega) (Ev.bind (ps_one 32 r (.inl rfl)) (Ev.pos (by decide) (Ev.neg (by decide) ?_)))))
  rw [wrap_succ (by omega : a < 9223372036854775807)]
  exact h

theorem lx_nl (hL : L.length ≤ 1500) {r : List UInt8} (hln : ln ≤ 1000) (hd : L.drop a = 10 :: r) (h : Ev (fun k => impl_Lex.l0 k (bs L) x4 ((ln + 1 : Nat) : Int) ((a + 1 : Nat) : Int) ((a + 1 : Nat) : Int)) R) : Ev (fun k => impl_Lex.l0 k (bs L) x4 (ln : Int) (b : Int) (a : Int)) R := by
  obtain ⟨hlt, hex, hbt⟩ := suf hd (by simp)
  have hb := hbt 10 r rfl
  refine Ev.succ ?_
  simp only [impl_Lex.l0, Int.toNat_natCast, hex, hb, bs_size]
  refine Ev.pos (by omega) (Ev.pos (by omega) (Ev.pos (by omega) (Ev.bind (ps_one 10 r (.inr rfl)) (Ev.pos (by decide) (Ev.pos (by decide) ?_)))))
  rw [wrap_succ (by omega : a < 9223372036854775807), wrap_succ (by omega : ln < 9223372036854775807)]
  exact h

theorem lx_tok (hL : L.length ≤ 1500) {r w : List UInt8} {kd : Int} (hba : b ≤ a) (hx : x4.length < 300) (hd : L.drop a = r) (hr : 0 < r.length) (hw : w.length ≤ 1500) (hp : Ev (fun k => impl_passed.f k (bs r)) (0 : Int)) (ht : Ev (fun k => impl_nextTok.f k (bs r)) (kd, bs w, 0, 0, true))
    (h : Ev (fun k => impl_Lex.l0 k (bs L) (x4 ++ [⟨kd, bs w, ln, ((a - b + 1 : Nat) : Int)⟩]) (ln : Int) (b : Int) ((a + w.length : Nat) : Int)) R) : Ev (fun k => impl_Lex.l0 k (bs L) x4 (ln : Int) (b : Int) (a : Int)) R := by
  obtain ⟨hlt, hex, hbt⟩ := suf hd hr
  refine Ev.succ ?_
  simp only [impl_Lex.l0, Int.toNat_natCast, hex, bs_size]
  refine Ev.pos (by omega) (Ev.pos (by omega) (Ev.pos (by omega) (Ev.bind hp (Ev.neg (by decide) (Ev.bind ht (Ev.pos rfl (Ev.pos (by omega) ?_)))))))
  have e1 : wrap64 (wrap64 ((a : Int) - (b : Int)) + 1) = ((a - b + 1 : Nat) : Int) := by
    rw [wrap_id (x := (a : Int) - (b : Int)) (by omega) (by omega), wrap_id (by omega) (by omega)]
    omega
  have e2 : wrap64 ((a : Int) + (((bs w).size : Nat) : Int)) = ((a + w.length : Nat) : Int) := by
    rw [bs_size, wrap_id (by omega) (by omega)]
    omega
  simp only [e1, e2]
  exact h

theorem lx_end (hL : L.length ≤ 1500) (hba : b ≤ a) (hx : x4.length < 300) (ha : a = L.length) : Ev (fun k => impl_Lex.l0 k (bs L) x4 (ln : Int) (b : Int) (a : Int)) (x4 ++ [⟨6, bs [], ln, ((a - b + 1 : Nat) : Int)⟩], true) := by
  refine Ev.succ ?_
  simp only [impl_Lex.l0, bs_size]
  have e1 : wrap64 (wrap64 ((a : Int) - (b : Int)) + 1) = ((a - b + 1 : Nat) : Int) := by
    rw [wrap_id (x := (a : Int) - (b : Int)) (by omega) (by omega), wrap_id (by omega) (by omega)]
    omega
  refine Ev.neg (by omega) (Ev.pos (by omega) ?_)
  simp only [e1, Option.bind_some]
  refine Ev.neg (by simp only [List.length_append, List.length_cons, List.length_nil]; omega) (Ev.const _)
end

def textL (A op B : List UInt8) : List UInt8 := [109, 97, 105, 110, 32, 61, 32] ++ (A ++ (32 :: (op ++ (32 :: (B ++ [10])))))

/-- One of the five operations. -/
def OpL (op : List UInt8) : Prop := op = [43] ∨ op = [45] ∨ op = [42] ∨ op = [61, 61] ∨ op = [60]

def tokL (A op B : List UInt8) : List S30 :=
  [⟨1, bs [109, 97, 105, 110], 1, 1⟩, ⟨5, bs [61], 1, 6⟩, ⟨3, bs A, 1, 8⟩, ⟨5, bs op, 1, ((A.length + 9 : Nat) : Int)⟩, ⟨3, bs B, 1, ((A.length + op.length + 10 : Nat) : Int)⟩, ⟨6, bs [], 2, 1⟩]

theorem drop_at {l x y : List UInt8} {n : Nat} (h : l = x ++ y) (hn : n = x.length) : l.drop n = y := by rw [h, hn, List.drop_left']; rfl

theorem dig_ne {A : List UInt8} (hA : Num A) : ∃ c t, A = c :: t ∧ c ≠ 32 ∧ c ≠ 10 ∧ c ≠ 45 := by
  have h0 := hA.pos
  match A, h0 with
  | c :: t, _ =>
    have hd := hA.dig 0 (by simp)
    unfold isD at hd
    have hd := of_decide_eq_true hd
    simp only [List.getElem_cons_zero] at hd
    refine ⟨c, t, rfl, ?_, ?_, ?_⟩ <;> (rintro rfl; revert hd; decide)

theorem lex_text {A op B : List UInt8} (hA : Num A) (hop : OpL op) (hB : Num B) : Ev (fun k => impl_Lex.f k (bs (textL A op B))) (tokL A op B, true) := by
  have la := hA.le
  have lb := hB.le
  have lo : 1 ≤ op.length ∧ op.length ≤ 2 := by rcases hop with rfl | rfl | rfl | rfl | rfl <;> decide
  have hlen : (textL A op B).length = 10 + A.length + op.length + B.length := by simp [textL]; omega
  have hL : (textL A op B).length ≤ 1500 := by omega
  simp only [impl_Lex.f, bs_size]
  refine Ev.neg (by omega) ?_
  -- main
  refine lx_tok (a := 0) (b := 0) (ln := 1) hL (Nat.le_refl _) (by decide) (r := [109, 97, 105, 110] ++ 32 :: ([61, 32] ++ (A ++ (32 :: (op ++ (32 :: (B ++ [10]))))))) rfl (by simp) (by decide) (ps_no 109 97 _ (by decide) (by decide)) (tk_main 32 _ (by simp; omega) rfl) ?_
  refine lx_skip (a := 4) (b := 0) (ln := 1) hL (r := [61, 32] ++ (A ++ (32 :: (op ++ (32 :: (B ++ [10])))))) rfl ?_
  -- =
  refine lx_tok (a := 5) (b := 0) (ln := 1) hL (by decide) (by decide) (r := 61 :: 32 :: (A ++ (32 :: (op ++ (32 :: (B ++ [10])))))) rfl (by simp) (w := [61]) (by decide) (ps_no 61 32 _ (by decide) (by decide)) (tk_op 61 32 _ (by simp; omega) (by decide) (by decide)) ?_
  refine lx_skip (a := 6) (b := 0) (ln := 1) hL (r := A ++ (32 :: (op ++ (32 :: (B ++ [10]))))) rfl ?_
  -- the first number
  have pA : Ev (fun k => impl_passed.f k (bs (A ++ 32 :: (op ++ (32 :: (B ++ [10])))))) (0 : Int) := by
    obtain ⟨c, t, rfl, h1, h2, h3⟩ := dig_ne hA
    cases t with
    | nil => exact ps_no c 32 _ ⟨h1, h2⟩ fun h => h3 h.1
    | cons d t => exact ps_no c d _ ⟨h1, h2⟩ fun h => h3 h.1
  refine lx_tok (a := 7) (b := 0) (ln := 1) hL (by decide) (by simp) (r := A ++ 32 :: (op ++ (32 :: (B ++ [10])))) rfl (by simp; omega) (w := A) (by omega) pA (tk_num A hA 32 _ (by simp; omega) rfl) ?_
  refine lx_skip (a := 7 + A.length) (b := 0) (ln := 1) hL (r := op ++ (32 :: (B ++ [10]))) (drop_at (x := [109, 97, 105, 110, 32, 61, 32] ++ A) (by simp [textL]) (by simp; omega)) ?_
  -- the operation
  have pO : Ev (fun k => impl_passed.f k (bs (op ++ (32 :: (B ++ [10]))))) (0 : Int) ∧ Ev (fun k => impl_nextTok.f k (bs (op ++ (32 :: (B ++ [10]))))) (5, bs op, 0, 0, true) := by
    have hr : (B ++ [10]).length ≤ 1500 := by simp; omega
    rcases hop with rfl | rfl | rfl | rfl | rfl
    · exact ⟨ps_no 43 32 _ (by decide) (by decide), tk_op 43 32 _ hr (by decide) (by decide)⟩
    · exact ⟨ps_no 45 32 _ (by decide) (by decide), tk_op 45 32 _ hr (by decide) (by decide)⟩
    · exact ⟨ps_no 42 32 _ (by decide) (by decide), tk_op 42 32 _ hr (by decide) (by decide)⟩
    · exact ⟨ps_no 61 61 _ (by decide) (by decide), tk_eq _ (by simp; omega)⟩
    · exact ⟨ps_no 60 32 _ (by decide) (by decide), tk_op 60 32 _ hr (by decide) (by decide)⟩
  refine lx_tok (a := 7 + A.length + 1) (b := 0) (ln := 1) hL (Nat.zero_le _) (by simp) (r := op ++ (32 :: (B ++ [10]))) (drop_at (x := [109, 97, 105, 110, 32, 61, 32] ++ A ++ [32]) (by simp [textL]) (by simp; omega)) (by simp; omega) (w := op) (by omega) pO.1 pO.2 ?_
  refine lx_skip (a := 7 + A.length + 1 + op.length) (b := 0) (ln := 1) hL (r := B ++ [10]) (drop_at (x := [109, 97, 105, 110, 32, 61, 32] ++ A ++ [32] ++ op) (by simp [textL]) (by simp; omega)) ?_
  -- the second number
  have pB : Ev (fun k => impl_passed.f k (bs (B ++ 10 :: []))) (0 : Int) := by
    obtain ⟨c, t, rfl, h1, h2, h3⟩ := dig_ne hB
    cases t with
    | nil => exact ps_no c 10 _ ⟨h1, h2⟩ fun h => h3 h.1
    | cons d t => exact ps_no c d _ ⟨h1, h2⟩ fun h => h3 h.1
  refine lx_tok (a := 7 + A.length + 1 + op.length + 1) (b := 0) (ln := 1) hL (Nat.zero_le _) (by simp) (r := B ++ 10 :: []) (drop_at (x := [109, 97, 105, 110, 32, 61, 32] ++ A ++ [32] ++ op ++ [32]) (by simp [textL]) (by simp; omega)) (by simp) (w := B) (by omega) pB (tk_num B hB 10 [] (by simp) rfl) ?_
  refine lx_nl (a := 7 + A.length + 1 + op.length + 1 + B.length) (b := 0) (ln := 1) hL (by decide) (r := []) (drop_at (x := [109, 97, 105, 110, 32, 61, 32] ++ A ++ [32] ++ op ++ [32] ++ B) (by simp [textL]) (by simp; omega)) ?_
  have fin := lx_end (x4 := [⟨1, bs [109, 97, 105, 110], 1, 1⟩, ⟨5, bs [61], 1, 6⟩, ⟨3, bs A, 1, 8⟩, ⟨5, bs op, 1, ((A.length + 9 : Nat) : Int)⟩, ⟨3, bs B, 1, ((A.length + op.length + 10 : Nat) : Int)⟩]) (a := 7 + A.length + 1 + op.length + 1 + B.length + 1) (b := 7 + A.length + 1 + op.length + 1 + B.length + 1) (ln := 2) hL (Nat.le_refl _) (by simp) (by omega)
  have c1 : (7 + A.length + 1 - 0 + 1 : Nat) = A.length + 9 := by omega
  have c2 : (7 + A.length + 1 + op.length + 1 - 0 + 1 : Nat) = A.length + op.length + 10 := by omega
  have c3 : (7 + A.length + 1 + op.length + 1 + B.length + 1 - (7 + A.length + 1 + op.length + 1 + B.length + 1) + 1 : Nat) = 1 := by omega
  rw [c3] at fin
  rw [c1, c2]
  exact fin

/-! ### Digits -/
def dg : Nat → Nat → List UInt8
  | 0, _ => []
  | k + 1, n => if n < 10 then [UInt8.ofNat (48 + n)] else dg k (n / 10) ++ [UInt8.ofNat (48 + n % 10)]

theorem u8_dig (n : Nat) (h : n < 10) : (UInt8.ofNat (48 + n)).toNat = 48 + n := by
  simp [UInt8.toNat_ofNat', Nat.mod_eq_of_lt (show 48 + n < 256 by omega)]

theorem dg_len : ∀ (k n : Nat), n < 10 ^ k → 0 < k → 0 < (dg k n).length ∧ (dg k n).length ≤ k ∧ (∀ i (h : i < (dg k n).length), isD (((dg k n)[i]).toNat : Int) = true) ∧ ((dg k n).length = 1 ∨ (0 < n ∧ ∀ h : 0 < (dg k n).length, (dg k n)[0] ≠ 48)) ∧ (0 < n → ∀ h : 0 < (dg k n).length, (dg k n)[0] ≠ 48)
  | 0, n, _, h => by omega
  | k + 1, n, hn, _ => by
    have hd : ∀ m, m < 10 → isD (((UInt8.ofNat (48 + m)).toNat : Nat) : Int) = true := fun m hm => by
      rw [u8_dig m hm]
      unfold isD
      exact decide_eq_true (by omega)
    have hne : ∀ m, 0 < m → m < 10 → UInt8.ofNat (48 + m) ≠ 48 := fun m h1 h2 e => by
      have := congrArg UInt8.toNat e
      rw [u8_dig m h2] at this
      simp at this
      omega
    simp only [dg]
    split
    · rename_i h
      refine ⟨by simp, by simp, fun i hi => ?_, .inl rfl, fun h0 _ => ?_⟩
      · simp only [List.length_singleton] at hi
        have : i = 0 := by omega
        subst this
        exact hd n h
      · exact hne n h0 h
    · rename_i h
      have hk : 0 < k := by
        rcases Nat.eq_zero_or_pos k with rfl | h'
        · simp at hn; omega
        · exact h'
      have hq : n / 10 < 10 ^ k := by
        rw [Nat.pow_succ] at hn
        exact Nat.div_lt_of_lt_mul (by rw [Nat.mul_comm]; exact hn)
      have hq0 : 0 < n / 10 := by omega
      obtain ⟨h1, h2, h3, h4, h5⟩ := dg_len k (n / 10) hq hk
      have top : ∀ h : 0 < (dg k (n / 10) ++ [UInt8.ofNat (48 + n % 10)]).length, (dg k (n / 10) ++ [UInt8.ofNat (48 + n % 10)])[0] ≠ 48 := fun h => by
        rw [List.getElem_append_left h1]
        exact h5 hq0 h1
      refine ⟨by simp, by simp; omega, fun i hi => ?_, .inr ⟨by omega, top⟩, fun _ => top⟩
      by_cases hil : i < (dg k (n / 10)).length
      · rw [List.getElem_append_left hil]
        exact h3 i hil
      · rw [List.getElem_append_right (by omega)]
        simp only [List.length_append, List.length_singleton] at hi
        have : i - (dg k (n / 10)).length = 0 := by omega
        simp only [this, List.getElem_cons_zero]
        exact hd _ (Nat.mod_lt _ (by decide))

theorem dg_num (n : Nat) (h : n < 1000000) : Num (dg 6 n) := by
  obtain ⟨h1, h2, h3, h4, -⟩ := dg_len 6 n (by simpa using h) (by decide)
  exact ⟨h1, h2, h3, h4.imp_right (·.2)⟩

open Go.Proofs.YtdbbchgbgdbhbaaGreatDoor.PAt in
theorem dg_f : ∀ (k n : Nat), n < 10 ^ k → n < 10000000 → 0 < k → k ≤ 100 → laws_digits.f k (n : Int) = some (bs (dg k n))
  | 0, n, _, _, h, _ => by omega
  | k + 1, n, hn, hb, _, hk' => by
    have one : ∀ m : Nat, m < 10 → strOfNums [wrap64 (48 + (m : Int)) % 256] = bs [UInt8.ofNat (48 + m)] := fun m hm => by
      rw [wrap_id (by omega) (by omega)]
      have e : (48 + (m : Int)) % 256 = ((48 + m : Nat) : Int) := by omega
      rw [e]
      rfl
    simp only [laws_digits.f, dg]
    by_cases h : n < 10
    · rw [if_pos (by omega), if_pos h, one n h]
    · have hk : 0 < k := by
        rcases Nat.eq_zero_or_pos k with rfl | h'
        · simp at hn; omega
        · exact h'
      have hq : n / 10 < 10 ^ k := by
        rw [Nat.pow_succ] at hn
        exact Nat.div_lt_of_lt_mul (by rw [Nat.mul_comm]; exact hn)
      have e1 : wrap64 (Int.tdiv (n : Int) 10) = ((n / 10 : Nat) : Int) := by
        have : Int.tdiv (n : Int) 10 = ((n / 10 : Nat) : Int) := by
          rw [Int.tdiv_eq_ediv_of_nonneg (by omega)]
          omega
        rw [this, wrap_id (by omega) (by omega)]
      have e2 : Int.tmod (n : Int) 10 = ((n % 10 : Nat) : Int) := by
        rw [Int.tmod_eq_emod_of_nonneg (by omega)]
        omega
      have hl := (dg_len k (n / 10) hq hk).2.1
      rw [if_neg (by omega), if_neg h, e1, dg_f k (n / 10) hq (by omega) hk (by omega), e2]
      simp only [Option.bind_some]
      rw [one (n % 10) (Nat.mod_lt _ (by decide)), if_pos (by rw [bs_size, bs_size]; simp; omega), bs_app]
end Go.Proofs.YtdbbchgbgdbhbaaGreatDoor.Pure

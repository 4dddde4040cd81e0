/- FnResTexts in plain Lean: the results that are drawn are small; their texts and depths are told alike. No condition. -/
import Derived.Test.YtkbnfhgldcfceaaDoorPResx7
import Derived.Lib.ItoaLen
namespace Go.Proofs.YtkbnfhgldcfceaaDoor.Pure
open Go Go.RowKit Go.Proofs.YtkbnfhgldcfceaaDoor.PRes Go.Proofs.YtkbnfhgldcfceaaDoor.MyCount Go.Proofs.YtkbnfhgldcfceaaDoorW.PrintWords Go.Proofs.YtkbnfhgldcfceaaDoorW.PrintLast
set_option linter.unusedVariables false
set_option linter.unusedSimpArgs false
/-- With enough rounds: this result. -/
def Ev {α : Type} (g : Nat → Option α) (r : α) : Prop := ∃ K, ∀ k, K ≤ k → g k = some r
theorem Ev.const {α : Type} (r : α) : Ev (fun _ => some r) r := ⟨0, fun _ _ => rfl⟩
theorem Ev.all {α : Type} {g : Option α} {r : α} (h : g = some r) : Ev (fun _ => g) r := ⟨0, fun _ _ => h⟩
theorem Ev.succ {α : Type} {g : Nat → Option α} {r : α} (h : Ev (fun k => g (k + 1)) r) : Ev g r := by
  obtain ⟨K, h⟩ := h
  exact ⟨K + 1, fun k hk => by obtain ⟨m, rfl⟩ : ∃ m, k = m + 1 := ⟨k - 1, by omega⟩; exact h m (by omega)⟩
theorem Ev.bind {α β : Type} {g : Nat → Option α} {f : Nat → α → Option β} {a : α} {r : β} (h : Ev g a) (hf : Ev (fun k => f k a) r) : Ev (fun k => (g k).bind (f k)) r := by
  obtain ⟨K, h⟩ := h
  obtain ⟨L, hf⟩ := hf
  exact ⟨max K L, fun k hk => by show (g k).bind (f k) = some r; rw [h k (by omega)]; exact hf k (by omega)⟩
theorem Ev.pos {α : Type} {c : Prop} [Decidable c] {a b : Nat → Option α} {r : α} (hc : c) (h : Ev a r) : Ev (fun k => if c then a k else b k) r := by
  simpa only [if_pos hc] using h
theorem Ev.neg {α : Type} {c : Prop} [Decidable c] {a b : Nat → Option α} {r : α} (hc : ¬ c) (h : Ev b r) : Ev (fun k => if c then a k else b k) r := by
  simpa only [if_neg hc] using h
theorem wrap_succ {i : Nat} (h : i < 9223372036854775807) : wrap64 ((i : Int) + 1) = ((i + 1 : Nat) : Int) := by
  unfold wrap64; omega
theorem wrap_id {x : Int} (h0 : -9223372036854775808 ≤ x) (h1 : x ≤ 9223372036854775807) : wrap64 x = x := by unfold wrap64; omega
theorem rdOf_at (l : List ByteArray) (i : Nat) (h : i < l.length) : rdOf ByteArray.empty l (i : Int) = l[i] := by
  unfold rdOf
  rw [Int.toNat_natCast, List.getD_eq_getElem?_getD, List.getElem?_eq_getElem h]
  rfl
theorem and255 (x : Int) : 0 ≤ bits .and .i64 x 255 ∧ bits .and .i64 x 255 ≤ 255 := by
  have h : (BitVec.ofInt (IntKind.bits .i64) x &&& BitVec.ofInt (IntKind.bits .i64) 255).toNat ≤ 255 := by
    rw [BitVec.toNat_and]
    exact Nat.le_trans Nat.and_le_right (by decide)
  show 0 ≤ IntKind.wrap .i64 ((BitVec.ofInt (IntKind.bits .i64) x &&& BitVec.ofInt (IntKind.bits .i64) 255).toNat : Int) ∧ IntKind.wrap .i64 ((BitVec.ofInt (IntKind.bits .i64) x &&& BitVec.ofInt (IntKind.bits .i64) 255).toNat : Int) ≤ 255
  generalize (BitVec.ofInt (IntKind.bits .i64) x &&& BitVec.ofInt (IntKind.bits .i64) 255).toNat = m at h
  simp only [IntKind.wrap, IntKind.bits, IntKind.signed]
  simp
  omega

/-! #### what is drawn -/
theorem new_loop (l : List Int) : ∀ (d i : Nat) (h : Int), i + d = 4000 → ∃ h', Ev (fun k => spec_l1New.l0 k l h (i : Int)) (l, 0, h') := by
  intro d
  induction d with
  | zero =>
    intro i h hi
    refine ⟨h, Ev.succ ?_⟩
    simp only [spec_l1New.l0]
    by_cases c : (i : Int) < (l.length : Int)
    · exact Ev.pos c (Ev.neg (by omega) (Ev.const _))
    · exact Ev.neg c (Ev.const _)
  | succ d ih =>
    intro i h hi
    by_cases c : (i : Int) < (l.length : Int)
    · obtain ⟨h', hh⟩ := ih (i + 1) (Go.bits .and .i64 (wrap64 ((wrap64 ((wrap64 (h * 137)) + (wrap64 (rd l (i : Int))))) + 11)) 1073741823) (by omega)
      refine ⟨h', Ev.succ ?_⟩
      simp only [spec_l1New.l0, wrap_succ (by omega : i < 9223372036854775807)]
      exact Ev.pos c (Ev.pos (by omega) (Ev.pos (by omega) hh))
    · refine ⟨h, Ev.succ ?_⟩
      simp only [spec_l1New.l0]
      exact Ev.neg c (Ev.const _)
theorem new_ok (l : List Int) : ∃ h', Ev (fun k => spec_l1New.f k l) (l, 0, h') := new_loop l 4000 0 _ (by omega)
/-- Where a cursor stands. -/
def At (l : List Int) (i : Int) : Prop := 0 ≤ i ∧ i ≤ 1048576
theorem byte_ok (l : List Int) (hl : l.length ≤ 1048576) (i h : Int) (hi : At l i) : ∃ b i' h', spec_l1Byte.f l i h = some (b, i', h') ∧ 0 ≤ b ∧ b ≤ 255 ∧ At l i' := by
  unfold spec_l1Byte.f
  by_cases c : i < (l.length : Int)
  · rw [if_pos c, if_pos hi.1]
    exact ⟨_, _, _, rfl, (and255 _).1, (and255 _).2, by rw [wrap_id (by have := hi.1; omega) (by omega)]; exact ⟨by have := hi.1; omega, by omega⟩⟩
  · rw [if_neg c]
    exact ⟨_, _, _, rfl, (and255 _).1, (and255 _).2, hi⟩
theorem below_ok (l : List Int) (hl : l.length ≤ 1048576) (i h n : Int) (hi : At l i) (h0 : 0 < n) (h1 : n ≤ 256) : ∃ b i' h', spec_l1Below.f l i h n = some (b, i', h') ∧ 0 ≤ b ∧ b < n ∧ At l i' := by
  unfold spec_l1Below.f
  rw [if_neg (by omega), if_pos h1]
  obtain ⟨b, i', h', e, hb0, hb1, hi'⟩ := byte_ok l hl i h hi
  rw [e]
  refine ⟨Int.tmod b n, i', h', ?_, Int.tmod_nonneg _ hb0, Int.tmod_lt_of_pos _ h0, hi'⟩
  show (if n = 0 then none else some (Int.tmod b n, i', h')) = _
  rw [if_neg (by omega)]theorem size_len (s : ByteArray) : s.size = s.data.toList.length := rfl
theorem bt_get (s : ByteArray) (i : Nat) (h : i < s.size) : bt s (i : Int) = ((s.data.toList[i]'(by rw [← size_len]; exact h)).toNat : Int) := by
  unfold bt
  rw [dif_pos (by simpa using h)]
  rfl
theorem ten (b : UInt8) : ((b.toNat : Int) = 10) ↔ b = 10 := by
  constructor
  · intro h
    apply UInt8.toNat_inj.1
    show b.toNat = 10
    omega
  · rintro rfl
    rfl
/-- How many lines. -/
def lines (s : ByteArray) : Int := (s.data.toList.count 10 : Int) + (if h : 0 < s.size then (if s.data.toList[s.size - 1]'(by rw [← size_len]; omega) = 10 then 0 else 1) else 0)
theorem count_le (s : ByteArray) : s.data.toList.count 10 ≤ s.size := by rw [size_len]; exact List.count_le_length
theorem loop (s : ByteArray) (hs : s.size ≤ 1048576) : ∀ (d k i : Nat), i + d = s.size → d < k → spec_Lines.l0 k s ((s.data.toList.take i).count 10 : Int) (i : Int) = some (lines s) := by
  intro d
  induction d with
  | zero =>
    intro k i hi hk
    obtain ⟨k, rfl⟩ : ∃ m, k = m + 1 := ⟨k - 1, by omega⟩
    simp only [spec_Lines.l0]
    rw [if_neg (by omega), List.take_of_length_le (by rw [← size_len]; omega)]
    unfold lines
    by_cases h0 : 0 < s.size
    · have e : wrap64 ((s.size : Int) - 1) = ((s.size - 1 : Nat) : Int) := by rw [wrap_id (by omega) (by omega)]; omega
      have hc := count_le s
      rw [if_pos (by omega), e, if_pos (by omega), if_pos (by omega), bt_get s _ (by omega), dif_pos h0]
      by_cases h1 : s.data.toList[s.size - 1]'(by rw [← size_len]; omega) = 10
      · rw [if_pos ((ten _).2 h1), if_pos h1, Int.add_zero]
      · rw [if_neg (fun h => h1 ((ten _).1 h)), if_neg h1, wrap_id (by omega) (by omega)]
    · rw [if_neg (by omega), dif_neg h0, Int.add_zero]
  | succ d ih =>
    intro k i hi hk
    obtain ⟨k, rfl⟩ : ∃ m, k = m + 1 := ⟨k - 1, by omega⟩
    have hb : i < s.size := by omega
    have hl : i < s.data.toList.length := by rw [← size_len]; exact hb
    have e : wrap64 ((i : Int) + 1) = ((i + 1 : Nat) : Int) := by rw [wrap_id (by omega) (by omega)]; omega
    have hc : (s.data.toList.take i).count 10 ≤ i := Nat.le_trans List.count_le_length (by simp; omega)
    have ht : s.data.toList.take (i + 1) = s.data.toList.take i ++ [s.data.toList[i]] := by rw [List.take_succ_eq_append_getElem hl]
    simp only [spec_Lines.l0]
    rw [if_pos (by omega), if_pos (by omega), bt_get s i hb, e]
    have := ih k (i + 1) (by omega) (by omega)
    rw [ht, List.count_append, List.count_singleton] at this
    by_cases h1 : s.data.toList[i] = 10
    · rw [if_pos ((ten _).2 h1), wrap_id (by omega) (by omega)]
      rw [if_pos (by simp [h1])] at this
      simpa using this
    · rw [if_neg (fun h => h1 ((ten _).1 h))]
      rw [if_neg (by simpa using h1)] at this
      simpa using this
theorem impl_eq (s : ByteArray) (hs : s.size ≤ 1048576) : impl_Lines.f s = some (lines s) := by
  have hc := count_le s
  simp only [impl_Lines.f, strings_Count.f, if_true, Option.bind_some, ByteArray.toList_eq]
  unfold lines
  have hcb : Lib.countByte s.data.toList 10 = s.data.toList.count 10 := rfl
  rw [hcb]
  by_cases h0 : 0 < s.size
  · rw [if_neg (by intro h; rw [size_len, h] at h0; simp at h0), dif_pos h0]
    have e : wrap64 ((s.size : Int) - 1) = ((s.size - 1 : Nat) : Int) := by rw [wrap_id (by omega) (by omega)]; omega
    have hx : (s.extract (s.size - 1) s.size).data.toList = [s.data.toList[s.size - 1]'(by rw [← size_len]; omega)] := by
      rw [ByteArray.data_extract, Array.toList_extract]
      apply List.ext_getElem
      · simp [List.extract, ← size_len]; omega
      · intro i h1 h2
        simp at h2
        subst h2
        simp [List.extract]
    have e1 : ((⟨#[10]⟩ : ByteArray).size : Int) = 1 := rfl
    have e2 : (⟨#[10]⟩ : ByteArray).data.toList = [10] := rfl
    simp only [strings_HasSuffix.f, stringslite_HasSuffix.f, e1, ByteArray.toList_eq, e2, e, Int.toNat_natCast, hx]
    rw [if_pos (by omega), if_pos (by omega), if_pos (by omega)]
    simp only [Option.bind_some]
    by_cases h1 : s.data.toList[s.size - 1]'(by rw [← size_len]; omega) = 10
    · rw [if_pos (by simp [h1]), if_pos h1]
      simp
    · rw [if_neg (by simpa using h1), if_neg h1, wrap_id (by omega) (by omega)]
  · have hz : s.data.toList = [] := List.length_eq_zero_iff.1 (by rw [← size_len]; omega)
    rw [if_pos hz, dif_neg h0, hz]
    rfl
/-! #### what is drawn -/
theorem str_ok (l : List Int) (hl : l.length ≤ 1048576) (i h : Int) (q : List ByteArray) (hi : At l i) (h0 : 0 < q.length) (h1 : q.length ≤ 256) : ∃ s i' h', spec_l1Str.f l i h q = some (s, i', h') ∧ At l i' ∧ s ∈ q := by
  unfold spec_l1Str.f
  obtain ⟨b, i', h', e, hb0, hb1, hi'⟩ := below_ok l hl i h (q.length : Int) hi (by omega) (by omega)
  rw [e]
  refine ⟨rdOf ByteArray.empty q b, i', h', ?_, hi', ?_⟩
  · show (if 0 ≤ b then (if b < (q.length : Int) then some (rdOf ByteArray.empty q b, i', h') else none) else none) = _
    rw [if_pos hb0, if_pos hb1]
  · obtain ⟨n, rfl⟩ : ∃ n : Nat, b = n := ⟨b.toNat, by omega⟩
    rw [rdOf_at q n (by omega)]
    exact List.getElem_mem _
theorem int_ok (l : List Int) (hl : l.length ≤ 1048576) (i h : Int) (q : List Int) (hi : At l i) (h0 : 0 < q.length) (h1 : q.length ≤ 256) : ∃ s i' h', spec_l1Int.f l i h q = some (s, i', h') ∧ At l i' ∧ s ∈ q := by
  unfold spec_l1Int.f
  obtain ⟨b, i', h', e, hb0, hb1, hi'⟩ := below_ok l hl i h (q.length : Int) hi (by omega) (by omega)
  rw [e]
  refine ⟨rd q b, i', h', ?_, hi', ?_⟩
  · show (if 0 ≤ b then (if b < (q.length : Int) then some (rd q b, i', h') else none) else none) = _
    rw [if_pos hb0, if_pos hb1]
  · obtain ⟨n, rfl⟩ : ∃ n : Nat, b = n := ⟨b.toNat, by omega⟩
    have : rd q (n : Int) = q[n]'(by omega) := by
      unfold rd
      simp [List.getD_eq_getElem?_getD, List.getElem?_eq_getElem (show n < q.length by omega)]
    rw [this]
    exact List.getElem_mem _
/-- A result that is n deep at most, with all of its parts small. -/
def Ok : Nat → S28 → Prop
  | 0, _ => False
  | n + 1, x => x.f1.size ≤ 8 ∧ -9223372036854775808 ≤ x.f2 ∧ x.f2 ≤ 1000000000 ∧ x.f3.length ≤ 3 ∧ ∀ y ∈ x.f3, Ok n y
/-- .. in which but a value that is built has parts. -/
def Wf : Nat → S28 → Prop
  | 0, _ => False
  | n + 1, x => x.f1.size ≤ 8 ∧ -9223372036854775808 ≤ x.f2 ∧ x.f2 ≤ 1000000000 ∧ x.f3.length ≤ 3 ∧ (x.f0 ≠ 2 → x.f3 = []) ∧ ∀ y ∈ x.f3, Wf n y
theorem Wf.ok : ∀ {n : Nat} {x : S28}, Wf n x → Ok n x
  | 0, _, h => h
  | n + 1, _, ⟨a, b, c, d, _, f⟩ => ⟨a, b, c, d, fun y hy => (f y hy).ok⟩
theorem draw_parts (l : List Int) (hl : l.length ≤ 1048576) (n : Nat) (hn : n ≤ 4)
    (ih : ∀ m, m + 1 = n → ∀ i h, At l i → ∃ t s v xs i' h', Ev (fun k => spec_l12Draw.f k l i h (m : Int)) (t, s, v, xs, i', h') ∧ Wf (m + 1) ⟨t, s, v, xs⟩ ∧ At l i')
    (t : Int) (s : ByteArray) (v : Int) : ∀ (d : Nat) (i h : Int) (xs : List S28), xs.length + d ≤ 3 → (∀ y ∈ xs, Wf n y) → At l i →
    ∃ ys i' h', Ev (fun k => spec_l12Draw.l0 k (n : Int) (d : Int) l i h t s v xs) (t, s, v, ys, i', h') ∧ ys.length ≤ 3 ∧ (∀ y ∈ ys, Wf n y) ∧ At l i' := by
  intro d
  induction d with
  | zero =>
    intro i h xs hx hw hi
    refine ⟨xs, i, h, Ev.succ ?_, by omega, hw, hi⟩
    simp only [spec_l12Draw.l0]
    exact Ev.neg (by omega) (Ev.const _)
  | succ d ihd =>
    intro i h xs hx hw hi
    by_cases c : (n : Int) > 0
    · obtain ⟨m, rfl⟩ : ∃ m, n = m + 1 := ⟨n - 1, by omega⟩
      obtain ⟨t1, s1, v1, xs1, i1, h1, e1, w1, hi1⟩ := ih m rfl i h hi
      obtain ⟨ys, i', h', e2, hy, hwy, hi'⟩ := ihd i1 h1 (xs ++ [⟨t1, s1, v1, xs1⟩]) (by simp; omega) (by
        intro y hy
        rcases List.mem_append.1 hy with hy | hy
        · exact hw y hy
        · rw [List.mem_singleton.1 hy]; exact w1) hi1
      refine ⟨ys, i', h', Ev.succ ?_, hy, hwy, hi'⟩
      have a1 : wrap64 (((m + 1 : Nat) : Int) - 1) = (m : Int) := by rw [wrap_id (by omega) (by omega)]; omega
      have a2 : wrap64 (((d + 1 : Nat) : Int) - 1) = (d : Int) := by rw [wrap_id (by omega) (by omega)]; omega
      simp only [spec_l12Draw.l0, a1, a2]
      exact Ev.pos (by omega) (Ev.pos c (Ev.bind e1 (Ev.pos (by omega) e2)))
    · refine ⟨xs, i, h, Ev.succ ?_, by omega, hw, hi⟩
      simp only [spec_l12Draw.l0]
      exact Ev.pos (by omega) (Ev.neg c (Ev.const _))
theorem draw_one (l : List Int) (hl : l.length ≤ 1048576) (n : Nat) (hn : n ≤ 4)
    (ih : ∀ m, m + 1 = n → ∀ i h, At l i → ∃ t s v xs i' h', Ev (fun k => spec_l12Draw.f k l i h (m : Int)) (t, s, v, xs, i', h') ∧ Wf (m + 1) ⟨t, s, v, xs⟩ ∧ At l i')
    (i h : Int) (hi : At l i) : ∃ t s v xs i' h', Ev (fun k => spec_l12Draw.f k l i h (n : Int)) (t, s, v, xs, i', h') ∧ Wf (n + 1) ⟨t, s, v, xs⟩ ∧ At l i' := by
  obtain ⟨t, i1, h1, e1, hi1, ht⟩ := int_ok l hl i h [1, 1, 2, 2, 3, 4, 7] hi (by simp) (by simp)
  by_cases c1 : t = 1
  · obtain ⟨v, i2, h2, e2, hi2, hv⟩ := int_ok l hl i1 h1 [0, 7, (-7), 999999] hi1 (by simp) (by simp)
    refine ⟨t, ⟨#[]⟩, v, [], i2, h2, Ev.succ ?_, ⟨Nat.zero_le _, ?_, ?_, Nat.zero_le _, fun _ => rfl, fun y hy => by cases hy⟩, hi2⟩
    · simp only [spec_l12Draw.f]
      exact Ev.bind (Ev.all e1) (Ev.pos c1 (Ev.bind (Ev.all e2) (Ev.const _)))
    · simp at hv; show _ ≤ v; omega
    · simp at hv; show v ≤ _; omega
  · by_cases c2 : t = 2
    · obtain ⟨s, i2, h2, e2, hi2, hs⟩ := str_ok l hl i1 h1 [(⟨#[65]⟩ : ByteArray), (⟨#[66]⟩ : ByteArray), (⟨#[84, 114, 117, 101]⟩ : ByteArray)] hi1 (by simp) (by simp)
      obtain ⟨b, i3, h3, e3, hb0, hb1, hi3⟩ := below_ok l hl i2 h2 3 hi2 (by omega) (by omega)
      obtain ⟨ys, i4, h4, e4, hy, hw, hi4⟩ := draw_parts l hl n hn ih t s 0 b.toNat i3 h3 [] (by simp; omega) (fun y hy => by cases hy) hi3
      rw [Int.toNat_of_nonneg hb0] at e4
      refine ⟨t, s, 0, ys, i4, h4, Ev.succ ?_, ⟨?_, by show (_ : Int) ≤ 0; omega, by show (0 : Int) ≤ _; omega, hy, fun hne => absurd c2 hne, hw⟩, hi4⟩
      · simp only [spec_l12Draw.f]
        exact Ev.bind (Ev.all e1) (Ev.neg c1 (Ev.pos c2 (Ev.bind (Ev.all e2) (Ev.bind (Ev.all e3) e4))))
      · show s.size ≤ 8
        simp at hs
        rcases hs with rfl | rfl | rfl <;> decide
    · refine ⟨t, ⟨#[]⟩, 0, [], i1, h1, Ev.succ ?_, ⟨Nat.zero_le _, by show (_ : Int) ≤ 0; omega, by show (0 : Int) ≤ _; omega, Nat.zero_le _, fun _ => rfl, fun y hy => by cases hy⟩, hi1⟩
      simp only [spec_l12Draw.f]
      exact Ev.bind (Ev.all e1) (Ev.neg c1 (Ev.neg c2 (Ev.const _)))
theorem draw_ok (l : List Int) (hl : l.length ≤ 1048576) : ∀ (n : Nat), n ≤ 4 → ∀ i h, At l i → ∃ t s v xs i' h', Ev (fun k => spec_l12Draw.f k l i h (n : Int)) (t, s, v, xs, i', h') ∧ Wf (n + 1) ⟨t, s, v, xs⟩ ∧ At l i' := by
  intro n
  induction n with
  | zero =>
    intro hn i h hi
    exact draw_one l hl 0 hn (fun m hm => by omega) i h hi
  | succ n ih =>
    intro hn i h hi
    exact draw_one l hl (n + 1) hn (fun m hm => by obtain rfl : m = n := (by omega); exact ih (by omega)) i h hi
theorem wrapS : ∀ (d : Nat) (t : Int) (s : ByteArray) (v : Int) (xs : List S28) (n : Nat), d ≤ 100 → Wf n ⟨t, s, v, xs⟩ →
    ∃ t' s' v' xs', Ev (fun k => spec_DrawResText.l0 k (d : Int) t s v xs) (t', s', v', xs') ∧ Wf (n + d) ⟨t', s', v', xs'⟩ := by
  intro d
  induction d with
  | zero =>
    intro t s v xs n _ h
    refine ⟨t, s, v, xs, Ev.succ ?_, h⟩
    simp only [spec_DrawResText.l0]
    exact Ev.neg (by omega) (Ev.const _)
  | succ d ih =>
    intro t s v xs n hd h
    obtain ⟨t', s', v', xs', e, w⟩ := ih 2 ⟨#[83]⟩ 0 [⟨t, s, v, xs⟩] (n + 1) (by omega) ⟨by show (⟨#[83]⟩ : ByteArray).size ≤ 8; decide, by show (_ : Int) ≤ 0; omega, by show (0 : Int) ≤ _; omega, by show ([_] : List S28).length ≤ 3; simp, fun hne => absurd rfl hne, fun y hy => by rw [List.mem_singleton.1 hy]; exact h⟩
    refine ⟨t', s', v', xs', Ev.succ ?_, by rw [show n + (d + 1) = n + 1 + d by omega]; exact w⟩
    have a2 : wrap64 (((d + 1 : Nat) : Int) - 1) = (d : Int) := by rw [wrap_id (by omega) (by omega)]; omega
    simp only [spec_DrawResText.l0, a2]
    exact Ev.pos (by omega) e
/-- The result whose text is asked. -/
theorem drawn_text (l : List Int) (hl : l.length ≤ 1048576) : ∃ t s v xs n, Ev (fun k => spec_DrawResText.f k l) (t, s, v, xs) ∧ n ≤ 10 ∧ Ok n ⟨t, s, v, xs⟩ ∧ (n ≤ 6 ∨ Wf n ⟨t, s, v, xs⟩) := by
  obtain ⟨h0, e0⟩ := new_ok l
  obtain ⟨t, s, v, xs, i1, h1, e1, w, hi1⟩ := draw_ok l hl 3 (by omega) 0 h0 ⟨by omega, by omega⟩
  obtain ⟨b, i2, h2, e2, hb0, hb1, hi2⟩ := below_ok l hl i1 h1 8 hi1 (by omega) (by omega)
  by_cases c0 : b = 0
  · obtain ⟨b3, i3, h3, e3, _, _, hi3⟩ := below_ok l hl i2 h2 9 hi2 (by omega) (by omega)
    refine ⟨b3, s, v, xs, 4, ?_, by omega, w.ok, .inl (by omega)⟩
    simp only [spec_DrawResText.f]
    exact Ev.bind e0 (Ev.bind e1 (Ev.bind (Ev.all e2) (Ev.pos c0 (Ev.bind (Ev.all e3) (Ev.const _)))))
  · by_cases c1 : b = 1
    · obtain ⟨b3, i3, h3, e3, hb30, hb31, hi3⟩ := below_ok l hl i2 h2 7 hi2 (by omega) (by omega)
      obtain ⟨t', s', v', xs', e4, w'⟩ := wrapS b3.toNat t s v xs 4 (by omega) w
      rw [Int.toNat_of_nonneg hb30] at e4
      refine ⟨t', s', v', xs', 4 + b3.toNat, ?_, by omega, w'.ok, .inr w'⟩
      simp only [spec_DrawResText.f]
      exact Ev.bind e0 (Ev.bind e1 (Ev.bind (Ev.all e2) (Ev.neg c0 (Ev.pos c1 (Ev.bind (Ev.all e3) e4)))))
    · by_cases c2 : b = 2
      · obtain ⟨b3, i3, h3, e3, hi3, hb3⟩ := int_ok l hl i2 h2 [1000000000, (-1000000000), (-9223372036854775808)] hi2 (by simp) (by simp)
        refine ⟨t, s, b3, xs, 4, ?_, by omega, ⟨w.1, ?_, ?_, w.2.2.2.1, w.ok.2.2.2.2⟩, .inl (by omega)⟩
        · simp only [spec_DrawResText.f]
          exact Ev.bind e0 (Ev.bind e1 (Ev.bind (Ev.all e2) (Ev.neg c0 (Ev.neg c1 (Ev.pos c2 (Ev.bind (Ev.all e3) (Ev.const _)))))))
        · simp at hb3; show _ ≤ b3; omega
        · simp at hb3; show b3 ≤ _; omega
      · refine ⟨t, s, v, xs, 4, ?_, by omega, w.ok, .inl (by omega)⟩
        simp only [spec_DrawResText.f]
        exact Ev.bind e0 (Ev.bind e1 (Ev.bind (Ev.all e2) (Ev.neg c0 (Ev.neg c1 (Ev.neg c2 (Ev.const _))))))
theorem drawn_depth (l : List Int) (hl : l.length ≤ 1048576) : ∃ t s v xs, Ev (fun k => spec_DrawDepth.f k l) (t, s, v, xs) ∧ Ok 5 ⟨t, s, v, xs⟩ := by
  obtain ⟨h0, e0⟩ := new_ok l
  obtain ⟨t, s, v, xs, i1, h1, e1, w, hi1⟩ := draw_ok l hl 4 (by omega) 0 h0 ⟨by omega, by omega⟩
  refine ⟨t, s, v, xs, ?_, w.ok⟩
  simp only [spec_DrawDepth.f]
  exact Ev.bind e0 (Ev.bind e1 (Ev.const _))
theorem word_ok (l : List Int) (hl : l.length ≤ 1048576) (i h : Int) (hi : At l i) : ∃ s i' h', spec_l1Word.f l i h = some (s, i', h') ∧ At l i' ∧ s.size ≤ 5 := by
  unfold spec_l1Word.f
  obtain ⟨s, i', h', e, hi', hs⟩ := str_ok l hl i h ([(⟨#[97]⟩ : ByteArray), (⟨#[102]⟩ : ByteArray), (⟨#[120]⟩ : ByteArray), (⟨#[108, 101, 116]⟩ : ByteArray), (⟨#[105, 110]⟩ : ByteArray), (⟨#[119, 104, 101, 114, 101]⟩ : ByteArray), (⟨#[111, 102]⟩ : ByteArray), (⟨#[99, 97, 115, 101]⟩ : ByteArray), (⟨#[65]⟩ : ByteArray), (⟨#[84, 114, 117, 101]⟩ : ByteArray), (⟨#[48]⟩ : ByteArray), (⟨#[52, 50]⟩ : ByteArray), (⟨#[45, 62]⟩ : ByteArray), (⟨#[61, 61]⟩ : ByteArray), (⟨#[61]⟩ : ByteArray), (⟨#[40]⟩ : ByteArray), (⟨#[41]⟩ : ByteArray), (⟨#[92]⟩ : ByteArray), (⟨#[124]⟩ : ByteArray), (⟨#[43]⟩ : ByteArray), (⟨#[45]⟩ : ByteArray), (⟨#[42]⟩ : ByteArray), (⟨#[60]⟩ : ByteArray), (⟨#[95]⟩ : ByteArray), (⟨#[123]⟩ : ByteArray), (⟨#[125]⟩ : ByteArray), (⟨#[59]⟩ : ByteArray), (⟨#[100, 97, 116, 97]⟩ : ByteArray), (⟨#[105, 102]⟩ : ByteArray), (⟨#[116, 104, 101, 110]⟩ : ByteArray), (⟨#[101, 108, 115, 101]⟩ : ByteArray)] : List ByteArray) hi (by simp) (by simp)
  rw [e]
  refine ⟨s, i', h', rfl, hi', ?_⟩
  revert hs
  generalize s = s
  intro hs
  have : ∀ q ∈ ([(⟨#[97]⟩ : ByteArray), (⟨#[102]⟩ : ByteArray), (⟨#[120]⟩ : ByteArray), (⟨#[108, 101, 116]⟩ : ByteArray), (⟨#[105, 110]⟩ : ByteArray), (⟨#[119, 104, 101, 114, 101]⟩ : ByteArray), (⟨#[111, 102]⟩ : ByteArray), (⟨#[99, 97, 115, 101]⟩ : ByteArray), (⟨#[65]⟩ : ByteArray), (⟨#[84, 114, 117, 101]⟩ : ByteArray), (⟨#[48]⟩ : ByteArray), (⟨#[52, 50]⟩ : ByteArray), (⟨#[45, 62]⟩ : ByteArray), (⟨#[61, 61]⟩ : ByteArray), (⟨#[61]⟩ : ByteArray), (⟨#[40]⟩ : ByteArray), (⟨#[41]⟩ : ByteArray), (⟨#[92]⟩ : ByteArray), (⟨#[124]⟩ : ByteArray), (⟨#[43]⟩ : ByteArray), (⟨#[45]⟩ : ByteArray), (⟨#[42]⟩ : ByteArray), (⟨#[60]⟩ : ByteArray), (⟨#[95]⟩ : ByteArray), (⟨#[123]⟩ : ByteArray), (⟨#[125]⟩ : ByteArray), (⟨#[59]⟩ : ByteArray), (⟨#[100, 97, 116, 97]⟩ : ByteArray), (⟨#[105, 102]⟩ : ByteArray), (⟨#[116, 104, 101, 110]⟩ : ByteArray), (⟨#[101, 108, 115, 101]⟩ : ByteArray)] : List ByteArray), q.size ≤ 5 := by decide
  exact this s hs
theorem text_loop (l : List Int) (hl : l.length ≤ 1048576) : ∀ (d : Nat) (i h : Int) (t : ByteArray), d ≤ 100 → t.size ≤ 100000 - 20 * d → At l i →
    ∃ t' i' h', Ev (fun k => spec_l1Text.l0 k t (d : Int) l i h) (t', i', h') ∧ t'.size ≤ 100000 ∧ At l i' := by
  intro d
  induction d with
  | zero =>
    intro i h t _ ht hi
    refine ⟨t, i, h, Ev.succ ?_, by omega, hi⟩
    simp only [spec_l1Text.l0]
    exact Ev.neg (by omega) (Ev.const _)
  | succ d ih =>
    intro i h t hd ht hi
    obtain ⟨s, i1, h1, e1, hi1, hs⟩ := word_ok l hl i h hi
    obtain ⟨u, i2, h2, e2, hi2, hu0⟩ := str_ok l hl i1 h1 [(⟨#[32]⟩ : ByteArray), (⟨#[32]⟩ : ByteArray), (⟨#[32]⟩ : ByteArray), (⟨#[10]⟩ : ByteArray), (⟨#[10, 32, 32]⟩ : ByteArray), (⟨#[10, 32, 32, 32, 32]⟩ : ByteArray), (⟨#[]⟩ : ByteArray)] hi1 (by simp) (by simp)
    have hu : u.size ≤ 5 := by
      have : ∀ q ∈ [(⟨#[32]⟩ : ByteArray), (⟨#[32]⟩ : ByteArray), (⟨#[32]⟩ : ByteArray), (⟨#[10]⟩ : ByteArray), (⟨#[10, 32, 32]⟩ : ByteArray), (⟨#[10, 32, 32, 32, 32]⟩ : ByteArray), (⟨#[]⟩ : ByteArray)], q.size ≤ 5 := by decide
      exact this u hu0
    have hz1 : (t ++ s).size = t.size + s.size := ByteArray.size_append
    have hz2 : (t ++ s ++ u).size = t.size + s.size + u.size := by rw [ByteArray.size_append, hz1]
    obtain ⟨t', i', h', e, ht', hi'⟩ := ih i2 h2 (t ++ s ++ u) (by omega) (by rw [hz2]; omega) hi2
    refine ⟨t', i', h', Ev.succ ?_, ht', hi'⟩
    have a2 : wrap64 (((d + 1 : Nat) : Int) - 1) = (d : Int) := by rw [wrap_id (by omega) (by omega)]; omega
    simp only [spec_l1Text.l0, a2]
    exact Ev.pos (by omega) (Ev.bind (Ev.all e1) (Ev.pos (by show t.size + s.size ≤ _; omega) (Ev.bind (Ev.all e2) (Ev.pos (by show (t ++ s).size + u.size ≤ _; omega) e))))
theorem drawn_lines (l : List Int) (hl : l.length ≤ 1048576) : ∃ s, Ev (fun k => spec_DrawLines.f k l) s ∧ s.size ≤ 100000 := by
  obtain ⟨h0, e0⟩ := new_ok l
  obtain ⟨b, i1, h1, e1, hb0, hb1, hi1⟩ := below_ok l hl 0 h0 14 ⟨by omega, by omega⟩ (by omega) (by omega)
  obtain ⟨t, i2, h2, e2, ht, hi2⟩ := text_loop l hl b.toNat i1 h1 ⟨#[]⟩ (by omega) (by show 0 ≤ _; omega) hi1
  rw [Int.toNat_of_nonneg hb0] at e2
  obtain ⟨s, i3, h3, e3, hi3, hs⟩ := str_ok l hl i2 h2 [(⟨#[]⟩ : ByteArray), (⟨#[97]⟩ : ByteArray), (⟨#[97, 10]⟩ : ByteArray), (⟨#[97, 10, 98]⟩ : ByteArray), (⟨#[10]⟩ : ByteArray), (⟨#[10, 10]⟩ : ByteArray), t] hi2 (by simp) (by simp)
  refine ⟨s, ?_, ?_⟩
  · have e4 : Ev (fun k => spec_l1Text.f k l 0 h0) (t, i2, h2) := by
      simp only [spec_l1Text.f]
      exact Ev.bind (Ev.all e1) e2
    simp only [spec_DrawLines.f]
    exact Ev.bind e0 (Ev.bind e4 (Ev.bind (Ev.all e3) (Ev.const _)))
  · simp at hs
    rcases hs with rfl | rfl | rfl | rfl | rfl | rfl | rfl
    all_goals first | assumption | (show (_ : Nat) ≤ _; decide)

/-! #### the text -/
theorem ba_app (l m : List UInt8) : (⟨l.toArray⟩ : ByteArray) ++ (⟨m.toArray⟩ : ByteArray) = ⟨(l ++ m).toArray⟩ := by
  apply ByteArray.ext
  rw [ByteArray.data_append]
  simp
theorem ba_of (s : ByteArray) : s = ⟨s.data.toList.toArray⟩ := by
  cases s; simp
theorem ba_size (l : List UInt8) : (⟨l.toArray⟩ : ByteArray).size = l.length := by
  show l.toArray.size = _
  simp
theorem dig_len (u : Nat) (h : u < 18446744073709551616) : (Lib.decDigits u).length ≤ 20 := by
  rw [Lib.decDigits_length]; exact Lib.nDigits_le20 u h
theorem num_ok : ∀ (d u k : Nat), u < 10 ^ (d + 1) → d ≤ 17 → d < k → spec_l5Num.f k (u : Int) = some ⟨(Lib.decDigits u).toArray⟩ := by
  intro d
  induction d with
  | zero =>
    intro u k hu _ hk
    obtain ⟨k, rfl⟩ : ∃ m, k = m + 1 := ⟨k - 1, by omega⟩
    have hu' : u < 10 := by simpa using hu
    simp only [spec_l5Num.f]
    rw [if_pos (by omega), Lib.decDigits, dif_pos hu', show wrap64 (48 + (u : Int)) % 256 = ((48 + u : Nat) : Int) by rw [wrap_id (by omega) (by omega)]; omega]
    rfl
  | succ d ih =>
    intro u k hu hd hk
    obtain ⟨k, rfl⟩ : ∃ m, k = m + 1 := ⟨k - 1, by omega⟩
    by_cases hs : u < 10
    · simp only [spec_l5Num.f]
      rw [if_pos (by omega), Lib.decDigits, dif_pos hs, show wrap64 (48 + (u : Int)) % 256 = ((48 + u : Nat) : Int) by rw [wrap_id (by omega) (by omega)]; omega]
      rfl
    · have h17 : (10 : Nat) ^ (d + 1 + 1) ≤ 10 ^ 18 := Nat.pow_le_pow_right (by omega) (by omega)
      have hu18 : u < 1000000000000000000 := by
        have : (10 : Nat) ^ 18 = 1000000000000000000 := by decide
        omega
      have hq : u / 10 < 10 ^ (d + 1) := by
        rw [Nat.pow_succ] at hu
        omega
      have e := ih (u / 10) k hq (by omega) (by omega)
      simp only [spec_l5Num.f]
      rw [if_neg (by omega), show wrap64 (Int.tdiv (u : Int) 10) = ((u / 10 : Nat) : Int) by rw [Int.tdiv_eq_ediv_of_nonneg (by omega), wrap_id (by omega) (by omega)]; omega, e]
      simp only [Option.bind_some]
      have em : wrap64 (48 + Int.tmod (u : Int) 10) % 256 = ((48 + u % 10 : Nat) : Int) := by
        rw [Int.tmod_eq_emod_of_nonneg (by omega), wrap_id (by omega) (by omega)]; omega
      rw [em]
      have es : strOfNums [((48 + u % 10 : Nat) : Int)] = ⟨[UInt8.ofNat (48 + u % 10)].toArray⟩ := rfl
      rw [es, ba_app, if_pos (by rw [ba_size, ba_size]; have := dig_len (u / 10) (by omega); simp; omega)]
      have ed : Lib.decDigits u = Lib.decDigits (u / 10) ++ [UInt8.ofNat (48 + u % 10)] := by rw [Lib.decDigits, dif_neg hs]
      rw [ed]
theorem lt10 {u : Nat} (h : u ≤ 1000000000) : u < 10 ^ (9 + 1) := by
  have : (10 : Nat) ^ (9 + 1) = 10000000000 := by decide
  omega
/-- The numeral where it is told. -/
theorem l13_in (n : Int) (h0 : -999999999 ≤ n) (h1 : n ≤ 999999999) (k : Nat) (hk : 20 ≤ k) : spec_l13Num.f k n = some ⟨(Lib.itoa n).toArray⟩ := by
  obtain ⟨k, rfl⟩ : ∃ m, k = m + 1 := ⟨k - 1, by omega⟩
  unfold spec_l13Num.f
  by_cases hn : n < 0
  · obtain ⟨u, rfl⟩ : ∃ u : Nat, n = -(u : Int) := ⟨n.natAbs, by omega⟩
    rw [if_pos hn, Lib.itoa_neg u (by omega)]
    simp only [spec_l13Num.j0]
    rw [if_pos (by simp; omega), show wrap64 (- -(u : Int)) = (u : Int) by rw [wrap_id (by omega) (by omega)]; omega, num_ok 9 u k (lt10 (by omega)) (by omega) (by omega)]
    simp only [Option.bind_some]
    have := dig_len u (by omega)
    rw [if_pos (by rw [ba_size]; omega)]
    exact congrArg some (ba_app [45] _)
  · obtain ⟨u, rfl⟩ : ∃ u : Nat, n = (u : Int) := ⟨n.toNat, by omega⟩
    rw [if_neg hn, Lib.itoa_nonneg u]
    simp only [spec_l13Num.j0]
    rw [if_neg (by decide), if_neg hn, num_ok 9 u k (lt10 (by omega)) (by omega) (by omega)]
    rfl
/-- .. and where it isn't, it tells something, too. -/
theorem l13_any (n : Int) (h0 : -9223372036854775808 ≤ n) (h1 : n ≤ 1000000000) (k : Nat) (hk : 20 ≤ k) : ∃ s, spec_l13Num.f k n = some s := by
  by_cases c : -999999999 ≤ n ∧ n ≤ 999999999
  · exact ⟨_, l13_in n c.1 c.2 k hk⟩
  · obtain ⟨k, rfl⟩ : ∃ m, k = m + 1 := ⟨k - 1, by omega⟩
    unfold spec_l13Num.f
    by_cases hn : n < 0
    · rw [if_pos hn]
      simp only [spec_l13Num.j0]
      rw [if_neg (by simp; omega), if_pos hn]
      exact ⟨_, rfl⟩
    · obtain ⟨u, rfl⟩ : ∃ u : Nat, n = (u : Int) := ⟨n.toNat, by omega⟩
      rw [if_neg hn]
      simp only [spec_l13Num.j0]
      rw [if_neg (by decide), if_neg hn, num_ok 9 u k (lt10 (by omega)) (by omega) (by omega)]
      exact ⟨_, rfl⟩

/-- A part's text, in brackets where it needs them. -/
def wrapT (y : S28) (t : ByteArray) : ByteArray := if 0 < y.f3.length ∨ t.data.toList.head? = some 45 then (⟨#[40]⟩ : ByteArray) ++ t ++ (⟨#[41]⟩ : ByteArray) else t
/-- The parts' texts behind what is told. -/
def txl (g : S28 → ByteArray × Bool) : ByteArray → List S28 → ByteArray × Bool
  | acc, [] => (acc, true)
  | acc, y :: ys => if (g y).2 = true then txl g (acc ++ ((⟨#[32]⟩ : ByteArray) ++ wrapT y (g y).1)) ys else ((⟨#[]⟩ : ByteArray), false)
/-- The text of a result n deep at most, at the depth d. -/
def tx : Nat → S28 → Int → ByteArray × Bool
  | 0, _, _ => ((⟨#[]⟩ : ByteArray), false)
  | n + 1, x, d => if d > 6 then ((⟨#[]⟩ : ByteArray), false) else (if x.f0 = 1 then (⟨(Lib.itoa x.f2).toArray⟩, decide (-999999999 ≤ x.f2 ∧ x.f2 ≤ 999999999)) else (if x.f0 = 3 then ((⟨#[60, 102, 117, 110, 99, 116, 105, 111, 110, 62]⟩ : ByteArray), true) else (if x.f0 = 4 then ((⟨#[60, 102, 97, 105, 108, 62]⟩ : ByteArray), true) else (if x.f0 = 5 then ((⟨#[60, 104, 111, 108, 101, 62]⟩ : ByteArray), true) else (if x.f0 = 6 then ((⟨#[60, 102, 117, 101, 108, 62]⟩ : ByteArray), true) else (if x.f0 = 7 then ((⟨#[46, 46, 46]⟩ : ByteArray), true) else (if x.f0 = 2 then txl (fun y => tx n y (d + 1)) x.f1 x.f3 else ((⟨#[]⟩ : ByteArray), false))))))))
def T : Nat → Nat
  | 0 => 30
  | n + 1 => 30 + 3 * (T n + 3)
theorem T_le (n : Nat) (h : n ≤ 10) : T n ≤ 10000000 := by
  have : ∀ n, n ≤ 10 → T n ≤ 10000000 := by decide
  exact this n h
theorem T_ge : ∀ n, 30 ≤ T n
  | 0 => Nat.le_refl _
  | n + 1 => by unfold T; omega
theorem wrapT_size (y : S28) (t : ByteArray) : (wrapT y t).size ≤ t.size + 2 := by
  unfold wrapT
  split
  · rw [ByteArray.size_append, ByteArray.size_append]
    show 1 + t.size + 1 ≤ _
    omega
  · omega
theorem txl_size (g : S28 → ByteArray × Bool) (m : Nat) : ∀ (l : List S28) (acc : ByteArray), (∀ y ∈ l, (g y).1.size ≤ m) → (txl g acc l).1.size ≤ acc.size + l.length * (m + 3)
  | [], acc, _ => by simp [txl]
  | y :: ys, acc, h => by
    unfold txl
    split
    · have h1 := txl_size g m ys (acc ++ ((⟨#[32]⟩ : ByteArray) ++ wrapT y (g y).1)) (fun z hz => h z (List.mem_cons_of_mem _ hz))
      have h2 := wrapT_size y (g y).1
      have h3 := h y (List.mem_cons_self)
      have h4 : (acc ++ ((⟨#[32]⟩ : ByteArray) ++ wrapT y (g y).1)).size = acc.size + (1 + (wrapT y (g y).1).size) := by
        rw [ByteArray.size_append, ByteArray.size_append]; rfl
      rw [List.length_cons, Nat.succ_mul]
      omega
    · exact Nat.zero_le _
theorem tx_size : ∀ (n : Nat) (x : S28) (d : Int), Ok n x → (tx n x d).1.size ≤ T n
  | 0, _, _, h => h.elim
  | n + 1, x, d, ⟨h1, h2, h3, h4, h5⟩ => by
    have hT : 30 ≤ T (n + 1) := T_ge _
    unfold tx
    split
    · exact Nat.zero_le _
    split
    · show (⟨(Lib.itoa x.f2).toArray⟩ : ByteArray).size ≤ _
      rw [ba_size]
      have := Lib.itoa_length_le x.f2 (by omega) (by omega)
      omega
    split
    · exact Nat.le_trans (show (10 : Nat) ≤ 30 by omega) hT
    split
    · exact Nat.le_trans (show (6 : Nat) ≤ 30 by omega) hT
    split
    · exact Nat.le_trans (show (6 : Nat) ≤ 30 by omega) hT
    split
    · exact Nat.le_trans (show (6 : Nat) ≤ 30 by omega) hT
    split
    · exact Nat.le_trans (show (3 : Nat) ≤ 30 by omega) hT
    split
    · have := txl_size (fun y => tx n y (d + 1)) (T n) x.f3 x.f1 (fun y hy => tx_size n y (d + 1) (h5 y hy))
      have h6 : x.f3.length * (T n + 3) ≤ 3 * (T n + 3) := Nat.mul_le_mul_right _ h4
      show _ ≤ 30 + 3 * (T n + 3)
      omega
    · exact Nat.zero_le _
theorem rd_T28_at (l : List S28) (i : Nat) (h : i < l.length) : rd_T28 l (i : Int) = l[i] := by
  unfold rd_T28
  rw [Int.toNat_natCast, List.getD_eq_getElem?_getD, List.getElem?_eq_getElem h]
  rfl
theorem prefix_minus (t : ByteArray) (h : t.size ≤ 10000000) : strings_HasPrefix.f t (⟨#[45]⟩ : ByteArray) = some (decide (t.data.toList.head? = some 45)) := by
  have e1 : ((⟨#[45]⟩ : ByteArray).size : Int) = 1 := rfl
  have e2 : (⟨#[45]⟩ : ByteArray).toList = [45] := by rw [ByteArray.toList_eq]
  simp only [strings_HasPrefix.f, stringslite_HasPrefix.f, e1, e2]
  by_cases c : (t.size : Int) ≥ 1
  · rw [if_pos c, if_pos (by omega), if_pos (by omega)]
    simp only [Option.bind_some]
    congr 1
    have hx : (t.extract 0 (1 : Int).toNat).toList = t.data.toList.take 1 := by
      rw [ByteArray.toList_eq, ByteArray.data_extract, Array.toList_extract]
      simp [List.extract]
    rw [hx]
    cases hl : t.data.toList with
    | nil =>
      have : t.size = 0 := by rw [size_len, hl]; rfl
      omega
    | cons b bs =>
      show (List.take 1 (b :: bs) == [45]) = decide ((b :: bs).head? = some 45)
      simp
      by_cases h : b = 45 <;> simp [h]
  · rw [if_neg c]
    have : t.data.toList = [] := List.length_eq_zero_iff.1 (by rw [← size_len]; omega)
    rw [this]
    rfl
theorem sz3 (t : ByteArray) : ((⟨#[40]⟩ : ByteArray) ++ t).size = 1 + t.size := by rw [ByteArray.size_append]; rfl
theorem sz4 (t : ByteArray) : (((⟨#[40]⟩ : ByteArray) ++ t) ++ (⟨#[41]⟩ : ByteArray)).size = 1 + t.size + 1 := by rw [ByteArray.size_append, sz3]; rfl
theorem sz5 (t : ByteArray) : ((⟨#[32]⟩ : ByteArray) ++ t).size = 1 + t.size := by rw [ByteArray.size_append]; rfl
theorem sz6 (t : ByteArray) : (t ++ (⟨#[32]⟩ : ByteArray)).size = t.size + 1 := by rw [ByteArray.size_append]; rfl
theorem wrapT_in (y : S28) (t : ByteArray) (h : 0 < y.f3.length ∨ t.data.toList.head? = some 45) : wrapT y t = (⟨#[40]⟩ : ByteArray) ++ t ++ (⟨#[41]⟩ : ByteArray) := if_pos h
theorem wrapT_out (y : S28) (t : ByteArray) (h : ¬ (0 < y.f3.length ∨ t.data.toList.head? = some 45)) : wrapT y t = t := if_neg h
theorem txl_go {g : S28 → ByteArray × Bool} {acc : ByteArray} {l : List S28} {i : Nat} (h : i < l.length) (hg : (g l[i]).2 = true) : txl g acc (l.drop i) = txl g (acc ++ ((⟨#[32]⟩ : ByteArray) ++ wrapT l[i] (g l[i]).1)) (l.drop (i + 1)) := by
  rw [List.drop_eq_getElem_cons h]
  exact if_pos hg
theorem txl_no {g : S28 → ByteArray × Bool} {acc : ByteArray} {l : List S28} {i : Nat} (h : i < l.length) (hg : ¬ (g l[i]).2 = true) : txl g acc (l.drop i) = ((⟨#[]⟩ : ByteArray), false) := by
  rw [List.drop_eq_getElem_cons h]
  exact if_neg hg
theorem iloop (g : S28 → ByteArray × Bool) (d : Int) (l : List S28) (K m : Nat) (hm : m ≤ 10000000) (hl : l.length ≤ 3)
    (hf : ∀ y ∈ l, ∀ k, K ≤ k → impl_resText.f k y.f0 y.f1 y.f2 y.f3 (wrap64 (d + 1)) = some (g y)) (hs : ∀ y ∈ l, (g y).1.size ≤ m) :
    ∀ (c i k : Nat) (acc : ByteArray), i + c = l.length → K + c < k → acc.size + c * 10000010 ≤ 1000000000 →
    impl_resText.l0 k d acc l (l.length : Int) (i : Int) = some (txl g acc (l.drop i)) := by
  intro c
  induction c with
  | zero =>
    intro i k acc hi hk ha
    obtain ⟨k, rfl⟩ : ∃ m, k = m + 1 := ⟨k - 1, by omega⟩
    simp only [impl_resText.l0]
    rw [if_neg (by omega), List.drop_eq_nil_of_le (by omega)]
    rfl
  | succ c ih =>
    intro i k acc hi hk ha
    obtain ⟨k, rfl⟩ : ∃ m, k = m + 1 := ⟨k - 1, by omega⟩
    have hil : i < l.length := by omega
    have hy : l[i] ∈ l := List.getElem_mem _
    have hsz := hs l[i] hy
    have ew : wrap64 ((i : Int) + 1) = ((i + 1 : Nat) : Int) := wrap_succ (by omega)
    simp only [impl_resText.l0, rd_T28_at l i hil, ew]
    rw [if_pos (by omega), if_pos (by omega), if_pos (by omega), hf l[i] hy k (by omega)]
    simp only [Option.bind_some]
    by_cases c1 : (g l[i]).2 = true
    · rw [if_pos c1, txl_go hil c1]
      generalize (g l[i]).1 = t at hsz ⊢
      by_cases c2 : 0 < l[i].f3.length
      · rw [wrapT_in _ _ (.inl c2), if_pos (by omega), if_pos (by omega), if_pos (by rw [sz3]; omega), if_pos (by rw [sz4]; omega), if_pos (by rw [sz5, sz4]; omega)]
        exact ih (i + 1) k _ (by omega) (by omega) (by rw [ByteArray.size_append, sz5, sz4]; omega)
      · rw [if_neg (by omega), prefix_minus t (by omega)]
        simp only [Option.bind_some]
        by_cases c3 : t.data.toList.head? = some 45
        · rw [wrapT_in _ _ (.inr c3), if_pos (by simpa using c3), if_pos (by omega), if_pos (by rw [sz3]; omega), if_pos (by rw [sz4]; omega), if_pos (by rw [sz5, sz4]; omega)]
          exact ih (i + 1) k _ (by omega) (by omega) (by rw [ByteArray.size_append, sz5, sz4]; omega)
        · rw [wrapT_out _ _ (fun h => h.elim c2 c3), if_neg (by simpa using c3), if_pos (by omega), if_pos (by rw [sz5]; omega)]
          exact ih (i + 1) k _ (by omega) (by omega) (by rw [ByteArray.size_append, sz5]; omega)
    · rw [if_neg c1, txl_no hil c1]
theorem sloop (g : S28 → ByteArray × Bool) (d : Int) (l : List S28) (K m : Nat) (hm : m ≤ 10000000) (hl : l.length ≤ 3) (f0 : Int) (f1 : ByteArray) (f2 : Int)
    (hf : ∀ y ∈ l, ∀ k, K ≤ k → ∃ s, spec_l13Text.f k y.f0 y.f1 y.f2 y.f3 (wrap64 (d + 1)) = some (s, (g y).2) ∧ ((g y).2 = true → s = (g y).1)) (hs : ∀ y ∈ l, (g y).1.size ≤ m) :
    ∀ (c i k : Nat) (acc : ByteArray), i + c = l.length → K + c < k → acc.size + c * 10000010 ≤ 1000000000 →
    spec_l13Text.l0 k d acc (i : Int) f0 f1 f2 l = some (txl g acc (l.drop i)) := by
  intro c
  induction c with
  | zero =>
    intro i k acc hi hk ha
    obtain ⟨k, rfl⟩ : ∃ m, k = m + 1 := ⟨k - 1, by omega⟩
    simp only [spec_l13Text.l0]
    rw [if_neg (by omega), List.drop_eq_nil_of_le (by omega)]
    rfl
  | succ c ih =>
    intro i k acc hi hk ha
    obtain ⟨k, rfl⟩ : ∃ m, k = m + 1 := ⟨k - 1, by omega⟩
    have hil : i < l.length := by omega
    have hy : l[i] ∈ l := List.getElem_mem _
    have hsz := hs l[i] hy
    have ew : wrap64 ((i : Int) + 1) = ((i + 1 : Nat) : Int) := wrap_succ (by omega)
    obtain ⟨s, e, hs'⟩ := hf l[i] hy k (by omega)
    simp only [spec_l13Text.l0, rd_T28_at l i hil, ew]
    rw [if_pos (by omega), if_pos (by omega), e]
    simp only [Option.bind_some]
    by_cases c1 : (g l[i]).2 = true
    · rw [if_pos c1, txl_go hil c1, ← hs' c1]
      rw [← hs' c1] at hsz
      have eb : ∀ u : ByteArray, acc ++ ((⟨#[32]⟩ : ByteArray) ++ u) = acc ++ (⟨#[32]⟩ : ByteArray) ++ u := fun u => ByteArray.append_assoc.symm
      rw [eb]
      by_cases c2 : 0 < l[i].f3.length
      · rw [wrapT_in _ _ (.inl c2), if_pos (by omega), if_pos (by omega), if_pos (by rw [sz3]; omega), if_pos (by omega), if_pos (by rw [sz6, sz4]; omega)]
        exact ih (i + 1) k _ (by omega) (by omega) (by rw [ByteArray.size_append, sz6, sz4]; omega)
      · rw [if_neg (by omega)]
        by_cases c0 : 0 < s.size
        · have hb : bt s 0 = ((s.data.toList[0]'(by rw [← size_len]; exact c0)).toNat : Int) := bt_get s 0 c0
          have hh : s.data.toList.head? = some (s.data.toList[0]'(by rw [← size_len]; exact c0)) := by rw [List.head?_eq_getElem?, List.getElem?_eq_getElem]
          rw [if_pos (by omega), if_pos (by omega), hb]
          by_cases c3 : s.data.toList[0]'(by rw [← size_len]; exact c0) = 45
          · rw [wrapT_in _ _ (.inr (by rw [hh, c3])), if_pos (by rw [c3]; rfl), if_pos (by omega), if_pos (by rw [sz3]; omega), if_pos (by omega), if_pos (by rw [sz6, sz4]; omega)]
            exact ih (i + 1) k _ (by omega) (by omega) (by rw [ByteArray.size_append, sz6, sz4]; omega)
          · rw [wrapT_out _ _ (fun h => h.elim c2 (fun h => c3 (by rw [hh] at h; exact Option.some.inj h))), if_neg (fun h => c3 (UInt8.toNat_inj.1 (by show _ = 45; omega))), if_pos (by omega), if_pos (by rw [sz6]; omega)]
            exact ih (i + 1) k _ (by omega) (by omega) (by rw [ByteArray.size_append, sz6]; omega)
        · have hn : s.data.toList = [] := List.length_eq_zero_iff.1 (by rw [← size_len]; omega)
          rw [wrapT_out _ _ (fun h => h.elim c2 (fun h => by rw [hn] at h; cases h)), if_neg (by omega), if_pos (by omega), if_pos (by rw [sz6]; omega)]
          exact ih (i + 1) k _ (by omega) (by omega) (by rw [ByteArray.size_append, sz6]; omega)
    · rw [if_neg c1, txl_no hil c1]
theorem itext : ∀ (n : Nat) (x : S28) (d : Int) (k : Nat), Ok n x → n ≤ 10 → 0 ≤ d → d ≤ 100 → 6 * n + 30 ≤ k → impl_resText.f k x.f0 x.f1 x.f2 x.f3 d = some (tx n x d)
  | 0, _, _, _, h, _, _, _, _ => h.elim
  | n + 1, x, d, k, ⟨h1, h2, h3, h4, h5⟩, hn, hd0, hd1, hk => by
    obtain ⟨k, rfl⟩ : ∃ m, k = m + 1 := ⟨k - 1, by omega⟩
    simp only [impl_resText.f]
    unfold tx
    by_cases c : d > 6
    · rw [if_pos c, if_pos c]
    rw [if_neg c, if_neg c]
    by_cases c1 : x.f0 = 1
    · rw [if_pos c1, if_pos c1]
      simp only [strconv_Itoa.f, impl_in.f]
      rw [if_pos ⟨by omega, by omega⟩]
      simp only [Option.bind_some]
      by_cases c2 : x.f2 ≥ -999999999
      · rw [if_pos c2]
        simp only [Option.bind_some]
        congr 2
        exact decide_eq_decide.2 ⟨fun h => ⟨c2, h⟩, fun h => h.2⟩
      · rw [if_neg c2]
        simp only [Option.bind_some]
        congr 2
        exact (decide_eq_false (fun h => c2 h.1)).symm
    rw [if_neg c1, if_neg c1]
    by_cases c3 : x.f0 = 3
    · rw [if_pos c3, if_pos c3]
    rw [if_neg c3, if_neg c3]
    by_cases c4 : x.f0 = 4
    · rw [if_pos c4, if_pos c4]
    rw [if_neg c4, if_neg c4]
    by_cases c5 : x.f0 = 5
    · rw [if_pos c5, if_pos c5]
    rw [if_neg c5, if_neg c5]
    by_cases c6 : x.f0 = 6
    · rw [if_pos c6, if_pos c6]
    rw [if_neg c6, if_neg c6]
    by_cases c7 : x.f0 = 7
    · rw [if_pos c7, if_pos c7]
    rw [if_neg c7, if_neg c7]
    by_cases c8 : x.f0 = 2
    · rw [if_pos c8, if_pos c8]
      have ed : wrap64 (d + 1) = d + 1 := wrap_id (by omega) (by omega)
      exact iloop (fun y => tx n y (d + 1)) d x.f3 (6 * n + 30) (T n) (T_le n (by omega)) h4 (fun y hy k' hk' => by rw [ed]; exact itext n y (d + 1) k' (h5 y hy) (by omega) (by omega) (by omega) hk') (fun y hy => tx_size n y (d + 1) (h5 y hy)) x.f3.length 0 k x.f1 (by omega) (by omega) (by omega)
    rw [if_neg c8, if_neg c8]
theorem stext : ∀ (n : Nat) (x : S28) (d : Int) (k : Nat), Ok n x → n ≤ 10 → 0 ≤ d → d ≤ 100 → 6 * n + 30 ≤ k → ∃ s, spec_l13Text.f k x.f0 x.f1 x.f2 x.f3 d = some (s, (tx n x d).2) ∧ ((tx n x d).2 = true → s = (tx n x d).1)
  | 0, _, _, _, h, _, _, _, _ => h.elim
  | n + 1, x, d, k, ⟨h1, h2, h3, h4, h5⟩, hn, hd0, hd1, hk => by
    obtain ⟨k, rfl⟩ : ∃ m, k = m + 1 := ⟨k - 1, by omega⟩
    simp only [spec_l13Text.f]
    unfold tx
    by_cases c : d > 6
    · rw [if_pos c, if_pos c]; exact ⟨_, rfl, fun _ => rfl⟩
    rw [if_neg c, if_neg c]
    by_cases c1 : x.f0 = 1
    · rw [if_pos c1, if_pos c1]
      simp only [spec_l1In.f]
      by_cases c2 : -999999999 ≤ x.f2 ∧ x.f2 ≤ 999999999
      · rw [l13_in x.f2 c2.1 c2.2 k (by omega)]
        simp only [Option.bind_some]
        rw [if_pos c2.1]
        exact ⟨_, by simp only [Option.bind_some, decide_eq_true c2, decide_eq_true c2.2], fun _ => rfl⟩
      · obtain ⟨s, e⟩ := l13_any x.f2 h2 h3 k (by omega)
        rw [e]
        simp only [Option.bind_some]
        rw [decide_eq_false c2]
        refine ⟨s, ?_, fun h => by cases h⟩
        by_cases c3 : x.f2 ≥ -999999999
        · rw [if_pos c3]
          simp only [Option.bind_some]
          rw [decide_eq_false (fun h => c2 ⟨c3, h⟩)]
        · rw [if_neg c3]
          rfl
    rw [if_neg c1, if_neg c1]
    by_cases c3 : x.f0 = 3
    · rw [if_pos c3, if_pos c3]; exact ⟨_, rfl, fun _ => rfl⟩
    rw [if_neg c3, if_neg c3]
    by_cases c4 : x.f0 = 4
    · rw [if_pos c4, if_pos c4]; exact ⟨_, rfl, fun _ => rfl⟩
    rw [if_neg c4, if_neg c4]
    by_cases c5 : x.f0 = 5
    · rw [if_pos c5, if_pos c5]; exact ⟨_, rfl, fun _ => rfl⟩
    rw [if_neg c5, if_neg c5]
    by_cases c6 : x.f0 = 6
    · rw [if_pos c6, if_pos c6]; exact ⟨_, rfl, fun _ => rfl⟩
    rw [if_neg c6, if_neg c6]
    by_cases c7 : x.f0 = 7
    · rw [if_pos c7, if_pos c7]; exact ⟨_, rfl, fun _ => rfl⟩
    rw [if_neg c7, if_neg c7]
    by_cases c8 : x.f0 = 2
    · rw [if_pos c8, if_pos c8]
      have ed : wrap64 (d + 1) = d + 1 := wrap_id (by omega) (by omega)
      exact ⟨_, sloop (fun y => tx n y (d + 1)) d x.f3 (6 * n + 30) (T n) (T_le n (by omega)) h4 x.f0 x.f1 x.f2 (fun y hy k' hk' => by rw [ed]; exact stext n y (d + 1) k' (h5 y hy) (by omega) (by omega) (by omega) hk') (fun y hy => tx_size n y (d + 1) (h5 y hy)) x.f3.length 0 k x.f1 (by omega) (by omega) (by omega), fun _ => rfl⟩
    rw [if_neg c8, if_neg c8]
    exact ⟨_, rfl, fun _ => rfl⟩

/-! #### the depth -/
def dpl (g : S28 → Int) : Int → List S28 → Int
  | acc, [] => acc
  | acc, y :: ys => dpl g (mx acc (g y)) ys
def dep : Nat → S28 → Int
  | 0, _ => 0
  | n + 1, x => dpl (dep n) 0 x.f3 + 1
theorem mx_ge (a b : Int) : a ≤ mx a b := by unfold mx; split <;> omega
theorem mx_le {a b m : Int} (ha : a ≤ m) (hb : b ≤ m) : mx a b ≤ m := by unfold mx; split <;> omega
theorem dpl_ge (g : S28 → Int) : ∀ (l : List S28) (acc : Int), acc ≤ dpl g acc l
  | [], acc => Int.le_refl _
  | y :: ys, acc => Int.le_trans (mx_ge acc (g y)) (dpl_ge g ys _)
theorem dpl_le (g : S28 → Int) (m : Int) : ∀ (l : List S28) (acc : Int), acc ≤ m → (∀ y ∈ l, g y ≤ m) → dpl g acc l ≤ m
  | [], acc, h, _ => h
  | y :: ys, acc, h, hg => dpl_le g m ys _ (mx_le h (hg y (List.mem_cons_self))) (fun z hz => hg z (List.mem_cons_of_mem _ hz))
theorem dep_le : ∀ (n : Nat) (x : S28), dep n x ≤ n
  | 0, _ => by simp [dep]
  | n + 1, x => by
    have := dpl_le (dep n) n x.f3 0 (by omega) (fun y _ => dep_le n y)
    unfold dep
    omega
theorem dep_pos (n : Nat) (x : S28) : 1 ≤ dep (n + 1) x := by
  have := dpl_ge (dep n) x.f3 0
  unfold dep
  omega
theorem dep_nonneg : ∀ (n : Nat) (x : S28), 0 ≤ dep n x
  | 0, _ => by simp [dep]
  | n + 1, x => by have := dep_pos n x; omega
theorem dpl_go {g : S28 → Int} {acc : Int} {l : List S28} {i : Nat} (h : i < l.length) : dpl g acc (l.drop i) = dpl g (mx acc (g l[i])) (l.drop (i + 1)) := by
  rw [List.drop_eq_getElem_cons h]
  rfl
theorem idloop (g : S28 → Int) (l : List S28) (K : Nat) (m : Int) (hm : m ≤ 1000) (hl : l.length ≤ 3)
    (hf : ∀ y ∈ l, ∀ k, K ≤ k → impl_Depth.f k y.f0 y.f1 y.f2 y.f3 = some (g y)) (hs : ∀ y ∈ l, g y ≤ m) :
    ∀ (c i k : Nat) (acc : Int), i + c = l.length → K + c < k → 0 ≤ acc → acc ≤ m →
    impl_Depth.l0 k acc l (l.length : Int) (i : Int) = some (dpl g acc (l.drop i) + 1) := by
  intro c
  induction c with
  | zero =>
    intro i k acc hi hk ha0 ha
    obtain ⟨k, rfl⟩ : ∃ m, k = m + 1 := ⟨k - 1, by omega⟩
    simp only [impl_Depth.l0]
    rw [if_neg (by omega), List.drop_eq_nil_of_le (by omega), wrap_id (by omega) (by omega)]
    rfl
  | succ c ih =>
    intro i k acc hi hk ha0 ha
    obtain ⟨k, rfl⟩ : ∃ m, k = m + 1 := ⟨k - 1, by omega⟩
    have hil : i < l.length := by omega
    have hy : l[i] ∈ l := List.getElem_mem _
    have ew : wrap64 ((i : Int) + 1) = ((i + 1 : Nat) : Int) := wrap_succ (by omega)
    simp only [impl_Depth.l0, rd_T28_at l i hil, ew]
    rw [if_pos (by omega), if_pos (by omega), if_pos (by omega), hf l[i] hy k (by omega), dpl_go hil]
    exact ih (i + 1) k _ (by omega) (by omega) (Int.le_trans ha0 (mx_ge _ _)) (mx_le ha (hs _ hy))
theorem sdloop (g : S28 → Int) (l : List S28) (K : Nat) (m : Int) (hm : m ≤ 1000) (hl : l.length ≤ 3) (f0 : Int) (f1 : ByteArray) (f2 : Int)
    (hf : ∀ y ∈ l, ∀ k, K ≤ k → spec_Depth.f k y.f0 y.f1 y.f2 y.f3 = some (g y)) (hs : ∀ y ∈ l, g y ≤ m) :
    ∀ (c i k : Nat) (acc : Int), i + c = l.length → K + c < k → 0 ≤ acc → acc ≤ m →
    spec_Depth.l0 k acc (i : Int) f0 f1 f2 l = some (dpl g acc (l.drop i) + 1) := by
  intro c
  induction c with
  | zero =>
    intro i k acc hi hk ha0 ha
    obtain ⟨k, rfl⟩ : ∃ m, k = m + 1 := ⟨k - 1, by omega⟩
    simp only [spec_Depth.l0]
    rw [if_neg (by omega), List.drop_eq_nil_of_le (by omega), wrap_id (by omega) (by omega)]
    rfl
  | succ c ih =>
    intro i k acc hi hk ha0 ha
    obtain ⟨k, rfl⟩ : ∃ m, k = m + 1 := ⟨k - 1, by omega⟩
    have hil : i < l.length := by omega
    have hy : l[i] ∈ l := List.getElem_mem _
    have ew : wrap64 ((i : Int) + 1) = ((i + 1 : Nat) : Int) := wrap_succ (by omega)
    simp only [spec_Depth.l0, rd_T28_at l i hil, ew]
    rw [if_pos (by omega), if_pos (by omega), hf l[i] hy k (by omega), dpl_go hil]
    simp only [Option.bind_some]
    have hg := hs _ hy
    by_cases c1 : g l[i] > acc
    · rw [if_pos c1, show mx acc (g l[i]) = g l[i] from if_pos c1]
      exact ih (i + 1) k _ (by omega) (by omega) (by omega) hg
    · rw [if_neg c1, show mx acc (g l[i]) = acc from if_neg (by omega)]
      exact ih (i + 1) k _ (by omega) (by omega) ha0 ha
theorem idep : ∀ (n : Nat) (x : S28) (k : Nat), Ok n x → n ≤ 10 → 6 * n + 30 ≤ k → impl_Depth.f k x.f0 x.f1 x.f2 x.f3 = some (dep n x)
  | 0, _, _, h, _, _ => h.elim
  | n + 1, x, k, ⟨h1, h2, h3, h4, h5⟩, hn, hk => by
    obtain ⟨k, rfl⟩ : ∃ m, k = m + 1 := ⟨k - 1, by omega⟩
    simp only [impl_Depth.f]
    exact idloop (dep n) x.f3 (6 * n + 30) n (by omega) h4 (fun y hy k' hk' => idep n y k' (h5 y hy) (by omega) hk') (fun y _ => dep_le n y) x.f3.length 0 k 0 (by omega) (by omega) (by omega) (by omega)
theorem sdep : ∀ (n : Nat) (x : S28) (k : Nat), Ok n x → n ≤ 10 → 6 * n + 30 ≤ k → spec_Depth.f k x.f0 x.f1 x.f2 x.f3 = some (dep n x)
  | 0, _, _, h, _, _ => h.elim
  | n + 1, x, k, ⟨h1, h2, h3, h4, h5⟩, hn, hk => by
    obtain ⟨k, rfl⟩ : ∃ m, k = m + 1 := ⟨k - 1, by omega⟩
    simp only [spec_Depth.f]
    exact sdloop (dep n) x.f3 (6 * n + 30) n (by omega) h4 x.f0 x.f1 x.f2 (fun y hy k' hk' => sdep n y k' (h5 y hy) (by omega) hk') (fun y _ => dep_le n y) x.f3.length 0 k 0 (by omega) (by omega) (by omega) (by omega)
theorem txl_all (g : S28 → ByteArray × Bool) : ∀ (l : List S28) (acc : ByteArray), (txl g acc l).2 = true → ∀ y ∈ l, (g y).2 = true
  | [], _, _, y, hy => by cases hy
  | z :: zs, acc, h, y, hy => by
    unfold txl at h
    by_cases c : (g z).2 = true
    · rw [if_pos c] at h
      rcases List.mem_cons.1 hy with rfl | hy
      · exact c
      · exact txl_all g zs _ h y hy
    · rw [if_neg c] at h
      cases h
/-- What is told is no deeper than it is told. -/
theorem told_dep : ∀ (n : Nat) (x : S28) (d : Int), Wf n x → (tx n x d).2 = true → dep n x ≤ 7 - d
  | 0, _, _, h, _ => h.elim
  | n + 1, x, d, ⟨h1, h2, h3, h4, h5, h6⟩, ht => by
    by_cases c : d > 6
    · unfold tx at ht
      rw [if_pos c] at ht
      cases ht
    · by_cases c2 : x.f0 = 2
      · unfold tx at ht
        rw [if_neg c, if_neg (by omega), if_neg (by omega), if_neg (by omega), if_neg (by omega), if_neg (by omega), if_neg (by omega), if_pos c2] at ht
        have ha := txl_all _ _ _ ht
        have := dpl_le (dep n) (6 - d) x.f3 0 (by omega) (fun y hy => by have := told_dep n y (d + 1) (h6 y hy) (ha y hy); omega)
        unfold dep
        omega
      · unfold dep
        rw [h5 c2]
        show (0 : Int) + 1 ≤ _
        omega
theorem toList_nil : (⟨#[]⟩ : ByteArray).toList = [] := by rw [ByteArray.toList_eq]
theorem FnResTexts : laws_FnResTexts.Pure := by
  intro l _ _ _
  by_cases h : (l.length : Int) > 1048576
  · refine ⟨0, ?_⟩
    simp only [laws_FnResTexts.f, laws_big.f]
    rw [decide_eq_true h]
    rfl
  · have hl : l.length ≤ 1048576 := by omega
    obtain ⟨t, s, v, xs, n, e1, hn, ho, hw⟩ := drawn_text l hl
    obtain ⟨t2, s2, v2, xs2, e2, ho2⟩ := drawn_depth l hl
    obtain ⟨u, e3, hu⟩ := drawn_lines l hl
    have eI : Ev (fun k => impl_ResText.f k t s v xs) (if (tx n ⟨t, s, v, xs⟩ 1).2 = true then (tx n ⟨t, s, v, xs⟩ 1).1 else ⟨#[]⟩) := ⟨200, fun k hk => by
      have := itext n ⟨t, s, v, xs⟩ 1 k ho hn (by omega) (by omega) (by omega)
      simp only [impl_ResText.f]
      rw [show impl_resText.f k t s v xs 1 = _ from this]
      simp only [Option.bind_some]
      split <;> rfl⟩
    have eS : Ev (fun k => spec_ResText.f k t s v xs) (if (tx n ⟨t, s, v, xs⟩ 1).2 = true then (tx n ⟨t, s, v, xs⟩ 1).1 else ⟨#[]⟩) := ⟨200, fun k hk => by
      obtain ⟨q, e, hq⟩ := stext n ⟨t, s, v, xs⟩ 1 k ho hn (by omega) (by omega) (by omega)
      simp only [spec_ResText.f]
      rw [show spec_l13Text.f k t s v xs 1 = _ from e]
      simp only [Option.bind_some]
      by_cases c : (tx n ⟨t, s, v, xs⟩ 1).2 = true
      · rw [if_pos c, if_pos c, hq c]
      · rw [if_neg c, if_neg c]⟩
    have eD : Ev (fun k => impl_Depth.f k t2 s2 v2 xs2) (dep 5 ⟨t2, s2, v2, xs2⟩) := ⟨200, fun k hk => idep 5 ⟨t2, s2, v2, xs2⟩ k ho2 (by omega) (by omega)⟩
    have eE : Ev (fun k => spec_Depth.f k t2 s2 v2 xs2) (dep 5 ⟨t2, s2, v2, xs2⟩) := ⟨200, fun k hk => sdep 5 ⟨t2, s2, v2, xs2⟩ k ho2 (by omega) (by omega)⟩
    have eR : Ev (fun k => impl_Depth.f k t s v xs) (dep n ⟨t, s, v, xs⟩) := ⟨200, fun k hk => idep n ⟨t, s, v, xs⟩ k ho hn (by omega)⟩
    have eL : impl_Lines.f u = some (lines u) := impl_eq u (by omega)
    have eM : Ev (fun k => spec_Lines.f k u) (lines u) := ⟨u.size + 1, fun k hk => loop u (by omega) u.size k 0 (by omega) (by omega)⟩
    have eB : laws_big.f l = some false := by simp only [laws_big.f]; rw [decide_eq_false h]
    have hd : (if (tx n ⟨t, s, v, xs⟩ 1).2 = true then (tx n ⟨t, s, v, xs⟩ 1).1 else (⟨#[]⟩ : ByteArray)).toList ≠ [] → dep n ⟨t, s, v, xs⟩ ≤ 6 := by
      intro hne
      rcases hw with hw | hw
      · have := dep_le n ⟨t, s, v, xs⟩
        omega
      · by_cases c : (tx n ⟨t, s, v, xs⟩ 1).2 = true
        · exact told_dep n _ 1 hw c
        · rw [if_neg c, toList_nil] at hne
          exact absurd rfl hne
    have hz : Ev (fun k => (impl_Lines.f u).bind fun t299 => ((spec_Lines.f k u).bind fun t300 => (some (t299 == t300)))) true :=
      Ev.bind (Ev.all eL) (Ev.bind eM (by simpa using Ev.const true))
    have hall : Ev (fun k => laws_FnResTexts.f k l) true := by
      simp only [laws_FnResTexts.f]
      refine Ev.bind (Ev.all eB) (Ev.neg (by decide) (Ev.bind e1 (Ev.bind e2 (Ev.bind e3 (Ev.bind eI (Ev.bind eS (Ev.pos rfl (Ev.bind eD (Ev.bind eE (Ev.pos rfl (Ev.bind eD (Ev.pos (dep_pos _ _) (Ev.bind eI ?_)))))))))))))
      by_cases c : (if (tx n ⟨t, s, v, xs⟩ 1).2 = true then (tx n ⟨t, s, v, xs⟩ 1).1 else (⟨#[]⟩ : ByteArray)).toList = []
      · exact Ev.pos c hz
      · exact Ev.neg c (Ev.bind eR (Ev.pos (hd c) hz))
    obtain ⟨K, hK⟩ := hall
    exact ⟨K, hK K (Nat.le_refl _)⟩

end Go.Proofs.YtkbnfhgldcfceaaDoor.Pure

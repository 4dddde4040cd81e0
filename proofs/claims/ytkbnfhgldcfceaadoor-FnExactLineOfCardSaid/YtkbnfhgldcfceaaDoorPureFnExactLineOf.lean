/- FnExactLineOf in plain Lean: the loop over the bytes finds the piece that the library's cut has at that place. No condition. -/
import Derived.Test.YtkbnfhgldcfceaaDoorPLineOfx1
import Derived.Lib.SplitLaws
namespace Go.Proofs.YtkbnfhgldcfceaaDoor.Pure
open Go Go.RowKit Go.Proofs.YtkbnfhgldcfceaaDoor.PLineOf Go.Proofs.YtkbnfhgldcfceaaDoor.MyCount Go.Proofs.YtkbnfhgldcfceaaDoorW.PrintWords Go.Proofs.YtkbnfhgldcfceaaDoorW.PrintLast
set_option linter.unusedSimpArgs false
set_option linter.unusedVariables false
theorem wrap_id {x : Int} (h0 : -9223372036854775808 ≤ x) (h1 : x ≤ 9223372036854775807) : wrap64 x = x := by unfold wrap64; omega
theorem size_len (s : ByteArray) : s.size = s.data.toList.length := rfl
theorem bt_get (s : ByteArray) (i : Nat) (h : i < s.size) : bt s (i : Int) = ((s.data.toList[i]'(by rw [← size_len]; exact h)).toNat : Int) := by
  unfold bt
  rw [dif_pos (by simpa using h)]
  rfl
theorem ten (b : UInt8) : ((b.toNat : Int) = 10) ↔ b = 10 := by
  constructor
  · intro h
    apply UInt8.toNat_inj.1
    show b.toNat = 10
    omega
  · rintro rfl
    rfl
/-- How many lines. -/
def lines (s : ByteArray) : Int := (s.data.toList.count 10 : Int) + (if h : 0 < s.size then (if s.data.toList[s.size - 1]'(by rw [← size_len]; omega) = 10 then 0 else 1) else 0)
theorem count_le (s : ByteArray) : s.data.toList.count 10 ≤ s.size := by rw [size_len]; exact List.count_le_length
theorem impl_eq (s : ByteArray) (hs : s.size ≤ 1048576) : impl_Lines.f s = some (lines s) := by
  have hc := count_le s
  simp only [impl_Lines.f, strings_Count.f, if_true, Option.bind_some, ByteArray.toList_eq]
  unfold lines
  have hcb : Lib.countByte s.data.toList 10 = s.data.toList.count 10 := rfl
  rw [hcb]
  by_cases h0 : 0 < s.size
  · rw [if_neg (by intro h; rw [size_len, h] at h0; simp at h0), dif_pos h0]
    have e : wrap64 ((s.size : Int) - 1) = ((s.size - 1 : Nat) : Int) := by rw [wrap_id (by omega) (by omega)]; omega
    have hx : (s.extract (s.size - 1) s.size).data.toList = [s.data.toList[s.size - 1]'(by rw [← size_len]; omega)] := by
      rw [ByteArray.data_extract, Array.toList_extract]
      apply List.ext_getElem
      · simp [List.extract, ← size_len]; omega
      · intro i h1 h2
        simp at h2
        subst h2
        simp [List.extract]
    have e1 : ((⟨#[10]⟩ : ByteArray).size : Int) = 1 := rfl
    have e2 : (⟨#[10]⟩ : ByteArray).data.toList = [10] := rfl
    simp only [strings_HasSuffix.f, stringslite_HasSuffix.f, e1, ByteArray.toList_eq, e2, e, Int.toNat_natCast, hx]
    rw [if_pos (by omega), if_pos (by omega), if_pos (by omega)]
    simp only [Option.bind_some]
    by_cases h1 : s.data.toList[s.size - 1]'(by rw [← size_len]; omega) = 10
    · rw [if_pos (by simp [h1]), if_pos h1]
      simp
    · rw [if_neg (by simpa using h1), if_neg h1, wrap_id (by omega) (by omega)]
  · have hz : s.data.toList = [] := List.length_eq_zero_iff.1 (by rw [← size_len]; omega)
    rw [if_pos hz, dif_neg h0, hz]
    rfl

/-- Cut at each byte 10. -/
def cut : List UInt8 → List (List UInt8)
  | [] => [[]]
  | b :: l => if b = 10 then [] :: cut l else match cut l with
    | [] => [[b]]
    | h :: t => (b :: h) :: t
theorem cut_ne (l : List UInt8) : ∃ h t, cut l = h :: t := by
  cases l with
  | nil => exact ⟨[], [], rfl⟩
  | cons b l =>
    unfold cut
    split
    · exact ⟨_, _, rfl⟩
    · split
      · exact ⟨_, _, rfl⟩
      · exact ⟨_, _, rfl⟩
theorem cut_ten (l : List UInt8) : cut (10 :: l) = [] :: cut l := by rw [cut, if_pos rfl]
theorem cut_other {b : UInt8} {l h : List UInt8} {t : List (List UInt8)} (hb : b ≠ 10) (hc : cut l = h :: t) : cut (b :: l) = (b :: h) :: t := by
  rw [cut, if_neg hb, hc]
theorem split_cut : ∀ l : List UInt8, Lib.splitK [10] 0 (Lib.count l [10]) l = cut l
  | [] => by rw [Lib.count_one]; rfl
  | b :: l => by
    have ih := split_cut l
    by_cases hb : b = 10
    · subst hb
      rw [Lib.count_cons_eq, Nat.add_comm, cut_ten, ← ih]
      have hix : Lib.index (10 :: l) [10] = 0 := by rw [Lib.index]; simp [List.isPrefixOf]
      rw [Lib.splitK, hix]
      simp
    · rw [Lib.count_cons_ne b 10 l hb]
      have hp : ([10] : List UInt8).isPrefixOf (b :: l) = false := by simp [List.isPrefixOf, Ne.symm hb]
      have hix : Lib.index (b :: l) [10] = if Lib.index l [10] == -1 then -1 else Lib.index l [10] + 1 := by rw [Lib.index, hp]; simp
      by_cases hm : Lib.index l [10] = -1
      · rw [Lib.count_miss hm] at ih ⊢
        rw [Lib.splitK] at ih ⊢
        rw [cut_other hb ih.symm]
      · have hge := Lib.index_ge l [10]
        obtain ⟨j, hj⟩ : ∃ j : Nat, Lib.index l [10] = j := ⟨(Lib.index l [10]).toNat, by omega⟩
        have hix' : Lib.index (b :: l) [10] = ((j + 1 : Nat) : Int) := by rw [hix, if_neg (fun e => hm (beq_iff_eq.1 e)), hj]; omega
        rw [Lib.count_hit (by simp) hj] at ih ⊢
        rw [Nat.add_comm 1] at ih ⊢
        rw [Lib.splitK, if_neg (fun e => hm (beq_iff_eq.1 e)), hj] at ih
        rw [Lib.splitK, if_neg (fun e => by have := beq_iff_eq.1 e; omega), hix', cut_other hb ih.symm]
        simp
/-- The piece at a place, nothing where there is none. -/
def res (p : List (List UInt8)) (j : Int) : List UInt8 := if 0 ≤ j then (p[j.toNat]?).getD [] else []
def glue (a : List UInt8) (p : List (List UInt8)) : List (List UInt8) := match p with
  | [] => [a]
  | h :: t => (a ++ h) :: t
theorem res_zero (a : List UInt8) (t : List (List UInt8)) : res (a :: t) 0 = a := by simp [res]
theorem res_succ (a : List UInt8) (t : List (List UInt8)) (j : Int) (hj : j ≠ 0) : res (a :: t) j = res t (j - 1) := by
  unfold res
  by_cases h : 0 ≤ j
  · rw [if_pos h, if_pos (by omega)]
    obtain ⟨n, hn⟩ : ∃ n : Nat, j = ((n + 1 : Nat) : Int) := ⟨(j - 1).toNat, by omega⟩
    subst hn
    have e : (((n + 1 : Nat) : Int) - 1).toNat = n := by omega
    rw [e, Int.toNat_natCast, List.getElem?_cons_succ]
  · rw [if_neg h, if_neg (by omega)]
theorem glue_nil (p : List (List UInt8)) (h : ∃ a t, p = a :: t) : glue [] p = p := by
  obtain ⟨a, t, rfl⟩ := h
  rfl
/-- With enough rounds: this result. -/
def Ev {α : Type} (g : Nat → Option α) (r : α) : Prop := ∃ K, ∀ k, K ≤ k → g k = some r
theorem Ev.const {α : Type} (r : α) : Ev (fun _ => some r) r := ⟨0, fun _ _ => rfl⟩
theorem Ev.succ {α : Type} {g : Nat → Option α} {r : α} (h : Ev (fun k => g (k + 1)) r) : Ev g r := by
  obtain ⟨K, h⟩ := h
  exact ⟨K + 1, fun k hk => by obtain ⟨m, rfl⟩ : ∃ m, k = m + 1 := ⟨k - 1, by omega⟩; exact h m (by omega)⟩
theorem Ev.pos {α : Type} {c : Prop} [Decidable c] {a b : Nat → Option α} {r : α} (hc : c) (h : Ev a r) : Ev (fun k => if c then a k else b k) r := by
  simpa only [if_pos hc] using h
theorem Ev.neg {α : Type} {c : Prop} [Decidable c] {a b : Nat → Option α} {r : α} (hc : ¬ c) (h : Ev b r) : Ev (fun k => if c then a k else b k) r := by
  simpa only [if_neg hc] using h
def mid (s : ByteArray) (f i : Nat) : List UInt8 := (s.data.toList.take i).drop f
theorem extract_mid (s : ByteArray) (f i : Nat) : (s.extract f i).data.toList = mid s f i := by
  rw [Lib.extract_data]
  unfold mid
  simp [List.extract, List.drop_take]
theorem spec_loop (s : ByteArray) (n : Int) (hs : s.size ≤ 1048576) : ∀ (d i f : Nat) (ln : Nat), i + d = s.size → f ≤ i → ln ≤ i + 1 →
    ∃ r : ByteArray, Ev (fun k => spec_LineOf.l0 k s n (ln : Int) (f : Int) (i : Int)) r ∧ r.data.toList = res (glue (mid s f i) (cut (s.data.toList.drop i))) (n - ln) := by
  intro d
  induction d with
  | zero =>
    intro i f ln hi hf hl
    have hd : s.data.toList.drop i = [] := List.drop_eq_nil_of_le (by rw [← size_len]; omega)
    have hg : glue (mid s f i) (cut (s.data.toList.drop i)) = [mid s f i] := by rw [hd]; simp [cut, glue]
    rw [hg]
    have e1 : wrap64 ((i : Int) + 1) = (i : Int) + 1 := wrap_id (by omega) (by omega)
    have e2 : wrap64 ((ln : Int) + 1) = (ln : Int) + 1 := wrap_id (by omega) (by omega)
    by_cases h : (ln : Int) = n
    · refine ⟨s.extract f i, Ev.succ ?_, ?_⟩
      · simp only [spec_LineOf.l0]
        refine Ev.pos (by omega) (Ev.neg (by omega) (Ev.succ ?_))
        simp only [spec_LineOf.j1]
        refine Ev.neg (by simp) (Ev.pos h (Ev.pos (by omega) (Ev.pos (by omega) (Ev.pos (by omega) ?_))))
        exact Ev.const _
      · rw [extract_mid, show n - (ln : Int) = 0 by omega, res_zero]
    · refine ⟨⟨#[]⟩, Ev.succ ?_, ?_⟩
      · simp only [spec_LineOf.l0]
        refine Ev.pos (by omega) (Ev.neg (by omega) (Ev.succ ?_))
        simp only [spec_LineOf.j1, e1, e2]
        refine Ev.neg (by simp) (Ev.neg h (Ev.succ ?_))
        simp only [spec_LineOf.l0]
        exact Ev.neg (by omega) (Ev.const _)
      · rw [res_succ _ _ _ (by omega)]
        simp [res]
  | succ d ih =>
    intro i f ln hi hf hl
    have hb : i < s.size := by omega
    have hlt : i < s.data.toList.length := by rw [← size_len]; exact hb
    have hd : s.data.toList.drop i = s.data.toList[i] :: s.data.toList.drop (i + 1) := List.drop_eq_getElem_cons hlt
    have e1 : wrap64 ((i : Int) + 1) = ((i + 1 : Nat) : Int) := by rw [wrap_id (by omega) (by omega)]; omega
    have e2 : wrap64 ((ln : Int) + 1) = ((ln + 1 : Nat) : Int) := by rw [wrap_id (by omega) (by omega)]; omega
    have hmid : mid s f (i + 1) = mid s f i ++ [s.data.toList[i]] := by
      unfold mid
      rw [List.take_succ_eq_append_getElem hlt, List.drop_append_of_le_length (by simp; omega)]
    obtain ⟨h0, t0, hc⟩ := cut_ne (s.data.toList.drop (i + 1))
    by_cases h10 : s.data.toList[i] = 10
    · have hg : glue (mid s f i) (cut (s.data.toList.drop i)) = mid s f i :: cut (s.data.toList.drop (i + 1)) := by
        rw [hd, h10, cut_ten]
        simp [glue]
      have hbt : (bt s (i : Int) != 10) = false := by rw [bt_get s i hb]; simpa using (ten _).2 h10
      rw [hg]
      by_cases h : (ln : Int) = n
      · refine ⟨s.extract f i, Ev.succ ?_, ?_⟩
        · simp only [spec_LineOf.l0, hbt]
          refine Ev.pos (by omega) (Ev.pos (by omega) (Ev.pos (by omega) (Ev.succ ?_)))
          simp only [spec_LineOf.j1]
          refine Ev.neg (by simp) (Ev.pos h (Ev.pos (by omega) (Ev.pos (by omega) (Ev.pos (by omega) ?_))))
          exact Ev.const _
        · rw [extract_mid, show n - (ln : Int) = 0 by omega, res_zero]
      · obtain ⟨r, hr, he⟩ := ih (i + 1) (i + 1) (ln + 1) (by omega) (by omega) (by omega)
        refine ⟨r, Ev.succ ?_, ?_⟩
        · simp only [spec_LineOf.l0, hbt]
          refine Ev.pos (by omega) (Ev.pos (by omega) (Ev.pos (by omega) (Ev.succ ?_)))
          simp only [spec_LineOf.j1, e1, e2]
          exact Ev.neg (by simp) (Ev.neg h hr)
        · rw [he, res_succ _ _ _ (by omega)]
          have hm0 : mid s (i + 1) (i + 1) = [] := by unfold mid; exact List.drop_eq_nil_of_le (by simp; omega)
          rw [hm0, glue_nil _ ⟨h0, t0, hc⟩]
          congr 1
          omega
    · have hg : glue (mid s f i) (cut (s.data.toList.drop i)) = glue (mid s f (i + 1)) (cut (s.data.toList.drop (i + 1))) := by
        rw [hd, cut_other h10 hc, hc, hmid]
        simp [glue]
      have hbt : (bt s (i : Int) != 10) = true := by rw [bt_get s i hb]; simpa using fun h => h10 ((ten _).1 h)
      obtain ⟨r, hr, he⟩ := ih (i + 1) f ln (by omega) (by omega) (by omega)
      refine ⟨r, Ev.succ ?_, by rw [he, hg]⟩
      simp only [spec_LineOf.l0, hbt]
      refine Ev.pos (by omega) (Ev.pos (by omega) (Ev.pos (by omega) (Ev.succ ?_)))
      simp only [spec_LineOf.j1, e1]
      exact Ev.pos (by trivial) hr
theorem cut_length : ∀ l : List UInt8, (cut l).length = l.count 10 + 1
  | [] => rfl
  | b :: l => by
    obtain ⟨h, t, hc⟩ := cut_ne l
    have ih := cut_length l
    by_cases hb : b = 10
    · subst hb
      rw [cut_ten, List.length_cons, ih]
      simp
    · rw [cut_other hb hc, List.count_cons_of_ne (by simpa using hb), ← ih, hc]
      simp
theorem cut_last : ∀ l : List UInt8, (l = [] ∨ l.getLast? = some 10) → (cut l)[l.count 10]? = some []
  | [], _ => rfl
  | [b], h => by
    rcases h with h | h
    · cases h
    · simp at h
      subst h
      rfl
  | b :: c :: l, h => by
    have h' : (c :: l).getLast? = some 10 := by
      rcases h with h | h
      · cases h
      · simpa using h
    have ih := cut_last (c :: l) (.inr h')
    have hmem : (10 : UInt8) ∈ c :: l := List.mem_of_getLast? h'
    have hpos : 0 < (c :: l).count 10 := List.count_pos_iff.2 hmem
    obtain ⟨h0, t0, hc⟩ := cut_ne (c :: l)
    by_cases hb : b = 10
    · subst hb
      rw [cut_ten, List.count_cons_self, List.getElem?_cons_succ]
      exact ih
    · rw [cut_other hb hc, List.count_cons_of_ne (by simpa using hb)]
      obtain ⟨m, hm⟩ : ∃ m, (c :: l).count 10 = m + 1 := ⟨(c :: l).count 10 - 1, by omega⟩
      rw [hm] at ih ⊢
      rw [hc, List.getElem?_cons_succ] at ih
      rw [List.getElem?_cons_succ]
      exact ih
theorem in_eq (a b c : Int) : impl_in.f a b c = some (decide (b ≤ a ∧ a ≤ c)) := by
  unfold impl_in.f
  by_cases h : a ≥ b
  · rw [if_pos h]
    congr 1
    simp [h]
  · rw [if_neg h]
    congr 1
    simp
    omega
theorem impl_line (s : ByteArray) (n : Int) (hs : s.size ≤ 1048576) : ∃ r : ByteArray, impl_LineOf.f s n = some r ∧ r.data.toList = res (cut s.data.toList) (n - 1) := by
  simp only [impl_LineOf.f, impl_eq s hs, Option.bind_some, in_eq]
  have hlen := cut_length s.data.toList
  by_cases h : 1 ≤ n ∧ n ≤ lines s
  · rw [if_pos (decide_eq_true h)]
    have hle : lines s ≤ (s.data.toList.count 10 : Int) + 1 := by
      unfold lines
      split
      · split <;> omega
      · omega
    have hc := count_le s
    have e : wrap64 (n - 1) = n - 1 := wrap_id (by omega) (by omega)
    have h1 : 1 ≤ (⟨#[10]⟩ : ByteArray).size := Nat.le_refl _
    obtain ⟨P, hP⟩ : ∃ P, P = Lib.splitB ⟨#[10]⟩ 0 (Lib.countB s ⟨#[10]⟩) s := ⟨_, rfl⟩
    have hmap : P.map (·.data.toList) = cut s.data.toList := by
      rw [hP, Lib.splitB_data]
      exact split_cut _
    have hPl : P.length = s.data.toList.count 10 + 1 := by rw [← hlen, ← hmap, List.length_map]
    have hsplit : strings_Split.f s ⟨#[10]⟩ = some P := by
      unfold strings_Split.f
      rw [if_pos hs, if_pos h1, hP]
    rw [hsplit]
    simp only [Option.bind_some, e]
    rw [if_pos (by omega), if_pos (by omega)]
    refine ⟨_, rfl, ?_⟩
    obtain ⟨j, hj⟩ : ∃ j : Nat, n - 1 = j := ⟨(n - 1).toNat, by omega⟩
    have hjl : j < P.length := by omega
    rw [hj]
    unfold rdOf res
    rw [if_pos (by omega), Int.toNat_natCast, List.getD_eq_getElem?_getD, List.getElem?_eq_getElem hjl, ← hmap, List.getElem?_map, List.getElem?_eq_getElem hjl]
    rfl
  · rw [if_neg (by simpa using h)]
    refine ⟨_, rfl, ?_⟩
    show [] = _
    unfold res
    by_cases h0 : 0 ≤ n - 1
    · rw [if_pos h0]
      have hn : lines s < n := by omega
      by_cases hend : s.data.toList = [] ∨ s.data.toList.getLast? = some 10
      · have hl : lines s = s.data.toList.count 10 := by
          unfold lines
          by_cases hz : 0 < s.size
          · rw [dif_pos hz]
            rcases hend with hend | hend
            · rw [size_len, hend] at hz
              simp at hz
            · rw [if_pos (by rw [List.getLast?_eq_getElem?, ← size_len, List.getElem?_eq_getElem (by rw [← size_len]; omega)] at hend; exact Option.some.inj hend), Int.add_zero]
          · rw [dif_neg hz, Int.add_zero]
        by_cases hq : n - 1 = (s.data.toList.count 10 : Int)
        · rw [hq, Int.toNat_natCast, cut_last _ hend]
          rfl
        · rw [List.getElem?_eq_none (by omega)]
          rfl
      · have hl : lines s = s.data.toList.count 10 + 1 := by
          unfold lines
          have hz : 0 < s.size := by
            by_cases hz : 0 < s.size
            · exact hz
            · exact absurd (.inl (List.length_eq_zero_iff.1 (by rw [← size_len]; omega))) hend
          rw [dif_pos hz, if_neg (fun h10 => hend (.inr (by rw [List.getLast?_eq_getElem?, ← size_len, List.getElem?_eq_getElem (by rw [← size_len]; omega), h10])))]
        rw [List.getElem?_eq_none (by omega)]
        rfl
    · rw [if_neg h0]
theorem line_true (s : ByteArray) (n : Int) : ∃ k, laws_FnExactLineOf.f k s n = some true := by
  by_cases h : (s.size : Int) > 1048576
  · exact ⟨0, by simp only [laws_FnExactLineOf.f]; rw [if_pos h]⟩
  · obtain ⟨r1, ⟨K, h1⟩, e1⟩ := spec_loop s n (by omega) s.size 0 0 1 (by omega) (by omega) (by omega)
    obtain ⟨r2, h2, e2⟩ := impl_line s n (by omega)
    refine ⟨K, ?_⟩
    have hg : glue (mid s 0 0) (cut (s.data.toList.drop 0)) = cut s.data.toList := by
      rw [List.drop_zero]
      exact glue_nil _ (cut_ne _)
    simp only [laws_FnExactLineOf.f, spec_LineOf.f]
    rw [if_neg h, show spec_LineOf.l0 K s n 1 0 0 = some r1 from h1 K (Nat.le_refl _), h2]
    simp only [Option.bind_some]
    rw [if_pos]
    rw [ByteArray.toList_eq, ByteArray.toList_eq, e1, e2, hg]
    rfl
theorem FnExactLineOf : laws_FnExactLineOf.Pure := fun s n _ _ => line_true s n
end Go.Proofs.YtkbnfhgldcfceaaDoor.Pure

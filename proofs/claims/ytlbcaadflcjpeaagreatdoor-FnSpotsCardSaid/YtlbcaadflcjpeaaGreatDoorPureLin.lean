/- LineOf in plain Lean: the loop over the bytes finds the piece that the library's cut has at that place. No condition. -/
import Derived.Test.YtlbcaadflcjpeaaGreatDoorPSpox11
import Derived.Test.YtlbcaadflcjpeaaGreatDoorPureSpo
import Derived.Lib.SplitLaws
import Derived.Test.YtlbcaadflcjpeaaGreatDoorPSpox10
import Derived.Lib.Join
namespace Go.Proofs.YtlbcaadflcjpeaaGreatDoor.Pure
open Go Go.RowKit Go.Proofs.YtlbcaadflcjpeaaGreatDoor.PSpo Go.Proofs.YtlbcaadflcjpeaaGreatDoor.MyCount Go.Proofs.YtlbcaadflcjpeaaGreatDoorW.PrintWords Go.Proofs.YtlbcaadflcjpeaaGreatDoorW.PrintLast
set_option linter.unusedSimpArgs false
set_option linter.unusedVariables false
theorem ten (b : UInt8) : ((b.toNat : Int) = 10) ↔ b = 10 := by
  constructor
  · intro h
    apply UInt8.toNat_inj.1
    show b.toNat = 10
    omega
  · rintro rfl
    rfl
/-- How many lines. -/
def lines (s : ByteArray) : Int := (s.data.toList.count 10 : Int) + (if h : 0 < s.size then (if s.data.toList[s.size - 1]'(by rw [← size_len]; omega) = 10 then 0 else 1) else 0)
theorem count_le (s : ByteArray) : s.data.toList.count 10 ≤ s.size := by rw [size_len]; exact List.count_le_length
theorem impl_eq (s : ByteArray) (hs : s.size ≤ 4294967280) : impl_Lines.f s = some (lines s) := by
  have hc := count_le s
  simp only [impl_Lines.f, strings_Count.f, if_true, Option.bind_some, ByteArray.toList_eq]
  unfold lines
  have hcb : Lib.countByte s.data.toList 10 = s.data.toList.count 10 := rfl
  rw [hcb]
  by_cases h0 : 0 < s.size
  · rw [if_neg (by intro h; rw [size_len, h] at h0; simp at h0), dif_pos h0]
    have e : wrap64 ((s.size : Int) - 1) = ((s.size - 1 : Nat) : Int) := by rw [wrap_id (by omega) (by omega)]; omega
    have hx : (s.extract (s.size - 1) s.size).data.toList = [s.data.toList[s.size - 1]'(by rw [← size_len]; omega)] := by
      rw [ByteArray.data_extract, Array.toList_extract]
      apply List.ext_getElem
      · simp [List.extract, ← size_len]; omega
      · intro i h1 h2
        simp at h2
        subst h2
        simp [List.extract]
    have e1 : ((⟨#[10]⟩ : ByteArray).size : Int) = 1 := rfl
    have e2 : (⟨#[10]⟩ : ByteArray).data.toList = [10] := rfl
    simp only [strings_HasSuffix.f, stringslite_HasSuffix.f, e1, ByteArray.toList_eq, e2, e, Int.toNat_natCast, hx]
    rw [if_pos (by omega), if_pos (by omega), if_pos (by omega)]
    simp only [Option.bind_some]
    by_cases h1 : s.data.toList[s.size - 1]'(by rw [← size_len]; omega) = 10
    · rw [if_pos (by simp [h1]), if_pos h1]
      simp
    · rw [if_neg (by simpa using h1), if_neg h1, wrap_id (by omega) (by omega)]
  · have hz : s.data.toList = [] := List.length_eq_zero_iff.1 (by rw [← size_len]; omega)
    rw [if_pos hz, dif_neg h0, hz]
    rfl

/-- Cut at each byte 10. -/
def cut : List UInt8 → List (List UInt8)
  | [] => [[]]
  | b :: l => if b = 10 then [] :: cut l else match cut l with
    | [] => [[b]]
    | h :: t => (b :: h) :: t
theorem cut_ne (l : List UInt8) : ∃ h t, cut l = h :: t := by
  cases l with
  | nil => exact ⟨[], [], rfl⟩
  | cons b l =>
    unfold cut
    split
    · exact ⟨_, _, rfl⟩
    · split
      · exact ⟨_, _, rfl⟩
      · exact ⟨_, _, rfl⟩
theorem cut_ten (l : List UInt8) : cut (10 :: l) = [] :: cut l := by rw [cut, if_pos rfl]
theorem cut_other {b : UInt8} {l h : List UInt8} {t : List (List UInt8)} (hb : b ≠ 10) (hc : cut l = h :: t) : cut (b :: l) = (b :: h) :: t := by
  rw [cut, if_neg hb, hc]
theorem split_cut : ∀ l : List UInt8, Lib.splitK [10] 0 (Lib.count l [10]) l = cut l
  | [] => by rw [Lib.count_one]; rfl
  | b :: l => by
    have ih := split_cut l
    by_cases hb : b = 10
    · subst hb
      rw [Lib.count_cons_eq, Nat.add_comm, cut_ten, ← ih]
      have hix : Lib.index (10 :: l) [10] = 0 := by rw [Lib.index]; simp [List.isPrefixOf]
      rw [Lib.splitK, hix]
      simp
    · rw [Lib.count_cons_ne b 10 l hb]
      have hp : ([10] : List UInt8).isPrefixOf (b :: l) = false := by simp [List.isPrefixOf, Ne.symm hb]
      have hix : Lib.index (b :: l) [10] = if Lib.index l [10] == -1 then -1 else Lib.index l [10] + 1 := by rw [Lib.index, hp]; simp
      by_cases hm : Lib.index l [10] = -1
      · rw [Lib.count_miss hm] at ih ⊢
        rw [Lib.splitK] at ih ⊢
        rw [cut_other hb ih.symm]
      · have hge := Lib.index_ge l [10]
        obtain ⟨j, hj⟩ : ∃ j : Nat, Lib.index l [10] = j := ⟨(Lib.index l [10]).toNat, by omega⟩
        have hix' : Lib.index (b :: l) [10] = ((j + 1 : Nat) : Int) := by rw [hix, if_neg (fun e => hm (beq_iff_eq.1 e)), hj]; omega
        rw [Lib.count_hit (by simp) hj] at ih ⊢
        rw [Nat.add_comm 1] at ih ⊢
        rw [Lib.splitK, if_neg (fun e => hm (beq_iff_eq.1 e)), hj] at ih
        rw [Lib.splitK, if_neg (fun e => by have := beq_iff_eq.1 e; omega), hix', cut_other hb ih.symm]
        simp
/-- The piece at a place, nothing where there is none. -/
def res (p : List (List UInt8)) (j : Int) : List UInt8 := if 0 ≤ j then (p[j.toNat]?).getD [] else []
def glue (a : List UInt8) (p : List (List UInt8)) : List (List UInt8) := match p with
  | [] => [a]
  | h :: t => (a ++ h) :: t
theorem res_zero (a : List UInt8) (t : List (List UInt8)) : res (a :: t) 0 = a := by simp [res]
theorem res_succ (a : List UInt8) (t : List (List UInt8)) (j : Int) (hj : j ≠ 0) : res (a :: t) j = res t (j - 1) := by
  unfold res
  by_cases h : 0 ≤ j
  · rw [if_pos h, if_pos (by omega)]
    obtain ⟨n, hn⟩ : ∃ n : Nat, j = ((n + 1 : Nat) : Int) := ⟨(j - 1).toNat, by omega⟩
    subst hn
    have e : (((n + 1 : Nat) : Int) - 1).toNat = n := by omega
    rw [e, Int.toNat_natCast, List.getElem?_cons_succ]
  · rw [if_neg h, if_neg (by omega)]
theorem glue_nil (p : List (List UInt8)) (h : ∃ a t, p = a :: t) : glue [] p = p := by
  obtain ⟨a, t, rfl⟩ := h
  rfl
def mid (s : ByteArray) (f i : Nat) : List UInt8 := (s.data.toList.take i).drop f
theorem extract_mid (s : ByteArray) (f i : Nat) : (s.extract f i).data.toList = mid s f i := by
  rw [Lib.extract_data]
  unfold mid
  simp [List.extract, List.drop_take]
theorem spec_loop (s : ByteArray) (n : Int) (hs : s.size ≤ 4294967280) : ∀ (d i f : Nat) (ln : Nat), i + d = s.size → f ≤ i → ln ≤ i + 1 →
    ∃ r : ByteArray, Ev (fun k => spec_LineOf.l0 k s n (ln : Int) (f : Int) (i : Int)) r ∧ r.data.toList = res (glue (mid s f i) (cut (s.data.toList.drop i))) (n - ln) := by
  intro d
  induction d with
  | zero =>
    intro i f ln hi hf hl
    have hd : s.data.toList.drop i = [] := List.drop_eq_nil_of_le (by rw [← size_len]; omega)
    have hg : glue (mid s f i) (cut (s.data.toList.drop i)) = [mid s f i] := by rw [hd]; simp [cut, glue]
    rw [hg]
    have e1 : wrap64 ((i : Int) + 1) = (i : Int) + 1 := wrap_id (by omega) (by omega)
    have e2 : wrap64 ((ln : Int) + 1) = (ln : Int) + 1 := wrap_id (by omega) (by omega)
    by_cases h : (ln : Int) = n
    · refine ⟨s.extract f i, Ev.succ ?_, ?_⟩
      · simp only [spec_LineOf.l0]
        refine Ev.pos (by omega) (Ev.neg (by omega) (Ev.succ ?_))
        simp only [spec_LineOf.j1]
        refine Ev.neg (by simp) (Ev.pos h (Ev.pos (by omega) (Ev.pos (by omega) (Ev.pos (by omega) ?_))))
        exact Ev.const _
      · rw [extract_mid, show n - (ln : Int) = 0 by omega, res_zero]
    · refine ⟨⟨#[]⟩, Ev.succ ?_, ?_⟩
      · simp only [spec_LineOf.l0]
        refine Ev.pos (by omega) (Ev.neg (by omega) (Ev.succ ?_))
        simp only [spec_LineOf.j1, e1, e2]
        refine Ev.neg (by simp) (Ev.neg h (Ev.succ ?_))
        simp only [spec_LineOf.l0]
        exact Ev.neg (by omega) (Ev.const _)
      · rw [res_succ _ _ _ (by omega)]
        simp [res]
  | succ d ih =>
    intro i f ln hi hf hl
    have hb : i < s.size := by omega
    have hlt : i < s.data.toList.length := by rw [← size_len]; exact hb
    have hd : s.data.toList.drop i = s.data.toList[i] :: s.data.toList.drop (i + 1) := List.drop_eq_getElem_cons hlt
    have e1 : wrap64 ((i : Int) + 1) = ((i + 1 : Nat) : Int) := by rw [wrap_id (by omega) (by omega)]; omega
    have e2 : wrap64 ((ln : Int) + 1) = ((ln + 1 : Nat) : Int) := by rw [wrap_id (by omega) (by omega)]; omega
    have hmid : mid s f (i + 1) = mid s f i ++ [s.data.toList[i]] := by
      unfold mid
      rw [List.take_succ_eq_append_getElem hlt, List.drop_append_of_le_length (by simp; omega)]
    obtain ⟨h0, t0, hc⟩ := cut_ne (s.data.toList.drop (i + 1))
    by_cases h10 : s.data.toList[i] = 10
    · have hg : glue (mid s f i) (cut (s.data.toList.drop i)) = mid s f i :: cut (s.data.toList.drop (i + 1)) := by
        rw [hd, h10, cut_ten]
        simp [glue]
      have hbt : (bt s (i : Int) != 10) = false := by rw [bt_get s i hb]; simpa using (ten _).2 h10
      rw [hg]
      by_cases h : (ln : Int) = n
      · refine ⟨s.extract f i, Ev.succ ?_, ?_⟩
        · simp only [spec_LineOf.l0, hbt]
          refine Ev.pos (by omega) (Ev.pos (by omega) (Ev.pos (by omega) (Ev.succ ?_)))
          simp only [spec_LineOf.j1]
          refine Ev.neg (by simp) (Ev.pos h (Ev.pos (by omega) (Ev.pos (by omega) (Ev.pos (by omega) ?_))))
          exact Ev.const _
        · rw [extract_mid, show n - (ln : Int) = 0 by omega, res_zero]
      · obtain ⟨r, hr, he⟩ := ih (i + 1) (i + 1) (ln + 1) (by omega) (by omega) (by omega)
        refine ⟨r, Ev.succ ?_, ?_⟩
        · simp only [spec_LineOf.l0, hbt]
          refine Ev.pos (by omega) (Ev.pos (by omega) (Ev.pos (by omega) (Ev.succ ?_)))
          simp only [spec_LineOf.j1, e1, e2]
          exact Ev.neg (by simp) (Ev.neg h hr)
        · rw [he, res_succ _ _ _ (by omega)]
          have hm0 : mid s (i + 1) (i + 1) = [] := by unfold mid; exact List.drop_eq_nil_of_le (by simp; omega)
          rw [hm0, glue_nil _ ⟨h0, t0, hc⟩]
          congr 1
          omega
    · have hg : glue (mid s f i) (cut (s.data.toList.drop i)) = glue (mid s f (i + 1)) (cut (s.data.toList.drop (i + 1))) := by
        rw [hd, cut_other h10 hc, hc, hmid]
        simp [glue]
      have hbt : (bt s (i : Int) != 10) = true := by rw [bt_get s i hb]; simpa using fun h => h10 ((ten _).1 h)
      obtain ⟨r, hr, he⟩ := ih (i + 1) f ln (by omega) (by omega) (by omega)
      refine ⟨r, Ev.succ ?_, by rw [he, hg]⟩
      simp only [spec_LineOf.l0, hbt]
      refine Ev.pos (by omega) (Ev.pos (by omega) (Ev.pos (by omega) (Ev.succ ?_)))
      simp only [spec_LineOf.j1, e1]
      exact Ev.pos (by trivial) hr
theorem cut_length : ∀ l : List UInt8, (cut l).length = l.count 10 + 1
  | [] => rfl
  | b :: l => by
    obtain ⟨h, t, hc⟩ := cut_ne l
    have ih := cut_length l
    by_cases hb : b = 10
    · subst hb
      rw [cut_ten, List.length_cons, ih]
      simp
    · rw [cut_other hb hc, List.count_cons_of_ne (by simpa using hb), ← ih, hc]
      simp
theorem cut_last : ∀ l : List UInt8, (l = [] ∨ l.getLast? = some 10) → (cut l)[l.count 10]? = some []
  | [], _ => rfl
  | [b], h => by
    rcases h with h | h
    · cases h
    · simp at h
      subst h
      rfl
  | b :: c :: l, h => by
    have h' : (c :: l).getLast? = some 10 := by
      rcases h with h | h
      · cases h
      · simpa using h
    have ih := cut_last (c :: l) (.inr h')
    have hmem : (10 : UInt8) ∈ c :: l := List.mem_of_getLast? h'
    have hpos : 0 < (c :: l).count 10 := List.count_pos_iff.2 hmem
    obtain ⟨h0, t0, hc⟩ := cut_ne (c :: l)
    by_cases hb : b = 10
    · subst hb
      rw [cut_ten, List.count_cons_self, List.getElem?_cons_succ]
      exact ih
    · rw [cut_other hb hc, List.count_cons_of_ne (by simpa using hb)]
      obtain ⟨m, hm⟩ : ∃ m, (c :: l).count 10 = m + 1 := ⟨(c :: l).count 10 - 1, by omega⟩
      rw [hm] at ih ⊢
      rw [hc, List.getElem?_cons_succ] at ih
      rw [List.getElem?_cons_succ]
      exact ih
theorem in_eq (a b c : Int) : impl_in.f a b c = some (decide (b ≤ a ∧ a ≤ c)) := by
  unfold impl_in.f
  by_cases h : a ≥ b
  · rw [if_pos h]
    congr 1
    simp [h]
  · rw [if_neg h]
    congr 1
    simp
    omega
theorem impl_line (s : ByteArray) (n : Int) (hs : s.size ≤ 4294967280) : ∃ r : ByteArray, impl_LineOf.f s n = some r ∧ r.data.toList = res (cut s.data.toList) (n - 1) := by
  simp only [impl_LineOf.f, impl_eq s hs, Option.bind_some, in_eq]
  have hlen := cut_length s.data.toList
  by_cases h : 1 ≤ n ∧ n ≤ lines s
  · rw [if_pos (decide_eq_true h)]
    have hle : lines s ≤ (s.data.toList.count 10 : Int) + 1 := by
      unfold lines
      split
      · split <;> omega
      · omega
    have hc := count_le s
    have e : wrap64 (n - 1) = n - 1 := wrap_id (by omega) (by omega)
    have h1 : 1 ≤ (⟨#[10]⟩ : ByteArray).size := Nat.le_refl _
    obtain ⟨P, hP⟩ : ∃ P, P = Lib.splitB ⟨#[10]⟩ 0 (Lib.countB s ⟨#[10]⟩) s := ⟨_, rfl⟩
    have hmap : P.map (·.data.toList) = cut s.data.toList := by
      rw [hP, Lib.splitB_data]
      exact split_cut _
    have hPl : P.length = s.data.toList.count 10 + 1 := by rw [← hlen, ← hmap, List.length_map]
    have hsplit : strings_Split.f s ⟨#[10]⟩ = some P := by
      unfold strings_Split.f
      rw [if_pos hs, if_pos h1, hP]
    rw [hsplit]
    simp only [Option.bind_some, e]
    rw [if_pos (by omega), if_pos (by omega)]
    refine ⟨_, rfl, ?_⟩
    obtain ⟨j, hj⟩ : ∃ j : Nat, n - 1 = j := ⟨(n - 1).toNat, by omega⟩
    have hjl : j < P.length := by omega
    rw [hj]
    unfold rdOf res
    rw [if_pos (by omega), Int.toNat_natCast, List.getD_eq_getElem?_getD, List.getElem?_eq_getElem hjl, ← hmap, List.getElem?_map, List.getElem?_eq_getElem hjl]
    rfl
  · rw [if_neg (by simpa using h)]
    refine ⟨_, rfl, ?_⟩
    show [] = _
    unfold res
    by_cases h0 : 0 ≤ n - 1
    · rw [if_pos h0]
      have hn : lines s < n := by omega
      by_cases hend : s.data.toList = [] ∨ s.data.toList.getLast? = some 10
      · have hl : lines s = s.data.toList.count 10 := by
          unfold lines
          by_cases hz : 0 < s.size
          · rw [dif_pos hz]
            rcases hend with hend | hend
            · rw [size_len, hend] at hz
              simp at hz
            · rw [if_pos (by rw [List.getLast?_eq_getElem?, ← size_len, List.getElem?_eq_getElem (by rw [← size_len]; omega)] at hend; exact Option.some.inj hend), Int.add_zero]
          · rw [dif_neg hz, Int.add_zero]
        by_cases hq : n - 1 = (s.data.toList.count 10 : Int)
        · rw [hq, Int.toNat_natCast, cut_last _ hend]
          rfl
        · rw [List.getElem?_eq_none (by omega)]
          rfl
      · have hl : lines s = s.data.toList.count 10 + 1 := by
          unfold lines
          have hz : 0 < s.size := by
            by_cases hz : 0 < s.size
            · exact hz
            · exact absurd (.inl (List.length_eq_zero_iff.1 (by rw [← size_len]; omega))) hend
          rw [dif_pos hz, if_neg (fun h10 => hend (.inr (by rw [List.getLast?_eq_getElem?, ← size_len, List.getElem?_eq_getElem (by rw [← size_len]; omega), h10])))]
        rw [List.getElem?_eq_none (by omega)]
        rfl
    · rw [if_neg h0]
/-- LineOf of both is one. -/
theorem line_both (s : ByteArray) (n : Int) (hs : s.size ≤ 4294967280) : ∃ r1 r2 : ByteArray, Ev (fun k => spec_LineOf.f k s n) r1 ∧ impl_LineOf.f s n = some r2 ∧ r2.toList = r1.toList := by
  obtain ⟨r1, h1, e1⟩ := spec_loop s n (by omega) s.size 0 0 1 (by omega) (by omega) (by omega)
  obtain ⟨r2, h2, e2⟩ := impl_line s n (by omega)
  refine ⟨r1, r2, h1, h2, ?_⟩
  have hg : glue (mid s 0 0) (cut (s.data.toList.drop 0)) = cut s.data.toList := by
    rw [List.drop_zero]
    exact glue_nil _ (cut_ne _)
  rw [ByteArray.toList_eq, ByteArray.toList_eq, e1, e2, hg]
  rfl

/-! #### where a token stands -/
/-- The pieces ahead of a place's line, and its line begun. -/
theorem pieces (s : ByteArray) : ∀ i : Nat, i ≤ s.size → ∃ pre : List (List UInt8), cut s.data.toList = pre ++ glue (mid s (nlb s i).2.toNat i) (cut (s.data.toList.drop i)) ∧ (pre.length : Int) = (nlb s i).1 - 1
  | 0, _ => by
    refine ⟨[], ?_, rfl⟩
    have h0 : mid s (nlb s 0).2.toNat 0 = [] := rfl
    rw [h0, List.drop_zero, glue_nil _ (cut_ne _)]
    rfl
  | i + 1, h => by
    obtain ⟨pre, h1, h2⟩ := pieces s i (by omega)
    have hb : i < s.size := by omega
    have hlt : i < s.data.toList.length := by rw [← size_len]; exact hb
    have hd : s.data.toList.drop i = s.data.toList[i] :: s.data.toList.drop (i + 1) := List.drop_eq_getElem_cons hlt
    have hnx : nlb s (i + 1) = if bt s (i : Int) = 10 then ((nlb s i).1 + 1, (i : Int) + 1) else nlb s i := rfl
    have hbd := nlb_bound s i
    obtain ⟨h0, t0, hc⟩ := cut_ne (s.data.toList.drop (i + 1))
    by_cases h10 : s.data.toList[i] = 10
    · have hbt : bt s (i : Int) = 10 := by rw [bt_get s i hb]; exact (ten _).2 h10
      rw [if_pos hbt] at hnx
      refine ⟨pre ++ [mid s (nlb s i).2.toNat i], ?_, ?_⟩
      · rw [hnx]
        have hm0 : mid s ((i : Int) + 1).toNat (i + 1) = [] := by unfold mid; exact List.drop_eq_nil_of_le (by simp; omega)
        show cut s.data.toList = pre ++ [mid s (nlb s i).2.toNat i] ++ glue (mid s ((i : Int) + 1).toNat (i + 1)) (cut (s.data.toList.drop (i + 1)))
        rw [hm0, glue_nil _ ⟨h0, t0, hc⟩, h1, hd, h10, cut_ten]
        simp [glue]
      · rw [hnx, List.length_append, List.length_singleton]
        show ((pre.length + 1 : Nat) : Int) = (nlb s i).1 + 1 - 1
        omega
    · have hbt : ¬ bt s (i : Int) = 10 := by rw [bt_get s i hb]; exact fun h => h10 ((ten _).1 h)
      rw [if_neg hbt] at hnx
      refine ⟨pre, ?_, by rw [hnx]; exact h2⟩
      rw [hnx, h1, hd, cut_other h10 hc, hc]
      have hmid : mid s (nlb s i).2.toNat (i + 1) = mid s (nlb s i).2.toNat i ++ [s.data.toList[i]] := by
        unfold mid
        rw [List.take_succ_eq_append_getElem hlt, List.drop_append_of_le_length (by simp; omega)]
      rw [hmid]
      simp [glue]

/-- A name that is a token of a text stands on its line, at its column. -/
theorem spot_at (s name : ByteArray) (hs : s.size ≤ 4294967280) (t : S30) (h : TokAt s t) (h6 : t.f0 ≠ 6) (hk : t.f1.toList = name.toList) : ∃ line : ByteArray, impl_LineOf.f s t.f2 = some line ∧ 1 ≤ t.f3 ∧ t.f3 ≤ 1501 ∧ name.size ≤ 1500 ∧
    t.f3 - 1 + (name.size : Int) ≤ (line.size : Int) ∧ (line.extract (t.f3 - 1).toNat (t.f3 - 1 + (name.size : Int)).toNat).toList = name.toList := by
  obtain ⟨a, n, hn, han, hw, hnl, h2, h3⟩ := h.at_ h6
  obtain ⟨line, hl, he⟩ := impl_line s t.f2 hs
  have hsz : t.f1.size = n := by rw [hw, ex_size s a (a + n) (by omega) han]; omega
  have hns : name.size = n := by
    rw [← hsz, size_len, size_len, ← ByteArray.toList_eq, ← ByteArray.toList_eq, hk]
  have hsame := nlb_same s a n hnl
  obtain ⟨pre, hp, hpl⟩ := pieces s (a + n) han
  rw [hsame] at hp hpl
  have hbd := nlb_bound s a
  obtain ⟨q0, qt, hq⟩ := cut_ne (s.data.toList.drop (a + n))
  rw [hq] at hp
  obtain ⟨f, hf⟩ : ∃ f : Nat, (nlb s a).2 = f := ⟨(nlb s a).2.toNat, by omega⟩
  rw [hf, Int.toNat_natCast] at hp
  have hline : line.data.toList = mid s f (a + n) ++ q0 := by
    rw [he, h2, hp]
    unfold res
    rw [if_pos (by omega), List.getElem?_append_right (by omega)]
    have : ((nlb s a).1 - 1).toNat - pre.length = 0 := by omega
    rw [this]
    rfl
  have hml : (mid s f (a + n)).length = a + n - f := by
    unfold mid
    rw [List.length_drop, List.length_take, ← size_len]
    omega
  have hcol : t.f3 - 1 = ((a - f : Nat) : Int) := by rw [h3, hf]; omega
  have hls : line.size = a + n - f + q0.length := by rw [size_len, hline, List.length_append, hml]
  have hto : t.f3 - 1 + (name.size : Int) = ((a - f + n : Nat) : Int) := by rw [hcol, hns]; omega
  refine ⟨line, hl, h.c.1, h.c.2, by rw [hns, ← hsz]; exact h.w, by rw [hto, hls]; omega, ?_⟩
  rw [hto, hcol, Int.toNat_natCast, Int.toNat_natCast, ← hk, ByteArray.toList_eq, ByteArray.toList_eq, hw, ex_list line (a - f) (a - f + n) (by omega) (by omega), ex_list s a (a + n) (by omega) han, hline]
  have e1 : (mid s f (a + n) ++ q0).drop (a - f) = (mid s f (a + n)).drop (a - f) ++ q0 := by rw [List.drop_append_of_le_length (by omega)]
  have e2 : (mid s f (a + n)).drop (a - f) = (s.data.toList.take (a + n)).drop a := by
    unfold mid
    rw [List.drop_drop, show f + (a - f) = a by omega]
  rw [e1, e2, show a - f + n - (a - f) = n by omega, show a + n - a = n by omega, List.take_append_of_le_length (by rw [List.length_drop, List.length_take, ← size_len]; omega), List.drop_take, show a + n - a = n by omega, List.take_take, Nat.min_self]
end Go.Proofs.YtlbcaadflcjpeaaGreatDoor.Pure
namespace Go.Proofs.YtlbcaadflcjpeaaGreatDoor.Pure
open Go Go.RowKit Go.Proofs.YtlbcaadflcjpeaaGreatDoor.PSpo Go.Proofs.YtlbcaadflcjpeaaGreatDoor.MyCount Go.Proofs.YtlbcaadflcjpeaaGreatDoorW.PrintWords Go.Proofs.YtlbcaadflcjpeaaGreatDoorW.PrintLast
set_option linter.unusedVariables false
set_option linter.unusedSimpArgs false

def turn1 (old new : ByteArray) (t : S30) : S30 := if t.f0 = 1 ∧ t.f1.toList = old.toList then ⟨t.f0, new, t.f2, t.f3⟩ else t

/-- What is turned up to a place. -/
def part (old new : ByteArray) (l : List S30) (i : Nat) : List S30 := (l.take i).map (turn1 old new) ++ l.drop i

theorem part_len (old new : ByteArray) (l : List S30) (i : Nat) : (part old new l i).length = l.length := by
  unfold part
  simp [List.length_append, List.length_map, List.length_take, List.length_drop]
  omega

theorem part_at (old new : ByteArray) (l : List S30) (i : Nat) (h : i < l.length) : rd_T30 (part old new l i) (i : Int) = l[i] := by
  rw [rd30 _ i (by rw [part_len]; exact h)]
  unfold part
  have hm : (((l.take i).map (turn1 old new)).length) = i := by simp [Nat.min_eq_left (Nat.le_of_lt h)]
  rw [List.getElem_append_right (by omega)]
  simp [Nat.min_eq_left (Nat.le_of_lt h)]

theorem part_succ (old new : ByteArray) (l : List S30) (i : Nat) (h : i < l.length) : part old new l (i + 1) = (part old new l i).set i (turn1 old new l[i]) := by
  unfold part
  have hm : (((l.take i).map (turn1 old new)).length) = i := by simp [Nat.min_eq_left (Nat.le_of_lt h)]
  rw [List.take_succ_eq_append_getElem h, List.map_append, List.set_append_right _ _ (by omega), hm, Nat.sub_self, List.drop_eq_getElem_cons h, List.set_cons_zero, List.append_assoc]
  rfl

theorem part_same (old new : ByteArray) (l : List S30) (i : Nat) (h : i < l.length) (ht : turn1 old new l[i] = l[i]) : part old new l (i + 1) = part old new l i := by
  rw [part_succ old new l i h, ht]
  have := part_at old new l i h
  rw [rd30 _ i (by rw [part_len]; exact h)] at this
  rw [← this, List.set_getElem_self]

theorem part_all (old new : ByteArray) (l : List S30) : part old new l l.length = l.map (turn1 old new) := by
  unfold part
  simp

theorem part_zero (old new : ByteArray) (l : List S30) : part old new l 0 = l := by
  unfold part
  simp

/-! #### the texts -/
/-- The texts that are laid. -/
def words (l : List S30) : List ByteArray := (l.filter fun t => decide (t.f0 ≠ 6)).map (·.f1)
def joined (l : List S30) : List UInt8 := Lib.join ((words l).map (·.data.toList)) [32]

theorem words_snoc (l : List S30) (i : Nat) (h : i < l.length) : words (l.take (i + 1)) = words (l.take i) ++ (if l[i].f0 = 6 then [] else [l[i].f1]) := by
  unfold words
  rw [List.take_succ_eq_append_getElem h, List.filter_append, List.map_append]
  congr 1
  by_cases c : l[i].f0 = 6 <;> simp [c]

theorem words_len (l : List S30) : (words l).length ≤ l.length := by
  unfold words
  rw [List.length_map]
  exact List.length_filter_le _ _

theorem join_snoc (x : List (List UInt8)) (y : List UInt8) (sep : List UInt8) : Lib.join (x ++ [y]) sep = (if x = [] then y else Lib.join x sep ++ sep ++ y) := by
  cases x with
  | nil => simp [Lib.join_one]
  | cons a r =>
    rw [if_neg (by simp), List.cons_append, Lib.join_cons, Lib.join_cons]
    simp [Lib.joinTail]

theorem join_empty {x : List (List UInt8)} {sep : List UInt8} (h : ∀ y ∈ x, y ≠ []) : Lib.join x sep = [] ↔ x = [] := by
  cases x with
  | nil => simp [Lib.join_nil]
  | cons a r =>
    rw [Lib.join_cons]
    simp [h a List.mem_cons_self]

/-- Bounded, and none empty but at the end. -/
def Fit (l : List S30) : Prop := l.length ≤ 6000 ∧ ∀ t ∈ l, t.f1.size ≤ 1500 ∧ (t.f0 ≠ 6 → 1 ≤ t.f1.size)

theorem words_fit {l : List S30} (h : Fit l) : ∀ y ∈ (words l).map (·.data.toList), y ≠ [] ∧ y.length ≤ 1500 := by
  intro y hy
  obtain ⟨b, hb, rfl⟩ := List.mem_map.1 hy
  obtain ⟨t, ht, rfl⟩ := List.mem_map.1 hb
  rw [List.mem_filter] at ht
  obtain ⟨h1, h2⟩ := h.2 t ht.1
  have h6 : t.f0 ≠ 6 := by simpa using ht.2
  have h2 := h2 h6
  rw [size_len] at h1 h2
  exact ⟨fun e => by rw [e] at h2; simp at h2, h1⟩

theorem lens_le : ∀ x : List (List UInt8), (∀ y ∈ x, y.length ≤ 1500) → Lib.lens x ≤ 1500 * x.length
  | [], _ => by simp [Lib.lens]
  | a :: r, h => by
    have := lens_le r fun y hy => h y (List.mem_cons_of_mem _ hy)
    have h1 := h a List.mem_cons_self
    have : Lib.lens (a :: r) = a.length + Lib.lens r := by simp [Lib.lens]
    rw [List.length_cons]
    omega

theorem join_le (x : List (List UInt8)) (h : ∀ y ∈ x, y.length ≤ 1500) : (Lib.join x [32]).length ≤ 1501 * x.length := by
  cases x with
  | nil => simp [Lib.join_nil]
  | cons a r =>
    rw [Lib.join_cons, List.length_append, Lib.joinTail_length]
    have h1 := h a List.mem_cons_self
    have h2 := lens_le r fun y hy => h y (List.mem_cons_of_mem _ hy)
    have e : ([32] : List UInt8).length = 1 := rfl
    rw [e, List.length_cons]
    omega

theorem fit_take {l : List S30} (h : Fit l) (i : Nat) : Fit (l.take i) := ⟨by rw [List.length_take]; have := h.1; omega, fun t ht => h.2 t (List.mem_of_mem_take ht)⟩

theorem joined_le {l : List S30} (h : Fit l) : (joined l).length ≤ 10000000 := by
  have h1 := join_le ((words l).map (·.data.toList)) fun y hy => (words_fit h y hy).2
  have h2 := words_len l
  have h3 := h.1
  unfold joined
  rw [List.length_map] at h1
  omega

theorem joined_snoc {l : List S30} (hf : Fit l) (i : Nat) (h : i < l.length) : joined (l.take (i + 1)) = if l[i].f0 = 6 then joined (l.take i) else (if joined (l.take i) = [] then l[i].f1.data.toList else joined (l.take i) ++ [32] ++ l[i].f1.data.toList) := by
  unfold joined
  rw [words_snoc l i h]
  by_cases c : l[i].f0 = 6
  · simp [c]
  · rw [if_neg c, if_neg c, List.map_append, List.map_singleton, join_snoc]
    have he := join_empty (sep := [32]) (fun y hy => (words_fit (fit_take hf i) y hy).1)
    by_cases c2 : (words (l.take i)).map (·.data.toList) = []
    · rw [if_pos c2, if_pos (he.2 c2)]
    · rw [if_neg c2, if_neg (fun e => c2 (he.1 e))]

theorem itext (l : List S30) (hf : Fit l) : ∀ (d i : Nat), i + d = l.length → Ev (fun k => impl_TokText.l0 k (words (l.take i)) l (l.length : Int) (i : Int)) ⟨(joined l).toArray⟩ := by
  have h6 := hf.1
  intro d
  induction d with
  | zero =>
    intro i hi
    obtain rfl : i = l.length := by omega
    refine Ev.succ ?_
    simp only [impl_TokText.l0, List.take_length]
    refine Ev.neg (by omega) (Ev.bind (a := ⟨(joined l).toArray⟩) (Ev.all ?_) (Ev.const _))
    unfold strings_Join.f
    have hl := words_len l
    have hj := joined_le hf
    rw [if_pos (by omega)]
    have e : (⟨#[32]⟩ : ByteArray).data.toList = [32] := rfl
    rw [e, if_pos (by unfold joined at hj; omega)]
    rfl
  | succ d ih =>
    intro i hi
    have hil : i < l.length := by omega
    have hw := words_len (l.take i)
    rw [List.length_take] at hw
    refine Ev.succ ?_
    simp only [impl_TokText.l0, rd30 l i hil, wrap_succ (by omega : i < 9223372036854775807)]
    have h' := ih (i + 1) (by omega)
    rw [words_snoc l i hil] at h'
    refine Ev.pos (by omega) (Ev.pos (by omega) (Ev.pos (by omega) ?_))
    by_cases c : l[i].f0 = 6
    · simp only [if_pos c, List.append_nil] at h' ⊢
      exact h'
    · simp only [if_neg c] at h' ⊢
      exact Ev.pos (by omega) h'

theorem stext (l : List S30) (hf : Fit l) : ∀ (d i : Nat) (s : ByteArray), i + d = l.length → s.data.toList = joined (l.take i) → ∃ r : ByteArray, Ev (fun k => spec_TokText.l0 k l s (i : Int)) r ∧ r.data.toList = joined l := by
  have h6 := hf.1
  intro d
  induction d with
  | zero =>
    intro i s hi hs
    obtain rfl : i = l.length := by omega
    refine ⟨s, Ev.succ ?_, by rw [hs, List.take_length]⟩
    simp only [spec_TokText.l0]
    exact Ev.neg (by omega) (Ev.const _)
  | succ d ih =>
    intro i s hi hs
    have hil : i < l.length := by omega
    have hsn := joined_snoc hf i hil
    have hjl := joined_le (fit_take hf i)
    have hss : s.size ≤ 10000000 := by rw [size_len, hs]; exact hjl
    have htl := (hf.2 l[i] (List.getElem_mem _)).1
    by_cases c : l[i].f0 = 6
    · rw [if_pos c] at hsn
      obtain ⟨r, hr, he⟩ := ih (i + 1) s (by omega) (by rw [hs, hsn])
      refine ⟨r, Ev.succ ?_, he⟩
      simp only [spec_TokText.l0, rd30 l i hil, wrap_succ (by omega : i < 9223372036854775807)]
      exact Ev.pos (by omega) (Ev.pos (by omega) (Ev.pos c hr))
    · rw [if_neg c] at hsn
      by_cases c2 : joined (l.take i) = []
      · rw [if_pos c2] at hsn
        have hd : (s ++ l[i].f1).data.toList = l[i].f1.data.toList := by simp [ByteArray.data_append, hs, c2]
        obtain ⟨r, hr, he⟩ := ih (i + 1) (s ++ l[i].f1) (by omega) (by rw [hd, hsn])
        refine ⟨r, Ev.succ ?_, he⟩
        simp only [spec_TokText.l0, rd30 l i hil, wrap_succ (by omega : i < 9223372036854775807)]
        exact Ev.pos (by omega) (Ev.pos (by omega) (Ev.neg c (Ev.pos (by rw [ByteArray.toList_eq, hs, c2]) (Ev.pos (by omega) hr))))
      · rw [if_neg c2] at hsn
        have hd : ((s ++ (⟨#[32]⟩ : ByteArray)) ++ l[i].f1).data.toList = joined (l.take i) ++ [32] ++ l[i].f1.data.toList := by simp [ByteArray.data_append, hs]
        obtain ⟨r, hr, he⟩ := ih (i + 1) ((s ++ (⟨#[32]⟩ : ByteArray)) ++ l[i].f1) (by omega) (by rw [hd, hsn])
        refine ⟨r, Ev.succ ?_, he⟩
        have hsz : (s ++ (⟨#[32]⟩ : ByteArray)).size = s.size + 1 := by rw [ByteArray.size_append]; rfl
        simp only [spec_TokText.l0, rd30 l i hil, wrap_succ (by omega : i < 9223372036854775807)]
        exact Ev.pos (by omega) (Ev.pos (by omega) (Ev.neg c (Ev.neg (by rw [ByteArray.toList_eq, hs]; exact c2) (Ev.pos (by omega) (Ev.pos (by omega) hr)))))

theorem iturn (old new : ByteArray) (l : List S30) (hf : Fit (l.map (turn1 old new))) : ∀ (d i : Nat), i + d = l.length → Ev (fun k => impl_Turned.l0 k old new (part old new l i) (l.length : Int) (i : Int)) ⟨(joined (l.map (turn1 old new))).toArray⟩ := by
  have h6 := hf.1
  rw [List.length_map] at h6
  intro d
  induction d with
  | zero =>
    intro i hi
    obtain rfl : i = l.length := by omega
    refine Ev.succ ?_
    simp only [impl_Turned.l0, part_all]
    refine Ev.neg (by omega) (Ev.bind ?_ (Ev.const _))
    simp only [impl_TokText.f]
    have := itext _ hf (l.map (turn1 old new)).length 0 (by omega)
    simpa [words] using this
  | succ d ih =>
    intro i hi
    have hil : i < l.length := by omega
    have hpl := part_len old new l i
    have h' := ih (i + 1) (by omega)
    refine Ev.succ ?_
    simp only [impl_Turned.l0, part_at old new l i hil, wrap_succ (by omega : i < 9223372036854775807), Int.toNat_natCast]
    refine Ev.pos (by omega) (Ev.pos (by omega) (Ev.pos (by omega) ?_))
    by_cases c1 : l[i].f0 = 1
    · refine Ev.pos c1 ?_
      by_cases c2 : l[i].f1.toList = old.toList
      · refine Ev.pos c2 ?_
        have ht : turn1 old new l[i] = ⟨l[i].f0, new, l[i].f2, l[i].f3⟩ := if_pos ⟨c1, c2⟩
        rw [part_succ old new l i hil, ht] at h'
        exact h'
      · refine Ev.neg c2 ?_
        rw [part_same old new l i hil (if_neg fun h => c2 h.2)] at h'
        exact h'
    · refine Ev.neg c1 ?_
      rw [part_same old new l i hil (if_neg fun h => c1 h.1)] at h'
      exact h'

theorem sturn (old new : ByteArray) (l : List S30) (hf : Fit (l.map (turn1 old new))) : ∃ r : ByteArray, r.data.toList = joined (l.map (turn1 old new)) ∧ ∀ (d i : Nat), i + d = l.length → Ev (fun k => spec_Turned.l0 k old new (part old new l i) (i : Int)) r := by
  have h6 := hf.1
  rw [List.length_map] at h6
  obtain ⟨r, hr, he⟩ := stext _ hf (l.map (turn1 old new)).length 0 ⟨#[]⟩ (by omega) rfl
  refine ⟨r, he, fun d => ?_⟩
  induction d with
  | zero =>
    intro i hi
    obtain rfl : i = l.length := by omega
    refine Ev.succ ?_
    simp only [spec_Turned.l0, part_all, List.length_map]
    refine Ev.neg (by omega) (Ev.bind ?_ (Ev.const _))
    simp only [spec_TokText.f]
    exact hr
  | succ d ih =>
    intro i hi
    have hil : i < l.length := by omega
    have hpl := part_len old new l i
    have h' := ih (i + 1) (by omega)
    refine Ev.succ ?_
    simp only [spec_Turned.l0, part_at old new l i hil, wrap_succ (by omega : i < 9223372036854775807), Int.toNat_natCast, hpl, is_eq]
    refine Ev.pos (by omega) (Ev.pos (by omega) (Ev.bind (Ev.const _) ?_))
    by_cases c : keep old l[i] = true
    · refine Ev.pos c ?_
      unfold keep at c
      simp only [Bool.and_eq_true, decide_eq_true_eq, beq_iff_eq] at c
      have ht : turn1 old new l[i] = ⟨l[i].f0, new, l[i].f2, l[i].f3⟩ := if_pos c
      rw [part_succ old new l i hil, ht] at h'
      exact h'
    · refine Ev.neg c ?_
      rw [part_same old new l i hil (if_neg fun h => c (by unfold keep; simp [h.1, h.2]))] at h'
      exact h'

/-- Turned of both is one. -/
theorem turned_both (l : List S30) (old new : ByteArray) (hf : Fit l) (hn : 1 ≤ new.size) (hn8 : new.size ≤ 8) : ∃ r1 r2 : ByteArray, Ev (fun k => spec_Turned.f k l old new) r1 ∧ Ev (fun k => impl_Turned.f k l old new) r2 ∧ r2.toList = r1.toList := by
  have hf' : Fit (l.map (turn1 old new)) := ⟨by rw [List.length_map]; exact hf.1, fun t ht => by
    obtain ⟨u, hu, rfl⟩ := List.mem_map.1 ht
    unfold turn1
    split
    · exact ⟨by simp only; omega, fun _ => hn⟩
    · exact hf.2 u hu⟩
  obtain ⟨r, he, hr⟩ := sturn old new l hf'
  have hi := iturn old new l hf' l.length 0 (by omega)
  have hs := hr l.length 0 (by omega)
  rw [part_zero] at hi hs
  have h6 := hf.1
  refine ⟨r, ⟨(joined (l.map (turn1 old new))).toArray⟩, ?_, ?_, ?_⟩
  · simp only [spec_Turned.f, Option.bind_some, List.nil_append]
    exact Ev.pos (by simp; omega) hs
  · simp only [impl_Turned.f]
    refine Ev.bind (a := l) (Ev.all ?_) hi
    unfold slices_Clone.f
    rw [if_pos (by omega)]
  · rw [ByteArray.toList_eq, ByteArray.toList_eq, he]
end Go.Proofs.YtlbcaadflcjpeaaGreatDoor.Pure

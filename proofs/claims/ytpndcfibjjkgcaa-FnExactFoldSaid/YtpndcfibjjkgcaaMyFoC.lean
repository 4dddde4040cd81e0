/- The walks of the given copying functions, as far as folding asks what they come to. No condition. -/
import Derived.Test.YtpndcfibjjkgcaaMyFoU
namespace Go.Proofs.Ytpndcfibjjkgcaa.MyItc
open Go Go.RowKit Go.Proofs.YtpndcfibjjkgcaaW.PrintWords Go.Proofs.YtpndcfibjjkgcaaW.PrintLast Go.Proofs.YtpndcfibjjkgcaaW.PrintMore Go.Proofs.Ytpndcfibjjkgcaa.PIfg
attribute [local go_sem] max2_int min2_int max_two min_two max_three min_three max_four min_four
set_option linter.unusedVariables false
set_option linter.unusedSimpArgs false
def CD_T5 : Bool × List (List Nat × List Nat) := (true, [([], []), ([], []), ([], []), ([1, 2], [1, 2]), ([3], [3]), ([4], [4]), ([], []), ([], []), ([], []), ([7, 8], [7, 8]), ([9], [9]), ([10], [10]), ([6, 11], [6, 11]), ([], []), ([], []), ([13, 14], [13, 14]), ([15], [15]), ([16], [16]), ([17, 12], [17]), ([], []), ([], []), ([19, 20], [19, 20]), ([21], [21]), ([22], [22]), ([23, 18], [23]), ([5, 12, 18, 24], [5, 12, 18, 24]), ([25], [25]), ([0, 26, 24], [0, 26]), ([27, 27, 0, 1, 2, 3, 4, 5, 6, 7, 8, 9, 10, 11, 12, 13, 14, 15, 16, 17, 18, 19, 20, 21, 22, 23, 24, 25, 26, 27], [0, 27])])
def CD_B5 : List Nat := [0, 0, 0, 6, 14, 30, 0, 0, 0, 384, 896, 1920, 4032, 0, 0, 24576, 57344, 122880, 262080, 0, 0, 1572864, 3670016, 7864320, 16777152, 33554430, 67108862, 134217727, 268435455]
theorem CD_tab5 : rtab .any (opsOf Try.f56 5) = CD_T5 := by kernel_rfl
theorem CD_bits5 : waitsOk CD_T5.2 CD_B5 = true := by kernel_rfl
def CE_T5 : Bool × List (List Nat × List Nat) := (true, [([], []), ([0], [0]), ([], []), ([2], [2]), ([], []), ([3, 4], [3, 4]), ([5], [5]), ([6], [6]), ([], []), ([], []), ([9], [9]), ([], []), ([10, 11], [10, 11]), ([12], [12]), ([13], [13]), ([8, 14], [8, 14]), ([], []), ([16], [16]), ([], []), ([17, 18], [17, 18]), ([19], [19]), ([20], [20]), ([21, 15], [21]), ([7, 15, 22], [7, 15, 22]), ([23], [23]), ([1, 24, 22], [1, 24]), ([0, 1, 2, 3, 4, 5, 6, 7, 8, 9, 10, 11, 12, 13, 14, 15, 16, 17, 18, 19, 20, 21, 22, 23, 24, 25], []), ([26, 25, 25, 0, 1, 2, 3, 4, 5, 6, 7, 8, 9, 10, 11, 12, 13, 14, 15, 16, 17, 18, 19, 20, 21, 22, 23, 24, 25], [25, 26])])
def CE_B5 : List Nat := [0, 1, 0, 4, 0, 28, 60, 124, 0, 0, 512, 0, 3584, 7680, 15872, 32512, 0, 65536, 0, 458752, 983040, 2031616, 4194048, 8388604, 16777212, 33554431, 67108863, 134217727]
theorem CE_tab5 : rtab .any (opsOf Try.f35 9) = CE_T5 := by kernel_rfl
theorem CE_bits5 : waitsOk CE_T5.2 CE_B5 = true := by kernel_rfl
set_option maxHeartbeats 8000000 in
set_option maxRecDepth 100000 in
theorem stepCpD (n : Nat) (ih_E : ∀ m_, m_ < n → CpyE m_) (ih_D : ∀ m_, m_ < n → CpyD m_) : CpyD n := by
 intro A0 c0 l0 w hr0 hc0 hq
 have hu68 := Try.underlying68
 have hu33 := Try.underlying33
 have HR0 := Aside0.mk hr0
 have HQ := Aside0.mk hq
 clear hr0 hc0 hq
 have HB := Aside0.mk (Below.refl w.heap.size w)
 go_enter Try.func56, Try.ntmps56
 go_wp2_with (first | ((with_reducible refine gate_dst (N := 5) rfl ?_); refine Kd.R_lit (Kd.opq 9) _ 68 ?hg (N := 5) ?hd (xs := ([] : List Unit)) (inner := []) (ok := fun _ => True) (okp := fun _ => True) ?hr ?hp (fun _ hk => hk) trivial (Below.refl _ _) (Nat.le_refl _) (by simp) ?_; (case hd => rfl); (case hg => rfl); (case hr => first | (go_simp; done) | (go_simp; rfl)); (case hp => exact (Reps.none _ _)); intro v263 w2 ho3 hb hg_ hnew_; clear hg_ hnew_; (try simp only [Int.reduceToNat] at ho3); have n0_ := Aside0.mk (Kd.R_lower ho3 (below_size HB.out)); have n1_ := Aside0.mk (below_step HB.out hb); clear HB; have HO_5 := n0_; have HB := n1_; clear n0_ n1_; clear hb ho3))
 go_loopg [3, 4] (l0.length + 1) (fun kq v3 v6 w' => ∃ (x5_1 : List Unit) (x6_1 : Int) (j5 : Nat), v6 = .int .i64 x6_1 ∧ Aside0 (l0.length - j5 < kq) ∧ Aside0 (kq ≤ l0.length + 1) ∧ Aside0 (Kd.R (Kd.opq 9) 68 w' w.heap.size (fun _ => True) v3 x5_1) ∧ Aside0 (Below w.heap.size w w') ∧ Aside0 (x6_1 = (j5 : Int) ∧ x5_1.length = j5 ∧ j5 ≤ l0.length))
 case atStart => exact ⟨[], 0, 0, (by first | rfl | (simp; done) | (simp [*]; done)), ⟨by omega⟩, ⟨Nat.le_refl _⟩, ⟨HO_5.out⟩, ⟨HB.out⟩, ⟨rfl, rfl, Nat.zero_le _⟩⟩
 case round =>
  clear HB HO_5
  try clear p2
  obtain ⟨x5_1, x6_1, j5, rfl, HA, HK1, HO_5, HB, HJ⟩ := hrel
  cases gk with
  | zero => exact absurd HA.out (Nat.not_lt_zero _)
  | succ k1 =>
   by_cases c3 : x6_1 < (l0.length : Int)
   ·have c3b0 : decide (x6_1 < (l0.length : Int)) = true := decide_eq_true c3
    ·have hj_ : x6_1 = (j5 : Int) := HJ.out.1
     have p_ : 0 ≤ x6_1 := by omega
     have q_ : x6_1 < (l0.length : Int) := c3
     have c4b0 : decide (0 ≤ x6_1) = true := decide_eq_true p_
     have hm_ : (rd_T68 l0 x6_1) ∈ l0 := rd68_mem l0 x6_1 j5 hj_ (by omega)
     obtain ⟨n1, rfl⟩ : ∃ q, n = q + 1 := by
      cases n with
      | zero => exact absurd (HQ.out.2 _ hm_) (by simp [SqD])
      | succ q => exact ⟨q, rfl⟩
     have hsq := HQ.out.2 _ hm_
     rw [SqD] at hsq
     have HSQ := Aside0.mk hsq
     clear c3 hj_ hm_ hsq
     obtain ⟨ad, A_1, c_1, A_5, c_5, A_6, c_6, A_7, c_7, A_8, c_8, e_, hx0, hx1, hx2, hx3, hx4, hx5, hx6, hx7, hx8, hl1, hi1, hl5, hi5, hl6, hi6, hl7, hi7, hl8, hi8⟩ := at_T68 HR0.out x6_1 p_ q_
     cases e_
     have GC := Aside0.mk (And.intro hx0 (And.intro hx1 (And.intro hx2 (And.intro hx3 (And.intro hx4 (And.intro hx5 (And.intro hx6 (And.intro hx7 hx8))))))))
     clear hx0 hx1 hx2 hx3 hx4 hx5 hx6 hx7 hx8
     have HI1 := Aside0.mk hi1
     have HL1 := Aside0.mk hl1
     have HI5 := Aside0.mk hi5
     have HL5 := Aside0.mk hl5
     have HI6 := Aside0.mk hi6
     have HL6 := Aside0.mk hl6
     have HI7 := Aside0.mk hi7
     have HL7 := Aside0.mk hl7
     have HI8 := Aside0.mk hi8
     have HL8 := Aside0.mk hl8
     clear hl1 hi1 hl5 hi5 hl6 hi6 hl7 hi7 hl8 hi8
     replace p_ := eq_true p_
     replace q_ := eq_true q_
     try go_wp2
     have n0_ := Aside0.mk (Kd.R_drew HO_5.out)
     have n1_ := Aside0.mk (below_drew1 HB.out)
     clear HO_5 HB
     have HO_5 := n0_
     have HB := n1_
     clear n0_ n1_
     refine start_ (n := 29) (S := fun w' => Below w.heap.size w w') (ds := []) #[false, false, false, false, false, false, false, false, false, false, false, false, false, false, false, false, false, false, false, false, false, false, false, false, false, false, false, false, false] (by kernel_rfl) rfl rfl HB.out (fun hHeld => ?_); refine with_tabW CD_tab5 CD_bits5 (fun HT_ HW_ => ?_)
     generalize wr.drew = w10 at HO_5 HB hHeld ⊢
     refine pure_ (i := 0) (N := some 12) (v := ?_) (a' := ?_) #[true, false, false, false, false, false, false, false, false, false, false, false, false, false, false, false, false, false, false, false, false, false, false, false, false, false, false, false, false] rfl rfl (any_of HT_.out (by kernel_rfl)) (fun _ _ _ h => h) (Or.inl ⟨by rfl, ?_⟩) ?_ ?_
     rotate_left
     ·intro w'
      go_simp
      with_reducible rfl
     rotate_left
     ·simp only [Act.put, List.setIfInBounds_toArray, List.set_cons_zero, List.set_cons_succ, i64_w, i32_w]
      rfl
     refine pure_ (i := 1) (N := some 13) (v := ?_) (a' := ?_) #[true, true, false, false, false, false, false, false, false, false, false, false, false, false, false, false, false, false, false, false, false, false, false, false, false, false, false, false, false] rfl rfl (any_of HT_.out (by kernel_rfl)) (fun _ _ _ h => h) (Or.inl ⟨by rfl, ?_⟩) ?_ ?_
     rotate_left
     ·intro w'
      go_simp
      with_reducible rfl
     rotate_left
     ·simp only [Act.put, List.setIfInBounds_toArray, List.set_cons_zero, List.set_cons_succ, i64_w, i32_w]
      rfl
     refine pure_ (i := 2) (N := some 14) (v := ?_) (a' := ?_) #[true, true, true, false, false, false, false, false, false, false, false, false, false, false, false, false, false, false, false, false, false, false, false, false, false, false, false, false, false] rfl rfl (any_of HT_.out (by kernel_rfl)) (fun _ _ _ h => h) (Or.inl ⟨by rfl, ?_⟩) ?_ ?_
     rotate_left
     ·intro w'
      go_simp
      with_reducible rfl
     rotate_left
     ·simp only [Act.put, List.setIfInBounds_toArray, List.set_cons_zero, List.set_cons_succ, i64_w, i32_w]
      rfl
     refine pure_ (i := 3) (N := some 15) (v := ?_) (a' := ?_) #[true, true, true, true, false, false, false, false, false, false, false, false, false, false, false, false, false, false, false, false, false, false, false, false, false, false, false, false, false] rfl rfl (any_of HT_.out (by kernel_rfl)) (fun _ _ _ h => h) (Or.inl ⟨by rfl, ?_⟩) ?_ ?_
     rotate_left
     ·intro w'
      go_simp
      with_reducible rfl
     rotate_left
     ·simp only [Act.put, List.setIfInBounds_toArray, List.set_cons_zero, List.set_cons_succ, i64_w, i32_w]
      rfl
     refine pure_ (i := 4) (N := some 16) (v := ?_) (a' := ?_) #[true, true, true, true, true, false, false, false, false, false, false, false, false, false, false, false, false, false, false, false, false, false, false, false, false, false, false, false, false] rfl rfl (any_of HT_.out (by kernel_rfl)) (fun _ _ _ h => h) (Or.inl ⟨by rfl, ?_⟩) ?_ ?_
     rotate_left
     ·intro w'
      go_simp
      with_reducible rfl
     rotate_left
     ·simp only [Act.put, List.setIfInBounds_toArray, List.set_cons_zero, List.set_cons_succ, i64_w, i32_w]
      rfl
     refine pure_ (i := 7) (N := some 19) (v := ?_) (a' := ?_) #[true, true, true, true, true, false, false, true, false, false, false, false, false, false, false, false, false, false, false, false, false, false, false, false, false, false, false, false, false] rfl rfl (any_of HT_.out (by kernel_rfl)) (fun _ _ _ h => h) (Or.inl ⟨by rfl, ?_⟩) ?_ ?_
     rotate_left
     ·intro w'
      go_simp
      with_reducible rfl
     rotate_left
     ·simp only [Act.put, List.setIfInBounds_toArray, List.set_cons_zero, List.set_cons_succ, i64_w, i32_w]
      rfl
     refine pure_ (i := 8) (N := some 20) (v := ?_) (a' := ?_) #[true, true, true, true, true, false, false, true, true, false, false, false, false, false, false, false, false, false, false, false, false, false, false, false, false, false, false, false, false] rfl rfl (any_of HT_.out (by kernel_rfl)) (fun _ _ _ h => h) (Or.inl ⟨by rfl, ?_⟩) ?_ ?_
     rotate_left
     ·intro w'
      go_simp
      with_reducible rfl
     rotate_left
     ·simp only [Act.put, List.setIfInBounds_toArray, List.set_cons_zero, List.set_cons_succ, i64_w, i32_w]
      rfl
     refine pure_ (i := 9) (N := some 21) (v := ?_) (a' := ?_) #[true, true, true, true, true, false, false, true, true, true, false, false, false, false, false, false, false, false, false, false, false, false, false, false, false, false, false, false, false] rfl rfl (any_of HT_.out (by kernel_rfl)) (fun _ _ _ h => h) (Or.inl ⟨by rfl, ?_⟩) ?_ ?_
     rotate_left
     ·intro w'
      go_simp
      with_reducible rfl
     rotate_left
     ·simp only [Act.put, List.setIfInBounds_toArray, List.set_cons_zero, List.set_cons_succ, i64_w, i32_w]
      rfl
     refine pure_ (i := 10) (N := some 22) (v := ?_) (a' := ?_) #[true, true, true, true, true, false, false, true, true, true, true, false, false, false, false, false, false, false, false, false, false, false, false, false, false, false, false, false, false] rfl rfl (any_of HT_.out (by kernel_rfl)) (fun _ _ _ h => h) (Or.inl ⟨by rfl, ?_⟩) ?_ ?_
     rotate_left
     ·intro w'
      go_simp
      with_reducible rfl
     rotate_left
     ·simp only [Act.put, List.setIfInBounds_toArray, List.set_cons_zero, List.set_cons_succ, i64_w, i32_w]
      rfl
     refine pure_ (i := 13) (N := some 25) (v := ?_) (a' := ?_) #[true, true, true, true, true, false, false, true, true, true, true, false, false, true, false, false, false, false, false, false, false, false, false, false, false, false, false, false, false] rfl rfl (any_of HT_.out (by kernel_rfl)) (fun _ _ _ h => h) (Or.inl ⟨by rfl, ?_⟩) ?_ ?_
     rotate_left
     ·intro w'
      go_simp
      with_reducible rfl
     rotate_left
     ·simp only [Act.put, List.setIfInBounds_toArray, List.set_cons_zero, List.set_cons_succ, i64_w, i32_w]
      rfl
     refine pure_ (i := 14) (N := some 26) (v := ?_) (a' := ?_) #[true, true, true, true, true, false, false, true, true, true, true, false, false, true, true, false, false, false, false, false, false, false, false, false, false, false, false, false, false] rfl rfl (any_of HT_.out (by kernel_rfl)) (fun _ _ _ h => h) (Or.inl ⟨by rfl, ?_⟩) ?_ ?_
     rotate_left
     ·intro w'
      go_simp
      with_reducible rfl
     rotate_left
     ·simp only [Act.put, List.setIfInBounds_toArray, List.set_cons_zero, List.set_cons_succ, i64_w, i32_w]
      rfl
     refine pure_ (i := 15) (N := some 27) (v := ?_) (a' := ?_) #[true, true, true, true, true, false, false, true, true, true, true, false, false, true, true, true, false, false, false, false, false, false, false, false, false, false, false, false, false] rfl rfl (any_of HT_.out (by kernel_rfl)) (fun _ _ _ h => h) (Or.inl ⟨by rfl, ?_⟩) ?_ ?_
     rotate_left
     ·intro w'
      go_simp
      with_reducible rfl
     rotate_left
     ·simp only [Act.put, List.setIfInBounds_toArray, List.set_cons_zero, List.set_cons_succ, i64_w, i32_w]
      rfl
     refine pure_ (i := 16) (N := some 28) (v := ?_) (a' := ?_) #[true, true, true, true, true, false, false, true, true, true, true, false, false, true, true, true, true, false, false, false, false, false, false, false, false, false, false, false, false] rfl rfl (any_of HT_.out (by kernel_rfl)) (fun _ _ _ h => h) (Or.inl ⟨by rfl, ?_⟩) ?_ ?_
     rotate_left
     ·intro w'
      go_simp
      with_reducible rfl
     rotate_left
     ·simp only [Act.put, List.setIfInBounds_toArray, List.set_cons_zero, List.set_cons_succ, i64_w, i32_w]
      rfl
     refine pure_ (i := 19) (N := some 31) (v := ?_) (a' := ?_) #[true, true, true, true, true, false, false, true, true, true, true, false, false, true, true, true, true, false, false, true, false, false, false, false, false, false, false, false, false] rfl rfl (any_of HT_.out (by kernel_rfl)) (fun _ _ _ h => h) (Or.inl ⟨by rfl, ?_⟩) ?_ ?_
     rotate_left
     ·intro w'
      go_simp
      with_reducible rfl
     rotate_left
     ·simp only [Act.put, List.setIfInBounds_toArray, List.set_cons_zero, List.set_cons_succ, i64_w, i32_w]
      rfl
     refine pure_ (i := 20) (N := some 32) (v := ?_) (a' := ?_) #[true, true, true, true, true, false, false, true, true, true, true, false, false, true, true, true, true, false, false, true, true, false, false, false, false, false, false, false, false] rfl rfl (any_of HT_.out (by kernel_rfl)) (fun _ _ _ h => h) (Or.inl ⟨by rfl, ?_⟩) ?_ ?_
     rotate_left
     ·intro w'
      go_simp
      with_reducible rfl
     rotate_left
     ·simp only [Act.put, List.setIfInBounds_toArray, List.set_cons_zero, List.set_cons_succ, i64_w, i32_w]
      rfl
     refine pure_ (i := 21) (N := some 33) (v := ?_) (a' := ?_) #[true, true, true, true, true, false, false, true, true, true, true, false, false, true, true, true, true, false, false, true, true, true, false, false, false, false, false, false, false] rfl rfl (any_of HT_.out (by kernel_rfl)) (fun _ _ _ h => h) (Or.inl ⟨by rfl, ?_⟩) ?_ ?_
     rotate_left
     ·intro w'
      go_simp
      with_reducible rfl
     rotate_left
     ·simp only [Act.put, List.setIfInBounds_toArray, List.set_cons_zero, List.set_cons_succ, i64_w, i32_w]
      rfl
     refine pure_ (i := 22) (N := some 34) (v := ?_) (a' := ?_) #[true, true, true, true, true, false, false, true, true, true, true, false, false, true, true, true, true, false, false, true, true, true, true, false, false, false, false, false, false] rfl rfl (any_of HT_.out (by kernel_rfl)) (fun _ _ _ h => h) (Or.inl ⟨by rfl, ?_⟩) ?_ ?_
     rotate_left
     ·intro w'
      go_simp
      with_reducible rfl
     rotate_left
     ·simp only [Act.put, List.setIfInBounds_toArray, List.set_cons_zero, List.set_cons_succ, i64_w, i32_w]
      rfl
     refine take_ (i := 5) (N := some 17) (v := ?_) (a' := ?_) #[true, true, true, true, true, true, false, true, true, true, true, false, false, true, true, true, true, false, false, true, true, true, true, false, false, false, false, false, false] rfl rfl (take_ofW HT_.out HW_.out (by kernel_rfl)) (fun _ _ _ h => h) (Or.inl ⟨by rfl, ?_⟩) hHeld ?_ ?_
     rotate_left
     ·rintro w' hb_
      obtain ⟨h0_, h1_, h2_, h3_, h4_, h5_, h6_, h7_, h8_⟩ := nine_later hb_ GC.out
      go_simp
      with_reducible rfl
     rotate_left
     ·simp only [Act.put, List.setIfInBounds_toArray, List.set_cons_zero, List.set_cons_succ, i64_w, i32_w]
      rfl
     refine take_ (i := 11) (N := some 23) (v := ?_) (a' := ?_) #[true, true, true, true, true, true, false, true, true, true, true, true, false, true, true, true, true, false, false, true, true, true, true, false, false, false, false, false, false] rfl rfl (take_ofW HT_.out HW_.out (by kernel_rfl)) (fun _ _ _ h => h) (Or.inl ⟨by rfl, ?_⟩) hHeld ?_ ?_
     rotate_left
     ·rintro w' hb_
      obtain ⟨h0_, h1_, h2_, h3_, h4_, h5_, h6_, h7_, h8_⟩ := nine_later hb_ GC.out
      go_simp
      with_reducible rfl
     rotate_left
     ·simp only [Act.put, List.setIfInBounds_toArray, List.set_cons_zero, List.set_cons_succ, i64_w, i32_w]
      rfl
     refine take_ (i := 17) (N := some 29) (v := ?_) (a' := ?_) #[true, true, true, true, true, true, false, true, true, true, true, true, false, true, true, true, true, true, false, true, true, true, true, false, false, false, false, false, false] rfl rfl (take_ofW HT_.out HW_.out (by kernel_rfl)) (fun _ _ _ h => h) (Or.inl ⟨by rfl, ?_⟩) hHeld ?_ ?_
     rotate_left
     ·rintro w' hb_
      obtain ⟨h0_, h1_, h2_, h3_, h4_, h5_, h6_, h7_, h8_⟩ := nine_later hb_ GC.out
      go_simp
      with_reducible rfl
     rotate_left
     ·simp only [Act.put, List.setIfInBounds_toArray, List.set_cons_zero, List.set_cons_succ, i64_w, i32_w]
      rfl
     refine take_ (i := 23) (N := some 35) (v := ?_) (a' := ?_) #[true, true, true, true, true, true, false, true, true, true, true, true, false, true, true, true, true, true, false, true, true, true, true, true, false, false, false, false, false] rfl rfl (take_ofW HT_.out HW_.out (by kernel_rfl)) (fun _ _ _ h => h) (Or.inl ⟨by rfl, ?_⟩) hHeld ?_ ?_
     rotate_left
     ·rintro w' hb_
      obtain ⟨h0_, h1_, h2_, h3_, h4_, h5_, h6_, h7_, h8_⟩ := nine_later hb_ GC.out
      go_simp
      with_reducible rfl
     rotate_left
     ·simp only [Act.put, List.setIfInBounds_toArray, List.set_cons_zero, List.set_cons_succ, i64_w, i32_w]
      rfl
     refine one_ (i := 6) (N := some 18) #[true, true, true, true, true, true, true, true, true, true, true, true, false, true, true, true, true, true, false, true, true, true, true, true, false, false, false, false, false] rfl rfl (one_of HT_.out (by kernel_rfl)) (by decide) (fun K hK => ?_)
     refine Kd.R_lit_step Kd.string _ 9 ?hg (N := 18) ?hd (xs := ([] : List ByteArray)) (inner := []) (ok := fun _ => True) (okp := fun _ => True) ?hr ?hp (fun _ hk => hk) trivial (Below.refl _ _) (Nat.le_refl _) (by simp) ?_; (case hd => rfl); (case hg => rfl); (case hr => first | (go_simp; done) | (go_simp; rfl)); (case hp => exact (Reps.none _ _))
     intro v20 w11 ho hb hg_ hnew_
     clear hg_ hnew_
     (try simp only [Int.reduceToNat] at ho)
     have HT0 := Aside0.mk ho
     have H10 := Aside0.mk hb
     clear ho hb
     refine hK.out _ _ ((below_step HB.out H10.out)) (fun hHeld => ?_)
     clear hK K
     refine norm_ (a' := ?_) ?_ ?_
     rotate_left
     ·show Act.put _ (some 18) _ = _
      simp only [Act.put, List.setIfInBounds_toArray, List.set_cons_zero, List.set_cons_succ, i64_w, i32_w]
      rfl
     refine one_ (i := 12) (N := some 24) #[true, true, true, true, true, true, true, true, true, true, true, true, true, true, true, true, true, true, false, true, true, true, true, true, false, false, false, false, false] rfl rfl (one_of HT_.out (by kernel_rfl)) (by decide) (fun K hK => ?_)
     refine Kd.R_append_rows_step Kd.string (w0 := w10) w10.heap.size (by rfl) (.tmp 18) (.tmp 23) 51 9 (.string ⟨#[]⟩) 16 rfl Try.underlying51 info9 rfl (by decide) (by omega) v20 [] ((rd_T68 l0 x6_1).f1) _ _ _ (fun _ => True) (fun _ => False) rfl rfl ?aO ?aR (fun _ _ h => h) (fun _ h => h.elim) ?aF ?aB ?aS ?aL ?_
     (case aR => exact Kd.C_below HI1.out (below_step HB.out H10.out))
     (case aB => exact H10.out)
     (case aF => exact (fun _ _ => trivial))
     (case aO => exact HT0.out)
     (case aS => exact (below_size H10.out))
     (case aL => have := HSQ.out.1; simp only [List.length_nil]; omega)
     intro v26 w13 ho hb hg hat
     rw [List.nil_append] at ho
     obtain ⟨Ao, co, rfl⟩ := Kd.R_slice ho
     have n0_ := Aside0.mk (Kd.R_below HO_5.out hb)
     have n1_ := Aside0.mk (below_step HB.out hb)
     clear HO_5 HB HT0 H10 ho hb hg hat
     have HO_5 := n0_
     have HB := n1_
     clear n0_ n1_
     refine hK.out _ _ (HB.out) (fun hHeld => ?_)
     clear hK K
     refine norm_ (a' := ?_) ?_ ?_
     rotate_left
     ·show Act.put _ (some 24) _ = _
      simp only [Act.put, List.setIfInBounds_toArray, List.set_cons_zero, List.set_cons_succ, i64_w, i32_w]
      rfl
     refine one_ (i := 18) (N := some 30) #[true, true, true, true, true, true, true, true, true, true, true, true, true, true, true, true, true, true, true, true, true, true, true, true, false, false, false, false, false] rfl rfl (one_of HT_.out (by kernel_rfl)) (by decide) (fun K hK => ?_)
     refine goes_ Try.func35 (by kernel_rfl) rfl #[.agg #[.int .i64 (rd_T68 l0 x6_1).f2.f0, .string (rd_T68 l0 x6_1).f2.f1, .int .i64 (rd_T68 l0 x6_1).f2.f2, .slice A_5 (rd_T68 l0 x6_1).f2.f3.length c_5, .slice A_6 (rd_T68 l0 x6_1).f2.f4.length c_6, .slice A_7 (rd_T68 l0 x6_1).f2.f5.length c_7]] (by rfl) rfl rfl (by (try simp only [List.map_toArray, List.map_cons, List.map_nil, List.append_toArray, List.cons_append, List.nil_append]); first | done | rfl) ?_
     with_reducible refine (ih_E n1 (Nat.lt_succ_self n1) ((rd_T68 l0 x6_1).f2) _ _ _ _ _ _ _ ⟨⟨Kd.C_below HI5.out HB.out, HL5.out⟩, ⟨Kd.C_below HI6.out HB.out, HL6.out⟩, ⟨Kd.C_below HI7.out HB.out, HL7.out⟩⟩ HSQ.out.2.1).mono ?_
     rintro e w15 ⟨E3, d3, E4, m4, d4, E5, d5, rfl, _, _, hb⟩
     refine ⟨_, rfl, ?_⟩
     have n0_ := Aside0.mk (Kd.R_below HO_5.out hb)
     have n3_ := Aside0.mk (below_step HB.out hb)
     clear HO_5 HB hb
     have HO_5 := n0_
     have HB := n3_
     clear n0_ n3_
     refine hK.out _ _ (HB.out) (fun hHeld => ?_)
     clear hK K
     refine norm_ (a' := ?_) ?_ ?_
     rotate_left
     ·show Act.put _ (some 30) _ = _
      simp only [Act.put, List.setIfInBounds_toArray, List.set_cons_zero, List.set_cons_succ, i64_w, i32_w]
      rfl
     refine one_ (i := 24) (N := some 36) #[true, true, true, true, true, true, true, true, true, true, true, true, true, true, true, true, true, true, true, true, true, true, true, true, true, false, false, false, false] rfl rfl (one_of HT_.out (by kernel_rfl)) (by decide) (fun K hK => ?_)
     refine goes_ Try.func56 (by kernel_rfl) rfl #[.slice A_8 (rd_T68 l0 x6_1).f3.length c_8] (by rfl) rfl rfl (by (try simp only [List.map_toArray, List.map_cons, List.map_nil, List.append_toArray, List.cons_append, List.nil_append]); first | done | rfl) ?_
     with_reducible refine (ih_D n1 (Nat.lt_succ_self n1) _ _ ((rd_T68 l0 x6_1).f3) _ (Kd.C_below HI8.out HB.out) HL8.out HSQ.out.2.2).mono ?_
     rintro e w16 ⟨E8, m8, d8, rfl, hb⟩
     refine ⟨_, rfl, ?_⟩
     have n0_ := Aside0.mk (Kd.R_below HO_5.out hb)
     have n3_ := Aside0.mk (below_step HB.out hb)
     clear HO_5 HB hb
     have HO_5 := n0_
     have HB := n3_
     clear n0_ n3_
     refine hK.out _ _ (HB.out) (fun hHeld => ?_)
     clear hK K
     refine norm_ (a' := ?_) ?_ ?_
     rotate_left
     ·show Act.put _ (some 36) _ = _
      simp only [Act.put, List.setIfInBounds_toArray, List.set_cons_zero, List.set_cons_succ, i64_w, i32_w]
      rfl
     refine pure_ (i := 25) (N := some 37) (v := ?_) (a' := ?_) #[true, true, true, true, true, true, true, true, true, true, true, true, true, true, true, true, true, true, true, true, true, true, true, true, true, true, false, false, false] rfl rfl (any_of HT_.out (by kernel_rfl)) (fun _ _ _ h => h) (Or.inl ⟨by rfl, ?_⟩) ?_ ?_
     rotate_left
     ·intro w'
      go_simp
      with_reducible rfl
     rotate_left
     ·simp only [Act.put, List.setIfInBounds_toArray, List.set_cons_zero, List.set_cons_succ, i64_w, i32_w]
      rfl
     refine one_ (i := 26) (N := some 38) #[true, true, true, true, true, true, true, true, true, true, true, true, true, true, true, true, true, true, true, true, true, true, true, true, true, true, true, false, false] rfl rfl (one_of HT_.out (by kernel_rfl)) (by decide) (fun K hK => ?_)
     refine value_ (w1 := ?_) (v := ?_) (by rfl) rfl ?_ ?_
     rotate_left 2
     ·go_simp
      constructor
      ·rfl
      ·rfl
     refine hK.out _ _ (below_alloc HB.out _) (fun hHeld => ?_)
     clear hK K
     refine norm_ (a' := ?_) ?_ ?_
     rotate_left
     ·show Act.put _ (some 38) _ = _
      simp only [Act.put, List.setIfInBounds_toArray, List.set_cons_zero, List.set_cons_succ, i64_w, i32_w]
      rfl
     refine one_ (i := 27) (N := some 39) #[true, true, true, true, true, true, true, true, true, true, true, true, true, true, true, true, true, true, true, true, true, true, true, true, true, true, true, true, false] rfl rfl (one_of HT_.out (by kernel_rfl)) (by decide) (fun K hK => ?_)
     refine Kd.R_append_step (Kd.opq 9) (w0 := w) w.heap.size (by rfl) (.tmp 12) (.tmp 38) 30 68 (.agg #[(.string ⟨#[]⟩), (.slice none 0 0), (.int .i64 0), (.string ⟨#[]⟩), (.int .i64 0), (.slice none 0 0), (.slice none 0 0), (.slice none 0 0), (.slice none 0 0)]) 168 rfl Try.underlying30 info68 rfl (by decide) (by omega) u3 x5_1 () [.string (rd_T68 l0 x6_1).f0, .slice Ao (rd_T68 l0 x6_1).f1.length co, .int .i64 (rd_T68 l0 x6_1).f2.f0, .string (rd_T68 l0 x6_1).f2.f1, .int .i64 (rd_T68 l0 x6_1).f2.f2, .slice E3 (rd_T68 l0 x6_1).f2.f3.length d3, .slice E4 m4 d4, .slice E5 (rd_T68 l0 x6_1).f2.f5.length d5, .slice E8 m8 d8] (fun _ => True) (fun k_ => True ∧ some k_ ≠ (u3 : Value).ownBlock) rfl rfl ?aP (fun _ hk => hk) ?aF ?aO ?aB ?aS ?aL ?_
     (case aP => exact ⟨rfl, ones9⟩)
     (case aB => exact HB.out)
     (case aF => exact (fun _ _ => trivial))
     (case aO => exact HO_5.out)
     (case aS => exact (below_size HB.out))
     (case aL => have := HQ.out.1; have := HJ.out.2.1; have := HJ.out.2.2; omega)
     intro v43 w22 ho hb hg hat
     have n1_ := Aside0.mk hb
     have n2_ := Aside0.mk ho
     clear HB HO_5 ho hb hg hat
     have HB := n1_
     have HO43 := n2_
     clear n1_ n2_
     refine hK.out _ _ (HB.out) (fun hHeld => ?_)
     clear hK K
     refine norm_ (a' := ?_) ?_ ?_
     rotate_left
     ·show Act.put _ (some 39) _ = _
      simp only [Act.put, List.setIfInBounds_toArray, List.set_cons_zero, List.set_cons_succ, i64_w, i32_w]
      rfl
     refine pure_ (i := 28) (N := some 3) (v := ?_) (a' := ?_) #[true, true, true, true, true, true, true, true, true, true, true, true, true, true, true, true, true, true, true, true, true, true, true, true, true, true, true, true, true] rfl rfl (any_of HT_.out (by kernel_rfl)) (fun _ _ _ h => h) (Or.inl ⟨by rfl, ?_⟩) ?_ ?_
     rotate_left
     ·intro w'
      go_simp
      with_reducible rfl
     rotate_left
     ·simp only [Act.put, List.setIfInBounds_toArray, List.set_cons_zero, List.set_cons_succ, i64_w, i32_w]
      rfl
     refine done_ (done_of HT_.out (by kernel_rfl)) ?_
     try go_wp2
     go_roundg k1
     case measure => have := HK1.out; omega
     case rel => exact ⟨x5_1 ++ [()], (wrap64 (x6_1 + 1)), j5 + 1, (by first | rfl | (simp; done) | (simp [*]; done)), ⟨by have := HJ.out; have := HA.out; have := of_eq_true q_; omega⟩, ⟨by have := HK1.out; omega⟩, ⟨HO43.out⟩, ⟨HB.out⟩, ⟨by obtain ⟨hj0, hj1, hj2⟩ := HJ.out; have := of_eq_true q_; have := HQ.out.1; exact ⟨by rw [hj0]; unfold wrap64; omega, by rw [List.length_append, hj1]; rfl, by omega⟩⟩⟩
   ·skip
    have c3b0 : decide (x6_1 < (l0.length : Int)) = false := decide_eq_false c3
    clear c3
    obtain ⟨Ao30, co30, rfl⟩ := Kd.R_slice HO_5.out
    go_wp2
    go_ret
    exact ⟨Ao30, _, co30, rfl, HB.out⟩
set_option maxHeartbeats 8000000 in
set_option maxRecDepth 100000 in
theorem stepCpE (n : Nat) (ih_E : ∀ m_, m_ ≤ n → CpyE m_) (ih_D : CpyD n) : CpyE (n + 1) := by
 intro y A0_3 c0_3 A0_4 c0_4 A0_5 c0_5 w ha hq
 obtain ⟨a0_0, a0_1, a0_2, l0_3, l0_4, l0_5⟩ := y
 rw [SqE] at hq
 dsimp only at ha hq ⊢
 have hu33 := Try.underlying33
 have hu53 := Try.underlying53
 have HA := Aside0.mk ha
 have HQ := Aside0.mk hq
 have HB := Aside0.mk (Below.refl w.heap.size w)
 clear ha hq
 go_enter Try.func35, Try.ntmps35
 try go_wp2_with (first | ((with_reducible refine gate_dst (N := 1) rfl ?_); refine box_event ?hg (N := 1) ?hd (cs := #[.int .i64 a0_0, .string a0_1, .int .i64 a0_2, .slice A0_3 l0_3.length c0_3, .slice A0_4 l0_4.length c0_4, .slice A0_5 l0_5.length c0_5]) (t := 33) ?hr ?_; (case hd => rfl); (case hg => rfl); (case hr => first | (go_simp; done) | (go_simp; rfl)); intro gb1 hg w3 hbox hb; have hx_ := bel_of (w := w) hb (by repeat (first | (with_reducible first | exact HB.out | apply below_alloc | apply pw_below_drewN | apply below_drew1) | exact HB.out)); have nb_ := Aside0.mk (below_step hx_ hb); have ge_ := Aside0.mk (box_ge hx_ hg); clear HB  ; have HB := nb_; have BK1 := Aside0.mk hbox; have GE1 := ge_; clear nb_ ge_ hx_ hb hbox hg  ) | ((with_reducible refine gate_dst (N := 2) rfl ?_); refine box_event ?hg (N := 2) ?hd (cs := #[.int .i64 0, .string (⟨#[]⟩ : ByteArray), .int .i64 0, .slice none 0 0, .slice none 0 0, .slice none 0 0]) (t := 33) ?hr ?_; (case hd => rfl); (case hg => rfl); (case hr => first | (go_simp; done) | (go_simp; rfl)); intro gb2 hg w4 hbox hb; have hx_ := bel_of (w := w) hb (by repeat (first | (with_reducible first | exact HB.out | apply below_alloc | apply pw_below_drewN | apply below_drew1 | refine below_set ?_ GE1.out) | exact HB.out)); have n1_ := Aside0.mk (blk_below (g := gb1) (by (with_reducible repeat (first | refine blk_drewN ?_ _ | refine blk_drew ?_ | refine blk_alloc ?_ _)); exact BK1.out) hb); have m1_ := Aside0.mk (box_lt (g' := gb1) (by (with_reducible repeat (first | refine blk_drewN ?_ _ | refine blk_drew ?_ | refine blk_alloc ?_ _)); exact BK1.out) hg); have k1_ := Aside0.mk (box_gt (g' := gb1) (by (with_reducible repeat (first | refine blk_drewN ?_ _ | refine blk_drew ?_ | refine blk_alloc ?_ _)); exact BK1.out) hg); have nb_ := Aside0.mk (below_step hx_ hb); have ge_ := Aside0.mk (box_ge hx_ hg); clear HB BK1 ; have BK1 := n1_; have NB1_2 := m1_; have NB2_1 := k1_; have HB := nb_; have BK2 := Aside0.mk hbox; have GE2 := ge_; clear nb_ ge_ hx_ hb hbox hg n1_ m1_ k1_ ))
 have n1_ := Aside0.mk (blk_drew BK1.out)
 have n2_ := Aside0.mk (blk_drew BK2.out)
 have nb_ := Aside0.mk (below_drew1 HB.out)
 clear BK1 BK2 HB
 have BK1 := n1_
 have BK2 := n2_
 have HB := nb_
 clear n1_ n2_ nb_
 refine start_ (n := 12) (S := fun w' => Below w.heap.size w w' ∧ w'.heap[gb1]? = some (.cells #[.int .i64 a0_0, .string a0_1, .int .i64 a0_2, .slice A0_3 l0_3.length c0_3, .slice A0_4 l0_4.length c0_4, .slice A0_5 l0_5.length c0_5] 33 (0, 0))) (ds := [11]) #[false, false, false, false, false, false, false, false, false, false, false, false] (by kernel_rfl) rfl rfl ⟨HB.out, BK1.out⟩ (fun hHeld => ?_)
 generalize w4.drew = w5 at BK1 BK2 HB hHeld ⊢
 refine pure_ (i := 0) (N := some 6) (v := ?_) (a' := ?_) #[true, false, false, false, false, false, false, false, false, false, false, false] rfl rfl (by kernel_rfl) (fun _ _ _ h => h) (Or.inl ⟨by rfl, ?_⟩) ?_ ?_
 rotate_left
 ·intro w'
  go_simp
  with_reducible rfl
 rotate_left
 ·simp only [Act.put, List.setIfInBounds_toArray, List.set_cons_zero, List.set_cons_succ, i64_w, i32_w]
  rfl
 refine pure_ (i := 2) (N := some 8) (v := ?_) (a' := ?_) #[true, false, true, false, false, false, false, false, false, false, false, false] rfl rfl (by kernel_rfl) (fun _ _ _ h => h) (Or.inl ⟨by rfl, ?_⟩) ?_ ?_
 rotate_left
 ·intro w'
  go_simp
  with_reducible rfl
 rotate_left
 ·simp only [Act.put, List.setIfInBounds_toArray, List.set_cons_zero, List.set_cons_succ, i64_w, i32_w]
  rfl
 refine pure_ (i := 4) (N := some 10) (v := ?_) (a' := ?_) #[true, false, true, false, true, false, false, false, false, false, false, false] rfl rfl (by kernel_rfl) (fun _ _ _ h => h) (Or.inl ⟨by rfl, ?_⟩) ?_ ?_
 rotate_left
 ·intro w'
  go_simp
  with_reducible rfl
 rotate_left
 ·simp only [Act.put, List.setIfInBounds_toArray, List.set_cons_zero, List.set_cons_succ, i64_w, i32_w]
  rfl
 refine pure_ (i := 6) (N := some 12) (v := ?_) (a' := ?_) #[true, false, true, false, true, false, true, false, false, false, false, false] rfl rfl (by kernel_rfl) (fun _ _ _ h => h) (Or.inl ⟨by rfl, ?_⟩) ?_ ?_
 rotate_left
 ·intro w'
  go_simp
  with_reducible rfl
 rotate_left
 ·simp only [Act.put, List.setIfInBounds_toArray, List.set_cons_zero, List.set_cons_succ, i64_w, i32_w]
  rfl
 refine take_ (i := 1) (N := some 7) (v := ?_) (a' := ?_) #[true, true, true, false, true, false, true, false, false, false, false, false] rfl rfl (by kernel_rfl) (fun _ _ _ h => h) (Or.inl ⟨by rfl, ?_⟩) hHeld ?_ ?_
 rotate_left
 ·rintro w' ⟨hb_, h1_⟩
  have hc := (blk_cell h1_ 0).trans rfl
  go_simp
  with_reducible rfl
 rotate_left
 ·simp only [Act.put, List.setIfInBounds_toArray, List.set_cons_zero, List.set_cons_succ, i64_w, i32_w]
  rfl
 refine take_ (i := 3) (N := some 9) (v := ?_) (a' := ?_) #[true, true, true, true, true, false, true, false, false, false, false, false] rfl rfl (by kernel_rfl) (fun _ _ _ h => h) (Or.inl ⟨by rfl, ?_⟩) hHeld ?_ ?_
 rotate_left
 ·rintro w' ⟨hb_, h1_⟩
  have hc := (blk_cell h1_ 1).trans rfl
  go_simp
  with_reducible rfl
 rotate_left
 ·simp only [Act.put, List.setIfInBounds_toArray, List.set_cons_zero, List.set_cons_succ, i64_w, i32_w]
  rfl
 refine take_ (i := 5) (N := some 11) (v := ?_) (a' := ?_) #[true, true, true, true, true, true, true, false, false, false, false, false] rfl rfl (by kernel_rfl) (fun _ _ _ h => h) (Or.inl ⟨by rfl, ?_⟩) hHeld ?_ ?_
 rotate_left
 ·rintro w' ⟨hb_, h1_⟩
  have hc := (blk_cell h1_ 2).trans rfl
  go_simp
  with_reducible rfl
 rotate_left
 ·simp only [Act.put, List.setIfInBounds_toArray, List.set_cons_zero, List.set_cons_succ, i64_w, i32_w]
  rfl
 refine take_ (i := 7) (N := some 13) (v := ?_) (a' := ?_) #[true, true, true, true, true, true, true, true, false, false, false, false] rfl rfl (by kernel_rfl) (fun _ _ _ h => h) (Or.inl ⟨by rfl, ?_⟩) hHeld ?_ ?_
 rotate_left
 ·rintro w' ⟨hb_, h1_⟩
  have hc := (blk_cell h1_ 4).trans rfl
  go_simp
  with_reducible rfl
 rotate_left
 ·simp only [Act.put, List.setIfInBounds_toArray, List.set_cons_zero, List.set_cons_succ, i64_w, i32_w]
  rfl
 refine two_ (i := 8) (j := 10) (Ni := some 14) (Nj := some 3) #[true, true, true, true, true, true, true, true, true, false, false, false] #[true, true, true, true, true, true, true, true, false, false, true, false] rfl rfl rfl rfl (by kernel_rfl) (by decide) (by decide) (fun K hK => ?hA) (fun K hK => ?hB)
 case' hA =>
  refine goes_ Try.func56 (by kernel_rfl) rfl #[.slice A0_4 l0_4.length c0_4] (by rfl) rfl rfl (by (try simp only [List.map_toArray, List.map_cons, List.map_nil, List.append_toArray, List.cons_append, List.nil_append]); first | done | rfl) ?_
  with_reducible refine (ih_D _ _ l0_4 _ (Kd.C_below HA.out.2.1.1 HB.out) HA.out.2.1.2 HQ.out.2.1).mono ?_
  rintro e w6 ⟨D1, m1, e1, rfl, hb⟩
  refine ⟨_, rfl, ?_⟩
  have n1_ := Aside0.mk (blk_below BK1.out hb)
  have n2_ := Aside0.mk (blk_below BK2.out hb)
  have nb_ := Aside0.mk (below_step HB.out hb)
  clear HB hb BK1 BK2
  have HB := nb_
  have BK1 := n1_
  have BK2 := n2_
  clear nb_ n1_ n2_
  refine hK.out _ _ ⟨HB.out, BK1.out⟩ (fun hHeld => ?_)
  clear hK K
  refine norm_ (a' := ?_) ?_ ?_
  rotate_left
  ·show Act.put _ (some 14) _ = _
   simp only [Act.put, List.setIfInBounds_toArray, List.set_cons_zero, List.set_cons_succ, i64_w, i32_w]
   rfl
  refine pure_ (i := 9) (N := some 15) (v := ?_) (a' := ?_) #[true, true, true, true, true, true, true, true, true, true, false, false] rfl rfl (by kernel_rfl) (fun _ _ _ h => h) (Or.inl ⟨by rfl, ?_⟩) ?_ ?_
  rotate_left
  ·intro w'
   go_simp
   with_reducible rfl
  rotate_left
  ·simp only [Act.put, List.setIfInBounds_toArray, List.set_cons_zero, List.set_cons_succ, i64_w, i32_w]
   rfl
  refine one_ (i := 10) (N := some 3) #[true, true, true, true, true, true, true, true, true, true, true, false] rfl rfl (by kernel_rfl) (by decide) (fun K hK => ?_)
  refine box_step (cs := #[.int .i64 0, .string (⟨#[]⟩ : ByteArray), .int .i64 0, .slice none 0 0, .slice none 0 0, .slice none 0 0]) (t := 33) (by rfl) ?hr ?_
  (case hr => first | (go_simp; done) | (go_simp; rfl))
  intro gb3 w7 hg hbox hb
  have GL := Aside0.mk (show gb1 < gb3 ∧ gb2 < gb3 from ⟨hg ▸ blk_lt BK1.out, hg ▸ blk_lt BK2.out⟩)
  have n1_ := Aside0.mk (blk_below BK1.out hb)
  have n2_ := Aside0.mk (blk_below BK2.out hb)
  have GE3 := Aside0.mk (box_ge HB.out hg)
  have nb_ := Aside0.mk (below_step HB.out hb)
  have BK3 := Aside0.mk hbox
  clear HB BK1 BK2 hb hbox hg
  have HB := nb_
  have BK1 := n1_
  have BK2 := n2_
  clear nb_ n1_ n2_
  refine hK.out _ _ ⟨HB.out, BK1.out⟩ (fun hHeld => ?_)
  clear hK K
  refine norm_ (a' := ?_) ?_ ?_
  rotate_left
  ·show Act.put _ (some 3) _ = _
   simp only [Act.put, List.setIfInBounds_toArray, List.set_cons_zero, List.set_cons_succ, i64_w, i32_w]
   rfl
 case' hB =>
  refine box_step (cs := #[.int .i64 0, .string (⟨#[]⟩ : ByteArray), .int .i64 0, .slice none 0 0, .slice none 0 0, .slice none 0 0]) (t := 33) (by rfl) ?hr ?_
  (case hr => first | (go_simp; done) | (go_simp; rfl))
  intro gb3 w6 hg hbox hb
  have GL := Aside0.mk (show gb1 < gb3 ∧ gb2 < gb3 from ⟨hg ▸ blk_lt BK1.out, hg ▸ blk_lt BK2.out⟩)
  have n1_ := Aside0.mk (blk_below BK1.out hb)
  have n2_ := Aside0.mk (blk_below BK2.out hb)
  have GE3 := Aside0.mk (box_ge HB.out hg)
  have nb_ := Aside0.mk (below_step HB.out hb)
  have BK3 := Aside0.mk hbox
  clear HB BK1 BK2 hb hbox hg
  have HB := nb_
  have BK1 := n1_
  have BK2 := n2_
  clear nb_ n1_ n2_
  refine hK.out _ _ ⟨HB.out, BK1.out⟩ (fun hHeld => ?_)
  clear hK K
  refine norm_ (a' := ?_) ?_ ?_
  rotate_left
  ·show Act.put _ (some 3) _ = _
   simp only [Act.put, List.setIfInBounds_toArray, List.set_cons_zero, List.set_cons_succ, i64_w, i32_w]
   rfl
  refine one_ (i := 8) (N := some 14) #[true, true, true, true, true, true, true, true, true, false, true, false] rfl rfl (by kernel_rfl) (by decide) (fun K hK => ?_)
  refine goes_ Try.func56 (by kernel_rfl) rfl #[.slice A0_4 l0_4.length c0_4] (by rfl) rfl rfl (by (try simp only [List.map_toArray, List.map_cons, List.map_nil, List.append_toArray, List.cons_append, List.nil_append]); first | done | rfl) ?_
  with_reducible refine (ih_D _ _ l0_4 _ (Kd.C_below HA.out.2.1.1 HB.out) HA.out.2.1.2 HQ.out.2.1).mono ?_
  rintro e w7 ⟨D1, m1, e1, rfl, hb⟩
  refine ⟨_, rfl, ?_⟩
  have n1_ := Aside0.mk (blk_below BK1.out hb)
  have n2_ := Aside0.mk (blk_below BK2.out hb)
  have n3_ := Aside0.mk (blk_below BK3.out hb)
  have nb_ := Aside0.mk (below_step HB.out hb)
  clear HB hb BK1 BK2 BK3
  have HB := nb_
  have BK1 := n1_
  have BK2 := n2_
  have BK3 := n3_
  clear nb_ n1_ n2_ n3_
  refine hK.out _ _ ⟨HB.out, BK1.out⟩ (fun hHeld => ?_)
  clear hK K
  refine norm_ (a' := ?_) ?_ ?_
  rotate_left
  ·show Act.put _ (some 14) _ = _
   simp only [Act.put, List.setIfInBounds_toArray, List.set_cons_zero, List.set_cons_succ, i64_w, i32_w]
   rfl
  refine pure_ (i := 9) (N := some 15) (v := ?_) (a' := ?_) #[true, true, true, true, true, true, true, true, true, true, true, false] rfl rfl (by kernel_rfl) (fun _ _ _ h => h) (Or.inl ⟨by rfl, ?_⟩) ?_ ?_
  rotate_left
  ·intro w'
   go_simp
   with_reducible rfl
  rotate_left
  ·simp only [Act.put, List.setIfInBounds_toArray, List.set_cons_zero, List.set_cons_succ, i64_w, i32_w]
   rfl
 all_goals (
  refine last_ (i := 11) (N := none) #[true, true, true, true, true, true, true, true, true, true, true, true] rfl rfl (by kernel_rfl) (by decide) (fun K hK => ?_)
  obtain ⟨hs0, hs1, hs2, hs3, hs4, hs5, hf0, hf1, hf2, hf3, hf4, hf5⟩ := cells6 BK3.out
  refine skip_ (w1 := ?_) (by rfl) rfl ?_ ?_
  rotate_left
  ·go_simp
   rfl
  refine hK.out _ _ ?_
  clear hK K
  refine done_ (by kernel_rfl) ?_
  have n1_ : Aside0 (((((((w7.setCell ⟨gb3, 0, none⟩ (.int .i64 a0_0)).setCell ⟨gb3, 1, none⟩ (.string a0_1)).setCell ⟨gb3, 2, none⟩ (.int .i64 a0_2)).setCell ⟨gb3, 3, none⟩ (.slice none 0 0)).setCell ⟨gb3, 4, none⟩ (.slice D1 m1 e1)).setCell ⟨gb3, 5, none⟩ (.slice none 0 0)).heap[gb1]? = some (.cells #[.int .i64 a0_0, .string a0_1, .int .i64 a0_2, .slice A0_3 l0_3.length c0_3, .slice A0_4 l0_4.length c0_4, .slice A0_5 l0_5.length c0_5] 33 (0, 0))) := ⟨(blk_far (blk_far (blk_far (blk_far (blk_far (blk_far BK1.out (Nat.ne_of_lt GL.out.1) _) (Nat.ne_of_lt GL.out.1) _) (Nat.ne_of_lt GL.out.1) _) (Nat.ne_of_lt GL.out.1) _) (Nat.ne_of_lt GL.out.1) _) (Nat.ne_of_lt GL.out.1) _)⟩
  have n2_ : Aside0 (((((((w7.setCell ⟨gb3, 0, none⟩ (.int .i64 a0_0)).setCell ⟨gb3, 1, none⟩ (.string a0_1)).setCell ⟨gb3, 2, none⟩ (.int .i64 a0_2)).setCell ⟨gb3, 3, none⟩ (.slice none 0 0)).setCell ⟨gb3, 4, none⟩ (.slice D1 m1 e1)).setCell ⟨gb3, 5, none⟩ (.slice none 0 0)).heap[gb2]? = some (.cells #[.int .i64 0, .string (⟨#[]⟩ : ByteArray), .int .i64 0, .slice none 0 0, .slice none 0 0, .slice none 0 0] 33 (0, 0))) := ⟨(blk_far (blk_far (blk_far (blk_far (blk_far (blk_far BK2.out (Nat.ne_of_lt GL.out.2) _) (Nat.ne_of_lt GL.out.2) _) (Nat.ne_of_lt GL.out.2) _) (Nat.ne_of_lt GL.out.2) _) (Nat.ne_of_lt GL.out.2) _) (Nat.ne_of_lt GL.out.2) _)⟩
  have n3_ : Aside0 (((((((w7.setCell ⟨gb3, 0, none⟩ (.int .i64 a0_0)).setCell ⟨gb3, 1, none⟩ (.string a0_1)).setCell ⟨gb3, 2, none⟩ (.int .i64 a0_2)).setCell ⟨gb3, 3, none⟩ (.slice none 0 0)).setCell ⟨gb3, 4, none⟩ (.slice D1 m1 e1)).setCell ⟨gb3, 5, none⟩ (.slice none 0 0)).heap[gb3]? = some (.cells #[.int .i64 a0_0, .string a0_1, .int .i64 a0_2, .slice none 0 0, .slice D1 m1 e1, .slice none 0 0] 33 (0, 0))) := ⟨(put_6_5 (put_6_4 (put_6_3 (put_6_2 (put_6_1 (put_6_0 BK3.out))))))⟩
  have nb_ : Aside0 (Below w.heap.size w ((((((w7.setCell ⟨gb3, 0, none⟩ (.int .i64 a0_0)).setCell ⟨gb3, 1, none⟩ (.string a0_1)).setCell ⟨gb3, 2, none⟩ (.int .i64 a0_2)).setCell ⟨gb3, 3, none⟩ (.slice none 0 0)).setCell ⟨gb3, 4, none⟩ (.slice D1 m1 e1)).setCell ⟨gb3, 5, none⟩ (.slice none 0 0))) := ⟨(by repeat (first | (with_reducible first | exact HB.out | apply below_alloc | apply pw_below_drewN | apply below_drew1 | refine below_set ?_ GE3.out) | exact HB.out))⟩
  clear BK1 BK2 BK3 HB hs0 hs1 hs2 hs3 hs4 hs5 hf0 hf1 hf2 hf3 hf4 hf5 hHeld
  generalize ((((((w7.setCell ⟨gb3, 0, none⟩ (.int .i64 a0_0)).setCell ⟨gb3, 1, none⟩ (.string a0_1)).setCell ⟨gb3, 2, none⟩ (.int .i64 a0_2)).setCell ⟨gb3, 3, none⟩ (.slice none 0 0)).setCell ⟨gb3, 4, none⟩ (.slice D1 m1 e1)).setCell ⟨gb3, 5, none⟩ (.slice none 0 0)) = w8 at n1_ n2_ n3_ nb_ ⊢
  go_wp2
  go_loopg [4] (l0_3.length + 1) (fun kq v4 w' => ∃ (x4 : Int) (j3 : Nat) (U3 : Option Addr) (cu3 : Nat), v4 = .int .i64 x4 ∧ Aside0 (l0_3.length - j3 < kq) ∧ Aside0 (kq ≤ l0_3.length + 1) ∧ Aside0 (w'.heap[gb1]? = some (.cells #[.int .i64 a0_0, .string a0_1, .int .i64 a0_2, .slice A0_3 l0_3.length c0_3, .slice A0_4 l0_4.length c0_4, .slice A0_5 l0_5.length c0_5] 33 (0, 0))) ∧ Aside0 (w'.heap[gb2]? = some (.cells #[.int .i64 0, .string (⟨#[]⟩ : ByteArray), .int .i64 0, .slice none 0 0, .slice none 0 0, .slice none 0 0] 33 (0, 0))) ∧ Aside0 (w'.heap[gb3]? = some (.cells #[.int .i64 a0_0, .string a0_1, .int .i64 a0_2, .slice U3 j3 cu3, .slice D1 m1 e1, .slice none 0 0] 33 (0, 0))) ∧ Aside0 (Below w.heap.size w w') ∧ Aside0 (Kd.R (Kd.opq 6) 33 w' w.heap.size (fun k => gb3 < k) (.slice U3 j3 cu3) (List.replicate j3 ())) ∧ Aside0 (x4 = (j3 : Int) ∧ j3 ≤ l0_3.length))
  case atStart => exact ⟨0, 0, none, 0, (by first | rfl | (simp; done)), ⟨by omega⟩, ⟨Nat.le_refl _⟩, n1_, n2_, n3_, nb_, ⟨Kd.R_nil _ _ _ _ _⟩, ⟨rfl, Nat.zero_le _⟩⟩
  case round =>
   clear n1_ n2_ n3_ nb_
   try clear p2
   obtain ⟨x4, j3, U3, cu3, rfl, HA1, HK1, BK1, BK2, BK3, HB, R3, HJ⟩ := hrel
   cases gk with
   | zero => exact absurd HA1.out (Nat.not_lt_zero _)
   | succ k1 =>
    obtain ⟨hc31_0, hc31_1, hc31_2, hc31_3, hc31_4, hc31_5, hf31_0, hf31_1, hf31_2, hf31_3, hf31_4, hf31_5⟩ := cells6 BK1.out
    by_cases c3 : x4 < (l0_3.length : Int)
    ·have c3b0 : decide (x4 < (l0_3.length : Int)) = true := decide_eq_true c3
     have hj_ : x4 = (j3 : Int) := HJ.out.1
     have p_ : 0 ≤ x4 := by omega
     have q_ : x4 < (l0_3.length : Int) := c3
     have c4b0 : decide (0 ≤ x4) = true := decide_eq_true p_
     have HSQ := Aside0.mk (HQ.out.1.2 _ (rd33_mem l0_3 x4 j3 hj_ (by omega)))
     have LT_ := Aside0.mk (show j3 < l0_3.length from by omega)
     clear c3 hj_
     obtain ⟨ad, A_3, c_3, A_4, c_4, A_5, c_5, e_, hx0, hx1, hx2, hx3, hx4, hx5, hl3, hi3, hl4, hi4, hl5, hi5⟩ := at_T33 HA.out.1.1 x4 p_ q_
     cases e_
     have GC := Aside0.mk (And.intro hx0 (And.intro hx1 (And.intro hx2 (And.intro hx3 (And.intro hx4 hx5)))))
     have GA := Aside0.mk (And.intro (And.intro hi3 hl3) (And.intro (And.intro hi4 hl4) (And.intro hi5 hl5)))
     clear hx0 hx1 hx2 hx3 hx4 hx5 hl3 hi3 hl4 hi4 hl5 hi5
     replace p_ := eq_true p_
     replace q_ := eq_true q_
     try go_wp2
     have dr_ := below_drew (Below.refl wr.heap.size wr)
     have n1_ := Aside0.mk (blk_below BK1.out dr_)
     have n2_ := Aside0.mk (blk_below BK2.out dr_)
     have n3_ := Aside0.mk (blk_below BK3.out dr_)
     have nb_ := Aside0.mk (below_step HB.out dr_)
     have zR3_ := Aside0.mk (Kd.R_below R3.out dr_)
     clear BK1 BK2 BK3 HB R3 dr_ 
     have BK1 := n1_
     have BK2 := n2_
     have BK3 := n3_
     have HB := nb_
     have R3 := zR3_
     clear n1_ n2_ n3_ nb_ zR3_
     refine start_ (n := 12) (S := fun w' => Below w.heap.size w w' ∧ w'.heap[gb1]? = some (.cells #[.int .i64 a0_0, .string a0_1, .int .i64 a0_2, .slice (some ad) l0_3.length c0_3, .slice A0_4 l0_4.length c0_4, .slice A0_5 l0_5.length c0_5] 33 (0, 0)) ∧ w'.heap[gb3]? = some (.cells #[.int .i64 a0_0, .string a0_1, .int .i64 a0_2, .slice U3 j3 cu3, .slice D1 m1 e1, .slice none 0 0] 33 (0, 0))) (ds := [11]) #[false, false, false, false, false, false, false, false, false, false, false, false] (by kernel_rfl) rfl rfl ⟨HB.out, BK1.out, BK3.out⟩ (fun hHeld => ?_)
     generalize wr.drew = w10 at BK1 BK2 BK3 HB R3 hHeld ⊢
     refine pure_ (i := 0) (N := some 23) (v := ?_) (a' := ?_) #[true, false, false, false, false, false, false, false, false, false, false, false] rfl rfl (by kernel_rfl) (fun _ _ _ h => h) (Or.inl ⟨by rfl, ?_⟩) ?_ ?_
     rotate_left
     ·intro w'
      go_simp
      with_reducible rfl
     rotate_left
     ·simp only [Act.put, List.setIfInBounds_toArray, List.set_cons_zero, List.set_cons_succ, i64_w, i32_w]
      rfl
     refine pure_ (i := 2) (N := some 25) (v := ?_) (a' := ?_) #[true, false, true, false, false, false, false, false, false, false, false, false] rfl rfl (by kernel_rfl) (fun _ _ _ h => h) (Or.inl ⟨by rfl, ?_⟩) ?_ ?_
     rotate_left
     ·intro w'
      go_simp
      with_reducible rfl
     rotate_left
     ·simp only [Act.put, List.setIfInBounds_toArray, List.set_cons_zero, List.set_cons_succ, i64_w, i32_w]
      rfl
     refine pure_ (i := 4) (N := some 27) (v := ?_) (a' := ?_) #[true, false, true, false, true, false, false, false, false, false, false, false] rfl rfl (by kernel_rfl) (fun _ _ _ h => h) (Or.inl ⟨by rfl, ?_⟩) ?_ ?_
     rotate_left
     ·intro w'
      go_simp
      with_reducible rfl
     rotate_left
     ·simp only [Act.put, List.setIfInBounds_toArray, List.set_cons_zero, List.set_cons_succ, i64_w, i32_w]
      rfl
     refine take_ (i := 1) (N := some 24) (v := ?_) (a' := ?_) #[true, true, true, false, true, false, false, false, false, false, false, false] rfl rfl (by kernel_rfl) (fun _ _ _ h => h) (Or.inl ⟨by rfl, ?_⟩) hHeld ?_ ?_
     rotate_left
     ·rintro w' ⟨hb_, h1_, h3_⟩
      have hc := (blk_cell h3_ 3).trans rfl
      go_simp
      with_reducible rfl
     rotate_left
     ·simp only [Act.put, List.setIfInBounds_toArray, List.set_cons_zero, List.set_cons_succ, i64_w, i32_w]
      rfl
     refine take_ (i := 3) (N := some 26) (v := ?_) (a' := ?_) #[true, true, true, true, true, false, false, false, false, false, false, false] rfl rfl (by kernel_rfl) (fun _ _ _ h => h) (Or.inl ⟨by rfl, ?_⟩) hHeld ?_ ?_
     rotate_left
     ·rintro w' ⟨hb_, h1_, h3_⟩
      have hc := (blk_cell h1_ 3).trans rfl
      go_simp
      with_reducible rfl
     rotate_left
     ·simp only [Act.put, List.setIfInBounds_toArray, List.set_cons_zero, List.set_cons_succ, i64_w, i32_w]
      rfl
     refine pure_ (i := 5) (N := some 28) (v := ?_) (a' := ?_) #[true, true, true, true, true, true, false, false, false, false, false, false] rfl rfl (by kernel_rfl) (fun _ _ _ h => h) (Or.inl ⟨by rfl, ?_⟩) ?_ ?_
     rotate_left
     ·intro w'
      go_simp
      with_reducible rfl
     rotate_left
     ·simp only [Act.put, List.setIfInBounds_toArray, List.set_cons_zero, List.set_cons_succ, i64_w, i32_w]
      rfl
     refine take_ (i := 6) (N := some 29) (v := ?_) (a' := ?_) #[true, true, true, true, true, true, true, false, false, false, false, false] rfl rfl (by kernel_rfl) (fun _ _ _ h => h) (Or.inl ⟨by rfl, ?_⟩) hHeld ?_ ?_
     rotate_left
     ·rintro w' ⟨hb_, h1_, h3_⟩
      obtain ⟨s0_, s1_, s2_, s3_, s4_, s5_⟩ := six_later hb_ GC.out
      go_simp
      with_reducible rfl
     rotate_left
     ·simp only [Act.put, List.setIfInBounds_toArray, List.set_cons_zero, List.set_cons_succ, i64_w, i32_w]
      rfl
     refine one_ (i := 7) (N := some 30) #[true, true, true, true, true, true, true, true, false, false, false, false] rfl rfl (by kernel_rfl) (by decide) (fun K hK => ?_)
     refine goes_ Try.func35 (by kernel_rfl) rfl #[.agg #[.int .i64 (rd_T33 l0_3 x4).f0, .string (rd_T33 l0_3 x4).f1, .int .i64 (rd_T33 l0_3 x4).f2, .slice A_3 (rd_T33 l0_3 x4).f3.length c_3, .slice A_4 (rd_T33 l0_3 x4).f4.length c_4, .slice A_5 (rd_T33 l0_3 x4).f5.length c_5]] (by rfl) rfl rfl (by (try simp only [List.map_toArray, List.map_cons, List.map_nil, List.append_toArray, List.cons_append, List.nil_append]); first | done | rfl) ?_
     have hx_ := HB.out
     with_reducible refine (ih_E n (Nat.le_refl n) (rd_T33 l0_3 x4) _ _ _ _ _ _ _ ⟨⟨Kd.C_below GA.out.1.1 hx_, GA.out.1.2⟩, ⟨Kd.C_below GA.out.2.1.1 hx_, GA.out.2.1.2⟩, ⟨Kd.C_below GA.out.2.2.1 hx_, GA.out.2.2.2⟩⟩ HSQ.out).mono ?_
     rintro e w14 ⟨F3, f3, F4, m4, f4, F5, f5, rfl, _, _, hb⟩
     refine ⟨_, rfl, ?_⟩
     have n1_ := Aside0.mk (blk_below BK1.out hb)
     have n2_ := Aside0.mk (blk_below BK2.out hb)
     have n3_ := Aside0.mk (blk_below BK3.out hb)
     have nb_ := Aside0.mk (below_step HB.out hb)
     have zR3_ := Aside0.mk (Kd.R_below R3.out hb)
     clear BK1 BK2 BK3 HB R3 hb hx_
     have BK1 := n1_
     have BK2 := n2_
     have BK3 := n3_
     have HB := nb_
     have R3 := zR3_
     clear n1_ n2_ n3_ nb_ zR3_
     refine hK.out _ _ ⟨HB.out, BK1.out, BK3.out⟩ (fun hHeld => ?_)
     clear hK K
     refine norm_ (a' := ?_) ?_ ?_
     rotate_left
     ·show Act.put _ (some 30) _ = _
      simp only [Act.put, List.setIfInBounds_toArray, List.set_cons_zero, List.set_cons_succ, i64_w, i32_w]
      rfl
     refine one_ (i := 8) (N := some 31) #[true, true, true, true, true, true, true, true, true, false, false, false] rfl rfl (by kernel_rfl) (by decide) (fun K hK => ?_)
     refine value_ (w1 := ?_) (v := ?_) (by rfl) rfl ?_ ?_
     rotate_left 2
     ·go_simp
      constructor
      ·rfl
      ·rfl
     refine hK.out _ _ ⟨below_alloc HB.out _, blk_alloc BK1.out _, blk_alloc BK3.out _⟩ (fun hHeld => ?_)
     clear hK K
     refine norm_ (a' := ?_) ?_ ?_
     rotate_left
     ·show Act.put _ (some 31) _ = _
      simp only [Act.put, List.setIfInBounds_toArray, List.set_cons_zero, List.set_cons_succ, i64_w, i32_w]
      rfl
     refine one_ (i := 9) (N := some 32) #[true, true, true, true, true, true, true, true, true, true, false, false] rfl rfl (by kernel_rfl) (by decide) (fun K hK => ?_)
     refine Kd.R_append_step (Kd.opq 6) (w0 := w) w.heap.size (by rfl) (.tmp 24) (.tmp 31) 29 33 (.agg #[(.int .i64 0), (.string ⟨#[]⟩), (.int .i64 0), (.slice none 0 0), (.slice none 0 0), (.slice none 0 0)]) 104 rfl Try.underlying29 info33 rfl (by decide) (by omega) (.slice U3 j3 cu3) (List.replicate j3 ()) () [.int .i64 (rd_T33 l0_3 x4).f0, .string (rd_T33 l0_3 x4).f1, .int .i64 (rd_T33 l0_3 x4).f2, .slice F3 (rd_T33 l0_3 x4).f3.length f3, .slice F4 m4 f4, .slice F5 (rd_T33 l0_3 x4).f5.length f5] (fun k => gb3 < k) (fun k_ => gb3 < k_ ∧ some k_ ≠ (.slice U3 j3 cu3 : Value).ownBlock) rfl rfl ?aP (fun _ hk => hk) ?aF ?aO ?aB ?aS ?aL ?_
     (case aP => exact ⟨rfl, ones6⟩)
     (case aB => exact HB.out)
     (case aF => exact (fun k_ hk => Nat.lt_of_lt_of_le (blk_lt BK3.out) hk))
     (case aO => exact R3.out)
     (case aS => exact (below_size HB.out))
     (case aL => have := HQ.out.1.1; have := LT_.out; simp only [List.length_replicate]; omega)
     intro v32 w22 ho hb hg hat
     rw [repl_succ] at ho
     obtain ⟨V3, cv3, e_⟩ := Kd.R_slice ho
     rw [List.length_replicate] at e_
     subst e_
     have n1_ := Aside0.mk (blk_grown BK1.out hg (Kd.R_away R3.out (fun k hk e => by have := GL.out; omega)))
     have n2_ := Aside0.mk (blk_grown BK2.out hg (Kd.R_away R3.out (fun k hk e => by have := GL.out; omega)))
     have n3_ := Aside0.mk (blk_grown BK3.out hg (Kd.R_away R3.out (fun k hk e => by omega)))
     have nb_ := Aside0.mk hb
     have zR3_ := Aside0.mk ho
     clear BK1 BK2 BK3 HB R3 ho hb hg hat
     have BK1 := n1_
     have BK2 := n2_
     have BK3 := n3_
     have HB := nb_
     have R3 := zR3_
     clear n1_ n2_ n3_ nb_ zR3_
     refine hK.out _ _ ⟨HB.out, BK1.out, BK3.out⟩ (fun hHeld => ?_)
     clear hK K
     refine norm_ (a' := ?_) ?_ ?_
     rotate_left
     ·show Act.put _ (some 32) _ = _
      simp only [Act.put, List.setIfInBounds_toArray, List.set_cons_zero, List.set_cons_succ, i64_w, i32_w]
      rfl
     refine pure_ (i := 10) (N := some 33) (v := ?_) (a' := ?_) #[true, true, true, true, true, true, true, true, true, true, true, false] rfl rfl (by kernel_rfl) (fun _ _ _ h => h) (Or.inl ⟨by rfl, ?_⟩) ?_ ?_
     rotate_left
     ·intro w'
      go_simp
      with_reducible rfl
     rotate_left
     ·simp only [Act.put, List.setIfInBounds_toArray, List.set_cons_zero, List.set_cons_succ, i64_w, i32_w]
      rfl
     refine last_ (i := 11) (N := none) #[true, true, true, true, true, true, true, true, true, true, true, true] rfl rfl (by kernel_rfl) (by decide) (fun K hK => ?_)
     have hs0 := (blk_cell BK3.out 3).trans rfl
     have hf0 := blk_frozen BK3.out 3
     refine skip_ (w1 := ?_) (by rfl) rfl ?_ ?_
     rotate_left
     ·go_simp
      rfl
     refine hK.out _ _ ?_
     clear hK K
     refine done_ (by kernel_rfl) ?_
     have n1_ : Aside0 ((w22.setCell ⟨gb3, 3, none⟩ (.slice V3 (j3 + 1) cv3)).heap[gb1]? = some (.cells #[.int .i64 a0_0, .string a0_1, .int .i64 a0_2, .slice (some ad) l0_3.length c0_3, .slice A0_4 l0_4.length c0_4, .slice A0_5 l0_5.length c0_5] 33 (0, 0))) := ⟨(blk_far BK1.out (Nat.ne_of_lt GL.out.1) _)⟩
     have n2_ : Aside0 ((w22.setCell ⟨gb3, 3, none⟩ (.slice V3 (j3 + 1) cv3)).heap[gb2]? = some (.cells #[.int .i64 0, .string (⟨#[]⟩ : ByteArray), .int .i64 0, .slice none 0 0, .slice none 0 0, .slice none 0 0] 33 (0, 0))) := ⟨(blk_far BK2.out (Nat.ne_of_lt GL.out.2) _)⟩
     have n3_ : Aside0 ((w22.setCell ⟨gb3, 3, none⟩ (.slice V3 (j3 + 1) cv3)).heap[gb3]? = some (.cells #[.int .i64 a0_0, .string a0_1, .int .i64 a0_2, .slice V3 (j3 + 1) cv3, .slice D1 m1 e1, .slice none 0 0] 33 (0, 0))) := ⟨put_6_3 BK3.out⟩
     have nb_ : Aside0 (Below w.heap.size w (w22.setCell ⟨gb3, 3, none⟩ (.slice V3 (j3 + 1) cv3))) := ⟨below_set HB.out GE3.out⟩
     have zR3_ : Aside0 (Kd.R (Kd.opq 6) 33 (w22.setCell ⟨gb3, 3, none⟩ (.slice V3 (j3 + 1) cv3)) w.heap.size (fun k => gb3 < k) (.slice V3 (j3 + 1) cv3) (List.replicate (j3 + 1) ())) := ⟨Kd.R_far R3.out (fun k hk e => by dsimp only at hk e; omega) _⟩
     clear BK1 BK2 BK3 HB R3 hs0 hf0 hHeld
     generalize (w22.setCell ⟨gb3, 3, none⟩ (.slice V3 (j3 + 1) cv3)) = w15 at n1_ n2_ n3_ nb_ zR3_ ⊢
     try go_wp2
     go_roundg k1
     case measure => have := HK1.out; omega
     case rel => exact ⟨(wrap64 (x4 + 1)), j3 + 1, V3, cv3, (by first | rfl | (simp; done) | (simp [*]; done)), ⟨by have := HA1.out; have := LT_.out; omega⟩, ⟨by have := HK1.out; omega⟩, n1_, n2_, n3_, nb_, zR3_, ⟨by rw [HJ.out.1]; have := LT_.out; have := HQ.out.1.1; unfold wrap64; omega, by have := LT_.out; omega⟩⟩
    ·have c3b0 : decide (x4 < (l0_3.length : Int)) = false := decide_eq_false c3
     have hj : j3 = l0_3.length := by have := HJ.out; omega
     subst hj
     clear c3 HJ HA1
     go_wp2
     go_loopg [5] (l0_5.length + 1) (fun kq v5 w' => ∃ (x5 : Int) (j5 : Nat) (U5 : Option Addr) (cu5 : Nat), v5 = .int .i64 x5 ∧ Aside0 (l0_5.length - j5 < kq) ∧ Aside0 (kq ≤ l0_5.length + 1) ∧ Aside0 (w'.heap[gb1]? = some (.cells #[.int .i64 a0_0, .string a0_1, .int .i64 a0_2, .slice A0_3 l0_3.length c0_3, .slice A0_4 l0_4.length c0_4, .slice A0_5 l0_5.length c0_5] 33 (0, 0))) ∧ Aside0 (w'.heap[gb2]? = some (.cells #[.int .i64 0, .string (⟨#[]⟩ : ByteArray), .int .i64 0, .slice none 0 0, .slice none 0 0, .slice none 0 0] 33 (0, 0))) ∧ Aside0 (w'.heap[gb3]? = some (.cells #[.int .i64 a0_0, .string a0_1, .int .i64 a0_2, .slice U3 l0_3.length cu3, .slice D1 m1 e1, .slice U5 j5 cu5] 33 (0, 0))) ∧ Aside0 (Below w.heap.size w w') ∧ Aside0 (Kd.R (Kd.opq 6) 33 w' w.heap.size (fun k => gb3 < k) (.slice U3 l0_3.length cu3) (List.replicate l0_3.length ())) ∧ Aside0 (Kd.R Kd.alt 53 w' w.heap.size (fun k => gb3 < k) (.slice U5 j5 cu5) (l0_5.take j5)) ∧ Aside0 (x5 = (j5 : Int) ∧ j5 ≤ l0_5.length))
     case atStart => exact ⟨0, 0, none, 0, (by first | rfl | (simp; done)), ⟨by omega⟩, ⟨Nat.le_refl _⟩, BK1, BK2, BK3, HB, R3, ⟨by simpa using Kd.R_nil _ _ _ _ _⟩, ⟨rfl, Nat.zero_le _⟩⟩
     case round =>
      clear BK1 BK2 BK3 HB R3 c3b0 HK1
      try clear p2
      obtain ⟨x5, j5, U5, cu5, rfl, HA1, HK1, BK1, BK2, BK3, HB, R3, R5, HJ⟩ := hrel
      cases gk with
      | zero => exact absurd HA1.out (Nat.not_lt_zero _)
      | succ k1 =>
       obtain ⟨hc32_0, hc32_1, hc32_2, hc32_3, hc32_4, hc32_5, hf32_0, hf32_1, hf32_2, hf32_3, hf32_4, hf32_5⟩ := cells6 BK1.out
       by_cases c3 : x5 < (l0_5.length : Int)
       ·have c3b0 : decide (x5 < (l0_5.length : Int)) = true := decide_eq_true c3
        have hj_ : x5 = (j5 : Int) := HJ.out.1
        have p_ : 0 ≤ x5 := by omega
        have q_ : x5 < (l0_5.length : Int) := c3
        have c4b0 : decide (0 ≤ x5) = true := decide_eq_true p_
        have hm_ : (rd_T53 l0_5 x5) ∈ l0_5 := rd53_mem l0_5 x5 j5 hj_ (by omega)
        obtain ⟨n1, rfl⟩ : ∃ q, n = q + 1 := by
         cases n with
         | zero => exact absurd (HQ.out.2.2.2 _ hm_) (by simp [SqA])
         | succ q => exact ⟨q, rfl⟩
        have hsq := HQ.out.2.2.2 _ hm_
        rw [SqA] at hsq
        have HSQ := Aside0.mk hsq
        have LT_ := Aside0.mk (show j5 < l0_5.length from by omega)
        have TK_ : Aside0 (l0_5.take j5 ++ [(rd_T53 l0_5 x5)] = l0_5.take (j5 + 1)) := ⟨by rw [take_snoc l0_5 j5 (by omega), rdA_at l0_5 x5 j5 hj_ (by omega)]⟩
        clear c3 hj_ hm_ hsq
        obtain ⟨ad, A_1, c_1, A_3, c_3, A_4, c_4, A_5, c_5, e_, hx0, hx1, hx2, hx3, hx4, hx5, hx6, hx7, hl1, hi1, hl3, hi3, hl4, hi4, hl5, hi5⟩ := at_T53 HA.out.2.2.1 x5 p_ q_
        cases e_
        have GC := Aside0.mk (And.intro hx2 (And.intro hx3 (And.intro hx4 (And.intro hx5 (And.intro hx6 hx7)))))
        have GT := Aside0.mk (And.intro hx0 hx1)
        have GA := Aside0.mk (And.intro (And.intro hi3 hl3) (And.intro (And.intro hi4 hl4) (And.intro hi5 hl5)))
        have HI1 := Aside0.mk hi1
        clear hx0 hx1 hx2 hx3 hx4 hx5 hx6 hx7 hl1 hi1 hl3 hi3 hl4 hi4 hl5 hi5
        replace p_ := eq_true p_
        replace q_ := eq_true q_
        try go_wp2
        have dr_ := below_drew (Below.refl wr.heap.size wr)
        have n1_ := Aside0.mk (blk_below BK1.out dr_)
        have n2_ := Aside0.mk (blk_below BK2.out dr_)
        have n3_ := Aside0.mk (blk_below BK3.out dr_)
        have nb_ := Aside0.mk (below_step HB.out dr_)
        have zR3_ := Aside0.mk (Kd.R_below R3.out dr_)
        have zR5_ := Aside0.mk (Kd.R_below R5.out dr_)
        clear BK1 BK2 BK3 HB R3 R5 dr_ 
        have BK1 := n1_
        have BK2 := n2_
        have BK3 := n3_
        have HB := nb_
        have R3 := zR3_
        have R5 := zR5_
        clear n1_ n2_ n3_ nb_ zR3_ zR5_
        refine start_ (n := 28) (S := fun w' => Below w.heap.size w w' ∧ w'.heap[gb1]? = some (.cells #[.int .i64 a0_0, .string a0_1, .int .i64 a0_2, .slice A0_3 l0_3.length c0_3, .slice A0_4 l0_4.length c0_4, .slice (some ad) l0_5.length c0_5] 33 (0, 0)) ∧ w'.heap[gb3]? = some (.cells #[.int .i64 a0_0, .string a0_1, .int .i64 a0_2, .slice U3 l0_3.length cu3, .slice D1 m1 e1, .slice U5 j5 cu5] 33 (0, 0))) (ds := [27]) #[false, false, false, false, false, false, false, false, false, false, false, false, false, false, false, false, false, false, false, false, false, false, false, false, false, false, false, false] (by kernel_rfl) rfl rfl ⟨HB.out, BK1.out, BK3.out⟩ (fun hHeld => ?_)
        refine with_tabW CE_tab5 CE_bits5 (fun HT_ HW_ => ?_)
        generalize wr.drew = w10 at BK1 BK2 BK3 HB R3 R5 hHeld ⊢
        refine pure_ (i := 0) (N := some 41) (v := ?_) (a' := ?_) #[true, false, false, false, false, false, false, false, false, false, false, false, false, false, false, false, false, false, false, false, false, false, false, false, false, false, false, false] rfl rfl (any_of HT_.out (by kernel_rfl)) (fun _ _ _ h => h) (Or.inl ⟨by rfl, ?_⟩) ?_ ?_
        rotate_left
        ·intro w'
         go_simp
         with_reducible rfl
        rotate_left
        ·simp only [Act.put, List.setIfInBounds_toArray, List.set_cons_zero, List.set_cons_succ, i64_w, i32_w]
         rfl
        refine pure_ (i := 2) (N := some 43) (v := ?_) (a' := ?_) #[true, false, true, false, false, false, false, false, false, false, false, false, false, false, false, false, false, false, false, false, false, false, false, false, false, false, false, false] rfl rfl (any_of HT_.out (by kernel_rfl)) (fun _ _ _ h => h) (Or.inl ⟨by rfl, ?_⟩) ?_ ?_
        rotate_left
        ·intro w'
         go_simp
         with_reducible rfl
        rotate_left
        ·simp only [Act.put, List.setIfInBounds_toArray, List.set_cons_zero, List.set_cons_succ, i64_w, i32_w]
         rfl
        refine pure_ (i := 4) (N := some 45) (v := ?_) (a' := ?_) #[true, false, true, false, true, false, false, false, false, false, false, false, false, false, false, false, false, false, false, false, false, false, false, false, false, false, false, false] rfl rfl (any_of HT_.out (by kernel_rfl)) (fun _ _ _ h => h) (Or.inl ⟨by rfl, ?_⟩) ?_ ?_
        rotate_left
        ·intro w'
         go_simp
         with_reducible rfl
        rotate_left
        ·simp only [Act.put, List.setIfInBounds_toArray, List.set_cons_zero, List.set_cons_succ, i64_w, i32_w]
         rfl
        refine pure_ (i := 9) (N := some 50) (v := ?_) (a' := ?_) #[true, false, true, false, true, false, false, false, false, true, false, false, false, false, false, false, false, false, false, false, false, false, false, false, false, false, false, false] rfl rfl (any_of HT_.out (by kernel_rfl)) (fun _ _ _ h => h) (Or.inl ⟨by rfl, ?_⟩) ?_ ?_
        rotate_left
        ·intro w'
         go_simp
         with_reducible rfl
        rotate_left
        ·simp only [Act.put, List.setIfInBounds_toArray, List.set_cons_zero, List.set_cons_succ, i64_w, i32_w]
         rfl
        refine pure_ (i := 11) (N := some 52) (v := ?_) (a' := ?_) #[true, false, true, false, true, false, false, false, false, true, false, true, false, false, false, false, false, false, false, false, false, false, false, false, false, false, false, false] rfl rfl (any_of HT_.out (by kernel_rfl)) (fun _ _ _ h => h) (Or.inl ⟨by rfl, ?_⟩) ?_ ?_
        rotate_left
        ·intro w'
         go_simp
         with_reducible rfl
        rotate_left
        ·simp only [Act.put, List.setIfInBounds_toArray, List.set_cons_zero, List.set_cons_succ, i64_w, i32_w]
         rfl
        refine pure_ (i := 16) (N := some 57) (v := ?_) (a' := ?_) #[true, false, true, false, true, false, false, false, false, true, false, true, false, false, false, false, true, false, false, false, false, false, false, false, false, false, false, false] rfl rfl (any_of HT_.out (by kernel_rfl)) (fun _ _ _ h => h) (Or.inl ⟨by rfl, ?_⟩) ?_ ?_
        rotate_left
        ·intro w'
         go_simp
         with_reducible rfl
        rotate_left
        ·simp only [Act.put, List.setIfInBounds_toArray, List.set_cons_zero, List.set_cons_succ, i64_w, i32_w]
         rfl
        refine pure_ (i := 18) (N := some 59) (v := ?_) (a' := ?_) #[true, false, true, false, true, false, false, false, false, true, false, true, false, false, false, false, true, false, true, false, false, false, false, false, false, false, false, false] rfl rfl (any_of HT_.out (by kernel_rfl)) (fun _ _ _ h => h) (Or.inl ⟨by rfl, ?_⟩) ?_ ?_
        rotate_left
        ·intro w'
         go_simp
         with_reducible rfl
        rotate_left
        ·simp only [Act.put, List.setIfInBounds_toArray, List.set_cons_zero, List.set_cons_succ, i64_w, i32_w]
         rfl
        refine take_ (i := 1) (N := some 42) (v := ?_) (a' := ?_) #[true, true, true, false, true, false, false, false, false, true, false, true, false, false, false, false, true, false, true, false, false, false, false, false, false, false, false, false] rfl rfl (take_ofW HT_.out HW_.out (by kernel_rfl)) (fun _ _ _ h => h) (Or.inl ⟨by rfl, ?_⟩) hHeld ?_ ?_
        rotate_left
        ·rintro w' ⟨hb_, h1_, h3_⟩
         have hc := (blk_cell h3_ 5).trans rfl
         go_simp
         with_reducible rfl
        rotate_left
        ·simp only [Act.put, List.setIfInBounds_toArray, List.set_cons_zero, List.set_cons_succ, i64_w, i32_w]
         rfl
        refine take_ (i := 3) (N := some 44) (v := ?_) (a' := ?_) #[true, true, true, true, true, false, false, false, false, true, false, true, false, false, false, false, true, false, true, false, false, false, false, false, false, false, false, false] rfl rfl (take_ofW HT_.out HW_.out (by kernel_rfl)) (fun _ _ _ h => h) (Or.inl ⟨by rfl, ?_⟩) hHeld ?_ ?_
        rotate_left
        ·rintro w' ⟨hb_, h1_, h3_⟩
         have hc := (blk_cell h1_ 5).trans rfl
         go_simp
         with_reducible rfl
        rotate_left
        ·simp only [Act.put, List.setIfInBounds_toArray, List.set_cons_zero, List.set_cons_succ, i64_w, i32_w]
         rfl
        refine take_ (i := 10) (N := some 51) (v := ?_) (a' := ?_) #[true, true, true, true, true, false, false, false, false, true, true, true, false, false, false, false, true, false, true, false, false, false, false, false, false, false, false, false] rfl rfl (take_ofW HT_.out HW_.out (by kernel_rfl)) (fun _ _ _ h => h) (Or.inl ⟨by rfl, ?_⟩) hHeld ?_ ?_
        rotate_left
        ·rintro w' ⟨hb_, h1_, h3_⟩
         have hc := (blk_cell h1_ 5).trans rfl
         go_simp
         with_reducible rfl
        rotate_left
        ·simp only [Act.put, List.setIfInBounds_toArray, List.set_cons_zero, List.set_cons_succ, i64_w, i32_w]
         rfl
        refine take_ (i := 17) (N := some 58) (v := ?_) (a' := ?_) #[true, true, true, true, true, false, false, false, false, true, true, true, false, false, false, false, true, true, true, false, false, false, false, false, false, false, false, false] rfl rfl (take_ofW HT_.out HW_.out (by kernel_rfl)) (fun _ _ _ h => h) (Or.inl ⟨by rfl, ?_⟩) hHeld ?_ ?_
        rotate_left
        ·rintro w' ⟨hb_, h1_, h3_⟩
         have hc := (blk_cell h1_ 5).trans rfl
         go_simp
         with_reducible rfl
        rotate_left
        ·simp only [Act.put, List.setIfInBounds_toArray, List.set_cons_zero, List.set_cons_succ, i64_w, i32_w]
         rfl
        refine pure_ (i := 5) (N := some 46) (v := ?_) (a' := ?_) #[true, true, true, true, true, true, false, false, false, true, true, true, false, false, false, false, true, true, true, false, false, false, false, false, false, false, false, false] rfl rfl (any_of HT_.out (by kernel_rfl)) (fun _ _ _ h => h) (Or.inl ⟨by rfl, ?_⟩) ?_ ?_
        rotate_left
        ·intro w'
         go_simp
         with_reducible rfl
        rotate_left
        ·simp only [Act.put, List.setIfInBounds_toArray, List.set_cons_zero, List.set_cons_succ, i64_w, i32_w]
         rfl
        refine pure_ (i := 6) (N := some 47) (v := ?_) (a' := ?_) #[true, true, true, true, true, true, true, false, false, true, true, true, false, false, false, false, true, true, true, false, false, false, false, false, false, false, false, false] rfl rfl (any_of HT_.out (by kernel_rfl)) (fun _ _ _ h => h) (Or.inl ⟨by rfl, ?_⟩) ?_ ?_
        rotate_left
        ·intro w'
         go_simp
         with_reducible rfl
        rotate_left
        ·simp only [Act.put, List.setIfInBounds_toArray, List.set_cons_zero, List.set_cons_succ, i64_w, i32_w]
         rfl
        refine pure_ (i := 12) (N := some 53) (v := ?_) (a' := ?_) #[true, true, true, true, true, true, true, false, false, true, true, true, true, false, false, false, true, true, true, false, false, false, false, false, false, false, false, false] rfl rfl (any_of HT_.out (by kernel_rfl)) (fun _ _ _ h => h) (Or.inl ⟨by rfl, ?_⟩) ?_ ?_
        rotate_left
        ·intro w'
         go_simp
         with_reducible rfl
        rotate_left
        ·simp only [Act.put, List.setIfInBounds_toArray, List.set_cons_zero, List.set_cons_succ, i64_w, i32_w]
         rfl
        refine pure_ (i := 13) (N := some 54) (v := ?_) (a' := ?_) #[true, true, true, true, true, true, true, false, false, true, true, true, true, true, false, false, true, true, true, false, false, false, false, false, false, false, false, false] rfl rfl (any_of HT_.out (by kernel_rfl)) (fun _ _ _ h => h) (Or.inl ⟨by rfl, ?_⟩) ?_ ?_
        rotate_left
        ·intro w'
         go_simp
         with_reducible rfl
        rotate_left
        ·simp only [Act.put, List.setIfInBounds_toArray, List.set_cons_zero, List.set_cons_succ, i64_w, i32_w]
         rfl
        refine pure_ (i := 19) (N := some 60) (v := ?_) (a' := ?_) #[true, true, true, true, true, true, true, false, false, true, true, true, true, true, false, false, true, true, true, true, false, false, false, false, false, false, false, false] rfl rfl (any_of HT_.out (by kernel_rfl)) (fun _ _ _ h => h) (Or.inl ⟨by rfl, ?_⟩) ?_ ?_
        rotate_left
        ·intro w'
         go_simp
         with_reducible rfl
        rotate_left
        ·simp only [Act.put, List.setIfInBounds_toArray, List.set_cons_zero, List.set_cons_succ, i64_w, i32_w]
         rfl
        refine pure_ (i := 20) (N := some 61) (v := ?_) (a' := ?_) #[true, true, true, true, true, true, true, false, false, true, true, true, true, true, false, false, true, true, true, true, true, false, false, false, false, false, false, false] rfl rfl (any_of HT_.out (by kernel_rfl)) (fun _ _ _ h => h) (Or.inl ⟨by rfl, ?_⟩) ?_ ?_
        rotate_left
        ·intro w'
         go_simp
         with_reducible rfl
        rotate_left
        ·simp only [Act.put, List.setIfInBounds_toArray, List.set_cons_zero, List.set_cons_succ, i64_w, i32_w]
         rfl
        refine take_ (i := 7) (N := some 48) (v := ?_) (a' := ?_) #[true, true, true, true, true, true, true, true, false, true, true, true, true, true, false, false, true, true, true, true, true, false, false, false, false, false, false, false] rfl rfl (take_ofW HT_.out HW_.out (by kernel_rfl)) (fun _ _ _ h => h) (Or.inl ⟨by rfl, ?_⟩) hHeld ?_ ?_
        rotate_left
        ·rintro w' ⟨hb_, h1_, h3_⟩
         have hc := lc_ hb_ GT.out.1
         go_simp
         with_reducible rfl
        rotate_left
        ·simp only [Act.put, List.setIfInBounds_toArray, List.set_cons_zero, List.set_cons_succ, i64_w, i32_w]
         rfl
        refine take_ (i := 14) (N := some 55) (v := ?_) (a' := ?_) #[true, true, true, true, true, true, true, true, false, true, true, true, true, true, true, false, true, true, true, true, true, false, false, false, false, false, false, false] rfl rfl (take_ofW HT_.out HW_.out (by kernel_rfl)) (fun _ _ _ h => h) (Or.inl ⟨by rfl, ?_⟩) hHeld ?_ ?_
        rotate_left
        ·rintro w' ⟨hb_, h1_, h3_⟩
         have hc := lc_ hb_ GT.out.2
         go_simp
         with_reducible rfl
        rotate_left
        ·simp only [Act.put, List.setIfInBounds_toArray, List.set_cons_zero, List.set_cons_succ, i64_w, i32_w]
         rfl
        refine take_ (i := 21) (N := some 62) (v := ?_) (a' := ?_) #[true, true, true, true, true, true, true, true, false, true, true, true, true, true, true, false, true, true, true, true, true, true, false, false, false, false, false, false] rfl rfl (take_ofW HT_.out HW_.out (by kernel_rfl)) (fun _ _ _ h => h) (Or.inl ⟨by rfl, ?_⟩) hHeld ?_ ?_
        rotate_left
        ·rintro w' ⟨hb_, h1_, h3_⟩
         obtain ⟨s0_, s1_, s2_, s3_, s4_, s5_⟩ := six_later hb_ GC.out
         go_simp
         with_reducible rfl
        rotate_left
        ·simp only [Act.put, List.setIfInBounds_toArray, List.set_cons_zero, List.set_cons_succ, i64_w, i32_w]
         rfl
        refine one_ (i := 8) (N := some 49) #[true, true, true, true, true, true, true, true, true, true, true, true, true, true, true, false, true, true, true, true, true, true, false, false, false, false, false, false] rfl rfl (one_of HT_.out (by kernel_rfl)) (by decide) (fun K hK => ?_)
        refine Kd.R_lit_step Kd.string _ 9 ?hg (N := 49) ?hd (xs := ([] : List ByteArray)) (inner := []) (ok := fun _ => True) (okp := fun _ => True) ?hr ?hp (fun _ hk => hk) trivial (Below.refl _ _) (Nat.le_refl _) (by simp) ?_; (case hd => rfl); (case hg => rfl); (case hr => first | (go_simp; done) | (go_simp; rfl)); (case hp => exact (Reps.none _ _))
        intro v20 w11 ho hb hg_ hnew_
        clear hg_ hnew_
        (try simp only [Int.reduceToNat] at ho)
        have HT0 := Aside0.mk ho
        have H10 := Aside0.mk hb
        clear ho hb
        refine hK.out _ _ ⟨(below_step HB.out H10.out), blk_below BK1.out H10.out, blk_below BK3.out H10.out⟩ (fun hHeld => ?_)
        clear hK K
        refine norm_ (a' := ?_) ?_ ?_
        rotate_left
        ·show Act.put _ (some 49) _ = _
         simp only [Act.put, List.setIfInBounds_toArray, List.set_cons_zero, List.set_cons_succ, i64_w, i32_w]
         rfl
        refine one_ (i := 15) (N := some 56) #[true, true, true, true, true, true, true, true, true, true, true, true, true, true, true, true, true, true, true, true, true, true, false, false, false, false, false, false] rfl rfl (one_of HT_.out (by kernel_rfl)) (by decide) (fun K hK => ?_)
        refine Kd.R_append_rows_step Kd.string (w0 := w10) w10.heap.size (by rfl) (.tmp 49) (.tmp 55) 51 9 (.string ⟨#[]⟩) 16 rfl Try.underlying51 info9 rfl (by decide) (by omega) v20 [] ((rd_T53 l0_5 x5).f1) _ _ _ (fun _ => True) (fun _ => False) rfl rfl ?aO ?aR (fun _ _ h => h) (fun _ h => h.elim) ?aF ?aB ?aS ?aL ?_
        (case aR => exact Kd.C_below HI1.out (below_step HB.out H10.out))
        (case aB => exact H10.out)
        (case aF => exact (fun _ _ => trivial))
        (case aO => exact HT0.out)
        (case aS => exact (below_size H10.out))
        (case aL => have := HSQ.out.1; simp only [List.length_nil]; omega)
        intro v26 w13 ho hb hg hat
        rw [List.nil_append] at ho
        obtain ⟨Ao, co, rfl⟩ := Kd.R_slice ho
        have HU_ := Aside0.mk (Kd.R_lt R5.out)
        have HW0_ := Aside0.mk (below_size HB.out)
        have H3_ := Aside0.mk (blk_lt BK3.out)
        have P1_ := Aside0.mk (str_row ho)
        have n1_ := Aside0.mk (blk_below BK1.out hb)
        have n2_ := Aside0.mk (blk_below BK2.out hb)
        have n3_ := Aside0.mk (blk_below BK3.out hb)
        have nb_ := Aside0.mk (below_step HB.out hb)
        have zR3_ := Aside0.mk (Kd.R_below R3.out hb)
        have zR5_ := Aside0.mk (Kd.R_below R5.out hb)
        clear BK1 BK2 BK3 HB R3 R5 hb HT0 H10 ho hg hat
        have BK1 := n1_
        have BK2 := n2_
        have BK3 := n3_
        have HB := nb_
        have R3 := zR3_
        have R5 := zR5_
        clear n1_ n2_ n3_ nb_ zR3_ zR5_
        refine hK.out _ _ ⟨HB.out, BK1.out, BK3.out⟩ (fun hHeld => ?_)
        clear hK K
        refine norm_ (a' := ?_) ?_ ?_
        rotate_left
        ·show Act.put _ (some 56) _ = _
         simp only [Act.put, List.setIfInBounds_toArray, List.set_cons_zero, List.set_cons_succ, i64_w, i32_w]
         rfl
        refine one_ (i := 22) (N := some 63) #[true, true, true, true, true, true, true, true, true, true, true, true, true, true, true, true, true, true, true, true, true, true, true, false, false, false, false, false] rfl rfl (one_of HT_.out (by kernel_rfl)) (by decide) (fun K hK => ?_)
        refine goes_ Try.func35 (by kernel_rfl) rfl #[.agg #[.int .i64 (rd_T53 l0_5 x5).f2.f0, .string (rd_T53 l0_5 x5).f2.f1, .int .i64 (rd_T53 l0_5 x5).f2.f2, .slice A_3 (rd_T53 l0_5 x5).f2.f3.length c_3, .slice A_4 (rd_T53 l0_5 x5).f2.f4.length c_4, .slice A_5 (rd_T53 l0_5 x5).f2.f5.length c_5]] (by rfl) rfl rfl (by (try simp only [List.map_toArray, List.map_cons, List.map_nil, List.append_toArray, List.cons_append, List.nil_append]); first | done | rfl) ?_
        have hx_ := HB.out
        with_reducible refine (ih_E n1 (Nat.le_succ n1) (rd_T53 l0_5 x5).f2 _ _ _ _ _ _ _ ⟨⟨Kd.C_below GA.out.1.1 hx_, GA.out.1.2⟩, ⟨Kd.C_below GA.out.2.1.1 hx_, GA.out.2.1.2⟩, ⟨Kd.C_below GA.out.2.2.1 hx_, GA.out.2.2.2⟩⟩ HSQ.out.2).mono ?_
        rintro e w14 ⟨F3, f3, F4, m4, f4, F5, f5, rfl, _, _, hb⟩
        refine ⟨_, rfl, ?_⟩
        have Q1_ := Aside0.mk (AtL_below P1_.out.1 hb)
        have n1_ := Aside0.mk (blk_below BK1.out hb)
        have n2_ := Aside0.mk (blk_below BK2.out hb)
        have n3_ := Aside0.mk (blk_below BK3.out hb)
        have nb_ := Aside0.mk (below_step HB.out hb)
        have zR3_ := Aside0.mk (Kd.R_below R3.out hb)
        have zR5_ := Aside0.mk (Kd.R_below R5.out hb)
        clear BK1 BK2 BK3 HB R3 R5 hb hx_
        have BK1 := n1_
        have BK2 := n2_
        have BK3 := n3_
        have HB := nb_
        have R3 := zR3_
        have R5 := zR5_
        clear n1_ n2_ n3_ nb_ zR3_ zR5_
        refine hK.out _ _ ⟨HB.out, BK1.out, BK3.out⟩ (fun hHeld => ?_)
        clear hK K
        refine norm_ (a' := ?_) ?_ ?_
        rotate_left
        ·show Act.put _ (some 63) _ = _
         simp only [Act.put, List.setIfInBounds_toArray, List.set_cons_zero, List.set_cons_succ, i64_w, i32_w]
         rfl
        refine pure_ (i := 23) (N := some 64) (v := ?_) (a' := ?_) #[true, true, true, true, true, true, true, true, true, true, true, true, true, true, true, true, true, true, true, true, true, true, true, true, false, false, false, false] rfl rfl (any_of HT_.out (by kernel_rfl)) (fun _ _ _ h => h) (Or.inl ⟨by rfl, ?_⟩) ?_ ?_
        rotate_left
        ·intro w'
         go_simp
         with_reducible rfl
        rotate_left
        ·simp only [Act.put, List.setIfInBounds_toArray, List.set_cons_zero, List.set_cons_succ, i64_w, i32_w]
         rfl
        refine one_ (i := 24) (N := some 65) #[true, true, true, true, true, true, true, true, true, true, true, true, true, true, true, true, true, true, true, true, true, true, true, true, true, false, false, false] rfl rfl (one_of HT_.out (by kernel_rfl)) (by decide) (fun K hK => ?_)
        refine value_ (w1 := ?_) (v := ?_) (by rfl) rfl ?_ ?_
        rotate_left 2
        ·go_simp
         constructor
         ·rfl
         ·rfl
        refine hK.out _ _ ⟨below_alloc HB.out _, blk_alloc BK1.out _, blk_alloc BK3.out _⟩ (fun hHeld => ?_)
        clear hK K
        refine norm_ (a' := ?_) ?_ ?_
        rotate_left
        ·show Act.put _ (some 65) _ = _
         simp only [Act.put, List.setIfInBounds_toArray, List.set_cons_zero, List.set_cons_succ, i64_w, i32_w]
         rfl
        refine one_ (i := 25) (N := some 66) #[true, true, true, true, true, true, true, true, true, true, true, true, true, true, true, true, true, true, true, true, true, true, true, true, true, true, false, false] rfl rfl (one_of HT_.out (by kernel_rfl)) (by decide) (fun K hK => ?_)
        refine Kd.R_append_step Kd.alt (w0 := w) w.heap.size (by rfl) (.tmp 42) (.tmp 65) 31 53 (.agg #[(.string ⟨#[]⟩), (.slice none 0 0), (.int .i64 0), (.string ⟨#[]⟩), (.int .i64 0), (.slice none 0 0), (.slice none 0 0), (.slice none 0 0)]) 144 rfl Try.underlying31 info53 rfl (by decide) (by omega) (.slice U5 j5 cu5) (l0_5.take j5) (rd_T53 l0_5 x5) [.string (rd_T53 l0_5 x5).f0, .slice Ao (rd_T53 l0_5 x5).f1.length co, .int .i64 (rd_T53 l0_5 x5).f2.f0, .string (rd_T53 l0_5 x5).f2.f1, .int .i64 (rd_T53 l0_5 x5).f2.f2, .slice F3 (rd_T53 l0_5 x5).f2.f3.length f3, .slice F4 m4 f4, .slice F5 (rd_T53 l0_5 x5).f2.f5.length f5] (fun k => gb3 < k) (fun k_ => gb3 < k_ ∧ some k_ ≠ (.slice U5 j5 cu5 : Value).ownBlock) rfl ?aU ?aP (fun _ hk => hk) ?aF ?aO ?aB ?aS ?aL ?_
        (case aU => rfl)
        (case aP => exact ⟨.slice Ao (rd_T53 l0_5 x5).f1.length co, _, rfl, ⟨rfl, ones6⟩, rfl, rfl, Q1_.out, fun b hb => ⟨⟨by have := P1_.out.2.ge b hb; have := H3_.out; omega, fun e => by have := P1_.out.2.ge b hb; have := HU_.out b e.symm; omega⟩, Nat.le_trans HW0_.out (P1_.out.2.ge b hb)⟩⟩)
        (case aB => exact HB.out)
        (case aF => exact (fun k_ hk => Nat.lt_of_lt_of_le (blk_lt BK3.out) hk))
        (case aO => exact R5.out)
        (case aS => exact (below_size HB.out))
        (case aL => have := HQ.out.2.2.1; have := LT_.out; rw [List.length_take]; omega)
        intro v66 w22 ho hb hg hat
        rw [TK_.out] at ho
        obtain ⟨V5, cv5, e_⟩ := Kd.R_slice ho
        rw [List.length_take, Nat.min_eq_left (by have := LT_.out; omega)] at e_
        subst e_
        have n1_ := Aside0.mk (blk_grown BK1.out hg (Kd.R_away R5.out (fun k hk e => by have := GL.out; omega)))
        have n2_ := Aside0.mk (blk_grown BK2.out hg (Kd.R_away R5.out (fun k hk e => by have := GL.out; omega)))
        have n3_ := Aside0.mk (blk_grown BK3.out hg (Kd.R_away R5.out (fun k hk e => by omega)))
        have nb_ := Aside0.mk hb
        have zR3_ := Aside0.mk (Kd.R_mono (Kd.R_grown (Kd.R_apart' R3.out (Kd.R_typed R5.out) (by decide)) hg (fun _ hk => hk.2)) (fun _ hk => hk.1))
        have zR5_ := Aside0.mk ho
        clear BK1 BK2 BK3 HB R3 R5 ho hb hg hat
        have BK1 := n1_
        have BK2 := n2_
        have BK3 := n3_
        have HB := nb_
        have R3 := zR3_
        have R5 := zR5_
        clear n1_ n2_ n3_ nb_ zR3_ zR5_
        refine hK.out _ _ ⟨HB.out, BK1.out, BK3.out⟩ (fun hHeld => ?_)
        clear hK K
        refine norm_ (a' := ?_) ?_ ?_
        rotate_left
        ·show Act.put _ (some 66) _ = _
         simp only [Act.put, List.setIfInBounds_toArray, List.set_cons_zero, List.set_cons_succ, i64_w, i32_w]
         rfl
        refine pure_ (i := 26) (N := some 67) (v := ?_) (a' := ?_) #[true, true, true, true, true, true, true, true, true, true, true, true, true, true, true, true, true, true, true, true, true, true, true, true, true, true, true, false] rfl rfl (any_of HT_.out (by kernel_rfl)) (fun _ _ _ h => h) (Or.inl ⟨by rfl, ?_⟩) ?_ ?_
        rotate_left
        ·intro w'
         go_simp
         with_reducible rfl
        rotate_left
        ·simp only [Act.put, List.setIfInBounds_toArray, List.set_cons_zero, List.set_cons_succ, i64_w, i32_w]
         rfl
        refine last_ (i := 27) (N := none) #[true, true, true, true, true, true, true, true, true, true, true, true, true, true, true, true, true, true, true, true, true, true, true, true, true, true, true, true] rfl rfl (by kernel_rfl) (by decide) (fun K hK => ?_)
        have hs0 := (blk_cell BK3.out 5).trans rfl
        have hf0 := blk_frozen BK3.out 5
        refine skip_ (w1 := ?_) (by rfl) rfl ?_ ?_
        rotate_left
        ·go_simp
         rfl
        refine hK.out _ _ ?_
        clear hK K
        refine done_ (by kernel_rfl) ?_
        have n1_ : Aside0 ((w22.setCell ⟨gb3, 5, none⟩ (.slice V5 (j5 + 1) cv5)).heap[gb1]? = some (.cells #[.int .i64 a0_0, .string a0_1, .int .i64 a0_2, .slice A0_3 l0_3.length c0_3, .slice A0_4 l0_4.length c0_4, .slice (some ad) l0_5.length c0_5] 33 (0, 0))) := ⟨(blk_far BK1.out (Nat.ne_of_lt GL.out.1) _)⟩
        have n2_ : Aside0 ((w22.setCell ⟨gb3, 5, none⟩ (.slice V5 (j5 + 1) cv5)).heap[gb2]? = some (.cells #[.int .i64 0, .string (⟨#[]⟩ : ByteArray), .int .i64 0, .slice none 0 0, .slice none 0 0, .slice none 0 0] 33 (0, 0))) := ⟨(blk_far BK2.out (Nat.ne_of_lt GL.out.2) _)⟩
        have n3_ : Aside0 ((w22.setCell ⟨gb3, 5, none⟩ (.slice V5 (j5 + 1) cv5)).heap[gb3]? = some (.cells #[.int .i64 a0_0, .string a0_1, .int .i64 a0_2, .slice U3 l0_3.length cu3, .slice D1 m1 e1, .slice V5 (j5 + 1) cv5] 33 (0, 0))) := ⟨put_6_5 BK3.out⟩
        have nb_ : Aside0 (Below w.heap.size w (w22.setCell ⟨gb3, 5, none⟩ (.slice V5 (j5 + 1) cv5))) := ⟨below_set HB.out GE3.out⟩
        have zR3_ : Aside0 (Kd.R (Kd.opq 6) 33 (w22.setCell ⟨gb3, 5, none⟩ (.slice V5 (j5 + 1) cv5)) w.heap.size (fun k => gb3 < k) (.slice U3 l0_3.length cu3) (List.replicate l0_3.length ())) := ⟨Kd.R_far R3.out (fun k hk e => by dsimp only at hk e; omega) _⟩
        have zR5_ : Aside0 (Kd.R Kd.alt 53 (w22.setCell ⟨gb3, 5, none⟩ (.slice V5 (j5 + 1) cv5)) w.heap.size (fun k => gb3 < k) (.slice V5 (j5 + 1) cv5) (l0_5.take (j5 + 1))) := ⟨Kd.R_far R5.out (fun k hk e => by dsimp only at hk e; omega) _⟩
        clear BK1 BK2 BK3 HB R3 R5 hs0 hf0 hHeld
        generalize (w22.setCell ⟨gb3, 5, none⟩ (.slice V5 (j5 + 1) cv5)) = w15 at n1_ n2_ n3_ nb_ zR3_ zR5_ ⊢
        try go_wp2
        go_roundg k1
        case measure => have := HK1.out; omega
        case rel => exact ⟨(wrap64 (x5 + 1)), j5 + 1, V5, cv5, (by first | rfl | (simp; done) | (simp [*]; done)), ⟨by have := HA1.out; have := LT_.out; omega⟩, ⟨by have := HK1.out; omega⟩, n1_, n2_, n3_, nb_, zR3_, zR5_, ⟨by rw [HJ.out.1]; have := LT_.out; have := HQ.out.2.2.1; unfold wrap64; omega, by have := LT_.out; omega⟩⟩
       ·have c3b0 : decide (x5 < (l0_5.length : Int)) = false := decide_eq_false c3
        have hj : j5 = l0_5.length := by have := HJ.out; omega
        subst hj
        clear c3 HJ HA1
        have R5F := R5.out
        rw [List.take_length] at R5F
        obtain ⟨hc33_0, hc33_1, hc33_2, hc33_3, hc33_4, hc33_5, hf33_0, hf33_1, hf33_2, hf33_3, hf33_4, hf33_5⟩ := cells6 BK3.out
        obtain ⟨hc34_0, hc34_1, hc34_2, hc34_3, hc34_4, hc34_5, hf34_0, hf34_1, hf34_2, hf34_3, hf34_4, hf34_5⟩ := cells6 BK2.out
        have hnb23 := Nat.ne_of_lt GL.out.2
        have hnb32 := Nat.ne_of_gt GL.out.2
        go_wp2
        refine bodyPost_ret (results_cell_row rfl _ _ gb2 33 #[.int .i64 a0_0, .string a0_1, .int .i64 a0_2, .slice U3 l0_3.length cu3, .slice D1 m1 e1, .slice U5 l0_5.length cu5] (0, 0) _ rfl ((put_6_5 (put_6_4 (put_6_3 (put_6_2 (put_6_1 (put_6_0 BK2.out))))))) Try.underlying33 rfl (by kernel_rfl)) rfl ?_
        exact ⟨U3, cu3, D1, m1, e1, U5, cu5, rfl, Kd.R_mono (Kd.R_far (Kd.R_far (Kd.R_far (Kd.R_far (Kd.R_far (Kd.R_far R3.out (fun k hk e => by dsimp only at hk e; have := GL.out; omega) _) (fun k hk e => by dsimp only at hk e; have := GL.out; omega) _) (fun k hk e => by dsimp only at hk e; have := GL.out; omega) _) (fun k hk e => by dsimp only at hk e; have := GL.out; omega) _) (fun k hk e => by dsimp only at hk e; have := GL.out; omega) _) (fun k hk e => by dsimp only at hk e; have := GL.out; omega) _) (fun _ _ => trivial), Kd.R_mono (Kd.R_far (Kd.R_far (Kd.R_far (Kd.R_far (Kd.R_far (Kd.R_far R5F (fun k hk e => by dsimp only at hk e; have := GL.out; omega) _) (fun k hk e => by dsimp only at hk e; have := GL.out; omega) _) (fun k hk e => by dsimp only at hk e; have := GL.out; omega) _) (fun k hk e => by dsimp only at hk e; have := GL.out; omega) _) (fun k hk e => by dsimp only at hk e; have := GL.out; omega) _) (fun k hk e => by dsimp only at hk e; have := GL.out; omega) _) (fun _ _ => trivial), by repeat (first | (with_reducible first | exact HB.out | apply below_alloc | apply pw_below_drewN | apply below_drew1 | refine below_set ?_ GE2.out) | exact HB.out)⟩)
theorem allCp : ∀ n, CpyE n ∧ CpyD n := by
  intro n
  induction n using Nat.strongRecOn with
  | _ n ih =>
    have hD : CpyD n := stepCpD n (fun m hm => (ih m hm).1) (fun m hm => (ih m hm).2)
    refine ⟨?_, hD⟩
    cases n with
    | zero => exact fun y _ _ _ _ _ _ _ _ h => by simp [SqE] at h
    | succ n => exact stepCpE n (fun m hm => (ih m (by omega)).1) (ih n (by omega)).2
theorem l3Copy_skel (n : Nat) (a0_0 : Int) (a0_1 : ByteArray) (a0_2 : Int) (A0_3 : Option Addr) (c0_3 : Nat) (l0_3 : List (S33)) (A0_4 : Option Addr) (c0_4 : Nat) (l0_4 : List (S68)) (A0_5 : Option Addr) (c0_5 : Nat) (l0_5 : List (S53)) (w : World) (ha : ArgE w A0_3 c0_3 l0_3 A0_4 c0_4 l0_4 A0_5 c0_5 l0_5) (hq : LE n l0_3 ∧ LD n l0_4 ∧ LA n l0_5) :
  Calls Try.prog 35 #[.agg #[.int .i64 a0_0, .string a0_1, .int .i64 a0_2, .slice A0_3 l0_3.length c0_3, .slice A0_4 l0_4.length c0_4, .slice A0_5 l0_5.length c0_5]] w fun e w' => ∃ (A3 : Option Addr) (c3 : Nat) (A4 : Option Addr) (n4 c4 : Nat) (A5 : Option Addr) (c5 : Nat), e = .returned (.agg #[.int .i64 a0_0, .string a0_1, .int .i64 a0_2, .slice A3 l0_3.length c3, .slice A4 n4 c4, .slice A5 l0_5.length c5]) ∧ Kd.R (Kd.opq 6) 33 w' w.heap.size (fun _ => True) (.slice A3 l0_3.length c3) (List.replicate l0_3.length ()) ∧ Kd.R Kd.alt 53 w' w.heap.size (fun _ => True) (.slice A5 l0_5.length c5) l0_5 ∧ Below w.heap.size w w' :=
  (allCp (n + 1)).1 ⟨a0_0, a0_1, a0_2, l0_3, l0_4, l0_5⟩ _ _ _ _ _ _ w ha (by rw [SqE]; exact hq)
end Go.Proofs.Ytpndcfibjjkgcaa.MyItc

/- The walk of the given function that folds definitions. No condition. -/
import Derived.Test.YtpndcfibjjkgcaaMyFoU
namespace Go.Proofs.Ytpndcfibjjkgcaa.MyItc
open Go Go.RowKit Go.Proofs.YtpndcfibjjkgcaaW.PrintWords Go.Proofs.YtpndcfibjjkgcaaW.PrintLast Go.Proofs.YtpndcfibjjkgcaaW.PrintMore Go.Proofs.Ytpndcfibjjkgcaa.PIfg
attribute [local go_sem] max2_int min2_int max_two min_two max_three min_three max_four min_four
set_option linter.unusedVariables false
set_option linter.unusedSimpArgs false
def TD_T5 : Bool × List (List Nat × List Nat) := (true, [([], []), ([], []), ([], []), ([1, 2], [1, 2]), ([3], [3]), ([4], [4]), ([], []), ([], []), ([], []), ([7, 8], [7, 8]), ([9], [9]), ([10], [10]), ([6, 11], [6, 11]), ([], []), ([], []), ([13, 14], [13, 14]), ([15], [15]), ([16], [16]), ([], []), ([17, 18, 12], [17, 18]), ([], []), ([], []), ([20, 21], [20, 21]), ([22], [22]), ([23], [23]), ([], []), ([24, 25, 19], [24, 25]), ([5, 12, 19, 26], [5, 12, 19, 26]), ([27], [27]), ([0, 28, 26], [0, 28]), ([29, 29, 0, 1, 2, 3, 4, 5, 6, 7, 8, 9, 10, 11, 12, 13, 14, 15, 16, 17, 18, 19, 20, 21, 22, 23, 24, 25, 26, 27, 28, 29], [0, 29])])
def TD_B5 : List Nat := [0, 0, 0, 6, 14, 30, 0, 0, 0, 384, 896, 1920, 4032, 0, 0, 24576, 57344, 122880, 0, 524224, 0, 0, 3145728, 7340032, 15728640, 0, 67108800, 134217726, 268435454, 536870911, 1073741823]
theorem TD_tab5 : rtab .any (opsOf Try.f61 5) = TD_T5 := by kernel_rfl
theorem TD_bits5 : waitsOk TD_T5.2 TD_B5 = true := by kernel_rfl
set_option maxHeartbeats 8000000 in
set_option maxRecDepth 100000 in
theorem stepTnD (n : Nat) (ih_E : ∀ m_, m_ < n → TnE m_) (ih_D : ∀ m_, m_ < n → TnD m_) : TnD n := by
 intro A0 c0 l0 w hr0 hc0 hq
 have hu68 := Try.underlying68
 have hu33 := Try.underlying33
 have HR0 := Aside0.mk hr0
 have HC0 := Aside0.mk hc0
 have HQ := Aside0.mk hq
 clear hr0 hc0 hq
 have HB := Aside0.mk (Below.refl w.heap.size w)
 go_enter Try.func61, Try.ntmps61
 go_wp2_with (first | ((with_reducible refine gate_dst (N := 7) rfl ?_); refine Kd.R_lit (Kd.it 9) _ 68 ?hg (N := 7) ?hd (xs := ([] : List (List It))) (inner := []) (ok := fun _ => True) (okp := fun _ => True) ?hr ?hp (fun _ hk => hk) trivial (Below.refl _ _) (Nat.le_refl _) (by simp) ?_; (case hd => rfl); (case hg => rfl); (case hr => first | (go_simp; done) | (go_simp; rfl)); (case hp => exact (Reps.none _ _)); intro v263 w2 ho3 hb hg_ hnew_; clear hg_ hnew_; (try simp only [Int.reduceToNat] at ho3); have n0_ := Aside0.mk (Kd.R_lower ho3 (below_size HB.out)); have n1_ := Aside0.mk (below_step HB.out hb); clear HB; have HO_5 := n0_; have HB := n1_; clear n0_ n1_; clear hb ho3))
 go_loopg [5, 6] (l0.length + 1) (fun kq v5 v6 w' => ∃ (x5_1 : List (List It)) (x6_1 : Int) (j5 : Nat), v6 = .int .i64 x6_1 ∧ Aside0 (l0.length - j5 < kq) ∧ Aside0 (kq ≤ l0.length + 1) ∧ Aside0 (Kd.R (Kd.it 9) 68 w' w.heap.size (fun _ => True) v5 x5_1) ∧ Aside0 (Below w.heap.size w w') ∧ Aside0 (x6_1 = (j5 : Int) ∧ x5_1.length = j5 ∧ j5 ≤ l0.length ∧ RepDs ((l0.take j5).map (gD n)) x5_1.flatten))
 case atStart => exact ⟨[], 0, 0, (by first | rfl | (simp; done) | (simp [*]; done)), ⟨by omega⟩, ⟨Nat.le_refl _⟩, ⟨HO_5.out⟩, ⟨by repeat (first | (with_reducible first | exact HB.out | apply below_alloc | apply pw_below_drewN | apply below_drew1) | exact HB.out)⟩, ⟨rfl, rfl, Nat.zero_le _, by simpa using RepDs.nil⟩⟩
 case round =>
  clear HB HO_5
  try clear p2
  obtain ⟨x5_1, x6_1, j5, rfl, HA, HK1, HO_5, HB, HJ⟩ := hrel
  cases gk with
  | zero => exact absurd HA.out (Nat.not_lt_zero _)
  | succ k1 =>
   by_cases c3 : x6_1 < (l0.length : Int)
   ·have c3b0 : decide (x6_1 < (l0.length : Int)) = true := decide_eq_true c3
    ·have hj_ : x6_1 = (j5 : Int) := HJ.out.1
     have p_ : 0 ≤ x6_1 := by omega
     have q_ : x6_1 < (l0.length : Int) := c3
     have c4b0 : decide (0 ≤ x6_1) = true := decide_eq_true p_
     have hm_ : (rd_T68 l0 x6_1) ∈ l0 := rd68_mem l0 x6_1 j5 hj_ (by omega)
     obtain ⟨n1, rfl⟩ : ∃ q, n = q + 1 := by
      cases n with
      | zero => exact absurd (HQ.out.2 _ hm_) (by simp [SqD])
      | succ q => exact ⟨q, rfl⟩
     have hsq := HQ.out.2 _ hm_
     rw [SqD] at hsq
     have HSQ := Aside0.mk hsq
     clear c3 hj_ hm_ hsq
     obtain ⟨ad, A_1, c_1, A_5, c_5, A_6, c_6, A_7, c_7, A_8, c_8, e_, hx0, hx1, hx2, hx3, hx4, hx5, hx6, hx7, hx8, hl1, hi1, hl5, hi5, hl6, hi6, hl7, hi7, hl8, hi8⟩ := at_T68 HR0.out x6_1 p_ q_
     cases e_
     have GC := Aside0.mk (And.intro hx0 (And.intro hx1 (And.intro hx2 (And.intro hx3 (And.intro hx4 (And.intro hx5 (And.intro hx6 (And.intro hx7 hx8))))))))
     clear hx0 hx1 hx2 hx3 hx4 hx5 hx6 hx7 hx8
     have HI1 := Aside0.mk hi1
     have HL1 := Aside0.mk hl1
     have HI5 := Aside0.mk hi5
     have HL5 := Aside0.mk hl5
     have HI6 := Aside0.mk hi6
     have HL6 := Aside0.mk hl6
     have HI7 := Aside0.mk hi7
     have HL7 := Aside0.mk hl7
     have HI8 := Aside0.mk hi8
     have HL8 := Aside0.mk hl8
     clear hl1 hi1 hl5 hi5 hl6 hi6 hl7 hi7 hl8 hi8
     replace p_ := eq_true p_
     replace q_ := eq_true q_
     try go_wp2
     have n0_ := Aside0.mk (Kd.R_drew HO_5.out)
     have n1_ := Aside0.mk (below_drew1 HB.out)
     clear HO_5 HB
     have HO_5 := n0_
     have HB := n1_
     clear n0_ n1_
     refine start_ (n := 31) (S := fun w' => Below w.heap.size w w') (ds := []) #[false, false, false, false, false, false, false, false, false, false, false, false, false, false, false, false, false, false, false, false, false, false, false, false, false, false, false, false, false, false, false] (by kernel_rfl) rfl rfl HB.out (fun hHeld => ?_); refine with_tabW TD_tab5 TD_bits5 (fun HT_ HW_ => ?_)
     generalize wr.drew = w10 at HO_5 HB hHeld ⊢
     refine pure_ (i := 0) (N := some 14) (v := ?_) (a' := ?_) #[true, false, false, false, false, false, false, false, false, false, false, false, false, false, false, false, false, false, false, false, false, false, false, false, false, false, false, false, false, false, false] rfl rfl (any_of HT_.out (by kernel_rfl)) (fun _ _ _ h => h) (Or.inl ⟨by rfl, ?_⟩) ?_ ?_
     rotate_left
     ·intro w'
      go_simp
      with_reducible rfl
     rotate_left
     ·simp only [Act.put, List.setIfInBounds_toArray, List.set_cons_zero, List.set_cons_succ, i64_w, i32_w]
      rfl
     refine pure_ (i := 1) (N := some 15) (v := ?_) (a' := ?_) #[true, true, false, false, false, false, false, false, false, false, false, false, false, false, false, false, false, false, false, false, false, false, false, false, false, false, false, false, false, false, false] rfl rfl (any_of HT_.out (by kernel_rfl)) (fun _ _ _ h => h) (Or.inl ⟨by rfl, ?_⟩) ?_ ?_
     rotate_left
     ·intro w'
      go_simp
      with_reducible rfl
     rotate_left
     ·simp only [Act.put, List.setIfInBounds_toArray, List.set_cons_zero, List.set_cons_succ, i64_w, i32_w]
      rfl
     refine pure_ (i := 2) (N := some 16) (v := ?_) (a' := ?_) #[true, true, true, false, false, false, false, false, false, false, false, false, false, false, false, false, false, false, false, false, false, false, false, false, false, false, false, false, false, false, false] rfl rfl (any_of HT_.out (by kernel_rfl)) (fun _ _ _ h => h) (Or.inl ⟨by rfl, ?_⟩) ?_ ?_
     rotate_left
     ·intro w'
      go_simp
      with_reducible rfl
     rotate_left
     ·simp only [Act.put, List.setIfInBounds_toArray, List.set_cons_zero, List.set_cons_succ, i64_w, i32_w]
      rfl
     refine pure_ (i := 3) (N := some 17) (v := ?_) (a' := ?_) #[true, true, true, true, false, false, false, false, false, false, false, false, false, false, false, false, false, false, false, false, false, false, false, false, false, false, false, false, false, false, false] rfl rfl (any_of HT_.out (by kernel_rfl)) (fun _ _ _ h => h) (Or.inl ⟨by rfl, ?_⟩) ?_ ?_
     rotate_left
     ·intro w'
      go_simp
      with_reducible rfl
     rotate_left
     ·simp only [Act.put, List.setIfInBounds_toArray, List.set_cons_zero, List.set_cons_succ, i64_w, i32_w]
      rfl
     refine pure_ (i := 4) (N := some 18) (v := ?_) (a' := ?_) #[true, true, true, true, true, false, false, false, false, false, false, false, false, false, false, false, false, false, false, false, false, false, false, false, false, false, false, false, false, false, false] rfl rfl (any_of HT_.out (by kernel_rfl)) (fun _ _ _ h => h) (Or.inl ⟨by rfl, ?_⟩) ?_ ?_
     rotate_left
     ·intro w'
      go_simp
      with_reducible rfl
     rotate_left
     ·simp only [Act.put, List.setIfInBounds_toArray, List.set_cons_zero, List.set_cons_succ, i64_w, i32_w]
      rfl
     refine pure_ (i := 7) (N := some 21) (v := ?_) (a' := ?_) #[true, true, true, true, true, false, false, true, false, false, false, false, false, false, false, false, false, false, false, false, false, false, false, false, false, false, false, false, false, false, false] rfl rfl (any_of HT_.out (by kernel_rfl)) (fun _ _ _ h => h) (Or.inl ⟨by rfl, ?_⟩) ?_ ?_
     rotate_left
     ·intro w'
      go_simp
      with_reducible rfl
     rotate_left
     ·simp only [Act.put, List.setIfInBounds_toArray, List.set_cons_zero, List.set_cons_succ, i64_w, i32_w]
      rfl
     refine pure_ (i := 8) (N := some 22) (v := ?_) (a' := ?_) #[true, true, true, true, true, false, false, true, true, false, false, false, false, false, false, false, false, false, false, false, false, false, false, false, false, false, false, false, false, false, false] rfl rfl (any_of HT_.out (by kernel_rfl)) (fun _ _ _ h => h) (Or.inl ⟨by rfl, ?_⟩) ?_ ?_
     rotate_left
     ·intro w'
      go_simp
      with_reducible rfl
     rotate_left
     ·simp only [Act.put, List.setIfInBounds_toArray, List.set_cons_zero, List.set_cons_succ, i64_w, i32_w]
      rfl
     refine pure_ (i := 9) (N := some 23) (v := ?_) (a' := ?_) #[true, true, true, true, true, false, false, true, true, true, false, false, false, false, false, false, false, false, false, false, false, false, false, false, false, false, false, false, false, false, false] rfl rfl (any_of HT_.out (by kernel_rfl)) (fun _ _ _ h => h) (Or.inl ⟨by rfl, ?_⟩) ?_ ?_
     rotate_left
     ·intro w'
      go_simp
      with_reducible rfl
     rotate_left
     ·simp only [Act.put, List.setIfInBounds_toArray, List.set_cons_zero, List.set_cons_succ, i64_w, i32_w]
      rfl
     refine pure_ (i := 10) (N := some 24) (v := ?_) (a' := ?_) #[true, true, true, true, true, false, false, true, true, true, true, false, false, false, false, false, false, false, false, false, false, false, false, false, false, false, false, false, false, false, false] rfl rfl (any_of HT_.out (by kernel_rfl)) (fun _ _ _ h => h) (Or.inl ⟨by rfl, ?_⟩) ?_ ?_
     rotate_left
     ·intro w'
      go_simp
      with_reducible rfl
     rotate_left
     ·simp only [Act.put, List.setIfInBounds_toArray, List.set_cons_zero, List.set_cons_succ, i64_w, i32_w]
      rfl
     refine pure_ (i := 13) (N := some 27) (v := ?_) (a' := ?_) #[true, true, true, true, true, false, false, true, true, true, true, false, false, true, false, false, false, false, false, false, false, false, false, false, false, false, false, false, false, false, false] rfl rfl (any_of HT_.out (by kernel_rfl)) (fun _ _ _ h => h) (Or.inl ⟨by rfl, ?_⟩) ?_ ?_
     rotate_left
     ·intro w'
      go_simp
      with_reducible rfl
     rotate_left
     ·simp only [Act.put, List.setIfInBounds_toArray, List.set_cons_zero, List.set_cons_succ, i64_w, i32_w]
      rfl
     refine pure_ (i := 14) (N := some 28) (v := ?_) (a' := ?_) #[true, true, true, true, true, false, false, true, true, true, true, false, false, true, true, false, false, false, false, false, false, false, false, false, false, false, false, false, false, false, false] rfl rfl (any_of HT_.out (by kernel_rfl)) (fun _ _ _ h => h) (Or.inl ⟨by rfl, ?_⟩) ?_ ?_
     rotate_left
     ·intro w'
      go_simp
      with_reducible rfl
     rotate_left
     ·simp only [Act.put, List.setIfInBounds_toArray, List.set_cons_zero, List.set_cons_succ, i64_w, i32_w]
      rfl
     refine pure_ (i := 15) (N := some 29) (v := ?_) (a' := ?_) #[true, true, true, true, true, false, false, true, true, true, true, false, false, true, true, true, false, false, false, false, false, false, false, false, false, false, false, false, false, false, false] rfl rfl (any_of HT_.out (by kernel_rfl)) (fun _ _ _ h => h) (Or.inl ⟨by rfl, ?_⟩) ?_ ?_
     rotate_left
     ·intro w'
      go_simp
      with_reducible rfl
     rotate_left
     ·simp only [Act.put, List.setIfInBounds_toArray, List.set_cons_zero, List.set_cons_succ, i64_w, i32_w]
      rfl
     refine pure_ (i := 16) (N := some 30) (v := ?_) (a' := ?_) #[true, true, true, true, true, false, false, true, true, true, true, false, false, true, true, true, true, false, false, false, false, false, false, false, false, false, false, false, false, false, false] rfl rfl (any_of HT_.out (by kernel_rfl)) (fun _ _ _ h => h) (Or.inl ⟨by rfl, ?_⟩) ?_ ?_
     rotate_left
     ·intro w'
      go_simp
      with_reducible rfl
     rotate_left
     ·simp only [Act.put, List.setIfInBounds_toArray, List.set_cons_zero, List.set_cons_succ, i64_w, i32_w]
      rfl
     refine pure_ (i := 18) (N := some 32) (v := ?_) (a' := ?_) #[true, true, true, true, true, false, false, true, true, true, true, false, false, true, true, true, true, false, true, false, false, false, false, false, false, false, false, false, false, false, false] rfl rfl (any_of HT_.out (by kernel_rfl)) (fun _ _ _ h => h) (Or.inl ⟨by rfl, ?_⟩) ?_ ?_
     rotate_left
     ·intro w'
      go_simp
      with_reducible rfl
     rotate_left
     ·simp only [Act.put, List.setIfInBounds_toArray, List.set_cons_zero, List.set_cons_succ, i64_w, i32_w]
      rfl
     refine pure_ (i := 20) (N := some 34) (v := ?_) (a' := ?_) #[true, true, true, true, true, false, false, true, true, true, true, false, false, true, true, true, true, false, true, false, true, false, false, false, false, false, false, false, false, false, false] rfl rfl (any_of HT_.out (by kernel_rfl)) (fun _ _ _ h => h) (Or.inl ⟨by rfl, ?_⟩) ?_ ?_
     rotate_left
     ·intro w'
      go_simp
      with_reducible rfl
     rotate_left
     ·simp only [Act.put, List.setIfInBounds_toArray, List.set_cons_zero, List.set_cons_succ, i64_w, i32_w]
      rfl
     refine pure_ (i := 21) (N := some 35) (v := ?_) (a' := ?_) #[true, true, true, true, true, false, false, true, true, true, true, false, false, true, true, true, true, false, true, false, true, true, false, false, false, false, false, false, false, false, false] rfl rfl (any_of HT_.out (by kernel_rfl)) (fun _ _ _ h => h) (Or.inl ⟨by rfl, ?_⟩) ?_ ?_
     rotate_left
     ·intro w'
      go_simp
      with_reducible rfl
     rotate_left
     ·simp only [Act.put, List.setIfInBounds_toArray, List.set_cons_zero, List.set_cons_succ, i64_w, i32_w]
      rfl
     refine pure_ (i := 22) (N := some 36) (v := ?_) (a' := ?_) #[true, true, true, true, true, false, false, true, true, true, true, false, false, true, true, true, true, false, true, false, true, true, true, false, false, false, false, false, false, false, false] rfl rfl (any_of HT_.out (by kernel_rfl)) (fun _ _ _ h => h) (Or.inl ⟨by rfl, ?_⟩) ?_ ?_
     rotate_left
     ·intro w'
      go_simp
      with_reducible rfl
     rotate_left
     ·simp only [Act.put, List.setIfInBounds_toArray, List.set_cons_zero, List.set_cons_succ, i64_w, i32_w]
      rfl
     refine pure_ (i := 23) (N := some 37) (v := ?_) (a' := ?_) #[true, true, true, true, true, false, false, true, true, true, true, false, false, true, true, true, true, false, true, false, true, true, true, true, false, false, false, false, false, false, false] rfl rfl (any_of HT_.out (by kernel_rfl)) (fun _ _ _ h => h) (Or.inl ⟨by rfl, ?_⟩) ?_ ?_
     rotate_left
     ·intro w'
      go_simp
      with_reducible rfl
     rotate_left
     ·simp only [Act.put, List.setIfInBounds_toArray, List.set_cons_zero, List.set_cons_succ, i64_w, i32_w]
      rfl
     refine pure_ (i := 25) (N := some 39) (v := ?_) (a' := ?_) #[true, true, true, true, true, false, false, true, true, true, true, false, false, true, true, true, true, false, true, false, true, true, true, true, false, true, false, false, false, false, false] rfl rfl (any_of HT_.out (by kernel_rfl)) (fun _ _ _ h => h) (Or.inl ⟨by rfl, ?_⟩) ?_ ?_
     rotate_left
     ·intro w'
      go_simp
      with_reducible rfl
     rotate_left
     ·simp only [Act.put, List.setIfInBounds_toArray, List.set_cons_zero, List.set_cons_succ, i64_w, i32_w]
      rfl
     refine take_ (i := 5) (N := some 19) (v := ?_) (a' := ?_) #[true, true, true, true, true, true, false, true, true, true, true, false, false, true, true, true, true, false, true, false, true, true, true, true, false, true, false, false, false, false, false] rfl rfl (take_ofW HT_.out HW_.out (by kernel_rfl)) (fun _ _ _ h => h) (Or.inl ⟨by rfl, ?_⟩) hHeld ?_ ?_
     rotate_left
     ·rintro w' hb_
      obtain ⟨h0_, h1_, h2_, h3_, h4_, h5_, h6_, h7_, h8_⟩ := nine_later hb_ GC.out
      go_simp
      with_reducible rfl
     rotate_left
     ·simp only [Act.put, List.setIfInBounds_toArray, List.set_cons_zero, List.set_cons_succ, i64_w, i32_w]
      rfl
     refine take_ (i := 11) (N := some 25) (v := ?_) (a' := ?_) #[true, true, true, true, true, true, false, true, true, true, true, true, false, true, true, true, true, false, true, false, true, true, true, true, false, true, false, false, false, false, false] rfl rfl (take_ofW HT_.out HW_.out (by kernel_rfl)) (fun _ _ _ h => h) (Or.inl ⟨by rfl, ?_⟩) hHeld ?_ ?_
     rotate_left
     ·rintro w' hb_
      obtain ⟨h0_, h1_, h2_, h3_, h4_, h5_, h6_, h7_, h8_⟩ := nine_later hb_ GC.out
      go_simp
      with_reducible rfl
     rotate_left
     ·simp only [Act.put, List.setIfInBounds_toArray, List.set_cons_zero, List.set_cons_succ, i64_w, i32_w]
      rfl
     refine take_ (i := 17) (N := some 31) (v := ?_) (a' := ?_) #[true, true, true, true, true, true, false, true, true, true, true, true, false, true, true, true, true, true, true, false, true, true, true, true, false, true, false, false, false, false, false] rfl rfl (take_ofW HT_.out HW_.out (by kernel_rfl)) (fun _ _ _ h => h) (Or.inl ⟨by rfl, ?_⟩) hHeld ?_ ?_
     rotate_left
     ·rintro w' hb_
      obtain ⟨h0_, h1_, h2_, h3_, h4_, h5_, h6_, h7_, h8_⟩ := nine_later hb_ GC.out
      go_simp
      with_reducible rfl
     rotate_left
     ·simp only [Act.put, List.setIfInBounds_toArray, List.set_cons_zero, List.set_cons_succ, i64_w, i32_w]
      rfl
     refine take_ (i := 24) (N := some 38) (v := ?_) (a' := ?_) #[true, true, true, true, true, true, false, true, true, true, true, true, false, true, true, true, true, true, true, false, true, true, true, true, true, true, false, false, false, false, false] rfl rfl (take_ofW HT_.out HW_.out (by kernel_rfl)) (fun _ _ _ h => h) (Or.inl ⟨by rfl, ?_⟩) hHeld ?_ ?_
     rotate_left
     ·rintro w' hb_
      obtain ⟨h0_, h1_, h2_, h3_, h4_, h5_, h6_, h7_, h8_⟩ := nine_later hb_ GC.out
      go_simp
      with_reducible rfl
     rotate_left
     ·simp only [Act.put, List.setIfInBounds_toArray, List.set_cons_zero, List.set_cons_succ, i64_w, i32_w]
      rfl
     refine one_ (i := 6) (N := some 20) #[true, true, true, true, true, true, true, true, true, true, true, true, false, true, true, true, true, true, true, false, true, true, true, true, true, true, false, false, false, false, false] rfl rfl (one_of HT_.out (by kernel_rfl)) (by decide) (fun K hK => ?_)
     refine Kd.R_lit_step Kd.string _ 9 ?hg (N := 20) ?hd (xs := ([] : List ByteArray)) (inner := []) (ok := fun _ => True) (okp := fun _ => True) ?hr ?hp (fun _ hk => hk) trivial (Below.refl _ _) (Nat.le_refl _) (by simp) ?_; (case hd => rfl); (case hg => rfl); (case hr => first | (go_simp; done) | (go_simp; rfl)); (case hp => exact (Reps.none _ _))
     intro v20 w11 ho hb hg_ hnew_
     clear hg_ hnew_
     (try simp only [Int.reduceToNat] at ho)
     have HT0 := Aside0.mk ho
     have H10 := Aside0.mk hb
     clear ho hb
     refine hK.out _ _ (below_step HB.out H10.out) (fun hHeld => ?_)
     clear hK K
     refine norm_ (a' := ?_) ?_ ?_
     rotate_left
     ·show Act.put _ (some 20) _ = _
      simp only [Act.put, List.setIfInBounds_toArray, List.set_cons_zero, List.set_cons_succ, i64_w, i32_w]
      rfl
     refine one_ (i := 12) (N := some 26) #[true, true, true, true, true, true, true, true, true, true, true, true, true, true, true, true, true, true, true, false, true, true, true, true, true, true, false, false, false, false, false] rfl rfl (one_of HT_.out (by kernel_rfl)) (by decide) (fun K hK => ?_)
     refine Kd.R_append_rows_step Kd.string (w0 := w10) w10.heap.size (by rfl) (.tmp 20) (.tmp 25) 51 9 (.string ⟨#[]⟩) 16 rfl Try.underlying51 info9 rfl (by decide) (by omega) v20 [] ((rd_T68 l0 x6_1).f1) _ _ _ (fun _ => True) (fun _ => False) rfl rfl ?aO ?aR (fun _ _ h => h) (fun _ h => h.elim) ?aF ?aB ?aS ?aL ?_
     (case aR => exact Kd.C_below HI1.out (below_step HB.out H10.out))
     (case aB => exact H10.out)
     (case aF => exact (fun _ _ => trivial))
     (case aO => exact HT0.out)
     (case aS => exact (below_size H10.out))
     (case aL => have := HSQ.out.1; simp only [List.length_nil]; omega)
     intro v26 w13 ho hb hg hat
     rw [List.nil_append] at ho
     obtain ⟨Ao, co, rfl⟩ := Kd.R_slice ho
     have HU_ := Aside0.mk (Kd.R_lt HO_5.out)
     have HW0_ := Aside0.mk (below_size HB.out)
     have P1_ := Aside0.mk (str_row ho)
     have S1_ := Aside0.mk (below_size hb)
     have n0_ := Aside0.mk (Kd.R_below HO_5.out hb)
     have n1_ := Aside0.mk (below_step HB.out hb)
     clear HO_5 HB HT0 H10 ho hb hg hat
     have HO_5 := n0_
     have HB := n1_
     clear n0_ n1_
     refine hK.out _ _ (HB.out) (fun hHeld => ?_)
     clear hK K
     refine norm_ (a' := ?_) ?_ ?_
     rotate_left
     ·show Act.put _ (some 26) _ = _
      simp only [Act.put, List.setIfInBounds_toArray, List.set_cons_zero, List.set_cons_succ, i64_w, i32_w]
      rfl
     refine one_ (i := 19) (N := some 33) #[true, true, true, true, true, true, true, true, true, true, true, true, true, true, true, true, true, true, true, true, true, true, true, true, true, true, false, false, false, false, false] rfl rfl (one_of HT_.out (by kernel_rfl)) (by decide) (fun K hK => ?_)
     refine goes_ Try.func46 (by kernel_rfl) rfl #[.agg #[.int .i64 (rd_T68 l0 x6_1).f2.f0, .string (rd_T68 l0 x6_1).f2.f1, .int .i64 (rd_T68 l0 x6_1).f2.f2, .slice A_5 (rd_T68 l0 x6_1).f2.f3.length c_5, .slice A_6 (rd_T68 l0 x6_1).f2.f4.length c_6, .slice A_7 (rd_T68 l0 x6_1).f2.f5.length c_7], .int .i64 4] (by rfl) rfl rfl (by (try simp only [List.map_toArray, List.map_cons, List.map_nil, List.append_toArray, List.cons_append, List.nil_append]); first | done | rfl) ?_
     with_reducible refine (ih_E n1 (Nat.lt_succ_self n1) ((rd_T68 l0 x6_1).f2) _ _ _ _ _ _ _ ⟨⟨Kd.C_below HI5.out HB.out, HL5.out⟩, ⟨Kd.C_below HI6.out HB.out, HL6.out⟩, ⟨Kd.C_below HI7.out HB.out, HL7.out⟩⟩ HSQ.out.2.1).mono ?_
     rintro e w15 ⟨E3, d3, y3, E4, d4, y4, E5, d5, y5, rfl, hc, hb⟩
     refine ⟨_, rfl, ?_⟩
     have P2_ := Aside0.mk hc
     have S2_ := Aside0.mk (below_size hb)
     have n4_ := Aside0.mk (AtL_below P1_.out.1 hb)
     have n0_ := Aside0.mk (Kd.R_below HO_5.out hb)
     have n3_ := Aside0.mk (below_step HB.out hb)
     clear HO_5 HB hc hb
     have HO_5 := n0_
     have HB := n3_
     have Q1_ := n4_
     clear n0_ n3_ n4_
     refine hK.out _ _ (HB.out) (fun hHeld => ?_)
     clear hK K
     refine norm_ (a' := ?_) ?_ ?_
     rotate_left
     ·show Act.put _ (some 33) _ = _
      simp only [Act.put, List.setIfInBounds_toArray, List.set_cons_zero, List.set_cons_succ, i64_w, i32_w]
      rfl
     refine one_ (i := 26) (N := some 40) #[true, true, true, true, true, true, true, true, true, true, true, true, true, true, true, true, true, true, true, true, true, true, true, true, true, true, true, false, false, false, false] rfl rfl (one_of HT_.out (by kernel_rfl)) (by decide) (fun K hK => ?_)
     refine goes_ Try.func61 (by kernel_rfl) rfl #[.slice A_8 (rd_T68 l0 x6_1).f3.length c_8, .int .i64 4] (by rfl) rfl rfl (by (try simp only [List.map_toArray, List.map_cons, List.map_nil, List.append_toArray, List.cons_append, List.nil_append]); first | done | rfl) ?_
     with_reducible refine (ih_D n1 (Nat.lt_succ_self n1) _ _ ((rd_T68 l0 x6_1).f3) _ (Kd.C_below HI8.out HB.out) HL8.out HSQ.out.2.2).mono ?_
     rintro e w16 ⟨E8, d8, y8, rfl, hc, hb⟩
     refine ⟨_, rfl, ?_⟩
     have h3a_ := hc.at_
     have h3g_ := hc.ge
     simp only [List.length_map] at h3a_ h3g_
     have P3A := Aside0.mk h3a_
     have P3G := Aside0.mk h3g_
     have P3_ := Aside0.mk hc.rd
     clear h3a_ h3g_
     have S3_ := Aside0.mk (below_size hb)
     have n4_ := Aside0.mk (AtL_below Q1_.out hb)
     have n5_ := Aside0.mk (AtL_below P2_.out.at_ hb)
     have n0_ := Aside0.mk (Kd.R_below HO_5.out hb)
     have n3_ := Aside0.mk (below_step HB.out hb)
     clear HO_5 HB hc hb Q1_
     have HO_5 := n0_
     have HB := n3_
     have Q1_ := n4_
     have Q2_ := n5_
     clear n0_ n3_ n4_ n5_
     obtain ⟨el, hel⟩ : ∃ el : List It, el = [.s (rd_T68 l0 x6_1).f0, .r 9 1 (.slice Ao (rd_T68 l0 x6_1).f1.length co) (rd_T68 l0 x6_1).f1.length ((rd_T68 l0 x6_1).f1.map It.s), .i (gE n1 (rd_T68 l0 x6_1).f2).f0, .s (gE n1 (rd_T68 l0 x6_1).f2).f1, .i (gE n1 (rd_T68 l0 x6_1).f2).f2, .r 33 6 (.slice E3 (gE n1 (rd_T68 l0 x6_1).f2).f3.length d3) (gE n1 (rd_T68 l0 x6_1).f2).f3.length y3, .r 68 9 (.slice E4 (gE n1 (rd_T68 l0 x6_1).f2).f4.length d4) (gE n1 (rd_T68 l0 x6_1).f2).f4.length y4, .r 53 8 (.slice E5 (gE n1 (rd_T68 l0 x6_1).f2).f5.length d5) (gE n1 (rd_T68 l0 x6_1).f2).f5.length y5, .r 68 9 (.slice E8 (rd_T68 l0 x6_1).f3.length d8) (rd_T68 l0 x6_1).f3.length y8] := ⟨_, rfl⟩
     have PE_ : Aside0 (∀ b ∈ blksL el, w10.heap.size ≤ b) := ⟨by
      subst hel
      intro b hb
      have g1 := P1_.out.2.ge b
      have g2 := P2_.out.ge b
      have g3 := P3G.out b
      have s1 := S1_.out
      have s2 := S2_.out
      simp only [blksL, It.blks, List.append_nil, List.nil_append, List.mem_append] at hb g1 g2 g3
      rcases hb with hb | hb | hb | hb | hb
      · exact g1 hb
      · exact Nat.le_trans s1 (g2 (.inl hb))
      · exact Nat.le_trans s1 (g2 (.inr (.inl hb)))
      · exact Nat.le_trans s1 (g2 (.inr (.inr hb)))
      · exact Nat.le_trans s1 (Nat.le_trans s2 (g3 hb))⟩
     have QE_ : Aside0 (AtL w16 el) := ⟨by
      subst hel
      have q1 := Q1_.out
      have q2 := Q2_.out
      have q3 := P3A.out
      simp only [AtL, and_true] at q1 q2 q3 ⊢
      exact ⟨by simp only [It.At], q1, by simp only [It.At], by simp only [It.At], by simp only [It.At], q2.1, q2.2.1, q2.2.2, q3⟩⟩
     have HJ2 : Aside0 (RepDs ((l0.take (j5 + 1)).map (gD (n1 + 1))) (x5_1 ++ [el]).flatten) := ⟨by
      obtain ⟨hj0, hj1, hj2, hj3⟩ := HJ.out
      have hjl : j5 < l0.length := by have := of_eq_true q_; omega
      have hrd : rd_T68 l0 x6_1 = l0[j5] := by rw [hj0]; unfold rd_T68; rw [Int.toNat_natCast, List.getD_eq_getElem?_getD, List.getElem?_eq_getElem hjl]; rfl
      rw [take_snoc l0 j5 hjl, List.map_append, List.map_cons, List.map_nil, List.flatten_append, List.flatten_cons, List.flatten_nil, List.append_nil]
      refine hj3.snoc ?_
      have hD := RepD.mk (x := (⟨(rd_T68 l0 x6_1).f0, (rd_T68 l0 x6_1).f1, (gE n1 (rd_T68 l0 x6_1).f2), (rd_T68 l0 x6_1).f3.map (gD n1)⟩ : S68)) (v1 := .slice Ao (rd_T68 l0 x6_1).f1.length co) (v8 := .slice E8 (rd_T68 l0 x6_1).f3.length d8) (RepE.mk (x := (gE n1 (rd_T68 l0 x6_1).f2)) (v3 := .slice E3 (gE n1 (rd_T68 l0 x6_1).f2).f3.length d3) (v4 := .slice E4 (gE n1 (rd_T68 l0 x6_1).f2).f4.length d4) (v5 := .slice E5 (gE n1 (rd_T68 l0 x6_1).f2).f5.length d5) P2_.out.r3 P2_.out.r4 P2_.out.r5) P3_.out
      rw [hel, ← hrd, gD]
      simp only [List.length_map] at hD
      exact hD⟩
     refine hK.out _ _ (HB.out) (fun hHeld => ?_)
     clear hK K
     refine norm_ (a' := ?_) ?_ ?_
     rotate_left
     ·show Act.put _ (some 40) _ = _
      simp only [Act.put, List.setIfInBounds_toArray, List.set_cons_zero, List.set_cons_succ, i64_w, i32_w]
      rfl
     refine pure_ (i := 27) (N := some 41) (v := ?_) (a' := ?_) #[true, true, true, true, true, true, true, true, true, true, true, true, true, true, true, true, true, true, true, true, true, true, true, true, true, true, true, true, false, false, false] rfl rfl (any_of HT_.out (by kernel_rfl)) (fun _ _ _ h => h) (Or.inl ⟨by rfl, ?_⟩) ?_ ?_
     rotate_left
     ·intro w'
      go_simp
      with_reducible rfl
     rotate_left
     ·simp only [Act.put, List.setIfInBounds_toArray, List.set_cons_zero, List.set_cons_succ, i64_w, i32_w]
      rfl
     refine one_ (i := 28) (N := some 42) #[true, true, true, true, true, true, true, true, true, true, true, true, true, true, true, true, true, true, true, true, true, true, true, true, true, true, true, true, true, false, false] rfl rfl (one_of HT_.out (by kernel_rfl)) (by decide) (fun K hK => ?_)
     refine value_ (w1 := ?_) (v := ?_) (by rfl) rfl ?_ ?_
     rotate_left 2
     ·go_simp
      constructor
      ·rfl
      ·rfl
     refine hK.out _ _ (below_alloc HB.out _) (fun hHeld => ?_)
     clear hK K
     refine norm_ (a' := ?_) ?_ ?_
     rotate_left
     ·show Act.put _ (some 42) _ = _
      simp only [Act.put, List.setIfInBounds_toArray, List.set_cons_zero, List.set_cons_succ, i64_w, i32_w]
      rfl
     refine one_ (i := 29) (N := some 43) #[true, true, true, true, true, true, true, true, true, true, true, true, true, true, true, true, true, true, true, true, true, true, true, true, true, true, true, true, true, true, false] rfl rfl (one_of HT_.out (by kernel_rfl)) (by decide) (fun K hK => ?_)
     refine Kd.R_append_step (Kd.it 9) (w0 := w) w.heap.size (by rfl) (.tmp 14) (.tmp 42) 30 68 (.agg #[(.string ⟨#[]⟩), (.slice none 0 0), (.int .i64 0), (.string ⟨#[]⟩), (.int .i64 0), (.slice none 0 0), (.slice none 0 0), (.slice none 0 0), (.slice none 0 0)]) 168 rfl Try.underlying30 info68 rfl (by decide) (by omega) u5 x5_1 el [.string (rd_T68 l0 x6_1).f0, .slice Ao (rd_T68 l0 x6_1).f1.length co, .int .i64 (gE n1 (rd_T68 l0 x6_1).f2).f0, .string (gE n1 (rd_T68 l0 x6_1).f2).f1, .int .i64 (gE n1 (rd_T68 l0 x6_1).f2).f2, .slice E3 (gE n1 (rd_T68 l0 x6_1).f2).f3.length d3, .slice E4 (gE n1 (rd_T68 l0 x6_1).f2).f4.length d4, .slice E5 (gE n1 (rd_T68 l0 x6_1).f2).f5.length d5, .slice E8 (rd_T68 l0 x6_1).f3.length d8] (fun _ => True) (fun k_ => True ∧ some k_ ≠ (u5 : Value).ownBlock) rfl rfl ?aP (fun _ hk => hk) ?aF ?aO ?aB ?aS ?aL ?_
     (case aP => exact ⟨by rw [hel]; rfl, by rw [hel]; rfl, QE_.out, fun b hb => ⟨⟨trivial, fun e => by have := PE_.out b hb; have := HU_.out b e.symm; omega⟩, by have := PE_.out b hb; have := HW0_.out; omega⟩⟩)
     (case aB => exact HB.out)
     (case aF => exact (fun _ _ => trivial))
     (case aO => exact HO_5.out)
     (case aS => exact (below_size HB.out))
     (case aL => have := HQ.out.1; have := HJ.out.2.1; have := HJ.out.2.2.1; omega)
     intro v43 w22 ho hb hg hat
     have n1_ := Aside0.mk hb
     have n2_ := Aside0.mk ho
     clear HB HO_5 ho hb hg hat
     have HB := n1_
     have HO43 := n2_
     clear n1_ n2_
     refine hK.out _ _ (HB.out) (fun hHeld => ?_)
     clear hK K
     refine norm_ (a' := ?_) ?_ ?_
     rotate_left
     ·show Act.put _ (some 43) _ = _
      simp only [Act.put, List.setIfInBounds_toArray, List.set_cons_zero, List.set_cons_succ, i64_w, i32_w]
      rfl
     refine pure_ (i := 30) (N := some 5) (v := ?_) (a' := ?_) #[true, true, true, true, true, true, true, true, true, true, true, true, true, true, true, true, true, true, true, true, true, true, true, true, true, true, true, true, true, true, true] rfl rfl (any_of HT_.out (by kernel_rfl)) (fun _ _ _ h => h) (Or.inl ⟨by rfl, ?_⟩) ?_ ?_
     rotate_left
     ·intro w'
      go_simp
      with_reducible rfl
     rotate_left
     ·simp only [Act.put, List.setIfInBounds_toArray, List.set_cons_zero, List.set_cons_succ, i64_w, i32_w]
      rfl
     refine done_ (done_of HT_.out (by kernel_rfl)) ?_
     try go_wp2
     go_roundg k1
     case measure => have := HK1.out; omega
     case rel => exact ⟨x5_1 ++ [el], (wrap64 (x6_1 + 1)), j5 + 1, (by first | rfl | (simp; done) | (simp [*]; done)), ⟨by obtain ⟨hj0, _, hj2, _⟩ := HJ.out; have := HA.out; have := of_eq_true q_; omega⟩, ⟨by have := HK1.out; omega⟩, ⟨HO43.out⟩, ⟨HB.out⟩, ⟨by obtain ⟨hj0, hj1, hj2, hj3⟩ := HJ.out; have hjl : j5 < l0.length := (by have := of_eq_true q_; omega); have := HQ.out.1; exact ⟨by rw [hj0]; unfold wrap64; omega, by rw [List.length_append, hj1]; rfl, hjl, HJ2.out⟩⟩⟩
   ·skip
    have c3b0 : decide (x6_1 < (l0.length : Int)) = false := decide_eq_false c3
    clear c3
    have hfin : Aside0 (∃ Ao co, u5 = .slice Ao (l0.map (gD n)).length co ∧ MadD w.heap.size wr (l0.map (gD n)) Ao co x5_1.flatten) := ⟨by
     obtain ⟨hj0, hj1, hj2, hj3⟩ := HJ.out
     have hjl : j5 = l0.length := by have := of_decide_eq_false c3b0; omega
     obtain ⟨Ao30, co30, eo30⟩ := Kd.R_slice HO_5.out
     have hr := Kd.it_row HO_5.out (by simp)
     have hlm : (l0.map (gD n)).length = l0.length := by simp
     rw [hj1, hjl, ← hlm] at eo30 hr
     subst eo30
     refine ⟨Ao30, co30, rfl, hr.1, fun b hb => (hr.2.1 b hb).2, ?_⟩
     rw [hjl, List.take_length] at hj3
     exact hj3⟩
    obtain ⟨Ao30, co30, rfl, hcop⟩ := hfin.out
    clear hfin
    have HCP := Aside0.mk hcop
    clear hcop
    go_wp2
    go_ret
    exact ⟨Ao30, co30, x5_1.flatten, rfl, HCP.out, by repeat (first | (with_reducible first | exact HB.out | apply below_alloc | apply pw_below_drewN | apply below_drew1) | exact HB.out)⟩
end Go.Proofs.Ytpndcfibjjkgcaa.MyItc

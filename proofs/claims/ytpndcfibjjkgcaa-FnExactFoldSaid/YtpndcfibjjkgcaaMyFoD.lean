/- The walk of the function that folds definitions: turned from a printed walk. No condition. -/
import Derived.Test.YtpndcfibjjkgcaaMyFo
import Derived.Test.YtpndcfibjjkgcaaMyFnc
namespace Go.Proofs.Ytpndcfibjjkgcaa.MyItc
open Go Go.RowKit Go.Proofs.YtpndcfibjjkgcaaW.PrintWords Go.Proofs.YtpndcfibjjkgcaaW.PrintLast Go.Proofs.YtpndcfibjjkgcaaW.PrintMore Go.Proofs.Ytpndcfibjjkgcaa.PIfg Go.Proofs.Ytpndcfibjjkgcaa.MyClone
attribute [local go_sem] max2_int min2_int max_two min_two max_three min_three max_four min_four
set_option linter.unusedVariables false
set_option linter.unusedSimpArgs false
def D_T5 : Bool × List (List Nat × List Nat) := (true, [([], []), ([], []), ([1], [1]), ([], []), ([3], [3]), ([4], [4]), ([], []), ([], []), ([7], [7]), ([6, 8, 5], [6, 8]), ([], []), ([10], [10]), ([], []), ([11, 12, 9], [11, 12]), ([2, 5, 9, 13], [2, 5, 9, 13]), ([14], [14]), ([0, 15, 13], [0, 15]), ([16, 16, 0, 1, 2, 3, 4, 5, 6, 7, 8, 9, 10, 11, 12, 13, 14, 15, 16], [0, 16])])
def D_B5 : List Nat := [0, 0, 2, 0, 8, 24, 0, 0, 128, 504, 0, 1024, 0, 8184, 16382, 32766, 65535, 131071]
theorem D_tab5 : rtab .any (opsOf Try.f65 5) = D_T5 := by kernel_rfl
theorem D_bits5 : waitsOk D_T5.2 D_B5 = true := by kernel_rfl
set_option maxHeartbeats 8000000 in
set_option maxRecDepth 100000 in
theorem stepFD (n : Nat) (ih_E : ∀ m_, m_ < n → FE m_) (ih_D : ∀ m_, m_ < n → FD m_) : FD n := by
 intro A0 c0 l0 w hr0 hc0 hq
 have hu68 := Try.underlying68
 have hu33 := Try.underlying33
 have HR0 := Aside0.mk hr0
 have HC0 := Aside0.mk hc0
 have HQ := Aside0.mk hq
 clear hr0 hc0 hq
 have HB := Aside0.mk (Below.refl w.heap.size w)
 go_enter Try.func65, Try.ntmps65
 go_wp2
 go_loopg [5, 10] (l0.length + 1) (fun kq v5 v10 w' => ∃ (x5_1 : List (List It)) (x10_1 : Int) (j5 : Nat), v10 = .int .i64 x10_1 ∧ Aside0 (l0.length - j5 < kq) ∧ Aside0 (kq ≤ l0.length + 1) ∧ Aside0 (Kd.R (Kd.it 9) 68 w' w.heap.size (fun _ => True) v5 x5_1) ∧ Aside0 (Below w.heap.size w w') ∧ Aside0 (x10_1 = (j5 : Int) ∧ x5_1.length = j5 ∧ j5 ≤ l0.length ∧ RepDs ((l0.take j5).map (gD n)) x5_1.flatten ∧ (blksL x5_1.flatten).Nodup))
 case atStart => exact ⟨[], 0, 0, (by first | rfl | (simp; done) | (simp [*]; done)), ⟨by omega⟩, ⟨Nat.le_refl _⟩, ⟨Kd.R_nil _ _ _ _ _⟩, ⟨by repeat (first | (with_reducible first | exact HB.out | apply below_alloc | apply pw_below_drewN | apply below_drew1) | exact HB.out)⟩, ⟨rfl, rfl, Nat.zero_le _, by simpa using RepDs.nil, by simp [blksL]⟩⟩
 case round =>
  clear HB
  try clear p2
  obtain ⟨x5_1, x10_1, j5, rfl, HA, HK1, HO_5, HB, HJ⟩ := hrel
  cases gk with
  | zero => exact absurd HA.out (Nat.not_lt_zero _)
  | succ k1 =>
   by_cases c3 : x10_1 < (l0.length : Int)
   ·have c3b0 : decide (x10_1 < (l0.length : Int)) = true := decide_eq_true c3
    ·skip
     ·skip
      ·have hj_ : x10_1 = (j5 : Int) := HJ.out.1
       have c4b0 : decide (0 ≤ x10_1) = true := decide_eq_true (by omega)
       have hm_ : rd_T68 l0 x10_1 ∈ l0 := rd68_mem l0 x10_1 j5 hj_ (by omega)
       obtain ⟨n1, rfl⟩ : ∃ q, n = q + 1 := by
        cases n with
        | zero => exact absurd (HQ.out.2 _ hm_) (by simp [SqD])
        | succ q => exact ⟨q, rfl⟩
       have hsq := HQ.out.2 _ hm_
       rw [SqD] at hsq
       have HSQ := Aside0.mk hsq
       obtain ⟨t366, ht366⟩ : ∃ t, t = (rd_T68 l0 x10_1).f1 := ⟨_, rfl⟩
       have A6 : Aside0 (slices_Clone.f (rd_T68 l0 x10_1).f1 = some t366) := ⟨by rw [ht366]; unfold slices_Clone.f; rw [if_pos (by have := hsq.1; omega)]⟩
       have LMc9 : Aside0 (j5 < 837723144972) := ⟨by have := HQ.out.1; omega⟩
       clear c3 hj_ hm_ hsq ht366
       have p364 : 0 ≤ (x10_1 : Int) := of_decide_eq_true (by first | (with_reducible assumption) | assumption)
       have q364 : x10_1 < (l0.length : Int) := of_decide_eq_true (by first | (with_reducible assumption) | assumption)
       obtain ⟨ad364, A364_1, c364_1, A364_5, c364_5, A364_6, c364_6, A364_7, c364_7, A364_8, c364_8, e364, hx364_0, hx364_1, hx364_2, hx364_3, hx364_4, hx364_5, hx364_6, hx364_7, hx364_8, hl364_1, hi364_1, hl364_5, hi364_5, hl364_6, hi364_6, hl364_7, hi364_7, hl364_8, hi364_8⟩ := at_T68 HR0.out x10_1 p364 q364
       cases e364
       replace hx364_0 := lc_ HB.out hx364_0
       replace hx364_1 := lc_ HB.out hx364_1
       replace hx364_2 := lc_ HB.out hx364_2
       replace hx364_3 := lc_ HB.out hx364_3
       replace hx364_4 := lc_ HB.out hx364_4
       replace hx364_5 := lc_ HB.out hx364_5
       replace hx364_6 := lc_ HB.out hx364_6
       replace hx364_7 := lc_ HB.out hx364_7
       replace hx364_8 := lc_ HB.out hx364_8
       have HR364_1 := Aside0.mk hi364_1
       have HC364_1 := Aside0.mk hl364_1
       clear hi364_1 hl364_1
       have HR364_5 := Aside0.mk hi364_5
       have HC364_5 := Aside0.mk hl364_5
       clear hi364_5 hl364_5
       have HR364_6 := Aside0.mk hi364_6
       have HC364_6 := Aside0.mk hl364_6
       clear hi364_6 hl364_6
       have HR364_7 := Aside0.mk hi364_7
       have HC364_7 := Aside0.mk hl364_7
       clear hi364_7 hl364_7
       have HR364_8 := Aside0.mk hi364_8
       have HC364_8 := Aside0.mk hl364_8
       clear hi364_8 hl364_8
       replace p364 := eq_true p364
       replace q364 := eq_true q364
       try go_wp2_with (first | ((with_reducible refine gate_dst (N := 7) rfl ?_); refine box_event ?hg (N := 7) ?hd (cs := #[.string (⟨#[]⟩ : ByteArray), .slice none 0 0, .int .i64 0, .string (⟨#[]⟩ : ByteArray), .int .i64 0, .slice none 0 0, .slice none 0 0, .slice none 0 0, .slice none 0 0]) (t := 68) ?hr ?_; (case hd => rfl); (case hg => rfl); (case hr => first | (go_simp; done) | (go_simp; rfl)); intro gb365 hg w10 hbox hb; have hx_ := bel_of (w := w) hb HB.out; have n0_ := Aside0.mk (Kd.R_below (Kd.R_elderB (by (with_reducible repeat (first | apply Kd.R_alloc | apply Kd.R_drewN | apply Kd.R_drew)); exact HO_5.out) gb365 (Nat.le_of_eq hg.symm)) hb); have n1_ := Aside0.mk (below_step hx_ hb); have n2_ := Aside0.mk (hbox); have n3_ := Aside0.mk ((box_ge hx_ hg)); have n4_ := Aside0.mk ((box_ge hx_ hg)); clear HO_5; clear HB; have HO_5 := n0_; have HB := n1_; have BK365 := n2_; have GW365 := n3_; have GE365 := n4_; clear n0_ n1_ n2_ n3_ n4_; clear hx_ hb hbox hg; obtain ⟨hcz11_0, hcz11_1, hcz11_2, hcz11_3, hcz11_4, hcz11_5, hcz11_6, hcz11_7, hcz11_8, hfz11_0, hfz11_1, hfz11_2, hfz11_3, hfz11_4, hfz11_5, hfz11_6, hfz11_7, hfz11_8⟩ := cells9 BK365.out))
       have n0_ : Aside0 (Kd.R (Kd.it 9) 68 (((((((((w10.setCell ⟨gb365, 0, none⟩ (.string ((rd_T68 l0 x10_1).f0))).setCell ⟨gb365, 1, none⟩ (.slice A364_1 ((rd_T68 l0 x10_1).f1).length c364_1)).setCell ⟨gb365, 2, none⟩ (.int .i64 ((rd_T68 l0 x10_1).f2.f0))).setCell ⟨gb365, 3, none⟩ (.string ((rd_T68 l0 x10_1).f2.f1))).setCell ⟨gb365, 4, none⟩ (.int .i64 ((rd_T68 l0 x10_1).f2.f2))).setCell ⟨gb365, 5, none⟩ (.slice A364_5 ((rd_T68 l0 x10_1).f2.f3).length c364_5)).setCell ⟨gb365, 6, none⟩ (.slice A364_6 ((rd_T68 l0 x10_1).f2.f4).length c364_6)).setCell ⟨gb365, 7, none⟩ (.slice A364_7 ((rd_T68 l0 x10_1).f2.f5).length c364_7)).setCell ⟨gb365, 8, none⟩ (.slice A364_8 ((rd_T68 l0 x10_1).f3).length c364_8)) w.heap.size (fun k_ => k_ ≠ gb365) u5 x5_1) := ⟨by (with_reducible repeat (first | apply Kd.R_alloc | apply Kd.R_drewN | apply Kd.R_drew)); exact Kd.R_mono (Kd.R_st (Kd.R_st (Kd.R_st (Kd.R_st (Kd.R_st (Kd.R_st (Kd.R_st (Kd.R_st (Kd.R_st (Kd.R_mono HO_5.out (fun k_ hk => (⟨hk, hk.2⟩ : _ ∧ k_ ≠ gb365)))))))))))) (fun _ hk => hk.1.2)⟩
       have n1_ : Aside0 ((((((((((w10.setCell ⟨gb365, 0, none⟩ (.string ((rd_T68 l0 x10_1).f0))).setCell ⟨gb365, 1, none⟩ (.slice A364_1 ((rd_T68 l0 x10_1).f1).length c364_1)).setCell ⟨gb365, 2, none⟩ (.int .i64 ((rd_T68 l0 x10_1).f2.f0))).setCell ⟨gb365, 3, none⟩ (.string ((rd_T68 l0 x10_1).f2.f1))).setCell ⟨gb365, 4, none⟩ (.int .i64 ((rd_T68 l0 x10_1).f2.f2))).setCell ⟨gb365, 5, none⟩ (.slice A364_5 ((rd_T68 l0 x10_1).f2.f3).length c364_5)).setCell ⟨gb365, 6, none⟩ (.slice A364_6 ((rd_T68 l0 x10_1).f2.f4).length c364_6)).setCell ⟨gb365, 7, none⟩ (.slice A364_7 ((rd_T68 l0 x10_1).f2.f5).length c364_7)).setCell ⟨gb365, 8, none⟩ (.slice A364_8 ((rd_T68 l0 x10_1).f3).length c364_8)).heap[gb365]? = some (.cells #[.string ((rd_T68 l0 x10_1).f0), .slice A364_1 ((rd_T68 l0 x10_1).f1).length c364_1, .int .i64 ((rd_T68 l0 x10_1).f2.f0), .string ((rd_T68 l0 x10_1).f2.f1), .int .i64 ((rd_T68 l0 x10_1).f2.f2), .slice A364_5 ((rd_T68 l0 x10_1).f2.f3).length c364_5, .slice A364_6 ((rd_T68 l0 x10_1).f2.f4).length c364_6, .slice A364_7 ((rd_T68 l0 x10_1).f2.f5).length c364_7, .slice A364_8 ((rd_T68 l0 x10_1).f3).length c364_8] 68 (0, 0))) := ⟨by (with_reducible repeat (first | refine blk_drewN ?_ _ | refine blk_drew ?_ | refine blk_alloc ?_ _)); exact (put_9_8 (put_9_7 (put_9_6 (put_9_5 (put_9_4 (put_9_3 (put_9_2 (put_9_1 (put_9_0 BK365.out)))))))))⟩
       have n2_ : Aside0 (Below w.heap.size w (((((((((w10.setCell ⟨gb365, 0, none⟩ (.string ((rd_T68 l0 x10_1).f0))).setCell ⟨gb365, 1, none⟩ (.slice A364_1 ((rd_T68 l0 x10_1).f1).length c364_1)).setCell ⟨gb365, 2, none⟩ (.int .i64 ((rd_T68 l0 x10_1).f2.f0))).setCell ⟨gb365, 3, none⟩ (.string ((rd_T68 l0 x10_1).f2.f1))).setCell ⟨gb365, 4, none⟩ (.int .i64 ((rd_T68 l0 x10_1).f2.f2))).setCell ⟨gb365, 5, none⟩ (.slice A364_5 ((rd_T68 l0 x10_1).f2.f3).length c364_5)).setCell ⟨gb365, 6, none⟩ (.slice A364_6 ((rd_T68 l0 x10_1).f2.f4).length c364_6)).setCell ⟨gb365, 7, none⟩ (.slice A364_7 ((rd_T68 l0 x10_1).f2.f5).length c364_7)).setCell ⟨gb365, 8, none⟩ (.slice A364_8 ((rd_T68 l0 x10_1).f3).length c364_8))) := ⟨by repeat (first | (with_reducible first | exact HB.out | apply below_alloc | apply pw_below_drewN | apply below_drew1 | refine below_set ?_ GE365.out) | exact HB.out)⟩
       (try clear HO_5)
       (try clear BK365)
       (try clear HB)
       generalize (((((((((w10.setCell ⟨gb365, 0, none⟩ (.string ((rd_T68 l0 x10_1).f0))).setCell ⟨gb365, 1, none⟩ (.slice A364_1 ((rd_T68 l0 x10_1).f1).length c364_1)).setCell ⟨gb365, 2, none⟩ (.int .i64 ((rd_T68 l0 x10_1).f2.f0))).setCell ⟨gb365, 3, none⟩ (.string ((rd_T68 l0 x10_1).f2.f1))).setCell ⟨gb365, 4, none⟩ (.int .i64 ((rd_T68 l0 x10_1).f2.f2))).setCell ⟨gb365, 5, none⟩ (.slice A364_5 ((rd_T68 l0 x10_1).f2.f3).length c364_5)).setCell ⟨gb365, 6, none⟩ (.slice A364_6 ((rd_T68 l0 x10_1).f2.f4).length c364_6)).setCell ⟨gb365, 7, none⟩ (.slice A364_7 ((rd_T68 l0 x10_1).f2.f5).length c364_7)).setCell ⟨gb365, 8, none⟩ (.slice A364_8 ((rd_T68 l0 x10_1).f3).length c364_8)) = w12 at n0_ n1_ n2_ ⊢
       have HO_5 := n0_
       have BK365 := n1_
       have HB := n2_
       clear n0_ n1_ n2_
       have n0_ := Aside0.mk (Kd.R_drew HO_5.out)
       have n1_ := Aside0.mk (blk_drew BK365.out)
       have n2_ := Aside0.mk (below_drew1 HB.out)
       clear HO_5
       clear BK365
       clear HB
       have HO_5 := n0_
       have BK365 := n1_
       have HB := n2_
       clear n0_ n1_ n2_
       refine start_ (n := 18) (S := fun w' => w'.cell? ⟨gb365, 0, none⟩ = some (.string ((rd_T68 l0 x10_1).f0)) ∧ w'.cell? ⟨gb365, 1, none⟩ = some (.slice A364_1 ((rd_T68 l0 x10_1).f1).length c364_1) ∧ w'.cell? ⟨gb365, 2, none⟩ = some (.int .i64 ((rd_T68 l0 x10_1).f2.f0)) ∧ w'.cell? ⟨gb365, 3, none⟩ = some (.string ((rd_T68 l0 x10_1).f2.f1)) ∧ w'.cell? ⟨gb365, 4, none⟩ = some (.int .i64 ((rd_T68 l0 x10_1).f2.f2)) ∧ w'.cell? ⟨gb365, 5, none⟩ = some (.slice A364_5 ((rd_T68 l0 x10_1).f2.f3).length c364_5) ∧ w'.cell? ⟨gb365, 6, none⟩ = some (.slice A364_6 ((rd_T68 l0 x10_1).f2.f4).length c364_6) ∧ w'.cell? ⟨gb365, 7, none⟩ = some (.slice A364_7 ((rd_T68 l0 x10_1).f2.f5).length c364_7) ∧ w'.cell? ⟨gb365, 8, none⟩ = some (.slice A364_8 ((rd_T68 l0 x10_1).f3).length c364_8)) (ds := []) #[false, false, false, false, false, false, false, false, false, false, false, false, false, false, false, false, false, false] (by kernel_rfl) rfl rfl ⟨(blk_cell BK365.out 0).trans rfl, (blk_cell BK365.out 1).trans rfl, (blk_cell BK365.out 2).trans rfl, (blk_cell BK365.out 3).trans rfl, (blk_cell BK365.out 4).trans rfl, (blk_cell BK365.out 5).trans rfl, (blk_cell BK365.out 6).trans rfl, (blk_cell BK365.out 7).trans rfl, (blk_cell BK365.out 8).trans rfl⟩ (fun hHeld => ?_); refine with_tabW D_tab5 D_bits5 (fun HT_ HW_ => ?_)
       generalize w12.drew = w13 at HO_5 BK365 HB hHeld ⊢
       refine pure_ (i := 0) (N := some 14) (v := ?_) (a' := ?_) #[true, false, false, false, false, false, false, false, false, false, false, false, false, false, false, false, false, false] rfl rfl (any_of HT_.out (by kernel_rfl)) (fun _ _ _ h => h) (Or.inl ⟨by rfl, ?_⟩) ?_ ?_
       rotate_left
       ·intro w'
        go_simp
        with_reducible rfl
       rotate_left
       ·simp only [Act.put, List.setIfInBounds_toArray, List.set_cons_zero, List.set_cons_succ, i64_w, i32_w]
        rfl
       refine pure_ (i := 1) (N := some 15) (v := ?_) (a' := ?_) #[true, true, false, false, false, false, false, false, false, false, false, false, false, false, false, false, false, false] rfl rfl (any_of HT_.out (by kernel_rfl)) (fun _ _ _ h => h) (Or.inl ⟨by rfl, ?_⟩) ?_ ?_
       rotate_left
       ·intro w'
        go_simp
        with_reducible rfl
       rotate_left
       ·simp only [Act.put, List.setIfInBounds_toArray, List.set_cons_zero, List.set_cons_succ, i64_w, i32_w]
        rfl
       refine pure_ (i := 3) (N := some 17) (v := ?_) (a' := ?_) #[true, true, false, true, false, false, false, false, false, false, false, false, false, false, false, false, false, false] rfl rfl (any_of HT_.out (by kernel_rfl)) (fun _ _ _ h => h) (Or.inl ⟨by rfl, ?_⟩) ?_ ?_
       rotate_left
       ·intro w'
        go_simp
        with_reducible rfl
       rotate_left
       ·simp only [Act.put, List.setIfInBounds_toArray, List.set_cons_zero, List.set_cons_succ, i64_w, i32_w]
        rfl
       refine pure_ (i := 6) (N := some 20) (v := ?_) (a' := ?_) #[true, true, false, true, false, false, true, false, false, false, false, false, false, false, false, false, false, false] rfl rfl (any_of HT_.out (by kernel_rfl)) (fun _ _ _ h => h) (Or.inl ⟨by rfl, ?_⟩) ?_ ?_
       rotate_left
       ·intro w'
        go_simp
        with_reducible rfl
       rotate_left
       ·simp only [Act.put, List.setIfInBounds_toArray, List.set_cons_zero, List.set_cons_succ, i64_w, i32_w]
        rfl
       refine pure_ (i := 7) (N := some 21) (v := ?_) (a' := ?_) #[true, true, false, true, false, false, true, true, false, false, false, false, false, false, false, false, false, false] rfl rfl (any_of HT_.out (by kernel_rfl)) (fun _ _ _ h => h) (Or.inl ⟨by rfl, ?_⟩) ?_ ?_
       rotate_left
       ·intro w'
        go_simp
        with_reducible rfl
       rotate_left
       ·simp only [Act.put, List.setIfInBounds_toArray, List.set_cons_zero, List.set_cons_succ, i64_w, i32_w]
        rfl
       refine pure_ (i := 10) (N := some 24) (v := ?_) (a' := ?_) #[true, true, false, true, false, false, true, true, false, false, true, false, false, false, false, false, false, false] rfl rfl (any_of HT_.out (by kernel_rfl)) (fun _ _ _ h => h) (Or.inl ⟨by rfl, ?_⟩) ?_ ?_
       rotate_left
       ·intro w'
        go_simp
        with_reducible rfl
       rotate_left
       ·simp only [Act.put, List.setIfInBounds_toArray, List.set_cons_zero, List.set_cons_succ, i64_w, i32_w]
        rfl
       refine pure_ (i := 12) (N := some 26) (v := ?_) (a' := ?_) #[true, true, false, true, false, false, true, true, false, false, true, false, true, false, false, false, false, false] rfl rfl (any_of HT_.out (by kernel_rfl)) (fun _ _ _ h => h) (Or.inl ⟨by rfl, ?_⟩) ?_ ?_
       rotate_left
       ·intro w'
        go_simp
        with_reducible rfl
       rotate_left
       ·simp only [Act.put, List.setIfInBounds_toArray, List.set_cons_zero, List.set_cons_succ, i64_w, i32_w]
        rfl
       refine take_ (i := 2) (N := some 16) (v := ?_) (a' := ?_) #[true, true, true, true, false, false, true, true, false, false, true, false, true, false, false, false, false, false] rfl rfl (take_ofW HT_.out HW_.out (by kernel_rfl)) (fun _ _ _ h => h) (Or.inl ⟨by rfl, ?_⟩) hHeld ?_ ?_
       rotate_left
       ·rintro w' ⟨s0, s1, s2, s3, s4, s5, s6, s7, s8⟩
        go_simp
        with_reducible rfl
       rotate_left
       ·simp only [Act.put, List.setIfInBounds_toArray, List.set_cons_zero, List.set_cons_succ, i64_w, i32_w]
        rfl
       refine take_ (i := 4) (N := some 18) (v := ?_) (a' := ?_) #[true, true, true, true, true, false, true, true, false, false, true, false, true, false, false, false, false, false] rfl rfl (take_ofW HT_.out HW_.out (by kernel_rfl)) (fun _ _ _ h => h) (Or.inl ⟨by rfl, ?_⟩) hHeld ?_ ?_
       rotate_left
       ·rintro w' ⟨s0, s1, s2, s3, s4, s5, s6, s7, s8⟩
        go_simp
        with_reducible rfl
       rotate_left
       ·simp only [Act.put, List.setIfInBounds_toArray, List.set_cons_zero, List.set_cons_succ, i64_w, i32_w]
        rfl
       refine take_ (i := 8) (N := some 22) (v := ?_) (a' := ?_) #[true, true, true, true, true, false, true, true, true, false, true, false, true, false, false, false, false, false] rfl rfl (take_ofW HT_.out HW_.out (by kernel_rfl)) (fun _ _ _ h => h) (Or.inl ⟨by rfl, ?_⟩) hHeld ?_ ?_
       rotate_left
       ·rintro w' ⟨s0, s1, s2, s3, s4, s5, s6, s7, s8⟩
        go_simp
        with_reducible rfl
       rotate_left
       ·simp only [Act.put, List.setIfInBounds_toArray, List.set_cons_zero, List.set_cons_succ, i64_w, i32_w]
        rfl
       refine take_ (i := 11) (N := some 25) (v := ?_) (a' := ?_) #[true, true, true, true, true, false, true, true, true, false, true, true, true, false, false, false, false, false] rfl rfl (take_ofW HT_.out HW_.out (by kernel_rfl)) (fun _ _ _ h => h) (Or.inl ⟨by rfl, ?_⟩) hHeld ?_ ?_
       rotate_left
       ·rintro w' ⟨s0, s1, s2, s3, s4, s5, s6, s7, s8⟩
        go_simp
        with_reducible rfl
       rotate_left
       ·simp only [Act.put, List.setIfInBounds_toArray, List.set_cons_zero, List.set_cons_succ, i64_w, i32_w]
        rfl
       refine one_ (i := 5) (N := some 19) #[true, true, true, true, true, true, true, true, true, false, true, true, true, false, false, false, false, false] rfl rfl (one_of HT_.out (by kernel_rfl)) (by decide) (fun K hK => ?_)
       refine goes_ Try.func66 (by kernel_rfl) rfl #[.slice A364_1 ((rd_T68 l0 x10_1).f1).length c364_1] (by rfl) rfl rfl (by (try simp only [List.map_toArray, List.map_cons, List.map_nil]); first | done | rfl | (simp only [List.length_drop, List.length_take]; rfl)) ?_
       with_reducible refine (slices_Clone.calls _ _ ((rd_T68 l0 x10_1).f1) t366 _ ?side1 ?side2 A6.out).mono ?_
       (case side1 => repeat (first | exact (Kd.C_below HR364_1.out HB.out) | (with_reducible refine Kd.C_alloc ?_ _) | (with_reducible refine Kd.C_drewN ?_ _) | (with_reducible refine Kd.C_drew ?_)))
       (case side2 => exact HC364_1.out)
       rintro e w14 ⟨v367, rfl, ho0, hb⟩
       obtain ⟨Ao21, co21, rfl⟩ := Kd.R_slice ho0
       refine ⟨_, rfl, ?_⟩
       have HG_ := Aside0.mk (blk_lt BK365.out)
       have HU_ := Aside0.mk (Kd.R_lt HO_5.out)
       have HX_ := Aside0.mk (fun b hb => (AtL_blk _ (Kd.it_row HO_5.out (by simp)).1 b hb).1)
       have HW_ := Aside0.mk (below_size HB.out)
       have P1_ := Aside0.mk (str_row ho0)
       have S1_ := Aside0.mk (below_size hb)
       have n0_ := Aside0.mk (Kd.R_below HO_5.out hb)
       have n2_ := Aside0.mk (blk_below BK365.out hb)
       have n3_ := Aside0.mk (below_step HB.out hb)
       clear HO_5 BK365 HB ho0 hb
       have HO_5 := n0_
       have BK365 := n2_
       have HB := n3_
       clear n0_ n2_ n3_
       refine hK.out _ _ ⟨(blk_cell BK365.out 0).trans rfl, (blk_cell BK365.out 1).trans rfl, (blk_cell BK365.out 2).trans rfl, (blk_cell BK365.out 3).trans rfl, (blk_cell BK365.out 4).trans rfl, (blk_cell BK365.out 5).trans rfl, (blk_cell BK365.out 6).trans rfl, (blk_cell BK365.out 7).trans rfl, (blk_cell BK365.out 8).trans rfl⟩ (fun hHeld => ?_)
       clear hK K
       refine norm_ (a' := ?_) ?_ ?_
       rotate_left
       ·show Act.put _ (some 19) _ = _
        simp only [Act.put, List.setIfInBounds_toArray, List.set_cons_zero, List.set_cons_succ, i64_w, i32_w]
        rfl
       refine one_ (i := 9) (N := some 23) #[true, true, true, true, true, true, true, true, true, true, true, true, true, false, false, false, false, false] rfl rfl (one_of HT_.out (by kernel_rfl)) (by decide) (fun K hK => ?_)
       refine goesD_ Try.func22 (by kernel_rfl) rfl #[.agg #[.int .i64 ((rd_T68 l0 x10_1).f2.f0), .string ((rd_T68 l0 x10_1).f2.f1), .int .i64 ((rd_T68 l0 x10_1).f2.f2), .slice A364_5 ((rd_T68 l0 x10_1).f2.f3).length c364_5, .slice A364_6 ((rd_T68 l0 x10_1).f2.f4).length c364_6, .slice A364_7 ((rd_T68 l0 x10_1).f2.f5).length c364_7]] (by rfl) rfl rfl rfl (by (try simp only [List.map_toArray, List.map_cons, List.map_nil, List.append_toArray, List.cons_append, List.nil_append]); first | done | rfl) ?_
       with_reducible refine (ih_E n1 (Nat.lt_succ_self n1) ((rd_T68 l0 x10_1).f2) _ _ _ _ _ _ _ ⟨⟨Kd.C_below HR364_5.out HB.out, HC364_5.out⟩, ⟨Kd.C_below HR364_6.out HB.out, HC364_6.out⟩, ⟨Kd.C_below HR364_7.out HB.out, HC364_7.out⟩⟩ HSQ.out.2.1).mono ?_
       rintro e w15 ⟨E3, d3, y3, E4, d4, y4, E5, d5, y5, rfl, hc, hb⟩
       refine ⟨_, rfl, ?_⟩
       have P2_ := Aside0.mk hc
       have S2_ := Aside0.mk (below_size hb)
       have n4_ := Aside0.mk (AtL_below P1_.out.1 hb)
       have n0_ := Aside0.mk (Kd.R_below HO_5.out hb)
       have n2_ := Aside0.mk (blk_below BK365.out hb)
       have n3_ := Aside0.mk (below_step HB.out hb)
       clear HO_5 BK365 HB hc hb
       have HO_5 := n0_
       have BK365 := n2_
       have HB := n3_
       have Q1_ := n4_
       clear n0_ n2_ n3_ n4_
       refine hK.out _ _ ⟨(blk_cell BK365.out 0).trans rfl, (blk_cell BK365.out 1).trans rfl, (blk_cell BK365.out 2).trans rfl, (blk_cell BK365.out 3).trans rfl, (blk_cell BK365.out 4).trans rfl, (blk_cell BK365.out 5).trans rfl, (blk_cell BK365.out 6).trans rfl, (blk_cell BK365.out 7).trans rfl, (blk_cell BK365.out 8).trans rfl⟩ (fun hHeld => ?_)
       clear hK K
       refine norm_ (a' := ?_) ?_ ?_
       rotate_left
       ·show Act.put _ (some 23) _ = _
        simp only [Act.put, List.setIfInBounds_toArray, List.set_cons_zero, List.set_cons_succ, i64_w, i32_w]
        rfl
       refine one_ (i := 13) (N := some 27) #[true, true, true, true, true, true, true, true, true, true, true, true, true, true, false, false, false, false] rfl rfl (one_of HT_.out (by kernel_rfl)) (by decide) (fun K hK => ?_)
       refine goes_ Try.func65 (by kernel_rfl) rfl #[.slice A364_8 ((rd_T68 l0 x10_1).f3).length c364_8, CF] (by rfl) rfl rfl (by (try simp only [List.map_toArray, List.map_cons, List.map_nil]); first | done | rfl | (simp only [List.length_drop, List.length_take]; rfl)) ?_
       with_reducible refine (ih_D n1 (Nat.lt_succ_self n1) _ _ ((rd_T68 l0 x10_1).f3) _ (Kd.C_below HR364_8.out HB.out) HC364_8.out HSQ.out.2.2).mono ?_
       rintro e w16 ⟨E8, d8, y8, rfl, hc, hb⟩
       refine ⟨_, rfl, ?_⟩
       have h3a_ := hc.at_
       have h3p_ := hc.part
       simp only [List.length_map] at h3a_ h3p_
       have P3A := Aside0.mk h3a_
       have P3P := Aside0.mk h3p_
       have P3_ := Aside0.mk hc
       clear h3a_ h3p_
       have S3_ := Aside0.mk (below_size hb)
       have n4_ := Aside0.mk (AtL_below Q1_.out hb)
       have n5_ := Aside0.mk (AtL_below P2_.out.at_ hb)
       have n0_ := Aside0.mk (Kd.R_below HO_5.out hb)
       have n2_ := Aside0.mk (blk_below BK365.out hb)
       have n3_ := Aside0.mk (below_step HB.out hb)
       clear HO_5 BK365 HB hc hb Q1_
       have HO_5 := n0_
       have BK365 := n2_
       have HB := n3_
       have Q1_ := n4_
       have Q2_ := n5_
       clear n0_ n2_ n3_ n4_ n5_
       obtain ⟨el, hel⟩ : ∃ el : List It, el = [.s ((rd_T68 l0 x10_1).f0), .r 9 1 (.slice Ao21 t366.length co21) t366.length (t366.map It.s), .i ((gE n1 (rd_T68 l0 x10_1).f2).f0), .s ((gE n1 (rd_T68 l0 x10_1).f2).f1), .i ((gE n1 (rd_T68 l0 x10_1).f2).f2), .r 33 6 (.slice E3 ((gE n1 (rd_T68 l0 x10_1).f2).f3).length d3) ((gE n1 (rd_T68 l0 x10_1).f2).f3).length y3, .r 68 9 (.slice E4 ((gE n1 (rd_T68 l0 x10_1).f2).f4).length d4) ((gE n1 (rd_T68 l0 x10_1).f2).f4).length y4, .r 53 8 (.slice E5 ((gE n1 (rd_T68 l0 x10_1).f2).f5).length d5) ((gE n1 (rd_T68 l0 x10_1).f2).f5).length y5, .r 68 9 (.slice E8 ((rd_T68 l0 x10_1).f3).length d8) ((rd_T68 l0 x10_1).f3).length y8] := ⟨_, rfl⟩
       have hbl : blksL el = blksL ([.r 9 1 (.slice Ao21 t366.length co21) t366.length (t366.map It.s)] ++ (rows3 E3 ((gE n1 (rd_T68 l0 x10_1).f2).f3).length d3 y3 E4 ((gE n1 (rd_T68 l0 x10_1).f2).f4).length d4 y4 E5 ((gE n1 (rd_T68 l0 x10_1).f2).f5).length d5 y5 ++ [.r 68 9 (.slice E8 ((rd_T68 l0 x10_1).f3).length d8) ((rd_T68 l0 x10_1).f3).length y8])) := by
        subst hel
        simp [blksL, It.blks]
       have hpart := P1_.out.2.join (P2_.out.part.join P3P.out S2_.out S3_.out) S1_.out (Nat.le_trans S2_.out S3_.out)
       have PE_ : Aside0 (Part _ _ el) := ⟨⟨by rw [hbl]; exact hpart.nd, by rw [hbl]; exact hpart.ge, by rw [hbl]; exact hpart.lt⟩⟩
       have QE_ : Aside0 (AtL w16 el) := ⟨by
        subst hel
        have q1 := Q1_.out
        have q2 := Q2_.out
        have q3 := P3A.out
        simp only [AtL, and_true] at q1 q2 q3 ⊢
        exact ⟨by simp only [It.At], q1, by simp only [It.At], by simp only [It.At], by simp only [It.At], q2.1, q2.2.1, q2.2.2, q3⟩⟩
       have HJ2 : Aside0 (RepDs ((l0.take (j5 + 1)).map (gD (n1 + 1))) (x5_1 ++ [el]).flatten ∧ (blksL (x5_1 ++ [el]).flatten).Nodup) := ⟨by
        obtain ⟨hj0, hj1, hj2, hj3, hj4⟩ := HJ.out
        have hjl : j5 < l0.length := by have := of_eq_true q364; omega
        have hrd : rd_T68 l0 x10_1 = l0[j5] := by rw [hj0]; unfold rd_T68; rw [Int.toNat_natCast, List.getD_eq_getElem?_getD, List.getElem?_eq_getElem hjl]; rfl
        have ht : t366 = (rd_T68 l0 x10_1).f1 := by
         have := A6.out
         unfold slices_Clone.f at this
         split at this
         · exact (Option.some.inj this).symm
         · cases this
        refine ⟨?_, ?_⟩
        · rw [take_snoc l0 j5 hjl, List.map_append, List.map_cons, List.map_nil, List.flatten_append, List.flatten_cons, List.flatten_nil, List.append_nil]
          refine hj3.snoc ?_
          have hD := RepD.mk (x := (⟨(rd_T68 l0 x10_1).f0, (rd_T68 l0 x10_1).f1, gE n1 (rd_T68 l0 x10_1).f2, (rd_T68 l0 x10_1).f3.map (gD n1)⟩ : S68)) (v1 := .slice Ao21 t366.length co21) (v8 := .slice E8 ((rd_T68 l0 x10_1).f3).length d8) (RepE.mk (x := gE n1 (rd_T68 l0 x10_1).f2) (v3 := .slice E3 ((gE n1 (rd_T68 l0 x10_1).f2).f3).length d3) (v4 := .slice E4 ((gE n1 (rd_T68 l0 x10_1).f2).f4).length d4) (v5 := .slice E5 ((gE n1 (rd_T68 l0 x10_1).f2).f5).length d5) P2_.out.r3 P2_.out.r4 P2_.out.r5) P3_.out.rd
          rw [hel, ht, ← hrd, gD]
          rw [ht] at hD
          simp only [List.length_map] at hD
          exact hD
        · rw [List.flatten_append, blksL_app]
          refine List.nodup_append.2 ⟨hj4, by simpa [List.flatten_cons] using PE_.out.nd, fun a ha b hb e => ?_⟩
          have h1 := HX_.out a (by simp only [blksL, It.blks, List.append_nil]; exact List.mem_append_right _ ha)
          have h2 := PE_.out.ge b (by simpa [List.flatten_cons] using hb)
          omega⟩
       refine hK.out _ _ ⟨(blk_cell BK365.out 0).trans rfl, (blk_cell BK365.out 1).trans rfl, (blk_cell BK365.out 2).trans rfl, (blk_cell BK365.out 3).trans rfl, (blk_cell BK365.out 4).trans rfl, (blk_cell BK365.out 5).trans rfl, (blk_cell BK365.out 6).trans rfl, (blk_cell BK365.out 7).trans rfl, (blk_cell BK365.out 8).trans rfl⟩ (fun hHeld => ?_)
       clear hK K
       refine norm_ (a' := ?_) ?_ ?_
       rotate_left
       ·show Act.put _ (some 27) _ = _
        simp only [Act.put, List.setIfInBounds_toArray, List.set_cons_zero, List.set_cons_succ, i64_w, i32_w]
        rfl
       refine pure_ (i := 14) (N := some 28) (v := ?_) (a' := ?_) #[true, true, true, true, true, true, true, true, true, true, true, true, true, true, true, false, false, false] rfl rfl (any_of HT_.out (by kernel_rfl)) (fun _ _ _ h => h) (Or.inl ⟨by rfl, ?_⟩) ?_ ?_
       rotate_left
       ·intro w'
        go_simp
        with_reducible rfl
       rotate_left
       ·simp only [Act.put, List.setIfInBounds_toArray, List.set_cons_zero, List.set_cons_succ, i64_w, i32_w]
        rfl
       refine one_ (i := 15) (N := some 29) #[true, true, true, true, true, true, true, true, true, true, true, true, true, true, true, true, false, false] rfl rfl (one_of HT_.out (by kernel_rfl)) (by decide) (fun K hK => ?_)
       refine value_ (w1 := ?_) (v := ?_) (by rfl) rfl ?_ ?_
       rotate_left 2
       ·go_simp
        constructor
        ·rfl
        ·rfl
       refine hK.out _ _ ⟨(blk_cell (blk_alloc BK365.out _) 0).trans rfl, (blk_cell (blk_alloc BK365.out _) 1).trans rfl, (blk_cell (blk_alloc BK365.out _) 2).trans rfl, (blk_cell (blk_alloc BK365.out _) 3).trans rfl, (blk_cell (blk_alloc BK365.out _) 4).trans rfl, (blk_cell (blk_alloc BK365.out _) 5).trans rfl, (blk_cell (blk_alloc BK365.out _) 6).trans rfl, (blk_cell (blk_alloc BK365.out _) 7).trans rfl, (blk_cell (blk_alloc BK365.out _) 8).trans rfl⟩ (fun hHeld => ?_)
       clear hK K
       refine norm_ (a' := ?_) ?_ ?_
       rotate_left
       ·show Act.put _ (some 29) _ = _
        simp only [Act.put, List.setIfInBounds_toArray, List.set_cons_zero, List.set_cons_succ, i64_w, i32_w]
        rfl
       refine one_ (i := 16) (N := some 30) #[true, true, true, true, true, true, true, true, true, true, true, true, true, true, true, true, true, false] rfl rfl (one_of HT_.out (by kernel_rfl)) (by decide) (fun K hK => ?_)
       refine Kd.R_append_step (Kd.it 9) (w0 := w) w.heap.size (by rfl) (.tmp 14) (.tmp 29) 30 68 (.agg #[(.string ⟨#[]⟩), (.slice none 0 0), (.int .i64 0), (.string ⟨#[]⟩), (.int .i64 0), (.slice none 0 0), (.slice none 0 0), (.slice none 0 0), (.slice none 0 0)]) 168 rfl Try.underlying30 info68 rfl (by decide) (by omega) u5 x5_1 el [.string ((rd_T68 l0 x10_1).f0), .slice Ao21 t366.length co21, .int .i64 ((gE n1 (rd_T68 l0 x10_1).f2).f0), .string ((gE n1 (rd_T68 l0 x10_1).f2).f1), .int .i64 ((gE n1 (rd_T68 l0 x10_1).f2).f2), .slice E3 ((gE n1 (rd_T68 l0 x10_1).f2).f3).length d3, .slice E4 ((gE n1 (rd_T68 l0 x10_1).f2).f4).length d4, .slice E5 ((gE n1 (rd_T68 l0 x10_1).f2).f5).length d5, .slice E8 ((rd_T68 l0 x10_1).f3).length d8] (fun k_ => k_ ≠ gb365) (fun k_ => ((fun k_ => k_ ≠ gb365)) k_ ∧ some k_ ≠ (u5 : Value).ownBlock) rfl rfl ?aP (fun _ hk => hk) ?aF ?aO ?aB ?aS ?aL ?_
       (case aP => exact ⟨by rw [hel]; rfl, by rw [hel]; rfl, QE_.out, fun b hb => ⟨⟨by have := PE_.out.ge b hb; have := HG_.out; omega, fun e => by have := PE_.out.ge b hb; have := HU_.out b e.symm; omega⟩, by have := PE_.out.ge b hb; have := HW_.out; omega⟩⟩)
       (case aB => exact HB.out)
       (case aF => exact (fun k_ hk => Kd.freshB BK365.out k_ hk))
       (case aO => exact HO_5.out)
       (case aS => exact (below_size HB.out))
       (case aL => have := LMc9.out; have := HJ.out.2.1; omega)
       intro v385 w22 ho hb hg hat
       have n0_ := Aside0.mk (blk_grown (g := gb365) BK365.out hg (Kd.R_away HO_5.out (fun _ hk => hk)))
       have n1_ := Aside0.mk (hb)
       have n2_ := Aside0.mk (ho)
       clear BK365
       clear HB
       clear HO_5
       have BK365 := n0_
       have HB := n1_
       have HO386 := n2_
       clear n0_ n1_ n2_
       clear ho hb hg hat
       refine hK.out _ _ ⟨(blk_cell BK365.out 0).trans rfl, (blk_cell BK365.out 1).trans rfl, (blk_cell BK365.out 2).trans rfl, (blk_cell BK365.out 3).trans rfl, (blk_cell BK365.out 4).trans rfl, (blk_cell BK365.out 5).trans rfl, (blk_cell BK365.out 6).trans rfl, (blk_cell BK365.out 7).trans rfl, (blk_cell BK365.out 8).trans rfl⟩ (fun hHeld => ?_)
       clear hK K
       refine norm_ (a' := ?_) ?_ ?_
       rotate_left
       ·show Act.put _ (some 30) _ = _
        simp only [Act.put, List.setIfInBounds_toArray, List.set_cons_zero, List.set_cons_succ, i64_w, i32_w]
        rfl
       refine pure_ (i := 17) (N := some 5) (v := ?_) (a' := ?_) #[true, true, true, true, true, true, true, true, true, true, true, true, true, true, true, true, true, true] rfl rfl (any_of HT_.out (by kernel_rfl)) (fun _ _ _ h => h) (Or.inl ⟨by rfl, ?_⟩) ?_ ?_
       rotate_left
       ·intro w'
        go_simp
        with_reducible rfl
       rotate_left
       ·simp only [Act.put, List.setIfInBounds_toArray, List.set_cons_zero, List.set_cons_succ, i64_w, i32_w]
        rfl
       refine done_ (done_of HT_.out (by kernel_rfl)) ?_
       try go_wp2
       go_roundg k1
       case measure => have := HK1.out; omega
       case rel => exact ⟨x5_1 ++ [el], (wrap64 (x10_1 + 1)), j5 + 1, (by first | rfl | (simp; done) | (simp [*]; done)), ⟨by obtain ⟨hj0, _, hj2, _, _⟩ := HJ.out; have := HA.out; have := of_eq_true q364; omega⟩, ⟨by have := HK1.out; omega⟩, ⟨Kd.R_mono HO386.out (fun _ hk => trivial)⟩, ⟨HB.out⟩, ⟨by obtain ⟨hj0, hj1, hj2, hj3, hj4⟩ := HJ.out; have hjl : j5 < l0.length := (by have := of_eq_true q364; omega); have := LMc9.out; exact ⟨by rw [hj0]; unfold wrap64; omega, by rw [List.length_append, hj1]; rfl, hjl, HJ2.out.1, HJ2.out.2⟩⟩⟩
   ·skip
    have c3b0 : decide (x10_1 < (l0.length : Int)) = false := decide_eq_false c3
    clear c3
    have hfin : Aside0 (∃ Ao co, u5 = .slice Ao (l0.map (gD n)).length co ∧ CopD w.heap.size wr (l0.map (gD n)) Ao co x5_1.flatten) := ⟨by
     obtain ⟨hj0, hj1, hj2, hj3, hj4⟩ := HJ.out
     have hjl : j5 = l0.length := by have := of_decide_eq_false c3b0; omega
     obtain ⟨Ao30, co30, eo30⟩ := Kd.R_slice HO_5.out
     have hr := Kd.it_row HO_5.out (by simp)
     have hlm : (l0.map (gD n)).length = l0.length := by simp
     rw [hj1, hjl, ← hlm] at eo30 hr
     subst eo30
     refine ⟨Ao30, co30, rfl, hr.1, ⟨hr.2.2 hj4, fun b hb => (hr.2.1 b hb).2, fun b hb => (AtL_blk _ hr.1 b hb).1⟩, ?_⟩
     rw [hjl, List.take_length] at hj3
     exact hj3⟩
    obtain ⟨Ao30, co30, rfl, hcop⟩ := hfin.out
    clear hfin
    have HCP := Aside0.mk hcop
    clear hcop
    go_wp2
    go_ret
    exact ⟨Ao30, co30, x5_1.flatten, rfl, HCP.out, by repeat (first | (with_reducible first | exact HB.out | apply below_alloc | apply pw_below_drewN | apply below_drew1) | exact HB.out)⟩
end Go.Proofs.Ytpndcfibjjkgcaa.MyItc

/- The walk of the function that goes through definitions, with the counting literal: turned from a printed walk. No condition. -/
import Derived.Test.YtpndcfibjjkgcaaMyCnt
namespace Go.Proofs.Ytpndcfibjjkgcaa.MyCnt
open Go.RowKit Go.Proofs.YtpndcfibjjkgcaaW.PrintWords Go.Proofs.YtpndcfibjjkgcaaW.PrintLast Go.Proofs.YtpndcfibjjkgcaaW.PrintMore Go.Proofs.Ytpndcfibjjkgcaa.PIfg Go.Proofs.Ytpndcfibjjkgcaa.MyClone
attribute [local go_sem] max2_int min2_int max_two min_two max_three min_three max_four min_four
set_option linter.unusedVariables false
set_option linter.unusedSimpArgs false
def D_T5 : Bool × List (List Nat × List Nat) := (true, [([], []), ([], []), ([1], [1]), ([], []), ([3], [3]), ([4], [4]), ([], []), ([], []), ([7], [7]), ([6, 8, 5], [6, 8]), ([], []), ([10], [10]), ([], []), ([11, 12, 9], [11, 12]), ([2, 5, 9, 13], [2, 5, 9, 13]), ([14], [14]), ([0, 15, 13], [0, 15]), ([16, 16, 0, 1, 2, 3, 4, 5, 6, 7, 8, 9, 10, 11, 12, 13, 14, 15, 16], [0, 16])])
def D_B5 : List Nat := [0, 0, 2, 0, 8, 24, 0, 0, 128, 504, 0, 1024, 0, 8184, 16382, 32766, 65535, 131071]
theorem D_tab5 : rtab .any (opsOf Try.f65 5) = D_T5 := by kernel_rfl
theorem D_bits5 : waitsOk D_T5.2 D_B5 = true := by kernel_rfl
set_option maxHeartbeats 8000000 in
set_option maxRecDepth 100000 in
theorem stepD (k : Nat) (ih_L : ∀ m_, m_ < k → AtL m_) (ih_D : ∀ m_, m_ < k → AtD m_) : AtD k := by
 intro A0 c0 l0 n r w0 wS gN gP hw hr0 hc0 h
 cases k with
 | zero => exact absurd h (by simp [cD])
 | succ k =>
 simp only [cD] at h
 have hu68 := Try.underlying68
 have hu33 := Try.underlying33
 have HR0 := Aside0.mk hr0
 have HC0 := Aside0.mk hc0
 clear hr0 hc0
 obtain ⟨w, HW_, HB_⟩ : ∃ w : World, Cnt w0 wS w gN gP n ∧ Below w.heap.size w wS := ⟨wS, hw, Below.refl _ _⟩
 have HW := Aside0.mk HW_
 have HB := Aside0.mk HB_
 clear HW_ HB_ hw
 have H' := Aside0.mk h
 clear h
 go_enter Try.func65, Try.ntmps65
 go_wp2
 go_loopg [5, 10] k (fun kq v5 v10 w' => ∃ (x5_1 : List Unit) (x10_1 : Int) (nn : Int) (w : World), v10 = .int .i64 x10_1 ∧ Aside0 (cD0 kq l0 x10_1 x5_1 nn = some r) ∧ Aside0 (kq ≤ k) ∧ Aside0 (Kd.R (Kd.opq 9) 68 w' w.heap.size (fun _ => True) v5 x5_1) ∧ Aside0 (Below w.heap.size w w') ∧ Aside0 (Cnt w0 wS w gN gP nn))
 case atStart => exact ⟨[], 0, n, w, (by first | rfl | (simp; done) | (simp [*]; done)), H', ⟨Nat.le_refl _⟩, ⟨Kd.R_nil _ _ _ _ _⟩, ⟨by repeat (first | (with_reducible first | exact HB.out | apply below_alloc | apply pw_below_drewN | apply below_drew1) | exact HB.out)⟩, HW⟩
 case round =>
  clear H' HB HW
  try clear p2
  obtain ⟨x5_1, x10_1, nn, w, rfl, HA, HK1, HO_5, HB, HW⟩ := hrel
  cases gk with
  | zero => exact absurd HA.out (by simp [cD0])
  | succ k1 =>
   have H := HA.out
   clear HA
   simp only [cD0] at H
   by_cases c3 : x10_1 < (l0.length : Int)
   ·rw [if_pos c3] at H
    have c3b0 : decide (x10_1 < (l0.length : Int)) = true := decide_eq_true c3
    clear c3
    by_cases c4 : 0 ≤ x10_1
    ·rw [if_pos c4] at H
     have c4b0 : decide (0 ≤ x10_1) = true := decide_eq_true c4
     clear c4
     by_cases c5 : x10_1 < (l0.length : Int)
     ·rw [if_pos c5] at H
      have c5b0 : decide (x10_1 < (l0.length : Int)) = true := decide_eq_true c5
      clear c5
      replace H := Option.bind_eq_some_iff.mp H
      obtain ⟨t366, A60, H⟩ := H
      have A6 := Aside0.mk A60
      clear A60
      replace H := Option.bind_eq_some_iff.mp H
      obtain ⟨m1, A70, H⟩ := H
      have A7 := Aside0.mk A70
      clear A70
      replace H := Option.bind_eq_some_iff.mp H
      obtain ⟨m2, A80, H⟩ := H
      have A8 := Aside0.mk A80
      clear A80
      by_cases c9 : x5_1.length < 837723144972
      ·rw [if_pos c9] at H
       have LMc9 := Aside0.mk c9
       clear c9
       obtain ⟨y384, hy384⟩ : ∃ y_ : List Unit, y_ = x5_1 ++ [()] := ⟨_, rfl⟩
       rw [← hy384] at H
       have Ny384 := Aside0.mk hy384
       clear hy384
       have H' := Aside0.mk H
       clear H
       have p364 : 0 ≤ (x10_1 : Int) := of_decide_eq_true (by first | (with_reducible assumption) | assumption)
       have q364 : x10_1 < (l0.length : Int) := of_decide_eq_true (by first | (with_reducible assumption) | assumption)
       obtain ⟨ad364, A364_1, c364_1, A364_5, c364_5, A364_6, c364_6, A364_7, c364_7, A364_8, c364_8, e364, hx364_0, hx364_1, hx364_2, hx364_3, hx364_4, hx364_5, hx364_6, hx364_7, hx364_8, hl364_1, hi364_1, hl364_5, hi364_5, hl364_6, hi364_6, hl364_7, hi364_7, hl364_8, hi364_8⟩ := at_T68 HR0.out x10_1 p364 q364
       cases e364
       replace hx364_0 := ((HW.out.under HB.out).cell (World.block_lt_of_cell? w0 _ hx364_0)).trans hx364_0
       replace hx364_1 := ((HW.out.under HB.out).cell (World.block_lt_of_cell? w0 _ hx364_1)).trans hx364_1
       replace hx364_2 := ((HW.out.under HB.out).cell (World.block_lt_of_cell? w0 _ hx364_2)).trans hx364_2
       replace hx364_3 := ((HW.out.under HB.out).cell (World.block_lt_of_cell? w0 _ hx364_3)).trans hx364_3
       replace hx364_4 := ((HW.out.under HB.out).cell (World.block_lt_of_cell? w0 _ hx364_4)).trans hx364_4
       replace hx364_5 := ((HW.out.under HB.out).cell (World.block_lt_of_cell? w0 _ hx364_5)).trans hx364_5
       replace hx364_6 := ((HW.out.under HB.out).cell (World.block_lt_of_cell? w0 _ hx364_6)).trans hx364_6
       replace hx364_7 := ((HW.out.under HB.out).cell (World.block_lt_of_cell? w0 _ hx364_7)).trans hx364_7
       replace hx364_8 := ((HW.out.under HB.out).cell (World.block_lt_of_cell? w0 _ hx364_8)).trans hx364_8
       have HR364_1 := Aside0.mk hi364_1
       have HC364_1 := Aside0.mk hl364_1
       clear hi364_1 hl364_1
       have HR364_5 := Aside0.mk hi364_5
       have HC364_5 := Aside0.mk hl364_5
       clear hi364_5 hl364_5
       have HR364_6 := Aside0.mk hi364_6
       have HC364_6 := Aside0.mk hl364_6
       clear hi364_6 hl364_6
       have HR364_7 := Aside0.mk hi364_7
       have HC364_7 := Aside0.mk hl364_7
       clear hi364_7 hl364_7
       have HR364_8 := Aside0.mk hi364_8
       have HC364_8 := Aside0.mk hl364_8
       clear hi364_8 hl364_8
       replace p364 := eq_true p364
       replace q364 := eq_true q364
       try go_wp2_with (first | ((with_reducible refine gate_dst (N := 7) rfl ?_); refine box_event ?hg (N := 7) ?hd (cs := #[.string (⟨#[]⟩ : ByteArray), .slice none 0 0, .int .i64 0, .string (⟨#[]⟩ : ByteArray), .int .i64 0, .slice none 0 0, .slice none 0 0, .slice none 0 0, .slice none 0 0]) (t := 68) ?hr ?_; (case hd => rfl); (case hg => rfl); (case hr => first | (go_simp; done) | (go_simp; rfl)); intro gb365 hg w10 hbox hb; have hx_ := bel_of (w := w) hb (by repeat (first | (with_reducible first | exact HB.out | apply below_alloc | apply pw_below_drewN | apply below_drew1) | exact HB.out)); have n0_ := Aside0.mk (Kd.R_below (Kd.R_elderB (by (with_reducible repeat (first | apply Kd.R_alloc | apply Kd.R_drewN | apply Kd.R_drew)); exact HO_5.out) gb365 (Nat.le_of_eq hg.symm)) hb); have n1_ := Aside0.mk (below_step hx_ hb); have n2_ := Aside0.mk (hbox); have n3_ := Aside0.mk ((box_ge hx_ hg)); have n4_ := Aside0.mk ((box_ge hx_ hg)); clear HO_5; clear HB; have HO_5 := n0_; have HB := n1_; have BK365 := n2_; have GW365 := n3_; have GE365 := n4_; clear n0_ n1_ n2_ n3_ n4_; clear hx_ hb hbox hg; obtain ⟨hcz11_0, hcz11_1, hcz11_2, hcz11_3, hcz11_4, hcz11_5, hcz11_6, hcz11_7, hcz11_8, hfz11_0, hfz11_1, hfz11_2, hfz11_3, hfz11_4, hfz11_5, hfz11_6, hfz11_7, hfz11_8⟩ := cells9 BK365.out))
       have n0_ : Aside0 (Kd.R (Kd.opq 9) 68 (((((((((w10.setCell ⟨gb365, 0, none⟩ (.string ((rd_T68 l0 x10_1).f0))).setCell ⟨gb365, 1, none⟩ (.slice A364_1 ((rd_T68 l0 x10_1).f1).length c364_1)).setCell ⟨gb365, 2, none⟩ (.int .i64 ((rd_T68 l0 x10_1).f2.f0))).setCell ⟨gb365, 3, none⟩ (.string ((rd_T68 l0 x10_1).f2.f1))).setCell ⟨gb365, 4, none⟩ (.int .i64 ((rd_T68 l0 x10_1).f2.f2))).setCell ⟨gb365, 5, none⟩ (.slice A364_5 ((rd_T68 l0 x10_1).f2.f3).length c364_5)).setCell ⟨gb365, 6, none⟩ (.slice A364_6 ((rd_T68 l0 x10_1).f2.f4).length c364_6)).setCell ⟨gb365, 7, none⟩ (.slice A364_7 ((rd_T68 l0 x10_1).f2.f5).length c364_7)).setCell ⟨gb365, 8, none⟩ (.slice A364_8 ((rd_T68 l0 x10_1).f3).length c364_8)) w.heap.size (fun k_ => k_ ≠ gb365) u5 x5_1) := ⟨by (with_reducible repeat (first | apply Kd.R_alloc | apply Kd.R_drewN | apply Kd.R_drew)); exact Kd.R_mono (Kd.R_st (Kd.R_st (Kd.R_st (Kd.R_st (Kd.R_st (Kd.R_st (Kd.R_st (Kd.R_st (Kd.R_st (Kd.R_mono HO_5.out (fun k_ hk => (⟨hk, hk.2⟩ : _ ∧ k_ ≠ gb365)))))))))))) (fun _ hk => hk.1.2)⟩
       have n1_ : Aside0 ((((((((((w10.setCell ⟨gb365, 0, none⟩ (.string ((rd_T68 l0 x10_1).f0))).setCell ⟨gb365, 1, none⟩ (.slice A364_1 ((rd_T68 l0 x10_1).f1).length c364_1)).setCell ⟨gb365, 2, none⟩ (.int .i64 ((rd_T68 l0 x10_1).f2.f0))).setCell ⟨gb365, 3, none⟩ (.string ((rd_T68 l0 x10_1).f2.f1))).setCell ⟨gb365, 4, none⟩ (.int .i64 ((rd_T68 l0 x10_1).f2.f2))).setCell ⟨gb365, 5, none⟩ (.slice A364_5 ((rd_T68 l0 x10_1).f2.f3).length c364_5)).setCell ⟨gb365, 6, none⟩ (.slice A364_6 ((rd_T68 l0 x10_1).f2.f4).length c364_6)).setCell ⟨gb365, 7, none⟩ (.slice A364_7 ((rd_T68 l0 x10_1).f2.f5).length c364_7)).setCell ⟨gb365, 8, none⟩ (.slice A364_8 ((rd_T68 l0 x10_1).f3).length c364_8)).heap[gb365]? = some (.cells #[.string ((rd_T68 l0 x10_1).f0), .slice A364_1 ((rd_T68 l0 x10_1).f1).length c364_1, .int .i64 ((rd_T68 l0 x10_1).f2.f0), .string ((rd_T68 l0 x10_1).f2.f1), .int .i64 ((rd_T68 l0 x10_1).f2.f2), .slice A364_5 ((rd_T68 l0 x10_1).f2.f3).length c364_5, .slice A364_6 ((rd_T68 l0 x10_1).f2.f4).length c364_6, .slice A364_7 ((rd_T68 l0 x10_1).f2.f5).length c364_7, .slice A364_8 ((rd_T68 l0 x10_1).f3).length c364_8] 68 (0, 0))) := ⟨by (with_reducible repeat (first | refine blk_drewN ?_ _ | refine blk_drew ?_ | refine blk_alloc ?_ _)); exact (put_9_8 (put_9_7 (put_9_6 (put_9_5 (put_9_4 (put_9_3 (put_9_2 (put_9_1 (put_9_0 BK365.out)))))))))⟩
       have n2_ : Aside0 (Below w.heap.size w (((((((((w10.setCell ⟨gb365, 0, none⟩ (.string ((rd_T68 l0 x10_1).f0))).setCell ⟨gb365, 1, none⟩ (.slice A364_1 ((rd_T68 l0 x10_1).f1).length c364_1)).setCell ⟨gb365, 2, none⟩ (.int .i64 ((rd_T68 l0 x10_1).f2.f0))).setCell ⟨gb365, 3, none⟩ (.string ((rd_T68 l0 x10_1).f2.f1))).setCell ⟨gb365, 4, none⟩ (.int .i64 ((rd_T68 l0 x10_1).f2.f2))).setCell ⟨gb365, 5, none⟩ (.slice A364_5 ((rd_T68 l0 x10_1).f2.f3).length c364_5)).setCell ⟨gb365, 6, none⟩ (.slice A364_6 ((rd_T68 l0 x10_1).f2.f4).length c364_6)).setCell ⟨gb365, 7, none⟩ (.slice A364_7 ((rd_T68 l0 x10_1).f2.f5).length c364_7)).setCell ⟨gb365, 8, none⟩ (.slice A364_8 ((rd_T68 l0 x10_1).f3).length c364_8))) := ⟨by repeat (first | (with_reducible first | exact HB.out | apply below_alloc | apply pw_below_drewN | apply below_drew1 | refine below_set ?_ GE365.out) | exact HB.out)⟩
       (try clear HO_5)
       (try clear BK365)
       (try clear HB)
       generalize (((((((((w10.setCell ⟨gb365, 0, none⟩ (.string ((rd_T68 l0 x10_1).f0))).setCell ⟨gb365, 1, none⟩ (.slice A364_1 ((rd_T68 l0 x10_1).f1).length c364_1)).setCell ⟨gb365, 2, none⟩ (.int .i64 ((rd_T68 l0 x10_1).f2.f0))).setCell ⟨gb365, 3, none⟩ (.string ((rd_T68 l0 x10_1).f2.f1))).setCell ⟨gb365, 4, none⟩ (.int .i64 ((rd_T68 l0 x10_1).f2.f2))).setCell ⟨gb365, 5, none⟩ (.slice A364_5 ((rd_T68 l0 x10_1).f2.f3).length c364_5)).setCell ⟨gb365, 6, none⟩ (.slice A364_6 ((rd_T68 l0 x10_1).f2.f4).length c364_6)).setCell ⟨gb365, 7, none⟩ (.slice A364_7 ((rd_T68 l0 x10_1).f2.f5).length c364_7)).setCell ⟨gb365, 8, none⟩ (.slice A364_8 ((rd_T68 l0 x10_1).f3).length c364_8)) = w12 at n0_ n1_ n2_ ⊢
       have HO_5 := n0_
       have BK365 := n1_
       have HB := n2_
       clear n0_ n1_ n2_
       have n0_ := Aside0.mk (Kd.R_drew HO_5.out)
       have n1_ := Aside0.mk (blk_drew BK365.out)
       have n2_ := Aside0.mk (below_drew1 HB.out)
       clear HO_5
       clear BK365
       clear HB
       have HO_5 := n0_
       have BK365 := n1_
       have HB := n2_
       clear n0_ n1_ n2_
       refine start_ (n := 18) (S := fun w' => w'.cell? ⟨gb365, 0, none⟩ = some (.string ((rd_T68 l0 x10_1).f0)) ∧ w'.cell? ⟨gb365, 1, none⟩ = some (.slice A364_1 ((rd_T68 l0 x10_1).f1).length c364_1) ∧ w'.cell? ⟨gb365, 2, none⟩ = some (.int .i64 ((rd_T68 l0 x10_1).f2.f0)) ∧ w'.cell? ⟨gb365, 3, none⟩ = some (.string ((rd_T68 l0 x10_1).f2.f1)) ∧ w'.cell? ⟨gb365, 4, none⟩ = some (.int .i64 ((rd_T68 l0 x10_1).f2.f2)) ∧ w'.cell? ⟨gb365, 5, none⟩ = some (.slice A364_5 ((rd_T68 l0 x10_1).f2.f3).length c364_5) ∧ w'.cell? ⟨gb365, 6, none⟩ = some (.slice A364_6 ((rd_T68 l0 x10_1).f2.f4).length c364_6) ∧ w'.cell? ⟨gb365, 7, none⟩ = some (.slice A364_7 ((rd_T68 l0 x10_1).f2.f5).length c364_7) ∧ w'.cell? ⟨gb365, 8, none⟩ = some (.slice A364_8 ((rd_T68 l0 x10_1).f3).length c364_8)) (ds := []) #[false, false, false, false, false, false, false, false, false, false, false, false, false, false, false, false, false, false] (by kernel_rfl) rfl rfl ⟨(blk_cell BK365.out 0).trans rfl, (blk_cell BK365.out 1).trans rfl, (blk_cell BK365.out 2).trans rfl, (blk_cell BK365.out 3).trans rfl, (blk_cell BK365.out 4).trans rfl, (blk_cell BK365.out 5).trans rfl, (blk_cell BK365.out 6).trans rfl, (blk_cell BK365.out 7).trans rfl, (blk_cell BK365.out 8).trans rfl⟩ (fun hHeld => ?_); refine with_tabW D_tab5 D_bits5 (fun HT_ HW_ => ?_)
       generalize w12.drew = w13 at HO_5 BK365 HB hHeld ⊢
       refine pure_ (i := 0) (N := some 14) (v := ?_) (a' := ?_) #[true, false, false, false, false, false, false, false, false, false, false, false, false, false, false, false, false, false] rfl rfl (any_of HT_.out (by kernel_rfl)) (fun _ _ _ h => h) (Or.inl ⟨by rfl, ?_⟩) ?_ ?_
       rotate_left
       ·intro w'
        go_simp
        with_reducible rfl
       rotate_left
       ·simp only [Act.put, List.setIfInBounds_toArray, List.set_cons_zero, List.set_cons_succ, i64_w, i32_w]
        rfl
       refine pure_ (i := 1) (N := some 15) (v := ?_) (a' := ?_) #[true, true, false, false, false, false, false, false, false, false, false, false, false, false, false, false, false, false] rfl rfl (any_of HT_.out (by kernel_rfl)) (fun _ _ _ h => h) (Or.inl ⟨by rfl, ?_⟩) ?_ ?_
       rotate_left
       ·intro w'
        go_simp
        with_reducible rfl
       rotate_left
       ·simp only [Act.put, List.setIfInBounds_toArray, List.set_cons_zero, List.set_cons_succ, i64_w, i32_w]
        rfl
       refine pure_ (i := 3) (N := some 17) (v := ?_) (a' := ?_) #[true, true, false, true, false, false, false, false, false, false, false, false, false, false, false, false, false, false] rfl rfl (any_of HT_.out (by kernel_rfl)) (fun _ _ _ h => h) (Or.inl ⟨by rfl, ?_⟩) ?_ ?_
       rotate_left
       ·intro w'
        go_simp
        with_reducible rfl
       rotate_left
       ·simp only [Act.put, List.setIfInBounds_toArray, List.set_cons_zero, List.set_cons_succ, i64_w, i32_w]
        rfl
       refine pure_ (i := 6) (N := some 20) (v := ?_) (a' := ?_) #[true, true, false, true, false, false, true, false, false, false, false, false, false, false, false, false, false, false] rfl rfl (any_of HT_.out (by kernel_rfl)) (fun _ _ _ h => h) (Or.inl ⟨by rfl, ?_⟩) ?_ ?_
       rotate_left
       ·intro w'
        go_simp
        with_reducible rfl
       rotate_left
       ·simp only [Act.put, List.setIfInBounds_toArray, List.set_cons_zero, List.set_cons_succ, i64_w, i32_w]
        rfl
       refine pure_ (i := 7) (N := some 21) (v := ?_) (a' := ?_) #[true, true, false, true, false, false, true, true, false, false, false, false, false, false, false, false, false, false] rfl rfl (any_of HT_.out (by kernel_rfl)) (fun _ _ _ h => h) (Or.inl ⟨by rfl, ?_⟩) ?_ ?_
       rotate_left
       ·intro w'
        go_simp
        with_reducible rfl
       rotate_left
       ·simp only [Act.put, List.setIfInBounds_toArray, List.set_cons_zero, List.set_cons_succ, i64_w, i32_w]
        rfl
       refine pure_ (i := 10) (N := some 24) (v := ?_) (a' := ?_) #[true, true, false, true, false, false, true, true, false, false, true, false, false, false, false, false, false, false] rfl rfl (any_of HT_.out (by kernel_rfl)) (fun _ _ _ h => h) (Or.inl ⟨by rfl, ?_⟩) ?_ ?_
       rotate_left
       ·intro w'
        go_simp
        with_reducible rfl
       rotate_left
       ·simp only [Act.put, List.setIfInBounds_toArray, List.set_cons_zero, List.set_cons_succ, i64_w, i32_w]
        rfl
       refine pure_ (i := 12) (N := some 26) (v := ?_) (a' := ?_) #[true, true, false, true, false, false, true, true, false, false, true, false, true, false, false, false, false, false] rfl rfl (any_of HT_.out (by kernel_rfl)) (fun _ _ _ h => h) (Or.inl ⟨by rfl, ?_⟩) ?_ ?_
       rotate_left
       ·intro w'
        go_simp
        with_reducible rfl
       rotate_left
       ·simp only [Act.put, List.setIfInBounds_toArray, List.set_cons_zero, List.set_cons_succ, i64_w, i32_w]
        rfl
       refine take_ (i := 2) (N := some 16) (v := ?_) (a' := ?_) #[true, true, true, true, false, false, true, true, false, false, true, false, true, false, false, false, false, false] rfl rfl (take_ofW HT_.out HW_.out (by kernel_rfl)) (fun _ _ _ h => h) (Or.inl ⟨by rfl, ?_⟩) hHeld ?_ ?_
       rotate_left
       ·rintro w' ⟨s0, s1, s2, s3, s4, s5, s6, s7, s8⟩
        go_simp
        with_reducible rfl
       rotate_left
       ·simp only [Act.put, List.setIfInBounds_toArray, List.set_cons_zero, List.set_cons_succ, i64_w, i32_w]
        rfl
       refine take_ (i := 4) (N := some 18) (v := ?_) (a' := ?_) #[true, true, true, true, true, false, true, true, false, false, true, false, true, false, false, false, false, false] rfl rfl (take_ofW HT_.out HW_.out (by kernel_rfl)) (fun _ _ _ h => h) (Or.inl ⟨by rfl, ?_⟩) hHeld ?_ ?_
       rotate_left
       ·rintro w' ⟨s0, s1, s2, s3, s4, s5, s6, s7, s8⟩
        go_simp
        with_reducible rfl
       rotate_left
       ·simp only [Act.put, List.setIfInBounds_toArray, List.set_cons_zero, List.set_cons_succ, i64_w, i32_w]
        rfl
       refine take_ (i := 8) (N := some 22) (v := ?_) (a' := ?_) #[true, true, true, true, true, false, true, true, true, false, true, false, true, false, false, false, false, false] rfl rfl (take_ofW HT_.out HW_.out (by kernel_rfl)) (fun _ _ _ h => h) (Or.inl ⟨by rfl, ?_⟩) hHeld ?_ ?_
       rotate_left
       ·rintro w' ⟨s0, s1, s2, s3, s4, s5, s6, s7, s8⟩
        go_simp
        with_reducible rfl
       rotate_left
       ·simp only [Act.put, List.setIfInBounds_toArray, List.set_cons_zero, List.set_cons_succ, i64_w, i32_w]
        rfl
       refine take_ (i := 11) (N := some 25) (v := ?_) (a' := ?_) #[true, true, true, true, true, false, true, true, true, false, true, true, true, false, false, false, false, false] rfl rfl (take_ofW HT_.out HW_.out (by kernel_rfl)) (fun _ _ _ h => h) (Or.inl ⟨by rfl, ?_⟩) hHeld ?_ ?_
       rotate_left
       ·rintro w' ⟨s0, s1, s2, s3, s4, s5, s6, s7, s8⟩
        go_simp
        with_reducible rfl
       rotate_left
       ·simp only [Act.put, List.setIfInBounds_toArray, List.set_cons_zero, List.set_cons_succ, i64_w, i32_w]
        rfl
       refine one_ (i := 5) (N := some 19) #[true, true, true, true, true, true, true, true, true, false, true, true, true, false, false, false, false, false] rfl rfl (one_of HT_.out (by kernel_rfl)) (by decide) (fun K hK => ?_)
       refine goes_ Try.func66 (by kernel_rfl) rfl #[.slice A364_1 ((rd_T68 l0 x10_1).f1).length c364_1] (by rfl) rfl rfl (by (try simp only [List.map_toArray, List.map_cons, List.map_nil]); first | done | rfl | (simp only [List.length_drop, List.length_take]; rfl)) ?_
       with_reducible refine (slices_Clone.calls _ _ ((rd_T68 l0 x10_1).f1) t366 _ ?side1 ?side2 A6.out).mono ?_
       (case side1 => repeat (first | exact (Kd.C_below HR364_1.out (HW.out.under HB.out)) | (with_reducible refine Kd.C_alloc ?_ _) | (with_reducible refine Kd.C_drewN ?_ _) | (with_reducible refine Kd.C_drew ?_)))
       (case side2 => exact HC364_1.out)
       rintro e w14 ⟨v367, rfl, ho0, hb⟩
       obtain ⟨Ao21, co21, rfl⟩ := Kd.R_slice ho0
       refine ⟨_, rfl, ?_⟩
       have n0_ := Aside0.mk (Kd.R_below HO_5.out hb)
       have n2_ := Aside0.mk (blk_below BK365.out hb)
       have n3_ := Aside0.mk (below_step HB.out hb)
       clear HO_5 BK365 HB ho0 hb
       have HO_5 := n0_
       have BK365 := n2_
       have HB := n3_
       clear n0_ n2_ n3_
       refine hK.out _ _ ⟨(blk_cell BK365.out 0).trans rfl, (blk_cell BK365.out 1).trans rfl, (blk_cell BK365.out 2).trans rfl, (blk_cell BK365.out 3).trans rfl, (blk_cell BK365.out 4).trans rfl, (blk_cell BK365.out 5).trans rfl, (blk_cell BK365.out 6).trans rfl, (blk_cell BK365.out 7).trans rfl, (blk_cell BK365.out 8).trans rfl⟩ (fun hHeld => ?_)
       clear hK K
       refine norm_ (a' := ?_) ?_ ?_
       rotate_left
       ·show Act.put _ (some 19) _ = _
        simp only [Act.put, List.setIfInBounds_toArray, List.set_cons_zero, List.set_cons_succ, i64_w, i32_w]
        rfl
       refine one_ (i := 9) (N := some 23) #[true, true, true, true, true, true, true, true, true, true, true, true, true, false, false, false, false, false] rfl rfl (one_of HT_.out (by kernel_rfl)) (by decide) (fun K hK => ?_)
       refine goesD_ Try.func55 (by kernel_rfl) rfl #[.agg #[.int .i64 ((rd_T68 l0 x10_1).f2.f0), .string ((rd_T68 l0 x10_1).f2.f1), .int .i64 ((rd_T68 l0 x10_1).f2.f2), .slice A364_5 ((rd_T68 l0 x10_1).f2.f3).length c364_5, .slice A364_6 ((rd_T68 l0 x10_1).f2.f4).length c364_6, .slice A364_7 ((rd_T68 l0 x10_1).f2.f5).length c364_7], .pointer (some ⟨gN, 0, none⟩), .pointer (some ⟨gP, 0, none⟩)] (by rfl) rfl rfl rfl (by (try simp only [List.map_toArray, List.map_cons, List.map_nil, List.append_toArray, List.cons_append, List.nil_append]); first | done | rfl) ?_
       with_reducible refine (ih_L k1 (by have := HK1.out; omega) ((rd_T68 l0 x10_1).f2.f0) ((rd_T68 l0 x10_1).f2.f1) ((rd_T68 l0 x10_1).f2.f2) _ _ ((rd_T68 l0 x10_1).f2.f3) _ _ ((rd_T68 l0 x10_1).f2.f4) _ _ ((rd_T68 l0 x10_1).f2.f5) nn m1 w0 _ gN gP (HW.out.begin_ HB.out) HR364_5.out HC364_5.out HR364_6.out HC364_6.out HR364_7.out HC364_7.out A7.out).mono ?_
       rintro e w15 ⟨w2, rfl, h2, hb⟩
       refine ⟨_, rfl, ?_⟩
       obtain ⟨w, hs_, HW2, HB2, hm⟩ := HW.out.step HB.out h2 hb
       have n0_ : Aside0 (Kd.R (Kd.opq 9) 68 w15 w.heap.size (fun k_ => k_ ≠ gb365) u5 x5_1) := ⟨by rw [hs_]; exact Kd.R_past HO_5.out HW.out.lt hm⟩
       have n1_ := Aside0.mk ((hm gb365 (Nat.ne_of_gt (Nat.lt_of_lt_of_le HW.out.lt GE365.out)) (blk_lt BK365.out)).trans BK365.out)
       have n2_ : Aside0 (w.heap.size ≤ gb365) := ⟨by rw [hs_]; exact GE365.out⟩
       clear HO_5 BK365 HB HW GE365 GW365 h2 hb hm hs_
       have HO_5 := n0_
       have BK365 := n1_
       have GE365 := n2_
       have GW365 := n2_
       have HB := Aside0.mk HB2
       have HW := Aside0.mk HW2
       clear n0_ n1_ n2_ HB2 HW2 w2
       refine hK.out _ _ ⟨(blk_cell BK365.out 0).trans rfl, (blk_cell BK365.out 1).trans rfl, (blk_cell BK365.out 2).trans rfl, (blk_cell BK365.out 3).trans rfl, (blk_cell BK365.out 4).trans rfl, (blk_cell BK365.out 5).trans rfl, (blk_cell BK365.out 6).trans rfl, (blk_cell BK365.out 7).trans rfl, (blk_cell BK365.out 8).trans rfl⟩ (fun hHeld => ?_)
       clear hK K
       refine norm_ (a' := ?_) ?_ ?_
       rotate_left
       ·show Act.put _ (some 23) _ = _
        simp only [Act.put, List.setIfInBounds_toArray, List.set_cons_zero, List.set_cons_succ, i64_w, i32_w]
        rfl
       refine one_ (i := 13) (N := some 27) #[true, true, true, true, true, true, true, true, true, true, true, true, true, true, false, false, false, false] rfl rfl (one_of HT_.out (by kernel_rfl)) (by decide) (fun K hK => ?_)
       refine goes_ Try.func65 (by kernel_rfl) rfl #[.slice A364_8 ((rd_T68 l0 x10_1).f3).length c364_8, FV gN gP] (by rfl) rfl rfl (by (try simp only [List.map_toArray, List.map_cons, List.map_nil]); first | done | rfl | (simp only [List.length_drop, List.length_take]; rfl)) ?_
       with_reducible refine (ih_D k1 (by have := HK1.out; omega) _ _ ((rd_T68 l0 x10_1).f3) m1 m2 w0 _ gN gP (HW.out.begin_ HB.out) HR364_8.out HC364_8.out A8.out).mono ?_
       rintro e w16 ⟨Ao17, no17, co17, w2, rfl, h2, hb⟩
       refine ⟨_, rfl, ?_⟩
       obtain ⟨w, hs_, HW2, HB2, hm⟩ := HW.out.step HB.out h2 hb
       have n0_ : Aside0 (Kd.R (Kd.opq 9) 68 w16 w.heap.size (fun k_ => k_ ≠ gb365) u5 x5_1) := ⟨by rw [hs_]; exact Kd.R_past HO_5.out HW.out.lt hm⟩
       have n1_ := Aside0.mk ((hm gb365 (Nat.ne_of_gt (Nat.lt_of_lt_of_le HW.out.lt GE365.out)) (blk_lt BK365.out)).trans BK365.out)
       have n2_ : Aside0 (w.heap.size ≤ gb365) := ⟨by rw [hs_]; exact GE365.out⟩
       clear HO_5 BK365 HB HW GE365 GW365 h2 hb hm hs_
       have HO_5 := n0_
       have BK365 := n1_
       have GE365 := n2_
       have GW365 := n2_
       have HB := Aside0.mk HB2
       have HW := Aside0.mk HW2
       clear n0_ n1_ n2_ HB2 HW2 w2
       refine hK.out _ _ ⟨(blk_cell BK365.out 0).trans rfl, (blk_cell BK365.out 1).trans rfl, (blk_cell BK365.out 2).trans rfl, (blk_cell BK365.out 3).trans rfl, (blk_cell BK365.out 4).trans rfl, (blk_cell BK365.out 5).trans rfl, (blk_cell BK365.out 6).trans rfl, (blk_cell BK365.out 7).trans rfl, (blk_cell BK365.out 8).trans rfl⟩ (fun hHeld => ?_)
       clear hK K
       refine norm_ (a' := ?_) ?_ ?_
       rotate_left
       ·show Act.put _ (some 27) _ = _
        simp only [Act.put, List.setIfInBounds_toArray, List.set_cons_zero, List.set_cons_succ, i64_w, i32_w]
        rfl
       refine pure_ (i := 14) (N := some 28) (v := ?_) (a' := ?_) #[true, true, true, true, true, true, true, true, true, true, true, true, true, true, true, false, false, false] rfl rfl (any_of HT_.out (by kernel_rfl)) (fun _ _ _ h => h) (Or.inl ⟨by rfl, ?_⟩) ?_ ?_
       rotate_left
       ·intro w'
        go_simp
        with_reducible rfl
       rotate_left
       ·simp only [Act.put, List.setIfInBounds_toArray, List.set_cons_zero, List.set_cons_succ, i64_w, i32_w]
        rfl
       refine one_ (i := 15) (N := some 29) #[true, true, true, true, true, true, true, true, true, true, true, true, true, true, true, true, false, false] rfl rfl (one_of HT_.out (by kernel_rfl)) (by decide) (fun K hK => ?_)
       refine value_ (w1 := ?_) (v := ?_) (by rfl) rfl ?_ ?_
       rotate_left 2
       ·go_simp
        constructor
        ·rfl
        ·rfl
       refine hK.out _ _ ⟨(blk_cell (blk_alloc BK365.out _) 0).trans rfl, (blk_cell (blk_alloc BK365.out _) 1).trans rfl, (blk_cell (blk_alloc BK365.out _) 2).trans rfl, (blk_cell (blk_alloc BK365.out _) 3).trans rfl, (blk_cell (blk_alloc BK365.out _) 4).trans rfl, (blk_cell (blk_alloc BK365.out _) 5).trans rfl, (blk_cell (blk_alloc BK365.out _) 6).trans rfl, (blk_cell (blk_alloc BK365.out _) 7).trans rfl, (blk_cell (blk_alloc BK365.out _) 8).trans rfl⟩ (fun hHeld => ?_)
       clear hK K
       refine norm_ (a' := ?_) ?_ ?_
       rotate_left
       ·show Act.put _ (some 29) _ = _
        simp only [Act.put, List.setIfInBounds_toArray, List.set_cons_zero, List.set_cons_succ, i64_w, i32_w]
        rfl
       refine one_ (i := 16) (N := some 30) #[true, true, true, true, true, true, true, true, true, true, true, true, true, true, true, true, true, false] rfl rfl (one_of HT_.out (by kernel_rfl)) (by decide) (fun K hK => ?_)
       refine Kd.R_append_step (Kd.opq 9) (w0 := w) w.heap.size (by rfl) (.tmp 14) (.tmp 29) 30 68 (.agg #[(.string ⟨#[]⟩), (.slice none 0 0), (.int .i64 0), (.string ⟨#[]⟩), (.int .i64 0), (.slice none 0 0), (.slice none 0 0), (.slice none 0 0), (.slice none 0 0)]) 168 rfl Try.underlying30 info68 rfl (by decide) (by omega) u5 x5_1 () [.string ((rd_T68 l0 x10_1).f0), .slice Ao21 t366.length co21, .int .i64 ((rd_T68 l0 x10_1).f2.f0), .string ((rd_T68 l0 x10_1).f2.f1), .int .i64 ((rd_T68 l0 x10_1).f2.f2), .slice A364_5 ((rd_T68 l0 x10_1).f2.f3).length c364_5, .slice A364_6 ((rd_T68 l0 x10_1).f2.f4).length c364_6, .slice A364_7 ((rd_T68 l0 x10_1).f2.f5).length c364_7, .slice Ao17 no17 co17] (fun k_ => k_ ≠ gb365) (fun k_ => ((fun k_ => k_ ≠ gb365)) k_ ∧ some k_ ≠ (u5 : Value).ownBlock) rfl rfl ?aP (fun _ hk => hk) ?aF ?aO ?aB ?aS ?aL ?_
       (case aP => exact ⟨rfl, fun u hu => by simp only [List.mem_cons, List.not_mem_nil, or_false] at hu; rcases hu with rfl | rfl | rfl | rfl | rfl | rfl | rfl | rfl | rfl <;> rfl⟩)
       (case aB => exact HB.out)
       (case aF => exact (fun k_ hk => Kd.freshB BK365.out k_ hk))
       (case aO => exact HO_5.out)
       (case aS => exact (below_size HB.out))
       (case aL => have := LMc9.out; omega)
       intro v385 w22 ho hb hg hat
       rw [← Ny384.out] at ho
       have n0_ := Aside0.mk (blk_grown (g := gb365) BK365.out hg (Kd.R_away HO_5.out (fun _ hk => hk)))
       have n1_ := Aside0.mk (hb)
       have n2_ := Aside0.mk (ho)
       clear BK365
       clear HB
       clear HO_5
       have BK365 := n0_
       have HB := n1_
       have HO386 := n2_
       clear n0_ n1_ n2_
       clear ho hb hg hat
       refine hK.out _ _ ⟨(blk_cell BK365.out 0).trans rfl, (blk_cell BK365.out 1).trans rfl, (blk_cell BK365.out 2).trans rfl, (blk_cell BK365.out 3).trans rfl, (blk_cell BK365.out 4).trans rfl, (blk_cell BK365.out 5).trans rfl, (blk_cell BK365.out 6).trans rfl, (blk_cell BK365.out 7).trans rfl, (blk_cell BK365.out 8).trans rfl⟩ (fun hHeld => ?_)
       clear hK K
       refine norm_ (a' := ?_) ?_ ?_
       rotate_left
       ·show Act.put _ (some 30) _ = _
        simp only [Act.put, List.setIfInBounds_toArray, List.set_cons_zero, List.set_cons_succ, i64_w, i32_w]
        rfl
       refine pure_ (i := 17) (N := some 5) (v := ?_) (a' := ?_) #[true, true, true, true, true, true, true, true, true, true, true, true, true, true, true, true, true, true] rfl rfl (any_of HT_.out (by kernel_rfl)) (fun _ _ _ h => h) (Or.inl ⟨by rfl, ?_⟩) ?_ ?_
       rotate_left
       ·intro w'
        go_simp
        with_reducible rfl
       rotate_left
       ·simp only [Act.put, List.setIfInBounds_toArray, List.set_cons_zero, List.set_cons_succ, i64_w, i32_w]
        rfl
       refine done_ (done_of HT_.out (by kernel_rfl)) ?_
       try go_wp2
       go_roundg k1
       case measure => have := HK1.out; omega
       case rel => exact ⟨y384, (wrap64 (x10_1 + 1)), m2, w, (by first | rfl | (simp; done) | (simp [*]; done)), H', ⟨by have := HK1.out; omega⟩, ⟨Kd.R_mono HO386.out (fun _ hk => trivial)⟩, ⟨HB.out⟩, HW⟩
      ·rw [if_neg c9] at H
       exact absurd H (by simp)
     ·rw [if_neg c5] at H
      exact absurd H (by simp)
    ·rw [if_neg c4] at H
     exact absurd H (by simp)
   ·rw [if_neg c3] at H
    have c3b0 : decide (x10_1 < (l0.length : Int)) = false := decide_eq_false c3
    clear c3
    obtain rfl := Option.some.inj H
    go_wp2
    obtain ⟨Ao30, co30, eo30⟩ := Kd.R_slice HO_5.out
    subst eo30
    go_ret
    exact ⟨⟨_, _, _, rfl⟩, w, HW.out, by repeat (first | (with_reducible first | exact HB.out | apply below_alloc | apply pw_below_drewN | apply below_drew1) | exact HB.out)⟩
end Go.Proofs.Ytpndcfibjjkgcaa.MyCnt

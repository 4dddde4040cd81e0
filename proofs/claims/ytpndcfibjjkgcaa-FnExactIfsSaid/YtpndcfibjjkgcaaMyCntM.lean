/- The walk of the function that goes through an expression's parts, with the counting literal: turned from a printed walk. No condition. -/
import Derived.Test.YtpndcfibjjkgcaaMyCnt
namespace Go.Proofs.Ytpndcfibjjkgcaa.MyCnt
open Go.RowKit Go.Proofs.YtpndcfibjjkgcaaW.PrintWords Go.Proofs.YtpndcfibjjkgcaaW.PrintLast Go.Proofs.YtpndcfibjjkgcaaW.PrintMore Go.Proofs.Ytpndcfibjjkgcaa.PIfg Go.Proofs.Ytpndcfibjjkgcaa.MyClone
attribute [local go_sem] max2_int min2_int max_two min_two max_three min_three max_four min_four
set_option linter.unusedVariables false
set_option linter.unusedSimpArgs false
def M_T5 : Bool × List (List Nat × List Nat) := (true, [([], []), ([0], [0]), ([], []), ([], []), ([2, 3], [2, 3]), ([4], [4]), ([1, 5, 4], [1, 5]), ([0, 1, 2, 3, 4, 5, 6], []), ([7, 6, 6, 0, 1, 2, 3, 4, 5, 6], [6, 7])])
def M_B5 : List Nat := [0, 1, 0, 0, 12, 28, 63, 127, 255]
theorem M_tab5 : rtab .any (opsOf Try.f48 5) = M_T5 := by kernel_rfl
theorem M_bits5 : waitsOk M_T5.2 M_B5 = true := by kernel_rfl
def M_T11 : Bool × List (List Nat × List Nat) := (true, [([], []), ([0], [0]), ([], []), ([2], [2]), ([], []), ([4], [4]), ([5], [5]), ([], []), ([], []), ([8], [8]), ([7, 9, 6], [7, 9]), ([3, 6, 10], [3, 6, 10]), ([11], [11]), ([1, 12, 10], [1, 12]), ([0, 1, 2, 3, 4, 5, 6, 7, 8, 9, 10, 11, 12, 13], []), ([14, 13, 13, 0, 1, 2, 3, 4, 5, 6, 7, 8, 9, 10, 11, 12, 13], [13, 14])])
def M_B11 : List Nat := [0, 1, 0, 4, 0, 16, 48, 0, 0, 256, 1008, 2044, 4092, 8191, 16383, 32767]
theorem M_tab11 : rtab .any (opsOf Try.f48 11) = M_T11 := by kernel_rfl
theorem M_bits11 : waitsOk M_T11.2 M_B11 = true := by kernel_rfl
set_option maxHeartbeats 8000000 in
set_option maxRecDepth 100000 in
theorem stepM (k : Nat) (ih_L : ∀ m_, m_ < k → AtL m_) (ih_D : ∀ m_, m_ < k → AtD m_) : AtM k := by
 intro a0_0 a0_1 a0_2 A0_3 c0_3 l0_3 A0_4 c0_4 l0_4 A0_5 c0_5 l0_5 n r w0 wS gN gP hw hr0_3 hc0_3 hr0_4 hc0_4 hr0_5 hc0_5 h
 cases k with
 | zero => exact absurd h (by simp [cM])
 | succ k =>
 simp only [cM] at h
 have hu33 := Try.underlying33
 have hu53 := Try.underlying53
 have HR0_3 := Aside0.mk hr0_3
 have HC0_3 := Aside0.mk hc0_3
 clear hr0_3 hc0_3
 have HR0_4 := Aside0.mk hr0_4
 have HC0_4 := Aside0.mk hc0_4
 clear hr0_4 hc0_4
 have HR0_5 := Aside0.mk hr0_5
 have HC0_5 := Aside0.mk hc0_5
 clear hr0_5 hc0_5
 obtain ⟨w, HWa_, HBa_⟩ : ∃ w : World, Cnt w0 wS w gN gP n ∧ Below w.heap.size w wS := ⟨wS, hw, Below.refl _ _⟩
 have HW := Aside0.mk HWa_
 have HB := Aside0.mk HBa_
 clear HWa_ HBa_ hw
 have H' := Aside0.mk h
 clear h
 go_enter Try.func48, Try.ntmps48
 go_wp2_with (first | ((with_reducible refine gate_dst (N := 2) rfl ?_); refine box_event ?hg (N := 2) ?hd (cs := #[.int .i64 a0_0, .string a0_1, .int .i64 a0_2, .slice A0_3 l0_3.length c0_3, .slice A0_4 l0_4.length c0_4, .slice A0_5 l0_5.length c0_5]) (t := 33) ?hr ?_; (case hd => rfl); (case hg => rfl); (case hr => first | (go_simp; done) | (go_simp; rfl)); intro gb387 hg w3 hbox hb; have hx_ := bel_of (w := w) hb (by repeat (first | (with_reducible first | exact HB.out | apply below_alloc | apply pw_below_drewN | apply below_drew1) | exact HB.out)); have n0_ := Aside0.mk (below_step hx_ hb); have n1_ := Aside0.mk (hbox); have n2_ := Aside0.mk ((box_ge hx_ hg)); have n3_ := Aside0.mk ((box_ge hx_ hg)); clear HB; have HB := n0_; have BK387 := n1_; have GW387 := n2_; have GE387 := n3_; clear n0_ n1_ n2_ n3_; clear hx_ hb hbox hg) | ((with_reducible refine gate_dst (N := 4) rfl ?_); refine box_event ?hg (N := 4) ?hd (cs := #[.int .i64 0, .string (⟨#[]⟩ : ByteArray), .int .i64 0, .slice none 0 0, .slice none 0 0, .slice none 0 0]) (t := 33) ?hr ?_; (case hd => rfl); (case hg => rfl); (case hr => first | (go_simp; done) | (go_simp; rfl)); intro gb388 hg w4 hbox hb; have hx_ := bel_of (w := w) hb (by repeat (first | (with_reducible first | exact HB.out | apply below_alloc | apply pw_below_drewN | apply below_drew1 | refine below_set ?_ GE387.out) | exact HB.out)); have n0_ := Aside0.mk (blk_below (g := gb387) (by (with_reducible repeat (first | refine blk_drewN ?_ _ | refine blk_drew ?_ | refine blk_alloc ?_ _)); exact BK387.out) hb); have n1_ := Aside0.mk (below_step hx_ hb); have n2_ := Aside0.mk (hbox); have n3_ := Aside0.mk ((box_ge hx_ hg)); have n4_ := Aside0.mk ((box_ge hx_ hg)); have n5_ := Aside0.mk (box_lt (g' := gb387) (by (with_reducible repeat (first | refine blk_drewN ?_ _ | refine blk_drew ?_ | refine blk_alloc ?_ _)); exact BK387.out) hg); have n6_ := Aside0.mk (box_gt (g' := gb387) (by (with_reducible repeat (first | refine blk_drewN ?_ _ | refine blk_drew ?_ | refine blk_alloc ?_ _)); exact BK387.out) hg); clear BK387; clear HB; have BK387 := n0_; have HB := n1_; have BK388 := n2_; have GW388 := n3_; have GE388 := n4_; have NB387_388 := n5_; have NB388_387 := n6_; clear n0_ n1_ n2_ n3_ n4_ n5_ n6_; clear hx_ hb hbox hg; have hnb5 := NB387_388.out; have hnc5 := NB388_387.out; obtain ⟨hcz6_0, hcz6_1, hcz6_2, hcz6_3, hcz6_4, hcz6_5, hfz6_0, hfz6_1, hfz6_2, hfz6_3, hfz6_4, hfz6_5⟩ := cells6 BK387.out) | ((with_reducible refine gate_dst (N := 5) rfl ?_); refine box_event ?hg (N := 5) ?hd (cs := #[.int .i64 0, .string (⟨#[]⟩ : ByteArray), .int .i64 0, .slice none 0 0, .slice none 0 0, .slice none 0 0]) (t := 33) ?hr ?_; (case hd => rfl); (case hg => rfl); (case hr => first | (go_simp; done) | (go_simp; rfl)); intro gb389 hg w7 hbox hb; have hx_ := bel_of (w := w) hb (by repeat (first | (with_reducible first | exact HB.out | apply below_alloc | apply pw_below_drewN | apply below_drew1 | refine below_set ?_ GE387.out | refine below_set ?_ GE388.out) | exact HB.out)); have n0_ := Aside0.mk (blk_below (g := gb387) (by (with_reducible repeat (first | refine blk_drewN ?_ _ | refine blk_drew ?_ | refine blk_alloc ?_ _)); exact BK387.out) hb); have n1_ := Aside0.mk (blk_below (g := gb388) (by (with_reducible repeat (first | refine blk_drewN ?_ _ | refine blk_drew ?_ | refine blk_alloc ?_ _)); exact BK388.out) hb); have n2_ := Aside0.mk (below_step hx_ hb); have n3_ := Aside0.mk (hbox); have n4_ := Aside0.mk ((box_ge hx_ hg)); have n5_ := Aside0.mk ((box_ge hx_ hg)); have n6_ := Aside0.mk (box_lt (g' := gb387) (by (with_reducible repeat (first | refine blk_drewN ?_ _ | refine blk_drew ?_ | refine blk_alloc ?_ _)); exact BK387.out) hg); have n7_ := Aside0.mk (box_gt (g' := gb387) (by (with_reducible repeat (first | refine blk_drewN ?_ _ | refine blk_drew ?_ | refine blk_alloc ?_ _)); exact BK387.out) hg); have n8_ := Aside0.mk (box_lt (g' := gb388) (by (with_reducible repeat (first | refine blk_drewN ?_ _ | refine blk_drew ?_ | refine blk_alloc ?_ _)); exact BK388.out) hg); have n9_ := Aside0.mk (box_gt (g' := gb388) (by (with_reducible repeat (first | refine blk_drewN ?_ _ | refine blk_drew ?_ | refine blk_alloc ?_ _)); exact BK388.out) hg); clear BK387; clear BK388; clear HB; have BK387 := n0_; have BK388 := n1_; have HB := n2_; have BK389 := n3_; have GW389 := n4_; have GE389 := n5_; have NB387_389 := n6_; have NB389_387 := n7_; have NB388_389 := n8_; have NB389_388 := n9_; clear n0_ n1_ n2_ n3_ n4_ n5_ n6_ n7_ n8_ n9_; clear hx_ hb hbox hg; have hnb8 := NB389_387.out; have hnc8 := NB387_389.out; have hnb9 := NB389_388.out; have hnc9 := NB388_389.out; obtain ⟨hcz10_0, hcz10_1, hcz10_2, hcz10_3, hcz10_4, hcz10_5, hfz10_0, hfz10_1, hfz10_2, hfz10_3, hfz10_4, hfz10_5⟩ := cells6 BK389.out; obtain ⟨hcz11_0, hcz11_1, hcz11_2, hcz11_3, hcz11_4, hcz11_5, hfz11_0, hfz11_1, hfz11_2, hfz11_3, hfz11_4, hfz11_5⟩ := cells6 BK387.out))
 have GS387 : Aside0 (wS.heap.size ≤ gb387) := ⟨by rw [← HW.out.size]; exact GE387.out⟩
 have GS388 : Aside0 (wS.heap.size ≤ gb388) := ⟨by rw [← HW.out.size]; exact GE388.out⟩
 have GS389 : Aside0 (wS.heap.size ≤ gb389) := ⟨by rw [← HW.out.size]; exact GE389.out⟩
 go_loopg [20] k (fun kq v20 w' => ∃ (x20_1 : Int) (x390003_1 : List Unit) (u390003 : Value) (nn : Int) (w : World), v20 = .int .i64 x20_1 ∧ Aside0 (cM0 kq l0_3 l0_4 l0_5 x20_1 x390003_1 nn = some r) ∧ Aside0 (kq ≤ k) ∧ Aside0 (Kd.R (Kd.opq 6) 33 w' w.heap.size (fun k_ => k_ ≠ gb387 ∧ k_ ≠ gb388 ∧ k_ ≠ gb389) u390003 x390003_1) ∧ Aside0 (w'.heap[gb387]? = some (.cells #[.int .i64 a0_0, .string a0_1, .int .i64 a0_2, (.slice A0_3 l0_3.length c0_3), (.slice A0_4 l0_4.length c0_4), (.slice A0_5 l0_5.length c0_5)] 33 (0, 0))) ∧ Aside0 (w'.heap[gb388]? = some (.cells #[.int .i64 0, .string (⟨#[]⟩ : ByteArray), .int .i64 0, (.slice none 0 0), (.slice none 0 0), (.slice none 0 0)] 33 (0, 0))) ∧ Aside0 (w'.heap[gb389]? = some (.cells #[.int .i64 a0_0, .string a0_1, .int .i64 a0_2, u390003, (.slice none 0 0), (.slice none 0 0)] 33 (0, 0))) ∧ Aside0 (Below w.heap.size w w') ∧ Aside0 (Cnt w0 wS w gN gP nn))
 case atStart => exact ⟨(0), (([] : List Unit)), (.slice none 0 0), n, w, (by first | rfl | (simp; done) | (simp [*]; done)), H', ⟨Nat.le_refl _⟩, ⟨by first | exact Kd.R_nil _ _ _ _ _ | exact Kd.N_nil _ _ _ _ _ | exact Kd.V_nil _ _ _ _ _ | exact Kd.Q_nil _ _ _ _ _ | exact Kd.S_nil _ _ _ _ _⟩, ⟨by (with_reducible repeat (first | refine blk_drewN ?_ _ | refine blk_drew ?_ | refine blk_alloc ?_ _)); exact (blk_far (blk_far (blk_far (blk_far (blk_far (blk_far BK387.out NB387_389.out _) NB387_389.out _) NB387_389.out _) NB387_389.out _) NB387_389.out _) NB387_389.out _)⟩, ⟨by (with_reducible repeat (first | refine blk_drewN ?_ _ | refine blk_drew ?_ | refine blk_alloc ?_ _)); exact (blk_far (blk_far (blk_far (blk_far (blk_far (blk_far BK388.out NB388_389.out _) NB388_389.out _) NB388_389.out _) NB388_389.out _) NB388_389.out _) NB388_389.out _)⟩, ⟨by (with_reducible repeat (first | refine blk_drewN ?_ _ | refine blk_drew ?_ | refine blk_alloc ?_ _)); exact (put_6_5 (put_6_4 (put_6_3 (put_6_2 (put_6_1 (put_6_0 BK389.out))))))⟩, ⟨by repeat (first | (with_reducible first | exact HB.out | apply below_alloc | apply pw_below_drewN | apply below_drew1 | refine below_set ?_ GE387.out | refine below_set ?_ GE388.out | refine below_set ?_ GE389.out) | exact HB.out)⟩, HW⟩
 case round =>
  clear H'
  try clear p2
  try clear c5
  try clear c8
  try clear c9
  try clear hcz10_0
  try clear hcz10_1
  try clear hcz10_2
  try clear hcz10_3
  try clear hcz10_4
  try clear hcz10_5
  try clear hcz11_0
  try clear hcz11_1
  try clear hcz11_2
  try clear hcz11_3
  try clear hcz11_4
  try clear hcz11_5
  try clear hcz6_0
  try clear hcz6_1
  try clear hcz6_2
  try clear hcz6_3
  try clear hcz6_4
  try clear hcz6_5
  try clear hfz10_0
  try clear hfz10_1
  try clear hfz10_2
  try clear hfz10_3
  try clear hfz10_4
  try clear hfz10_5
  try clear hfz11_0
  try clear hfz11_1
  try clear hfz11_2
  try clear hfz11_3
  try clear hfz11_4
  try clear hfz11_5
  try clear hfz6_0
  try clear hfz6_1
  try clear hfz6_2
  try clear hfz6_3
  try clear hfz6_4
  try clear hfz6_5
  clear HB HW BK387 BK388 BK389 GE387 GE388 GE389 GW387 GW388 GW389
  obtain ⟨x20_1, x390003_1, u390003, nn, w, rfl, HA, HK1, HO_390003, BK387, BK388, BK389, HB, HW⟩ := hrel
  have GE387 : Aside0 (w.heap.size ≤ gb387) := ⟨by rw [HW.out.size]; exact GS387.out⟩
  have GW387 := GE387
  have GE388 : Aside0 (w.heap.size ≤ gb388) := ⟨by rw [HW.out.size]; exact GS388.out⟩
  have GW388 := GE388
  have GE389 : Aside0 (w.heap.size ≤ gb389) := ⟨by rw [HW.out.size]; exact GS389.out⟩
  have GW389 := GE389
  cases gk with
  | zero => exact absurd HA.out (by simp [cM0])
  | succ k1 =>
   have H := HA.out
   clear HA
   simp only [cM0] at H
   by_cases c12 : x20_1 < (l0_3.length : Int)
   ·rw [if_pos c12] at H
    have c12b0 : decide (x20_1 < (l0_3.length : Int)) = true := decide_eq_true c12
    clear c12
    by_cases c13 : 0 ≤ x20_1
    ·rw [if_pos c13] at H
     have c13b0 : decide (0 ≤ x20_1) = true := decide_eq_true c13
     clear c13
     by_cases c14 : x20_1 < (l0_3.length : Int)
     ·rw [if_pos c14] at H
      have c14b0 : decide (x20_1 < (l0_3.length : Int)) = true := decide_eq_true c14
      clear c14
      replace H := Option.bind_eq_some_iff.mp H
      obtain ⟨m1, A150, H⟩ := H
      have A15 := Aside0.mk A150
      clear A150
      by_cases c16 : x390003_1.length < 1353245080339
      ·rw [if_pos c16] at H
       have LMc16 := Aside0.mk c16
       clear c16
       obtain ⟨y404, hy404⟩ : ∃ y_ : List Unit, y_ = x390003_1 ++ [()] := ⟨_, rfl⟩
       rw [← hy404] at H
       have Ny404 := Aside0.mk hy404
       clear hy404
       have H' := Aside0.mk H
       clear H
       have p390 : 0 ≤ (x20_1 : Int) := of_decide_eq_true (by first | (with_reducible assumption) | assumption)
       have q390 : x20_1 < (l0_3.length : Int) := of_decide_eq_true (by first | (with_reducible assumption) | assumption)
       obtain ⟨ad390, A390_3, c390_3, A390_4, c390_4, A390_5, c390_5, e390, hx390_0, hx390_1, hx390_2, hx390_3, hx390_4, hx390_5, hl390_3, hi390_3, hl390_4, hi390_4, hl390_5, hi390_5⟩ := at_T33 HR0_3.out x20_1 p390 q390
       cases e390
       replace hx390_0 := ((HW.out.under HB.out).cell (World.block_lt_of_cell? w0 _ hx390_0)).trans hx390_0
       replace hx390_1 := ((HW.out.under HB.out).cell (World.block_lt_of_cell? w0 _ hx390_1)).trans hx390_1
       replace hx390_2 := ((HW.out.under HB.out).cell (World.block_lt_of_cell? w0 _ hx390_2)).trans hx390_2
       replace hx390_3 := ((HW.out.under HB.out).cell (World.block_lt_of_cell? w0 _ hx390_3)).trans hx390_3
       replace hx390_4 := ((HW.out.under HB.out).cell (World.block_lt_of_cell? w0 _ hx390_4)).trans hx390_4
       replace hx390_5 := ((HW.out.under HB.out).cell (World.block_lt_of_cell? w0 _ hx390_5)).trans hx390_5
       have HR390_3 := Aside0.mk hi390_3
       have HC390_3 := Aside0.mk hl390_3
       clear hi390_3 hl390_3
       have HR390_4 := Aside0.mk hi390_4
       have HC390_4 := Aside0.mk hl390_4
       clear hi390_4 hl390_4
       have HR390_5 := Aside0.mk hi390_5
       have HC390_5 := Aside0.mk hl390_5
       clear hi390_5 hl390_5
       replace p390 := eq_true p390
       replace q390 := eq_true q390
       try go_wp2_with (first | ((with_reducible refine gate_dst (N := 7) rfl ?_); refine box_event ?hg (N := 7) ?hd (cs := #[.int .i64 0, .string (⟨#[]⟩ : ByteArray), .int .i64 0, .slice none 0 0, .slice none 0 0, .slice none 0 0]) (t := 33) ?hr ?_; (case hd => rfl); (case hg => rfl); (case hr => first | (go_simp; done) | (go_simp; rfl)); intro gb391 hg w17 hbox hb; have hx_ := bel_of (w := w) hb (by repeat (first | (with_reducible first | exact HB.out | apply below_alloc | apply pw_below_drewN | apply below_drew1 | refine below_set ?_ GE387.out | refine below_set ?_ GE388.out | refine below_set ?_ GE389.out) | exact HB.out)); have n0_ := Aside0.mk (Kd.R_below (Kd.R_elderB (by (with_reducible repeat (first | apply Kd.R_alloc | apply Kd.R_drewN | apply Kd.R_drew)); exact HO_390003.out) gb391 (Nat.le_of_eq hg.symm)) hb); have n1_ := Aside0.mk (blk_below (g := gb387) (by (with_reducible repeat (first | refine blk_drewN ?_ _ | refine blk_drew ?_ | refine blk_alloc ?_ _)); exact BK387.out) hb); have n2_ := Aside0.mk (blk_below (g := gb388) (by (with_reducible repeat (first | refine blk_drewN ?_ _ | refine blk_drew ?_ | refine blk_alloc ?_ _)); exact BK388.out) hb); have n3_ := Aside0.mk (blk_below (g := gb389) (by (with_reducible repeat (first | refine blk_drewN ?_ _ | refine blk_drew ?_ | refine blk_alloc ?_ _)); exact BK389.out) hb); have n4_ := Aside0.mk (below_step hx_ hb); have n5_ := Aside0.mk (hbox); have n6_ := Aside0.mk ((box_ge hx_ hg)); have n7_ := Aside0.mk ((box_ge hx_ hg)); have n8_ := Aside0.mk (box_lt (g' := gb387) (by (with_reducible repeat (first | refine blk_drewN ?_ _ | refine blk_drew ?_ | refine blk_alloc ?_ _)); exact BK387.out) hg); have n9_ := Aside0.mk (box_gt (g' := gb387) (by (with_reducible repeat (first | refine blk_drewN ?_ _ | refine blk_drew ?_ | refine blk_alloc ?_ _)); exact BK387.out) hg); have n10_ := Aside0.mk (box_lt (g' := gb388) (by (with_reducible repeat (first | refine blk_drewN ?_ _ | refine blk_drew ?_ | refine blk_alloc ?_ _)); exact BK388.out) hg); have n11_ := Aside0.mk (box_gt (g' := gb388) (by (with_reducible repeat (first | refine blk_drewN ?_ _ | refine blk_drew ?_ | refine blk_alloc ?_ _)); exact BK388.out) hg); have n12_ := Aside0.mk (box_lt (g' := gb389) (by (with_reducible repeat (first | refine blk_drewN ?_ _ | refine blk_drew ?_ | refine blk_alloc ?_ _)); exact BK389.out) hg); have n13_ := Aside0.mk (box_gt (g' := gb389) (by (with_reducible repeat (first | refine blk_drewN ?_ _ | refine blk_drew ?_ | refine blk_alloc ?_ _)); exact BK389.out) hg); clear HO_390003; clear BK387; clear BK388; clear BK389; clear HB; have HO_390003 := n0_; have BK387 := n1_; have BK388 := n2_; have BK389 := n3_; have HB := n4_; have BK391 := n5_; have GW391 := n6_; have GE391 := n7_; have NB387_391 := n8_; have NB391_387 := n9_; have NB388_391 := n10_; have NB391_388 := n11_; have NB389_391 := n12_; have NB391_389 := n13_; clear n0_ n1_ n2_ n3_ n4_ n5_ n6_ n7_ n8_ n9_ n10_ n11_ n12_ n13_; clear hx_ hb hbox hg; have hnb18 := NB391_387.out; have hnc18 := NB387_391.out; have hnb19 := NB391_388.out; have hnc19 := NB388_391.out; have hnb20 := NB391_389.out; have hnc20 := NB389_391.out; obtain ⟨hcz21_0, hcz21_1, hcz21_2, hcz21_3, hcz21_4, hcz21_5, hfz21_0, hfz21_1, hfz21_2, hfz21_3, hfz21_4, hfz21_5⟩ := cells6 BK391.out))
       have GS391 : Aside0 (wS.heap.size ≤ gb391) := ⟨by rw [← HW.out.size]; exact GE391.out⟩
       have n0_ : Aside0 (Kd.R (Kd.opq 6) 33 ((((((w17.setCell ⟨gb391, 0, none⟩ (.int .i64 ((rd_T33 l0_3 x20_1).f0))).setCell ⟨gb391, 1, none⟩ (.string ((rd_T33 l0_3 x20_1).f1))).setCell ⟨gb391, 2, none⟩ (.int .i64 ((rd_T33 l0_3 x20_1).f2))).setCell ⟨gb391, 3, none⟩ (.slice A390_3 ((rd_T33 l0_3 x20_1).f3).length c390_3)).setCell ⟨gb391, 4, none⟩ (.slice A390_4 ((rd_T33 l0_3 x20_1).f4).length c390_4)).setCell ⟨gb391, 5, none⟩ (.slice A390_5 ((rd_T33 l0_3 x20_1).f5).length c390_5)) w.heap.size (fun k_ => k_ ≠ gb387 ∧ k_ ≠ gb388 ∧ k_ ≠ gb389 ∧ k_ ≠ gb391) u390003 x390003_1) := ⟨by (with_reducible repeat (first | apply Kd.R_alloc | apply Kd.R_drewN | apply Kd.R_drew)); exact Kd.R_mono (Kd.R_st (Kd.R_st (Kd.R_st (Kd.R_st (Kd.R_st (Kd.R_st (Kd.R_mono HO_390003.out (fun k_ hk => (⟨hk, hk.2⟩ : _ ∧ k_ ≠ gb391))))))))) (fun _ hk => ⟨hk.1.1.1, ⟨hk.1.1.2.1, ⟨hk.1.1.2.2, hk.1.2⟩⟩⟩)⟩
       have n1_ : Aside0 (((((((w17.setCell ⟨gb391, 0, none⟩ (.int .i64 ((rd_T33 l0_3 x20_1).f0))).setCell ⟨gb391, 1, none⟩ (.string ((rd_T33 l0_3 x20_1).f1))).setCell ⟨gb391, 2, none⟩ (.int .i64 ((rd_T33 l0_3 x20_1).f2))).setCell ⟨gb391, 3, none⟩ (.slice A390_3 ((rd_T33 l0_3 x20_1).f3).length c390_3)).setCell ⟨gb391, 4, none⟩ (.slice A390_4 ((rd_T33 l0_3 x20_1).f4).length c390_4)).setCell ⟨gb391, 5, none⟩ (.slice A390_5 ((rd_T33 l0_3 x20_1).f5).length c390_5)).heap[gb387]? = some (.cells #[.int .i64 a0_0, .string a0_1, .int .i64 a0_2, .slice (some ad390) l0_3.length c0_3, .slice A0_4 l0_4.length c0_4, .slice A0_5 l0_5.length c0_5] 33 (0, 0))) := ⟨by (with_reducible repeat (first | refine blk_drewN ?_ _ | refine blk_drew ?_ | refine blk_alloc ?_ _)); exact (blk_far (blk_far (blk_far (blk_far (blk_far (blk_far BK387.out NB387_391.out _) NB387_391.out _) NB387_391.out _) NB387_391.out _) NB387_391.out _) NB387_391.out _)⟩
       have n2_ : Aside0 (((((((w17.setCell ⟨gb391, 0, none⟩ (.int .i64 ((rd_T33 l0_3 x20_1).f0))).setCell ⟨gb391, 1, none⟩ (.string ((rd_T33 l0_3 x20_1).f1))).setCell ⟨gb391, 2, none⟩ (.int .i64 ((rd_T33 l0_3 x20_1).f2))).setCell ⟨gb391, 3, none⟩ (.slice A390_3 ((rd_T33 l0_3 x20_1).f3).length c390_3)).setCell ⟨gb391, 4, none⟩ (.slice A390_4 ((rd_T33 l0_3 x20_1).f4).length c390_4)).setCell ⟨gb391, 5, none⟩ (.slice A390_5 ((rd_T33 l0_3 x20_1).f5).length c390_5)).heap[gb388]? = some (.cells #[.int .i64 0, .string (⟨#[]⟩ : ByteArray), .int .i64 0, .slice none 0 0, .slice none 0 0, .slice none 0 0] 33 (0, 0))) := ⟨by (with_reducible repeat (first | refine blk_drewN ?_ _ | refine blk_drew ?_ | refine blk_alloc ?_ _)); exact (blk_far (blk_far (blk_far (blk_far (blk_far (blk_far BK388.out NB388_391.out _) NB388_391.out _) NB388_391.out _) NB388_391.out _) NB388_391.out _) NB388_391.out _)⟩
       have n3_ : Aside0 (((((((w17.setCell ⟨gb391, 0, none⟩ (.int .i64 ((rd_T33 l0_3 x20_1).f0))).setCell ⟨gb391, 1, none⟩ (.string ((rd_T33 l0_3 x20_1).f1))).setCell ⟨gb391, 2, none⟩ (.int .i64 ((rd_T33 l0_3 x20_1).f2))).setCell ⟨gb391, 3, none⟩ (.slice A390_3 ((rd_T33 l0_3 x20_1).f3).length c390_3)).setCell ⟨gb391, 4, none⟩ (.slice A390_4 ((rd_T33 l0_3 x20_1).f4).length c390_4)).setCell ⟨gb391, 5, none⟩ (.slice A390_5 ((rd_T33 l0_3 x20_1).f5).length c390_5)).heap[gb389]? = some (.cells #[.int .i64 a0_0, .string a0_1, .int .i64 a0_2, u390003, .slice none 0 0, .slice none 0 0] 33 (0, 0))) := ⟨by (with_reducible repeat (first | refine blk_drewN ?_ _ | refine blk_drew ?_ | refine blk_alloc ?_ _)); exact (blk_far (blk_far (blk_far (blk_far (blk_far (blk_far BK389.out NB389_391.out _) NB389_391.out _) NB389_391.out _) NB389_391.out _) NB389_391.out _) NB389_391.out _)⟩
       have n4_ : Aside0 (((((((w17.setCell ⟨gb391, 0, none⟩ (.int .i64 ((rd_T33 l0_3 x20_1).f0))).setCell ⟨gb391, 1, none⟩ (.string ((rd_T33 l0_3 x20_1).f1))).setCell ⟨gb391, 2, none⟩ (.int .i64 ((rd_T33 l0_3 x20_1).f2))).setCell ⟨gb391, 3, none⟩ (.slice A390_3 ((rd_T33 l0_3 x20_1).f3).length c390_3)).setCell ⟨gb391, 4, none⟩ (.slice A390_4 ((rd_T33 l0_3 x20_1).f4).length c390_4)).setCell ⟨gb391, 5, none⟩ (.slice A390_5 ((rd_T33 l0_3 x20_1).f5).length c390_5)).heap[gb391]? = some (.cells #[.int .i64 ((rd_T33 l0_3 x20_1).f0), .string ((rd_T33 l0_3 x20_1).f1), .int .i64 ((rd_T33 l0_3 x20_1).f2), .slice A390_3 ((rd_T33 l0_3 x20_1).f3).length c390_3, .slice A390_4 ((rd_T33 l0_3 x20_1).f4).length c390_4, .slice A390_5 ((rd_T33 l0_3 x20_1).f5).length c390_5] 33 (0, 0))) := ⟨by (with_reducible repeat (first | refine blk_drewN ?_ _ | refine blk_drew ?_ | refine blk_alloc ?_ _)); exact (put_6_5 (put_6_4 (put_6_3 (put_6_2 (put_6_1 (put_6_0 BK391.out))))))⟩
       have n5_ : Aside0 (Below w.heap.size w ((((((w17.setCell ⟨gb391, 0, none⟩ (.int .i64 ((rd_T33 l0_3 x20_1).f0))).setCell ⟨gb391, 1, none⟩ (.string ((rd_T33 l0_3 x20_1).f1))).setCell ⟨gb391, 2, none⟩ (.int .i64 ((rd_T33 l0_3 x20_1).f2))).setCell ⟨gb391, 3, none⟩ (.slice A390_3 ((rd_T33 l0_3 x20_1).f3).length c390_3)).setCell ⟨gb391, 4, none⟩ (.slice A390_4 ((rd_T33 l0_3 x20_1).f4).length c390_4)).setCell ⟨gb391, 5, none⟩ (.slice A390_5 ((rd_T33 l0_3 x20_1).f5).length c390_5))) := ⟨by repeat (first | (with_reducible first | exact HB.out | apply below_alloc | apply pw_below_drewN | apply below_drew1 | refine below_set ?_ GE387.out | refine below_set ?_ GE388.out | refine below_set ?_ GE389.out | refine below_set ?_ GE391.out) | exact HB.out)⟩
       (try clear HO_390003)
       (try clear BK387)
       (try clear BK388)
       (try clear BK389)
       (try clear BK391)
       (try clear HB)
       generalize ((((((w17.setCell ⟨gb391, 0, none⟩ (.int .i64 ((rd_T33 l0_3 x20_1).f0))).setCell ⟨gb391, 1, none⟩ (.string ((rd_T33 l0_3 x20_1).f1))).setCell ⟨gb391, 2, none⟩ (.int .i64 ((rd_T33 l0_3 x20_1).f2))).setCell ⟨gb391, 3, none⟩ (.slice A390_3 ((rd_T33 l0_3 x20_1).f3).length c390_3)).setCell ⟨gb391, 4, none⟩ (.slice A390_4 ((rd_T33 l0_3 x20_1).f4).length c390_4)).setCell ⟨gb391, 5, none⟩ (.slice A390_5 ((rd_T33 l0_3 x20_1).f5).length c390_5)) = w22 at n0_ n1_ n2_ n3_ n4_ n5_ ⊢
       have HO_390003 := n0_
       have BK387 := n1_
       have BK388 := n2_
       have BK389 := n3_
       have BK391 := n4_
       have HB := n5_
       clear n0_ n1_ n2_ n3_ n4_ n5_
       have n0_ := Aside0.mk (Kd.R_drew HO_390003.out)
       have n1_ := Aside0.mk (blk_drew BK387.out)
       have n2_ := Aside0.mk (blk_drew BK388.out)
       have n3_ := Aside0.mk (blk_drew BK389.out)
       have n4_ := Aside0.mk (blk_drew BK391.out)
       have n5_ := Aside0.mk (below_drew1 HB.out)
       clear HO_390003
       clear BK387
       clear BK388
       clear BK389
       clear BK391
       clear HB
       have HO_390003 := n0_
       have BK387 := n1_
       have BK388 := n2_
       have BK389 := n3_
       have BK391 := n4_
       have HB := n5_
       clear n0_ n1_ n2_ n3_ n4_ n5_
       refine start_ (n := 9) (S := fun w' => w'.cell? ⟨gb389, 0, none⟩ = some (.int .i64 a0_0) ∧ w'.cell? ⟨gb389, 1, none⟩ = some (.string a0_1) ∧ w'.cell? ⟨gb389, 2, none⟩ = some (.int .i64 a0_2) ∧ w'.cell? ⟨gb389, 3, none⟩ = some (u390003) ∧ w'.cell? ⟨gb389, 4, none⟩ = some (.slice none 0 0) ∧ w'.cell? ⟨gb389, 5, none⟩ = some (.slice none 0 0) ∧ w'.cell? ⟨gb391, 0, none⟩ = some (.int .i64 ((rd_T33 l0_3 x20_1).f0)) ∧ w'.cell? ⟨gb391, 1, none⟩ = some (.string ((rd_T33 l0_3 x20_1).f1)) ∧ w'.cell? ⟨gb391, 2, none⟩ = some (.int .i64 ((rd_T33 l0_3 x20_1).f2)) ∧ w'.cell? ⟨gb391, 3, none⟩ = some (.slice A390_3 ((rd_T33 l0_3 x20_1).f3).length c390_3) ∧ w'.cell? ⟨gb391, 4, none⟩ = some (.slice A390_4 ((rd_T33 l0_3 x20_1).f4).length c390_4) ∧ w'.cell? ⟨gb391, 5, none⟩ = some (.slice A390_5 ((rd_T33 l0_3 x20_1).f5).length c390_5)) (ds := [8]) #[false, false, false, false, false, false, false, false, false] (by kernel_rfl) rfl rfl ⟨(blk_cell BK389.out 0).trans rfl, (blk_cell BK389.out 1).trans rfl, (blk_cell BK389.out 2).trans rfl, (blk_cell BK389.out 3).trans rfl, (blk_cell BK389.out 4).trans rfl, (blk_cell BK389.out 5).trans rfl, (blk_cell BK391.out 0).trans rfl, (blk_cell BK391.out 1).trans rfl, (blk_cell BK391.out 2).trans rfl, (blk_cell BK391.out 3).trans rfl, (blk_cell BK391.out 4).trans rfl, (blk_cell BK391.out 5).trans rfl⟩ (fun hHeld => ?_); refine with_tabW M_tab5 M_bits5 (fun HT_ HW_ => ?_)
       generalize w22.drew = w23 at HO_390003 BK387 BK388 BK389 BK391 HB hHeld ⊢
       refine pure_ (i := 0) (N := some 24) (v := ?_) (a' := ?_) #[true, false, false, false, false, false, false, false, false] rfl rfl (any_of HT_.out (by kernel_rfl)) (fun _ _ _ h => h) (Or.inl ⟨by rfl, ?_⟩) ?_ ?_
       rotate_left
       ·intro w'
        go_simp
        with_reducible rfl
       rotate_left
       ·simp only [Act.put, List.setIfInBounds_toArray, List.set_cons_zero, List.set_cons_succ, i64_w, i32_w]
        rfl
       refine pure_ (i := 2) (N := some 26) (v := ?_) (a' := ?_) #[true, false, true, false, false, false, false, false, false] rfl rfl (any_of HT_.out (by kernel_rfl)) (fun _ _ _ h => h) (Or.inl ⟨by rfl, ?_⟩) ?_ ?_
       rotate_left
       ·intro w'
        go_simp
        with_reducible rfl
       rotate_left
       ·simp only [Act.put, List.setIfInBounds_toArray, List.set_cons_zero, List.set_cons_succ, i64_w, i32_w]
        rfl
       refine take_ (i := 1) (N := some 25) (v := ?_) (a' := ?_) #[true, true, true, false, false, false, false, false, false] rfl rfl (take_ofW HT_.out HW_.out (by kernel_rfl)) (fun _ _ _ h => h) (Or.inl ⟨by rfl, ?_⟩) hHeld ?_ ?_
       rotate_left
       ·rintro w' ⟨s0, s1, s2, s3, s4, s5, s6, s7, s8, s9, s10, s11⟩
        go_simp
        with_reducible rfl
       rotate_left
       ·simp only [Act.put, List.setIfInBounds_toArray, List.set_cons_zero, List.set_cons_succ, i64_w, i32_w]
        rfl
       refine take_ (i := 3) (N := some 27) (v := ?_) (a' := ?_) #[true, true, true, true, false, false, false, false, false] rfl rfl (take_ofW HT_.out HW_.out (by kernel_rfl)) (fun _ _ _ h => h) (Or.inl ⟨by rfl, ?_⟩) hHeld ?_ ?_
       rotate_left
       ·rintro w' ⟨s0, s1, s2, s3, s4, s5, s6, s7, s8, s9, s10, s11⟩
        go_simp
        with_reducible rfl
       rotate_left
       ·simp only [Act.put, List.setIfInBounds_toArray, List.set_cons_zero, List.set_cons_succ, i64_w, i32_w]
        rfl
       refine one_ (i := 4) (N := some 28) #[true, true, true, true, true, false, false, false, false] rfl rfl (one_of HT_.out (by kernel_rfl)) (by decide) (fun K hK => ?_)
       refine goesD_ Try.func55 (by kernel_rfl) rfl #[.agg #[.int .i64 ((rd_T33 l0_3 x20_1).f0), .string ((rd_T33 l0_3 x20_1).f1), .int .i64 ((rd_T33 l0_3 x20_1).f2), .slice A390_3 ((rd_T33 l0_3 x20_1).f3).length c390_3, .slice A390_4 ((rd_T33 l0_3 x20_1).f4).length c390_4, .slice A390_5 ((rd_T33 l0_3 x20_1).f5).length c390_5], .pointer (some ⟨gN, 0, none⟩), .pointer (some ⟨gP, 0, none⟩)] (by rfl) rfl rfl rfl (by (try simp only [List.map_toArray, List.map_cons, List.map_nil, List.append_toArray, List.cons_append, List.nil_append]); first | done | rfl) ?_
       with_reducible refine (ih_L k1 (by have := HK1.out; omega) ((rd_T33 l0_3 x20_1).f0) ((rd_T33 l0_3 x20_1).f1) ((rd_T33 l0_3 x20_1).f2) _ _ ((rd_T33 l0_3 x20_1).f3) _ _ ((rd_T33 l0_3 x20_1).f4) _ _ ((rd_T33 l0_3 x20_1).f5) nn m1 w0 _ gN gP (HW.out.begin_ HB.out) HR390_3.out HC390_3.out HR390_4.out HC390_4.out HR390_5.out HC390_5.out A15.out).mono ?_
       rintro e w24 ⟨w2, rfl, h2, hb⟩
       refine ⟨_, rfl, ?_⟩
       obtain ⟨w, hs_, HW2, HB2, hm⟩ := HW.out.step HB.out h2 hb
       have n0_ := Aside0.mk (Kd.R_past' HO_390003.out hs_ HW.out.lt hm)
       have n1_ := Aside0.mk (blk_past BK387.out HW.out.lt GE387.out hm)
       have n2_ := Aside0.mk (blk_past BK388.out HW.out.lt GE388.out hm)
       have n3_ := Aside0.mk (blk_past BK389.out HW.out.lt GE389.out hm)
       have n4_ := Aside0.mk (blk_past BK391.out HW.out.lt GE391.out hm)
       clear HB HW h2 hb hm hs_ HO_390003 BK387 GE387 GW387 BK388 GE388 GW388 BK389 GE389 GW389 BK391 GE391 GW391
       have HO_390003 := n0_
       have BK387 := n1_
       have BK388 := n2_
       have BK389 := n3_
       have BK391 := n4_
       have HB := Aside0.mk HB2
       have HW := Aside0.mk HW2
       clear HB2 HW2 w2 n0_ n1_ n2_ n3_ n4_
       have GE387 : Aside0 (w.heap.size ≤ gb387) := ⟨by rw [HW.out.size]; exact GS387.out⟩
       have GW387 := GE387
       have GE388 : Aside0 (w.heap.size ≤ gb388) := ⟨by rw [HW.out.size]; exact GS388.out⟩
       have GW388 := GE388
       have GE389 : Aside0 (w.heap.size ≤ gb389) := ⟨by rw [HW.out.size]; exact GS389.out⟩
       have GW389 := GE389
       have GE391 : Aside0 (w.heap.size ≤ gb391) := ⟨by rw [HW.out.size]; exact GS391.out⟩
       have GW391 := GE391
       refine hK.out _ _ ⟨(blk_cell BK389.out 0).trans rfl, (blk_cell BK389.out 1).trans rfl, (blk_cell BK389.out 2).trans rfl, (blk_cell BK389.out 3).trans rfl, (blk_cell BK389.out 4).trans rfl, (blk_cell BK389.out 5).trans rfl, (blk_cell BK391.out 0).trans rfl, (blk_cell BK391.out 1).trans rfl, (blk_cell BK391.out 2).trans rfl, (blk_cell BK391.out 3).trans rfl, (blk_cell BK391.out 4).trans rfl, (blk_cell BK391.out 5).trans rfl⟩ (fun hHeld => ?_)
       clear hK K
       refine norm_ (a' := ?_) ?_ ?_
       rotate_left
       ·show Act.put _ (some 28) _ = _
        simp only [Act.put, List.setIfInBounds_toArray, List.set_cons_zero, List.set_cons_succ, i64_w, i32_w]
        rfl
       refine one_ (i := 5) (N := some 29) #[true, true, true, true, true, true, false, false, false] rfl rfl (one_of HT_.out (by kernel_rfl)) (by decide) (fun K hK => ?_)
       refine value_ (w1 := ?_) (v := ?_) (by rfl) rfl ?_ ?_
       rotate_left 2
       ·go_simp
        constructor
        ·rfl
        ·rfl
       refine hK.out _ _ ⟨(blk_cell (blk_alloc BK389.out _) 0).trans rfl, (blk_cell (blk_alloc BK389.out _) 1).trans rfl, (blk_cell (blk_alloc BK389.out _) 2).trans rfl, (blk_cell (blk_alloc BK389.out _) 3).trans rfl, (blk_cell (blk_alloc BK389.out _) 4).trans rfl, (blk_cell (blk_alloc BK389.out _) 5).trans rfl, (blk_cell (blk_alloc BK391.out _) 0).trans rfl, (blk_cell (blk_alloc BK391.out _) 1).trans rfl, (blk_cell (blk_alloc BK391.out _) 2).trans rfl, (blk_cell (blk_alloc BK391.out _) 3).trans rfl, (blk_cell (blk_alloc BK391.out _) 4).trans rfl, (blk_cell (blk_alloc BK391.out _) 5).trans rfl⟩ (fun hHeld => ?_)
       clear hK K
       refine norm_ (a' := ?_) ?_ ?_
       rotate_left
       ·show Act.put _ (some 29) _ = _
        simp only [Act.put, List.setIfInBounds_toArray, List.set_cons_zero, List.set_cons_succ, i64_w, i32_w]
        rfl
       refine one_ (i := 6) (N := some 30) #[true, true, true, true, true, true, true, false, false] rfl rfl (one_of HT_.out (by kernel_rfl)) (by decide) (fun K hK => ?_)
       refine Kd.R_append_step (Kd.opq 6) (w0 := w) w.heap.size (by rfl) (.tmp 25) (.tmp 29) 29 33 (.agg #[(.int .i64 0), (.string ⟨#[]⟩), (.int .i64 0), (.slice none 0 0), (.slice none 0 0), (.slice none 0 0)]) 104 rfl Try.underlying29 info33 rfl (by decide) (by omega) u390003 x390003_1 () [.int .i64 ((rd_T33 l0_3 x20_1).f0), .string ((rd_T33 l0_3 x20_1).f1), .int .i64 ((rd_T33 l0_3 x20_1).f2), .slice A390_3 ((rd_T33 l0_3 x20_1).f3).length c390_3, .slice A390_4 ((rd_T33 l0_3 x20_1).f4).length c390_4, .slice A390_5 ((rd_T33 l0_3 x20_1).f5).length c390_5] (fun k_ => k_ ≠ gb387 ∧ k_ ≠ gb388 ∧ k_ ≠ gb389 ∧ k_ ≠ gb391) (fun k_ => ((fun k_ => k_ ≠ gb387 ∧ k_ ≠ gb388 ∧ k_ ≠ gb389 ∧ k_ ≠ gb391)) k_ ∧ some k_ ≠ (u390003 : Value).ownBlock) rfl rfl ?aP (fun _ hk => hk) ?aF ?aO ?aB ?aS ?aL ?_
       (case aP => exact ⟨rfl, fun u hu => by simp only [List.mem_cons, List.not_mem_nil, or_false] at hu; rcases hu with rfl | rfl | rfl | rfl | rfl | rfl <;> rfl⟩)
       (case aB => exact HB.out)
       (case aF => exact (fun k_ hk => ⟨Kd.freshB BK387.out k_ hk, Kd.freshB BK388.out k_ hk, Kd.freshB BK389.out k_ hk, Kd.freshB BK391.out k_ hk⟩))
       (case aO => exact HO_390003.out)
       (case aS => exact (below_size HB.out))
       (case aL => have := LMc16.out; omega)
       intro v405 w25 ho hb hg hat
       rw [← Ny404.out] at ho
       have n0_ := Aside0.mk (blk_grown (g := gb387) BK387.out hg (Kd.R_away HO_390003.out (fun _ hk => hk.1)))
       have n1_ := Aside0.mk (blk_grown (g := gb388) BK388.out hg (Kd.R_away HO_390003.out (fun _ hk => hk.2.1)))
       have n2_ := Aside0.mk (blk_grown (g := gb389) BK389.out hg (Kd.R_away HO_390003.out (fun _ hk => hk.2.2.1)))
       have n3_ := Aside0.mk (blk_grown (g := gb391) BK391.out hg (Kd.R_away HO_390003.out (fun _ hk => hk.2.2.2)))
       have n4_ := Aside0.mk (hb)
       have n5_ := Aside0.mk (ho)
       clear BK387
       clear BK388
       clear BK389
       clear BK391
       clear HB
       clear HO_390003
       skip
       have BK387 := n0_
       have BK388 := n1_
       have BK389 := n2_
       have BK391 := n3_
       have HB := n4_
       have HO406 := n5_
       clear n0_ n1_ n2_ n3_ n4_ n5_
       clear ho hb hg hat
       obtain ⟨Ao29, co29, eo29⟩ := Kd.R_slice HO406.out
       (first | subst eo29 | (injection eo29 with f1_ f2_ f3_; have f4_ := f1_.symm; have f5_ := f3_.symm; clear f1_ f2_ f3_; subst f4_; subst f5_))
       refine hK.out _ _ ⟨(blk_cell BK389.out 0).trans rfl, (blk_cell BK389.out 1).trans rfl, (blk_cell BK389.out 2).trans rfl, (blk_cell BK389.out 3).trans rfl, (blk_cell BK389.out 4).trans rfl, (blk_cell BK389.out 5).trans rfl, (blk_cell BK391.out 0).trans rfl, (blk_cell BK391.out 1).trans rfl, (blk_cell BK391.out 2).trans rfl, (blk_cell BK391.out 3).trans rfl, (blk_cell BK391.out 4).trans rfl, (blk_cell BK391.out 5).trans rfl⟩ (fun hHeld => ?_)
       clear hK K
       refine norm_ (a' := ?_) ?_ ?_
       rotate_left
       ·show Act.put _ (some 30) _ = _
        simp only [Act.put, List.setIfInBounds_toArray, List.set_cons_zero, List.set_cons_succ, i64_w, i32_w]
        rfl
       refine pure_ (i := 7) (N := some 31) (v := ?_) (a' := ?_) #[true, true, true, true, true, true, true, true, false] rfl rfl (any_of HT_.out (by kernel_rfl)) (fun _ _ _ h => h) (Or.inl ⟨by rfl, ?_⟩) ?_ ?_
       rotate_left
       ·intro w'
        go_simp
        with_reducible rfl
       rotate_left
       ·simp only [Act.put, List.setIfInBounds_toArray, List.set_cons_zero, List.set_cons_succ, i64_w, i32_w]
        rfl
       refine last_ (i := 8) (N := none) #[true, true, true, true, true, true, true, true, true] rfl rfl (one_of HT_.out (by kernel_rfl)) (by decide) (fun K hK => ?_)
       have hs30 : w25.cell? ⟨gb389, 3, none⟩ = some (u390003) := (blk_cell BK389.out 3).trans rfl
       have hfs30 := blk_frozen BK389.out 3
       have hns30_0 := NB387_389.out
       have hns30_1 := NB388_389.out
       have hns30_3 := NB391_389.out
       have hms30_0 := NB389_387.out
       have hms30_1 := NB389_388.out
       have hms30_3 := NB389_391.out
       refine skip_ (w1 := ?_) (by rfl) rfl ?_ ?_
       rotate_left
       ·go_simp
        rfl
       refine hK.out _ _ ?_
       clear hK K
       refine done_ (done_of HT_.out (by kernel_rfl)) ?_
       try go_wp2
       go_roundg k1
       case measure => have := HK1.out; omega
       case rel => exact ⟨(wrap64 (x20_1 + 1)), (y404), (.slice Ao29 y404.length co29), m1, w, (by first | rfl | (simp; done) | (simp [*]; done)), H', ⟨by have := HK1.out; omega⟩, ⟨by (with_reducible repeat (first | apply Kd.R_alloc | apply Kd.R_drewN | apply Kd.R_drew)); exact Kd.R_mono (Kd.R_st (Kd.R_mono HO406.out (fun k_ hk => (⟨hk, hk.2.2.1⟩ : _ ∧ k_ ≠ gb389)))) (fun _ hk => ⟨hk.1.1, ⟨hk.1.2.1, hk.1.2.2.1⟩⟩)⟩, ⟨by (with_reducible repeat (first | refine blk_drewN ?_ _ | refine blk_drew ?_ | refine blk_alloc ?_ _)); exact (blk_far BK387.out NB387_389.out _)⟩, ⟨by (with_reducible repeat (first | refine blk_drewN ?_ _ | refine blk_drew ?_ | refine blk_alloc ?_ _)); exact (blk_far BK388.out NB388_389.out _)⟩, ⟨by (with_reducible repeat (first | refine blk_drewN ?_ _ | refine blk_drew ?_ | refine blk_alloc ?_ _)); exact (put_6_3 BK389.out)⟩, ⟨by repeat (first | (with_reducible first | exact HB.out | apply below_alloc | apply pw_below_drewN | apply below_drew1 | refine below_set ?_ GE387.out | refine below_set ?_ GE388.out | refine below_set ?_ GE389.out | refine below_set ?_ GE391.out) | exact HB.out)⟩, HW⟩
      ·rw [if_neg c16] at H
       exact absurd H (by simp)
     ·rw [if_neg c14] at H
      exact absurd H (by simp)
    ·rw [if_neg c13] at H
     exact absurd H (by simp)
   ·rw [if_neg c12] at H
    have c12b0 : decide (x20_1 < (l0_3.length : Int)) = false := decide_eq_false c12
    clear c12
    replace H := Option.bind_eq_some_iff.mp H
    obtain ⟨m2, A310, H⟩ := H
    have A31 := Aside0.mk A310
    clear A310
    obtain ⟨Ao35, co35, eo35⟩ := Kd.R_slice HO_390003.out
    subst eo35
    clear HO_390003
    have H' := Aside0.mk H
    clear H
    have hnb32 := NB387_388.out
    have hnc32 := NB388_387.out
    have hnb33 := NB387_389.out
    have hnc33 := NB389_387.out
    obtain ⟨hcz34_0, hcz34_1, hcz34_2, hcz34_3, hcz34_4, hcz34_5, hfz34_0, hfz34_1, hfz34_2, hfz34_3, hfz34_4, hfz34_5⟩ := cells6 BK387.out
    go_wp2_with (first | ((with_reducible refine gate_callee (f := 65) rfl ?_); refine goesL_ (some 36) rfl rfl Try.func65 (by kernel_rfl) rfl #[.slice A0_4 l0_4.length c0_4, FV gN gP] rfl (by (try simp only [List.map_toArray, List.map_cons, List.map_nil]); first | done | rfl | (simp only [List.length_drop, List.length_take]; rfl)) ?_; refine calls_bel (w0 := w) (by repeat (first | (with_reducible first | exact HB.out | apply below_alloc | apply pw_below_drewN | apply below_drew1) | exact HB.out)) (fun hx_ => ?_); (with_reducible refine (ih_D k1 (by have := HK1.out; omega) _ _ l0_4 nn m2 w0 _ gN gP (HW.out.begin_ hx_) HR0_4.out HC0_4.out A31.out).mono ?_); rintro e w35 ⟨Ao36, no36, co36, w2, rfl, h2, hb⟩; refine ⟨_, rfl, ?_⟩; obtain ⟨w, hs_, HW2, HB2, hm⟩ := HW.out.step hx_ h2 hb; have n1_ := Aside0.mk (blk_past (show _ from by (with_reducible repeat (first | refine blk_drewN ?_ _ | refine blk_drew ?_ | refine blk_alloc ?_ _)); exact BK387.out) HW.out.lt GE387.out hm); have n2_ := Aside0.mk (blk_past (show _ from by (with_reducible repeat (first | refine blk_drewN ?_ _ | refine blk_drew ?_ | refine blk_alloc ?_ _)); exact BK388.out) HW.out.lt GE388.out hm); have n3_ := Aside0.mk (blk_past (show _ from by (with_reducible repeat (first | refine blk_drewN ?_ _ | refine blk_drew ?_ | refine blk_alloc ?_ _)); exact BK389.out) HW.out.lt GE389.out hm); clear hx_ HB HW h2 hb hm hs_  BK387 GE387 GW387 BK388 GE388 GW388 BK389 GE389 GW389; have BK387 := n1_; have BK388 := n2_; have BK389 := n3_; have HB := Aside0.mk HB2; have HW := Aside0.mk HW2; clear HB2 HW2 w2  n1_ n2_ n3_; have GE387 : Aside0 (w.heap.size ≤ gb387) := ⟨by rw [HW.out.size]; exact GS387.out⟩; have GW387 := GE387; have GE388 : Aside0 (w.heap.size ≤ gb388) := ⟨by rw [HW.out.size]; exact GS388.out⟩; have GW388 := GE388; have GE389 : Aside0 (w.heap.size ≤ gb389) := ⟨by rw [HW.out.size]; exact GS389.out⟩; have GW389 := GE389; have hnb37 := NB389_388.out; have hnc37 := NB388_389.out; obtain ⟨hcz38_0, hcz38_1, hcz38_2, hcz38_3, hcz38_4, hcz38_5, hfz38_0, hfz38_1, hfz38_2, hfz38_3, hfz38_4, hfz38_5⟩ := cells6 BK389.out; obtain ⟨hcz39_0, hcz39_1, hcz39_2, hcz39_3, hcz39_4, hcz39_5, hfz39_0, hfz39_1, hfz39_2, hfz39_3, hfz39_4, hfz39_5⟩ := cells6 BK387.out))
    go_loopg [41] k1 (fun kq v41 w' => ∃ (x41_2 : Int) (x390005_2 : List Unit) (u390005 : Value) (n2 : Int) (w : World), v41 = .int .i64 x41_2 ∧ Aside0 (cM1 kq l0_5 x41_2 x390005_2 n2 = some r) ∧ Aside0 (kq ≤ k1) ∧ Aside0 (Kd.R (Kd.opq 8) 53 w' w.heap.size (fun k_ => k_ ≠ gb387 ∧ k_ ≠ gb388 ∧ k_ ≠ gb389) u390005 x390005_2) ∧ Aside0 (w'.heap[gb387]? = some (.cells #[.int .i64 a0_0, .string a0_1, .int .i64 a0_2, (.slice A0_3 l0_3.length c0_3), (.slice A0_4 l0_4.length c0_4), (.slice A0_5 l0_5.length c0_5)] 33 (0, 0))) ∧ Aside0 (w'.heap[gb388]? = some (.cells #[.int .i64 0, .string (⟨#[]⟩ : ByteArray), .int .i64 0, (.slice none 0 0), (.slice none 0 0), (.slice none 0 0)] 33 (0, 0))) ∧ Aside0 (w'.heap[gb389]? = some (.cells #[.int .i64 a0_0, .string a0_1, .int .i64 a0_2, (.slice Ao35 x390003_1.length co35), (.slice Ao36 no36 co36), u390005] 33 (0, 0))) ∧ Aside0 (Below w.heap.size w w') ∧ Aside0 (Cnt w0 wS w gN gP n2))
    case atStart => exact ⟨(0), (([] : List Unit)), (.slice none 0 0), m2, w, (by first | rfl | (simp; done) | (simp [*]; done)), H', ⟨Nat.le_refl _⟩, ⟨by first | exact Kd.R_nil _ _ _ _ _ | exact Kd.N_nil _ _ _ _ _ | exact Kd.V_nil _ _ _ _ _ | exact Kd.Q_nil _ _ _ _ _ | exact Kd.S_nil _ _ _ _ _⟩, ⟨by (with_reducible repeat (first | refine blk_drewN ?_ _ | refine blk_drew ?_ | refine blk_alloc ?_ _)); exact (blk_far BK387.out NB387_389.out _)⟩, ⟨by (with_reducible repeat (first | refine blk_drewN ?_ _ | refine blk_drew ?_ | refine blk_alloc ?_ _)); exact (blk_far BK388.out NB388_389.out _)⟩, ⟨by (with_reducible repeat (first | refine blk_drewN ?_ _ | refine blk_drew ?_ | refine blk_alloc ?_ _)); exact (put_6_4 BK389.out)⟩, ⟨by repeat (first | (with_reducible first | exact HB.out | apply below_alloc | apply pw_below_drewN | apply below_drew1 | refine below_set ?_ GE387.out | refine below_set ?_ GE388.out | refine below_set ?_ GE389.out) | exact HB.out)⟩, HW⟩
    case round =>
     clear H'
     try clear c1
     try clear c2
     try clear p2
     try clear c3
     try clear p3
     try clear q3
     try clear hx3
     try clear c5
     try clear p6
     try clear c8
     try clear c9
     try clear c12
     try clear c12b0
     try clear c13
     try clear c13b0
     try clear c14
     try clear c14b0
     try clear c16
     try clear c18
     try clear c19
     try clear c20
     try clear c32
     try clear c33
     try clear c37
     try clear c39
     try clear p39
     try clear q39
     try clear hx39
     try clear hcz10_0
     try clear hcz10_1
     try clear hcz10_2
     try clear hcz10_3
     try clear hcz10_4
     try clear hcz10_5
     try clear hcz11_0
     try clear hcz11_1
     try clear hcz11_2
     try clear hcz11_3
     try clear hcz11_4
     try clear hcz11_5
     try clear hcz21_0
     try clear hcz21_1
     try clear hcz21_2
     try clear hcz21_3
     try clear hcz21_4
     try clear hcz21_5
     try clear hcz34_0
     try clear hcz34_1
     try clear hcz34_2
     try clear hcz34_3
     try clear hcz34_4
     try clear hcz34_5
     try clear hcz38_0
     try clear hcz38_1
     try clear hcz38_2
     try clear hcz38_3
     try clear hcz38_4
     try clear hcz38_5
     try clear hcz39_0
     try clear hcz39_1
     try clear hcz39_2
     try clear hcz39_3
     try clear hcz39_4
     try clear hcz39_5
     try clear hcz6_0
     try clear hcz6_1
     try clear hcz6_2
     try clear hcz6_3
     try clear hcz6_4
     try clear hcz6_5
     try clear hfz10_0
     try clear hfz10_1
     try clear hfz10_2
     try clear hfz10_3
     try clear hfz10_4
     try clear hfz10_5
     try clear hfz11_0
     try clear hfz11_1
     try clear hfz11_2
     try clear hfz11_3
     try clear hfz11_4
     try clear hfz11_5
     try clear hfz21_0
     try clear hfz21_1
     try clear hfz21_2
     try clear hfz21_3
     try clear hfz21_4
     try clear hfz21_5
     try clear hfz34_0
     try clear hfz34_1
     try clear hfz34_2
     try clear hfz34_3
     try clear hfz34_4
     try clear hfz34_5
     try clear hfz38_0
     try clear hfz38_1
     try clear hfz38_2
     try clear hfz38_3
     try clear hfz38_4
     try clear hfz38_5
     try clear hfz39_0
     try clear hfz39_1
     try clear hfz39_2
     try clear hfz39_3
     try clear hfz39_4
     try clear hfz39_5
     try clear hfz6_0
     try clear hfz6_1
     try clear hfz6_2
     try clear hfz6_3
     try clear hfz6_4
     try clear hfz6_5
     try clear hx390_0
     try clear hx390_1
     try clear hx390_2
     try clear hx390_3
     try clear hx390_4
     try clear hx390_5
     try clear p2
     try clear p390
     try clear q390
     clear HB HW BK387 BK388 BK389 GE387 GE388 GE389 GW387 GW388 GW389
     obtain ⟨x41_2, x390005_2, u390005, n2, w, rfl, HA, HK2, HO_390005, BK387, BK388, BK389, HB, HW⟩ := hrel
     have GE387 : Aside0 (w.heap.size ≤ gb387) := ⟨by rw [HW.out.size]; exact GS387.out⟩
     have GW387 := GE387
     have GE388 : Aside0 (w.heap.size ≤ gb388) := ⟨by rw [HW.out.size]; exact GS388.out⟩
     have GW388 := GE388
     have GE389 : Aside0 (w.heap.size ≤ gb389) := ⟨by rw [HW.out.size]; exact GS389.out⟩
     have GW389 := GE389
     cases gk with
     | zero => exact absurd HA.out (by simp [cM1])
     | succ k2 =>
      have H := HA.out
      clear HA
      simp only [cM1] at H
      by_cases c40 : x41_2 < (l0_5.length : Int)
      ·rw [if_pos c40] at H
       have c40b0 : decide (x41_2 < (l0_5.length : Int)) = true := decide_eq_true c40
       clear c40
       by_cases c41 : 0 ≤ x41_2
       ·rw [if_pos c41] at H
        have c41b0 : decide (0 ≤ x41_2) = true := decide_eq_true c41
        clear c41
        by_cases c42 : x41_2 < (l0_5.length : Int)
        ·rw [if_pos c42] at H
         have c42b0 : decide (x41_2 < (l0_5.length : Int)) = true := decide_eq_true c42
         clear c42
         replace H := Option.bind_eq_some_iff.mp H
         obtain ⟨t412, A430, H⟩ := H
         have A43 := Aside0.mk A430
         clear A430
         replace H := Option.bind_eq_some_iff.mp H
         obtain ⟨m3, A440, H⟩ := H
         have A44 := Aside0.mk A440
         clear A440
         by_cases c45 : x390005_2.length < 977343669134
         ·rw [if_pos c45] at H
          have LMc45 := Aside0.mk c45
          clear c45
          obtain ⟨y427, hy427⟩ : ∃ y_ : List Unit, y_ = x390005_2 ++ [()] := ⟨_, rfl⟩
          rw [← hy427] at H
          have Ny427 := Aside0.mk hy427
          clear hy427
          have H' := Aside0.mk H
          clear H
          have p410 : 0 ≤ (x41_2 : Int) := of_decide_eq_true (by first | (with_reducible assumption) | assumption)
          have q410 : x41_2 < (l0_5.length : Int) := of_decide_eq_true (by first | (with_reducible assumption) | assumption)
          obtain ⟨ad410, A410_1, c410_1, A410_5, c410_5, A410_6, c410_6, A410_7, c410_7, e410, hx410_0, hx410_1, hx410_2, hx410_3, hx410_4, hx410_5, hx410_6, hx410_7, hl410_1, hi410_1, hl410_5, hi410_5, hl410_6, hi410_6, hl410_7, hi410_7⟩ := at_T53 HR0_5.out x41_2 p410 q410
          cases e410
          replace hx410_0 := ((HW.out.under HB.out).cell (World.block_lt_of_cell? w0 _ hx410_0)).trans hx410_0
          replace hx410_1 := ((HW.out.under HB.out).cell (World.block_lt_of_cell? w0 _ hx410_1)).trans hx410_1
          replace hx410_2 := ((HW.out.under HB.out).cell (World.block_lt_of_cell? w0 _ hx410_2)).trans hx410_2
          replace hx410_3 := ((HW.out.under HB.out).cell (World.block_lt_of_cell? w0 _ hx410_3)).trans hx410_3
          replace hx410_4 := ((HW.out.under HB.out).cell (World.block_lt_of_cell? w0 _ hx410_4)).trans hx410_4
          replace hx410_5 := ((HW.out.under HB.out).cell (World.block_lt_of_cell? w0 _ hx410_5)).trans hx410_5
          replace hx410_6 := ((HW.out.under HB.out).cell (World.block_lt_of_cell? w0 _ hx410_6)).trans hx410_6
          replace hx410_7 := ((HW.out.under HB.out).cell (World.block_lt_of_cell? w0 _ hx410_7)).trans hx410_7
          have HR410_1 := Aside0.mk hi410_1
          have HC410_1 := Aside0.mk hl410_1
          clear hi410_1 hl410_1
          have HR410_5 := Aside0.mk hi410_5
          have HC410_5 := Aside0.mk hl410_5
          clear hi410_5 hl410_5
          have HR410_6 := Aside0.mk hi410_6
          have HC410_6 := Aside0.mk hl410_6
          clear hi410_6 hl410_6
          have HR410_7 := Aside0.mk hi410_7
          have HC410_7 := Aside0.mk hl410_7
          clear hi410_7 hl410_7
          replace p410 := eq_true p410
          replace q410 := eq_true q410
          try go_wp2_with (first | ((with_reducible refine gate_dst (N := 9) rfl ?_); refine box_event ?hg (N := 9) ?hd (cs := #[.string (⟨#[]⟩ : ByteArray), .slice none 0 0, .int .i64 0, .string (⟨#[]⟩ : ByteArray), .int .i64 0, .slice none 0 0, .slice none 0 0, .slice none 0 0]) (t := 53) ?hr ?_; (case hd => rfl); (case hg => rfl); (case hr => first | (go_simp; done) | (go_simp; rfl)); intro gb411 hg w46 hbox hb; have hx_ := bel_of (w := w) hb (by repeat (first | (with_reducible first | exact HB.out | apply below_alloc | apply pw_below_drewN | apply below_drew1 | refine below_set ?_ GE387.out | refine below_set ?_ GE388.out | refine below_set ?_ GE389.out) | exact HB.out)); have n2_ := Aside0.mk (Kd.R_below (Kd.R_elderB (by (with_reducible repeat (first | apply Kd.R_alloc | apply Kd.R_drewN | apply Kd.R_drew)); exact HO_390005.out) gb411 (Nat.le_of_eq hg.symm)) hb); have n3_ := Aside0.mk (blk_below (g := gb387) (by (with_reducible repeat (first | refine blk_drewN ?_ _ | refine blk_drew ?_ | refine blk_alloc ?_ _)); exact BK387.out) hb); have n4_ := Aside0.mk (blk_below (g := gb388) (by (with_reducible repeat (first | refine blk_drewN ?_ _ | refine blk_drew ?_ | refine blk_alloc ?_ _)); exact BK388.out) hb); have n5_ := Aside0.mk (blk_below (g := gb389) (by (with_reducible repeat (first | refine blk_drewN ?_ _ | refine blk_drew ?_ | refine blk_alloc ?_ _)); exact BK389.out) hb); have n6_ := Aside0.mk (below_step hx_ hb); have n7_ := Aside0.mk (hbox); have n8_ := Aside0.mk ((box_ge hx_ hg)); have n9_ := Aside0.mk ((box_ge hx_ hg)); have n10_ := Aside0.mk (box_lt (g' := gb387) (by (with_reducible repeat (first | refine blk_drewN ?_ _ | refine blk_drew ?_ | refine blk_alloc ?_ _)); exact BK387.out) hg); have n11_ := Aside0.mk (box_gt (g' := gb387) (by (with_reducible repeat (first | refine blk_drewN ?_ _ | refine blk_drew ?_ | refine blk_alloc ?_ _)); exact BK387.out) hg); have n12_ := Aside0.mk (box_lt (g' := gb388) (by (with_reducible repeat (first | refine blk_drewN ?_ _ | refine blk_drew ?_ | refine blk_alloc ?_ _)); exact BK388.out) hg); have n13_ := Aside0.mk (box_gt (g' := gb388) (by (with_reducible repeat (first | refine blk_drewN ?_ _ | refine blk_drew ?_ | refine blk_alloc ?_ _)); exact BK388.out) hg); have n14_ := Aside0.mk (box_lt (g' := gb389) (by (with_reducible repeat (first | refine blk_drewN ?_ _ | refine blk_drew ?_ | refine blk_alloc ?_ _)); exact BK389.out) hg); have n15_ := Aside0.mk (box_gt (g' := gb389) (by (with_reducible repeat (first | refine blk_drewN ?_ _ | refine blk_drew ?_ | refine blk_alloc ?_ _)); exact BK389.out) hg); clear HO_390005; clear BK387; clear BK388; clear BK389; clear HB; have HO_390005 := n2_; have BK387 := n3_; have BK388 := n4_; have BK389 := n5_; have HB := n6_; have BK411 := n7_; have GW411 := n8_; have GE411 := n9_; have NB387_411 := n10_; have NB411_387 := n11_; have NB388_411 := n12_; have NB411_388 := n13_; have NB389_411 := n14_; have NB411_389 := n15_; clear n2_ n3_ n4_ n5_ n6_ n7_ n8_ n9_ n10_ n11_ n12_ n13_ n14_ n15_; clear hx_ hb hbox hg; have hnb47 := NB411_387.out; have hnc47 := NB387_411.out; have hnb48 := NB411_388.out; have hnc48 := NB388_411.out; have hnb49 := NB411_389.out; have hnc49 := NB389_411.out; obtain ⟨hcz50_0, hcz50_1, hcz50_2, hcz50_3, hcz50_4, hcz50_5, hcz50_6, hcz50_7, hfz50_0, hfz50_1, hfz50_2, hfz50_3, hfz50_4, hfz50_5, hfz50_6, hfz50_7⟩ := cells8 BK411.out))
          have GS411 : Aside0 (wS.heap.size ≤ gb411) := ⟨by rw [← HW.out.size]; exact GE411.out⟩
          have n2_ : Aside0 (Kd.R (Kd.opq 8) 53 ((((((((w46.setCell ⟨gb411, 0, none⟩ (.string ((rd_T53 l0_5 x41_2).f0))).setCell ⟨gb411, 1, none⟩ (.slice A410_1 ((rd_T53 l0_5 x41_2).f1).length c410_1)).setCell ⟨gb411, 2, none⟩ (.int .i64 ((rd_T53 l0_5 x41_2).f2.f0))).setCell ⟨gb411, 3, none⟩ (.string ((rd_T53 l0_5 x41_2).f2.f1))).setCell ⟨gb411, 4, none⟩ (.int .i64 ((rd_T53 l0_5 x41_2).f2.f2))).setCell ⟨gb411, 5, none⟩ (.slice A410_5 ((rd_T53 l0_5 x41_2).f2.f3).length c410_5)).setCell ⟨gb411, 6, none⟩ (.slice A410_6 ((rd_T53 l0_5 x41_2).f2.f4).length c410_6)).setCell ⟨gb411, 7, none⟩ (.slice A410_7 ((rd_T53 l0_5 x41_2).f2.f5).length c410_7)) w.heap.size (fun k_ => k_ ≠ gb387 ∧ k_ ≠ gb388 ∧ k_ ≠ gb389 ∧ k_ ≠ gb411) u390005 x390005_2) := ⟨by (with_reducible repeat (first | apply Kd.R_alloc | apply Kd.R_drewN | apply Kd.R_drew)); exact Kd.R_mono (Kd.R_st (Kd.R_st (Kd.R_st (Kd.R_st (Kd.R_st (Kd.R_st (Kd.R_st (Kd.R_st (Kd.R_mono HO_390005.out (fun k_ hk => (⟨hk, hk.2⟩ : _ ∧ k_ ≠ gb411))))))))))) (fun _ hk => ⟨hk.1.1.1, ⟨hk.1.1.2.1, ⟨hk.1.1.2.2, hk.1.2⟩⟩⟩)⟩
          have n3_ : Aside0 (((((((((w46.setCell ⟨gb411, 0, none⟩ (.string ((rd_T53 l0_5 x41_2).f0))).setCell ⟨gb411, 1, none⟩ (.slice A410_1 ((rd_T53 l0_5 x41_2).f1).length c410_1)).setCell ⟨gb411, 2, none⟩ (.int .i64 ((rd_T53 l0_5 x41_2).f2.f0))).setCell ⟨gb411, 3, none⟩ (.string ((rd_T53 l0_5 x41_2).f2.f1))).setCell ⟨gb411, 4, none⟩ (.int .i64 ((rd_T53 l0_5 x41_2).f2.f2))).setCell ⟨gb411, 5, none⟩ (.slice A410_5 ((rd_T53 l0_5 x41_2).f2.f3).length c410_5)).setCell ⟨gb411, 6, none⟩ (.slice A410_6 ((rd_T53 l0_5 x41_2).f2.f4).length c410_6)).setCell ⟨gb411, 7, none⟩ (.slice A410_7 ((rd_T53 l0_5 x41_2).f2.f5).length c410_7)).heap[gb387]? = some (.cells #[.int .i64 a0_0, .string a0_1, .int .i64 a0_2, .slice A0_3 l0_3.length c0_3, .slice A0_4 l0_4.length c0_4, .slice (some ad410) l0_5.length c0_5] 33 (0, 0))) := ⟨by (with_reducible repeat (first | refine blk_drewN ?_ _ | refine blk_drew ?_ | refine blk_alloc ?_ _)); exact (blk_far (blk_far (blk_far (blk_far (blk_far (blk_far (blk_far (blk_far BK387.out NB387_411.out _) NB387_411.out _) NB387_411.out _) NB387_411.out _) NB387_411.out _) NB387_411.out _) NB387_411.out _) NB387_411.out _)⟩
          have n4_ : Aside0 (((((((((w46.setCell ⟨gb411, 0, none⟩ (.string ((rd_T53 l0_5 x41_2).f0))).setCell ⟨gb411, 1, none⟩ (.slice A410_1 ((rd_T53 l0_5 x41_2).f1).length c410_1)).setCell ⟨gb411, 2, none⟩ (.int .i64 ((rd_T53 l0_5 x41_2).f2.f0))).setCell ⟨gb411, 3, none⟩ (.string ((rd_T53 l0_5 x41_2).f2.f1))).setCell ⟨gb411, 4, none⟩ (.int .i64 ((rd_T53 l0_5 x41_2).f2.f2))).setCell ⟨gb411, 5, none⟩ (.slice A410_5 ((rd_T53 l0_5 x41_2).f2.f3).length c410_5)).setCell ⟨gb411, 6, none⟩ (.slice A410_6 ((rd_T53 l0_5 x41_2).f2.f4).length c410_6)).setCell ⟨gb411, 7, none⟩ (.slice A410_7 ((rd_T53 l0_5 x41_2).f2.f5).length c410_7)).heap[gb388]? = some (.cells #[.int .i64 0, .string (⟨#[]⟩ : ByteArray), .int .i64 0, .slice none 0 0, .slice none 0 0, .slice none 0 0] 33 (0, 0))) := ⟨by (with_reducible repeat (first | refine blk_drewN ?_ _ | refine blk_drew ?_ | refine blk_alloc ?_ _)); exact (blk_far (blk_far (blk_far (blk_far (blk_far (blk_far (blk_far (blk_far BK388.out NB388_411.out _) NB388_411.out _) NB388_411.out _) NB388_411.out _) NB388_411.out _) NB388_411.out _) NB388_411.out _) NB388_411.out _)⟩
          have n5_ : Aside0 (((((((((w46.setCell ⟨gb411, 0, none⟩ (.string ((rd_T53 l0_5 x41_2).f0))).setCell ⟨gb411, 1, none⟩ (.slice A410_1 ((rd_T53 l0_5 x41_2).f1).length c410_1)).setCell ⟨gb411, 2, none⟩ (.int .i64 ((rd_T53 l0_5 x41_2).f2.f0))).setCell ⟨gb411, 3, none⟩ (.string ((rd_T53 l0_5 x41_2).f2.f1))).setCell ⟨gb411, 4, none⟩ (.int .i64 ((rd_T53 l0_5 x41_2).f2.f2))).setCell ⟨gb411, 5, none⟩ (.slice A410_5 ((rd_T53 l0_5 x41_2).f2.f3).length c410_5)).setCell ⟨gb411, 6, none⟩ (.slice A410_6 ((rd_T53 l0_5 x41_2).f2.f4).length c410_6)).setCell ⟨gb411, 7, none⟩ (.slice A410_7 ((rd_T53 l0_5 x41_2).f2.f5).length c410_7)).heap[gb389]? = some (.cells #[.int .i64 a0_0, .string a0_1, .int .i64 a0_2, (.slice Ao35 x390003_1.length co35), .slice Ao36 no36 co36, u390005] 33 (0, 0))) := ⟨by (with_reducible repeat (first | refine blk_drewN ?_ _ | refine blk_drew ?_ | refine blk_alloc ?_ _)); exact (blk_far (blk_far (blk_far (blk_far (blk_far (blk_far (blk_far (blk_far BK389.out NB389_411.out _) NB389_411.out _) NB389_411.out _) NB389_411.out _) NB389_411.out _) NB389_411.out _) NB389_411.out _) NB389_411.out _)⟩
          have n6_ : Aside0 (((((((((w46.setCell ⟨gb411, 0, none⟩ (.string ((rd_T53 l0_5 x41_2).f0))).setCell ⟨gb411, 1, none⟩ (.slice A410_1 ((rd_T53 l0_5 x41_2).f1).length c410_1)).setCell ⟨gb411, 2, none⟩ (.int .i64 ((rd_T53 l0_5 x41_2).f2.f0))).setCell ⟨gb411, 3, none⟩ (.string ((rd_T53 l0_5 x41_2).f2.f1))).setCell ⟨gb411, 4, none⟩ (.int .i64 ((rd_T53 l0_5 x41_2).f2.f2))).setCell ⟨gb411, 5, none⟩ (.slice A410_5 ((rd_T53 l0_5 x41_2).f2.f3).length c410_5)).setCell ⟨gb411, 6, none⟩ (.slice A410_6 ((rd_T53 l0_5 x41_2).f2.f4).length c410_6)).setCell ⟨gb411, 7, none⟩ (.slice A410_7 ((rd_T53 l0_5 x41_2).f2.f5).length c410_7)).heap[gb411]? = some (.cells #[.string ((rd_T53 l0_5 x41_2).f0), .slice A410_1 ((rd_T53 l0_5 x41_2).f1).length c410_1, .int .i64 ((rd_T53 l0_5 x41_2).f2.f0), .string ((rd_T53 l0_5 x41_2).f2.f1), .int .i64 ((rd_T53 l0_5 x41_2).f2.f2), .slice A410_5 ((rd_T53 l0_5 x41_2).f2.f3).length c410_5, .slice A410_6 ((rd_T53 l0_5 x41_2).f2.f4).length c410_6, .slice A410_7 ((rd_T53 l0_5 x41_2).f2.f5).length c410_7] 53 (0, 0))) := ⟨by (with_reducible repeat (first | refine blk_drewN ?_ _ | refine blk_drew ?_ | refine blk_alloc ?_ _)); exact (put_8_7 (put_8_6 (put_8_5 (put_8_4 (put_8_3 (put_8_2 (put_8_1 (put_8_0 BK411.out))))))))⟩
          have n7_ : Aside0 (Below w.heap.size w ((((((((w46.setCell ⟨gb411, 0, none⟩ (.string ((rd_T53 l0_5 x41_2).f0))).setCell ⟨gb411, 1, none⟩ (.slice A410_1 ((rd_T53 l0_5 x41_2).f1).length c410_1)).setCell ⟨gb411, 2, none⟩ (.int .i64 ((rd_T53 l0_5 x41_2).f2.f0))).setCell ⟨gb411, 3, none⟩ (.string ((rd_T53 l0_5 x41_2).f2.f1))).setCell ⟨gb411, 4, none⟩ (.int .i64 ((rd_T53 l0_5 x41_2).f2.f2))).setCell ⟨gb411, 5, none⟩ (.slice A410_5 ((rd_T53 l0_5 x41_2).f2.f3).length c410_5)).setCell ⟨gb411, 6, none⟩ (.slice A410_6 ((rd_T53 l0_5 x41_2).f2.f4).length c410_6)).setCell ⟨gb411, 7, none⟩ (.slice A410_7 ((rd_T53 l0_5 x41_2).f2.f5).length c410_7))) := ⟨by repeat (first | (with_reducible first | exact HB.out | apply below_alloc | apply pw_below_drewN | apply below_drew1 | refine below_set ?_ GE387.out | refine below_set ?_ GE388.out | refine below_set ?_ GE389.out | refine below_set ?_ GE411.out) | exact HB.out)⟩
          (try clear HO_390005)
          (try clear BK387)
          (try clear BK388)
          (try clear BK389)
          (try clear BK411)
          (try clear HB)
          generalize ((((((((w46.setCell ⟨gb411, 0, none⟩ (.string ((rd_T53 l0_5 x41_2).f0))).setCell ⟨gb411, 1, none⟩ (.slice A410_1 ((rd_T53 l0_5 x41_2).f1).length c410_1)).setCell ⟨gb411, 2, none⟩ (.int .i64 ((rd_T53 l0_5 x41_2).f2.f0))).setCell ⟨gb411, 3, none⟩ (.string ((rd_T53 l0_5 x41_2).f2.f1))).setCell ⟨gb411, 4, none⟩ (.int .i64 ((rd_T53 l0_5 x41_2).f2.f2))).setCell ⟨gb411, 5, none⟩ (.slice A410_5 ((rd_T53 l0_5 x41_2).f2.f3).length c410_5)).setCell ⟨gb411, 6, none⟩ (.slice A410_6 ((rd_T53 l0_5 x41_2).f2.f4).length c410_6)).setCell ⟨gb411, 7, none⟩ (.slice A410_7 ((rd_T53 l0_5 x41_2).f2.f5).length c410_7)) = w51 at n2_ n3_ n4_ n5_ n6_ n7_ ⊢
          have HO_390005 := n2_
          have BK387 := n3_
          have BK388 := n4_
          have BK389 := n5_
          have BK411 := n6_
          have HB := n7_
          clear n2_ n3_ n4_ n5_ n6_ n7_
          have n2_ := Aside0.mk (Kd.R_drew HO_390005.out)
          have n3_ := Aside0.mk (blk_drew BK387.out)
          have n4_ := Aside0.mk (blk_drew BK388.out)
          have n5_ := Aside0.mk (blk_drew BK389.out)
          have n6_ := Aside0.mk (blk_drew BK411.out)
          have n7_ := Aside0.mk (below_drew1 HB.out)
          clear HO_390005
          clear BK387
          clear BK388
          clear BK389
          clear BK411
          clear HB
          have HO_390005 := n2_
          have BK387 := n3_
          have BK388 := n4_
          have BK389 := n5_
          have BK411 := n6_
          have HB := n7_
          clear n2_ n3_ n4_ n5_ n6_ n7_
          refine start_ (n := 16) (S := fun w' => w'.cell? ⟨gb389, 0, none⟩ = some (.int .i64 a0_0) ∧ w'.cell? ⟨gb389, 1, none⟩ = some (.string a0_1) ∧ w'.cell? ⟨gb389, 2, none⟩ = some (.int .i64 a0_2) ∧ w'.cell? ⟨gb389, 3, none⟩ = some ((.slice Ao35 x390003_1.length co35)) ∧ w'.cell? ⟨gb389, 4, none⟩ = some (.slice Ao36 no36 co36) ∧ w'.cell? ⟨gb389, 5, none⟩ = some (u390005) ∧ w'.cell? ⟨gb411, 0, none⟩ = some (.string ((rd_T53 l0_5 x41_2).f0)) ∧ w'.cell? ⟨gb411, 1, none⟩ = some (.slice A410_1 ((rd_T53 l0_5 x41_2).f1).length c410_1) ∧ w'.cell? ⟨gb411, 2, none⟩ = some (.int .i64 ((rd_T53 l0_5 x41_2).f2.f0)) ∧ w'.cell? ⟨gb411, 3, none⟩ = some (.string ((rd_T53 l0_5 x41_2).f2.f1)) ∧ w'.cell? ⟨gb411, 4, none⟩ = some (.int .i64 ((rd_T53 l0_5 x41_2).f2.f2)) ∧ w'.cell? ⟨gb411, 5, none⟩ = some (.slice A410_5 ((rd_T53 l0_5 x41_2).f2.f3).length c410_5) ∧ w'.cell? ⟨gb411, 6, none⟩ = some (.slice A410_6 ((rd_T53 l0_5 x41_2).f2.f4).length c410_6) ∧ w'.cell? ⟨gb411, 7, none⟩ = some (.slice A410_7 ((rd_T53 l0_5 x41_2).f2.f5).length c410_7)) (ds := [15]) #[false, false, false, false, false, false, false, false, false, false, false, false, false, false, false, false] (by kernel_rfl) rfl rfl ⟨(blk_cell BK389.out 0).trans rfl, (blk_cell BK389.out 1).trans rfl, (blk_cell BK389.out 2).trans rfl, (blk_cell BK389.out 3).trans rfl, (blk_cell BK389.out 4).trans rfl, (blk_cell BK389.out 5).trans rfl, (blk_cell BK411.out 0).trans rfl, (blk_cell BK411.out 1).trans rfl, (blk_cell BK411.out 2).trans rfl, (blk_cell BK411.out 3).trans rfl, (blk_cell BK411.out 4).trans rfl, (blk_cell BK411.out 5).trans rfl, (blk_cell BK411.out 6).trans rfl, (blk_cell BK411.out 7).trans rfl⟩ (fun hHeld => ?_); refine with_tabW M_tab11 M_bits11 (fun HT_ HW_ => ?_)
          generalize w51.drew = w52 at HO_390005 BK387 BK388 BK389 BK411 HB hHeld ⊢
          refine pure_ (i := 0) (N := some 45) (v := ?_) (a' := ?_) #[true, false, false, false, false, false, false, false, false, false, false, false, false, false, false, false] rfl rfl (any_of HT_.out (by kernel_rfl)) (fun _ _ _ h => h) (Or.inl ⟨by rfl, ?_⟩) ?_ ?_
          rotate_left
          ·intro w'
           go_simp
           with_reducible rfl
          rotate_left
          ·simp only [Act.put, List.setIfInBounds_toArray, List.set_cons_zero, List.set_cons_succ, i64_w, i32_w]
           rfl
          refine pure_ (i := 2) (N := some 47) (v := ?_) (a' := ?_) #[true, false, true, false, false, false, false, false, false, false, false, false, false, false, false, false] rfl rfl (any_of HT_.out (by kernel_rfl)) (fun _ _ _ h => h) (Or.inl ⟨by rfl, ?_⟩) ?_ ?_
          rotate_left
          ·intro w'
           go_simp
           with_reducible rfl
          rotate_left
          ·simp only [Act.put, List.setIfInBounds_toArray, List.set_cons_zero, List.set_cons_succ, i64_w, i32_w]
           rfl
          refine pure_ (i := 4) (N := some 49) (v := ?_) (a' := ?_) #[true, false, true, false, true, false, false, false, false, false, false, false, false, false, false, false] rfl rfl (any_of HT_.out (by kernel_rfl)) (fun _ _ _ h => h) (Or.inl ⟨by rfl, ?_⟩) ?_ ?_
          rotate_left
          ·intro w'
           go_simp
           with_reducible rfl
          rotate_left
          ·simp only [Act.put, List.setIfInBounds_toArray, List.set_cons_zero, List.set_cons_succ, i64_w, i32_w]
           rfl
          refine pure_ (i := 7) (N := some 52) (v := ?_) (a' := ?_) #[true, false, true, false, true, false, false, true, false, false, false, false, false, false, false, false] rfl rfl (any_of HT_.out (by kernel_rfl)) (fun _ _ _ h => h) (Or.inl ⟨by rfl, ?_⟩) ?_ ?_
          rotate_left
          ·intro w'
           go_simp
           with_reducible rfl
          rotate_left
          ·simp only [Act.put, List.setIfInBounds_toArray, List.set_cons_zero, List.set_cons_succ, i64_w, i32_w]
           rfl
          refine pure_ (i := 8) (N := some 53) (v := ?_) (a' := ?_) #[true, false, true, false, true, false, false, true, true, false, false, false, false, false, false, false] rfl rfl (any_of HT_.out (by kernel_rfl)) (fun _ _ _ h => h) (Or.inl ⟨by rfl, ?_⟩) ?_ ?_
          rotate_left
          ·intro w'
           go_simp
           with_reducible rfl
          rotate_left
          ·simp only [Act.put, List.setIfInBounds_toArray, List.set_cons_zero, List.set_cons_succ, i64_w, i32_w]
           rfl
          refine take_ (i := 1) (N := some 46) (v := ?_) (a' := ?_) #[true, true, true, false, true, false, false, true, true, false, false, false, false, false, false, false] rfl rfl (take_ofW HT_.out HW_.out (by kernel_rfl)) (fun _ _ _ h => h) (Or.inl ⟨by rfl, ?_⟩) hHeld ?_ ?_
          rotate_left
          ·rintro w' ⟨s0, s1, s2, s3, s4, s5, s6, s7, s8, s9, s10, s11, s12, s13⟩
           go_simp
           with_reducible rfl
          rotate_left
          ·simp only [Act.put, List.setIfInBounds_toArray, List.set_cons_zero, List.set_cons_succ, i64_w, i32_w]
           rfl
          refine take_ (i := 3) (N := some 48) (v := ?_) (a' := ?_) #[true, true, true, true, true, false, false, true, true, false, false, false, false, false, false, false] rfl rfl (take_ofW HT_.out HW_.out (by kernel_rfl)) (fun _ _ _ h => h) (Or.inl ⟨by rfl, ?_⟩) hHeld ?_ ?_
          rotate_left
          ·rintro w' ⟨s0, s1, s2, s3, s4, s5, s6, s7, s8, s9, s10, s11, s12, s13⟩
           go_simp
           with_reducible rfl
          rotate_left
          ·simp only [Act.put, List.setIfInBounds_toArray, List.set_cons_zero, List.set_cons_succ, i64_w, i32_w]
           rfl
          refine take_ (i := 5) (N := some 50) (v := ?_) (a' := ?_) #[true, true, true, true, true, true, false, true, true, false, false, false, false, false, false, false] rfl rfl (take_ofW HT_.out HW_.out (by kernel_rfl)) (fun _ _ _ h => h) (Or.inl ⟨by rfl, ?_⟩) hHeld ?_ ?_
          rotate_left
          ·rintro w' ⟨s0, s1, s2, s3, s4, s5, s6, s7, s8, s9, s10, s11, s12, s13⟩
           go_simp
           with_reducible rfl
          rotate_left
          ·simp only [Act.put, List.setIfInBounds_toArray, List.set_cons_zero, List.set_cons_succ, i64_w, i32_w]
           rfl
          refine take_ (i := 9) (N := some 54) (v := ?_) (a' := ?_) #[true, true, true, true, true, true, false, true, true, true, false, false, false, false, false, false] rfl rfl (take_ofW HT_.out HW_.out (by kernel_rfl)) (fun _ _ _ h => h) (Or.inl ⟨by rfl, ?_⟩) hHeld ?_ ?_
          rotate_left
          ·rintro w' ⟨s0, s1, s2, s3, s4, s5, s6, s7, s8, s9, s10, s11, s12, s13⟩
           go_simp
           with_reducible rfl
          rotate_left
          ·simp only [Act.put, List.setIfInBounds_toArray, List.set_cons_zero, List.set_cons_succ, i64_w, i32_w]
           rfl
          refine one_ (i := 6) (N := some 51) #[true, true, true, true, true, true, true, true, true, true, false, false, false, false, false, false] rfl rfl (one_of HT_.out (by kernel_rfl)) (by decide) (fun K hK => ?_)
          refine goes_ Try.func66 (by kernel_rfl) rfl #[.slice A410_1 ((rd_T53 l0_5 x41_2).f1).length c410_1] (by rfl) rfl rfl (by (try simp only [List.map_toArray, List.map_cons, List.map_nil]); first | done | rfl | (simp only [List.length_drop, List.length_take]; rfl)) ?_
          with_reducible refine (slices_Clone.calls _ _ ((rd_T53 l0_5 x41_2).f1) t412 _ ?side1 ?side2 A43.out).mono ?_
          (case side1 => repeat (first | exact (Kd.C_below HR410_1.out (HW.out.under HB.out)) | (with_reducible refine Kd.C_alloc ?_ _) | (with_reducible refine Kd.C_drewN ?_ _) | (with_reducible refine Kd.C_drew ?_)))
          (case side2 => exact HC410_1.out)
          rintro e w53 ⟨v413, rfl, ho0, hb⟩
          obtain ⟨Ao58, co58, rfl⟩ := Kd.R_slice ho0
          refine ⟨_, rfl, ?_⟩
          have n0_ := Aside0.mk (Kd.R_below HO_390005.out hb)
          have n1_ := Aside0.mk (blk_below BK387.out hb)
          have n2_ := Aside0.mk (blk_below BK388.out hb)
          have n3_ := Aside0.mk (blk_below BK389.out hb)
          have n4_ := Aside0.mk (blk_below BK411.out hb)
          have n5_ := Aside0.mk (below_step HB.out hb)
          clear HO_390005 BK387 BK388 BK389 BK411 HB ho0 hb
          have HO_390005 := n0_
          have BK387 := n1_
          have BK388 := n2_
          have BK389 := n3_
          have BK411 := n4_
          have HB := n5_
          clear n0_ n1_ n2_ n3_ n4_ n5_
          refine hK.out _ _ ⟨(blk_cell BK389.out 0).trans rfl, (blk_cell BK389.out 1).trans rfl, (blk_cell BK389.out 2).trans rfl, (blk_cell BK389.out 3).trans rfl, (blk_cell BK389.out 4).trans rfl, (blk_cell BK389.out 5).trans rfl, (blk_cell BK411.out 0).trans rfl, (blk_cell BK411.out 1).trans rfl, (blk_cell BK411.out 2).trans rfl, (blk_cell BK411.out 3).trans rfl, (blk_cell BK411.out 4).trans rfl, (blk_cell BK411.out 5).trans rfl, (blk_cell BK411.out 6).trans rfl, (blk_cell BK411.out 7).trans rfl⟩ (fun hHeld => ?_)
          clear hK K
          refine norm_ (a' := ?_) ?_ ?_
          rotate_left
          ·show Act.put _ (some 51) _ = _
           simp only [Act.put, List.setIfInBounds_toArray, List.set_cons_zero, List.set_cons_succ, i64_w, i32_w]
           rfl
          refine one_ (i := 10) (N := some 55) #[true, true, true, true, true, true, true, true, true, true, true, false, false, false, false, false] rfl rfl (one_of HT_.out (by kernel_rfl)) (by decide) (fun K hK => ?_)
          refine goesD_ Try.func55 (by kernel_rfl) rfl #[.agg #[.int .i64 ((rd_T53 l0_5 x41_2).f2.f0), .string ((rd_T53 l0_5 x41_2).f2.f1), .int .i64 ((rd_T53 l0_5 x41_2).f2.f2), .slice A410_5 ((rd_T53 l0_5 x41_2).f2.f3).length c410_5, .slice A410_6 ((rd_T53 l0_5 x41_2).f2.f4).length c410_6, .slice A410_7 ((rd_T53 l0_5 x41_2).f2.f5).length c410_7], .pointer (some ⟨gN, 0, none⟩), .pointer (some ⟨gP, 0, none⟩)] (by rfl) rfl rfl rfl (by (try simp only [List.map_toArray, List.map_cons, List.map_nil, List.append_toArray, List.cons_append, List.nil_append]); first | done | rfl) ?_
          with_reducible refine (ih_L k2 (by have := HK1.out; have := HK2.out; omega) ((rd_T53 l0_5 x41_2).f2.f0) ((rd_T53 l0_5 x41_2).f2.f1) ((rd_T53 l0_5 x41_2).f2.f2) _ _ ((rd_T53 l0_5 x41_2).f2.f3) _ _ ((rd_T53 l0_5 x41_2).f2.f4) _ _ ((rd_T53 l0_5 x41_2).f2.f5) n2 m3 w0 _ gN gP (HW.out.begin_ HB.out) HR410_5.out HC410_5.out HR410_6.out HC410_6.out HR410_7.out HC410_7.out A44.out).mono ?_
          rintro e w54 ⟨w2, rfl, h2, hb⟩
          refine ⟨_, rfl, ?_⟩
          obtain ⟨w, hs_, HW2, HB2, hm⟩ := HW.out.step HB.out h2 hb
          have n0_ := Aside0.mk (Kd.R_past' HO_390005.out hs_ HW.out.lt hm)
          have n1_ := Aside0.mk (blk_past BK387.out HW.out.lt GE387.out hm)
          have n2_ := Aside0.mk (blk_past BK388.out HW.out.lt GE388.out hm)
          have n3_ := Aside0.mk (blk_past BK389.out HW.out.lt GE389.out hm)
          have n4_ := Aside0.mk (blk_past BK411.out HW.out.lt GE411.out hm)
          clear HB HW h2 hb hm hs_ HO_390005 BK387 GE387 GW387 BK388 GE388 GW388 BK389 GE389 GW389 BK411 GE411 GW411
          have HO_390005 := n0_
          have BK387 := n1_
          have BK388 := n2_
          have BK389 := n3_
          have BK411 := n4_
          have HB := Aside0.mk HB2
          have HW := Aside0.mk HW2
          clear HB2 HW2 w2 n0_ n1_ n2_ n3_ n4_
          have GE387 : Aside0 (w.heap.size ≤ gb387) := ⟨by rw [HW.out.size]; exact GS387.out⟩
          have GW387 := GE387
          have GE388 : Aside0 (w.heap.size ≤ gb388) := ⟨by rw [HW.out.size]; exact GS388.out⟩
          have GW388 := GE388
          have GE389 : Aside0 (w.heap.size ≤ gb389) := ⟨by rw [HW.out.size]; exact GS389.out⟩
          have GW389 := GE389
          have GE411 : Aside0 (w.heap.size ≤ gb411) := ⟨by rw [HW.out.size]; exact GS411.out⟩
          have GW411 := GE411
          refine hK.out _ _ ⟨(blk_cell BK389.out 0).trans rfl, (blk_cell BK389.out 1).trans rfl, (blk_cell BK389.out 2).trans rfl, (blk_cell BK389.out 3).trans rfl, (blk_cell BK389.out 4).trans rfl, (blk_cell BK389.out 5).trans rfl, (blk_cell BK411.out 0).trans rfl, (blk_cell BK411.out 1).trans rfl, (blk_cell BK411.out 2).trans rfl, (blk_cell BK411.out 3).trans rfl, (blk_cell BK411.out 4).trans rfl, (blk_cell BK411.out 5).trans rfl, (blk_cell BK411.out 6).trans rfl, (blk_cell BK411.out 7).trans rfl⟩ (fun hHeld => ?_)
          clear hK K
          refine norm_ (a' := ?_) ?_ ?_
          rotate_left
          ·show Act.put _ (some 55) _ = _
           simp only [Act.put, List.setIfInBounds_toArray, List.set_cons_zero, List.set_cons_succ, i64_w, i32_w]
           rfl
          refine pure_ (i := 11) (N := some 56) (v := ?_) (a' := ?_) #[true, true, true, true, true, true, true, true, true, true, true, true, false, false, false, false] rfl rfl (any_of HT_.out (by kernel_rfl)) (fun _ _ _ h => h) (Or.inl ⟨by rfl, ?_⟩) ?_ ?_
          rotate_left
          ·intro w'
           go_simp
           with_reducible rfl
          rotate_left
          ·simp only [Act.put, List.setIfInBounds_toArray, List.set_cons_zero, List.set_cons_succ, i64_w, i32_w]
           rfl
          refine one_ (i := 12) (N := some 57) #[true, true, true, true, true, true, true, true, true, true, true, true, true, false, false, false] rfl rfl (one_of HT_.out (by kernel_rfl)) (by decide) (fun K hK => ?_)
          refine value_ (w1 := ?_) (v := ?_) (by rfl) rfl ?_ ?_
          rotate_left 2
          ·go_simp
           constructor
           ·rfl
           ·rfl
          refine hK.out _ _ ⟨(blk_cell (blk_alloc BK389.out _) 0).trans rfl, (blk_cell (blk_alloc BK389.out _) 1).trans rfl, (blk_cell (blk_alloc BK389.out _) 2).trans rfl, (blk_cell (blk_alloc BK389.out _) 3).trans rfl, (blk_cell (blk_alloc BK389.out _) 4).trans rfl, (blk_cell (blk_alloc BK389.out _) 5).trans rfl, (blk_cell (blk_alloc BK411.out _) 0).trans rfl, (blk_cell (blk_alloc BK411.out _) 1).trans rfl, (blk_cell (blk_alloc BK411.out _) 2).trans rfl, (blk_cell (blk_alloc BK411.out _) 3).trans rfl, (blk_cell (blk_alloc BK411.out _) 4).trans rfl, (blk_cell (blk_alloc BK411.out _) 5).trans rfl, (blk_cell (blk_alloc BK411.out _) 6).trans rfl, (blk_cell (blk_alloc BK411.out _) 7).trans rfl⟩ (fun hHeld => ?_)
          clear hK K
          refine norm_ (a' := ?_) ?_ ?_
          rotate_left
          ·show Act.put _ (some 57) _ = _
           simp only [Act.put, List.setIfInBounds_toArray, List.set_cons_zero, List.set_cons_succ, i64_w, i32_w]
           rfl
          refine one_ (i := 13) (N := some 58) #[true, true, true, true, true, true, true, true, true, true, true, true, true, true, false, false] rfl rfl (one_of HT_.out (by kernel_rfl)) (by decide) (fun K hK => ?_)
          refine Kd.R_append_step (Kd.opq 8) (w0 := w) w.heap.size (by rfl) (.tmp 46) (.tmp 57) 31 53 (.agg #[(.string ⟨#[]⟩), (.slice none 0 0), (.int .i64 0), (.string ⟨#[]⟩), (.int .i64 0), (.slice none 0 0), (.slice none 0 0), (.slice none 0 0)]) 144 rfl Try.underlying31 info53 rfl (by decide) (by omega) u390005 x390005_2 () [.string ((rd_T53 l0_5 x41_2).f0), .slice Ao58 t412.length co58, .int .i64 ((rd_T53 l0_5 x41_2).f2.f0), .string ((rd_T53 l0_5 x41_2).f2.f1), .int .i64 ((rd_T53 l0_5 x41_2).f2.f2), .slice A410_5 ((rd_T53 l0_5 x41_2).f2.f3).length c410_5, .slice A410_6 ((rd_T53 l0_5 x41_2).f2.f4).length c410_6, .slice A410_7 ((rd_T53 l0_5 x41_2).f2.f5).length c410_7] (fun k_ => k_ ≠ gb387 ∧ k_ ≠ gb388 ∧ k_ ≠ gb389 ∧ k_ ≠ gb411) (fun k_ => ((fun k_ => k_ ≠ gb387 ∧ k_ ≠ gb388 ∧ k_ ≠ gb389 ∧ k_ ≠ gb411)) k_ ∧ some k_ ≠ (u390005 : Value).ownBlock) rfl rfl ?aP (fun _ hk => hk) ?aF ?aO ?aB ?aS ?aL ?_
          (case aP => exact ⟨rfl, fun u hu => by simp only [List.mem_cons, List.not_mem_nil, or_false] at hu; rcases hu with rfl | rfl | rfl | rfl | rfl | rfl | rfl | rfl <;> rfl⟩)
          (case aB => exact HB.out)
          (case aF => exact (fun k_ hk => ⟨Kd.freshB BK387.out k_ hk, Kd.freshB BK388.out k_ hk, Kd.freshB BK389.out k_ hk, Kd.freshB BK411.out k_ hk⟩))
          (case aO => exact HO_390005.out)
          (case aS => exact (below_size HB.out))
          (case aL => have := LMc45.out; omega)
          intro v428 w59 ho hb hg hat
          rw [← Ny427.out] at ho
          have n0_ := Aside0.mk (blk_grown (g := gb387) BK387.out hg (Kd.R_away HO_390005.out (fun _ hk => hk.1)))
          have n1_ := Aside0.mk (blk_grown (g := gb388) BK388.out hg (Kd.R_away HO_390005.out (fun _ hk => hk.2.1)))
          have n2_ := Aside0.mk (blk_grown (g := gb389) BK389.out hg (Kd.R_away HO_390005.out (fun _ hk => hk.2.2.1)))
          have n3_ := Aside0.mk (blk_grown (g := gb411) BK411.out hg (Kd.R_away HO_390005.out (fun _ hk => hk.2.2.2)))
          clear BK387 BK388 BK389 BK411 HB HO_390005
          have BK387 := n0_
          have BK388 := n1_
          have BK389 := n2_
          have BK411 := n3_
          have HB := Aside0.mk hb
          have HO429 := Aside0.mk ho
          clear n0_ n1_ n2_ n3_
          clear ho hb hg hat
          obtain ⟨Ao60, co60, eo60⟩ := Kd.R_slice HO429.out
          (first | subst eo60 | (injection eo60 with f1_ f2_ f3_; have f4_ := f1_.symm; have f5_ := f3_.symm; clear f1_ f2_ f3_; subst f4_; subst f5_))
          refine hK.out _ _ ⟨(blk_cell BK389.out 0).trans rfl, (blk_cell BK389.out 1).trans rfl, (blk_cell BK389.out 2).trans rfl, (blk_cell BK389.out 3).trans rfl, (blk_cell BK389.out 4).trans rfl, (blk_cell BK389.out 5).trans rfl, (blk_cell BK411.out 0).trans rfl, (blk_cell BK411.out 1).trans rfl, (blk_cell BK411.out 2).trans rfl, (blk_cell BK411.out 3).trans rfl, (blk_cell BK411.out 4).trans rfl, (blk_cell BK411.out 5).trans rfl, (blk_cell BK411.out 6).trans rfl, (blk_cell BK411.out 7).trans rfl⟩ (fun hHeld => ?_)
          clear hK K
          refine norm_ (a' := ?_) ?_ ?_
          rotate_left
          ·show Act.put _ (some 58) _ = _
           simp only [Act.put, List.setIfInBounds_toArray, List.set_cons_zero, List.set_cons_succ, i64_w, i32_w]
           rfl
          refine pure_ (i := 14) (N := some 59) (v := ?_) (a' := ?_) #[true, true, true, true, true, true, true, true, true, true, true, true, true, true, true, false] rfl rfl (any_of HT_.out (by kernel_rfl)) (fun _ _ _ h => h) (Or.inl ⟨by rfl, ?_⟩) ?_ ?_
          rotate_left
          ·intro w'
           go_simp
           with_reducible rfl
          rotate_left
          ·simp only [Act.put, List.setIfInBounds_toArray, List.set_cons_zero, List.set_cons_succ, i64_w, i32_w]
           rfl
          refine last_ (i := 15) (N := none) #[true, true, true, true, true, true, true, true, true, true, true, true, true, true, true, true] rfl rfl (one_of HT_.out (by kernel_rfl)) (by decide) (fun K hK => ?_)
          have hs61 : w59.cell? ⟨gb389, 5, none⟩ = some (u390005) := (blk_cell BK389.out 5).trans rfl
          have hfs61 := blk_frozen BK389.out 5
          have hns61_0 := NB387_389.out
          have hns61_1 := NB388_389.out
          have hns61_3 := NB411_389.out
          have hms61_0 := NB389_387.out
          have hms61_1 := NB389_388.out
          have hms61_3 := NB389_411.out
          refine skip_ (w1 := ?_) (by rfl) rfl ?_ ?_
          rotate_left
          ·go_simp
           rfl
          refine hK.out _ _ ?_
          clear hK K
          refine done_ (done_of HT_.out (by kernel_rfl)) ?_
          try go_wp2
          go_roundg k2
          case measure => have := HK1.out; have := HK2.out; omega
          case rel => exact ⟨(wrap64 (x41_2 + 1)), (y427), (.slice Ao60 y427.length co60), m3, w, (by first | rfl | (simp; done) | (simp [*]; done)), H', ⟨by have := HK1.out; have := HK2.out; omega⟩, ⟨by (with_reducible repeat (first | apply Kd.R_alloc | apply Kd.R_drewN | apply Kd.R_drew)); exact Kd.R_mono (Kd.R_st (Kd.R_mono HO429.out (fun k_ hk => (⟨hk, hk.2.2.1⟩ : _ ∧ k_ ≠ gb389)))) (fun _ hk => ⟨hk.1.1, ⟨hk.1.2.1, hk.1.2.2.1⟩⟩)⟩, ⟨by (with_reducible repeat (first | refine blk_drewN ?_ _ | refine blk_drew ?_ | refine blk_alloc ?_ _)); exact (blk_far BK387.out NB387_389.out _)⟩, ⟨by (with_reducible repeat (first | refine blk_drewN ?_ _ | refine blk_drew ?_ | refine blk_alloc ?_ _)); exact (blk_far BK388.out NB388_389.out _)⟩, ⟨by (with_reducible repeat (first | refine blk_drewN ?_ _ | refine blk_drew ?_ | refine blk_alloc ?_ _)); exact (put_6_5 BK389.out)⟩, ⟨by repeat (first | (with_reducible first | exact HB.out | apply below_alloc | apply pw_below_drewN | apply below_drew1 | refine below_set ?_ GE387.out | refine below_set ?_ GE388.out | refine below_set ?_ GE389.out | refine below_set ?_ GE411.out) | exact HB.out)⟩, HW⟩
         ·rw [if_neg c45] at H
          exact absurd H (by simp)
        ·rw [if_neg c42] at H
         exact absurd H (by simp)
       ·rw [if_neg c41] at H
        exact absurd H (by simp)
      ·rw [if_neg c40] at H
       have c40b0 : decide (x41_2 < (l0_5.length : Int)) = false := decide_eq_false c40
       clear c40
       obtain rfl := Option.some.inj H
       have hnb62 := NB389_387.out
       have hnc62 := NB387_389.out
       have hnb63 := NB389_388.out
       have hnc63 := NB388_389.out
       obtain ⟨hcz64_0, hcz64_1, hcz64_2, hcz64_3, hcz64_4, hcz64_5, hfz64_0, hfz64_1, hfz64_2, hfz64_3, hfz64_4, hfz64_5⟩ := cells6 BK389.out
       have hnb65 := NB388_387.out
       have hnc65 := NB387_388.out
       obtain ⟨hcz66_0, hcz66_1, hcz66_2, hcz66_3, hcz66_4, hcz66_5, hfz66_0, hfz66_1, hfz66_2, hfz66_3, hfz66_4, hfz66_5⟩ := cells6 BK388.out
       skip
       obtain ⟨Ao68, co68, eo68⟩ := Kd.R_slice HO_390005.out
       subst eo68
       go_wp2
       refine bodyPost_ret (results_cell_row rfl _ _ gb388 33 #[.int .i64 a0_0, .string a0_1, .int .i64 a0_2, .slice Ao35 x390003_1.length co35, .slice Ao36 no36 co36, .slice Ao68 x390005_2.length co68] (0, 0) _ rfl (by (with_reducible repeat (first | refine blk_drewN ?_ _ | refine blk_drew ?_ | refine blk_alloc ?_ _)); exact (put_6_5 (put_6_4 (put_6_3 (put_6_2 (put_6_1 (put_6_0 BK388.out))))))) Try.underlying33 rfl (by kernel_rfl)) rfl ?_
       exact ⟨⟨_, rfl⟩, w, HW.out, by repeat (first | (with_reducible first | exact HB.out | apply below_alloc | apply pw_below_drewN | apply below_drew1 | refine below_set ?_ GE387.out | refine below_set ?_ GE388.out | refine below_set ?_ GE389.out) | exact HB.out)⟩
end Go.Proofs.Ytpndcfibjjkgcaa.MyCnt

/- The walk of the function that copies an expression's parts: turned from a printed walk. No condition. -/
import Derived.Test.YtpndcfibjjkgcaaMyFo
import Derived.Test.YtpndcfibjjkgcaaMyFnc
namespace Go.Proofs.Ytpndcfibjjkgcaa.MyItc
open Go Go.RowKit Go.Proofs.YtpndcfibjjkgcaaW.PrintWords Go.Proofs.YtpndcfibjjkgcaaW.PrintLast Go.Proofs.YtpndcfibjjkgcaaW.PrintMore Go.Proofs.Ytpndcfibjjkgcaa.PIfg Go.Proofs.Ytpndcfibjjkgcaa.MyClone
attribute [local go_sem] max2_int min2_int max_two min_two max_three min_three max_four min_four
set_option linter.unusedVariables false
set_option linter.unusedSimpArgs false
def M_T5 : Bool × List (List Nat × List Nat) := (true, [([], []), ([0], [0]), ([], []), ([], []), ([2, 3], [2, 3]), ([4], [4]), ([1, 5, 4], [1, 5]), ([0, 1, 2, 3, 4, 5, 6], []), ([7, 6, 6, 0, 1, 2, 3, 4, 5, 6], [6, 7])])
def M_B5 : List Nat := [0, 1, 0, 0, 12, 28, 63, 127, 255]
theorem M_tab5 : rtab .any (opsOf Try.f48 5) = M_T5 := by kernel_rfl
theorem M_bits5 : waitsOk M_T5.2 M_B5 = true := by kernel_rfl
def M_T11 : Bool × List (List Nat × List Nat) := (true, [([], []), ([0], [0]), ([], []), ([2], [2]), ([], []), ([4], [4]), ([5], [5]), ([], []), ([], []), ([8], [8]), ([7, 9, 6], [7, 9]), ([3, 6, 10], [3, 6, 10]), ([11], [11]), ([1, 12, 10], [1, 12]), ([0, 1, 2, 3, 4, 5, 6, 7, 8, 9, 10, 11, 12, 13], []), ([14, 13, 13, 0, 1, 2, 3, 4, 5, 6, 7, 8, 9, 10, 11, 12, 13], [13, 14])])
def M_B11 : List Nat := [0, 1, 0, 4, 0, 16, 48, 0, 0, 256, 1008, 2044, 4092, 8191, 16383, 32767]
theorem M_tab11 : rtab .any (opsOf Try.f48 11) = M_T11 := by kernel_rfl
theorem M_bits11 : waitsOk M_T11.2 M_B11 = true := by kernel_rfl
set_option maxHeartbeats 8000000 in
set_option maxRecDepth 100000 in
theorem stepFM (n : Nat) (ih_E : ∀ m_, m_ ≤ n → FE m_) (ih_D : FD n) : FM n := by
 intro a0_0 a0_1 a0_2 A0_3 c0_3 l0_3 A0_4 c0_4 l0_4 A0_5 c0_5 l0_5 w ha hq
 obtain ⟨⟨hr0_3, hc0_3⟩, ⟨hr0_4, hc0_4⟩, ⟨hr0_5, hc0_5⟩⟩ := ha
 have hu33 := Try.underlying33
 have hu53 := Try.underlying53
 have HR0_3 := Aside0.mk hr0_3
 have HC0_3 := Aside0.mk hc0_3
 clear hr0_3 hc0_3
 have HR0_4 := Aside0.mk hr0_4
 have HC0_4 := Aside0.mk hc0_4
 clear hr0_4 hc0_4
 have HR0_5 := Aside0.mk hr0_5
 have HC0_5 := Aside0.mk hc0_5
 clear hr0_5 hc0_5
 have HB := Aside0.mk (Below.refl w.heap.size w)
 have HQ := Aside0.mk hq
 clear hq
 go_enter Try.func48, Try.ntmps48
 go_wp2_with (first | ((with_reducible refine gate_dst (N := 2) rfl ?_); refine box_event ?hg (N := 2) ?hd (cs := #[.int .i64 a0_0, .string a0_1, .int .i64 a0_2, .slice A0_3 l0_3.length c0_3, .slice A0_4 l0_4.length c0_4, .slice A0_5 l0_5.length c0_5]) (t := 33) ?hr ?_; (case hd => rfl); (case hg => rfl); (case hr => first | (go_simp; done) | (go_simp; rfl)); intro gb387 hg w3 hbox hb; have hx_ := bel_of (w := w) hb HB.out; have n0_ := Aside0.mk (below_step hx_ hb); have n1_ := Aside0.mk (hbox); have n2_ := Aside0.mk ((box_ge hx_ hg)); have n3_ := Aside0.mk ((box_ge hx_ hg)); clear HB; have HB := n0_; have BK387 := n1_; have GW387 := n2_; have GE387 := n3_; clear n0_ n1_ n2_ n3_; clear hx_ hb hbox hg) | ((with_reducible refine gate_dst (N := 4) rfl ?_); refine box_event ?hg (N := 4) ?hd (cs := #[.int .i64 0, .string (⟨#[]⟩ : ByteArray), .int .i64 0, .slice none 0 0, .slice none 0 0, .slice none 0 0]) (t := 33) ?hr ?_; (case hd => rfl); (case hg => rfl); (case hr => first | (go_simp; done) | (go_simp; rfl)); intro gb388 hg w4 hbox hb; have hx_ := bel_of (w := w) hb (by repeat (first | (with_reducible first | exact HB.out | apply below_alloc | apply pw_below_drewN | apply below_drew1 | refine below_set ?_ GE387.out) | exact HB.out)); have n0_ := Aside0.mk (blk_below (g := gb387) BK387.out hb); have n1_ := Aside0.mk (below_step hx_ hb); have n2_ := Aside0.mk (hbox); have n3_ := Aside0.mk ((box_ge hx_ hg)); have n4_ := Aside0.mk ((box_ge hx_ hg)); have n5_ := Aside0.mk (box_lt (g' := gb387) BK387.out hg); have n6_ := Aside0.mk (box_gt (g' := gb387) BK387.out hg); clear BK387; clear HB; have BK387 := n0_; have HB := n1_; have BK388 := n2_; have GW388 := n3_; have GE388 := n4_; have NB387_388 := n5_; have NB388_387 := n6_; clear n0_ n1_ n2_ n3_ n4_ n5_ n6_; clear hx_ hb hbox hg; have hnb5 := NB387_388.out; have hnc5 := NB388_387.out; obtain ⟨hcz6_0, hcz6_1, hcz6_2, hcz6_3, hcz6_4, hcz6_5, hfz6_0, hfz6_1, hfz6_2, hfz6_3, hfz6_4, hfz6_5⟩ := cells6 BK387.out) | ((with_reducible refine gate_dst (N := 5) rfl ?_); refine box_event ?hg (N := 5) ?hd (cs := #[.int .i64 0, .string (⟨#[]⟩ : ByteArray), .int .i64 0, .slice none 0 0, .slice none 0 0, .slice none 0 0]) (t := 33) ?hr ?_; (case hd => rfl); (case hg => rfl); (case hr => first | (go_simp; done) | (go_simp; rfl)); intro gb389 hg w7 hbox hb; have hx_ := bel_of (w := w) hb (by repeat (first | (with_reducible first | exact HB.out | apply below_alloc | apply pw_below_drewN | apply below_drew1 | refine below_set ?_ GE387.out | refine below_set ?_ GE388.out) | exact HB.out)); have n0_ := Aside0.mk (blk_below (g := gb387) BK387.out hb); have n1_ := Aside0.mk (blk_below (g := gb388) BK388.out hb); have n2_ := Aside0.mk (below_step hx_ hb); have n3_ := Aside0.mk (hbox); have n4_ := Aside0.mk ((box_ge hx_ hg)); have n5_ := Aside0.mk ((box_ge hx_ hg)); have n6_ := Aside0.mk (box_lt (g' := gb387) BK387.out hg); have n7_ := Aside0.mk (box_gt (g' := gb387) BK387.out hg); have n8_ := Aside0.mk (box_lt (g' := gb388) BK388.out hg); have n9_ := Aside0.mk (box_gt (g' := gb388) BK388.out hg); clear BK387; clear BK388; clear HB; have BK387 := n0_; have BK388 := n1_; have HB := n2_; have BK389 := n3_; have GW389 := n4_; have GE389 := n5_; have NB387_389 := n6_; have NB389_387 := n7_; have NB388_389 := n8_; have NB389_388 := n9_; clear n0_ n1_ n2_ n3_ n4_ n5_ n6_ n7_ n8_ n9_; clear hx_ hb hbox hg; have hnb8 := NB389_387.out; have hnc8 := NB387_389.out; have hnb9 := NB389_388.out; have hnc9 := NB388_389.out; obtain ⟨hcz10_0, hcz10_1, hcz10_2, hcz10_3, hcz10_4, hcz10_5, hfz10_0, hfz10_1, hfz10_2, hfz10_3, hfz10_4, hfz10_5⟩ := cells6 BK389.out; obtain ⟨hcz11_0, hcz11_1, hcz11_2, hcz11_3, hcz11_4, hcz11_5, hfz11_0, hfz11_1, hfz11_2, hfz11_3, hfz11_4, hfz11_5⟩ := cells6 BK387.out))
 go_loopg [20] (l0_3.length + 1) (fun kq v20 w' => ∃ (x20_1 : Int) (x390003_1 : List (List It)) (u390003 : Value) (j3 : Nat), v20 = .int .i64 x20_1 ∧ Aside0 (l0_3.length - j3 < kq) ∧ Aside0 (kq ≤ l0_3.length + 1) ∧ Aside0 (Kd.R (Kd.it 6) 33 w' w.heap.size (fun k_ => k_ ≠ gb387 ∧ k_ ≠ gb388 ∧ k_ ≠ gb389) u390003 x390003_1) ∧ Aside0 (w'.heap[gb387]? = some (.cells #[.int .i64 a0_0, .string a0_1, .int .i64 a0_2, (.slice A0_3 l0_3.length c0_3), (.slice A0_4 l0_4.length c0_4), (.slice A0_5 l0_5.length c0_5)] 33 (0, 0))) ∧ Aside0 (w'.heap[gb388]? = some (.cells #[.int .i64 0, .string (⟨#[]⟩ : ByteArray), .int .i64 0, (.slice none 0 0), (.slice none 0 0), (.slice none 0 0)] 33 (0, 0))) ∧ Aside0 (w'.heap[gb389]? = some (.cells #[.int .i64 a0_0, .string a0_1, .int .i64 a0_2, u390003, (.slice none 0 0), (.slice none 0 0)] 33 (0, 0))) ∧ Aside0 (Below w.heap.size w w') ∧ Aside0 (x20_1 = (j3 : Int) ∧ x390003_1.length = j3 ∧ j3 ≤ l0_3.length ∧ RepEs ((l0_3.take j3).map (gE n)) x390003_1.flatten ∧ (blksL x390003_1.flatten).Nodup))
 case atStart => exact ⟨(0), (([] : List (List It))), (.slice none 0 0), 0, (by first | rfl | (simp; done) | (simp [*]; done)), ⟨by omega⟩, ⟨Nat.le_refl _⟩, ⟨by first | exact Kd.R_nil _ _ _ _ _ | exact Kd.N_nil _ _ _ _ _ | exact Kd.V_nil _ _ _ _ _ | exact Kd.Q_nil _ _ _ _ _ | exact Kd.S_nil _ _ _ _ _⟩, ⟨by (with_reducible repeat (first | refine blk_drewN ?_ _ | refine blk_drew ?_ | refine blk_alloc ?_ _)); exact (blk_far (blk_far (blk_far (blk_far (blk_far (blk_far BK387.out NB387_389.out _) NB387_389.out _) NB387_389.out _) NB387_389.out _) NB387_389.out _) NB387_389.out _)⟩, ⟨by (with_reducible repeat (first | refine blk_drewN ?_ _ | refine blk_drew ?_ | refine blk_alloc ?_ _)); exact (blk_far (blk_far (blk_far (blk_far (blk_far (blk_far BK388.out NB388_389.out _) NB388_389.out _) NB388_389.out _) NB388_389.out _) NB388_389.out _) NB388_389.out _)⟩, ⟨by (with_reducible repeat (first | refine blk_drewN ?_ _ | refine blk_drew ?_ | refine blk_alloc ?_ _)); exact (put_6_5 (put_6_4 (put_6_3 (put_6_2 (put_6_1 (put_6_0 BK389.out))))))⟩, ⟨by repeat (first | (with_reducible first | exact HB.out | apply below_alloc | apply pw_below_drewN | apply below_drew1 | refine below_set ?_ GE387.out | refine below_set ?_ GE388.out | refine below_set ?_ GE389.out) | exact HB.out)⟩, ⟨rfl, rfl, Nat.zero_le _, by simpa using RepEs.nil, by simp [blksL]⟩⟩
 case round =>
  try clear p2
  try clear c5
  try clear c8
  try clear c9
  try clear hcz10_0
  try clear hcz10_1
  try clear hcz10_2
  try clear hcz10_3
  try clear hcz10_4
  try clear hcz10_5
  try clear hcz11_0
  try clear hcz11_1
  try clear hcz11_2
  try clear hcz11_3
  try clear hcz11_4
  try clear hcz11_5
  try clear hcz6_0
  try clear hcz6_1
  try clear hcz6_2
  try clear hcz6_3
  try clear hcz6_4
  try clear hcz6_5
  try clear hfz10_0
  try clear hfz10_1
  try clear hfz10_2
  try clear hfz10_3
  try clear hfz10_4
  try clear hfz10_5
  try clear hfz11_0
  try clear hfz11_1
  try clear hfz11_2
  try clear hfz11_3
  try clear hfz11_4
  try clear hfz11_5
  try clear hfz6_0
  try clear hfz6_1
  try clear hfz6_2
  try clear hfz6_3
  try clear hfz6_4
  try clear hfz6_5
  clear HB BK387 BK388 BK389
  obtain ⟨x20_1, x390003_1, u390003, j3, rfl, HA, HK1, HO_390003, BK387, BK388, BK389, HB, HJ⟩ := hrel
  cases gk with
  | zero => exact absurd HA.out (Nat.not_lt_zero _)
  | succ k1 =>
   by_cases c12 : x20_1 < (l0_3.length : Int)
   ·have c12b0 : decide (x20_1 < (l0_3.length : Int)) = true := decide_eq_true c12
    ·skip
     ·skip
      ·have hj_ : x20_1 = (j3 : Int) := HJ.out.1
       have c13b0 : decide (0 ≤ x20_1) = true := decide_eq_true (by omega)
       have HSQ := Aside0.mk (HQ.out.1.2 _ (rd33_mem l0_3 x20_1 j3 hj_ (by omega)))
       have LMc16 : Aside0 (j3 < 1353245080339) := ⟨by have := HQ.out.1.1; omega⟩
       clear c12 hj_
       have p390 : 0 ≤ (x20_1 : Int) := of_decide_eq_true (by first | (with_reducible assumption) | assumption)
       have q390 : x20_1 < (l0_3.length : Int) := of_decide_eq_true (by first | (with_reducible assumption) | assumption)
       obtain ⟨ad390, A390_3, c390_3, A390_4, c390_4, A390_5, c390_5, e390, hx390_0, hx390_1, hx390_2, hx390_3, hx390_4, hx390_5, hl390_3, hi390_3, hl390_4, hi390_4, hl390_5, hi390_5⟩ := at_T33 HR0_3.out x20_1 p390 q390
       cases e390
       replace hx390_0 := lc_ HB.out hx390_0
       replace hx390_1 := lc_ HB.out hx390_1
       replace hx390_2 := lc_ HB.out hx390_2
       replace hx390_3 := lc_ HB.out hx390_3
       replace hx390_4 := lc_ HB.out hx390_4
       replace hx390_5 := lc_ HB.out hx390_5
       have HR390_3 := Aside0.mk hi390_3
       have HC390_3 := Aside0.mk hl390_3
       clear hi390_3 hl390_3
       have HR390_4 := Aside0.mk hi390_4
       have HC390_4 := Aside0.mk hl390_4
       clear hi390_4 hl390_4
       have HR390_5 := Aside0.mk hi390_5
       have HC390_5 := Aside0.mk hl390_5
       clear hi390_5 hl390_5
       replace p390 := eq_true p390
       replace q390 := eq_true q390
       try go_wp2_with (first | ((with_reducible refine gate_dst (N := 7) rfl ?_); refine box_event ?hg (N := 7) ?hd (cs := #[.int .i64 0, .string (⟨#[]⟩ : ByteArray), .int .i64 0, .slice none 0 0, .slice none 0 0, .slice none 0 0]) (t := 33) ?hr ?_; (case hd => rfl); (case hg => rfl); (case hr => first | (go_simp; done) | (go_simp; rfl)); intro gb391 hg w17 hbox hb; have hx_ := bel_of (w := w) hb (by repeat (first | (with_reducible first | exact HB.out | apply below_alloc | apply pw_below_drewN | apply below_drew1 | refine below_set ?_ GE387.out | refine below_set ?_ GE388.out | refine below_set ?_ GE389.out) | exact HB.out)); have n0_ := Aside0.mk (Kd.R_below (Kd.R_elderB (by (with_reducible repeat (first | apply Kd.R_alloc | apply Kd.R_drewN | apply Kd.R_drew)); exact HO_390003.out) gb391 (Nat.le_of_eq hg.symm)) hb); have n1_ := Aside0.mk (blk_below (g := gb387) BK387.out hb); have n2_ := Aside0.mk (blk_below (g := gb388) BK388.out hb); have n3_ := Aside0.mk (blk_below (g := gb389) BK389.out hb); have n4_ := Aside0.mk (below_step hx_ hb); have n5_ := Aside0.mk (hbox); have n6_ := Aside0.mk ((box_ge hx_ hg)); have n7_ := Aside0.mk ((box_ge hx_ hg)); have n8_ := Aside0.mk (box_lt (g' := gb387) BK387.out hg); have n9_ := Aside0.mk (box_gt (g' := gb387) BK387.out hg); have n10_ := Aside0.mk (box_lt (g' := gb388) BK388.out hg); have n11_ := Aside0.mk (box_gt (g' := gb388) BK388.out hg); have n12_ := Aside0.mk (box_lt (g' := gb389) BK389.out hg); have n13_ := Aside0.mk (box_gt (g' := gb389) BK389.out hg); clear HO_390003; clear BK387; clear BK388; clear BK389; clear HB; have HO_390003 := n0_; have BK387 := n1_; have BK388 := n2_; have BK389 := n3_; have HB := n4_; have BK391 := n5_; have GW391 := n6_; have GE391 := n7_; have NB387_391 := n8_; have NB391_387 := n9_; have NB388_391 := n10_; have NB391_388 := n11_; have NB389_391 := n12_; have NB391_389 := n13_; clear n0_ n1_ n2_ n3_ n4_ n5_ n6_ n7_ n8_ n9_ n10_ n11_ n12_ n13_; clear hx_ hb hbox hg; have hnb18 := NB391_387.out; have hnc18 := NB387_391.out; have hnb19 := NB391_388.out; have hnc19 := NB388_391.out; have hnb20 := NB391_389.out; have hnc20 := NB389_391.out; obtain ⟨hcz21_0, hcz21_1, hcz21_2, hcz21_3, hcz21_4, hcz21_5, hfz21_0, hfz21_1, hfz21_2, hfz21_3, hfz21_4, hfz21_5⟩ := cells6 BK391.out))
       have n0_ : Aside0 (Kd.R (Kd.it 6) 33 ((((((w17.setCell ⟨gb391, 0, none⟩ (.int .i64 ((rd_T33 l0_3 x20_1).f0))).setCell ⟨gb391, 1, none⟩ (.string ((rd_T33 l0_3 x20_1).f1))).setCell ⟨gb391, 2, none⟩ (.int .i64 ((rd_T33 l0_3 x20_1).f2))).setCell ⟨gb391, 3, none⟩ (.slice A390_3 ((rd_T33 l0_3 x20_1).f3).length c390_3)).setCell ⟨gb391, 4, none⟩ (.slice A390_4 ((rd_T33 l0_3 x20_1).f4).length c390_4)).setCell ⟨gb391, 5, none⟩ (.slice A390_5 ((rd_T33 l0_3 x20_1).f5).length c390_5)) w.heap.size (fun k_ => k_ ≠ gb387 ∧ k_ ≠ gb388 ∧ k_ ≠ gb389 ∧ k_ ≠ gb391) u390003 x390003_1) := ⟨by (with_reducible repeat (first | apply Kd.R_alloc | apply Kd.R_drewN | apply Kd.R_drew)); exact Kd.R_mono (Kd.R_st (Kd.R_st (Kd.R_st (Kd.R_st (Kd.R_st (Kd.R_st (Kd.R_mono HO_390003.out (fun k_ hk => (⟨hk, hk.2⟩ : _ ∧ k_ ≠ gb391))))))))) (fun _ hk => ⟨hk.1.1.1, ⟨hk.1.1.2.1, ⟨hk.1.1.2.2, hk.1.2⟩⟩⟩)⟩
       have n1_ : Aside0 (((((((w17.setCell ⟨gb391, 0, none⟩ (.int .i64 ((rd_T33 l0_3 x20_1).f0))).setCell ⟨gb391, 1, none⟩ (.string ((rd_T33 l0_3 x20_1).f1))).setCell ⟨gb391, 2, none⟩ (.int .i64 ((rd_T33 l0_3 x20_1).f2))).setCell ⟨gb391, 3, none⟩ (.slice A390_3 ((rd_T33 l0_3 x20_1).f3).length c390_3)).setCell ⟨gb391, 4, none⟩ (.slice A390_4 ((rd_T33 l0_3 x20_1).f4).length c390_4)).setCell ⟨gb391, 5, none⟩ (.slice A390_5 ((rd_T33 l0_3 x20_1).f5).length c390_5)).heap[gb387]? = some (.cells #[.int .i64 a0_0, .string a0_1, .int .i64 a0_2, .slice (some ad390) l0_3.length c0_3, .slice A0_4 l0_4.length c0_4, .slice A0_5 l0_5.length c0_5] 33 (0, 0))) := ⟨by (with_reducible repeat (first | refine blk_drewN ?_ _ | refine blk_drew ?_ | refine blk_alloc ?_ _)); exact (blk_far (blk_far (blk_far (blk_far (blk_far (blk_far BK387.out NB387_391.out _) NB387_391.out _) NB387_391.out _) NB387_391.out _) NB387_391.out _) NB387_391.out _)⟩
       have n2_ : Aside0 (((((((w17.setCell ⟨gb391, 0, none⟩ (.int .i64 ((rd_T33 l0_3 x20_1).f0))).setCell ⟨gb391, 1, none⟩ (.string ((rd_T33 l0_3 x20_1).f1))).setCell ⟨gb391, 2, none⟩ (.int .i64 ((rd_T33 l0_3 x20_1).f2))).setCell ⟨gb391, 3, none⟩ (.slice A390_3 ((rd_T33 l0_3 x20_1).f3).length c390_3)).setCell ⟨gb391, 4, none⟩ (.slice A390_4 ((rd_T33 l0_3 x20_1).f4).length c390_4)).setCell ⟨gb391, 5, none⟩ (.slice A390_5 ((rd_T33 l0_3 x20_1).f5).length c390_5)).heap[gb388]? = some (.cells #[.int .i64 0, .string (⟨#[]⟩ : ByteArray), .int .i64 0, .slice none 0 0, .slice none 0 0, .slice none 0 0] 33 (0, 0))) := ⟨by (with_reducible repeat (first | refine blk_drewN ?_ _ | refine blk_drew ?_ | refine blk_alloc ?_ _)); exact (blk_far (blk_far (blk_far (blk_far (blk_far (blk_far BK388.out NB388_391.out _) NB388_391.out _) NB388_391.out _) NB388_391.out _) NB388_391.out _) NB388_391.out _)⟩
       have n3_ : Aside0 (((((((w17.setCell ⟨gb391, 0, none⟩ (.int .i64 ((rd_T33 l0_3 x20_1).f0))).setCell ⟨gb391, 1, none⟩ (.string ((rd_T33 l0_3 x20_1).f1))).setCell ⟨gb391, 2, none⟩ (.int .i64 ((rd_T33 l0_3 x20_1).f2))).setCell ⟨gb391, 3, none⟩ (.slice A390_3 ((rd_T33 l0_3 x20_1).f3).length c390_3)).setCell ⟨gb391, 4, none⟩ (.slice A390_4 ((rd_T33 l0_3 x20_1).f4).length c390_4)).setCell ⟨gb391, 5, none⟩ (.slice A390_5 ((rd_T33 l0_3 x20_1).f5).length c390_5)).heap[gb389]? = some (.cells #[.int .i64 a0_0, .string a0_1, .int .i64 a0_2, u390003, .slice none 0 0, .slice none 0 0] 33 (0, 0))) := ⟨by (with_reducible repeat (first | refine blk_drewN ?_ _ | refine blk_drew ?_ | refine blk_alloc ?_ _)); exact (blk_far (blk_far (blk_far (blk_far (blk_far (blk_far BK389.out NB389_391.out _) NB389_391.out _) NB389_391.out _) NB389_391.out _) NB389_391.out _) NB389_391.out _)⟩
       have n4_ : Aside0 (((((((w17.setCell ⟨gb391, 0, none⟩ (.int .i64 ((rd_T33 l0_3 x20_1).f0))).setCell ⟨gb391, 1, none⟩ (.string ((rd_T33 l0_3 x20_1).f1))).setCell ⟨gb391, 2, none⟩ (.int .i64 ((rd_T33 l0_3 x20_1).f2))).setCell ⟨gb391, 3, none⟩ (.slice A390_3 ((rd_T33 l0_3 x20_1).f3).length c390_3)).setCell ⟨gb391, 4, none⟩ (.slice A390_4 ((rd_T33 l0_3 x20_1).f4).length c390_4)).setCell ⟨gb391, 5, none⟩ (.slice A390_5 ((rd_T33 l0_3 x20_1).f5).length c390_5)).heap[gb391]? = some (.cells #[.int .i64 ((rd_T33 l0_3 x20_1).f0), .string ((rd_T33 l0_3 x20_1).f1), .int .i64 ((rd_T33 l0_3 x20_1).f2), .slice A390_3 ((rd_T33 l0_3 x20_1).f3).length c390_3, .slice A390_4 ((rd_T33 l0_3 x20_1).f4).length c390_4, .slice A390_5 ((rd_T33 l0_3 x20_1).f5).length c390_5] 33 (0, 0))) := ⟨by (with_reducible repeat (first | refine blk_drewN ?_ _ | refine blk_drew ?_ | refine blk_alloc ?_ _)); exact (put_6_5 (put_6_4 (put_6_3 (put_6_2 (put_6_1 (put_6_0 BK391.out))))))⟩
       have n5_ : Aside0 (Below w.heap.size w ((((((w17.setCell ⟨gb391, 0, none⟩ (.int .i64 ((rd_T33 l0_3 x20_1).f0))).setCell ⟨gb391, 1, none⟩ (.string ((rd_T33 l0_3 x20_1).f1))).setCell ⟨gb391, 2, none⟩ (.int .i64 ((rd_T33 l0_3 x20_1).f2))).setCell ⟨gb391, 3, none⟩ (.slice A390_3 ((rd_T33 l0_3 x20_1).f3).length c390_3)).setCell ⟨gb391, 4, none⟩ (.slice A390_4 ((rd_T33 l0_3 x20_1).f4).length c390_4)).setCell ⟨gb391, 5, none⟩ (.slice A390_5 ((rd_T33 l0_3 x20_1).f5).length c390_5))) := ⟨by repeat (first | (with_reducible first | exact HB.out | apply below_alloc | apply pw_below_drewN | apply below_drew1 | refine below_set ?_ GE387.out | refine below_set ?_ GE388.out | refine below_set ?_ GE389.out | refine below_set ?_ GE391.out) | exact HB.out)⟩
       (try clear HO_390003)
       (try clear BK387)
       (try clear BK388)
       (try clear BK389)
       (try clear BK391)
       (try clear HB)
       generalize ((((((w17.setCell ⟨gb391, 0, none⟩ (.int .i64 ((rd_T33 l0_3 x20_1).f0))).setCell ⟨gb391, 1, none⟩ (.string ((rd_T33 l0_3 x20_1).f1))).setCell ⟨gb391, 2, none⟩ (.int .i64 ((rd_T33 l0_3 x20_1).f2))).setCell ⟨gb391, 3, none⟩ (.slice A390_3 ((rd_T33 l0_3 x20_1).f3).length c390_3)).setCell ⟨gb391, 4, none⟩ (.slice A390_4 ((rd_T33 l0_3 x20_1).f4).length c390_4)).setCell ⟨gb391, 5, none⟩ (.slice A390_5 ((rd_T33 l0_3 x20_1).f5).length c390_5)) = w22 at n0_ n1_ n2_ n3_ n4_ n5_ ⊢
       have HO_390003 := n0_
       have BK387 := n1_
       have BK388 := n2_
       have BK389 := n3_
       have BK391 := n4_
       have HB := n5_
       clear n0_ n1_ n2_ n3_ n4_ n5_
       have n0_ := Aside0.mk (Kd.R_drew HO_390003.out)
       have n1_ := Aside0.mk (blk_drew BK387.out)
       have n2_ := Aside0.mk (blk_drew BK388.out)
       have n3_ := Aside0.mk (blk_drew BK389.out)
       have n4_ := Aside0.mk (blk_drew BK391.out)
       have n5_ := Aside0.mk (below_drew1 HB.out)
       clear HO_390003
       clear BK387
       clear BK388
       clear BK389
       clear BK391
       clear HB
       have HO_390003 := n0_
       have BK387 := n1_
       have BK388 := n2_
       have BK389 := n3_
       have BK391 := n4_
       have HB := n5_
       clear n0_ n1_ n2_ n3_ n4_ n5_
       refine start_ (n := 9) (S := fun w' => w'.cell? ⟨gb389, 0, none⟩ = some (.int .i64 a0_0) ∧ w'.cell? ⟨gb389, 1, none⟩ = some (.string a0_1) ∧ w'.cell? ⟨gb389, 2, none⟩ = some (.int .i64 a0_2) ∧ w'.cell? ⟨gb389, 3, none⟩ = some (u390003) ∧ w'.cell? ⟨gb389, 4, none⟩ = some (.slice none 0 0) ∧ w'.cell? ⟨gb389, 5, none⟩ = some (.slice none 0 0) ∧ w'.cell? ⟨gb391, 0, none⟩ = some (.int .i64 ((rd_T33 l0_3 x20_1).f0)) ∧ w'.cell? ⟨gb391, 1, none⟩ = some (.string ((rd_T33 l0_3 x20_1).f1)) ∧ w'.cell? ⟨gb391, 2, none⟩ = some (.int .i64 ((rd_T33 l0_3 x20_1).f2)) ∧ w'.cell? ⟨gb391, 3, none⟩ = some (.slice A390_3 ((rd_T33 l0_3 x20_1).f3).length c390_3) ∧ w'.cell? ⟨gb391, 4, none⟩ = some (.slice A390_4 ((rd_T33 l0_3 x20_1).f4).length c390_4) ∧ w'.cell? ⟨gb391, 5, none⟩ = some (.slice A390_5 ((rd_T33 l0_3 x20_1).f5).length c390_5)) (ds := [8]) #[false, false, false, false, false, false, false, false, false] (by kernel_rfl) rfl rfl ⟨(blk_cell BK389.out 0).trans rfl, (blk_cell BK389.out 1).trans rfl, (blk_cell BK389.out 2).trans rfl, (blk_cell BK389.out 3).trans rfl, (blk_cell BK389.out 4).trans rfl, (blk_cell BK389.out 5).trans rfl, (blk_cell BK391.out 0).trans rfl, (blk_cell BK391.out 1).trans rfl, (blk_cell BK391.out 2).trans rfl, (blk_cell BK391.out 3).trans rfl, (blk_cell BK391.out 4).trans rfl, (blk_cell BK391.out 5).trans rfl⟩ (fun hHeld => ?_); refine with_tabW M_tab5 M_bits5 (fun HT_ HW_ => ?_)
       generalize w22.drew = w23 at HO_390003 BK387 BK388 BK389 BK391 HB hHeld ⊢
       refine pure_ (i := 0) (N := some 24) (v := ?_) (a' := ?_) #[true, false, false, false, false, false, false, false, false] rfl rfl (any_of HT_.out (by kernel_rfl)) (fun _ _ _ h => h) (Or.inl ⟨by rfl, ?_⟩) ?_ ?_
       rotate_left
       ·intro w'
        go_simp
        with_reducible rfl
       rotate_left
       ·simp only [Act.put, List.setIfInBounds_toArray, List.set_cons_zero, List.set_cons_succ, i64_w, i32_w]
        rfl
       refine pure_ (i := 2) (N := some 26) (v := ?_) (a' := ?_) #[true, false, true, false, false, false, false, false, false] rfl rfl (any_of HT_.out (by kernel_rfl)) (fun _ _ _ h => h) (Or.inl ⟨by rfl, ?_⟩) ?_ ?_
       rotate_left
       ·intro w'
        go_simp
        with_reducible rfl
       rotate_left
       ·simp only [Act.put, List.setIfInBounds_toArray, List.set_cons_zero, List.set_cons_succ, i64_w, i32_w]
        rfl
       refine take_ (i := 1) (N := some 25) (v := ?_) (a' := ?_) #[true, true, true, false, false, false, false, false, false] rfl rfl (take_ofW HT_.out HW_.out (by kernel_rfl)) (fun _ _ _ h => h) (Or.inl ⟨by rfl, ?_⟩) hHeld ?_ ?_
       rotate_left
       ·rintro w' ⟨s0, s1, s2, s3, s4, s5, s6, s7, s8, s9, s10, s11⟩
        go_simp
        with_reducible rfl
       rotate_left
       ·simp only [Act.put, List.setIfInBounds_toArray, List.set_cons_zero, List.set_cons_succ, i64_w, i32_w]
        rfl
       refine take_ (i := 3) (N := some 27) (v := ?_) (a' := ?_) #[true, true, true, true, false, false, false, false, false] rfl rfl (take_ofW HT_.out HW_.out (by kernel_rfl)) (fun _ _ _ h => h) (Or.inl ⟨by rfl, ?_⟩) hHeld ?_ ?_
       rotate_left
       ·rintro w' ⟨s0, s1, s2, s3, s4, s5, s6, s7, s8, s9, s10, s11⟩
        go_simp
        with_reducible rfl
       rotate_left
       ·simp only [Act.put, List.setIfInBounds_toArray, List.set_cons_zero, List.set_cons_succ, i64_w, i32_w]
        rfl
       refine one_ (i := 4) (N := some 28) #[true, true, true, true, true, false, false, false, false] rfl rfl (one_of HT_.out (by kernel_rfl)) (by decide) (fun K hK => ?_)
       refine goesD_ Try.func22 (by kernel_rfl) rfl #[.agg #[.int .i64 ((rd_T33 l0_3 x20_1).f0), .string ((rd_T33 l0_3 x20_1).f1), .int .i64 ((rd_T33 l0_3 x20_1).f2), .slice A390_3 ((rd_T33 l0_3 x20_1).f3).length c390_3, .slice A390_4 ((rd_T33 l0_3 x20_1).f4).length c390_4, .slice A390_5 ((rd_T33 l0_3 x20_1).f5).length c390_5]] (by rfl) rfl rfl rfl (by (try simp only [List.map_toArray, List.map_cons, List.map_nil, List.append_toArray, List.cons_append, List.nil_append]); first | done | rfl) ?_
       with_reducible refine (ih_E n (Nat.le_refl n) (rd_T33 l0_3 x20_1) _ _ _ _ _ _ _ ⟨⟨Kd.C_below HR390_3.out HB.out, HC390_3.out⟩, ⟨Kd.C_below HR390_4.out HB.out, HC390_4.out⟩, ⟨Kd.C_below HR390_5.out HB.out, HC390_5.out⟩⟩ HSQ.out).mono ?_
       rintro e w24 ⟨E3, d3, y3, E4, d4, y4, E5, d5, y5, rfl, hc, hb⟩
       refine ⟨_, rfl, ?_⟩
       have HG_ := Aside0.mk (And.intro (blk_lt BK387.out) (And.intro (blk_lt BK388.out) (And.intro (blk_lt BK389.out) (blk_lt BK391.out))))
       have HU_ := Aside0.mk (Kd.R_lt HO_390003.out)
       have HX_ := Aside0.mk (fun b hb => (AtL_blk _ (Kd.it_row HO_390003.out (by simp)).1 b hb).1)
       have HL_ := Aside0.mk (below_size HB.out)
       have P2_ := Aside0.mk hc
       have S2_ := Aside0.mk (below_size hb)
       have n0_ := Aside0.mk (Kd.R_below HO_390003.out hb)
       have n1_ := Aside0.mk (blk_below BK387.out hb)
       have n2_ := Aside0.mk (blk_below BK388.out hb)
       have n3_ := Aside0.mk (blk_below BK389.out hb)
       have n4_ := Aside0.mk (blk_below BK391.out hb)
       have nb_ := Aside0.mk (below_step HB.out hb)
       clear HO_390003 BK387 BK388 BK389 BK391  HB hc hb
       have HO_390003 := n0_
       have BK387 := n1_
       have BK388 := n2_
       have BK389 := n3_
       have BK391 := n4_
       have HB := nb_
       clear nb_ n0_ n1_ n2_ n3_ n4_ 
       obtain ⟨el, hel⟩ : ∃ el : List It, el = .i ((gE n (rd_T33 l0_3 x20_1)).f0) :: .s ((gE n (rd_T33 l0_3 x20_1)).f1) :: .i ((gE n (rd_T33 l0_3 x20_1)).f2) :: rows3 E3 ((gE n (rd_T33 l0_3 x20_1)).f3).length d3 y3 E4 ((gE n (rd_T33 l0_3 x20_1)).f4).length d4 y4 E5 ((gE n (rd_T33 l0_3 x20_1)).f5).length d5 y5 := ⟨_, rfl⟩
       have PE_ : Aside0 (Part _ _ el) := ⟨by
        have hp := P2_.out.part
        have hbl : blksL el = blksL (rows3 E3 ((gE n (rd_T33 l0_3 x20_1)).f3).length d3 y3 E4 ((gE n (rd_T33 l0_3 x20_1)).f4).length d4 y4 E5 ((gE n (rd_T33 l0_3 x20_1)).f5).length d5 y5) := by subst hel; simp [blksL, It.blks]
        exact ⟨by rw [hbl]; exact hp.nd, by rw [hbl]; exact hp.ge, by rw [hbl]; exact hp.lt⟩⟩
       have QE_ : Aside0 (AtL w24 el) := ⟨by
        subst hel
        simp only [AtL, It.At, true_and]
        have q2 := P2_.out.at_
        simp only [AtL, It.At] at q2
        exact q2⟩
       have HJ2 : Aside0 (j3 < l0_3.length ∧ RepEs ((l0_3.take (j3 + 1)).map (gE n)) (x390003_1 ++ [el]).flatten ∧ (blksL (x390003_1 ++ [el]).flatten).Nodup) := ⟨by
        obtain ⟨hj0, hj1, hj2, hj3, hj4⟩ := HJ.out
        have hjl : j3 < l0_3.length := by have := of_eq_true q390; omega
        refine ⟨hjl, ?_, nodup_more hj4 PE_.out (fun c hc => HX_.out c (by simp only [blksL, It.blks, List.append_nil]; exact List.mem_append_right _ hc))⟩
        rw [take_snoc l0_3 j3 hjl, List.map_append, List.map_cons, List.map_nil, List.flatten_append, List.flatten_cons, List.flatten_nil, List.append_nil, ← rdE_at l0_3 x20_1 j3 hj0 hjl, hel]
        exact hj3.snoc (RepE.mk P2_.out.r3 P2_.out.r4 P2_.out.r5)⟩
       refine hK.out _ _ ⟨(blk_cell BK389.out 0).trans rfl, (blk_cell BK389.out 1).trans rfl, (blk_cell BK389.out 2).trans rfl, (blk_cell BK389.out 3).trans rfl, (blk_cell BK389.out 4).trans rfl, (blk_cell BK389.out 5).trans rfl, (blk_cell BK391.out 0).trans rfl, (blk_cell BK391.out 1).trans rfl, (blk_cell BK391.out 2).trans rfl, (blk_cell BK391.out 3).trans rfl, (blk_cell BK391.out 4).trans rfl, (blk_cell BK391.out 5).trans rfl⟩ (fun hHeld => ?_)
       clear hK K
       refine norm_ (a' := ?_) ?_ ?_
       rotate_left
       ·show Act.put _ (some 28) _ = _
        simp only [Act.put, List.setIfInBounds_toArray, List.set_cons_zero, List.set_cons_succ, i64_w, i32_w]
        rfl
       refine one_ (i := 5) (N := some 29) #[true, true, true, true, true, true, false, false, false] rfl rfl (one_of HT_.out (by kernel_rfl)) (by decide) (fun K hK => ?_)
       refine value_ (w1 := ?_) (v := ?_) (by rfl) rfl ?_ ?_
       rotate_left 2
       ·go_simp
        constructor
        ·rfl
        ·rfl
       refine hK.out _ _ ⟨(blk_cell (blk_alloc BK389.out _) 0).trans rfl, (blk_cell (blk_alloc BK389.out _) 1).trans rfl, (blk_cell (blk_alloc BK389.out _) 2).trans rfl, (blk_cell (blk_alloc BK389.out _) 3).trans rfl, (blk_cell (blk_alloc BK389.out _) 4).trans rfl, (blk_cell (blk_alloc BK389.out _) 5).trans rfl, (blk_cell (blk_alloc BK391.out _) 0).trans rfl, (blk_cell (blk_alloc BK391.out _) 1).trans rfl, (blk_cell (blk_alloc BK391.out _) 2).trans rfl, (blk_cell (blk_alloc BK391.out _) 3).trans rfl, (blk_cell (blk_alloc BK391.out _) 4).trans rfl, (blk_cell (blk_alloc BK391.out _) 5).trans rfl⟩ (fun hHeld => ?_)
       clear hK K
       refine norm_ (a' := ?_) ?_ ?_
       rotate_left
       ·show Act.put _ (some 29) _ = _
        simp only [Act.put, List.setIfInBounds_toArray, List.set_cons_zero, List.set_cons_succ, i64_w, i32_w]
        rfl
       refine one_ (i := 6) (N := some 30) #[true, true, true, true, true, true, true, false, false] rfl rfl (one_of HT_.out (by kernel_rfl)) (by decide) (fun K hK => ?_)
       refine Kd.R_append_step (Kd.it 6) (w0 := w) w.heap.size (by rfl) (.tmp 25) (.tmp 29) 29 33 (.agg #[(.int .i64 0), (.string ⟨#[]⟩), (.int .i64 0), (.slice none 0 0), (.slice none 0 0), (.slice none 0 0)]) 104 rfl Try.underlying29 info33 rfl (by decide) (by omega) u390003 x390003_1 el [.int .i64 ((gE n (rd_T33 l0_3 x20_1)).f0), .string ((gE n (rd_T33 l0_3 x20_1)).f1), .int .i64 ((gE n (rd_T33 l0_3 x20_1)).f2), .slice E3 ((gE n (rd_T33 l0_3 x20_1)).f3).length d3, .slice E4 ((gE n (rd_T33 l0_3 x20_1)).f4).length d4, .slice E5 ((gE n (rd_T33 l0_3 x20_1)).f5).length d5] (fun k_ => k_ ≠ gb387 ∧ k_ ≠ gb388 ∧ k_ ≠ gb389 ∧ k_ ≠ gb391) (fun k_ => ((fun k_ => k_ ≠ gb387 ∧ k_ ≠ gb388 ∧ k_ ≠ gb389 ∧ k_ ≠ gb391)) k_ ∧ some k_ ≠ (u390003 : Value).ownBlock) rfl rfl ?aP (fun _ hk => hk) ?aF ?aO ?aB ?aS ?aL ?_
       (case aP => exact ⟨by rw [hel]; rfl, by rw [hel]; rfl, QE_.out, fun b hb => ⟨⟨by have := PE_.out.ge b hb; have := HG_.out; omega, fun e => by have := PE_.out.ge b hb; have := HU_.out b e.symm; omega⟩, by have := PE_.out.ge b hb; have := HL_.out; omega⟩⟩)
       (case aB => exact HB.out)
       (case aF => exact (fun k_ hk => ⟨Kd.freshB BK387.out k_ hk, Kd.freshB BK388.out k_ hk, Kd.freshB BK389.out k_ hk, Kd.freshB BK391.out k_ hk⟩))
       (case aO => exact HO_390003.out)
       (case aS => exact (below_size HB.out))
       (case aL => have := LMc16.out; have := HJ.out.2.1; omega)
       intro v405 w25 ho hb hg hat
       obtain ⟨y404, hy404⟩ : ∃ y_ : List (List It), y_ = x390003_1 ++ [el] := ⟨_, rfl⟩
       rw [← hy404] at ho
       have Ny404 := Aside0.mk hy404
       clear hy404
       have n0_ := Aside0.mk (blk_grown (g := gb387) BK387.out hg (Kd.R_away HO_390003.out (fun _ hk => hk.1)))
       have n1_ := Aside0.mk (blk_grown (g := gb388) BK388.out hg (Kd.R_away HO_390003.out (fun _ hk => hk.2.1)))
       have n2_ := Aside0.mk (blk_grown (g := gb389) BK389.out hg (Kd.R_away HO_390003.out (fun _ hk => hk.2.2.1)))
       have n3_ := Aside0.mk (blk_grown (g := gb391) BK391.out hg (Kd.R_away HO_390003.out (fun _ hk => hk.2.2.2)))
       have n4_ := Aside0.mk (hb)
       have n5_ := Aside0.mk (ho)
       clear BK387
       clear BK388
       clear BK389
       clear BK391
       clear HB
       clear HO_390003
       skip
       have BK387 := n0_
       have BK388 := n1_
       have BK389 := n2_
       have BK391 := n3_
       have HB := n4_
       have HO406 := n5_
       clear n0_ n1_ n2_ n3_ n4_ n5_
       clear ho hb hg hat
       obtain ⟨Ao29, co29, eo29⟩ := Kd.R_slice HO406.out
       (first | subst eo29 | (injection eo29 with f1_ f2_ f3_; have f4_ := f1_.symm; have f5_ := f3_.symm; clear f1_ f2_ f3_; subst f4_; subst f5_))
       refine hK.out _ _ ⟨(blk_cell BK389.out 0).trans rfl, (blk_cell BK389.out 1).trans rfl, (blk_cell BK389.out 2).trans rfl, (blk_cell BK389.out 3).trans rfl, (blk_cell BK389.out 4).trans rfl, (blk_cell BK389.out 5).trans rfl, (blk_cell BK391.out 0).trans rfl, (blk_cell BK391.out 1).trans rfl, (blk_cell BK391.out 2).trans rfl, (blk_cell BK391.out 3).trans rfl, (blk_cell BK391.out 4).trans rfl, (blk_cell BK391.out 5).trans rfl⟩ (fun hHeld => ?_)
       clear hK K
       refine norm_ (a' := ?_) ?_ ?_
       rotate_left
       ·show Act.put _ (some 30) _ = _
        simp only [Act.put, List.setIfInBounds_toArray, List.set_cons_zero, List.set_cons_succ, i64_w, i32_w]
        rfl
       refine pure_ (i := 7) (N := some 31) (v := ?_) (a' := ?_) #[true, true, true, true, true, true, true, true, false] rfl rfl (any_of HT_.out (by kernel_rfl)) (fun _ _ _ h => h) (Or.inl ⟨by rfl, ?_⟩) ?_ ?_
       rotate_left
       ·intro w'
        go_simp
        with_reducible rfl
       rotate_left
       ·simp only [Act.put, List.setIfInBounds_toArray, List.set_cons_zero, List.set_cons_succ, i64_w, i32_w]
        rfl
       refine last_ (i := 8) (N := none) #[true, true, true, true, true, true, true, true, true] rfl rfl (one_of HT_.out (by kernel_rfl)) (by decide) (fun K hK => ?_)
       have hs30 : w25.cell? ⟨gb389, 3, none⟩ = some (u390003) := (blk_cell BK389.out 3).trans rfl
       have hfs30 := blk_frozen BK389.out 3
       have hns30_0 := NB387_389.out
       have hns30_1 := NB388_389.out
       have hns30_3 := NB391_389.out
       have hms30_0 := NB389_387.out
       have hms30_1 := NB389_388.out
       have hms30_3 := NB389_391.out
       refine skip_ (w1 := ?_) (by rfl) rfl ?_ ?_
       rotate_left
       ·go_simp
        rfl
       refine hK.out _ _ ?_
       clear hK K
       refine done_ (done_of HT_.out (by kernel_rfl)) ?_
       try go_wp2
       go_roundg k1
       case measure => have := HK1.out; omega
       case rel => exact ⟨(wrap64 (x20_1 + 1)), (y404), (.slice Ao29 y404.length co29), j3 + 1, (by first | rfl | (simp; done) | (simp [*]; done)), ⟨by obtain ⟨hj0, _, hj2, _, _⟩ := HJ.out; have := HA.out; have := of_eq_true q390; omega⟩, ⟨by have := HK1.out; omega⟩, ⟨by (with_reducible repeat (first | apply Kd.R_alloc | apply Kd.R_drewN | apply Kd.R_drew)); exact Kd.R_mono (Kd.R_st (Kd.R_mono HO406.out (fun k_ hk => (⟨hk, hk.2.2.1⟩ : _ ∧ k_ ≠ gb389)))) (fun _ hk => ⟨hk.1.1, ⟨hk.1.2.1, hk.1.2.2.1⟩⟩)⟩, ⟨by (with_reducible repeat (first | refine blk_drewN ?_ _ | refine blk_drew ?_ | refine blk_alloc ?_ _)); exact (blk_far BK387.out NB387_389.out _)⟩, ⟨by (with_reducible repeat (first | refine blk_drewN ?_ _ | refine blk_drew ?_ | refine blk_alloc ?_ _)); exact (blk_far BK388.out NB388_389.out _)⟩, ⟨by (with_reducible repeat (first | refine blk_drewN ?_ _ | refine blk_drew ?_ | refine blk_alloc ?_ _)); exact (put_6_3 BK389.out)⟩, ⟨by repeat (first | (with_reducible first | exact HB.out | apply below_alloc | apply pw_below_drewN | apply below_drew1 | refine below_set ?_ GE387.out | refine below_set ?_ GE388.out | refine below_set ?_ GE389.out | refine below_set ?_ GE391.out) | exact HB.out)⟩, ⟨by obtain ⟨hj0, hj1, hj2, hj3, hj4⟩ := HJ.out; have := LMc16.out; exact ⟨by rw [hj0]; unfold wrap64; omega, by rw [Ny404.out, List.length_append, hj1]; rfl, HJ2.out.1, by rw [Ny404.out]; exact HJ2.out.2.1, by rw [Ny404.out]; exact HJ2.out.2.2⟩⟩⟩
   ·skip
    have c12b0 : decide (x20_1 < (l0_3.length : Int)) = false := decide_eq_false c12
    clear c12
    have hj3l : x390003_1.length = l0_3.length := by
     obtain ⟨hj0, hj1, hj2, hj3, hj4⟩ := HJ.out
     have := of_decide_eq_false c12b0
     omega
    have hR3 : RepEs (l0_3.map (gE n)) x390003_1.flatten := by
     obtain ⟨hj0, hj1, hj2, hj3, hj4⟩ := HJ.out
     rwa [show j3 = l0_3.length by omega, List.take_length] at hj3
    have HR3 := Aside0.mk hR3
    obtain ⟨Ao35, co35, eo35⟩ := Kd.R_slice HO_390003.out
    rw [hj3l] at eo35
    subst eo35
    have H3L := Aside0.mk hj3l
    clear hj3l hR3
    have hnb32 := NB387_388.out
    have hnc32 := NB388_387.out
    have hnb33 := NB387_389.out
    have hnc33 := NB389_387.out
    obtain ⟨hcz34_0, hcz34_1, hcz34_2, hcz34_3, hcz34_4, hcz34_5, hfz34_0, hfz34_1, hfz34_2, hfz34_3, hfz34_4, hfz34_5⟩ := cells6 BK387.out
    go_wp2_with (first | ((with_reducible refine gate_callee (f := 65) rfl ?_); refine goesL_ (some 36) rfl rfl Try.func65 (by kernel_rfl) rfl #[.slice A0_4 l0_4.length c0_4, CF] rfl (by (try simp only [List.map_toArray, List.map_cons, List.map_nil]); first | done | rfl | (simp only [List.length_drop, List.length_take]; rfl)) ?_; refine calls_bel (w0 := w) HB.out (fun hx_ => ?_); (with_reducible refine (ih_D _ _ l0_4 _ (Kd.C_below HR0_4.out hx_) HC0_4.out HQ.out.2.1).mono ?_); rintro e w35 ⟨Ao36, co36, y8, rfl, hc, hb⟩; have hca_ := hc.at_; have hcp_ := hc.part; simp only [List.length_map] at hca_ hcp_; refine ⟨_, rfl, ?_⟩; have q1_ := row_below (by (with_reducible repeat (first | apply Kd.R_alloc | apply Kd.R_drewN | apply Kd.R_drew)); exact HO_390003.out) hb (by simp) HJ.out.2.2.2.2; have g387_ := lt_of_blk (g := gb387) BK387.out hb; have g388_ := lt_of_blk (g := gb388) BK388.out hb; have g389_ := lt_of_blk (g := gb389) BK389.out hb; rw [H3L.out] at q1_; obtain ⟨Q, hQ⟩ : ∃ Q : List It, Q = [.r 33 6 (.slice Ao35 l0_3.length co35) l0_3.length x390003_1.flatten] ++ [.r 68 9 (.slice Ao36 l0_4.length co36) l0_4.length y8] := ⟨_, rfl⟩; have QQ := Aside0.mk (show AtL w35 Q from by rw [hQ, AtL_app]; exact ⟨q1_.1, hca_⟩); have PQ := Aside0.mk (show Part w.heap.size w35.heap.size Q from by rw [hQ]; exact q1_.2.2.join hcp_ (below_size hx_) (below_size hb)); have NQ := Aside0.mk (show ∀ b ∈ blksL Q, b ≠ gb387 ∧ b ≠ gb388 ∧ b ≠ gb389 from by intro b hb_; rw [hQ, blksL_app] at hb_; rcases List.mem_append.1 hb_ with h_ | h_; exact q1_.2.1 b h_; exact (by have := hcp_.ge b h_; omega)); have HRD := Aside0.mk hc.rd; have LM_ := Aside0.mk (Nat.le_trans (below_size hx_) (below_size hb)); have n1_ := Aside0.mk (blk_below (g := gb387) BK387.out hb); have n2_ := Aside0.mk (blk_below (g := gb388) BK388.out hb); have n3_ := Aside0.mk (blk_below (g := gb389) BK389.out hb); have nb_ := Aside0.mk (below_step hx_ hb); have gm_ := Aside0.mk (And.intro (Nat.lt_of_lt_of_le g387_ (below_size hb)) (And.intro (Nat.lt_of_lt_of_le g388_ (below_size hb)) (Nat.lt_of_lt_of_le g389_ (below_size hb)))); obtain ⟨mid, hmid⟩ : ∃ m : Nat, m = w35.heap.size := ⟨_, rfl⟩; rw [← hmid] at PQ LM_ gm_; have KQ := Aside0.mk (Keep.mk (Q := Q) (mid := mid) QQ.out (Nat.le_of_eq hmid)); clear hx_ hb hc hca_ hcp_ q1_ g387_ g388_ g389_ QQ HB HO_390003 BK387 BK388 BK389; have BK387 := n1_; have BK388 := n2_; have BK389 := n3_; have HB := nb_; clear nb_ n1_ n2_ n3_ hmid; have hnb37 := NB389_388.out; have hnc37 := NB388_389.out; obtain ⟨hcz38_0, hcz38_1, hcz38_2, hcz38_3, hcz38_4, hcz38_5, hfz38_0, hfz38_1, hfz38_2, hfz38_3, hfz38_4, hfz38_5⟩ := cells6 BK389.out; obtain ⟨hcz39_0, hcz39_1, hcz39_2, hcz39_3, hcz39_4, hcz39_5, hfz39_0, hfz39_1, hfz39_2, hfz39_3, hfz39_4, hfz39_5⟩ := cells6 BK387.out))
    go_loopg [41] (l0_5.length + 1) (fun kq v41 w' => ∃ (x41_2 : Int) (x390005_2 : List (List It)) (u390005 : Value) (j5 : Nat), v41 = .int .i64 x41_2 ∧ Aside0 (l0_5.length - j5 < kq) ∧ Aside0 (kq ≤ l0_5.length + 1) ∧ Aside0 (Kd.R (Kd.it 8) 53 w' w.heap.size (fun k_ => k_ ≠ gb387 ∧ k_ ≠ gb388 ∧ k_ ≠ gb389) u390005 x390005_2) ∧ Aside0 (w'.heap[gb387]? = some (.cells #[.int .i64 a0_0, .string a0_1, .int .i64 a0_2, (.slice A0_3 l0_3.length c0_3), (.slice A0_4 l0_4.length c0_4), (.slice A0_5 l0_5.length c0_5)] 33 (0, 0))) ∧ Aside0 (w'.heap[gb388]? = some (.cells #[.int .i64 0, .string (⟨#[]⟩ : ByteArray), .int .i64 0, (.slice none 0 0), (.slice none 0 0), (.slice none 0 0)] 33 (0, 0))) ∧ Aside0 (w'.heap[gb389]? = some (.cells #[.int .i64 a0_0, .string a0_1, .int .i64 a0_2, (.slice Ao35 l0_3.length co35), (.slice Ao36 l0_4.length co36), u390005] 33 (0, 0))) ∧ Aside0 (Below w.heap.size w w') ∧ Aside0 (Keep Q mid w') ∧ Aside0 (x41_2 = (j5 : Int) ∧ x390005_2.length = j5 ∧ j5 ≤ l0_5.length ∧ RepAs ((l0_5.take j5).map (gA n)) x390005_2.flatten ∧ (blksL x390005_2.flatten).Nodup ∧ (∀ b ∈ blksL x390005_2.flatten, mid ≤ b) ∧ (∀ b, (u390005 : Value).ownBlock = some b → mid ≤ b)))
    case atStart => exact ⟨(0), (([] : List (List It))), (.slice none 0 0), 0, (by first | rfl | (simp; done) | (simp [*]; done)), ⟨by omega⟩, ⟨Nat.le_refl _⟩, ⟨by first | exact Kd.R_nil _ _ _ _ _ | exact Kd.N_nil _ _ _ _ _ | exact Kd.V_nil _ _ _ _ _ | exact Kd.Q_nil _ _ _ _ _ | exact Kd.S_nil _ _ _ _ _⟩, ⟨by (with_reducible repeat (first | refine blk_drewN ?_ _ | refine blk_drew ?_ | refine blk_alloc ?_ _)); exact (blk_far BK387.out NB387_389.out _)⟩, ⟨by (with_reducible repeat (first | refine blk_drewN ?_ _ | refine blk_drew ?_ | refine blk_alloc ?_ _)); exact (blk_far BK388.out NB388_389.out _)⟩, ⟨by (with_reducible repeat (first | refine blk_drewN ?_ _ | refine blk_drew ?_ | refine blk_alloc ?_ _)); exact (put_6_4 BK389.out)⟩, ⟨by repeat (first | (with_reducible first | exact HB.out | apply below_alloc | apply pw_below_drewN | apply below_drew1 | refine below_set ?_ GE387.out | refine below_set ?_ GE388.out | refine below_set ?_ GE389.out) | exact HB.out)⟩, ⟨by (with_reducible repeat (first | refine Keep.drewN ?_ _ | refine Keep.drew ?_ | refine Keep.alloc ?_ _)); exact KQ.out.set (fun b hb => (NQ.out b hb).2.2) _ _⟩, ⟨rfl, rfl, Nat.zero_le _, by simpa using RepAs.nil, by simp [blksL], by simp [blksL], by simp [Value.ownBlock]⟩⟩
    case round =>
     try clear c1
     try clear c2
     try clear p2
     try clear c3
     try clear p3
     try clear q3
     try clear hx3
     try clear c5
     try clear p6
     try clear c8
     try clear c9
     try clear c12
     try clear c12b0
     try clear c13
     try clear c13b0
     try clear c14
     try clear c14b0
     try clear c16
     try clear c18
     try clear c19
     try clear c20
     try clear c32
     try clear c33
     try clear c37
     try clear c39
     try clear p39
     try clear q39
     try clear hx39
     try clear hcz10_0
     try clear hcz10_1
     try clear hcz10_2
     try clear hcz10_3
     try clear hcz10_4
     try clear hcz10_5
     try clear hcz11_0
     try clear hcz11_1
     try clear hcz11_2
     try clear hcz11_3
     try clear hcz11_4
     try clear hcz11_5
     try clear hcz21_0
     try clear hcz21_1
     try clear hcz21_2
     try clear hcz21_3
     try clear hcz21_4
     try clear hcz21_5
     try clear hcz34_0
     try clear hcz34_1
     try clear hcz34_2
     try clear hcz34_3
     try clear hcz34_4
     try clear hcz34_5
     try clear hcz38_0
     try clear hcz38_1
     try clear hcz38_2
     try clear hcz38_3
     try clear hcz38_4
     try clear hcz38_5
     try clear hcz39_0
     try clear hcz39_1
     try clear hcz39_2
     try clear hcz39_3
     try clear hcz39_4
     try clear hcz39_5
     try clear hcz6_0
     try clear hcz6_1
     try clear hcz6_2
     try clear hcz6_3
     try clear hcz6_4
     try clear hcz6_5
     try clear hfz10_0
     try clear hfz10_1
     try clear hfz10_2
     try clear hfz10_3
     try clear hfz10_4
     try clear hfz10_5
     try clear hfz11_0
     try clear hfz11_1
     try clear hfz11_2
     try clear hfz11_3
     try clear hfz11_4
     try clear hfz11_5
     try clear hfz21_0
     try clear hfz21_1
     try clear hfz21_2
     try clear hfz21_3
     try clear hfz21_4
     try clear hfz21_5
     try clear hfz34_0
     try clear hfz34_1
     try clear hfz34_2
     try clear hfz34_3
     try clear hfz34_4
     try clear hfz34_5
     try clear hfz38_0
     try clear hfz38_1
     try clear hfz38_2
     try clear hfz38_3
     try clear hfz38_4
     try clear hfz38_5
     try clear hfz39_0
     try clear hfz39_1
     try clear hfz39_2
     try clear hfz39_3
     try clear hfz39_4
     try clear hfz39_5
     try clear hfz6_0
     try clear hfz6_1
     try clear hfz6_2
     try clear hfz6_3
     try clear hfz6_4
     try clear hfz6_5
     try clear hx390_0
     try clear hx390_1
     try clear hx390_2
     try clear hx390_3
     try clear hx390_4
     try clear hx390_5
     try clear p2
     try clear p390
     try clear q390
     clear HB BK387 BK388 BK389 KQ
     obtain ⟨x41_2, x390005_2, u390005, j5, rfl, HA, HK2, HO_390005, BK387, BK388, BK389, HB, KQ, HJ5⟩ := hrel
     cases gk with
     | zero => exact absurd HA.out (Nat.not_lt_zero _)
     | succ k2 =>
      by_cases c40 : x41_2 < (l0_5.length : Int)
      ·have c40b0 : decide (x41_2 < (l0_5.length : Int)) = true := decide_eq_true c40
       ·skip
        ·skip
         ·have hj_ : x41_2 = (j5 : Int) := HJ5.out.1
          have c41b0 : decide (0 ≤ x41_2) = true := decide_eq_true (by omega)
          have hm_ : rd_T53 l0_5 x41_2 ∈ l0_5 := rd53_mem l0_5 x41_2 j5 hj_ (by omega)
          obtain ⟨n1, rfl⟩ : ∃ q, n = q + 1 := by
           cases n with
           | zero => exact absurd (HQ.out.2.2.2 _ hm_) (by simp [SqA])
           | succ q => exact ⟨q, rfl⟩
          have hsq := HQ.out.2.2.2 _ hm_
          rw [SqA] at hsq
          have HSQ := Aside0.mk hsq
          obtain ⟨t412, ht412⟩ : ∃ t, t = (rd_T53 l0_5 x41_2).f1 := ⟨_, rfl⟩
          have A43 : Aside0 (slices_Clone.f (rd_T53 l0_5 x41_2).f1 = some t412) := ⟨by rw [ht412]; unfold slices_Clone.f; rw [if_pos (by have := hsq.1; omega)]⟩
          have LMc45 : Aside0 (j5 < 977343669134) := ⟨by have := HQ.out.2.2.1; omega⟩
          clear c40 hj_ hm_ hsq ht412
          have p410 : 0 ≤ (x41_2 : Int) := of_decide_eq_true (by first | (with_reducible assumption) | assumption)
          have q410 : x41_2 < (l0_5.length : Int) := of_decide_eq_true (by first | (with_reducible assumption) | assumption)
          obtain ⟨ad410, A410_1, c410_1, A410_5, c410_5, A410_6, c410_6, A410_7, c410_7, e410, hx410_0, hx410_1, hx410_2, hx410_3, hx410_4, hx410_5, hx410_6, hx410_7, hl410_1, hi410_1, hl410_5, hi410_5, hl410_6, hi410_6, hl410_7, hi410_7⟩ := at_T53 HR0_5.out x41_2 p410 q410
          cases e410
          replace hx410_0 := lc_ HB.out hx410_0
          replace hx410_1 := lc_ HB.out hx410_1
          replace hx410_2 := lc_ HB.out hx410_2
          replace hx410_3 := lc_ HB.out hx410_3
          replace hx410_4 := lc_ HB.out hx410_4
          replace hx410_5 := lc_ HB.out hx410_5
          replace hx410_6 := lc_ HB.out hx410_6
          replace hx410_7 := lc_ HB.out hx410_7
          have HR410_1 := Aside0.mk hi410_1
          have HC410_1 := Aside0.mk hl410_1
          clear hi410_1 hl410_1
          have HR410_5 := Aside0.mk hi410_5
          have HC410_5 := Aside0.mk hl410_5
          clear hi410_5 hl410_5
          have HR410_6 := Aside0.mk hi410_6
          have HC410_6 := Aside0.mk hl410_6
          clear hi410_6 hl410_6
          have HR410_7 := Aside0.mk hi410_7
          have HC410_7 := Aside0.mk hl410_7
          clear hi410_7 hl410_7
          replace p410 := eq_true p410
          replace q410 := eq_true q410
          try go_wp2_with (first | ((with_reducible refine gate_dst (N := 9) rfl ?_); refine box_event ?hg (N := 9) ?hd (cs := #[.string (⟨#[]⟩ : ByteArray), .slice none 0 0, .int .i64 0, .string (⟨#[]⟩ : ByteArray), .int .i64 0, .slice none 0 0, .slice none 0 0, .slice none 0 0]) (t := 53) ?hr ?_; (case hd => rfl); (case hg => rfl); (case hr => first | (go_simp; done) | (go_simp; rfl)); intro gb411 hg w46 hbox hb; have hx_ := bel_of (w := w) hb (by repeat (first | (with_reducible first | exact HB.out | apply below_alloc | apply pw_below_drewN | apply below_drew1 | refine below_set ?_ GE387.out | refine below_set ?_ GE388.out | refine below_set ?_ GE389.out) | exact HB.out)); have n2_ := Aside0.mk (Kd.R_below (Kd.R_elderB (by (with_reducible repeat (first | apply Kd.R_alloc | apply Kd.R_drewN | apply Kd.R_drew)); exact HO_390005.out) gb411 (Nat.le_of_eq hg.symm)) hb); have n3_ := Aside0.mk (blk_below (g := gb387) BK387.out hb); have n4_ := Aside0.mk (blk_below (g := gb388) BK388.out hb); have n5_ := Aside0.mk (blk_below (g := gb389) BK389.out hb); have n6_ := Aside0.mk (below_step hx_ hb); have n7_ := Aside0.mk (hbox); have n8_ := Aside0.mk ((box_ge hx_ hg)); have n9_ := Aside0.mk ((box_ge hx_ hg)); have n10_ := Aside0.mk (box_lt (g' := gb387) BK387.out hg); have n11_ := Aside0.mk (box_gt (g' := gb387) BK387.out hg); have n12_ := Aside0.mk (box_lt (g' := gb388) BK388.out hg); have n13_ := Aside0.mk (box_gt (g' := gb388) BK388.out hg); have n14_ := Aside0.mk (box_lt (g' := gb389) BK389.out hg); have n15_ := Aside0.mk (box_gt (g' := gb389) BK389.out hg); have nq_ := Aside0.mk (Keep.below (by (with_reducible repeat (first | refine Keep.drewN ?_ _ | refine Keep.drew ?_ | refine Keep.alloc ?_ _)); exact KQ.out) hb); have gm2_ := Aside0.mk (Keep.le (by (with_reducible repeat (first | refine Keep.drewN ?_ _ | refine Keep.drew ?_ | refine Keep.alloc ?_ _)); exact KQ.out) hg); clear KQ; have KQ := nq_; have GM411 := gm2_; clear nq_ gm2_; have HQ411 := Aside0.mk (fun b hb_ => Nat.ne_of_lt (Nat.lt_of_lt_of_le (PQ.out.lt b hb_) GM411.out)); clear HO_390005; clear BK387; clear BK388; clear BK389; clear HB; have HO_390005 := n2_; have BK387 := n3_; have BK388 := n4_; have BK389 := n5_; have HB := n6_; have BK411 := n7_; have GW411 := n8_; have GE411 := n9_; have NB387_411 := n10_; have NB411_387 := n11_; have NB388_411 := n12_; have NB411_388 := n13_; have NB389_411 := n14_; have NB411_389 := n15_; clear n2_ n3_ n4_ n5_ n6_ n7_ n8_ n9_ n10_ n11_ n12_ n13_ n14_ n15_; clear hx_ hb hbox hg; have hnb47 := NB411_387.out; have hnc47 := NB387_411.out; have hnb48 := NB411_388.out; have hnc48 := NB388_411.out; have hnb49 := NB411_389.out; have hnc49 := NB389_411.out; obtain ⟨hcz50_0, hcz50_1, hcz50_2, hcz50_3, hcz50_4, hcz50_5, hcz50_6, hcz50_7, hfz50_0, hfz50_1, hfz50_2, hfz50_3, hfz50_4, hfz50_5, hfz50_6, hfz50_7⟩ := cells8 BK411.out))
          have nq_ : Aside0 (Keep Q mid ((((((((w46.setCell ⟨gb411, 0, none⟩ (.string ((rd_T53 l0_5 x41_2).f0))).setCell ⟨gb411, 1, none⟩ (.slice A410_1 ((rd_T53 l0_5 x41_2).f1).length c410_1)).setCell ⟨gb411, 2, none⟩ (.int .i64 ((rd_T53 l0_5 x41_2).f2.f0))).setCell ⟨gb411, 3, none⟩ (.string ((rd_T53 l0_5 x41_2).f2.f1))).setCell ⟨gb411, 4, none⟩ (.int .i64 ((rd_T53 l0_5 x41_2).f2.f2))).setCell ⟨gb411, 5, none⟩ (.slice A410_5 ((rd_T53 l0_5 x41_2).f2.f3).length c410_5)).setCell ⟨gb411, 6, none⟩ (.slice A410_6 ((rd_T53 l0_5 x41_2).f2.f4).length c410_6)).setCell ⟨gb411, 7, none⟩ (.slice A410_7 ((rd_T53 l0_5 x41_2).f2.f5).length c410_7))) := ⟨by (with_reducible repeat (first | refine Keep.drewN ?_ _ | refine Keep.drew ?_ | refine Keep.alloc ?_ _)); exact Keep.set (Keep.set (Keep.set (Keep.set (Keep.set (Keep.set (Keep.set (Keep.set (KQ.out) HQ411.out _ _) HQ411.out _ _) HQ411.out _ _) HQ411.out _ _) HQ411.out _ _) HQ411.out _ _) HQ411.out _ _) HQ411.out _ _⟩
          have n2_ : Aside0 (Kd.R (Kd.it 8) 53 ((((((((w46.setCell ⟨gb411, 0, none⟩ (.string ((rd_T53 l0_5 x41_2).f0))).setCell ⟨gb411, 1, none⟩ (.slice A410_1 ((rd_T53 l0_5 x41_2).f1).length c410_1)).setCell ⟨gb411, 2, none⟩ (.int .i64 ((rd_T53 l0_5 x41_2).f2.f0))).setCell ⟨gb411, 3, none⟩ (.string ((rd_T53 l0_5 x41_2).f2.f1))).setCell ⟨gb411, 4, none⟩ (.int .i64 ((rd_T53 l0_5 x41_2).f2.f2))).setCell ⟨gb411, 5, none⟩ (.slice A410_5 ((rd_T53 l0_5 x41_2).f2.f3).length c410_5)).setCell ⟨gb411, 6, none⟩ (.slice A410_6 ((rd_T53 l0_5 x41_2).f2.f4).length c410_6)).setCell ⟨gb411, 7, none⟩ (.slice A410_7 ((rd_T53 l0_5 x41_2).f2.f5).length c410_7)) w.heap.size (fun k_ => k_ ≠ gb387 ∧ k_ ≠ gb388 ∧ k_ ≠ gb389 ∧ k_ ≠ gb411) u390005 x390005_2) := ⟨by (with_reducible repeat (first | apply Kd.R_alloc | apply Kd.R_drewN | apply Kd.R_drew)); exact Kd.R_mono (Kd.R_st (Kd.R_st (Kd.R_st (Kd.R_st (Kd.R_st (Kd.R_st (Kd.R_st (Kd.R_st (Kd.R_mono HO_390005.out (fun k_ hk => (⟨hk, hk.2⟩ : _ ∧ k_ ≠ gb411))))))))))) (fun _ hk => ⟨hk.1.1.1, ⟨hk.1.1.2.1, ⟨hk.1.1.2.2, hk.1.2⟩⟩⟩)⟩
          have n3_ : Aside0 (((((((((w46.setCell ⟨gb411, 0, none⟩ (.string ((rd_T53 l0_5 x41_2).f0))).setCell ⟨gb411, 1, none⟩ (.slice A410_1 ((rd_T53 l0_5 x41_2).f1).length c410_1)).setCell ⟨gb411, 2, none⟩ (.int .i64 ((rd_T53 l0_5 x41_2).f2.f0))).setCell ⟨gb411, 3, none⟩ (.string ((rd_T53 l0_5 x41_2).f2.f1))).setCell ⟨gb411, 4, none⟩ (.int .i64 ((rd_T53 l0_5 x41_2).f2.f2))).setCell ⟨gb411, 5, none⟩ (.slice A410_5 ((rd_T53 l0_5 x41_2).f2.f3).length c410_5)).setCell ⟨gb411, 6, none⟩ (.slice A410_6 ((rd_T53 l0_5 x41_2).f2.f4).length c410_6)).setCell ⟨gb411, 7, none⟩ (.slice A410_7 ((rd_T53 l0_5 x41_2).f2.f5).length c410_7)).heap[gb387]? = some (.cells #[.int .i64 a0_0, .string a0_1, .int .i64 a0_2, .slice A0_3 l0_3.length c0_3, .slice A0_4 l0_4.length c0_4, .slice (some ad410) l0_5.length c0_5] 33 (0, 0))) := ⟨by (with_reducible repeat (first | refine blk_drewN ?_ _ | refine blk_drew ?_ | refine blk_alloc ?_ _)); exact (blk_far (blk_far (blk_far (blk_far (blk_far (blk_far (blk_far (blk_far BK387.out NB387_411.out _) NB387_411.out _) NB387_411.out _) NB387_411.out _) NB387_411.out _) NB387_411.out _) NB387_411.out _) NB387_411.out _)⟩
          have n4_ : Aside0 (((((((((w46.setCell ⟨gb411, 0, none⟩ (.string ((rd_T53 l0_5 x41_2).f0))).setCell ⟨gb411, 1, none⟩ (.slice A410_1 ((rd_T53 l0_5 x41_2).f1).length c410_1)).setCell ⟨gb411, 2, none⟩ (.int .i64 ((rd_T53 l0_5 x41_2).f2.f0))).setCell ⟨gb411, 3, none⟩ (.string ((rd_T53 l0_5 x41_2).f2.f1))).setCell ⟨gb411, 4, none⟩ (.int .i64 ((rd_T53 l0_5 x41_2).f2.f2))).setCell ⟨gb411, 5, none⟩ (.slice A410_5 ((rd_T53 l0_5 x41_2).f2.f3).length c410_5)).setCell ⟨gb411, 6, none⟩ (.slice A410_6 ((rd_T53 l0_5 x41_2).f2.f4).length c410_6)).setCell ⟨gb411, 7, none⟩ (.slice A410_7 ((rd_T53 l0_5 x41_2).f2.f5).length c410_7)).heap[gb388]? = some (.cells #[.int .i64 0, .string (⟨#[]⟩ : ByteArray), .int .i64 0, .slice none 0 0, .slice none 0 0, .slice none 0 0] 33 (0, 0))) := ⟨by (with_reducible repeat (first | refine blk_drewN ?_ _ | refine blk_drew ?_ | refine blk_alloc ?_ _)); exact (blk_far (blk_far (blk_far (blk_far (blk_far (blk_far (blk_far (blk_far BK388.out NB388_411.out _) NB388_411.out _) NB388_411.out _) NB388_411.out _) NB388_411.out _) NB388_411.out _) NB388_411.out _) NB388_411.out _)⟩
          have n5_ : Aside0 (((((((((w46.setCell ⟨gb411, 0, none⟩ (.string ((rd_T53 l0_5 x41_2).f0))).setCell ⟨gb411, 1, none⟩ (.slice A410_1 ((rd_T53 l0_5 x41_2).f1).length c410_1)).setCell ⟨gb411, 2, none⟩ (.int .i64 ((rd_T53 l0_5 x41_2).f2.f0))).setCell ⟨gb411, 3, none⟩ (.string ((rd_T53 l0_5 x41_2).f2.f1))).setCell ⟨gb411, 4, none⟩ (.int .i64 ((rd_T53 l0_5 x41_2).f2.f2))).setCell ⟨gb411, 5, none⟩ (.slice A410_5 ((rd_T53 l0_5 x41_2).f2.f3).length c410_5)).setCell ⟨gb411, 6, none⟩ (.slice A410_6 ((rd_T53 l0_5 x41_2).f2.f4).length c410_6)).setCell ⟨gb411, 7, none⟩ (.slice A410_7 ((rd_T53 l0_5 x41_2).f2.f5).length c410_7)).heap[gb389]? = some (.cells #[.int .i64 a0_0, .string a0_1, .int .i64 a0_2, (.slice Ao35 l0_3.length co35), .slice Ao36 l0_4.length co36, u390005] 33 (0, 0))) := ⟨by (with_reducible repeat (first | refine blk_drewN ?_ _ | refine blk_drew ?_ | refine blk_alloc ?_ _)); exact (blk_far (blk_far (blk_far (blk_far (blk_far (blk_far (blk_far (blk_far BK389.out NB389_411.out _) NB389_411.out _) NB389_411.out _) NB389_411.out _) NB389_411.out _) NB389_411.out _) NB389_411.out _) NB389_411.out _)⟩
          have n6_ : Aside0 (((((((((w46.setCell ⟨gb411, 0, none⟩ (.string ((rd_T53 l0_5 x41_2).f0))).setCell ⟨gb411, 1, none⟩ (.slice A410_1 ((rd_T53 l0_5 x41_2).f1).length c410_1)).setCell ⟨gb411, 2, none⟩ (.int .i64 ((rd_T53 l0_5 x41_2).f2.f0))).setCell ⟨gb411, 3, none⟩ (.string ((rd_T53 l0_5 x41_2).f2.f1))).setCell ⟨gb411, 4, none⟩ (.int .i64 ((rd_T53 l0_5 x41_2).f2.f2))).setCell ⟨gb411, 5, none⟩ (.slice A410_5 ((rd_T53 l0_5 x41_2).f2.f3).length c410_5)).setCell ⟨gb411, 6, none⟩ (.slice A410_6 ((rd_T53 l0_5 x41_2).f2.f4).length c410_6)).setCell ⟨gb411, 7, none⟩ (.slice A410_7 ((rd_T53 l0_5 x41_2).f2.f5).length c410_7)).heap[gb411]? = some (.cells #[.string ((rd_T53 l0_5 x41_2).f0), .slice A410_1 ((rd_T53 l0_5 x41_2).f1).length c410_1, .int .i64 ((rd_T53 l0_5 x41_2).f2.f0), .string ((rd_T53 l0_5 x41_2).f2.f1), .int .i64 ((rd_T53 l0_5 x41_2).f2.f2), .slice A410_5 ((rd_T53 l0_5 x41_2).f2.f3).length c410_5, .slice A410_6 ((rd_T53 l0_5 x41_2).f2.f4).length c410_6, .slice A410_7 ((rd_T53 l0_5 x41_2).f2.f5).length c410_7] 53 (0, 0))) := ⟨by (with_reducible repeat (first | refine blk_drewN ?_ _ | refine blk_drew ?_ | refine blk_alloc ?_ _)); exact (put_8_7 (put_8_6 (put_8_5 (put_8_4 (put_8_3 (put_8_2 (put_8_1 (put_8_0 BK411.out))))))))⟩
          have n7_ : Aside0 (Below w.heap.size w ((((((((w46.setCell ⟨gb411, 0, none⟩ (.string ((rd_T53 l0_5 x41_2).f0))).setCell ⟨gb411, 1, none⟩ (.slice A410_1 ((rd_T53 l0_5 x41_2).f1).length c410_1)).setCell ⟨gb411, 2, none⟩ (.int .i64 ((rd_T53 l0_5 x41_2).f2.f0))).setCell ⟨gb411, 3, none⟩ (.string ((rd_T53 l0_5 x41_2).f2.f1))).setCell ⟨gb411, 4, none⟩ (.int .i64 ((rd_T53 l0_5 x41_2).f2.f2))).setCell ⟨gb411, 5, none⟩ (.slice A410_5 ((rd_T53 l0_5 x41_2).f2.f3).length c410_5)).setCell ⟨gb411, 6, none⟩ (.slice A410_6 ((rd_T53 l0_5 x41_2).f2.f4).length c410_6)).setCell ⟨gb411, 7, none⟩ (.slice A410_7 ((rd_T53 l0_5 x41_2).f2.f5).length c410_7))) := ⟨by repeat (first | (with_reducible first | exact HB.out | apply below_alloc | apply pw_below_drewN | apply below_drew1 | refine below_set ?_ GE387.out | refine below_set ?_ GE388.out | refine below_set ?_ GE389.out | refine below_set ?_ GE411.out) | exact HB.out)⟩
          (try clear HO_390005)
          (try clear BK387)
          (try clear BK388)
          (try clear BK389)
          (try clear BK411)
          (try clear HB)
          generalize ((((((((w46.setCell ⟨gb411, 0, none⟩ (.string ((rd_T53 l0_5 x41_2).f0))).setCell ⟨gb411, 1, none⟩ (.slice A410_1 ((rd_T53 l0_5 x41_2).f1).length c410_1)).setCell ⟨gb411, 2, none⟩ (.int .i64 ((rd_T53 l0_5 x41_2).f2.f0))).setCell ⟨gb411, 3, none⟩ (.string ((rd_T53 l0_5 x41_2).f2.f1))).setCell ⟨gb411, 4, none⟩ (.int .i64 ((rd_T53 l0_5 x41_2).f2.f2))).setCell ⟨gb411, 5, none⟩ (.slice A410_5 ((rd_T53 l0_5 x41_2).f2.f3).length c410_5)).setCell ⟨gb411, 6, none⟩ (.slice A410_6 ((rd_T53 l0_5 x41_2).f2.f4).length c410_6)).setCell ⟨gb411, 7, none⟩ (.slice A410_7 ((rd_T53 l0_5 x41_2).f2.f5).length c410_7)) = w51 at nq_ n2_ n3_ n4_ n5_ n6_ n7_ ⊢
          clear KQ
          have KQ := Aside0.mk (Keep.drew nq_.out)
          clear nq_
          have HO_390005 := n2_
          have BK387 := n3_
          have BK388 := n4_
          have BK389 := n5_
          have BK411 := n6_
          have HB := n7_
          clear n2_ n3_ n4_ n5_ n6_ n7_
          have n2_ := Aside0.mk (Kd.R_drew HO_390005.out)
          have n3_ := Aside0.mk (blk_drew BK387.out)
          have n4_ := Aside0.mk (blk_drew BK388.out)
          have n5_ := Aside0.mk (blk_drew BK389.out)
          have n6_ := Aside0.mk (blk_drew BK411.out)
          have n7_ := Aside0.mk (below_drew1 HB.out)
          clear HO_390005
          clear BK387
          clear BK388
          clear BK389
          clear BK411
          clear HB
          have HO_390005 := n2_
          have BK387 := n3_
          have BK388 := n4_
          have BK389 := n5_
          have BK411 := n6_
          have HB := n7_
          clear n2_ n3_ n4_ n5_ n6_ n7_
          refine start_ (n := 16) (S := fun w' => w'.cell? ⟨gb389, 0, none⟩ = some (.int .i64 a0_0) ∧ w'.cell? ⟨gb389, 1, none⟩ = some (.string a0_1) ∧ w'.cell? ⟨gb389, 2, none⟩ = some (.int .i64 a0_2) ∧ w'.cell? ⟨gb389, 3, none⟩ = some ((.slice Ao35 l0_3.length co35)) ∧ w'.cell? ⟨gb389, 4, none⟩ = some (.slice Ao36 l0_4.length co36) ∧ w'.cell? ⟨gb389, 5, none⟩ = some (u390005) ∧ w'.cell? ⟨gb411, 0, none⟩ = some (.string ((rd_T53 l0_5 x41_2).f0)) ∧ w'.cell? ⟨gb411, 1, none⟩ = some (.slice A410_1 ((rd_T53 l0_5 x41_2).f1).length c410_1) ∧ w'.cell? ⟨gb411, 2, none⟩ = some (.int .i64 ((rd_T53 l0_5 x41_2).f2.f0)) ∧ w'.cell? ⟨gb411, 3, none⟩ = some (.string ((rd_T53 l0_5 x41_2).f2.f1)) ∧ w'.cell? ⟨gb411, 4, none⟩ = some (.int .i64 ((rd_T53 l0_5 x41_2).f2.f2)) ∧ w'.cell? ⟨gb411, 5, none⟩ = some (.slice A410_5 ((rd_T53 l0_5 x41_2).f2.f3).length c410_5) ∧ w'.cell? ⟨gb411, 6, none⟩ = some (.slice A410_6 ((rd_T53 l0_5 x41_2).f2.f4).length c410_6) ∧ w'.cell? ⟨gb411, 7, none⟩ = some (.slice A410_7 ((rd_T53 l0_5 x41_2).f2.f5).length c410_7)) (ds := [15]) #[false, false, false, false, false, false, false, false, false, false, false, false, false, false, false, false] (by kernel_rfl) rfl rfl ⟨(blk_cell BK389.out 0).trans rfl, (blk_cell BK389.out 1).trans rfl, (blk_cell BK389.out 2).trans rfl, (blk_cell BK389.out 3).trans rfl, (blk_cell BK389.out 4).trans rfl, (blk_cell BK389.out 5).trans rfl, (blk_cell BK411.out 0).trans rfl, (blk_cell BK411.out 1).trans rfl, (blk_cell BK411.out 2).trans rfl, (blk_cell BK411.out 3).trans rfl, (blk_cell BK411.out 4).trans rfl, (blk_cell BK411.out 5).trans rfl, (blk_cell BK411.out 6).trans rfl, (blk_cell BK411.out 7).trans rfl⟩ (fun hHeld => ?_); refine with_tabW M_tab11 M_bits11 (fun HT_ HW_ => ?_)
          generalize w51.drew = w52 at KQ HO_390005 BK387 BK388 BK389 BK411 HB hHeld ⊢
          refine pure_ (i := 0) (N := some 45) (v := ?_) (a' := ?_) #[true, false, false, false, false, false, false, false, false, false, false, false, false, false, false, false] rfl rfl (any_of HT_.out (by kernel_rfl)) (fun _ _ _ h => h) (Or.inl ⟨by rfl, ?_⟩) ?_ ?_
          rotate_left
          ·intro w'
           go_simp
           with_reducible rfl
          rotate_left
          ·simp only [Act.put, List.setIfInBounds_toArray, List.set_cons_zero, List.set_cons_succ, i64_w, i32_w]
           rfl
          refine pure_ (i := 2) (N := some 47) (v := ?_) (a' := ?_) #[true, false, true, false, false, false, false, false, false, false, false, false, false, false, false, false] rfl rfl (any_of HT_.out (by kernel_rfl)) (fun _ _ _ h => h) (Or.inl ⟨by rfl, ?_⟩) ?_ ?_
          rotate_left
          ·intro w'
           go_simp
           with_reducible rfl
          rotate_left
          ·simp only [Act.put, List.setIfInBounds_toArray, List.set_cons_zero, List.set_cons_succ, i64_w, i32_w]
           rfl
          refine pure_ (i := 4) (N := some 49) (v := ?_) (a' := ?_) #[true, false, true, false, true, false, false, false, false, false, false, false, false, false, false, false] rfl rfl (any_of HT_.out (by kernel_rfl)) (fun _ _ _ h => h) (Or.inl ⟨by rfl, ?_⟩) ?_ ?_
          rotate_left
          ·intro w'
           go_simp
           with_reducible rfl
          rotate_left
          ·simp only [Act.put, List.setIfInBounds_toArray, List.set_cons_zero, List.set_cons_succ, i64_w, i32_w]
           rfl
          refine pure_ (i := 7) (N := some 52) (v := ?_) (a' := ?_) #[true, false, true, false, true, false, false, true, false, false, false, false, false, false, false, false] rfl rfl (any_of HT_.out (by kernel_rfl)) (fun _ _ _ h => h) (Or.inl ⟨by rfl, ?_⟩) ?_ ?_
          rotate_left
          ·intro w'
           go_simp
           with_reducible rfl
          rotate_left
          ·simp only [Act.put, List.setIfInBounds_toArray, List.set_cons_zero, List.set_cons_succ, i64_w, i32_w]
           rfl
          refine pure_ (i := 8) (N := some 53) (v := ?_) (a' := ?_) #[true, false, true, false, true, false, false, true, true, false, false, false, false, false, false, false] rfl rfl (any_of HT_.out (by kernel_rfl)) (fun _ _ _ h => h) (Or.inl ⟨by rfl, ?_⟩) ?_ ?_
          rotate_left
          ·intro w'
           go_simp
           with_reducible rfl
          rotate_left
          ·simp only [Act.put, List.setIfInBounds_toArray, List.set_cons_zero, List.set_cons_succ, i64_w, i32_w]
           rfl
          refine take_ (i := 1) (N := some 46) (v := ?_) (a' := ?_) #[true, true, true, false, true, false, false, true, true, false, false, false, false, false, false, false] rfl rfl (take_ofW HT_.out HW_.out (by kernel_rfl)) (fun _ _ _ h => h) (Or.inl ⟨by rfl, ?_⟩) hHeld ?_ ?_
          rotate_left
          ·rintro w' ⟨s0, s1, s2, s3, s4, s5, s6, s7, s8, s9, s10, s11, s12, s13⟩
           go_simp
           with_reducible rfl
          rotate_left
          ·simp only [Act.put, List.setIfInBounds_toArray, List.set_cons_zero, List.set_cons_succ, i64_w, i32_w]
           rfl
          refine take_ (i := 3) (N := some 48) (v := ?_) (a' := ?_) #[true, true, true, true, true, false, false, true, true, false, false, false, false, false, false, false] rfl rfl (take_ofW HT_.out HW_.out (by kernel_rfl)) (fun _ _ _ h => h) (Or.inl ⟨by rfl, ?_⟩) hHeld ?_ ?_
          rotate_left
          ·rintro w' ⟨s0, s1, s2, s3, s4, s5, s6, s7, s8, s9, s10, s11, s12, s13⟩
           go_simp
           with_reducible rfl
          rotate_left
          ·simp only [Act.put, List.setIfInBounds_toArray, List.set_cons_zero, List.set_cons_succ, i64_w, i32_w]
           rfl
          refine take_ (i := 5) (N := some 50) (v := ?_) (a' := ?_) #[true, true, true, true, true, true, false, true, true, false, false, false, false, false, false, false] rfl rfl (take_ofW HT_.out HW_.out (by kernel_rfl)) (fun _ _ _ h => h) (Or.inl ⟨by rfl, ?_⟩) hHeld ?_ ?_
          rotate_left
          ·rintro w' ⟨s0, s1, s2, s3, s4, s5, s6, s7, s8, s9, s10, s11, s12, s13⟩
           go_simp
           with_reducible rfl
          rotate_left
          ·simp only [Act.put, List.setIfInBounds_toArray, List.set_cons_zero, List.set_cons_succ, i64_w, i32_w]
           rfl
          refine take_ (i := 9) (N := some 54) (v := ?_) (a' := ?_) #[true, true, true, true, true, true, false, true, true, true, false, false, false, false, false, false] rfl rfl (take_ofW HT_.out HW_.out (by kernel_rfl)) (fun _ _ _ h => h) (Or.inl ⟨by rfl, ?_⟩) hHeld ?_ ?_
          rotate_left
          ·rintro w' ⟨s0, s1, s2, s3, s4, s5, s6, s7, s8, s9, s10, s11, s12, s13⟩
           go_simp
           with_reducible rfl
          rotate_left
          ·simp only [Act.put, List.setIfInBounds_toArray, List.set_cons_zero, List.set_cons_succ, i64_w, i32_w]
           rfl
          refine one_ (i := 6) (N := some 51) #[true, true, true, true, true, true, true, true, true, true, false, false, false, false, false, false] rfl rfl (one_of HT_.out (by kernel_rfl)) (by decide) (fun K hK => ?_)
          refine goes_ Try.func66 (by kernel_rfl) rfl #[.slice A410_1 ((rd_T53 l0_5 x41_2).f1).length c410_1] (by rfl) rfl rfl (by (try simp only [List.map_toArray, List.map_cons, List.map_nil]); first | done | rfl | (simp only [List.length_drop, List.length_take]; rfl)) ?_
          with_reducible refine (slices_Clone.calls _ _ ((rd_T53 l0_5 x41_2).f1) t412 _ ?side1 ?side2 A43.out).mono ?_
          (case side1 => repeat (first | exact (Kd.C_below HR410_1.out HB.out) | (with_reducible refine Kd.C_alloc ?_ _) | (with_reducible refine Kd.C_drewN ?_ _) | (with_reducible refine Kd.C_drew ?_)))
          (case side2 => exact HC410_1.out)
          rintro e w53 ⟨v413, rfl, ho0, hb⟩
          obtain ⟨Ao58, co58, rfl⟩ := Kd.R_slice ho0
          refine ⟨_, rfl, ?_⟩
          have HG_ := Aside0.mk (And.intro (blk_lt BK387.out) (And.intro (blk_lt BK388.out) (And.intro (blk_lt BK389.out) (blk_lt BK411.out))))
          have HU_ := Aside0.mk (Kd.R_lt HO_390005.out)
          have HX_ := Aside0.mk (fun b hb => (AtL_blk _ (Kd.it_row HO_390005.out (by simp)).1 b hb).1)
          have HL_ := Aside0.mk (below_size HB.out)
          have HM_ := Aside0.mk KQ.out.ge
          have P1_ := Aside0.mk (str_row ho0)
          have S1_ := Aside0.mk (below_size hb)
          have n0_ := Aside0.mk (Kd.R_below HO_390005.out hb)
          have nq_ := Aside0.mk (KQ.out.below hb)
          have n1_ := Aside0.mk (blk_below BK387.out hb)
          have n2_ := Aside0.mk (blk_below BK388.out hb)
          have n3_ := Aside0.mk (blk_below BK389.out hb)
          have n4_ := Aside0.mk (blk_below BK411.out hb)
          have n5_ := Aside0.mk (below_step HB.out hb)
          clear HO_390005 BK387 BK388 BK389 BK411 HB KQ ho0 hb
          have HO_390005 := n0_
          have BK387 := n1_
          have BK388 := n2_
          have BK389 := n3_
          have BK411 := n4_
          have HB := n5_
          have KQ := nq_
          have Q1_ := Aside0.mk P1_.out.1
          clear n0_ n1_ n2_ n3_ n4_ n5_ nq_
          refine hK.out _ _ ⟨(blk_cell BK389.out 0).trans rfl, (blk_cell BK389.out 1).trans rfl, (blk_cell BK389.out 2).trans rfl, (blk_cell BK389.out 3).trans rfl, (blk_cell BK389.out 4).trans rfl, (blk_cell BK389.out 5).trans rfl, (blk_cell BK411.out 0).trans rfl, (blk_cell BK411.out 1).trans rfl, (blk_cell BK411.out 2).trans rfl, (blk_cell BK411.out 3).trans rfl, (blk_cell BK411.out 4).trans rfl, (blk_cell BK411.out 5).trans rfl, (blk_cell BK411.out 6).trans rfl, (blk_cell BK411.out 7).trans rfl⟩ (fun hHeld => ?_)
          clear hK K
          refine norm_ (a' := ?_) ?_ ?_
          rotate_left
          ·show Act.put _ (some 51) _ = _
           simp only [Act.put, List.setIfInBounds_toArray, List.set_cons_zero, List.set_cons_succ, i64_w, i32_w]
           rfl
          refine one_ (i := 10) (N := some 55) #[true, true, true, true, true, true, true, true, true, true, true, false, false, false, false, false] rfl rfl (one_of HT_.out (by kernel_rfl)) (by decide) (fun K hK => ?_)
          refine goesD_ Try.func22 (by kernel_rfl) rfl #[.agg #[.int .i64 ((rd_T53 l0_5 x41_2).f2.f0), .string ((rd_T53 l0_5 x41_2).f2.f1), .int .i64 ((rd_T53 l0_5 x41_2).f2.f2), .slice A410_5 ((rd_T53 l0_5 x41_2).f2.f3).length c410_5, .slice A410_6 ((rd_T53 l0_5 x41_2).f2.f4).length c410_6, .slice A410_7 ((rd_T53 l0_5 x41_2).f2.f5).length c410_7]] (by rfl) rfl rfl rfl (by (try simp only [List.map_toArray, List.map_cons, List.map_nil, List.append_toArray, List.cons_append, List.nil_append]); first | done | rfl) ?_
          with_reducible refine (ih_E n1 (Nat.le_succ n1) ((rd_T53 l0_5 x41_2).f2) _ _ _ _ _ _ _ ⟨⟨Kd.C_below HR410_5.out HB.out, HC410_5.out⟩, ⟨Kd.C_below HR410_6.out HB.out, HC410_6.out⟩, ⟨Kd.C_below HR410_7.out HB.out, HC410_7.out⟩⟩ HSQ.out.2).mono ?_
          rintro e w54 ⟨E3, d3, y3, E4, d4, y4, E5, d5, y5, rfl, hc, hb⟩
          refine ⟨_, rfl, ?_⟩
          have nq_ := Aside0.mk (KQ.out.below hb)
          clear KQ
          have KQ := nq_
          clear nq_
          have P2_ := Aside0.mk hc
          have S2_ := Aside0.mk (below_size hb)
          have n0_ := Aside0.mk (Kd.R_below HO_390005.out hb)
          have n1_ := Aside0.mk (blk_below BK387.out hb)
          have n2_ := Aside0.mk (blk_below BK388.out hb)
          have n3_ := Aside0.mk (blk_below BK389.out hb)
          have n4_ := Aside0.mk (blk_below BK411.out hb)
          have nb_ := Aside0.mk (below_step HB.out hb)
          have kQ1__ := Aside0.mk (AtL_below Q1_.out hb)
          clear HO_390005 BK387 BK388 BK389 BK411 Q1_ HB hc hb
          have HO_390005 := n0_
          have BK387 := n1_
          have BK388 := n2_
          have BK389 := n3_
          have BK411 := n4_
          have HB := nb_
          have Q1_ := kQ1__
          clear nb_ n0_ n1_ n2_ n3_ n4_ kQ1__
          obtain ⟨el, hel⟩ : ∃ el : List It, el = .s ((rd_T53 l0_5 x41_2).f0) :: .r 9 1 (.slice Ao58 t412.length co58) t412.length (t412.map It.s) :: .i ((gE n1 (rd_T53 l0_5 x41_2).f2).f0) :: .s ((gE n1 (rd_T53 l0_5 x41_2).f2).f1) :: .i ((gE n1 (rd_T53 l0_5 x41_2).f2).f2) :: rows3 E3 ((gE n1 (rd_T53 l0_5 x41_2).f2).f3).length d3 y3 E4 ((gE n1 (rd_T53 l0_5 x41_2).f2).f4).length d4 y4 E5 ((gE n1 (rd_T53 l0_5 x41_2).f2).f5).length d5 y5 := ⟨_, rfl⟩
          have PE_ : Aside0 (Part _ _ el) := ⟨by
           have hp := P1_.out.2.join P2_.out.part S1_.out S2_.out
           have hbl : blksL el = blksL ([.r 9 1 (.slice Ao58 t412.length co58) t412.length (t412.map It.s)] ++ rows3 E3 ((gE n1 (rd_T53 l0_5 x41_2).f2).f3).length d3 y3 E4 ((gE n1 (rd_T53 l0_5 x41_2).f2).f4).length d4 y4 E5 ((gE n1 (rd_T53 l0_5 x41_2).f2).f5).length d5 y5) := by subst hel; simp [blksL, It.blks]
           exact ⟨by rw [hbl]; exact hp.nd, by rw [hbl]; exact hp.ge, by rw [hbl]; exact hp.lt⟩⟩
          have QE_ : Aside0 (AtL w54 el) := ⟨by
           subst hel
           have q1 := Q1_.out
           have q2 := P2_.out.at_
           simp only [AtL, and_true] at q1 q2 ⊢
           exact ⟨by simp only [It.At], q1, by simp only [It.At], by simp only [It.At], by simp only [It.At], q2⟩⟩
          have HJ2 : Aside0 (j5 < l0_5.length ∧ RepAs ((l0_5.take (j5 + 1)).map (gA (n1 + 1))) (x390005_2 ++ [el]).flatten ∧ (blksL (x390005_2 ++ [el]).flatten).Nodup ∧ ∀ b ∈ blksL (x390005_2 ++ [el]).flatten, mid ≤ b) := ⟨by
           obtain ⟨hj0, hj1, hj2, hj3, hj4, hj5, hj6⟩ := HJ5.out
           have hjl : j5 < l0_5.length := by have := of_eq_true q410; omega
           refine ⟨hjl, ?_, nodup_more hj4 PE_.out (fun c hc => HX_.out c (by simp only [blksL, It.blks, List.append_nil]; exact List.mem_append_right _ hc)), fun b hb => ?_⟩
           · rw [take_snoc l0_5 j5 hjl, List.map_append, List.map_cons, List.map_nil, List.flatten_append, List.flatten_cons, List.flatten_nil, List.append_nil, ← rdA_at l0_5 x41_2 j5 hj0 hjl, hel, clone_some A43.out, gA]
             exact hj3.snoc (RepA.mk (x := (⟨(rd_T53 l0_5 x41_2).f0, (rd_T53 l0_5 x41_2).f1, gE n1 (rd_T53 l0_5 x41_2).f2⟩ : S53)) (RepE.mk P2_.out.r3 P2_.out.r4 P2_.out.r5))
           · rw [List.flatten_append, blksL_app] at hb
             rcases List.mem_append.1 hb with hb | hb
             · exact hj5 b hb
             · have := PE_.out.ge b (by simpa [List.flatten_cons] using hb)
               have := HM_.out
               omega⟩
          refine hK.out _ _ ⟨(blk_cell BK389.out 0).trans rfl, (blk_cell BK389.out 1).trans rfl, (blk_cell BK389.out 2).trans rfl, (blk_cell BK389.out 3).trans rfl, (blk_cell BK389.out 4).trans rfl, (blk_cell BK389.out 5).trans rfl, (blk_cell BK411.out 0).trans rfl, (blk_cell BK411.out 1).trans rfl, (blk_cell BK411.out 2).trans rfl, (blk_cell BK411.out 3).trans rfl, (blk_cell BK411.out 4).trans rfl, (blk_cell BK411.out 5).trans rfl, (blk_cell BK411.out 6).trans rfl, (blk_cell BK411.out 7).trans rfl⟩ (fun hHeld => ?_)
          clear hK K
          refine norm_ (a' := ?_) ?_ ?_
          rotate_left
          ·show Act.put _ (some 55) _ = _
           simp only [Act.put, List.setIfInBounds_toArray, List.set_cons_zero, List.set_cons_succ, i64_w, i32_w]
           rfl
          refine pure_ (i := 11) (N := some 56) (v := ?_) (a' := ?_) #[true, true, true, true, true, true, true, true, true, true, true, true, false, false, false, false] rfl rfl (any_of HT_.out (by kernel_rfl)) (fun _ _ _ h => h) (Or.inl ⟨by rfl, ?_⟩) ?_ ?_
          rotate_left
          ·intro w'
           go_simp
           with_reducible rfl
          rotate_left
          ·simp only [Act.put, List.setIfInBounds_toArray, List.set_cons_zero, List.set_cons_succ, i64_w, i32_w]
           rfl
          refine one_ (i := 12) (N := some 57) #[true, true, true, true, true, true, true, true, true, true, true, true, true, false, false, false] rfl rfl (one_of HT_.out (by kernel_rfl)) (by decide) (fun K hK => ?_)
          refine value_ (w1 := ?_) (v := ?_) (by rfl) rfl ?_ ?_
          rotate_left 2
          ·go_simp
           constructor
           ·rfl
           ·rfl
          refine hK.out _ _ ⟨(blk_cell (blk_alloc BK389.out _) 0).trans rfl, (blk_cell (blk_alloc BK389.out _) 1).trans rfl, (blk_cell (blk_alloc BK389.out _) 2).trans rfl, (blk_cell (blk_alloc BK389.out _) 3).trans rfl, (blk_cell (blk_alloc BK389.out _) 4).trans rfl, (blk_cell (blk_alloc BK389.out _) 5).trans rfl, (blk_cell (blk_alloc BK411.out _) 0).trans rfl, (blk_cell (blk_alloc BK411.out _) 1).trans rfl, (blk_cell (blk_alloc BK411.out _) 2).trans rfl, (blk_cell (blk_alloc BK411.out _) 3).trans rfl, (blk_cell (blk_alloc BK411.out _) 4).trans rfl, (blk_cell (blk_alloc BK411.out _) 5).trans rfl, (blk_cell (blk_alloc BK411.out _) 6).trans rfl, (blk_cell (blk_alloc BK411.out _) 7).trans rfl⟩ (fun hHeld => ?_)
          clear hK K
          refine norm_ (a' := ?_) ?_ ?_
          rotate_left
          ·show Act.put _ (some 57) _ = _
           simp only [Act.put, List.setIfInBounds_toArray, List.set_cons_zero, List.set_cons_succ, i64_w, i32_w]
           rfl
          refine one_ (i := 13) (N := some 58) #[true, true, true, true, true, true, true, true, true, true, true, true, true, true, false, false] rfl rfl (one_of HT_.out (by kernel_rfl)) (by decide) (fun K hK => ?_)
          refine Kd.R_append_step (Kd.it 8) (w0 := w) w.heap.size (by rfl) (.tmp 46) (.tmp 57) 31 53 (.agg #[(.string ⟨#[]⟩), (.slice none 0 0), (.int .i64 0), (.string ⟨#[]⟩), (.int .i64 0), (.slice none 0 0), (.slice none 0 0), (.slice none 0 0)]) 144 rfl Try.underlying31 info53 rfl (by decide) (by omega) u390005 x390005_2 el [.string ((rd_T53 l0_5 x41_2).f0), .slice Ao58 t412.length co58, .int .i64 ((gE n1 (rd_T53 l0_5 x41_2).f2).f0), .string ((gE n1 (rd_T53 l0_5 x41_2).f2).f1), .int .i64 ((gE n1 (rd_T53 l0_5 x41_2).f2).f2), .slice E3 ((gE n1 (rd_T53 l0_5 x41_2).f2).f3).length d3, .slice E4 ((gE n1 (rd_T53 l0_5 x41_2).f2).f4).length d4, .slice E5 ((gE n1 (rd_T53 l0_5 x41_2).f2).f5).length d5] (fun k_ => k_ ≠ gb387 ∧ k_ ≠ gb388 ∧ k_ ≠ gb389 ∧ k_ ≠ gb411) (fun k_ => ((fun k_ => k_ ≠ gb387 ∧ k_ ≠ gb388 ∧ k_ ≠ gb389 ∧ k_ ≠ gb411)) k_ ∧ some k_ ≠ (u390005 : Value).ownBlock) rfl rfl ?aP (fun _ hk => hk) ?aF ?aO ?aB ?aS ?aL ?_
          (case aP => exact ⟨by rw [hel]; rfl, by rw [hel]; rfl, QE_.out, fun b hb => ⟨⟨by have := PE_.out.ge b hb; have := HG_.out; omega, fun e => by have := PE_.out.ge b hb; have := HU_.out b e.symm; omega⟩, by have := PE_.out.ge b hb; have := HL_.out; omega⟩⟩)
          (case aB => exact HB.out)
          (case aF => exact (fun k_ hk => ⟨Kd.freshB BK387.out k_ hk, Kd.freshB BK388.out k_ hk, Kd.freshB BK389.out k_ hk, Kd.freshB BK411.out k_ hk⟩))
          (case aO => exact HO_390005.out)
          (case aS => exact (below_size HB.out))
          (case aL => have := LMc45.out; have := HJ5.out.2.1; omega)
          intro v428 w59 ho hb hg hat
          obtain ⟨y427, hy427⟩ : ∃ y_ : List (List It), y_ = x390005_2 ++ [el] := ⟨_, rfl⟩
          rw [← hy427] at ho
          have Ny427 := Aside0.mk hy427
          clear hy427
          have n0_ := Aside0.mk (blk_grown (g := gb387) BK387.out hg (Kd.R_away HO_390005.out (fun _ hk => hk.1)))
          have n1_ := Aside0.mk (blk_grown (g := gb388) BK388.out hg (Kd.R_away HO_390005.out (fun _ hk => hk.2.1)))
          have n2_ := Aside0.mk (blk_grown (g := gb389) BK389.out hg (Kd.R_away HO_390005.out (fun _ hk => hk.2.2.1)))
          have n3_ := Aside0.mk (blk_grown (g := gb411) BK411.out hg (Kd.R_away HO_390005.out (fun _ hk => hk.2.2.2)))
          have nq_ := Aside0.mk (KQ.out.grown hg (fun b hb_ e => by have := PQ.out.lt b hb_; have := HJ5.out.2.2.2.2.2.2 b e.symm; omega))
          have nv_ : Aside0 (∀ b, (v428 : Value).ownBlock = some b → mid ≤ b) := ⟨fun b hb_ => by
           rcases hat with h_ | ⟨c, h_, hc_⟩
           · exact HJ5.out.2.2.2.2.2.2 b (h_ ▸ hb_)
           · rw [h_] at hb_
             obtain rfl := Option.some.inj hb_
             exact Nat.le_trans KQ.out.ge hc_⟩
          clear BK387 BK388 BK389 BK411 HB HO_390005 KQ
          have BK387 := n0_
          have BK388 := n1_
          have BK389 := n2_
          have BK411 := n3_
          have KQ := nq_
          have HV429 := nv_
          have HB := Aside0.mk hb
          have HO429 := Aside0.mk ho
          clear n0_ n1_ n2_ n3_ nq_ nv_
          clear ho hb hg hat
          obtain ⟨Ao60, co60, eo60⟩ := Kd.R_slice HO429.out
          (first | subst eo60 | (injection eo60 with f1_ f2_ f3_; have f4_ := f1_.symm; have f5_ := f3_.symm; clear f1_ f2_ f3_; subst f4_; subst f5_))
          refine hK.out _ _ ⟨(blk_cell BK389.out 0).trans rfl, (blk_cell BK389.out 1).trans rfl, (blk_cell BK389.out 2).trans rfl, (blk_cell BK389.out 3).trans rfl, (blk_cell BK389.out 4).trans rfl, (blk_cell BK389.out 5).trans rfl, (blk_cell BK411.out 0).trans rfl, (blk_cell BK411.out 1).trans rfl, (blk_cell BK411.out 2).trans rfl, (blk_cell BK411.out 3).trans rfl, (blk_cell BK411.out 4).trans rfl, (blk_cell BK411.out 5).trans rfl, (blk_cell BK411.out 6).trans rfl, (blk_cell BK411.out 7).trans rfl⟩ (fun hHeld => ?_)
          clear hK K
          refine norm_ (a' := ?_) ?_ ?_
          rotate_left
          ·show Act.put _ (some 58) _ = _
           simp only [Act.put, List.setIfInBounds_toArray, List.set_cons_zero, List.set_cons_succ, i64_w, i32_w]
           rfl
          refine pure_ (i := 14) (N := some 59) (v := ?_) (a' := ?_) #[true, true, true, true, true, true, true, true, true, true, true, true, true, true, true, false] rfl rfl (any_of HT_.out (by kernel_rfl)) (fun _ _ _ h => h) (Or.inl ⟨by rfl, ?_⟩) ?_ ?_
          rotate_left
          ·intro w'
           go_simp
           with_reducible rfl
          rotate_left
          ·simp only [Act.put, List.setIfInBounds_toArray, List.set_cons_zero, List.set_cons_succ, i64_w, i32_w]
           rfl
          refine last_ (i := 15) (N := none) #[true, true, true, true, true, true, true, true, true, true, true, true, true, true, true, true] rfl rfl (one_of HT_.out (by kernel_rfl)) (by decide) (fun K hK => ?_)
          have hs61 : w59.cell? ⟨gb389, 5, none⟩ = some (u390005) := (blk_cell BK389.out 5).trans rfl
          have hfs61 := blk_frozen BK389.out 5
          have hns61_0 := NB387_389.out
          have hns61_1 := NB388_389.out
          have hns61_3 := NB411_389.out
          have hms61_0 := NB389_387.out
          have hms61_1 := NB389_388.out
          have hms61_3 := NB389_411.out
          refine skip_ (w1 := ?_) (by rfl) rfl ?_ ?_
          rotate_left
          ·go_simp
           rfl
          refine hK.out _ _ ?_
          clear hK K
          refine done_ (done_of HT_.out (by kernel_rfl)) ?_
          try go_wp2
          go_roundg k2
          case measure => have := HK1.out; have := HK2.out; omega
          case rel => exact ⟨(wrap64 (x41_2 + 1)), (y427), (.slice Ao60 y427.length co60), j5 + 1, (by first | rfl | (simp; done) | (simp [*]; done)), ⟨by obtain ⟨hj0, _, hj2, _, _, _, _⟩ := HJ5.out; have := HA.out; have := of_eq_true q410; omega⟩, ⟨by have := HK1.out; have := HK2.out; omega⟩, ⟨by (with_reducible repeat (first | apply Kd.R_alloc | apply Kd.R_drewN | apply Kd.R_drew)); exact Kd.R_mono (Kd.R_st (Kd.R_mono HO429.out (fun k_ hk => (⟨hk, hk.2.2.1⟩ : _ ∧ k_ ≠ gb389)))) (fun _ hk => ⟨hk.1.1, ⟨hk.1.2.1, hk.1.2.2.1⟩⟩)⟩, ⟨by (with_reducible repeat (first | refine blk_drewN ?_ _ | refine blk_drew ?_ | refine blk_alloc ?_ _)); exact (blk_far BK387.out NB387_389.out _)⟩, ⟨by (with_reducible repeat (first | refine blk_drewN ?_ _ | refine blk_drew ?_ | refine blk_alloc ?_ _)); exact (blk_far BK388.out NB388_389.out _)⟩, ⟨by (with_reducible repeat (first | refine blk_drewN ?_ _ | refine blk_drew ?_ | refine blk_alloc ?_ _)); exact (put_6_5 BK389.out)⟩, ⟨by repeat (first | (with_reducible first | exact HB.out | apply below_alloc | apply pw_below_drewN | apply below_drew1 | refine below_set ?_ GE387.out | refine below_set ?_ GE388.out | refine below_set ?_ GE389.out | refine below_set ?_ GE411.out) | exact HB.out)⟩, ⟨by (with_reducible repeat (first | refine Keep.drewN ?_ _ | refine Keep.drew ?_ | refine Keep.alloc ?_ _)); exact KQ.out.set (fun b hb => (NQ.out b hb).2.2) _ _⟩, ⟨by obtain ⟨hj0, hj1, hj2, hj3, hj4, hj5, hj6⟩ := HJ5.out; have := LMc45.out; exact ⟨by rw [hj0]; unfold wrap64; omega, by rw [Ny427.out, List.length_append, hj1]; rfl, HJ2.out.1, by rw [Ny427.out]; exact HJ2.out.2.1, by rw [Ny427.out]; exact HJ2.out.2.2.1, by rw [Ny427.out]; exact HJ2.out.2.2.2, HV429.out⟩⟩⟩
      ·skip
       have c40b0 : decide (x41_2 < (l0_5.length : Int)) = false := decide_eq_false c40
       clear c40
       have hj5l : j5 = l0_5.length := by
        obtain ⟨hj0, hj1, hj2, hj3, hj4, hj5, hj6⟩ := HJ5.out
        have := of_decide_eq_false c40b0
        omega
       have hnb62 := NB389_387.out
       have hnc62 := NB387_389.out
       have hnb63 := NB389_388.out
       have hnc63 := NB388_389.out
       obtain ⟨hcz64_0, hcz64_1, hcz64_2, hcz64_3, hcz64_4, hcz64_5, hfz64_0, hfz64_1, hfz64_2, hfz64_3, hfz64_4, hfz64_5⟩ := cells6 BK389.out
       have hnb65 := NB388_387.out
       have hnc65 := NB387_388.out
       obtain ⟨hcz66_0, hcz66_1, hcz66_2, hcz66_3, hcz66_4, hcz66_5, hfz66_0, hfz66_1, hfz66_2, hfz66_3, hfz66_4, hfz66_5⟩ := cells6 BK388.out
       have hfin : Aside0 (∃ Ao co, u390005 = .slice Ao l0_5.length co ∧ AtL wr [.r 53 8 (.slice Ao l0_5.length co) l0_5.length x390005_2.flatten] ∧ Part mid wr.heap.size [.r 53 8 (.slice Ao l0_5.length co) l0_5.length x390005_2.flatten] ∧ (∀ b ∈ blksL [.r 53 8 (.slice Ao l0_5.length co) l0_5.length x390005_2.flatten], b ≠ gb388) ∧ RepAs (l0_5.map (gA n)) x390005_2.flatten) := ⟨by
        obtain ⟨hj0, hj1, hj2, hj3, hj4, hj5, hj6⟩ := HJ5.out
        obtain ⟨Ao68, co68, eo68⟩ := Kd.R_slice HO_390005.out
        have hr := Kd.it_row HO_390005.out (by simp)
        have hsub : ∀ b ∈ blksL [.r 53 8 u390005 x390005_2.length x390005_2.flatten], mid ≤ b := by
         intro b hb
         simp only [blksL, It.blks, List.append_nil] at hb
         rcases List.mem_append.1 hb with hb | hb
         · exact hj6 b (by simpa using hb)
         · exact hj5 b hb
        rw [hj1, hj5l] at eo68 hr hsub
        subst eo68
        rw [hj5l, List.take_length] at hj3
        exact ⟨Ao68, co68, rfl, hr.1, ⟨hr.2.2 hj4, hsub, fun b hb => (AtL_blk _ hr.1 b hb).1⟩, fun b hb => (hr.2.1 b hb).1.2.1, hj3⟩⟩
       obtain ⟨Ao68, co68, rfl, hA5, hP5, hN5, hR5⟩ := hfin.out
       clear hfin
       have HA5 := Aside0.mk hA5
       have HP5 := Aside0.mk hP5
       have HN5 := Aside0.mk hN5
       have HR5 := Aside0.mk hR5
       clear hA5 hP5 hN5 hR5
       go_wp2
       refine bodyPost_ret (results_cell_row rfl _ _ gb388 33 #[.int .i64 a0_0, .string a0_1, .int .i64 a0_2, .slice Ao35 l0_3.length co35, .slice Ao36 l0_4.length co36, .slice Ao68 l0_5.length co68] (0, 0) _ rfl ((put_6_5 (put_6_4 (put_6_3 (put_6_2 (put_6_1 (put_6_0 BK388.out))))))) Try.underlying33 rfl (by kernel_rfl)) rfl ?_
       have hfa := AtL_set (AtL_set (AtL_set (AtL_set (AtL_set (AtL_set (AtL_app .. |>.2 ⟨KQ.out.at_, HA5.out⟩) (fun b hb => by rw [blksL_app] at hb; rcases List.mem_append.1 hb with hb | hb; exact (NQ.out b hb).2.1; exact HN5.out b hb) 0 (.int .i64 a0_0)) (fun b hb => by rw [blksL_app] at hb; rcases List.mem_append.1 hb with hb | hb; exact (NQ.out b hb).2.1; exact HN5.out b hb) 1 (.string a0_1)) (fun b hb => by rw [blksL_app] at hb; rcases List.mem_append.1 hb with hb | hb; exact (NQ.out b hb).2.1; exact HN5.out b hb) 2 (.int .i64 a0_2)) (fun b hb => by rw [blksL_app] at hb; rcases List.mem_append.1 hb with hb | hb; exact (NQ.out b hb).2.1; exact HN5.out b hb) 3 (.slice Ao35 l0_3.length co35)) (fun b hb => by rw [blksL_app] at hb; rcases List.mem_append.1 hb with hb | hb; exact (NQ.out b hb).2.1; exact HN5.out b hb) 4 (.slice Ao36 l0_4.length co36)) (fun b hb => by rw [blksL_app] at hb; rcases List.mem_append.1 hb with hb | hb; exact (NQ.out b hb).2.1; exact HN5.out b hb) 5 (.slice Ao68 l0_5.length co68)
       have hpa := PQ.out.join HP5.out LM_.out KQ.out.ge
       rw [hQ] at hfa hpa
       exact ⟨Ao35, co35, x390003_1.flatten, Ao36, co36, y8, Ao68, co68, x390005_2.flatten, by simp only [List.length_map], ⟨by (try simp only [List.length_map]); first | exact hfa | (simp only [AtL, List.append_assoc, List.cons_append, List.nil_append] at hfa ⊢; exact hfa), by (try simp only [List.length_map]); exact ⟨hpa.nd, hpa.ge, fun b hb => Nat.lt_of_lt_of_le (hpa.lt b hb) (Nat.le_of_eq (by simp [World.setCell]))⟩, HR3.out, HRD.out, HR5.out⟩, by repeat (first | (with_reducible first | exact HB.out | apply below_alloc | apply pw_below_drewN | apply below_drew1 | refine below_set ?_ GE387.out | refine below_set ?_ GE388.out | refine below_set ?_ GE389.out) | exact HB.out)⟩
end Go.Proofs.Ytpndcfibjjkgcaa.MyItc

/- The walk of the given copying of definitions. No condition. -/
import Derived.Test.YtpndcfibjjkgcaaPIfgs6
namespace Go.Proofs.Ytpndcfibjjkgcaa.PIfg
open Go.Proofs.Ytpndcfibjjkgcaa.MyClone
open Go.RowKit Go.Proofs.YtpndcfibjjkgcaaW.PrintWords Go.Proofs.YtpndcfibjjkgcaaW.PrintLast Go.Proofs.YtpndcfibjjkgcaaW.PrintMore
attribute [local go_sem] max2_int min2_int max_two min_two max_three min_three max_four min_four   -- for this text's walks alone
set_option linter.unusedVariables false
set_option linter.unusedSimpArgs false

/-! ### spec_l3CopyDecs: function 56 -/
def spec_l3CopyDecs.T5 : Bool × List (List Nat × List Nat) := (true, [([], []), ([], []), ([], []), ([1, 2], [1, 2]), ([3], [3]), ([4], [4]), ([], []), ([], []), ([], []), ([7, 8], [7, 8]), ([9], [9]), ([10], [10]), ([6, 11], [6, 11]), ([], []), ([], []), ([13, 14], [13, 14]), ([15], [15]), ([16], [16]), ([17, 12], [17]), ([], []), ([], []), ([19, 20], [19, 20]), ([21], [21]), ([22], [22]), ([23, 18], [23]), ([5, 12, 18, 24], [5, 12, 18, 24]), ([25], [25]), ([0, 26, 24], [0, 26]), ([27, 27, 0, 1, 2, 3, 4, 5, 6, 7, 8, 9, 10, 11, 12, 13, 14, 15, 16, 17, 18, 19, 20, 21, 22, 23, 24, 25, 26, 27], [0, 27])])
def spec_l3CopyDecs.B5 : List Nat := [0, 0, 0, 6, 14, 30, 0, 0, 0, 384, 896, 1920, 4032, 0, 0, 24576, 57344, 122880, 262080, 0, 0, 1572864, 3670016, 7864320, 16777152, 33554430, 67108862, 134217727, 268435455]
theorem spec_l3CopyDecs.tab5 : rtab .any (opsOf Try.f56 5) = spec_l3CopyDecs.T5 := by kernel_rfl
theorem spec_l3CopyDecs.bits5 : waitsOk spec_l3CopyDecs.T5.2 spec_l3CopyDecs.B5 = true := by kernel_rfl
set_option maxHeartbeats 8000000 in
set_option maxRecDepth 100000 in
theorem spec_l3CopyDecs.step (k : Nat) (ih_56 : ∀ m_, m_ < k → spec_l3CopyDecs.At m_) (ih_35 : ∀ m_, m_ < k → spec_l3Copy.At m_) : spec_l3CopyDecs.At k := by
 intro A0 c0 l0 r w hr0 hc0 h
 cases k with
 | zero => exact absurd h (by simp [spec_l3CopyDecs.f])
 | succ k =>
 simp only [spec_l3CopyDecs.f] at h
 have hu33 := Try.underlying33
 have hu68 := Try.underlying68
 have HR0 := Aside0.mk hr0
 have HC0 := Aside0.mk hc0
 clear hr0 hc0
 have HB := Aside0.mk (Below.refl w.heap.size w)
 have H : (spec_l3CopyDecs.l0 k l0 (([] : List (S68))) 0) = some r := h
 clear h
 obtain ⟨y262, hy262⟩ : ∃ y_ : List (S68), y_ = (([] : List (S68))) := ⟨_, rfl⟩
 replace H : (spec_l3CopyDecs.l0 k l0 y262 0) = some r := by first | (rw [hy262]; with_reducible exact H) | (have H2_ := (Option.bind_some _ _).symm.trans H; rw [hy262]; with_reducible exact H2_) | (have H2_ := (Option.bind_some _ _).symm.trans H; with_reducible exact H2_) | with_reducible exact H | (rw [hy262]; exact H) | exact H
 have Ny262 := Aside0.mk hy262
 clear hy262
 have H' := Aside0.mk H
 clear H
 go_enter Try.func56, Try.ntmps56
 go_wp2_with (first | ((with_reducible refine gate_dst (N := 5) rfl ?_); refine Kd.R_lit k68 _ 68 ?hg (N := 5) ?hd (xs := ([] : List (S68))) (inner := []) (ok := fun _ => True) (okp := fun _ => True) ?hr ?hp (fun _ hk => hk) trivial (Below.refl _ _) (Nat.le_refl _) (by simp) ?_; (case hd => rfl); (case hg => rfl); (case hr => first | (go_simp; done) | (go_simp; rfl)); (case hp => exact (Reps.none _ _)); intro v263 w2 ho3 hb hg_ hnew_; clear hg_ hnew_; (first | rw [← Ny262.out] at ho3 | (simp only [Int.reduceToNat] at ho3; rw [← Ny262.out] at ho3)); have n0_ := Aside0.mk (Kd.R_lower ho3 (below_size HB.out)); have n1_ := Aside0.mk (below_step HB.out hb); clear HB; have HO264 := n0_; have HB := n1_; clear n0_ n1_; clear hb ho3))
 go_loopg [3, 4] k (fun kq v3 v4 w' => ∃ (x3_1 : List (S68)) (x4_1 : Int), v4 = .int .i64 x4_1 ∧ Aside0 (spec_l3CopyDecs.l0 kq l0 x3_1 x4_1 = some r) ∧ Aside0 (kq ≤ k) ∧ Aside0 (Kd.R k68 68 w' w.heap.size (fun _ => True) v3 x3_1) ∧ Aside0 (Below w.heap.size w w'))
 case atStart => exact ⟨(y262), (0), (by first | rfl | (simp; done) | (simp [*]; done)), H', ⟨Nat.le_refl _⟩, ⟨by (with_reducible repeat (first | apply Kd.R_alloc | apply Kd.R_drewN | apply Kd.R_drew)); exact HO264.out⟩, ⟨by repeat (first | (with_reducible first | exact HB.out | apply below_alloc | apply pw_below_drewN | apply below_drew1) | exact HB.out)⟩⟩
 case round =>
  clear H'
  try clear p2
  obtain ⟨x3_1, x4_1, rfl, HA, HK1, HO_3, HB⟩ := hrel
  cases gk with
  | zero => exact absurd HA.out (by simp [spec_l3CopyDecs.l0])
  | succ k1 =>
   have H := HA.out
   clear HA
   simp only [spec_l3CopyDecs.l0] at H
   by_cases c4 : x4_1 < (l0.length : Int)
   ·rw [if_pos c4] at H
    have c4b0 : decide (x4_1 < (l0.length : Int)) = true := decide_eq_true c4
    clear c4
    by_cases c5 : 0 ≤ x4_1
    ·rw [if_pos c5] at H
     have c5b0 : decide (0 ≤ x4_1) = true := decide_eq_true c5
     clear c5
     obtain ⟨y266, hy266⟩ : ∃ y_ : List ByteArray, y_ = (([] : List ByteArray)) := ⟨_, rfl⟩
     replace H : (if y266.length + ((rd_T68 l0 x4_1).f1).length < 8796093022208 then ((spec_l3Copy.f k1 ((rd_T68 l0 x4_1).f2.f0) ((rd_T68 l0 x4_1).f2.f1) ((rd_T68 l0 x4_1).f2.f2) ((rd_T68 l0 x4_1).f2.f3) ((rd_T68 l0 x4_1).f2.f4) ((rd_T68 l0 x4_1).f2.f5)).bind fun bt274 => ((spec_l3CopyDecs.f k1 ((rd_T68 l0 x4_1).f3)).bind fun t287 => (if x3_1.length < 837723144972 then (spec_l3CopyDecs.l0 k1 l0 (x3_1 ++ [(⟨(rd_T68 l0 x4_1).f0, (y266 ++ ((rd_T68 l0 x4_1).f1)), (⟨bt274.1, bt274.2.1, bt274.2.2.1, bt274.2.2.2.1, bt274.2.2.2.2.1, bt274.2.2.2.2.2⟩ : S33), t287⟩ : S68)]) (wrap64 (x4_1 + 1))) else (none)))) else (none)) = some r := by first | (rw [hy266]; with_reducible exact H) | (have H2_ := (Option.bind_some _ _).symm.trans H; rw [hy266]; with_reducible exact H2_) | (have H2_ := (Option.bind_some _ _).symm.trans H; with_reducible exact H2_) | with_reducible exact H | (rw [hy266]; exact H) | exact H
     have Ny266 := Aside0.mk hy266
     clear hy266
     by_cases c6 : y266.length + ((rd_T68 l0 x4_1).f1).length < 8796093022208
     ·rw [if_pos c6] at H
      have LMc6 := Aside0.mk c6
      clear c6
      obtain ⟨y270, hy270⟩ : ∃ y_ : List ByteArray, y_ = (y266 ++ ((rd_T68 l0 x4_1).f1)) := ⟨_, rfl⟩
      replace H : ((spec_l3Copy.f k1 ((rd_T68 l0 x4_1).f2.f0) ((rd_T68 l0 x4_1).f2.f1) ((rd_T68 l0 x4_1).f2.f2) ((rd_T68 l0 x4_1).f2.f3) ((rd_T68 l0 x4_1).f2.f4) ((rd_T68 l0 x4_1).f2.f5)).bind fun bt274 => ((spec_l3CopyDecs.f k1 ((rd_T68 l0 x4_1).f3)).bind fun t287 => (if x3_1.length < 837723144972 then (spec_l3CopyDecs.l0 k1 l0 (x3_1 ++ [(⟨(rd_T68 l0 x4_1).f0, y270, (⟨bt274.1, bt274.2.1, bt274.2.2.1, bt274.2.2.2.1, bt274.2.2.2.2.1, bt274.2.2.2.2.2⟩ : S33), t287⟩ : S68)]) (wrap64 (x4_1 + 1))) else (none)))) = some r := by first | (rw [hy270]; with_reducible exact H) | (have H2_ := (Option.bind_some _ _).symm.trans H; rw [hy270]; with_reducible exact H2_) | (have H2_ := (Option.bind_some _ _).symm.trans H; with_reducible exact H2_) | with_reducible exact H | (rw [hy270]; exact H) | exact H
      have Ny270 := Aside0.mk hy270
      clear hy270
      replace H := Option.bind_eq_some_iff.mp H
      obtain ⟨⟨t274, t275, t276, t277, t280, t283⟩, A70, H⟩ := H
      replace H : ((spec_l3CopyDecs.f k1 ((rd_T68 l0 x4_1).f3)).bind fun t287 => (if x3_1.length < 837723144972 then (spec_l3CopyDecs.l0 k1 l0 (x3_1 ++ [(⟨(rd_T68 l0 x4_1).f0, y270, (⟨t274, t275, t276, t277, t280, t283⟩ : S33), t287⟩ : S68)]) (wrap64 (x4_1 + 1))) else (none))) = some r := H
      have A7 := Aside0.mk A70
      clear A70
      replace H := Option.bind_eq_some_iff.mp H
      obtain ⟨t287, A80, H⟩ := H
      replace H : (if x3_1.length < 837723144972 then (spec_l3CopyDecs.l0 k1 l0 (x3_1 ++ [(⟨(rd_T68 l0 x4_1).f0, y270, (⟨t274, t275, t276, t277, t280, t283⟩ : S33), t287⟩ : S68)]) (wrap64 (x4_1 + 1))) else (none)) = some r := H
      have A8 := Aside0.mk A80
      clear A80
      by_cases c9 : x3_1.length < 837723144972
      ·rw [if_pos c9] at H
       have LMc9 := Aside0.mk c9
       clear c9
       obtain ⟨y290, hy290⟩ : ∃ y_ : List (S68), y_ = (x3_1 ++ [(⟨(rd_T68 l0 x4_1).f0, y270, (⟨t274, t275, t276, t277, t280, t283⟩ : S33), t287⟩ : S68)]) := ⟨_, rfl⟩
       replace H : (spec_l3CopyDecs.l0 k1 l0 y290 (wrap64 (x4_1 + 1))) = some r := by first | (rw [hy290]; with_reducible exact H) | (have H2_ := (Option.bind_some _ _).symm.trans H; rw [hy290]; with_reducible exact H2_) | (have H2_ := (Option.bind_some _ _).symm.trans H; with_reducible exact H2_) | with_reducible exact H | (rw [hy290]; exact H) | exact H
       have Ny290 := Aside0.mk hy290
       clear hy290
       have H' := Aside0.mk H
       clear H
       try go_wp2
       have n0_ := Aside0.mk (Kd.R_drew HO_3.out)
       have n1_ := Aside0.mk (below_drew1 HB.out)
       clear HO_3
       clear HB
       have HO_3 := n0_
       have HB := n1_
       clear n0_ n1_
       have p265 : 0 ≤ (x4_1 : Int) := of_decide_eq_true (by first | (with_reducible assumption) | assumption)
       have q265 : x4_1 < (l0.length : Int) := of_decide_eq_true (by first | (with_reducible assumption) | assumption)
       obtain ⟨ad265, A265_1, c265_1, A265_5, c265_5, A265_6, c265_6, A265_7, c265_7, A265_8, c265_8, e265, hx265_0, hx265_1, hx265_2, hx265_3, hx265_4, hx265_5, hx265_6, hx265_7, hx265_8, hl265_1, hi265_1, hl265_5, hi265_5, hl265_6, hi265_6, hl265_7, hi265_7, hl265_8, hi265_8⟩ := at_T68 HR0.out x4_1 p265 q265
       have hw265_8 := hx265_8
       have hw265_7 := hx265_7
       have hw265_6 := hx265_6
       have hw265_5 := hx265_5
       have hw265_4 := hx265_4
       have hw265_3 := hx265_3
       have hw265_2 := hx265_2
       have hw265_1 := hx265_1
       have hw265_0 := hx265_0
       cases e265
       replace hx265_0 := lc_ HB.out hx265_0
       replace hx265_1 := lc_ HB.out hx265_1
       replace hx265_2 := lc_ HB.out hx265_2
       replace hx265_3 := lc_ HB.out hx265_3
       replace hx265_4 := lc_ HB.out hx265_4
       replace hx265_5 := lc_ HB.out hx265_5
       replace hx265_6 := lc_ HB.out hx265_6
       replace hx265_7 := lc_ HB.out hx265_7
       replace hx265_8 := lc_ HB.out hx265_8
       have HR265_1 := Aside0.mk hi265_1
       have HC265_1 := Aside0.mk hl265_1
       clear hi265_1 hl265_1
       have HR265_5 := Aside0.mk hi265_5
       have HC265_5 := Aside0.mk hl265_5
       clear hi265_5 hl265_5
       have HR265_6 := Aside0.mk hi265_6
       have HC265_6 := Aside0.mk hl265_6
       clear hi265_6 hl265_6
       have HR265_7 := Aside0.mk hi265_7
       have HC265_7 := Aside0.mk hl265_7
       clear hi265_7 hl265_7
       have HR265_8 := Aside0.mk hi265_8
       have HC265_8 := Aside0.mk hl265_8
       clear hi265_8 hl265_8
       replace p265 := eq_true p265
       replace q265 := eq_true q265
       have p269 : 0 ≤ (x4_1 : Int) := of_decide_eq_true (by first | (with_reducible assumption) | assumption)
       have q269 : x4_1 < (l0.length : Int) := of_decide_eq_true (by first | (with_reducible assumption) | assumption)
       obtain ⟨ad269, A269_1, c269_1, A269_5, c269_5, A269_6, c269_6, A269_7, c269_7, A269_8, c269_8, e269, hx269_0, hx269_1, hx269_2, hx269_3, hx269_4, hx269_5, hx269_6, hx269_7, hx269_8, hl269_1, hi269_1, hl269_5, hi269_5, hl269_6, hi269_6, hl269_7, hi269_7, hl269_8, hi269_8⟩ := at_T68 HR0.out x4_1 p269 q269
       have hw269_8 := hx269_8
       have hw269_7 := hx269_7
       have hw269_6 := hx269_6
       have hw269_5 := hx269_5
       have hw269_4 := hx269_4
       have hw269_3 := hx269_3
       have hw269_2 := hx269_2
       have hw269_1 := hx269_1
       have hw269_0 := hx269_0
       obtain rfl : ad265 = ad269 := (by injection e269)
       replace hx269_0 := lc_ HB.out hx269_0
       replace hx269_1 := lc_ HB.out hx269_1
       replace hx269_2 := lc_ HB.out hx269_2
       replace hx269_3 := lc_ HB.out hx269_3
       replace hx269_4 := lc_ HB.out hx269_4
       replace hx269_5 := lc_ HB.out hx269_5
       replace hx269_6 := lc_ HB.out hx269_6
       replace hx269_7 := lc_ HB.out hx269_7
       replace hx269_8 := lc_ HB.out hx269_8
       have HR269_1 := Aside0.mk hi269_1
       have HC269_1 := Aside0.mk hl269_1
       clear hi269_1 hl269_1
       have HR269_5 := Aside0.mk hi269_5
       have HC269_5 := Aside0.mk hl269_5
       clear hi269_5 hl269_5
       have HR269_6 := Aside0.mk hi269_6
       have HC269_6 := Aside0.mk hl269_6
       clear hi269_6 hl269_6
       have HR269_7 := Aside0.mk hi269_7
       have HC269_7 := Aside0.mk hl269_7
       clear hi269_7 hl269_7
       have HR269_8 := Aside0.mk hi269_8
       have HC269_8 := Aside0.mk hl269_8
       clear hi269_8 hl269_8
       replace p269 := eq_true p269
       replace q269 := eq_true q269
       have ea_ := Option.some.inj (hx265_1.symm.trans hx269_1)
       injection ea_ with ea_ en_ ec_
       subst ea_
       subst ec_
       clear en_
       have ea_ := Option.some.inj (hx265_5.symm.trans hx269_5)
       injection ea_ with ea_ en_ ec_
       subst ea_
       subst ec_
       clear en_
       have ea_ := Option.some.inj (hx265_6.symm.trans hx269_6)
       injection ea_ with ea_ en_ ec_
       subst ea_
       subst ec_
       clear en_
       have ea_ := Option.some.inj (hx265_7.symm.trans hx269_7)
       injection ea_ with ea_ en_ ec_
       subst ea_
       subst ec_
       clear en_
       have ea_ := Option.some.inj (hx265_8.symm.trans hx269_8)
       injection ea_ with ea_ en_ ec_
       subst ea_
       subst ec_
       clear en_
       have p273 : 0 ≤ (x4_1 : Int) := of_decide_eq_true (by first | (with_reducible assumption) | assumption)
       have q273 : x4_1 < (l0.length : Int) := of_decide_eq_true (by first | (with_reducible assumption) | assumption)
       obtain ⟨ad273, A273_1, c273_1, A273_5, c273_5, A273_6, c273_6, A273_7, c273_7, A273_8, c273_8, e273, hx273_0, hx273_1, hx273_2, hx273_3, hx273_4, hx273_5, hx273_6, hx273_7, hx273_8, hl273_1, hi273_1, hl273_5, hi273_5, hl273_6, hi273_6, hl273_7, hi273_7, hl273_8, hi273_8⟩ := at_T68 HR0.out x4_1 p273 q273
       have hw273_8 := hx273_8
       have hw273_7 := hx273_7
       have hw273_6 := hx273_6
       have hw273_5 := hx273_5
       have hw273_4 := hx273_4
       have hw273_3 := hx273_3
       have hw273_2 := hx273_2
       have hw273_1 := hx273_1
       have hw273_0 := hx273_0
       obtain rfl : ad265 = ad273 := (by injection e273)
       replace hx273_0 := lc_ HB.out hx273_0
       replace hx273_1 := lc_ HB.out hx273_1
       replace hx273_2 := lc_ HB.out hx273_2
       replace hx273_3 := lc_ HB.out hx273_3
       replace hx273_4 := lc_ HB.out hx273_4
       replace hx273_5 := lc_ HB.out hx273_5
       replace hx273_6 := lc_ HB.out hx273_6
       replace hx273_7 := lc_ HB.out hx273_7
       replace hx273_8 := lc_ HB.out hx273_8
       have HR273_1 := Aside0.mk hi273_1
       have HC273_1 := Aside0.mk hl273_1
       clear hi273_1 hl273_1
       have HR273_5 := Aside0.mk hi273_5
       have HC273_5 := Aside0.mk hl273_5
       clear hi273_5 hl273_5
       have HR273_6 := Aside0.mk hi273_6
       have HC273_6 := Aside0.mk hl273_6
       clear hi273_6 hl273_6
       have HR273_7 := Aside0.mk hi273_7
       have HC273_7 := Aside0.mk hl273_7
       clear hi273_7 hl273_7
       have HR273_8 := Aside0.mk hi273_8
       have HC273_8 := Aside0.mk hl273_8
       clear hi273_8 hl273_8
       replace p273 := eq_true p273
       replace q273 := eq_true q273
       have ea_ := Option.some.inj (hx265_1.symm.trans hx273_1)
       injection ea_ with ea_ en_ ec_
       subst ea_
       subst ec_
       clear en_
       have ea_ := Option.some.inj (hx265_5.symm.trans hx273_5)
       injection ea_ with ea_ en_ ec_
       subst ea_
       subst ec_
       clear en_
       have ea_ := Option.some.inj (hx265_6.symm.trans hx273_6)
       injection ea_ with ea_ en_ ec_
       subst ea_
       subst ec_
       clear en_
       have ea_ := Option.some.inj (hx265_7.symm.trans hx273_7)
       injection ea_ with ea_ en_ ec_
       subst ea_
       subst ec_
       clear en_
       have ea_ := Option.some.inj (hx265_8.symm.trans hx273_8)
       injection ea_ with ea_ en_ ec_
       subst ea_
       subst ec_
       clear en_
       have p286 : 0 ≤ (x4_1 : Int) := of_decide_eq_true (by first | (with_reducible assumption) | assumption)
       have q286 : x4_1 < (l0.length : Int) := of_decide_eq_true (by first | (with_reducible assumption) | assumption)
       obtain ⟨ad286, A286_1, c286_1, A286_5, c286_5, A286_6, c286_6, A286_7, c286_7, A286_8, c286_8, e286, hx286_0, hx286_1, hx286_2, hx286_3, hx286_4, hx286_5, hx286_6, hx286_7, hx286_8, hl286_1, hi286_1, hl286_5, hi286_5, hl286_6, hi286_6, hl286_7, hi286_7, hl286_8, hi286_8⟩ := at_T68 HR0.out x4_1 p286 q286
       have hw286_8 := hx286_8
       have hw286_7 := hx286_7
       have hw286_6 := hx286_6
       have hw286_5 := hx286_5
       have hw286_4 := hx286_4
       have hw286_3 := hx286_3
       have hw286_2 := hx286_2
       have hw286_1 := hx286_1
       have hw286_0 := hx286_0
       obtain rfl : ad265 = ad286 := (by injection e286)
       replace hx286_0 := lc_ HB.out hx286_0
       replace hx286_1 := lc_ HB.out hx286_1
       replace hx286_2 := lc_ HB.out hx286_2
       replace hx286_3 := lc_ HB.out hx286_3
       replace hx286_4 := lc_ HB.out hx286_4
       replace hx286_5 := lc_ HB.out hx286_5
       replace hx286_6 := lc_ HB.out hx286_6
       replace hx286_7 := lc_ HB.out hx286_7
       replace hx286_8 := lc_ HB.out hx286_8
       have HR286_1 := Aside0.mk hi286_1
       have HC286_1 := Aside0.mk hl286_1
       clear hi286_1 hl286_1
       have HR286_5 := Aside0.mk hi286_5
       have HC286_5 := Aside0.mk hl286_5
       clear hi286_5 hl286_5
       have HR286_6 := Aside0.mk hi286_6
       have HC286_6 := Aside0.mk hl286_6
       clear hi286_6 hl286_6
       have HR286_7 := Aside0.mk hi286_7
       have HC286_7 := Aside0.mk hl286_7
       clear hi286_7 hl286_7
       have HR286_8 := Aside0.mk hi286_8
       have HC286_8 := Aside0.mk hl286_8
       clear hi286_8 hl286_8
       replace p286 := eq_true p286
       replace q286 := eq_true q286
       have ea_ := Option.some.inj (hx265_1.symm.trans hx286_1)
       injection ea_ with ea_ en_ ec_
       subst ea_
       subst ec_
       clear en_
       have ea_ := Option.some.inj (hx265_5.symm.trans hx286_5)
       injection ea_ with ea_ en_ ec_
       subst ea_
       subst ec_
       clear en_
       have ea_ := Option.some.inj (hx265_6.symm.trans hx286_6)
       injection ea_ with ea_ en_ ec_
       subst ea_
       subst ec_
       clear en_
       have ea_ := Option.some.inj (hx265_7.symm.trans hx286_7)
       injection ea_ with ea_ en_ ec_
       subst ea_
       subst ec_
       clear en_
       have ea_ := Option.some.inj (hx265_8.symm.trans hx286_8)
       injection ea_ with ea_ en_ ec_
       subst ea_
       subst ec_
       clear en_
       refine start_ (n := 29) (S := fun w' => w'.cell? (ad265.add ((x4_1).toNat * 9)) = some (.string ((rd_T68 l0 x4_1).f0)) ∧ w'.cell? ⟨(ad265.add ((x4_1).toNat * 9)).block, (ad265.add ((x4_1).toNat * 9)).off + 1, none⟩ = some (.slice A265_1 ((rd_T68 l0 x4_1).f1).length c265_1) ∧ w'.cell? ⟨(ad265.add ((x4_1).toNat * 9)).block, (ad265.add ((x4_1).toNat * 9)).off + 2, none⟩ = some (.int .i64 ((rd_T68 l0 x4_1).f2.f0)) ∧ w'.cell? ⟨(ad265.add ((x4_1).toNat * 9)).block, (ad265.add ((x4_1).toNat * 9)).off + 3, none⟩ = some (.string ((rd_T68 l0 x4_1).f2.f1)) ∧ w'.cell? ⟨(ad265.add ((x4_1).toNat * 9)).block, (ad265.add ((x4_1).toNat * 9)).off + 4, none⟩ = some (.int .i64 ((rd_T68 l0 x4_1).f2.f2)) ∧ w'.cell? ⟨(ad265.add ((x4_1).toNat * 9)).block, (ad265.add ((x4_1).toNat * 9)).off + 5, none⟩ = some (.slice A265_5 ((rd_T68 l0 x4_1).f2.f3).length c265_5) ∧ w'.cell? ⟨(ad265.add ((x4_1).toNat * 9)).block, (ad265.add ((x4_1).toNat * 9)).off + 6, none⟩ = some (.slice A265_6 ((rd_T68 l0 x4_1).f2.f4).length c265_6) ∧ w'.cell? ⟨(ad265.add ((x4_1).toNat * 9)).block, (ad265.add ((x4_1).toNat * 9)).off + 7, none⟩ = some (.slice A265_7 ((rd_T68 l0 x4_1).f2.f5).length c265_7) ∧ w'.cell? ⟨(ad265.add ((x4_1).toNat * 9)).block, (ad265.add ((x4_1).toNat * 9)).off + 8, none⟩ = some (.slice A265_8 ((rd_T68 l0 x4_1).f3).length c265_8) ∧ w'.cell? (ad265.add ((x4_1).toNat * 9)) = some (.string ((rd_T68 l0 x4_1).f0)) ∧ w'.cell? ⟨(ad265.add ((x4_1).toNat * 9)).block, (ad265.add ((x4_1).toNat * 9)).off + 1, none⟩ = some (.slice A265_1 ((rd_T68 l0 x4_1).f1).length c265_1) ∧ w'.cell? ⟨(ad265.add ((x4_1).toNat * 9)).block, (ad265.add ((x4_1).toNat * 9)).off + 2, none⟩ = some (.int .i64 ((rd_T68 l0 x4_1).f2.f0)) ∧ w'.cell? ⟨(ad265.add ((x4_1).toNat * 9)).block, (ad265.add ((x4_1).toNat * 9)).off + 3, none⟩ = some (.string ((rd_T68 l0 x4_1).f2.f1)) ∧ w'.cell? ⟨(ad265.add ((x4_1).toNat * 9)).block, (ad265.add ((x4_1).toNat * 9)).off + 4, none⟩ = some (.int .i64 ((rd_T68 l0 x4_1).f2.f2)) ∧ w'.cell? ⟨(ad265.add ((x4_1).toNat * 9)).block, (ad265.add ((x4_1).toNat * 9)).off + 5, none⟩ = some (.slice A265_5 ((rd_T68 l0 x4_1).f2.f3).length c265_5) ∧ w'.cell? ⟨(ad265.add ((x4_1).toNat * 9)).block, (ad265.add ((x4_1).toNat * 9)).off + 6, none⟩ = some (.slice A265_6 ((rd_T68 l0 x4_1).f2.f4).length c265_6) ∧ w'.cell? ⟨(ad265.add ((x4_1).toNat * 9)).block, (ad265.add ((x4_1).toNat * 9)).off + 7, none⟩ = some (.slice A265_7 ((rd_T68 l0 x4_1).f2.f5).length c265_7) ∧ w'.cell? ⟨(ad265.add ((x4_1).toNat * 9)).block, (ad265.add ((x4_1).toNat * 9)).off + 8, none⟩ = some (.slice A265_8 ((rd_T68 l0 x4_1).f3).length c265_8) ∧ w'.cell? (ad265.add ((x4_1).toNat * 9)) = some (.string ((rd_T68 l0 x4_1).f0)) ∧ w'.cell? ⟨(ad265.add ((x4_1).toNat * 9)).block, (ad265.add ((x4_1).toNat * 9)).off + 1, none⟩ = some (.slice A265_1 ((rd_T68 l0 x4_1).f1).length c265_1) ∧ w'.cell? ⟨(ad265.add ((x4_1).toNat * 9)).block, (ad265.add ((x4_1).toNat * 9)).off + 2, none⟩ = some (.int .i64 ((rd_T68 l0 x4_1).f2.f0)) ∧ w'.cell? ⟨(ad265.add ((x4_1).toNat * 9)).block, (ad265.add ((x4_1).toNat * 9)).off + 3, none⟩ = some (.string ((rd_T68 l0 x4_1).f2.f1)) ∧ w'.cell? ⟨(ad265.add ((x4_1).toNat * 9)).block, (ad265.add ((x4_1).toNat * 9)).off + 4, none⟩ = some (.int .i64 ((rd_T68 l0 x4_1).f2.f2)) ∧ w'.cell? ⟨(ad265.add ((x4_1).toNat * 9)).block, (ad265.add ((x4_1).toNat * 9)).off + 5, none⟩ = some (.slice A265_5 ((rd_T68 l0 x4_1).f2.f3).length c265_5) ∧ w'.cell? ⟨(ad265.add ((x4_1).toNat * 9)).block, (ad265.add ((x4_1).toNat * 9)).off + 6, none⟩ = some (.slice A265_6 ((rd_T68 l0 x4_1).f2.f4).length c265_6) ∧ w'.cell? ⟨(ad265.add ((x4_1).toNat * 9)).block, (ad265.add ((x4_1).toNat * 9)).off + 7, none⟩ = some (.slice A265_7 ((rd_T68 l0 x4_1).f2.f5).length c265_7) ∧ w'.cell? ⟨(ad265.add ((x4_1).toNat * 9)).block, (ad265.add ((x4_1).toNat * 9)).off + 8, none⟩ = some (.slice A265_8 ((rd_T68 l0 x4_1).f3).length c265_8) ∧ w'.cell? (ad265.add ((x4_1).toNat * 9)) = some (.string ((rd_T68 l0 x4_1).f0)) ∧ w'.cell? ⟨(ad265.add ((x4_1).toNat * 9)).block, (ad265.add ((x4_1).toNat * 9)).off + 1, none⟩ = some (.slice A265_1 ((rd_T68 l0 x4_1).f1).length c265_1) ∧ w'.cell? ⟨(ad265.add ((x4_1).toNat * 9)).block, (ad265.add ((x4_1).toNat * 9)).off + 2, none⟩ = some (.int .i64 ((rd_T68 l0 x4_1).f2.f0)) ∧ w'.cell? ⟨(ad265.add ((x4_1).toNat * 9)).block, (ad265.add ((x4_1).toNat * 9)).off + 3, none⟩ = some (.string ((rd_T68 l0 x4_1).f2.f1)) ∧ w'.cell? ⟨(ad265.add ((x4_1).toNat * 9)).block, (ad265.add ((x4_1).toNat * 9)).off + 4, none⟩ = some (.int .i64 ((rd_T68 l0 x4_1).f2.f2)) ∧ w'.cell? ⟨(ad265.add ((x4_1).toNat * 9)).block, (ad265.add ((x4_1).toNat * 9)).off + 5, none⟩ = some (.slice A265_5 ((rd_T68 l0 x4_1).f2.f3).length c265_5) ∧ w'.cell? ⟨(ad265.add ((x4_1).toNat * 9)).block, (ad265.add ((x4_1).toNat * 9)).off + 6, none⟩ = some (.slice A265_6 ((rd_T68 l0 x4_1).f2.f4).length c265_6) ∧ w'.cell? ⟨(ad265.add ((x4_1).toNat * 9)).block, (ad265.add ((x4_1).toNat * 9)).off + 7, none⟩ = some (.slice A265_7 ((rd_T68 l0 x4_1).f2.f5).length c265_7) ∧ w'.cell? ⟨(ad265.add ((x4_1).toNat * 9)).block, (ad265.add ((x4_1).toNat * 9)).off + 8, none⟩ = some (.slice A265_8 ((rd_T68 l0 x4_1).f3).length c265_8)) (ds := []) #[false, false, false, false, false, false, false, false, false, false, false, false, false, false, false, false, false, false, false, false, false, false, false, false, false, false, false, false, false] (by kernel_rfl) rfl rfl ⟨(lc_ HB.out hw265_0), (lc_ HB.out hw265_1), (lc_ HB.out hw265_2), (lc_ HB.out hw265_3), (lc_ HB.out hw265_4), (lc_ HB.out hw265_5), (lc_ HB.out hw265_6), (lc_ HB.out hw265_7), (lc_ HB.out hw265_8), (lc_ HB.out hw269_0), (lc_ HB.out hw269_1), (lc_ HB.out hw269_2), (lc_ HB.out hw269_3), (lc_ HB.out hw269_4), (lc_ HB.out hw269_5), (lc_ HB.out hw269_6), (lc_ HB.out hw269_7), (lc_ HB.out hw269_8), (lc_ HB.out hw273_0), (lc_ HB.out hw273_1), (lc_ HB.out hw273_2), (lc_ HB.out hw273_3), (lc_ HB.out hw273_4), (lc_ HB.out hw273_5), (lc_ HB.out hw273_6), (lc_ HB.out hw273_7), (lc_ HB.out hw273_8), (lc_ HB.out hw286_0), (lc_ HB.out hw286_1), (lc_ HB.out hw286_2), (lc_ HB.out hw286_3), (lc_ HB.out hw286_4), (lc_ HB.out hw286_5), (lc_ HB.out hw286_6), (lc_ HB.out hw286_7), (lc_ HB.out hw286_8)⟩ (fun hHeld => ?_); refine with_tabW spec_l3CopyDecs.tab5 spec_l3CopyDecs.bits5 (fun HT_ HW_ => ?_)
       generalize wr.drew = w10 at HO_3 HB HR265_1 HR265_5 HR265_6 HR265_7 HR265_8 HR269_1 HR269_5 HR269_6 HR269_7 HR269_8 HR273_1 HR273_5 HR273_6 HR273_7 HR273_8 HR286_1 HR286_5 HR286_6 HR286_7 HR286_8 hx265_0 hx265_1 hx265_2 hx265_3 hx265_4 hx265_5 hx265_6 hx265_7 hx265_8 hx269_0 hx269_1 hx269_2 hx269_3 hx269_4 hx269_5 hx269_6 hx269_7 hx269_8 hx273_0 hx273_1 hx273_2 hx273_3 hx273_4 hx273_5 hx273_6 hx273_7 hx273_8 hx286_0 hx286_1 hx286_2 hx286_3 hx286_4 hx286_5 hx286_6 hx286_7 hx286_8 hHeld ⊢
       refine pure_ (i := 0) (N := some 12) (v := ?_) (a' := ?_) #[true, false, false, false, false, false, false, false, false, false, false, false, false, false, false, false, false, false, false, false, false, false, false, false, false, false, false, false, false] rfl rfl (any_of HT_.out (by kernel_rfl)) (fun _ _ _ h => h) (Or.inl ⟨by rfl, ?_⟩) ?_ ?_
       rotate_left
       ·intro w'
        go_simp
        with_reducible rfl
       rotate_left
       ·simp only [Act.put, List.setIfInBounds_toArray, List.set_cons_zero, List.set_cons_succ, i64_w, i32_w]
        rfl
       refine pure_ (i := 1) (N := some 13) (v := ?_) (a' := ?_) #[true, true, false, false, false, false, false, false, false, false, false, false, false, false, false, false, false, false, false, false, false, false, false, false, false, false, false, false, false] rfl rfl (any_of HT_.out (by kernel_rfl)) (fun _ _ _ h => h) (Or.inl ⟨by rfl, ?_⟩) ?_ ?_
       rotate_left
       ·intro w'
        go_simp
        with_reducible rfl
       rotate_left
       ·simp only [Act.put, List.setIfInBounds_toArray, List.set_cons_zero, List.set_cons_succ, i64_w, i32_w]
        rfl
       refine pure_ (i := 2) (N := some 14) (v := ?_) (a' := ?_) #[true, true, true, false, false, false, false, false, false, false, false, false, false, false, false, false, false, false, false, false, false, false, false, false, false, false, false, false, false] rfl rfl (any_of HT_.out (by kernel_rfl)) (fun _ _ _ h => h) (Or.inl ⟨by rfl, ?_⟩) ?_ ?_
       rotate_left
       ·intro w'
        go_simp
        with_reducible rfl
       rotate_left
       ·simp only [Act.put, List.setIfInBounds_toArray, List.set_cons_zero, List.set_cons_succ, i64_w, i32_w]
        rfl
       refine pure_ (i := 3) (N := some 15) (v := ?_) (a' := ?_) #[true, true, true, true, false, false, false, false, false, false, false, false, false, false, false, false, false, false, false, false, false, false, false, false, false, false, false, false, false] rfl rfl (any_of HT_.out (by kernel_rfl)) (fun _ _ _ h => h) (Or.inl ⟨by rfl, ?_⟩) ?_ ?_
       rotate_left
       ·intro w'
        go_simp
        with_reducible rfl
       rotate_left
       ·simp only [Act.put, List.setIfInBounds_toArray, List.set_cons_zero, List.set_cons_succ, i64_w, i32_w]
        rfl
       refine pure_ (i := 4) (N := some 16) (v := ?_) (a' := ?_) #[true, true, true, true, true, false, false, false, false, false, false, false, false, false, false, false, false, false, false, false, false, false, false, false, false, false, false, false, false] rfl rfl (any_of HT_.out (by kernel_rfl)) (fun _ _ _ h => h) (Or.inl ⟨by rfl, ?_⟩) ?_ ?_
       rotate_left
       ·intro w'
        go_simp
        with_reducible rfl
       rotate_left
       ·simp only [Act.put, List.setIfInBounds_toArray, List.set_cons_zero, List.set_cons_succ, i64_w, i32_w]
        rfl
       refine pure_ (i := 7) (N := some 19) (v := ?_) (a' := ?_) #[true, true, true, true, true, false, false, true, false, false, false, false, false, false, false, false, false, false, false, false, false, false, false, false, false, false, false, false, false] rfl rfl (any_of HT_.out (by kernel_rfl)) (fun _ _ _ h => h) (Or.inl ⟨by rfl, ?_⟩) ?_ ?_
       rotate_left
       ·intro w'
        go_simp
        with_reducible rfl
       rotate_left
       ·simp only [Act.put, List.setIfInBounds_toArray, List.set_cons_zero, List.set_cons_succ, i64_w, i32_w]
        rfl
       refine pure_ (i := 8) (N := some 20) (v := ?_) (a' := ?_) #[true, true, true, true, true, false, false, true, true, false, false, false, false, false, false, false, false, false, false, false, false, false, false, false, false, false, false, false, false] rfl rfl (any_of HT_.out (by kernel_rfl)) (fun _ _ _ h => h) (Or.inl ⟨by rfl, ?_⟩) ?_ ?_
       rotate_left
       ·intro w'
        go_simp
        with_reducible rfl
       rotate_left
       ·simp only [Act.put, List.setIfInBounds_toArray, List.set_cons_zero, List.set_cons_succ, i64_w, i32_w]
        rfl
       refine pure_ (i := 9) (N := some 21) (v := ?_) (a' := ?_) #[true, true, true, true, true, false, false, true, true, true, false, false, false, false, false, false, false, false, false, false, false, false, false, false, false, false, false, false, false] rfl rfl (any_of HT_.out (by kernel_rfl)) (fun _ _ _ h => h) (Or.inl ⟨by rfl, ?_⟩) ?_ ?_
       rotate_left
       ·intro w'
        go_simp
        with_reducible rfl
       rotate_left
       ·simp only [Act.put, List.setIfInBounds_toArray, List.set_cons_zero, List.set_cons_succ, i64_w, i32_w]
        rfl
       refine pure_ (i := 10) (N := some 22) (v := ?_) (a' := ?_) #[true, true, true, true, true, false, false, true, true, true, true, false, false, false, false, false, false, false, false, false, false, false, false, false, false, false, false, false, false] rfl rfl (any_of HT_.out (by kernel_rfl)) (fun _ _ _ h => h) (Or.inl ⟨by rfl, ?_⟩) ?_ ?_
       rotate_left
       ·intro w'
        go_simp
        with_reducible rfl
       rotate_left
       ·simp only [Act.put, List.setIfInBounds_toArray, List.set_cons_zero, List.set_cons_succ, i64_w, i32_w]
        rfl
       refine pure_ (i := 13) (N := some 25) (v := ?_) (a' := ?_) #[true, true, true, true, true, false, false, true, true, true, true, false, false, true, false, false, false, false, false, false, false, false, false, false, false, false, false, false, false] rfl rfl (any_of HT_.out (by kernel_rfl)) (fun _ _ _ h => h) (Or.inl ⟨by rfl, ?_⟩) ?_ ?_
       rotate_left
       ·intro w'
        go_simp
        with_reducible rfl
       rotate_left
       ·simp only [Act.put, List.setIfInBounds_toArray, List.set_cons_zero, List.set_cons_succ, i64_w, i32_w]
        rfl
       refine pure_ (i := 14) (N := some 26) (v := ?_) (a' := ?_) #[true, true, true, true, true, false, false, true, true, true, true, false, false, true, true, false, false, false, false, false, false, false, false, false, false, false, false, false, false] rfl rfl (any_of HT_.out (by kernel_rfl)) (fun _ _ _ h => h) (Or.inl ⟨by rfl, ?_⟩) ?_ ?_
       rotate_left
       ·intro w'
        go_simp
        with_reducible rfl
       rotate_left
       ·simp only [Act.put, List.setIfInBounds_toArray, List.set_cons_zero, List.set_cons_succ, i64_w, i32_w]
        rfl
       refine pure_ (i := 15) (N := some 27) (v := ?_) (a' := ?_) #[true, true, true, true, true, false, false, true, true, true, true, false, false, true, true, true, false, false, false, false, false, false, false, false, false, false, false, false, false] rfl rfl (any_of HT_.out (by kernel_rfl)) (fun _ _ _ h => h) (Or.inl ⟨by rfl, ?_⟩) ?_ ?_
       rotate_left
       ·intro w'
        go_simp
        with_reducible rfl
       rotate_left
       ·simp only [Act.put, List.setIfInBounds_toArray, List.set_cons_zero, List.set_cons_succ, i64_w, i32_w]
        rfl
       refine pure_ (i := 16) (N := some 28) (v := ?_) (a' := ?_) #[true, true, true, true, true, false, false, true, true, true, true, false, false, true, true, true, true, false, false, false, false, false, false, false, false, false, false, false, false] rfl rfl (any_of HT_.out (by kernel_rfl)) (fun _ _ _ h => h) (Or.inl ⟨by rfl, ?_⟩) ?_ ?_
       rotate_left
       ·intro w'
        go_simp
        with_reducible rfl
       rotate_left
       ·simp only [Act.put, List.setIfInBounds_toArray, List.set_cons_zero, List.set_cons_succ, i64_w, i32_w]
        rfl
       refine pure_ (i := 19) (N := some 31) (v := ?_) (a' := ?_) #[true, true, true, true, true, false, false, true, true, true, true, false, false, true, true, true, true, false, false, true, false, false, false, false, false, false, false, false, false] rfl rfl (any_of HT_.out (by kernel_rfl)) (fun _ _ _ h => h) (Or.inl ⟨by rfl, ?_⟩) ?_ ?_
       rotate_left
       ·intro w'
        go_simp
        with_reducible rfl
       rotate_left
       ·simp only [Act.put, List.setIfInBounds_toArray, List.set_cons_zero, List.set_cons_succ, i64_w, i32_w]
        rfl
       refine pure_ (i := 20) (N := some 32) (v := ?_) (a' := ?_) #[true, true, true, true, true, false, false, true, true, true, true, false, false, true, true, true, true, false, false, true, true, false, false, false, false, false, false, false, false] rfl rfl (any_of HT_.out (by kernel_rfl)) (fun _ _ _ h => h) (Or.inl ⟨by rfl, ?_⟩) ?_ ?_
       rotate_left
       ·intro w'
        go_simp
        with_reducible rfl
       rotate_left
       ·simp only [Act.put, List.setIfInBounds_toArray, List.set_cons_zero, List.set_cons_succ, i64_w, i32_w]
        rfl
       refine pure_ (i := 21) (N := some 33) (v := ?_) (a' := ?_) #[true, true, true, true, true, false, false, true, true, true, true, false, false, true, true, true, true, false, false, true, true, true, false, false, false, false, false, false, false] rfl rfl (any_of HT_.out (by kernel_rfl)) (fun _ _ _ h => h) (Or.inl ⟨by rfl, ?_⟩) ?_ ?_
       rotate_left
       ·intro w'
        go_simp
        with_reducible rfl
       rotate_left
       ·simp only [Act.put, List.setIfInBounds_toArray, List.set_cons_zero, List.set_cons_succ, i64_w, i32_w]
        rfl
       refine pure_ (i := 22) (N := some 34) (v := ?_) (a' := ?_) #[true, true, true, true, true, false, false, true, true, true, true, false, false, true, true, true, true, false, false, true, true, true, true, false, false, false, false, false, false] rfl rfl (any_of HT_.out (by kernel_rfl)) (fun _ _ _ h => h) (Or.inl ⟨by rfl, ?_⟩) ?_ ?_
       rotate_left
       ·intro w'
        go_simp
        with_reducible rfl
       rotate_left
       ·simp only [Act.put, List.setIfInBounds_toArray, List.set_cons_zero, List.set_cons_succ, i64_w, i32_w]
        rfl
       refine take_ (i := 5) (N := some 17) (v := ?_) (a' := ?_) #[true, true, true, true, true, true, false, true, true, true, true, false, false, true, true, true, true, false, false, true, true, true, true, false, false, false, false, false, false] rfl rfl (take_ofW HT_.out HW_.out (by kernel_rfl)) (fun _ _ _ h => h) (Or.inl ⟨by rfl, ?_⟩) hHeld ?_ ?_
       rotate_left
       ·rintro w' ⟨s0, s1, s2, s3, s4, s5, s6, s7, s8, s9, s10, s11, s12, s13, s14, s15, s16, s17, s18, s19, s20, s21, s22, s23, s24, s25, s26, s27, s28, s29, s30, s31, s32, s33, s34, s35⟩
        go_simp
        with_reducible rfl
       rotate_left
       ·simp only [Act.put, List.setIfInBounds_toArray, List.set_cons_zero, List.set_cons_succ, i64_w, i32_w]
        rfl
       refine take_ (i := 11) (N := some 23) (v := ?_) (a' := ?_) #[true, true, true, true, true, true, false, true, true, true, true, true, false, true, true, true, true, false, false, true, true, true, true, false, false, false, false, false, false] rfl rfl (take_ofW HT_.out HW_.out (by kernel_rfl)) (fun _ _ _ h => h) (Or.inl ⟨by rfl, ?_⟩) hHeld ?_ ?_
       rotate_left
       ·rintro w' ⟨s0, s1, s2, s3, s4, s5, s6, s7, s8, s9, s10, s11, s12, s13, s14, s15, s16, s17, s18, s19, s20, s21, s22, s23, s24, s25, s26, s27, s28, s29, s30, s31, s32, s33, s34, s35⟩
        go_simp
        with_reducible rfl
       rotate_left
       ·simp only [Act.put, List.setIfInBounds_toArray, List.set_cons_zero, List.set_cons_succ, i64_w, i32_w]
        rfl
       refine take_ (i := 17) (N := some 29) (v := ?_) (a' := ?_) #[true, true, true, true, true, true, false, true, true, true, true, true, false, true, true, true, true, true, false, true, true, true, true, false, false, false, false, false, false] rfl rfl (take_ofW HT_.out HW_.out (by kernel_rfl)) (fun _ _ _ h => h) (Or.inl ⟨by rfl, ?_⟩) hHeld ?_ ?_
       rotate_left
       ·rintro w' ⟨s0, s1, s2, s3, s4, s5, s6, s7, s8, s9, s10, s11, s12, s13, s14, s15, s16, s17, s18, s19, s20, s21, s22, s23, s24, s25, s26, s27, s28, s29, s30, s31, s32, s33, s34, s35⟩
        go_simp
        with_reducible rfl
       rotate_left
       ·simp only [Act.put, List.setIfInBounds_toArray, List.set_cons_zero, List.set_cons_succ, i64_w, i32_w]
        rfl
       refine take_ (i := 23) (N := some 35) (v := ?_) (a' := ?_) #[true, true, true, true, true, true, false, true, true, true, true, true, false, true, true, true, true, true, false, true, true, true, true, true, false, false, false, false, false] rfl rfl (take_ofW HT_.out HW_.out (by kernel_rfl)) (fun _ _ _ h => h) (Or.inl ⟨by rfl, ?_⟩) hHeld ?_ ?_
       rotate_left
       ·rintro w' ⟨s0, s1, s2, s3, s4, s5, s6, s7, s8, s9, s10, s11, s12, s13, s14, s15, s16, s17, s18, s19, s20, s21, s22, s23, s24, s25, s26, s27, s28, s29, s30, s31, s32, s33, s34, s35⟩
        go_simp
        with_reducible rfl
       rotate_left
       ·simp only [Act.put, List.setIfInBounds_toArray, List.set_cons_zero, List.set_cons_succ, i64_w, i32_w]
        rfl
       refine one_ (i := 6) (N := some 18) #[true, true, true, true, true, true, true, true, true, true, true, true, false, true, true, true, true, true, false, true, true, true, true, true, false, false, false, false, false] rfl rfl (one_of HT_.out (by kernel_rfl)) (by decide) (fun K hK => ?_)
       refine Kd.R_lit_step Kd.string _ 9 ?hg (N := 18) ?hd (xs := ([] : List ByteArray)) (inner := []) (ok := fun _ => True) (okp := fun _ => True) ?hr ?hp (fun _ hk => hk) trivial (Below.refl _ _) (Nat.le_refl _) (by simp) ?_; (case hd => rfl); (case hg => rfl); (case hr => first | (go_simp; done) | (go_simp; rfl)); (case hp => exact (Reps.none _ _))
       intro v267 w11 ho12 hb hg_ hnew_
       clear hg_ hnew_
       (first | rw [← Ny266.out] at ho12 | (simp only [Int.reduceToNat] at ho12; rw [← Ny266.out] at ho12))
       have n0_ := Aside0.mk (Kd.R_elder' (by (with_reducible repeat (first | apply Kd.R_alloc | apply Kd.R_drewN | apply Kd.R_drew)); exact HO_3.out) (Kd.R_base ho12) hb)
       have n1_ := Aside0.mk (Kd.R_lower ho12 (below_size HB.out))
       have n2_ := Aside0.mk (below_step HB.out hb)
       clear HO_3
       clear HB
       have HO_3 := n0_
       have HO268 := n1_
       have HB := n2_
       clear n0_ n1_ n2_
       clear hb ho12
       refine hK.out _ _ ⟨(lc_ HB.out hw265_0), (lc_ HB.out hw265_1), (lc_ HB.out hw265_2), (lc_ HB.out hw265_3), (lc_ HB.out hw265_4), (lc_ HB.out hw265_5), (lc_ HB.out hw265_6), (lc_ HB.out hw265_7), (lc_ HB.out hw265_8), (lc_ HB.out hw269_0), (lc_ HB.out hw269_1), (lc_ HB.out hw269_2), (lc_ HB.out hw269_3), (lc_ HB.out hw269_4), (lc_ HB.out hw269_5), (lc_ HB.out hw269_6), (lc_ HB.out hw269_7), (lc_ HB.out hw269_8), (lc_ HB.out hw273_0), (lc_ HB.out hw273_1), (lc_ HB.out hw273_2), (lc_ HB.out hw273_3), (lc_ HB.out hw273_4), (lc_ HB.out hw273_5), (lc_ HB.out hw273_6), (lc_ HB.out hw273_7), (lc_ HB.out hw273_8), (lc_ HB.out hw286_0), (lc_ HB.out hw286_1), (lc_ HB.out hw286_2), (lc_ HB.out hw286_3), (lc_ HB.out hw286_4), (lc_ HB.out hw286_5), (lc_ HB.out hw286_6), (lc_ HB.out hw286_7), (lc_ HB.out hw286_8)⟩ (fun hHeld => ?_)
       clear hK K
       refine norm_ (a' := ?_) ?_ ?_
       rotate_left
       ·show Act.put _ (some 18) _ = _
        simp only [Act.put, List.setIfInBounds_toArray, List.set_cons_zero, List.set_cons_succ, i64_w, i32_w]
        rfl
       refine one_ (i := 12) (N := some 24) #[true, true, true, true, true, true, true, true, true, true, true, true, true, true, true, true, true, true, false, true, true, true, true, true, false, false, false, false, false] rfl rfl (one_of HT_.out (by kernel_rfl)) (by decide) (fun K hK => ?_)
       refine Kd.R_append_rows_step Kd.string (w0 := w) w.heap.size (by rfl) (.tmp 18) (.tmp 23) 51 9 (.string ⟨#[]⟩) 16 rfl Try.underlying51 info9 rfl (by decide) (by omega) v267 y266 ((rd_T68 l0 x4_1).f1) _ _ _ (fun _ => True) (fun _ => False) rfl rfl ?aO ?aR (fun _ _ h => h) (fun _ h => h.elim) ?aF ?aB ?aS ?aL ?_
       (case aR => repeat (first | exact (Kd.C_below HR269_1.out HB.out) | (with_reducible refine Kd.C_alloc ?_ _) | (with_reducible refine Kd.C_drewN ?_ _) | (with_reducible refine Kd.C_drew ?_)))
       (case aB => exact HB.out)
       (case aF => exact (fun _ _ => trivial))
       (case aO => exact (by (with_reducible repeat (first | apply Kd.R_alloc | apply Kd.R_drewN | apply Kd.R_drew)); exact HO268.out))
       (case aS => exact (below_size HB.out))
       (case aL => have := LMc6.out; omega)
       intro v271 w13 ho hb hg hat
       rw [← Ny270.out] at ho
       have n0_ := Aside0.mk (Kd.R_after (ok := (fun _ => True)) (by (with_reducible repeat (first | apply Kd.R_alloc | apply Kd.R_drewN | apply Kd.R_drew)); exact HO_3.out) hg hat)
       have n1_ := Aside0.mk (hb)
       have n2_ := Aside0.mk (ho)
       clear HO_3
       clear HB
       clear HO268
       have HO_3 := n0_
       have HB := n1_
       have HO272 := n2_
       clear n0_ n1_ n2_
       clear ho hb hg hat
       refine hK.out _ _ ⟨(lc_ HB.out hw265_0), (lc_ HB.out hw265_1), (lc_ HB.out hw265_2), (lc_ HB.out hw265_3), (lc_ HB.out hw265_4), (lc_ HB.out hw265_5), (lc_ HB.out hw265_6), (lc_ HB.out hw265_7), (lc_ HB.out hw265_8), (lc_ HB.out hw269_0), (lc_ HB.out hw269_1), (lc_ HB.out hw269_2), (lc_ HB.out hw269_3), (lc_ HB.out hw269_4), (lc_ HB.out hw269_5), (lc_ HB.out hw269_6), (lc_ HB.out hw269_7), (lc_ HB.out hw269_8), (lc_ HB.out hw273_0), (lc_ HB.out hw273_1), (lc_ HB.out hw273_2), (lc_ HB.out hw273_3), (lc_ HB.out hw273_4), (lc_ HB.out hw273_5), (lc_ HB.out hw273_6), (lc_ HB.out hw273_7), (lc_ HB.out hw273_8), (lc_ HB.out hw286_0), (lc_ HB.out hw286_1), (lc_ HB.out hw286_2), (lc_ HB.out hw286_3), (lc_ HB.out hw286_4), (lc_ HB.out hw286_5), (lc_ HB.out hw286_6), (lc_ HB.out hw286_7), (lc_ HB.out hw286_8)⟩ (fun hHeld => ?_)
       clear hK K
       refine norm_ (a' := ?_) ?_ ?_
       rotate_left
       ·show Act.put _ (some 24) _ = _
        simp only [Act.put, List.setIfInBounds_toArray, List.set_cons_zero, List.set_cons_succ, i64_w, i32_w]
        rfl
       refine one_ (i := 18) (N := some 30) #[true, true, true, true, true, true, true, true, true, true, true, true, true, true, true, true, true, true, true, true, true, true, true, true, false, false, false, false, false] rfl rfl (one_of HT_.out (by kernel_rfl)) (by decide) (fun K hK => ?_)
       refine goes_ Try.func35 (by kernel_rfl) rfl #[.agg #[.int .i64 ((rd_T68 l0 x4_1).f2.f0), .string ((rd_T68 l0 x4_1).f2.f1), .int .i64 ((rd_T68 l0 x4_1).f2.f2), .slice A265_5 ((rd_T68 l0 x4_1).f2.f3).length c265_5, .slice A265_6 ((rd_T68 l0 x4_1).f2.f4).length c265_6, .slice A265_7 ((rd_T68 l0 x4_1).f2.f5).length c265_7]] (by rfl) rfl rfl (by (try simp only [List.map_toArray, List.map_cons, List.map_nil]); first | done | rfl | (simp only [List.length_drop, List.length_take]; rfl)) ?_
       with_reducible refine (ih_35 k1 (by have := HK1.out; omega) ((rd_T68 l0 x4_1).f2.f0) ((rd_T68 l0 x4_1).f2.f1) ((rd_T68 l0 x4_1).f2.f2) _ _ ((rd_T68 l0 x4_1).f2.f3) _ _ ((rd_T68 l0 x4_1).f2.f4) _ _ ((rd_T68 l0 x4_1).f2.f5) t274 t275 t276 t277 t280 t283 _ ?side1 ?side2 ?side3 ?side4 ?side5 ?side6 A7.out).mono ?_
       (case side1 => repeat (first | exact (Kd.C_below HR273_5.out HB.out) | (with_reducible refine Kd.C_alloc ?_ _) | (with_reducible refine Kd.C_drewN ?_ _) | (with_reducible refine Kd.C_drew ?_)))
       (case side2 => exact HC273_5.out)
       (case side3 => repeat (first | exact (Kd.C_below HR273_6.out HB.out) | (with_reducible refine Kd.C_alloc ?_ _) | (with_reducible refine Kd.C_drewN ?_ _) | (with_reducible refine Kd.C_drew ?_)))
       (case side4 => exact HC273_6.out)
       (case side5 => repeat (first | exact (Kd.C_below HR273_7.out HB.out) | (with_reducible refine Kd.C_alloc ?_ _) | (with_reducible refine Kd.C_drewN ?_ _) | (with_reducible refine Kd.C_drew ?_)))
       (case side6 => exact HC273_7.out)
       rintro e w14 ⟨v278, v281, v284, rfl, ho0, ho1, ho2, hb⟩
       refine ⟨_, rfl, ?_⟩
       have n0_ := Aside0.mk (Kd.R_mono (Kd.R_told (Kd.R_told (Kd.R_told (Kd.R_old (by (with_reducible repeat (first | apply Kd.R_alloc | apply Kd.R_drewN | apply Kd.R_drew)); exact HO_3.out) hb) (Kd.R_base ho0)) (Kd.R_base ho1)) (Kd.R_base ho2)) (fun _ h_ => h_.1))
       have n1_ := Aside0.mk (Kd.R_below (by (with_reducible repeat (first | apply Kd.R_alloc | apply Kd.R_drewN | apply Kd.R_drew)); exact HO272.out) hb)
       have n2_ := Aside0.mk (Kd.R_lower (Kd.R_new' (Kd.R_new' ho0 (Kd.R_lt (by (with_reducible repeat (first | apply Kd.R_alloc | apply Kd.R_drewN | apply Kd.R_drew)); exact HO_3.out))) (Kd.R_lt (by (with_reducible repeat (first | apply Kd.R_alloc | apply Kd.R_drewN | apply Kd.R_drew)); exact HO272.out))) (below_size HB.out))
       have n3_ := Aside0.mk (Kd.R_lower (Kd.R_new' (Kd.R_new' ho1 (Kd.R_lt (by (with_reducible repeat (first | apply Kd.R_alloc | apply Kd.R_drewN | apply Kd.R_drew)); exact HO_3.out))) (Kd.R_lt (by (with_reducible repeat (first | apply Kd.R_alloc | apply Kd.R_drewN | apply Kd.R_drew)); exact HO272.out))) (below_size HB.out))
       have n4_ := Aside0.mk (Kd.R_lower (Kd.R_new' (Kd.R_new' ho2 (Kd.R_lt (by (with_reducible repeat (first | apply Kd.R_alloc | apply Kd.R_drewN | apply Kd.R_drew)); exact HO_3.out))) (Kd.R_lt (by (with_reducible repeat (first | apply Kd.R_alloc | apply Kd.R_drewN | apply Kd.R_drew)); exact HO272.out))) (below_size HB.out))
       have n5_ := Aside0.mk (below_step HB.out hb)
       clear HO_3
       clear HO272
       clear HB
       have HO_3 := n0_
       have HO272 := n1_
       have HO279 := n2_
       have HO282 := n3_
       have HO285 := n4_
       have HB := n5_
       clear n0_ n1_ n2_ n3_ n4_ n5_
       (try clear hb)
       (try clear hb2)
       (try clear hk)
       (try clear hi)
       (try clear ho0)
       (try clear ho1)
       (try clear ho2)
       refine hK.out _ _ ⟨(lc_ HB.out hw265_0), (lc_ HB.out hw265_1), (lc_ HB.out hw265_2), (lc_ HB.out hw265_3), (lc_ HB.out hw265_4), (lc_ HB.out hw265_5), (lc_ HB.out hw265_6), (lc_ HB.out hw265_7), (lc_ HB.out hw265_8), (lc_ HB.out hw269_0), (lc_ HB.out hw269_1), (lc_ HB.out hw269_2), (lc_ HB.out hw269_3), (lc_ HB.out hw269_4), (lc_ HB.out hw269_5), (lc_ HB.out hw269_6), (lc_ HB.out hw269_7), (lc_ HB.out hw269_8), (lc_ HB.out hw273_0), (lc_ HB.out hw273_1), (lc_ HB.out hw273_2), (lc_ HB.out hw273_3), (lc_ HB.out hw273_4), (lc_ HB.out hw273_5), (lc_ HB.out hw273_6), (lc_ HB.out hw273_7), (lc_ HB.out hw273_8), (lc_ HB.out hw286_0), (lc_ HB.out hw286_1), (lc_ HB.out hw286_2), (lc_ HB.out hw286_3), (lc_ HB.out hw286_4), (lc_ HB.out hw286_5), (lc_ HB.out hw286_6), (lc_ HB.out hw286_7), (lc_ HB.out hw286_8)⟩ (fun hHeld => ?_)
       clear hK K
       refine norm_ (a' := ?_) ?_ ?_
       rotate_left
       ·show Act.put _ (some 30) _ = _
        simp only [Act.put, List.setIfInBounds_toArray, List.set_cons_zero, List.set_cons_succ, i64_w, i32_w]
        rfl
       refine one_ (i := 24) (N := some 36) #[true, true, true, true, true, true, true, true, true, true, true, true, true, true, true, true, true, true, true, true, true, true, true, true, true, false, false, false, false] rfl rfl (one_of HT_.out (by kernel_rfl)) (by decide) (fun K hK => ?_)
       refine goes_ Try.func56 (by kernel_rfl) rfl #[.slice A265_8 ((rd_T68 l0 x4_1).f3).length c265_8] (by rfl) rfl rfl (by (try simp only [List.map_toArray, List.map_cons, List.map_nil]); first | done | rfl | (simp only [List.length_drop, List.length_take]; rfl)) ?_
       with_reducible refine (ih_56 k1 (by have := HK1.out; omega) _ _ ((rd_T68 l0 x4_1).f3) t287 _ ?side1 ?side2 A8.out).mono ?_
       (case side1 => repeat (first | exact (Kd.C_below HR286_8.out HB.out) | (with_reducible refine Kd.C_alloc ?_ _) | (with_reducible refine Kd.C_drewN ?_ _) | (with_reducible refine Kd.C_drew ?_)))
       (case side2 => exact HC286_8.out)
       rintro e w15 ⟨v288, rfl, ho0, hb⟩
       refine ⟨_, rfl, ?_⟩
       have n0_ := Aside0.mk (Kd.R_elder' (by (with_reducible repeat (first | apply Kd.R_alloc | apply Kd.R_drewN | apply Kd.R_drew)); exact HO_3.out) (Kd.R_base ho0) hb)
       have n1_ := Aside0.mk (Kd.R_below (by (with_reducible repeat (first | apply Kd.R_alloc | apply Kd.R_drewN | apply Kd.R_drew)); exact HO272.out) hb)
       have n2_ := Aside0.mk (Kd.R_elder' (by (with_reducible repeat (first | apply Kd.R_alloc | apply Kd.R_drewN | apply Kd.R_drew)); exact HO279.out) (Kd.R_base ho0) hb)
       have n3_ := Aside0.mk (Kd.R_elder' (by (with_reducible repeat (first | apply Kd.R_alloc | apply Kd.R_drewN | apply Kd.R_drew)); exact HO282.out) (Kd.R_base ho0) hb)
       have n4_ := Aside0.mk (Kd.R_elder' (by (with_reducible repeat (first | apply Kd.R_alloc | apply Kd.R_drewN | apply Kd.R_drew)); exact HO285.out) (Kd.R_base ho0) hb)
       have n5_ := Aside0.mk (Kd.R_lower (Kd.R_new' (Kd.R_new' (Kd.R_new' (Kd.R_new' (Kd.R_new' ho0 (Kd.R_lt (by (with_reducible repeat (first | apply Kd.R_alloc | apply Kd.R_drewN | apply Kd.R_drew)); exact HO_3.out))) (Kd.R_lt (by (with_reducible repeat (first | apply Kd.R_alloc | apply Kd.R_drewN | apply Kd.R_drew)); exact HO272.out))) (Kd.R_lt (by (with_reducible repeat (first | apply Kd.R_alloc | apply Kd.R_drewN | apply Kd.R_drew)); exact HO279.out))) (Kd.R_lt (by (with_reducible repeat (first | apply Kd.R_alloc | apply Kd.R_drewN | apply Kd.R_drew)); exact HO282.out))) (Kd.R_lt (by (with_reducible repeat (first | apply Kd.R_alloc | apply Kd.R_drewN | apply Kd.R_drew)); exact HO285.out))) (below_size HB.out))
       have n6_ := Aside0.mk (below_step HB.out hb)
       clear HO_3
       clear HO272
       clear HO279
       clear HO282
       clear HO285
       clear HB
       have HO_3 := n0_
       have HO272 := n1_
       have HO279 := n2_
       have HO282 := n3_
       have HO285 := n4_
       have HO289 := n5_
       have HB := n6_
       clear n0_ n1_ n2_ n3_ n4_ n5_ n6_
       (try clear hb)
       (try clear hb2)
       (try clear hk)
       (try clear hi)
       (try clear ho0)
       obtain ⟨Ao16, co16, eo16⟩ := Kd.R_slice HO289.out
       (first | subst eo16 | (injection eo16 with f1_ f2_ f3_; have f4_ := f1_.symm; have f5_ := f3_.symm; clear f1_ f2_ f3_; subst f4_; subst f5_))
       obtain ⟨Ao17, co17, eo17⟩ := Kd.R_slice HO285.out
       (first | subst eo17 | (injection eo17 with f1_ f2_ f3_; have f4_ := f1_.symm; have f5_ := f3_.symm; clear f1_ f2_ f3_; subst f4_; subst f5_))
       obtain ⟨Ao18, co18, eo18⟩ := Kd.R_slice HO282.out
       (first | subst eo18 | (injection eo18 with f1_ f2_ f3_; have f4_ := f1_.symm; have f5_ := f3_.symm; clear f1_ f2_ f3_; subst f4_; subst f5_))
       obtain ⟨Ao19, co19, eo19⟩ := Kd.R_slice HO279.out
       (first | subst eo19 | (injection eo19 with f1_ f2_ f3_; have f4_ := f1_.symm; have f5_ := f3_.symm; clear f1_ f2_ f3_; subst f4_; subst f5_))
       obtain ⟨Ao20, co20, eo20⟩ := Kd.R_slice HO272.out
       (first | subst eo20 | (injection eo20 with f1_ f2_ f3_; have f4_ := f1_.symm; have f5_ := f3_.symm; clear f1_ f2_ f3_; subst f4_; subst f5_))
       refine hK.out _ _ ⟨(lc_ HB.out hw265_0), (lc_ HB.out hw265_1), (lc_ HB.out hw265_2), (lc_ HB.out hw265_3), (lc_ HB.out hw265_4), (lc_ HB.out hw265_5), (lc_ HB.out hw265_6), (lc_ HB.out hw265_7), (lc_ HB.out hw265_8), (lc_ HB.out hw269_0), (lc_ HB.out hw269_1), (lc_ HB.out hw269_2), (lc_ HB.out hw269_3), (lc_ HB.out hw269_4), (lc_ HB.out hw269_5), (lc_ HB.out hw269_6), (lc_ HB.out hw269_7), (lc_ HB.out hw269_8), (lc_ HB.out hw273_0), (lc_ HB.out hw273_1), (lc_ HB.out hw273_2), (lc_ HB.out hw273_3), (lc_ HB.out hw273_4), (lc_ HB.out hw273_5), (lc_ HB.out hw273_6), (lc_ HB.out hw273_7), (lc_ HB.out hw273_8), (lc_ HB.out hw286_0), (lc_ HB.out hw286_1), (lc_ HB.out hw286_2), (lc_ HB.out hw286_3), (lc_ HB.out hw286_4), (lc_ HB.out hw286_5), (lc_ HB.out hw286_6), (lc_ HB.out hw286_7), (lc_ HB.out hw286_8)⟩ (fun hHeld => ?_)
       clear hK K
       refine norm_ (a' := ?_) ?_ ?_
       rotate_left
       ·show Act.put _ (some 36) _ = _
        simp only [Act.put, List.setIfInBounds_toArray, List.set_cons_zero, List.set_cons_succ, i64_w, i32_w]
        rfl
       refine pure_ (i := 25) (N := some 37) (v := ?_) (a' := ?_) #[true, true, true, true, true, true, true, true, true, true, true, true, true, true, true, true, true, true, true, true, true, true, true, true, true, true, false, false, false] rfl rfl (any_of HT_.out (by kernel_rfl)) (fun _ _ _ h => h) (Or.inl ⟨by rfl, ?_⟩) ?_ ?_
       rotate_left
       ·intro w'
        go_simp
        with_reducible rfl
       rotate_left
       ·simp only [Act.put, List.setIfInBounds_toArray, List.set_cons_zero, List.set_cons_succ, i64_w, i32_w]
        rfl
       refine one_ (i := 26) (N := some 38) #[true, true, true, true, true, true, true, true, true, true, true, true, true, true, true, true, true, true, true, true, true, true, true, true, true, true, true, false, false] rfl rfl (one_of HT_.out (by kernel_rfl)) (by decide) (fun K hK => ?_)
       refine value_ (w1 := ?_) (v := ?_) (by rfl) rfl ?_ ?_
       rotate_left 2
       ·go_simp
        constructor
        ·rfl
        ·rfl
       refine hK.out _ _ ⟨(World.cell?_alloc_lt _ _ _ (World.block_lt_of_cell? _ _ ((lc_ HB.out hw265_0)))).trans ((lc_ HB.out hw265_0)), (World.cell?_alloc_lt _ _ _ (World.block_lt_of_cell? _ _ ((lc_ HB.out hw265_1)))).trans ((lc_ HB.out hw265_1)), (World.cell?_alloc_lt _ _ _ (World.block_lt_of_cell? _ _ ((lc_ HB.out hw265_2)))).trans ((lc_ HB.out hw265_2)), (World.cell?_alloc_lt _ _ _ (World.block_lt_of_cell? _ _ ((lc_ HB.out hw265_3)))).trans ((lc_ HB.out hw265_3)), (World.cell?_alloc_lt _ _ _ (World.block_lt_of_cell? _ _ ((lc_ HB.out hw265_4)))).trans ((lc_ HB.out hw265_4)), (World.cell?_alloc_lt _ _ _ (World.block_lt_of_cell? _ _ ((lc_ HB.out hw265_5)))).trans ((lc_ HB.out hw265_5)), (World.cell?_alloc_lt _ _ _ (World.block_lt_of_cell? _ _ ((lc_ HB.out hw265_6)))).trans ((lc_ HB.out hw265_6)), (World.cell?_alloc_lt _ _ _ (World.block_lt_of_cell? _ _ ((lc_ HB.out hw265_7)))).trans ((lc_ HB.out hw265_7)), (World.cell?_alloc_lt _ _ _ (World.block_lt_of_cell? _ _ ((lc_ HB.out hw265_8)))).trans ((lc_ HB.out hw265_8)), (World.cell?_alloc_lt _ _ _ (World.block_lt_of_cell? _ _ ((lc_ HB.out hw269_0)))).trans ((lc_ HB.out hw269_0)), (World.cell?_alloc_lt _ _ _ (World.block_lt_of_cell? _ _ ((lc_ HB.out hw269_1)))).trans ((lc_ HB.out hw269_1)), (World.cell?_alloc_lt _ _ _ (World.block_lt_of_cell? _ _ ((lc_ HB.out hw269_2)))).trans ((lc_ HB.out hw269_2)), (World.cell?_alloc_lt _ _ _ (World.block_lt_of_cell? _ _ ((lc_ HB.out hw269_3)))).trans ((lc_ HB.out hw269_3)), (World.cell?_alloc_lt _ _ _ (World.block_lt_of_cell? _ _ ((lc_ HB.out hw269_4)))).trans ((lc_ HB.out hw269_4)), (World.cell?_alloc_lt _ _ _ (World.block_lt_of_cell? _ _ ((lc_ HB.out hw269_5)))).trans ((lc_ HB.out hw269_5)), (World.cell?_alloc_lt _ _ _ (World.block_lt_of_cell? _ _ ((lc_ HB.out hw269_6)))).trans ((lc_ HB.out hw269_6)), (World.cell?_alloc_lt _ _ _ (World.block_lt_of_cell? _ _ ((lc_ HB.out hw269_7)))).trans ((lc_ HB.out hw269_7)), (World.cell?_alloc_lt _ _ _ (World.block_lt_of_cell? _ _ ((lc_ HB.out hw269_8)))).trans ((lc_ HB.out hw269_8)), (World.cell?_alloc_lt _ _ _ (World.block_lt_of_cell? _ _ ((lc_ HB.out hw273_0)))).trans ((lc_ HB.out hw273_0)), (World.cell?_alloc_lt _ _ _ (World.block_lt_of_cell? _ _ ((lc_ HB.out hw273_1)))).trans ((lc_ HB.out hw273_1)), (World.cell?_alloc_lt _ _ _ (World.block_lt_of_cell? _ _ ((lc_ HB.out hw273_2)))).trans ((lc_ HB.out hw273_2)), (World.cell?_alloc_lt _ _ _ (World.block_lt_of_cell? _ _ ((lc_ HB.out hw273_3)))).trans ((lc_ HB.out hw273_3)), (World.cell?_alloc_lt _ _ _ (World.block_lt_of_cell? _ _ ((lc_ HB.out hw273_4)))).trans ((lc_ HB.out hw273_4)), (World.cell?_alloc_lt _ _ _ (World.block_lt_of_cell? _ _ ((lc_ HB.out hw273_5)))).trans ((lc_ HB.out hw273_5)), (World.cell?_alloc_lt _ _ _ (World.block_lt_of_cell? _ _ ((lc_ HB.out hw273_6)))).trans ((lc_ HB.out hw273_6)), (World.cell?_alloc_lt _ _ _ (World.block_lt_of_cell? _ _ ((lc_ HB.out hw273_7)))).trans ((lc_ HB.out hw273_7)), (World.cell?_alloc_lt _ _ _ (World.block_lt_of_cell? _ _ ((lc_ HB.out hw273_8)))).trans ((lc_ HB.out hw273_8)), (World.cell?_alloc_lt _ _ _ (World.block_lt_of_cell? _ _ ((lc_ HB.out hw286_0)))).trans ((lc_ HB.out hw286_0)), (World.cell?_alloc_lt _ _ _ (World.block_lt_of_cell? _ _ ((lc_ HB.out hw286_1)))).trans ((lc_ HB.out hw286_1)), (World.cell?_alloc_lt _ _ _ (World.block_lt_of_cell? _ _ ((lc_ HB.out hw286_2)))).trans ((lc_ HB.out hw286_2)), (World.cell?_alloc_lt _ _ _ (World.block_lt_of_cell? _ _ ((lc_ HB.out hw286_3)))).trans ((lc_ HB.out hw286_3)), (World.cell?_alloc_lt _ _ _ (World.block_lt_of_cell? _ _ ((lc_ HB.out hw286_4)))).trans ((lc_ HB.out hw286_4)), (World.cell?_alloc_lt _ _ _ (World.block_lt_of_cell? _ _ ((lc_ HB.out hw286_5)))).trans ((lc_ HB.out hw286_5)), (World.cell?_alloc_lt _ _ _ (World.block_lt_of_cell? _ _ ((lc_ HB.out hw286_6)))).trans ((lc_ HB.out hw286_6)), (World.cell?_alloc_lt _ _ _ (World.block_lt_of_cell? _ _ ((lc_ HB.out hw286_7)))).trans ((lc_ HB.out hw286_7)), (World.cell?_alloc_lt _ _ _ (World.block_lt_of_cell? _ _ ((lc_ HB.out hw286_8)))).trans ((lc_ HB.out hw286_8))⟩ (fun hHeld => ?_)
       clear hK K
       refine norm_ (a' := ?_) ?_ ?_
       rotate_left
       ·show Act.put _ (some 38) _ = _
        simp only [Act.put, List.setIfInBounds_toArray, List.set_cons_zero, List.set_cons_succ, i64_w, i32_w]
        rfl
       refine one_ (i := 27) (N := some 39) #[true, true, true, true, true, true, true, true, true, true, true, true, true, true, true, true, true, true, true, true, true, true, true, true, true, true, true, true, false] rfl rfl (one_of HT_.out (by kernel_rfl)) (by decide) (fun K hK => ?_)
       refine Kd.R_append_step k68 (w0 := w) w.heap.size (by rfl) (.tmp 12) (.tmp 38) 30 68 (.agg #[(.string ⟨#[]⟩), (.slice none 0 0), (.int .i64 0), (.string ⟨#[]⟩), (.int .i64 0), (.slice none 0 0), (.slice none 0 0), (.slice none 0 0), (.slice none 0 0)]) 168 rfl Try.underlying30 info68 rfl (by decide) (by omega) u3 x3_1 (⟨(rd_T68 l0 x4_1).f0, y270, (⟨t274, t275, t276, t277, t280, t283⟩ : S33), t287⟩ : S68) [.string ((rd_T68 l0 x4_1).f0), .slice Ao20 y270.length co20, .int .i64 t274, .string t275, .int .i64 t276, .slice Ao19 t277.length co19, .slice Ao18 t280.length co18, .slice Ao17 t283.length co17, .slice Ao16 t287.length co16] (fun _ => True) (fun k_ => ((fun _ => True)) k_ ∧ some k_ ≠ (u3 : Value).ownBlock) rfl rfl ?aP (fun _ hk => hk) ?aF ?aO ?aB ?aS ?aL ?_
       (case aP => exact k68_mkM _ _ _ (⟨(rd_T68 l0 x4_1).f0, y270, (⟨t274, t275, t276, t277, t280, t283⟩ : S33), t287⟩ : S68) (Kd.R_mono (Kd.R_apart' (HO272.out) (Kd.R_typed HO_3.out) (by decide)) (fun k_ hk => ⟨trivial, hk.2⟩)) (Kd.R_mono (HO279.out) (fun k_ hk => ⟨trivial, hk.1.1.2⟩)) (Kd.R_mono (HO282.out) (fun k_ hk => ⟨trivial, hk.1.1.2⟩)) (Kd.R_mono (HO285.out) (fun k_ hk => ⟨trivial, hk.1.1.2⟩)) (Kd.R_mono (HO289.out) (fun k_ hk => ⟨trivial, hk.1.1.1.1.2⟩)))
       (case aB => exact HB.out)
       (case aF => exact (fun _ _ => trivial))
       (case aO => exact (by (with_reducible repeat (first | apply Kd.R_alloc | apply Kd.R_drewN | apply Kd.R_drew)); exact Kd.R_mono HO_3.out (fun _ hk => trivial)))
       (case aS => exact (below_size HB.out))
       (case aL => have := LMc9.out; omega)
       intro v291 w21 ho hb hg hat
       rw [← Ny290.out] at ho
       have n0_ := Aside0.mk (hb)
       have n1_ := Aside0.mk (ho)
       clear HB
       clear HO_3
       clear HO272
       clear HO279
       clear HO282
       clear HO285
       clear HO289
       have HB := n0_
       have HO292 := n1_
       clear n0_ n1_
       clear ho hb hg hat
       refine hK.out _ _ ⟨(lc_ HB.out hw265_0), (lc_ HB.out hw265_1), (lc_ HB.out hw265_2), (lc_ HB.out hw265_3), (lc_ HB.out hw265_4), (lc_ HB.out hw265_5), (lc_ HB.out hw265_6), (lc_ HB.out hw265_7), (lc_ HB.out hw265_8), (lc_ HB.out hw269_0), (lc_ HB.out hw269_1), (lc_ HB.out hw269_2), (lc_ HB.out hw269_3), (lc_ HB.out hw269_4), (lc_ HB.out hw269_5), (lc_ HB.out hw269_6), (lc_ HB.out hw269_7), (lc_ HB.out hw269_8), (lc_ HB.out hw273_0), (lc_ HB.out hw273_1), (lc_ HB.out hw273_2), (lc_ HB.out hw273_3), (lc_ HB.out hw273_4), (lc_ HB.out hw273_5), (lc_ HB.out hw273_6), (lc_ HB.out hw273_7), (lc_ HB.out hw273_8), (lc_ HB.out hw286_0), (lc_ HB.out hw286_1), (lc_ HB.out hw286_2), (lc_ HB.out hw286_3), (lc_ HB.out hw286_4), (lc_ HB.out hw286_5), (lc_ HB.out hw286_6), (lc_ HB.out hw286_7), (lc_ HB.out hw286_8)⟩ (fun hHeld => ?_)
       clear hK K
       refine norm_ (a' := ?_) ?_ ?_
       rotate_left
       ·show Act.put _ (some 39) _ = _
        simp only [Act.put, List.setIfInBounds_toArray, List.set_cons_zero, List.set_cons_succ, i64_w, i32_w]
        rfl
       refine pure_ (i := 28) (N := some 3) (v := ?_) (a' := ?_) #[true, true, true, true, true, true, true, true, true, true, true, true, true, true, true, true, true, true, true, true, true, true, true, true, true, true, true, true, true] rfl rfl (any_of HT_.out (by kernel_rfl)) (fun _ _ _ h => h) (Or.inl ⟨by rfl, ?_⟩) ?_ ?_
       rotate_left
       ·intro w'
        go_simp
        with_reducible rfl
       rotate_left
       ·simp only [Act.put, List.setIfInBounds_toArray, List.set_cons_zero, List.set_cons_succ, i64_w, i32_w]
        rfl
       refine done_ (done_of HT_.out (by kernel_rfl)) ?_
       try go_wp2
       go_roundg k1
       case measure => have := HK1.out; omega
       case rel => exact ⟨(y290), (wrap64 (x4_1 + 1)), (by first | rfl | (simp; done) | (simp [*]; done)), H', ⟨by have := HK1.out; omega⟩, ⟨by (with_reducible repeat (first | apply Kd.R_alloc | apply Kd.R_drewN | apply Kd.R_drew)); exact HO292.out⟩, ⟨by repeat (first | (with_reducible first | exact HB.out | apply below_alloc | apply pw_below_drewN | apply below_drew1) | exact HB.out)⟩⟩
      ·rw [if_neg c9] at H
       exact absurd H (by simp)
     ·rw [if_neg c6] at H
      exact absurd H (by simp)
    ·rw [if_neg c5] at H
     exact absurd H (by simp)
   ·rw [if_neg c4] at H
    have c4b0 : decide (x4_1 < (l0.length : Int)) = false := decide_eq_false c4
    clear c4
    obtain rfl := Option.some.inj H
    go_wp2
    go_ret
    exact ⟨_, by first | rfl | (simp [errW_none, errW_some] <;> rfl) | (simp [*, errW_none, errW_some] <;> rfl), by (with_reducible repeat (first | apply Kd.R_alloc | apply Kd.R_drewN | apply Kd.R_drew)); exact HO_3.out, by repeat (first | (with_reducible first | exact HB.out | apply below_alloc | apply pw_below_drewN | apply below_drew1) | exact HB.out)⟩

end Go.Proofs.Ytpndcfibjjkgcaa.PIfg

/- The walk of the given copying of an expression. No condition. -/
import Derived.Test.YtpndcfibjjkgcaaPIfgs6
namespace Go.Proofs.Ytpndcfibjjkgcaa.PIfg
open Go.Proofs.Ytpndcfibjjkgcaa.MyClone
open Go.RowKit Go.Proofs.YtpndcfibjjkgcaaW.PrintWords Go.Proofs.YtpndcfibjjkgcaaW.PrintLast Go.Proofs.YtpndcfibjjkgcaaW.PrintMore
attribute [local go_sem] max2_int min2_int max_two min_two max_three min_three max_four min_four   -- for this text's walks alone
set_option linter.unusedVariables false
set_option linter.unusedSimpArgs false

/-! ### spec_l3CopyDecs: function 56 -/
def spec_l3Copy.T1 : Bool × List (List Nat × List Nat) := (true, [([], []), ([0], [0]), ([], []), ([2], [2]), ([], []), ([4], [4]), ([], []), ([6], [6]), ([7], [7]), ([1, 3, 5, 8], [1, 3, 5, 8]), ([], []), ([10, 9, 8, 0, 1, 2, 3, 4, 5, 6, 7, 8, 9, 10], [9, 10])])
def spec_l3Copy.B1 : List Nat := [0, 1, 0, 4, 0, 16, 0, 64, 192, 511, 0, 2047]
theorem spec_l3Copy.tab1 : rtab .any (opsOf Try.f35 1) = spec_l3Copy.T1 := by kernel_rfl
theorem spec_l3Copy.bits1 : waitsOk spec_l3Copy.T1.2 spec_l3Copy.B1 = true := by kernel_rfl
def spec_l3Copy.T5 : Bool × List (List Nat × List Nat) := (true, [([], []), ([0], [0]), ([], []), ([2], [2]), ([], []), ([3, 4], [3, 4]), ([5], [5]), ([6], [6]), ([7], [7]), ([1, 8, 7], [1, 8]), ([0, 1, 2, 3, 4, 5, 6, 7, 8, 9], []), ([10, 9, 9, 0, 1, 2, 3, 4, 5, 6, 7, 8, 9], [9, 10])])
def spec_l3Copy.B5 : List Nat := [0, 1, 0, 4, 0, 28, 60, 124, 252, 511, 1023, 2047]
theorem spec_l3Copy.tab5 : rtab .any (opsOf Try.f35 5) = spec_l3Copy.T5 := by kernel_rfl
theorem spec_l3Copy.bits5 : waitsOk spec_l3Copy.T5.2 spec_l3Copy.B5 = true := by kernel_rfl
def spec_l3Copy.T9 : Bool × List (List Nat × List Nat) := (true, [([], []), ([0], [0]), ([], []), ([2], [2]), ([], []), ([3, 4], [3, 4]), ([5], [5]), ([6], [6]), ([], []), ([], []), ([9], [9]), ([], []), ([10, 11], [10, 11]), ([12], [12]), ([13], [13]), ([8, 14], [8, 14]), ([], []), ([16], [16]), ([], []), ([17, 18], [17, 18]), ([19], [19]), ([20], [20]), ([21, 15], [21]), ([7, 15, 22], [7, 15, 22]), ([23], [23]), ([1, 24, 22], [1, 24]), ([0, 1, 2, 3, 4, 5, 6, 7, 8, 9, 10, 11, 12, 13, 14, 15, 16, 17, 18, 19, 20, 21, 22, 23, 24, 25], []), ([26, 25, 25, 0, 1, 2, 3, 4, 5, 6, 7, 8, 9, 10, 11, 12, 13, 14, 15, 16, 17, 18, 19, 20, 21, 22, 23, 24, 25], [25, 26])])
def spec_l3Copy.B9 : List Nat := [0, 1, 0, 4, 0, 28, 60, 124, 0, 0, 512, 0, 3584, 7680, 15872, 32512, 0, 65536, 0, 458752, 983040, 2031616, 4194048, 8388604, 16777212, 33554431, 67108863, 134217727]
theorem spec_l3Copy.tab9 : rtab .any (opsOf Try.f35 9) = spec_l3Copy.T9 := by kernel_rfl
theorem spec_l3Copy.bits9 : waitsOk spec_l3Copy.T9.2 spec_l3Copy.B9 = true := by kernel_rfl
set_option maxHeartbeats 8000000 in
set_option maxRecDepth 100000 in
theorem spec_l3Copy.step (k : Nat) (ih_56 : ∀ m_, m_ < k → spec_l3CopyDecs.At m_) (ih_35 : ∀ m_, m_ < k → spec_l3Copy.At m_) : spec_l3Copy.At k := by
 intro a0_0 a0_1 a0_2 A0_3 c0_3 l0_3 A0_4 c0_4 l0_4 A0_5 c0_5 l0_5 r1 r2 r3 r4 r5 r6 w hr0_3 hc0_3 hr0_4 hc0_4 hr0_5 hc0_5 h
 cases k with
 | zero => exact absurd h (by simp [spec_l3Copy.f])
 | succ k =>
 simp only [spec_l3Copy.f] at h
 have hu33 := Try.underlying33
 have hu53 := Try.underlying53
 have HR0_3 := Aside0.mk hr0_3
 have HC0_3 := Aside0.mk hc0_3
 clear hr0_3 hc0_3
 have HR0_4 := Aside0.mk hr0_4
 have HC0_4 := Aside0.mk hc0_4
 clear hr0_4 hc0_4
 have HR0_5 := Aside0.mk hr0_5
 have HC0_5 := Aside0.mk hc0_5
 clear hr0_5 hc0_5
 have HB := Aside0.mk (Below.refl w.heap.size w)
 have H : ((spec_l3CopyDecs.f k l0_4).bind fun t295 => (spec_l3Copy.l0 k 0 a0_0 a0_1 a0_2 l0_3 l0_4 l0_5 a0_0 a0_1 a0_2 ([] : List (S33)) t295)) = some (r1, r2, r3, r4, r5, r6) := h
 clear h
 replace H := Option.bind_eq_some_iff.mp H
 obtain ⟨t295, A20, H⟩ := H
 replace H : (spec_l3Copy.l0 k 0 a0_0 a0_1 a0_2 l0_3 l0_4 l0_5 a0_0 a0_1 a0_2 ([] : List (S33)) t295) = some (r1, r2, r3, r4, r5, r6) := H
 have A2 := Aside0.mk A20
 clear A20
 have H' := Aside0.mk H
 clear H
 go_enter Try.func35, Try.ntmps35
 try go_wp2_with (first | ((with_reducible refine gate_dst (N := 1) rfl ?_); refine box_event ?hg (N := 1) ?hd (cs := #[.int .i64 a0_0, .string a0_1, .int .i64 a0_2, .slice A0_3 l0_3.length c0_3, .slice A0_4 l0_4.length c0_4, .slice A0_5 l0_5.length c0_5]) (t := 33) ?hr ?_; (case hd => rfl); (case hg => rfl); (case hr => first | (go_simp; done) | (go_simp; rfl)); intro gb293 hg w3 hbox hb; have hx_ := bel_of (w := w) hb HB.out; have n0_ := Aside0.mk (below_step hx_ hb); have n1_ := Aside0.mk (hbox); have n2_ := Aside0.mk ((box_ge hx_ hg)); have n3_ := Aside0.mk ((box_ge hx_ hg)); clear HB; have HB := n0_; have BK293 := n1_; have GW293 := n2_; have GE293 := n3_; clear n0_ n1_ n2_ n3_; clear hx_ hb hbox hg) | ((with_reducible refine gate_dst (N := 2) rfl ?_); refine box_event ?hg (N := 2) ?hd (cs := #[.int .i64 0, .string (⟨#[]⟩ : ByteArray), .int .i64 0, .slice none 0 0, .slice none 0 0, .slice none 0 0]) (t := 33) ?hr ?_; (case hd => rfl); (case hg => rfl); (case hr => first | (go_simp; done) | (go_simp; rfl)); intro gb294 hg w4 hbox hb; have hx_ := bel_of (w := w) hb (by repeat (first | (with_reducible first | exact HB.out | apply below_alloc | apply pw_below_drewN | apply below_drew1 | refine below_set ?_ GE293.out) | exact HB.out)); have n0_ := Aside0.mk (blk_below (g := gb293) BK293.out hb); have n1_ := Aside0.mk (below_step hx_ hb); have n2_ := Aside0.mk (hbox); have n3_ := Aside0.mk ((box_ge hx_ hg)); have n4_ := Aside0.mk ((box_ge hx_ hg)); have n5_ := Aside0.mk (box_lt (g' := gb293) BK293.out hg); have n6_ := Aside0.mk (box_gt (g' := gb293) BK293.out hg); clear BK293; clear HB; have BK293 := n0_; have HB := n1_; have BK294 := n2_; have GW294 := n3_; have GE294 := n4_; have NB293_294 := n5_; have NB294_293 := n6_; clear n0_ n1_ n2_ n3_ n4_ n5_ n6_; clear hx_ hb hbox hg))
 have n0_ := Aside0.mk (blk_drew BK293.out)
 have n1_ := Aside0.mk (blk_drew BK294.out)
 have n2_ := Aside0.mk (below_drew1 HB.out)
 clear BK293
 clear BK294
 clear HB
 have BK293 := n0_
 have BK294 := n1_
 have HB := n2_
 clear n0_ n1_ n2_
 refine start_ (n := 12) (S := fun w' => w'.cell? ⟨gb293, 0, none⟩ = some (.int .i64 a0_0) ∧ w'.cell? ⟨gb293, 1, none⟩ = some (.string a0_1) ∧ w'.cell? ⟨gb293, 2, none⟩ = some (.int .i64 a0_2) ∧ w'.cell? ⟨gb293, 3, none⟩ = some (.slice A0_3 l0_3.length c0_3) ∧ w'.cell? ⟨gb293, 4, none⟩ = some (.slice A0_4 l0_4.length c0_4) ∧ w'.cell? ⟨gb293, 5, none⟩ = some (.slice A0_5 l0_5.length c0_5)) (ds := []) #[false, false, false, false, false, false, false, false, false, false, false, false] (by kernel_rfl) rfl rfl ⟨(blk_cell BK293.out 0).trans rfl, (blk_cell BK293.out 1).trans rfl, (blk_cell BK293.out 2).trans rfl, (blk_cell BK293.out 3).trans rfl, (blk_cell BK293.out 4).trans rfl, (blk_cell BK293.out 5).trans rfl⟩ (fun hHeld => ?_); refine with_tabW spec_l3Copy.tab1 spec_l3Copy.bits1 (fun HT_ HW_ => ?_)
 generalize w4.drew = w5 at BK293 BK294 HB hHeld ⊢
 refine pure_ (i := 0) (N := some 6) (v := ?_) (a' := ?_) #[true, false, false, false, false, false, false, false, false, false, false, false] rfl rfl (any_of HT_.out (by kernel_rfl)) (fun _ _ _ h => h) (Or.inl ⟨by rfl, ?_⟩) ?_ ?_
 rotate_left
 ·intro w'
  go_simp
  with_reducible rfl
 rotate_left
 ·simp only [Act.put, List.setIfInBounds_toArray, List.set_cons_zero, List.set_cons_succ, i64_w, i32_w]
  rfl
 refine pure_ (i := 2) (N := some 8) (v := ?_) (a' := ?_) #[true, false, true, false, false, false, false, false, false, false, false, false] rfl rfl (any_of HT_.out (by kernel_rfl)) (fun _ _ _ h => h) (Or.inl ⟨by rfl, ?_⟩) ?_ ?_
 rotate_left
 ·intro w'
  go_simp
  with_reducible rfl
 rotate_left
 ·simp only [Act.put, List.setIfInBounds_toArray, List.set_cons_zero, List.set_cons_succ, i64_w, i32_w]
  rfl
 refine pure_ (i := 4) (N := some 10) (v := ?_) (a' := ?_) #[true, false, true, false, true, false, false, false, false, false, false, false] rfl rfl (any_of HT_.out (by kernel_rfl)) (fun _ _ _ h => h) (Or.inl ⟨by rfl, ?_⟩) ?_ ?_
 rotate_left
 ·intro w'
  go_simp
  with_reducible rfl
 rotate_left
 ·simp only [Act.put, List.setIfInBounds_toArray, List.set_cons_zero, List.set_cons_succ, i64_w, i32_w]
  rfl
 refine pure_ (i := 6) (N := some 12) (v := ?_) (a' := ?_) #[true, false, true, false, true, false, true, false, false, false, false, false] rfl rfl (any_of HT_.out (by kernel_rfl)) (fun _ _ _ h => h) (Or.inl ⟨by rfl, ?_⟩) ?_ ?_
 rotate_left
 ·intro w'
  go_simp
  with_reducible rfl
 rotate_left
 ·simp only [Act.put, List.setIfInBounds_toArray, List.set_cons_zero, List.set_cons_succ, i64_w, i32_w]
  rfl
 refine take_ (i := 1) (N := some 7) (v := ?_) (a' := ?_) #[true, true, true, false, true, false, true, false, false, false, false, false] rfl rfl (take_ofW HT_.out HW_.out (by kernel_rfl)) (fun _ _ _ h => h) (Or.inl ⟨by rfl, ?_⟩) hHeld ?_ ?_
 rotate_left
 ·rintro w' ⟨s0, s1, s2, s3, s4, s5⟩
  go_simp
  with_reducible rfl
 rotate_left
 ·simp only [Act.put, List.setIfInBounds_toArray, List.set_cons_zero, List.set_cons_succ, i64_w, i32_w]
  rfl
 refine take_ (i := 3) (N := some 9) (v := ?_) (a' := ?_) #[true, true, true, true, true, false, true, false, false, false, false, false] rfl rfl (take_ofW HT_.out HW_.out (by kernel_rfl)) (fun _ _ _ h => h) (Or.inl ⟨by rfl, ?_⟩) hHeld ?_ ?_
 rotate_left
 ·rintro w' ⟨s0, s1, s2, s3, s4, s5⟩
  go_simp
  with_reducible rfl
 rotate_left
 ·simp only [Act.put, List.setIfInBounds_toArray, List.set_cons_zero, List.set_cons_succ, i64_w, i32_w]
  rfl
 refine take_ (i := 5) (N := some 11) (v := ?_) (a' := ?_) #[true, true, true, true, true, true, true, false, false, false, false, false] rfl rfl (take_ofW HT_.out HW_.out (by kernel_rfl)) (fun _ _ _ h => h) (Or.inl ⟨by rfl, ?_⟩) hHeld ?_ ?_
 rotate_left
 ·rintro w' ⟨s0, s1, s2, s3, s4, s5⟩
  go_simp
  with_reducible rfl
 rotate_left
 ·simp only [Act.put, List.setIfInBounds_toArray, List.set_cons_zero, List.set_cons_succ, i64_w, i32_w]
  rfl
 refine take_ (i := 7) (N := some 13) (v := ?_) (a' := ?_) #[true, true, true, true, true, true, true, true, false, false, false, false] rfl rfl (take_ofW HT_.out HW_.out (by kernel_rfl)) (fun _ _ _ h => h) (Or.inl ⟨by rfl, ?_⟩) hHeld ?_ ?_
 rotate_left
 ·rintro w' ⟨s0, s1, s2, s3, s4, s5⟩
  go_simp
  with_reducible rfl
 rotate_left
 ·simp only [Act.put, List.setIfInBounds_toArray, List.set_cons_zero, List.set_cons_succ, i64_w, i32_w]
  rfl
 refine join_ (σ := Value × Nat) 1 #[true, true, true, true, true, true, true, true, true, true, true, false] (fun s_ => [(14, s_.1), (3, .pointer (some ⟨s_.2, 0, none⟩)), (15, .agg #[.int .i64 a0_0, .string a0_1, .int .i64 a0_2, .slice none 0 0, s_.1, .slice none 0 0])]) (fun s_ w' => (w'.cell? ⟨gb293, 0, none⟩ = some (.int .i64 a0_0) ∧ w'.cell? ⟨gb293, 1, none⟩ = some (.string a0_1) ∧ w'.cell? ⟨gb293, 2, none⟩ = some (.int .i64 a0_2) ∧ w'.cell? ⟨gb293, 3, none⟩ = some (.slice A0_3 l0_3.length c0_3) ∧ w'.cell? ⟨gb293, 4, none⟩ = some (.slice A0_4 l0_4.length c0_4) ∧ w'.cell? ⟨gb293, 5, none⟩ = some (.slice A0_5 l0_5.length c0_5)) ∧ (Kd.R k68 68 w' w.heap.size (fun k_ => k_ ≠ gb293 ∧ k_ ≠ gb294 ∧ k_ ≠ s_.2) s_.1 t295) ∧ (w'.heap[gb293]? = some (.cells #[.int .i64 a0_0, .string a0_1, .int .i64 a0_2, .slice A0_3 l0_3.length c0_3, .slice A0_4 l0_4.length c0_4, .slice A0_5 l0_5.length c0_5] 33 (0, 0))) ∧ (w'.heap[gb294]? = some (.cells #[.int .i64 0, .string (⟨#[]⟩ : ByteArray), .int .i64 0, .slice none 0 0, .slice none 0 0, .slice none 0 0] 33 (0, 0))) ∧ (w'.heap[s_.2]? = some (.cells #[.int .i64 0, .string (⟨#[]⟩ : ByteArray), .int .i64 0, .slice none 0 0, .slice none 0 0, .slice none 0 0] 33 (0, 0))) ∧ (w.heap.size ≤ s_.2) ∧ (w.heap.size ≤ s_.2) ∧ (gb293 ≠ s_.2) ∧ (s_.2 ≠ gb293) ∧ (gb294 ≠ s_.2) ∧ (s_.2 ≠ gb294) ∧ (Below w.heap.size w w')) ?_ ?_
 rotate_left
 ·intro hCont
  refine two_ (i := 8) (j := 10) (Ni := some 14) (Nj := some 3) #[true, true, true, true, true, true, true, true, true, false, false, false] #[true, true, true, true, true, true, true, true, false, false, true, false] rfl rfl rfl rfl (two_of HT_.out (by kernel_rfl)) (by decide) (by decide) (fun K hK => ?_) (fun K hK => ?_)
  ·skip
   refine goes_ Try.func56 (by kernel_rfl) rfl #[.slice A0_4 l0_4.length c0_4] (by rfl) rfl rfl (by (try simp only [List.map_toArray, List.map_cons, List.map_nil]); first | done | rfl | (simp only [List.length_drop, List.length_take]; rfl)) ?_
   with_reducible refine (ih_56 k (by omega) _ _ l0_4 t295 _ ?side1 ?side2 A2.out).mono ?_
   (case side1 => repeat (first | exact (Kd.C_below HR0_4.out HB.out) | (with_reducible refine Kd.C_alloc ?_ _) | (with_reducible refine Kd.C_drewN ?_ _) | (with_reducible refine Kd.C_drew ?_)))
   (case side2 => exact HC0_4.out)
   rintro e w6 ⟨v296, rfl, ho0, hb⟩
   refine ⟨_, rfl, ?_⟩
   have n0_ := Aside0.mk (Kd.R_lower (Kd.R_newB (Kd.R_newB ho0 (g := gb293) (o := .cells #[.int .i64 a0_0, .string a0_1, .int .i64 a0_2, .slice A0_3 l0_3.length c0_3, .slice A0_4 l0_4.length c0_4, .slice A0_5 l0_5.length c0_5] 33 (0, 0)) BK293.out) (g := gb294) (o := .cells #[.int .i64 0, .string (⟨#[]⟩ : ByteArray), .int .i64 0, .slice none 0 0, .slice none 0 0, .slice none 0 0] 33 (0, 0)) BK294.out) (below_size (by repeat (first | (with_reducible first | exact HB.out | apply below_alloc | apply pw_below_drewN | apply below_drew1 | refine below_set ?_ GE293.out | refine below_set ?_ GE294.out) | exact HB.out))))
   have n1_ := Aside0.mk (blk_below (g := gb293) BK293.out hb)
   have n2_ := Aside0.mk (blk_below (g := gb294) BK294.out hb)
   have n3_ := Aside0.mk (below_step (by repeat (first | (with_reducible first | exact HB.out | apply below_alloc | apply pw_below_drewN | apply below_drew1 | refine below_set ?_ GE293.out | refine below_set ?_ GE294.out) | exact HB.out)) hb)
   clear BK293
   clear BK294
   clear HB
   have HO297 := n0_
   have BK293 := n1_
   have BK294 := n2_
   have HB := n3_
   clear n0_ n1_ n2_ n3_
   (try clear hb)
   (try clear hb2)
   (try clear hk)
   (try clear hi)
   (try clear ho0)
   obtain ⟨Ao7, co7, eo7⟩ := Kd.R_slice HO297.out
   (first | subst eo7 | (injection eo7 with f1_ f2_ f3_; have f4_ := f1_.symm; have f5_ := f3_.symm; clear f1_ f2_ f3_; subst f4_; subst f5_))
   refine hK.out _ _ ⟨(blk_cell BK293.out 0).trans rfl, (blk_cell BK293.out 1).trans rfl, (blk_cell BK293.out 2).trans rfl, (blk_cell BK293.out 3).trans rfl, (blk_cell BK293.out 4).trans rfl, (blk_cell BK293.out 5).trans rfl⟩ (fun hHeld => ?_)
   clear hK K
   refine norm_ (a' := ?_) ?_ ?_
   rotate_left
   ·show Act.put _ (some 14) _ = _
    simp only [Act.put, List.setIfInBounds_toArray, List.set_cons_zero, List.set_cons_succ, i64_w, i32_w]
    rfl
   refine pure_ (i := 9) (N := some 15) (v := ?_) (a' := ?_) #[true, true, true, true, true, true, true, true, true, true, false, false] rfl rfl (any_of HT_.out (by kernel_rfl)) (fun _ _ _ h => h) (Or.inl ⟨by rfl, ?_⟩) ?_ ?_
   rotate_left
   ·intro w'
    go_simp
    with_reducible rfl
   rotate_left
   ·simp only [Act.put, List.setIfInBounds_toArray, List.set_cons_zero, List.set_cons_succ, i64_w, i32_w]
    rfl
   refine one_ (i := 10) (N := some 3) #[true, true, true, true, true, true, true, true, true, true, true, false] rfl rfl (one_of HT_.out (by kernel_rfl)) (by decide) (fun K hK => ?_)
   refine box_step ?hg (N := 3) ?hd (cs := #[.int .i64 0, .string (⟨#[]⟩ : ByteArray), .int .i64 0, .slice none 0 0, .slice none 0 0, .slice none 0 0]) (t := 33) ?hr ?_; (case hd => rfl); (case hg => rfl); (case hr => first | (go_simp; done) | (go_simp; rfl))
   intro gb298 hg w8 hbox hb
   have n0_ := Aside0.mk (Kd.R_below (Kd.R_elderB (by (with_reducible repeat (first | apply Kd.R_alloc | apply Kd.R_drewN | apply Kd.R_drew)); exact HO297.out) gb298 (Nat.le_of_eq hg.symm)) hb)
   have n1_ := Aside0.mk (blk_below (g := gb293) BK293.out hb)
   have n2_ := Aside0.mk (blk_below (g := gb294) BK294.out hb)
   have n3_ := Aside0.mk (below_step (by repeat (first | (with_reducible first | exact HB.out | apply below_alloc | apply pw_below_drewN | apply below_drew1 | refine below_set ?_ GE293.out | refine below_set ?_ GE294.out) | exact HB.out)) hb)
   have n4_ := Aside0.mk (hbox)
   have n5_ := Aside0.mk ((by rw [hg]; exact (below_size (by repeat (first | (with_reducible first | exact HB.out | apply below_alloc | apply pw_below_drewN | apply below_drew1 | refine below_set ?_ GE293.out | refine below_set ?_ GE294.out) | exact HB.out))) : w.heap.size ≤ gb298))
   have n6_ := Aside0.mk ((by rw [hg]; exact (below_size (by repeat (first | (with_reducible first | exact HB.out | apply below_alloc | apply pw_below_drewN | apply below_drew1 | refine below_set ?_ GE293.out | refine below_set ?_ GE294.out) | exact HB.out))) : w.heap.size ≤ gb298))
   have n7_ := Aside0.mk ((by rw [hg]; exact Nat.ne_of_lt (blk_lt (g := gb293) BK293.out) : gb293 ≠ gb298))
   have n8_ := Aside0.mk ((by rw [hg]; exact Nat.ne_of_gt (blk_lt (g := gb293) BK293.out) : gb298 ≠ gb293))
   have n9_ := Aside0.mk ((by rw [hg]; exact Nat.ne_of_lt (blk_lt (g := gb294) BK294.out) : gb294 ≠ gb298))
   have n10_ := Aside0.mk ((by rw [hg]; exact Nat.ne_of_gt (blk_lt (g := gb294) BK294.out) : gb298 ≠ gb294))
   clear HO297
   clear BK293
   clear BK294
   clear HB
   have HO297 := n0_
   have BK293 := n1_
   have BK294 := n2_
   have HB := n3_
   have BK298 := n4_
   have GW298 := n5_
   have GE298 := n6_
   have NB293_298 := n7_
   have NB298_293 := n8_
   have NB294_298 := n9_
   have NB298_294 := n10_
   clear n0_ n1_ n2_ n3_ n4_ n5_ n6_ n7_ n8_ n9_ n10_
   clear hb hbox hg
   refine hK.out _ _ ⟨(blk_cell BK293.out 0).trans rfl, (blk_cell BK293.out 1).trans rfl, (blk_cell BK293.out 2).trans rfl, (blk_cell BK293.out 3).trans rfl, (blk_cell BK293.out 4).trans rfl, (blk_cell BK293.out 5).trans rfl⟩ (fun hHeld => ?_)
   clear hK K
   refine norm_ (a' := ?_) ?_ ?_
   rotate_left
   ·show Act.put _ (some 3) _ = _
    simp only [Act.put, List.setIfInBounds_toArray, List.set_cons_zero, List.set_cons_succ, i64_w, i32_w]
    rfl
   exact norm_ (by simp only [putAll, Act.put, List.setIfInBounds_toArray, List.set_cons_zero, List.set_cons_succ]) (hCont (.slice Ao7 t295.length co7, gb298) _ ⟨hHeld, (by (with_reducible repeat (first | apply Kd.R_alloc | apply Kd.R_drewN | apply Kd.R_drew)); exact Kd.R_mono HO297.out (fun _ hk => ⟨hk.1.1.2, ⟨hk.1.2, hk.2⟩⟩)), BK293.out, BK294.out, BK298.out, GW298.out, GE298.out, NB293_298.out, NB298_293.out, NB294_298.out, NB298_294.out, (by repeat (first | (with_reducible first | exact HB.out | apply below_alloc | apply pw_below_drewN | apply below_drew1 | refine below_set ?_ GE293.out | refine below_set ?_ GE294.out | refine below_set ?_ GE298.out) | exact HB.out))⟩)
  ·skip
   refine box_step ?hg (N := 3) ?hd (cs := #[.int .i64 0, .string (⟨#[]⟩ : ByteArray), .int .i64 0, .slice none 0 0, .slice none 0 0, .slice none 0 0]) (t := 33) ?hr ?_; (case hd => rfl); (case hg => rfl); (case hr => first | (go_simp; done) | (go_simp; rfl))
   intro gb298 hg w6 hbox hb
   have n0_ := Aside0.mk (blk_below (g := gb293) BK293.out hb)
   have n1_ := Aside0.mk (blk_below (g := gb294) BK294.out hb)
   have n2_ := Aside0.mk (below_step (by repeat (first | (with_reducible first | exact HB.out | apply below_alloc | apply pw_below_drewN | apply below_drew1 | refine below_set ?_ GE293.out | refine below_set ?_ GE294.out) | exact HB.out)) hb)
   have n3_ := Aside0.mk (hbox)
   have n4_ := Aside0.mk ((by rw [hg]; exact (below_size (by repeat (first | (with_reducible first | exact HB.out | apply below_alloc | apply pw_below_drewN | apply below_drew1 | refine below_set ?_ GE293.out | refine below_set ?_ GE294.out) | exact HB.out))) : w.heap.size ≤ gb298))
   have n5_ := Aside0.mk ((by rw [hg]; exact (below_size (by repeat (first | (with_reducible first | exact HB.out | apply below_alloc | apply pw_below_drewN | apply below_drew1 | refine below_set ?_ GE293.out | refine below_set ?_ GE294.out) | exact HB.out))) : w.heap.size ≤ gb298))
   have n6_ := Aside0.mk ((by rw [hg]; exact Nat.ne_of_lt (blk_lt (g := gb293) BK293.out) : gb293 ≠ gb298))
   have n7_ := Aside0.mk ((by rw [hg]; exact Nat.ne_of_gt (blk_lt (g := gb293) BK293.out) : gb298 ≠ gb293))
   have n8_ := Aside0.mk ((by rw [hg]; exact Nat.ne_of_lt (blk_lt (g := gb294) BK294.out) : gb294 ≠ gb298))
   have n9_ := Aside0.mk ((by rw [hg]; exact Nat.ne_of_gt (blk_lt (g := gb294) BK294.out) : gb298 ≠ gb294))
   clear BK293
   clear BK294
   clear HB
   have BK293 := n0_
   have BK294 := n1_
   have HB := n2_
   have BK298 := n3_
   have GW298 := n4_
   have GE298 := n5_
   have NB293_298 := n6_
   have NB298_293 := n7_
   have NB294_298 := n8_
   have NB298_294 := n9_
   clear n0_ n1_ n2_ n3_ n4_ n5_ n6_ n7_ n8_ n9_
   clear hb hbox hg
   refine hK.out _ _ ⟨(blk_cell BK293.out 0).trans rfl, (blk_cell BK293.out 1).trans rfl, (blk_cell BK293.out 2).trans rfl, (blk_cell BK293.out 3).trans rfl, (blk_cell BK293.out 4).trans rfl, (blk_cell BK293.out 5).trans rfl⟩ (fun hHeld => ?_)
   clear hK K
   refine norm_ (a' := ?_) ?_ ?_
   rotate_left
   ·show Act.put _ (some 3) _ = _
    simp only [Act.put, List.setIfInBounds_toArray, List.set_cons_zero, List.set_cons_succ, i64_w, i32_w]
    rfl
   refine one_ (i := 8) (N := some 14) #[true, true, true, true, true, true, true, true, true, false, true, false] rfl rfl (one_of HT_.out (by kernel_rfl)) (by decide) (fun K hK => ?_)
   refine goes_ Try.func56 (by kernel_rfl) rfl #[.slice A0_4 l0_4.length c0_4] (by rfl) rfl rfl (by (try simp only [List.map_toArray, List.map_cons, List.map_nil]); first | done | rfl | (simp only [List.length_drop, List.length_take]; rfl)) ?_
   with_reducible refine (ih_56 k (by omega) _ _ l0_4 t295 _ ?side1 ?side2 A2.out).mono ?_
   (case side1 => repeat (first | exact (Kd.C_below HR0_4.out HB.out) | (with_reducible refine Kd.C_alloc ?_ _) | (with_reducible refine Kd.C_drewN ?_ _) | (with_reducible refine Kd.C_drew ?_)))
   (case side2 => exact HC0_4.out)
   rintro e w7 ⟨v296, rfl, ho0, hb⟩
   refine ⟨_, rfl, ?_⟩
   have n0_ := Aside0.mk (Kd.R_lower (Kd.R_newB (Kd.R_newB (Kd.R_newB ho0 (g := gb293) (o := .cells #[.int .i64 a0_0, .string a0_1, .int .i64 a0_2, .slice A0_3 l0_3.length c0_3, .slice A0_4 l0_4.length c0_4, .slice A0_5 l0_5.length c0_5] 33 (0, 0)) BK293.out) (g := gb294) (o := .cells #[.int .i64 0, .string (⟨#[]⟩ : ByteArray), .int .i64 0, .slice none 0 0, .slice none 0 0, .slice none 0 0] 33 (0, 0)) BK294.out) (g := gb298) (o := .cells #[.int .i64 0, .string (⟨#[]⟩ : ByteArray), .int .i64 0, .slice none 0 0, .slice none 0 0, .slice none 0 0] 33 (0, 0)) BK298.out) (below_size (by repeat (first | (with_reducible first | exact HB.out | apply below_alloc | apply pw_below_drewN | apply below_drew1 | refine below_set ?_ GE293.out | refine below_set ?_ GE294.out | refine below_set ?_ GE298.out) | exact HB.out))))
   have n1_ := Aside0.mk (blk_below (g := gb293) BK293.out hb)
   have n2_ := Aside0.mk (blk_below (g := gb294) BK294.out hb)
   have n3_ := Aside0.mk (blk_below (g := gb298) BK298.out hb)
   have n4_ := Aside0.mk (below_step (by repeat (first | (with_reducible first | exact HB.out | apply below_alloc | apply pw_below_drewN | apply below_drew1 | refine below_set ?_ GE293.out | refine below_set ?_ GE294.out | refine below_set ?_ GE298.out) | exact HB.out)) hb)
   clear BK293
   clear BK294
   clear BK298
   clear HB
   have HO297 := n0_
   have BK293 := n1_
   have BK294 := n2_
   have BK298 := n3_
   have HB := n4_
   clear n0_ n1_ n2_ n3_ n4_
   (try clear hb)
   (try clear hb2)
   (try clear hk)
   (try clear hi)
   (try clear ho0)
   obtain ⟨Ao8, co8, eo8⟩ := Kd.R_slice HO297.out
   (first | subst eo8 | (injection eo8 with f1_ f2_ f3_; have f4_ := f1_.symm; have f5_ := f3_.symm; clear f1_ f2_ f3_; subst f4_; subst f5_))
   refine hK.out _ _ ⟨(blk_cell BK293.out 0).trans rfl, (blk_cell BK293.out 1).trans rfl, (blk_cell BK293.out 2).trans rfl, (blk_cell BK293.out 3).trans rfl, (blk_cell BK293.out 4).trans rfl, (blk_cell BK293.out 5).trans rfl⟩ (fun hHeld => ?_)
   clear hK K
   refine norm_ (a' := ?_) ?_ ?_
   rotate_left
   ·show Act.put _ (some 14) _ = _
    simp only [Act.put, List.setIfInBounds_toArray, List.set_cons_zero, List.set_cons_succ, i64_w, i32_w]
    rfl
   refine pure_ (i := 9) (N := some 15) (v := ?_) (a' := ?_) #[true, true, true, true, true, true, true, true, true, true, true, false] rfl rfl (any_of HT_.out (by kernel_rfl)) (fun _ _ _ h => h) (Or.inl ⟨by rfl, ?_⟩) ?_ ?_
   rotate_left
   ·intro w'
    go_simp
    with_reducible rfl
   rotate_left
   ·simp only [Act.put, List.setIfInBounds_toArray, List.set_cons_zero, List.set_cons_succ, i64_w, i32_w]
    rfl
   exact norm_ (by simp only [putAll, Act.put, List.setIfInBounds_toArray, List.set_cons_zero, List.set_cons_succ]) (hCont (.slice Ao8 t295.length co8, gb298) _ ⟨hHeld, (by (with_reducible repeat (first | apply Kd.R_alloc | apply Kd.R_drewN | apply Kd.R_drew)); exact Kd.R_mono HO297.out (fun _ hk => ⟨hk.1.1.2, ⟨hk.1.2, hk.2⟩⟩)), BK293.out, BK294.out, BK298.out, GW298.out, GE298.out, NB293_298.out, NB298_293.out, NB294_298.out, NB298_294.out, (by repeat (first | (with_reducible first | exact HB.out | apply below_alloc | apply pw_below_drewN | apply below_drew1 | refine below_set ?_ GE293.out | refine below_set ?_ GE294.out | refine below_set ?_ GE298.out) | exact HB.out))⟩)
 rintro ⟨v296, gb298⟩ w9 ⟨hS_, h0_, h1_, h2_, h3_, h4_, h5_, h6_, h7_, h8_, h9_, h10_⟩
 have n0_ : Aside0 (Kd.R k68 68 w9 w.heap.size (fun k_ => k_ ≠ gb293 ∧ k_ ≠ gb294 ∧ k_ ≠ gb298) v296 t295) := ⟨h0_⟩
 have n1_ : Aside0 (w9.heap[gb293]? = some (.cells #[.int .i64 a0_0, .string a0_1, .int .i64 a0_2, .slice A0_3 l0_3.length c0_3, .slice A0_4 l0_4.length c0_4, .slice A0_5 l0_5.length c0_5] 33 (0, 0))) := ⟨h1_⟩
 have n2_ : Aside0 (w9.heap[gb294]? = some (.cells #[.int .i64 0, .string (⟨#[]⟩ : ByteArray), .int .i64 0, .slice none 0 0, .slice none 0 0, .slice none 0 0] 33 (0, 0))) := ⟨h2_⟩
 have n3_ : Aside0 (w9.heap[gb298]? = some (.cells #[.int .i64 0, .string (⟨#[]⟩ : ByteArray), .int .i64 0, .slice none 0 0, .slice none 0 0, .slice none 0 0] 33 (0, 0))) := ⟨h3_⟩
 have n4_ : Aside0 (w.heap.size ≤ gb298) := ⟨h4_⟩
 have n5_ : Aside0 (w.heap.size ≤ gb298) := ⟨h5_⟩
 have n6_ : Aside0 (gb293 ≠ gb298) := ⟨h6_⟩
 have n7_ : Aside0 (gb298 ≠ gb293) := ⟨h7_⟩
 have n8_ : Aside0 (gb294 ≠ gb298) := ⟨h8_⟩
 have n9_ : Aside0 (gb298 ≠ gb294) := ⟨h9_⟩
 have n10_ : Aside0 (Below w.heap.size w w9) := ⟨h10_⟩
 clear BK293
 clear BK294
 clear HB
 clear h0_ h1_ h2_ h3_ h4_ h5_ h6_ h7_ h8_ h9_ h10_
 have HO297 := n0_
 have BK293 := n1_
 have BK294 := n2_
 have BK298 := n3_
 have GW298 := n4_
 have GE298 := n5_
 have NB293_298 := n6_
 have NB298_293 := n7_
 have NB294_298 := n8_
 have NB298_294 := n9_
 have HB := n10_
 clear n0_ n1_ n2_ n3_ n4_ n5_ n6_ n7_ n8_ n9_ n10_
 have hHeld : w9.cell? ⟨gb293, 0, none⟩ = some (.int .i64 a0_0) ∧ w9.cell? ⟨gb293, 1, none⟩ = some (.string a0_1) ∧ w9.cell? ⟨gb293, 2, none⟩ = some (.int .i64 a0_2) ∧ w9.cell? ⟨gb293, 3, none⟩ = some (.slice A0_3 l0_3.length c0_3) ∧ w9.cell? ⟨gb293, 4, none⟩ = some (.slice A0_4 l0_4.length c0_4) ∧ w9.cell? ⟨gb293, 5, none⟩ = some (.slice A0_5 l0_5.length c0_5) := hS_
 obtain ⟨Ao10, co10, eo10⟩ := Kd.R_slice HO297.out
 (first | subst eo10 | (injection eo10 with f1_ f2_ f3_; have f4_ := f1_.symm; have f5_ := f3_.symm; clear f1_ f2_ f3_; subst f4_; subst f5_))
 refine norm_ (a' := ?_) ?_ ?_
 rotate_left
 ·simp only [putAll, Act.put, List.setIfInBounds_toArray, List.set_cons_zero, List.set_cons_succ]
  rfl
 refine one_ (i := 11) (N := none) #[true, true, true, true, true, true, true, true, true, true, true, true] rfl rfl (one_of HT_.out (by kernel_rfl)) (by decide) (fun K hK => ?_)
 have hs11 : w9.cell? ⟨gb298, 0, none⟩ = some (.int .i64 0) := (blk_cell BK298.out 0).trans rfl
 have hfs11 := blk_frozen BK298.out 0
 have hns11_0 := NB293_298.out
 have hns11_1 := NB294_298.out
 have hms11_0 := NB298_293.out
 have hms11_1 := NB298_294.out
 have hs12 : w9.cell? ⟨gb298, 1, none⟩ = some (.string (⟨#[]⟩ : ByteArray)) := (blk_cell BK298.out 1).trans rfl
 have hfs12 := blk_frozen BK298.out 1
 have hns12_0 := NB293_298.out
 have hns12_1 := NB294_298.out
 have hms12_0 := NB298_293.out
 have hms12_1 := NB298_294.out
 have hs13 : w9.cell? ⟨gb298, 2, none⟩ = some (.int .i64 0) := (blk_cell BK298.out 2).trans rfl
 have hfs13 := blk_frozen BK298.out 2
 have hns13_0 := NB293_298.out
 have hns13_1 := NB294_298.out
 have hms13_0 := NB298_293.out
 have hms13_1 := NB298_294.out
 have hs14 : w9.cell? ⟨gb298, 3, none⟩ = some (.slice none 0 0) := (blk_cell BK298.out 3).trans rfl
 have hfs14 := blk_frozen BK298.out 3
 have hns14_0 := NB293_298.out
 have hns14_1 := NB294_298.out
 have hms14_0 := NB298_293.out
 have hms14_1 := NB298_294.out
 have hs15 : w9.cell? ⟨gb298, 4, none⟩ = some (.slice none 0 0) := (blk_cell BK298.out 4).trans rfl
 have hfs15 := blk_frozen BK298.out 4
 have hns15_0 := NB293_298.out
 have hns15_1 := NB294_298.out
 have hms15_0 := NB298_293.out
 have hms15_1 := NB298_294.out
 have hs16 : w9.cell? ⟨gb298, 5, none⟩ = some (.slice none 0 0) := (blk_cell BK298.out 5).trans rfl
 have hfs16 := blk_frozen BK298.out 5
 have hns16_0 := NB293_298.out
 have hns16_1 := NB294_298.out
 have hms16_0 := NB298_293.out
 have hms16_1 := NB298_294.out
 refine skip_ (w1 := ?_) (by rfl) rfl ?_ ?_
 rotate_left
 ·go_simp
  rfl
 refine hK.out _ _ ⟨((cell_far (p := ⟨gb298, _, none⟩) NB293_298.out _).trans (((cell_far (p := ⟨gb298, _, none⟩) NB293_298.out _).trans (((cell_far (p := ⟨gb298, _, none⟩) NB293_298.out _).trans (((cell_far (p := ⟨gb298, _, none⟩) NB293_298.out _).trans (((cell_far (p := ⟨gb298, _, none⟩) NB293_298.out _).trans (((cell_far (p := ⟨gb298, _, none⟩) NB293_298.out _).trans (hHeld.1)))))))))))), ((cell_far (p := ⟨gb298, _, none⟩) NB293_298.out _).trans (((cell_far (p := ⟨gb298, _, none⟩) NB293_298.out _).trans (((cell_far (p := ⟨gb298, _, none⟩) NB293_298.out _).trans (((cell_far (p := ⟨gb298, _, none⟩) NB293_298.out _).trans (((cell_far (p := ⟨gb298, _, none⟩) NB293_298.out _).trans (((cell_far (p := ⟨gb298, _, none⟩) NB293_298.out _).trans (hHeld.2.1)))))))))))), ((cell_far (p := ⟨gb298, _, none⟩) NB293_298.out _).trans (((cell_far (p := ⟨gb298, _, none⟩) NB293_298.out _).trans (((cell_far (p := ⟨gb298, _, none⟩) NB293_298.out _).trans (((cell_far (p := ⟨gb298, _, none⟩) NB293_298.out _).trans (((cell_far (p := ⟨gb298, _, none⟩) NB293_298.out _).trans (((cell_far (p := ⟨gb298, _, none⟩) NB293_298.out _).trans (hHeld.2.2.1)))))))))))), ((cell_far (p := ⟨gb298, _, none⟩) NB293_298.out _).trans (((cell_far (p := ⟨gb298, _, none⟩) NB293_298.out _).trans (((cell_far (p := ⟨gb298, _, none⟩) NB293_298.out _).trans (((cell_far (p := ⟨gb298, _, none⟩) NB293_298.out _).trans (((cell_far (p := ⟨gb298, _, none⟩) NB293_298.out _).trans (((cell_far (p := ⟨gb298, _, none⟩) NB293_298.out _).trans (hHeld.2.2.2.1)))))))))))), ((cell_far (p := ⟨gb298, _, none⟩) NB293_298.out _).trans (((cell_far (p := ⟨gb298, _, none⟩) NB293_298.out _).trans (((cell_far (p := ⟨gb298, _, none⟩) NB293_298.out _).trans (((cell_far (p := ⟨gb298, _, none⟩) NB293_298.out _).trans (((cell_far (p := ⟨gb298, _, none⟩) NB293_298.out _).trans (((cell_far (p := ⟨gb298, _, none⟩) NB293_298.out _).trans (hHeld.2.2.2.2.1)))))))))))), ((cell_far (p := ⟨gb298, _, none⟩) NB293_298.out _).trans (((cell_far (p := ⟨gb298, _, none⟩) NB293_298.out _).trans (((cell_far (p := ⟨gb298, _, none⟩) NB293_298.out _).trans (((cell_far (p := ⟨gb298, _, none⟩) NB293_298.out _).trans (((cell_far (p := ⟨gb298, _, none⟩) NB293_298.out _).trans (((cell_far (p := ⟨gb298, _, none⟩) NB293_298.out _).trans (hHeld.2.2.2.2.2))))))))))))⟩ (fun hHeld => ?_)
 clear hK K
 refine done_ (done_of HT_.out (by kernel_rfl)) ?_
 try go_wp2
 go_loopg [4] k (fun kq v4 w' => ∃ (x4_1 : Int) (x299003_1 : List (S33)) (u299003 : Value), v4 = .int .i64 x4_1 ∧ Aside0 (spec_l3Copy.l0 kq x4_1 a0_0 a0_1 a0_2 l0_3 l0_4 l0_5 a0_0 a0_1 a0_2 x299003_1 t295 = some (r1, r2, r3, r4, r5, r6)) ∧ Aside0 (kq ≤ k) ∧ Aside0 (Kd.R k33 33 w' w.heap.size (fun k_ => some k_ ≠ ((.slice Ao10 t295.length co10) : Value).ownBlock ∧ k_ ≠ gb293 ∧ k_ ≠ gb294 ∧ k_ ≠ gb298) u299003 x299003_1) ∧ Aside0 (Kd.R k68 68 w' w.heap.size (fun k_ => some k_ ≠ (u299003 : Value).ownBlock ∧ k_ ≠ gb293 ∧ k_ ≠ gb294 ∧ k_ ≠ gb298) (.slice Ao10 t295.length co10) t295) ∧ Aside0 (w'.heap[gb293]? = some (.cells #[.int .i64 a0_0, .string a0_1, .int .i64 a0_2, (.slice A0_3 l0_3.length c0_3), (.slice A0_4 l0_4.length c0_4), (.slice A0_5 l0_5.length c0_5)] 33 (0, 0))) ∧ Aside0 (w'.heap[gb294]? = some (.cells #[.int .i64 0, .string (⟨#[]⟩ : ByteArray), .int .i64 0, (.slice none 0 0), (.slice none 0 0), (.slice none 0 0)] 33 (0, 0))) ∧ Aside0 (w'.heap[gb298]? = some (.cells #[.int .i64 a0_0, .string a0_1, .int .i64 a0_2, u299003, (.slice Ao10 t295.length co10), (.slice none 0 0)] 33 (0, 0))) ∧ Aside0 (Below w.heap.size w w'))
 case atStart => exact ⟨(0), (([] : List (S33))), (.slice none 0 0), (by first | rfl | (simp; done) | (simp [*]; done)), H', ⟨Nat.le_refl _⟩, ⟨by first | exact Kd.R_nil _ _ _ _ _ | exact Kd.N_nil _ _ _ _ _ | exact Kd.V_nil _ _ _ _ _ | exact Kd.Q_nil _ _ _ _ _ | exact Kd.S_nil _ _ _ _ _⟩, ⟨by (with_reducible repeat (first | apply Kd.R_alloc | apply Kd.R_drewN | apply Kd.R_drew)); exact Kd.R_mono (Kd.R_st (Kd.R_st (Kd.R_st (Kd.R_st (Kd.R_st (Kd.R_st (Kd.R_mono HO297.out (fun k_ hk => (⟨hk, hk.2.2⟩ : _ ∧ k_ ≠ gb298))))))))) (fun _ hk => ⟨(by simp [Value.ownBlock]), ⟨hk.1.1, ⟨hk.1.2.1, hk.1.2.2⟩⟩⟩)⟩, ⟨by (with_reducible repeat (first | refine blk_drewN ?_ _ | refine blk_drew ?_ | refine blk_alloc ?_ _)); exact (blk_far (blk_far (blk_far (blk_far (blk_far (blk_far BK293.out NB293_298.out _) NB293_298.out _) NB293_298.out _) NB293_298.out _) NB293_298.out _) NB293_298.out _)⟩, ⟨by (with_reducible repeat (first | refine blk_drewN ?_ _ | refine blk_drew ?_ | refine blk_alloc ?_ _)); exact (blk_far (blk_far (blk_far (blk_far (blk_far (blk_far BK294.out NB294_298.out _) NB294_298.out _) NB294_298.out _) NB294_298.out _) NB294_298.out _) NB294_298.out _)⟩, ⟨by (with_reducible repeat (first | refine blk_drewN ?_ _ | refine blk_drew ?_ | refine blk_alloc ?_ _)); exact (put_6_5 (put_6_4 (put_6_3 (put_6_2 (put_6_1 (put_6_0 BK298.out))))))⟩, ⟨by repeat (first | (with_reducible first | exact HB.out | apply below_alloc | apply pw_below_drewN | apply below_drew1 | refine below_set ?_ GE293.out | refine below_set ?_ GE294.out | refine below_set ?_ GE298.out) | exact HB.out)⟩⟩
 case round =>
  clear H'
  try clear p2
  try clear c3
  try clear c5
  obtain ⟨x4_1, x299003_1, u299003, rfl, HA, HK1, HO_299003, HO_299004, BK293, BK294, BK298, HB⟩ := hrel
  cases gk with
  | zero => exact absurd HA.out (by simp [spec_l3Copy.l0])
  | succ k1 =>
   have H := HA.out
   clear HA
   simp only [spec_l3Copy.l0] at H
   by_cases c17 : x4_1 < (l0_3.length : Int)
   ·rw [if_pos c17] at H
    have c17b0 : decide (x4_1 < (l0_3.length : Int)) = true := decide_eq_true c17
    clear c17
    by_cases c18 : 0 ≤ x4_1
    ·rw [if_pos c18] at H
     have c18b0 : decide (0 ≤ x4_1) = true := decide_eq_true c18
     clear c18
     replace H := Option.bind_eq_some_iff.mp H
     obtain ⟨⟨t300, t301, t302, t303, t306, t309⟩, A190, H⟩ := H
     replace H : (if x299003_1.length < 1353245080339 then (spec_l3Copy.l0 k1 (wrap64 (x4_1 + 1)) a0_0 a0_1 a0_2 l0_3 l0_4 l0_5 a0_0 a0_1 a0_2 (x299003_1 ++ [(⟨t300, t301, t302, t303, t306, t309⟩ : S33)]) t295) else (none)) = some (r1, r2, r3, r4, r5, r6) := H
     have A19 := Aside0.mk A190
     clear A190
     by_cases c20 : x299003_1.length < 1353245080339
     ·rw [if_pos c20] at H
      have LMc20 := Aside0.mk c20
      clear c20
      obtain ⟨y312, hy312⟩ : ∃ y_ : List (S33), y_ = (x299003_1 ++ [(⟨t300, t301, t302, t303, t306, t309⟩ : S33)]) := ⟨_, rfl⟩
      replace H : (spec_l3Copy.l0 k1 (wrap64 (x4_1 + 1)) a0_0 a0_1 a0_2 l0_3 l0_4 l0_5 a0_0 a0_1 a0_2 y312 t295) = some (r1, r2, r3, r4, r5, r6) := by first | (rw [hy312]; with_reducible exact H) | (have H2_ := (Option.bind_some _ _).symm.trans H; rw [hy312]; with_reducible exact H2_) | (have H2_ := (Option.bind_some _ _).symm.trans H; with_reducible exact H2_) | with_reducible exact H | (rw [hy312]; exact H) | exact H
      have Ny312 := Aside0.mk hy312
      clear hy312
      have H' := Aside0.mk H
      clear H
      have hnb21 := NB293_294.out
      have hnc21 := NB294_293.out
      have hnb22 := NB293_298.out
      have hnc22 := NB298_293.out
      obtain ⟨hcz23_0, hcz23_1, hcz23_2, hcz23_3, hcz23_4, hcz23_5, hfz23_0, hfz23_1, hfz23_2, hfz23_3, hfz23_4, hfz23_5⟩ := cells6 BK293.out
      try go_wp2
      have n0_ := Aside0.mk (Kd.R_drew HO_299003.out)
      have n1_ := Aside0.mk (Kd.R_drew HO_299004.out)
      have n2_ := Aside0.mk (blk_drew BK293.out)
      have n3_ := Aside0.mk (blk_drew BK294.out)
      have n4_ := Aside0.mk (blk_drew BK298.out)
      have n5_ := Aside0.mk (below_drew1 HB.out)
      clear HO_299003
      clear HO_299004
      clear BK293
      clear BK294
      clear BK298
      clear HB
      have HO_299003 := n0_
      have HO_299004 := n1_
      have BK293 := n2_
      have BK294 := n3_
      have BK298 := n4_
      have HB := n5_
      clear n0_ n1_ n2_ n3_ n4_ n5_
      have p299 : 0 ≤ (x4_1 : Int) := of_decide_eq_true (by first | (with_reducible assumption) | assumption)
      have q299 : x4_1 < (l0_3.length : Int) := of_decide_eq_true (by first | (with_reducible assumption) | assumption)
      obtain ⟨ad299, A299_3, c299_3, A299_4, c299_4, A299_5, c299_5, e299, hx299_0, hx299_1, hx299_2, hx299_3, hx299_4, hx299_5, hl299_3, hi299_3, hl299_4, hi299_4, hl299_5, hi299_5⟩ := at_T33 HR0_3.out x4_1 p299 q299
      have hw299_5 := hx299_5
      have hw299_4 := hx299_4
      have hw299_3 := hx299_3
      have hw299_2 := hx299_2
      have hw299_1 := hx299_1
      have hw299_0 := hx299_0
      cases e299
      replace hx299_0 := lc_ HB.out hx299_0
      replace hx299_1 := lc_ HB.out hx299_1
      replace hx299_2 := lc_ HB.out hx299_2
      replace hx299_3 := lc_ HB.out hx299_3
      replace hx299_4 := lc_ HB.out hx299_4
      replace hx299_5 := lc_ HB.out hx299_5
      have HR299_3 := Aside0.mk hi299_3
      have HC299_3 := Aside0.mk hl299_3
      clear hi299_3 hl299_3
      have HR299_4 := Aside0.mk hi299_4
      have HC299_4 := Aside0.mk hl299_4
      clear hi299_4 hl299_4
      have HR299_5 := Aside0.mk hi299_5
      have HC299_5 := Aside0.mk hl299_5
      clear hi299_5 hl299_5
      replace p299 := eq_true p299
      replace q299 := eq_true q299
      refine start_ (n := 12) (S := fun w' => w'.cell? ⟨gb298, 0, none⟩ = some (.int .i64 a0_0) ∧ w'.cell? ⟨gb298, 1, none⟩ = some (.string a0_1) ∧ w'.cell? ⟨gb298, 2, none⟩ = some (.int .i64 a0_2) ∧ w'.cell? ⟨gb298, 3, none⟩ = some (u299003) ∧ w'.cell? ⟨gb298, 4, none⟩ = some (.slice Ao10 t295.length co10) ∧ w'.cell? ⟨gb298, 5, none⟩ = some (.slice none 0 0) ∧ w'.cell? ⟨gb293, 0, none⟩ = some (.int .i64 a0_0) ∧ w'.cell? ⟨gb293, 1, none⟩ = some (.string a0_1) ∧ w'.cell? ⟨gb293, 2, none⟩ = some (.int .i64 a0_2) ∧ w'.cell? ⟨gb293, 3, none⟩ = some (.slice (some ad299) l0_3.length c0_3) ∧ w'.cell? ⟨gb293, 4, none⟩ = some (.slice A0_4 l0_4.length c0_4) ∧ w'.cell? ⟨gb293, 5, none⟩ = some (.slice A0_5 l0_5.length c0_5) ∧ w'.cell? (ad299.add ((x4_1).toNat * 6)) = some (.int .i64 ((rd_T33 l0_3 x4_1).f0)) ∧ w'.cell? ⟨(ad299.add ((x4_1).toNat * 6)).block, (ad299.add ((x4_1).toNat * 6)).off + 1, none⟩ = some (.string ((rd_T33 l0_3 x4_1).f1)) ∧ w'.cell? ⟨(ad299.add ((x4_1).toNat * 6)).block, (ad299.add ((x4_1).toNat * 6)).off + 2, none⟩ = some (.int .i64 ((rd_T33 l0_3 x4_1).f2)) ∧ w'.cell? ⟨(ad299.add ((x4_1).toNat * 6)).block, (ad299.add ((x4_1).toNat * 6)).off + 3, none⟩ = some (.slice A299_3 ((rd_T33 l0_3 x4_1).f3).length c299_3) ∧ w'.cell? ⟨(ad299.add ((x4_1).toNat * 6)).block, (ad299.add ((x4_1).toNat * 6)).off + 4, none⟩ = some (.slice A299_4 ((rd_T33 l0_3 x4_1).f4).length c299_4) ∧ w'.cell? ⟨(ad299.add ((x4_1).toNat * 6)).block, (ad299.add ((x4_1).toNat * 6)).off + 5, none⟩ = some (.slice A299_5 ((rd_T33 l0_3 x4_1).f5).length c299_5)) (ds := [11]) #[false, false, false, false, false, false, false, false, false, false, false, false] (by kernel_rfl) rfl rfl ⟨(blk_cell BK298.out 0).trans rfl, (blk_cell BK298.out 1).trans rfl, (blk_cell BK298.out 2).trans rfl, (blk_cell BK298.out 3).trans rfl, (blk_cell BK298.out 4).trans rfl, (blk_cell BK298.out 5).trans rfl, (blk_cell BK293.out 0).trans rfl, (blk_cell BK293.out 1).trans rfl, (blk_cell BK293.out 2).trans rfl, (blk_cell BK293.out 3).trans rfl, (blk_cell BK293.out 4).trans rfl, (blk_cell BK293.out 5).trans rfl, (lc_ HB.out hw299_0), (lc_ HB.out hw299_1), (lc_ HB.out hw299_2), (lc_ HB.out hw299_3), (lc_ HB.out hw299_4), (lc_ HB.out hw299_5)⟩ (fun hHeld => ?_); refine with_tabW spec_l3Copy.tab5 spec_l3Copy.bits5 (fun HT_ HW_ => ?_)
      generalize wr.drew = w24 at HO_299003 HO_299004 BK293 BK294 BK298 HB HR299_3 HR299_4 HR299_5 hx299_0 hx299_1 hx299_2 hx299_3 hx299_4 hx299_5 hHeld ⊢
      refine pure_ (i := 0) (N := some 23) (v := ?_) (a' := ?_) #[true, false, false, false, false, false, false, false, false, false, false, false] rfl rfl (any_of HT_.out (by kernel_rfl)) (fun _ _ _ h => h) (Or.inl ⟨by rfl, ?_⟩) ?_ ?_
      rotate_left
      ·intro w'
       go_simp
       with_reducible rfl
      rotate_left
      ·simp only [Act.put, List.setIfInBounds_toArray, List.set_cons_zero, List.set_cons_succ, i64_w, i32_w]
       rfl
      refine pure_ (i := 2) (N := some 25) (v := ?_) (a' := ?_) #[true, false, true, false, false, false, false, false, false, false, false, false] rfl rfl (any_of HT_.out (by kernel_rfl)) (fun _ _ _ h => h) (Or.inl ⟨by rfl, ?_⟩) ?_ ?_
      rotate_left
      ·intro w'
       go_simp
       with_reducible rfl
      rotate_left
      ·simp only [Act.put, List.setIfInBounds_toArray, List.set_cons_zero, List.set_cons_succ, i64_w, i32_w]
       rfl
      refine pure_ (i := 4) (N := some 27) (v := ?_) (a' := ?_) #[true, false, true, false, true, false, false, false, false, false, false, false] rfl rfl (any_of HT_.out (by kernel_rfl)) (fun _ _ _ h => h) (Or.inl ⟨by rfl, ?_⟩) ?_ ?_
      rotate_left
      ·intro w'
       go_simp
       with_reducible rfl
      rotate_left
      ·simp only [Act.put, List.setIfInBounds_toArray, List.set_cons_zero, List.set_cons_succ, i64_w, i32_w]
       rfl
      refine take_ (i := 1) (N := some 24) (v := ?_) (a' := ?_) #[true, true, true, false, true, false, false, false, false, false, false, false] rfl rfl (take_ofW HT_.out HW_.out (by kernel_rfl)) (fun _ _ _ h => h) (Or.inl ⟨by rfl, ?_⟩) hHeld ?_ ?_
      rotate_left
      ·rintro w' ⟨s0, s1, s2, s3, s4, s5, s6, s7, s8, s9, s10, s11, s12, s13, s14, s15, s16, s17⟩
       go_simp
       with_reducible rfl
      rotate_left
      ·simp only [Act.put, List.setIfInBounds_toArray, List.set_cons_zero, List.set_cons_succ, i64_w, i32_w]
       rfl
      refine take_ (i := 3) (N := some 26) (v := ?_) (a' := ?_) #[true, true, true, true, true, false, false, false, false, false, false, false] rfl rfl (take_ofW HT_.out HW_.out (by kernel_rfl)) (fun _ _ _ h => h) (Or.inl ⟨by rfl, ?_⟩) hHeld ?_ ?_
      rotate_left
      ·rintro w' ⟨s0, s1, s2, s3, s4, s5, s6, s7, s8, s9, s10, s11, s12, s13, s14, s15, s16, s17⟩
       go_simp
       with_reducible rfl
      rotate_left
      ·simp only [Act.put, List.setIfInBounds_toArray, List.set_cons_zero, List.set_cons_succ, i64_w, i32_w]
       rfl
      refine pure_ (i := 5) (N := some 28) (v := ?_) (a' := ?_) #[true, true, true, true, true, true, false, false, false, false, false, false] rfl rfl (any_of HT_.out (by kernel_rfl)) (fun _ _ _ h => h) (Or.inl ⟨by rfl, ?_⟩) ?_ ?_
      rotate_left
      ·intro w'
       go_simp
       with_reducible rfl
      rotate_left
      ·simp only [Act.put, List.setIfInBounds_toArray, List.set_cons_zero, List.set_cons_succ, i64_w, i32_w]
       rfl
      refine take_ (i := 6) (N := some 29) (v := ?_) (a' := ?_) #[true, true, true, true, true, true, true, false, false, false, false, false] rfl rfl (take_ofW HT_.out HW_.out (by kernel_rfl)) (fun _ _ _ h => h) (Or.inl ⟨by rfl, ?_⟩) hHeld ?_ ?_
      rotate_left
      ·rintro w' ⟨s0, s1, s2, s3, s4, s5, s6, s7, s8, s9, s10, s11, s12, s13, s14, s15, s16, s17⟩
       go_simp
       with_reducible rfl
      rotate_left
      ·simp only [Act.put, List.setIfInBounds_toArray, List.set_cons_zero, List.set_cons_succ, i64_w, i32_w]
       rfl
      refine one_ (i := 7) (N := some 30) #[true, true, true, true, true, true, true, true, false, false, false, false] rfl rfl (one_of HT_.out (by kernel_rfl)) (by decide) (fun K hK => ?_)
      refine goes_ Try.func35 (by kernel_rfl) rfl #[.agg #[.int .i64 ((rd_T33 l0_3 x4_1).f0), .string ((rd_T33 l0_3 x4_1).f1), .int .i64 ((rd_T33 l0_3 x4_1).f2), .slice A299_3 ((rd_T33 l0_3 x4_1).f3).length c299_3, .slice A299_4 ((rd_T33 l0_3 x4_1).f4).length c299_4, .slice A299_5 ((rd_T33 l0_3 x4_1).f5).length c299_5]] (by rfl) rfl rfl (by (try simp only [List.map_toArray, List.map_cons, List.map_nil]); first | done | rfl | (simp only [List.length_drop, List.length_take]; rfl)) ?_
      with_reducible refine (ih_35 k1 (by have := HK1.out; omega) ((rd_T33 l0_3 x4_1).f0) ((rd_T33 l0_3 x4_1).f1) ((rd_T33 l0_3 x4_1).f2) _ _ ((rd_T33 l0_3 x4_1).f3) _ _ ((rd_T33 l0_3 x4_1).f4) _ _ ((rd_T33 l0_3 x4_1).f5) t300 t301 t302 t303 t306 t309 _ ?side1 ?side2 ?side3 ?side4 ?side5 ?side6 A19.out).mono ?_
      (case side1 => repeat (first | exact (Kd.C_below HR299_3.out HB.out) | (with_reducible refine Kd.C_alloc ?_ _) | (with_reducible refine Kd.C_drewN ?_ _) | (with_reducible refine Kd.C_drew ?_)))
      (case side2 => exact HC299_3.out)
      (case side3 => repeat (first | exact (Kd.C_below HR299_4.out HB.out) | (with_reducible refine Kd.C_alloc ?_ _) | (with_reducible refine Kd.C_drewN ?_ _) | (with_reducible refine Kd.C_drew ?_)))
      (case side4 => exact HC299_4.out)
      (case side5 => repeat (first | exact (Kd.C_below HR299_5.out HB.out) | (with_reducible refine Kd.C_alloc ?_ _) | (with_reducible refine Kd.C_drewN ?_ _) | (with_reducible refine Kd.C_drew ?_)))
      (case side6 => exact HC299_5.out)
      rintro e w25 ⟨v304, v307, v310, rfl, ho0, ho1, ho2, hb⟩
      refine ⟨_, rfl, ?_⟩
      have n0_ := Aside0.mk (Kd.R_mono (Kd.R_told (Kd.R_told (Kd.R_told (Kd.R_old (by (with_reducible repeat (first | apply Kd.R_alloc | apply Kd.R_drewN | apply Kd.R_drew)); exact HO_299003.out) hb) (Kd.R_base ho0)) (Kd.R_base ho1)) (Kd.R_base ho2)) (fun _ h_ => h_.1))
      have n1_ := Aside0.mk (Kd.R_mono (Kd.R_told (Kd.R_told (Kd.R_told (Kd.R_old (by (with_reducible repeat (first | apply Kd.R_alloc | apply Kd.R_drewN | apply Kd.R_drew)); exact HO_299004.out) hb) (Kd.R_base ho0)) (Kd.R_base ho1)) (Kd.R_base ho2)) (fun _ h_ => h_.1))
      have n2_ := Aside0.mk (Kd.R_lower (Kd.R_newB (Kd.R_newB (Kd.R_newB (Kd.R_new' (Kd.R_new' ho0 (Kd.R_lt (by (with_reducible repeat (first | apply Kd.R_alloc | apply Kd.R_drewN | apply Kd.R_drew)); exact HO_299003.out))) (Kd.R_lt (by (with_reducible repeat (first | apply Kd.R_alloc | apply Kd.R_drewN | apply Kd.R_drew)); exact HO_299004.out))) (g := gb293) (o := .cells #[.int .i64 a0_0, .string a0_1, .int .i64 a0_2, .slice (some ad299) l0_3.length c0_3, .slice A0_4 l0_4.length c0_4, .slice A0_5 l0_5.length c0_5] 33 (0, 0)) BK293.out) (g := gb294) (o := .cells #[.int .i64 0, .string (⟨#[]⟩ : ByteArray), .int .i64 0, .slice none 0 0, .slice none 0 0, .slice none 0 0] 33 (0, 0)) BK294.out) (g := gb298) (o := .cells #[.int .i64 a0_0, .string a0_1, .int .i64 a0_2, u299003, .slice Ao10 t295.length co10, .slice none 0 0] 33 (0, 0)) BK298.out) (below_size (by repeat (first | (with_reducible first | exact HB.out | apply below_alloc | apply pw_below_drewN | apply below_drew1 | refine below_set ?_ GE293.out | refine below_set ?_ GE294.out | refine below_set ?_ GE298.out) | exact HB.out))))
      have n3_ := Aside0.mk (Kd.R_lower (Kd.R_newB (Kd.R_newB (Kd.R_newB (Kd.R_new' (Kd.R_new' ho1 (Kd.R_lt (by (with_reducible repeat (first | apply Kd.R_alloc | apply Kd.R_drewN | apply Kd.R_drew)); exact HO_299003.out))) (Kd.R_lt (by (with_reducible repeat (first | apply Kd.R_alloc | apply Kd.R_drewN | apply Kd.R_drew)); exact HO_299004.out))) (g := gb293) (o := .cells #[.int .i64 a0_0, .string a0_1, .int .i64 a0_2, .slice (some ad299) l0_3.length c0_3, .slice A0_4 l0_4.length c0_4, .slice A0_5 l0_5.length c0_5] 33 (0, 0)) BK293.out) (g := gb294) (o := .cells #[.int .i64 0, .string (⟨#[]⟩ : ByteArray), .int .i64 0, .slice none 0 0, .slice none 0 0, .slice none 0 0] 33 (0, 0)) BK294.out) (g := gb298) (o := .cells #[.int .i64 a0_0, .string a0_1, .int .i64 a0_2, u299003, .slice Ao10 t295.length co10, .slice none 0 0] 33 (0, 0)) BK298.out) (below_size (by repeat (first | (with_reducible first | exact HB.out | apply below_alloc | apply pw_below_drewN | apply below_drew1 | refine below_set ?_ GE293.out | refine below_set ?_ GE294.out | refine below_set ?_ GE298.out) | exact HB.out))))
      have n4_ := Aside0.mk (Kd.R_lower (Kd.R_newB (Kd.R_newB (Kd.R_newB (Kd.R_new' (Kd.R_new' ho2 (Kd.R_lt (by (with_reducible repeat (first | apply Kd.R_alloc | apply Kd.R_drewN | apply Kd.R_drew)); exact HO_299003.out))) (Kd.R_lt (by (with_reducible repeat (first | apply Kd.R_alloc | apply Kd.R_drewN | apply Kd.R_drew)); exact HO_299004.out))) (g := gb293) (o := .cells #[.int .i64 a0_0, .string a0_1, .int .i64 a0_2, .slice (some ad299) l0_3.length c0_3, .slice A0_4 l0_4.length c0_4, .slice A0_5 l0_5.length c0_5] 33 (0, 0)) BK293.out) (g := gb294) (o := .cells #[.int .i64 0, .string (⟨#[]⟩ : ByteArray), .int .i64 0, .slice none 0 0, .slice none 0 0, .slice none 0 0] 33 (0, 0)) BK294.out) (g := gb298) (o := .cells #[.int .i64 a0_0, .string a0_1, .int .i64 a0_2, u299003, .slice Ao10 t295.length co10, .slice none 0 0] 33 (0, 0)) BK298.out) (below_size (by repeat (first | (with_reducible first | exact HB.out | apply below_alloc | apply pw_below_drewN | apply below_drew1 | refine below_set ?_ GE293.out | refine below_set ?_ GE294.out | refine below_set ?_ GE298.out) | exact HB.out))))
      have n5_ := Aside0.mk (blk_below (g := gb293) BK293.out hb)
      have n6_ := Aside0.mk (blk_below (g := gb294) BK294.out hb)
      have n7_ := Aside0.mk (blk_below (g := gb298) BK298.out hb)
      have n8_ := Aside0.mk (below_step (by repeat (first | (with_reducible first | exact HB.out | apply below_alloc | apply pw_below_drewN | apply below_drew1 | refine below_set ?_ GE293.out | refine below_set ?_ GE294.out | refine below_set ?_ GE298.out) | exact HB.out)) hb)
      clear HO_299003
      clear HO_299004
      clear BK293
      clear BK294
      clear BK298
      clear HB
      have HO_299003 := n0_
      have HO_299004 := n1_
      have HO305 := n2_
      have HO308 := n3_
      have HO311 := n4_
      have BK293 := n5_
      have BK294 := n6_
      have BK298 := n7_
      have HB := n8_
      clear n0_ n1_ n2_ n3_ n4_ n5_ n6_ n7_ n8_
      (try clear hb)
      (try clear hb2)
      (try clear hk)
      (try clear hi)
      (try clear ho0)
      (try clear ho1)
      (try clear ho2)
      obtain ⟨Ao27, co27, eo27⟩ := Kd.R_slice HO305.out
      (first | subst eo27 | (injection eo27 with f1_ f2_ f3_; have f4_ := f1_.symm; have f5_ := f3_.symm; clear f1_ f2_ f3_; subst f4_; subst f5_))
      obtain ⟨Ao28, co28, eo28⟩ := Kd.R_slice HO308.out
      (first | subst eo28 | (injection eo28 with f1_ f2_ f3_; have f4_ := f1_.symm; have f5_ := f3_.symm; clear f1_ f2_ f3_; subst f4_; subst f5_))
      obtain ⟨Ao29, co29, eo29⟩ := Kd.R_slice HO311.out
      (first | subst eo29 | (injection eo29 with f1_ f2_ f3_; have f4_ := f1_.symm; have f5_ := f3_.symm; clear f1_ f2_ f3_; subst f4_; subst f5_))
      refine hK.out _ _ ⟨(blk_cell BK298.out 0).trans rfl, (blk_cell BK298.out 1).trans rfl, (blk_cell BK298.out 2).trans rfl, (blk_cell BK298.out 3).trans rfl, (blk_cell BK298.out 4).trans rfl, (blk_cell BK298.out 5).trans rfl, (blk_cell BK293.out 0).trans rfl, (blk_cell BK293.out 1).trans rfl, (blk_cell BK293.out 2).trans rfl, (blk_cell BK293.out 3).trans rfl, (blk_cell BK293.out 4).trans rfl, (blk_cell BK293.out 5).trans rfl, (lc_ HB.out hw299_0), (lc_ HB.out hw299_1), (lc_ HB.out hw299_2), (lc_ HB.out hw299_3), (lc_ HB.out hw299_4), (lc_ HB.out hw299_5)⟩ (fun hHeld => ?_)
      clear hK K
      refine norm_ (a' := ?_) ?_ ?_
      rotate_left
      ·show Act.put _ (some 30) _ = _
       simp only [Act.put, List.setIfInBounds_toArray, List.set_cons_zero, List.set_cons_succ, i64_w, i32_w]
       rfl
      refine one_ (i := 8) (N := some 31) #[true, true, true, true, true, true, true, true, true, false, false, false] rfl rfl (one_of HT_.out (by kernel_rfl)) (by decide) (fun K hK => ?_)
      refine value_ (w1 := ?_) (v := ?_) (by rfl) rfl ?_ ?_
      rotate_left 2
      ·go_simp
       constructor
       ·rfl
       ·rfl
      refine hK.out _ _ ⟨(blk_cell (blk_alloc BK298.out _) 0).trans rfl, (blk_cell (blk_alloc BK298.out _) 1).trans rfl, (blk_cell (blk_alloc BK298.out _) 2).trans rfl, (blk_cell (blk_alloc BK298.out _) 3).trans rfl, (blk_cell (blk_alloc BK298.out _) 4).trans rfl, (blk_cell (blk_alloc BK298.out _) 5).trans rfl, (blk_cell (blk_alloc BK293.out _) 0).trans rfl, (blk_cell (blk_alloc BK293.out _) 1).trans rfl, (blk_cell (blk_alloc BK293.out _) 2).trans rfl, (blk_cell (blk_alloc BK293.out _) 3).trans rfl, (blk_cell (blk_alloc BK293.out _) 4).trans rfl, (blk_cell (blk_alloc BK293.out _) 5).trans rfl, (World.cell?_alloc_lt _ _ _ (World.block_lt_of_cell? _ _ ((lc_ HB.out hw299_0)))).trans ((lc_ HB.out hw299_0)), (World.cell?_alloc_lt _ _ _ (World.block_lt_of_cell? _ _ ((lc_ HB.out hw299_1)))).trans ((lc_ HB.out hw299_1)), (World.cell?_alloc_lt _ _ _ (World.block_lt_of_cell? _ _ ((lc_ HB.out hw299_2)))).trans ((lc_ HB.out hw299_2)), (World.cell?_alloc_lt _ _ _ (World.block_lt_of_cell? _ _ ((lc_ HB.out hw299_3)))).trans ((lc_ HB.out hw299_3)), (World.cell?_alloc_lt _ _ _ (World.block_lt_of_cell? _ _ ((lc_ HB.out hw299_4)))).trans ((lc_ HB.out hw299_4)), (World.cell?_alloc_lt _ _ _ (World.block_lt_of_cell? _ _ ((lc_ HB.out hw299_5)))).trans ((lc_ HB.out hw299_5))⟩ (fun hHeld => ?_)
      clear hK K
      refine norm_ (a' := ?_) ?_ ?_
      rotate_left
      ·show Act.put _ (some 31) _ = _
       simp only [Act.put, List.setIfInBounds_toArray, List.set_cons_zero, List.set_cons_succ, i64_w, i32_w]
       rfl
      refine one_ (i := 9) (N := some 32) #[true, true, true, true, true, true, true, true, true, true, false, false] rfl rfl (one_of HT_.out (by kernel_rfl)) (by decide) (fun K hK => ?_)
      refine Kd.R_append_step k33 (w0 := w) w.heap.size (by rfl) (.tmp 24) (.tmp 31) 29 33 (.agg #[(.int .i64 0), (.string ⟨#[]⟩), (.int .i64 0), (.slice none 0 0), (.slice none 0 0), (.slice none 0 0)]) 104 rfl Try.underlying29 info33 rfl (by decide) (by omega) u299003 x299003_1 (⟨t300, t301, t302, t303, t306, t309⟩ : S33) [.int .i64 t300, .string t301, .int .i64 t302, .slice Ao27 t303.length co27, .slice Ao28 t306.length co28, .slice Ao29 t309.length co29] (fun k_ => some k_ ≠ (.slice Ao10 t295.length co10 : Value).ownBlock ∧ k_ ≠ gb293 ∧ k_ ≠ gb294 ∧ k_ ≠ gb298) (fun k_ => ((fun k_ => some k_ ≠ (.slice Ao10 t295.length co10 : Value).ownBlock ∧ k_ ≠ gb293 ∧ k_ ≠ gb294 ∧ k_ ≠ gb298)) k_ ∧ some k_ ≠ (u299003 : Value).ownBlock) rfl rfl ?aP (fun _ hk => hk) ?aF ?aO ?aB ?aS ?aL ?_
      (case aP => exact k33_mkM _ _ _ (⟨t300, t301, t302, t303, t306, t309⟩ : S33) (Kd.R_mono (HO305.out) (fun k_ hk => ⟨⟨hk.1.1.1.2, ⟨hk.1.1.2, ⟨hk.1.2, hk.2⟩⟩⟩, hk.1.1.1.1.2⟩)) (Kd.R_mono (HO308.out) (fun k_ hk => ⟨⟨hk.1.1.1.2, ⟨hk.1.1.2, ⟨hk.1.2, hk.2⟩⟩⟩, hk.1.1.1.1.2⟩)) (Kd.R_mono (HO311.out) (fun k_ hk => ⟨⟨hk.1.1.1.2, ⟨hk.1.1.2, ⟨hk.1.2, hk.2⟩⟩⟩, hk.1.1.1.1.2⟩)))
      (case aB => exact (by repeat (first | (with_reducible first | exact HB.out | apply below_alloc | apply pw_below_drewN | apply below_drew1 | refine below_set ?_ GE293.out | refine below_set ?_ GE294.out | refine below_set ?_ GE298.out) | exact HB.out)))
      (case aF => exact (fun k_ hk => ⟨Kd.fresh' (Kd.R_lt (by (with_reducible repeat (first | apply Kd.R_alloc | apply Kd.R_drewN | apply Kd.R_drew)); exact HO_299004.out)) k_ hk, Kd.freshB (g := gb293) (o := .cells #[.int .i64 a0_0, .string a0_1, .int .i64 a0_2, .slice (some ad299) l0_3.length c0_3, .slice A0_4 l0_4.length c0_4, .slice A0_5 l0_5.length c0_5] 33 (0, 0)) BK293.out k_ hk, Kd.freshB (g := gb294) (o := .cells #[.int .i64 0, .string (⟨#[]⟩ : ByteArray), .int .i64 0, .slice none 0 0, .slice none 0 0, .slice none 0 0] 33 (0, 0)) BK294.out k_ hk, Kd.freshB (g := gb298) (o := .cells #[.int .i64 a0_0, .string a0_1, .int .i64 a0_2, u299003, .slice Ao10 t295.length co10, .slice none 0 0] 33 (0, 0)) BK298.out k_ hk⟩))
      (case aO => exact (by (with_reducible repeat (first | apply Kd.R_alloc | apply Kd.R_drewN | apply Kd.R_drew)); exact Kd.R_mono HO_299003.out (fun _ hk => ⟨hk.1.1.1.1, ⟨hk.1.1.1.2.1, ⟨hk.1.1.1.2.2.1, hk.1.1.1.2.2.2⟩⟩⟩)))
      (case aS => exact (below_size (by repeat (first | (with_reducible first | exact HB.out | apply below_alloc | apply pw_below_drewN | apply below_drew1 | refine below_set ?_ GE293.out | refine below_set ?_ GE294.out | refine below_set ?_ GE298.out) | exact HB.out))))
      (case aL => have := LMc20.out; omega)
      intro v313 w26 ho hb hg hat
      rw [← Ny312.out] at ho
      have n0_ := Aside0.mk (Kd.R_after (ok := (fun k_ => some k_ ≠ (.slice Ao27 t303.length co27 : Value).ownBlock ∧ some k_ ≠ (.slice Ao28 t306.length co28 : Value).ownBlock ∧ some k_ ≠ (.slice Ao29 t309.length co29 : Value).ownBlock ∧ k_ ≠ gb293 ∧ k_ ≠ gb294 ∧ k_ ≠ gb298)) (by (with_reducible repeat (first | apply Kd.R_alloc | apply Kd.R_drewN | apply Kd.R_drew)); exact Kd.R_mono HO_299004.out (fun _ hk => ⟨⟨hk.1.1.2, ⟨hk.1.2, ⟨hk.2, ⟨hk.1.1.1.2.1, ⟨hk.1.1.1.2.2.1, hk.1.1.1.2.2.2⟩⟩⟩⟩⟩, hk.1.1.1.1⟩)) hg hat)
      have n1_ := Aside0.mk (blk_grown (g := gb293) (o := .cells #[.int .i64 a0_0, .string a0_1, .int .i64 a0_2, .slice (some ad299) l0_3.length c0_3, .slice A0_4 l0_4.length c0_4, .slice A0_5 l0_5.length c0_5] 33 (0, 0)) BK293.out hg (Kd.R_away HO_299003.out (fun _ hk => hk.1.1.1.2.1)))
      have n2_ := Aside0.mk (blk_grown (g := gb294) (o := .cells #[.int .i64 0, .string (⟨#[]⟩ : ByteArray), .int .i64 0, .slice none 0 0, .slice none 0 0, .slice none 0 0] 33 (0, 0)) BK294.out hg (Kd.R_away HO_299003.out (fun _ hk => hk.1.1.1.2.2.1)))
      have n3_ := Aside0.mk (blk_grown (g := gb298) (o := .cells #[.int .i64 a0_0, .string a0_1, .int .i64 a0_2, u299003, .slice Ao10 t295.length co10, .slice none 0 0] 33 (0, 0)) BK298.out hg (Kd.R_away HO_299003.out (fun _ hk => hk.1.1.1.2.2.2)))
      have n4_ := Aside0.mk (hb)
      have n5_ := Aside0.mk (ho)
      clear HO_299004
      clear BK293
      clear BK294
      clear BK298
      clear HB
      clear HO_299003
      clear HO305
      clear HO308
      clear HO311
      have HO_299004 := n0_
      have BK293 := n1_
      have BK294 := n2_
      have BK298 := n3_
      have HB := n4_
      have HO314 := n5_
      clear n0_ n1_ n2_ n3_ n4_ n5_
      clear ho hb hg hat
      obtain ⟨Ao30, co30, eo30⟩ := Kd.R_slice HO314.out
      (first | subst eo30 | (injection eo30 with f1_ f2_ f3_; have f4_ := f1_.symm; have f5_ := f3_.symm; clear f1_ f2_ f3_; subst f4_; subst f5_))
      refine hK.out _ _ ⟨(blk_cell BK298.out 0).trans rfl, (blk_cell BK298.out 1).trans rfl, (blk_cell BK298.out 2).trans rfl, (blk_cell BK298.out 3).trans rfl, (blk_cell BK298.out 4).trans rfl, (blk_cell BK298.out 5).trans rfl, (blk_cell BK293.out 0).trans rfl, (blk_cell BK293.out 1).trans rfl, (blk_cell BK293.out 2).trans rfl, (blk_cell BK293.out 3).trans rfl, (blk_cell BK293.out 4).trans rfl, (blk_cell BK293.out 5).trans rfl, (lc_ HB.out hw299_0), (lc_ HB.out hw299_1), (lc_ HB.out hw299_2), (lc_ HB.out hw299_3), (lc_ HB.out hw299_4), (lc_ HB.out hw299_5)⟩ (fun hHeld => ?_)
      clear hK K
      refine norm_ (a' := ?_) ?_ ?_
      rotate_left
      ·show Act.put _ (some 32) _ = _
       simp only [Act.put, List.setIfInBounds_toArray, List.set_cons_zero, List.set_cons_succ, i64_w, i32_w]
       rfl
      refine pure_ (i := 10) (N := some 33) (v := ?_) (a' := ?_) #[true, true, true, true, true, true, true, true, true, true, true, false] rfl rfl (any_of HT_.out (by kernel_rfl)) (fun _ _ _ h => h) (Or.inl ⟨by rfl, ?_⟩) ?_ ?_
      rotate_left
      ·intro w'
       go_simp
       with_reducible rfl
      rotate_left
      ·simp only [Act.put, List.setIfInBounds_toArray, List.set_cons_zero, List.set_cons_succ, i64_w, i32_w]
       rfl
      refine last_ (i := 11) (N := none) #[true, true, true, true, true, true, true, true, true, true, true, true] rfl rfl (one_of HT_.out (by kernel_rfl)) (by decide) (fun K hK => ?_)
      have hs31 : w26.cell? ⟨gb298, 3, none⟩ = some (u299003) := (blk_cell BK298.out 3).trans rfl
      have hfs31 := blk_frozen BK298.out 3
      have hns31_0 := NB293_298.out
      have hns31_1 := NB294_298.out
      have hms31_0 := NB298_293.out
      have hms31_1 := NB298_294.out
      refine skip_ (w1 := ?_) (by rfl) rfl ?_ ?_
      rotate_left
      ·go_simp
       rfl
      refine hK.out _ _ ?_
      clear hK K
      refine done_ (done_of HT_.out (by kernel_rfl)) ?_
      try go_wp2
      go_roundg k1
      case measure => have := HK1.out; omega
      case rel => exact ⟨(wrap64 (x4_1 + 1)), (y312), (.slice Ao30 y312.length co30), (by first | rfl | (simp; done) | (simp [*]; done)), H', ⟨by have := HK1.out; omega⟩, ⟨by (with_reducible repeat (first | apply Kd.R_alloc | apply Kd.R_drewN | apply Kd.R_drew)); exact Kd.R_mono (Kd.R_st (Kd.R_mono HO314.out (fun k_ hk => (⟨hk, hk.2.2.2⟩ : _ ∧ k_ ≠ gb298)))) (fun _ hk => ⟨hk.1.1, ⟨hk.1.2.1, ⟨hk.1.2.2.1, hk.1.2.2.2⟩⟩⟩)⟩, ⟨by (with_reducible repeat (first | apply Kd.R_alloc | apply Kd.R_drewN | apply Kd.R_drew)); exact Kd.R_mono (Kd.R_st (Kd.R_mono HO_299004.out (fun k_ hk => (⟨hk, hk.1.2.2.2.2.2⟩ : _ ∧ k_ ≠ gb298)))) (fun _ hk => ⟨hk.1.2, ⟨hk.1.1.2.2.2.1, ⟨hk.1.1.2.2.2.2.1, hk.1.1.2.2.2.2.2⟩⟩⟩)⟩, ⟨by (with_reducible repeat (first | refine blk_drewN ?_ _ | refine blk_drew ?_ | refine blk_alloc ?_ _)); exact (blk_far BK293.out NB293_298.out _)⟩, ⟨by (with_reducible repeat (first | refine blk_drewN ?_ _ | refine blk_drew ?_ | refine blk_alloc ?_ _)); exact (blk_far BK294.out NB294_298.out _)⟩, ⟨by (with_reducible repeat (first | refine blk_drewN ?_ _ | refine blk_drew ?_ | refine blk_alloc ?_ _)); exact (put_6_3 BK298.out)⟩, ⟨by repeat (first | (with_reducible first | exact HB.out | apply below_alloc | apply pw_below_drewN | apply below_drew1 | refine below_set ?_ GE293.out | refine below_set ?_ GE294.out | refine below_set ?_ GE298.out) | exact HB.out)⟩⟩
     ·rw [if_neg c20] at H
      exact absurd H (by simp)
    ·rw [if_neg c18] at H
     exact absurd H (by simp)
   ·rw [if_neg c17] at H
    have c17b0 : decide (x4_1 < (l0_3.length : Int)) = false := decide_eq_false c17
    clear c17
    have H' := Aside0.mk H
    clear H
    have hnb32 := NB293_294.out
    have hnc32 := NB294_293.out
    have hnb33 := NB293_298.out
    have hnc33 := NB298_293.out
    obtain ⟨hcz34_0, hcz34_1, hcz34_2, hcz34_3, hcz34_4, hcz34_5, hfz34_0, hfz34_1, hfz34_2, hfz34_3, hfz34_4, hfz34_5⟩ := cells6 BK293.out
    go_wp2
    go_loopg [5] k1 (fun kq v5 w' => ∃ (x5_2 : Int) (x299005_2 : List (S53)) (u299005 : Value), v5 = .int .i64 x5_2 ∧ Aside0 (spec_l3Copy.l1 kq x5_2 a0_0 a0_1 a0_2 l0_3 l0_4 l0_5 a0_0 a0_1 a0_2 x299003_1 t295 x299005_2 = some (r1, r2, r3, r4, r5, r6)) ∧ Aside0 (kq ≤ k1) ∧ Aside0 (Kd.R k33 33 w' w.heap.size (fun k_ => some k_ ≠ ((.slice Ao10 t295.length co10) : Value).ownBlock ∧ some k_ ≠ (u299005 : Value).ownBlock ∧ k_ ≠ gb293 ∧ k_ ≠ gb294 ∧ k_ ≠ gb298) u299003 x299003_1) ∧ Aside0 (Kd.R k68 68 w' w.heap.size (fun k_ => some k_ ≠ (u299003 : Value).ownBlock ∧ some k_ ≠ (u299005 : Value).ownBlock ∧ k_ ≠ gb293 ∧ k_ ≠ gb294 ∧ k_ ≠ gb298) (.slice Ao10 t295.length co10) t295) ∧ Aside0 (Kd.R k53 53 w' w.heap.size (fun k_ => some k_ ≠ (u299003 : Value).ownBlock ∧ some k_ ≠ ((.slice Ao10 t295.length co10) : Value).ownBlock ∧ k_ ≠ gb293 ∧ k_ ≠ gb294 ∧ k_ ≠ gb298) u299005 x299005_2) ∧ Aside0 (w'.heap[gb293]? = some (.cells #[.int .i64 a0_0, .string a0_1, .int .i64 a0_2, (.slice A0_3 l0_3.length c0_3), (.slice A0_4 l0_4.length c0_4), (.slice A0_5 l0_5.length c0_5)] 33 (0, 0))) ∧ Aside0 (w'.heap[gb294]? = some (.cells #[.int .i64 0, .string (⟨#[]⟩ : ByteArray), .int .i64 0, (.slice none 0 0), (.slice none 0 0), (.slice none 0 0)] 33 (0, 0))) ∧ Aside0 (w'.heap[gb298]? = some (.cells #[.int .i64 a0_0, .string a0_1, .int .i64 a0_2, u299003, (.slice Ao10 t295.length co10), u299005] 33 (0, 0))) ∧ Aside0 (Below w.heap.size w w'))
    case atStart => exact ⟨(0), (([] : List (S53))), (.slice none 0 0), (by first | rfl | (simp; done) | (simp [*]; done)), H', ⟨Nat.le_refl _⟩, ⟨by (with_reducible repeat (first | apply Kd.R_alloc | apply Kd.R_drewN | apply Kd.R_drew)); exact Kd.R_mono HO_299003.out (fun _ hk => ⟨hk.1, ⟨(by simp [Value.ownBlock]), ⟨hk.2.1, ⟨hk.2.2.1, hk.2.2.2⟩⟩⟩⟩)⟩, ⟨by (with_reducible repeat (first | apply Kd.R_alloc | apply Kd.R_drewN | apply Kd.R_drew)); exact Kd.R_mono HO_299004.out (fun _ hk => ⟨hk.1, ⟨(by simp [Value.ownBlock]), ⟨hk.2.1, ⟨hk.2.2.1, hk.2.2.2⟩⟩⟩⟩)⟩, ⟨by first | exact Kd.R_nil _ _ _ _ _ | exact Kd.N_nil _ _ _ _ _ | exact Kd.V_nil _ _ _ _ _ | exact Kd.Q_nil _ _ _ _ _ | exact Kd.S_nil _ _ _ _ _⟩, ⟨by (with_reducible repeat (first | refine blk_drewN ?_ _ | refine blk_drew ?_ | refine blk_alloc ?_ _)); exact BK293.out⟩, ⟨by (with_reducible repeat (first | refine blk_drewN ?_ _ | refine blk_drew ?_ | refine blk_alloc ?_ _)); exact BK294.out⟩, ⟨by (with_reducible repeat (first | refine blk_drewN ?_ _ | refine blk_drew ?_ | refine blk_alloc ?_ _)); exact BK298.out⟩, ⟨by repeat (first | (with_reducible first | exact HB.out | apply below_alloc | apply pw_below_drewN | apply below_drew1 | refine below_set ?_ GE293.out | refine below_set ?_ GE294.out | refine below_set ?_ GE298.out) | exact HB.out)⟩⟩
    case round =>
     clear H'
     try clear c1
     try clear c2
     try clear p2
     try clear q2
     try clear hx2
     try clear c3
     try clear c5
     try clear p6
     try clear c17
     try clear c17b0
     try clear c18
     try clear c18b0
     try clear c20
     try clear c21
     try clear c22
     try clear c29
     try clear p29
     try clear q29
     try clear hx29
     try clear c32
     try clear c33
     try clear hcz23_0
     try clear hcz23_1
     try clear hcz23_2
     try clear hcz23_3
     try clear hcz23_4
     try clear hcz23_5
     try clear hcz34_0
     try clear hcz34_1
     try clear hcz34_2
     try clear hcz34_3
     try clear hcz34_4
     try clear hcz34_5
     try clear hfz23_0
     try clear hfz23_1
     try clear hfz23_2
     try clear hfz23_3
     try clear hfz23_4
     try clear hfz23_5
     try clear hfz34_0
     try clear hfz34_1
     try clear hfz34_2
     try clear hfz34_3
     try clear hfz34_4
     try clear hfz34_5
     try clear hx299_0
     try clear hx299_1
     try clear hx299_2
     try clear hx299_3
     try clear hx299_4
     try clear hx299_5
     try clear p2
     try clear p299
     try clear q299
     obtain ⟨x5_2, x299005_2, u299005, rfl, HA, HK2, HO_299003, HO_299004, HO_299005, BK293, BK294, BK298, HB⟩ := hrel
     cases gk with
     | zero => exact absurd HA.out (by simp [spec_l3Copy.l1])
     | succ k2 =>
      have H := HA.out
      clear HA
      simp only [spec_l3Copy.l1] at H
      by_cases c35 : x5_2 < (l0_5.length : Int)
      ·rw [if_pos c35] at H
       have c35b0 : decide (x5_2 < (l0_5.length : Int)) = true := decide_eq_true c35
       clear c35
       by_cases c36 : 0 ≤ x5_2
       ·rw [if_pos c36] at H
        have c36b0 : decide (0 ≤ x5_2) = true := decide_eq_true c36
        clear c36
        obtain ⟨y316, hy316⟩ : ∃ y_ : List ByteArray, y_ = (([] : List ByteArray)) := ⟨_, rfl⟩
        replace H : (if y316.length + ((rd_T53 l0_5 x5_2).f1).length < 8796093022208 then ((spec_l3Copy.f k2 ((rd_T53 l0_5 x5_2).f2.f0) ((rd_T53 l0_5 x5_2).f2.f1) ((rd_T53 l0_5 x5_2).f2.f2) ((rd_T53 l0_5 x5_2).f2.f3) ((rd_T53 l0_5 x5_2).f2.f4) ((rd_T53 l0_5 x5_2).f2.f5)).bind fun bt324 => (if x299005_2.length < 977343669134 then (spec_l3Copy.l1 k2 (wrap64 (x5_2 + 1)) a0_0 a0_1 a0_2 l0_3 l0_4 l0_5 a0_0 a0_1 a0_2 x299003_1 t295 (x299005_2 ++ [(⟨(rd_T53 l0_5 x5_2).f0, (y316 ++ ((rd_T53 l0_5 x5_2).f1)), (⟨bt324.1, bt324.2.1, bt324.2.2.1, bt324.2.2.2.1, bt324.2.2.2.2.1, bt324.2.2.2.2.2⟩ : S33)⟩ : S53)])) else (none))) else (none)) = some (r1, r2, r3, r4, r5, r6) := by first | (rw [hy316]; with_reducible exact H) | (have H2_ := (Option.bind_some _ _).symm.trans H; rw [hy316]; with_reducible exact H2_) | (have H2_ := (Option.bind_some _ _).symm.trans H; with_reducible exact H2_) | with_reducible exact H | (rw [hy316]; exact H) | exact H
        have Ny316 := Aside0.mk hy316
        clear hy316
        by_cases c37 : y316.length + ((rd_T53 l0_5 x5_2).f1).length < 8796093022208
        ·rw [if_pos c37] at H
         have LMc37 := Aside0.mk c37
         clear c37
         obtain ⟨y320, hy320⟩ : ∃ y_ : List ByteArray, y_ = (y316 ++ ((rd_T53 l0_5 x5_2).f1)) := ⟨_, rfl⟩
         replace H : ((spec_l3Copy.f k2 ((rd_T53 l0_5 x5_2).f2.f0) ((rd_T53 l0_5 x5_2).f2.f1) ((rd_T53 l0_5 x5_2).f2.f2) ((rd_T53 l0_5 x5_2).f2.f3) ((rd_T53 l0_5 x5_2).f2.f4) ((rd_T53 l0_5 x5_2).f2.f5)).bind fun bt324 => (if x299005_2.length < 977343669134 then (spec_l3Copy.l1 k2 (wrap64 (x5_2 + 1)) a0_0 a0_1 a0_2 l0_3 l0_4 l0_5 a0_0 a0_1 a0_2 x299003_1 t295 (x299005_2 ++ [(⟨(rd_T53 l0_5 x5_2).f0, y320, (⟨bt324.1, bt324.2.1, bt324.2.2.1, bt324.2.2.2.1, bt324.2.2.2.2.1, bt324.2.2.2.2.2⟩ : S33)⟩ : S53)])) else (none))) = some (r1, r2, r3, r4, r5, r6) := by first | (rw [hy320]; with_reducible exact H) | (have H2_ := (Option.bind_some _ _).symm.trans H; rw [hy320]; with_reducible exact H2_) | (have H2_ := (Option.bind_some _ _).symm.trans H; with_reducible exact H2_) | with_reducible exact H | (rw [hy320]; exact H) | exact H
         have Ny320 := Aside0.mk hy320
         clear hy320
         replace H := Option.bind_eq_some_iff.mp H
         obtain ⟨⟨t324, t325, t326, t327, t330, t333⟩, A380, H⟩ := H
         replace H : (if x299005_2.length < 977343669134 then (spec_l3Copy.l1 k2 (wrap64 (x5_2 + 1)) a0_0 a0_1 a0_2 l0_3 l0_4 l0_5 a0_0 a0_1 a0_2 x299003_1 t295 (x299005_2 ++ [(⟨(rd_T53 l0_5 x5_2).f0, y320, (⟨t324, t325, t326, t327, t330, t333⟩ : S33)⟩ : S53)])) else (none)) = some (r1, r2, r3, r4, r5, r6) := H
         have A38 := Aside0.mk A380
         clear A380
         by_cases c39 : x299005_2.length < 977343669134
         ·rw [if_pos c39] at H
          have LMc39 := Aside0.mk c39
          clear c39
          obtain ⟨y336, hy336⟩ : ∃ y_ : List (S53), y_ = (x299005_2 ++ [(⟨(rd_T53 l0_5 x5_2).f0, y320, (⟨t324, t325, t326, t327, t330, t333⟩ : S33)⟩ : S53)]) := ⟨_, rfl⟩
          replace H : (spec_l3Copy.l1 k2 (wrap64 (x5_2 + 1)) a0_0 a0_1 a0_2 l0_3 l0_4 l0_5 a0_0 a0_1 a0_2 x299003_1 t295 y336) = some (r1, r2, r3, r4, r5, r6) := by first | (rw [hy336]; with_reducible exact H) | (have H2_ := (Option.bind_some _ _).symm.trans H; rw [hy336]; with_reducible exact H2_) | (have H2_ := (Option.bind_some _ _).symm.trans H; with_reducible exact H2_) | with_reducible exact H | (rw [hy336]; exact H) | exact H
          have Ny336 := Aside0.mk hy336
          clear hy336
          have H' := Aside0.mk H
          clear H
          have hnb40 := NB293_294.out
          have hnc40 := NB294_293.out
          have hnb41 := NB293_298.out
          have hnc41 := NB298_293.out
          obtain ⟨hcz42_0, hcz42_1, hcz42_2, hcz42_3, hcz42_4, hcz42_5, hfz42_0, hfz42_1, hfz42_2, hfz42_3, hfz42_4, hfz42_5⟩ := cells6 BK293.out
          try go_wp2
          have n0_ := Aside0.mk (Kd.R_drew HO_299003.out)
          have n1_ := Aside0.mk (Kd.R_drew HO_299004.out)
          have n2_ := Aside0.mk (Kd.R_drew HO_299005.out)
          have n3_ := Aside0.mk (blk_drew BK293.out)
          have n4_ := Aside0.mk (blk_drew BK294.out)
          have n5_ := Aside0.mk (blk_drew BK298.out)
          have n6_ := Aside0.mk (below_drew1 HB.out)
          clear HO_299003
          clear HO_299004
          clear HO_299005
          clear BK293
          clear BK294
          clear BK298
          clear HB
          have HO_299003 := n0_
          have HO_299004 := n1_
          have HO_299005 := n2_
          have BK293 := n3_
          have BK294 := n4_
          have BK298 := n5_
          have HB := n6_
          clear n0_ n1_ n2_ n3_ n4_ n5_ n6_
          have p315 : 0 ≤ (x5_2 : Int) := of_decide_eq_true (by first | (with_reducible assumption) | assumption)
          have q315 : x5_2 < (l0_5.length : Int) := of_decide_eq_true (by first | (with_reducible assumption) | assumption)
          obtain ⟨ad315, A315_1, c315_1, A315_5, c315_5, A315_6, c315_6, A315_7, c315_7, e315, hx315_0, hx315_1, hx315_2, hx315_3, hx315_4, hx315_5, hx315_6, hx315_7, hl315_1, hi315_1, hl315_5, hi315_5, hl315_6, hi315_6, hl315_7, hi315_7⟩ := at_T53 HR0_5.out x5_2 p315 q315
          have hw315_7 := hx315_7
          have hw315_6 := hx315_6
          have hw315_5 := hx315_5
          have hw315_4 := hx315_4
          have hw315_3 := hx315_3
          have hw315_2 := hx315_2
          have hw315_1 := hx315_1
          have hw315_0 := hx315_0
          cases e315
          replace hx315_0 := lc_ HB.out hx315_0
          replace hx315_1 := lc_ HB.out hx315_1
          replace hx315_2 := lc_ HB.out hx315_2
          replace hx315_3 := lc_ HB.out hx315_3
          replace hx315_4 := lc_ HB.out hx315_4
          replace hx315_5 := lc_ HB.out hx315_5
          replace hx315_6 := lc_ HB.out hx315_6
          replace hx315_7 := lc_ HB.out hx315_7
          have HR315_1 := Aside0.mk hi315_1
          have HC315_1 := Aside0.mk hl315_1
          clear hi315_1 hl315_1
          have HR315_5 := Aside0.mk hi315_5
          have HC315_5 := Aside0.mk hl315_5
          clear hi315_5 hl315_5
          have HR315_6 := Aside0.mk hi315_6
          have HC315_6 := Aside0.mk hl315_6
          clear hi315_6 hl315_6
          have HR315_7 := Aside0.mk hi315_7
          have HC315_7 := Aside0.mk hl315_7
          clear hi315_7 hl315_7
          replace p315 := eq_true p315
          replace q315 := eq_true q315
          have p319 : 0 ≤ (x5_2 : Int) := of_decide_eq_true (by first | (with_reducible assumption) | assumption)
          have q319 : x5_2 < (l0_5.length : Int) := of_decide_eq_true (by first | (with_reducible assumption) | assumption)
          obtain ⟨ad319, A319_1, c319_1, A319_5, c319_5, A319_6, c319_6, A319_7, c319_7, e319, hx319_0, hx319_1, hx319_2, hx319_3, hx319_4, hx319_5, hx319_6, hx319_7, hl319_1, hi319_1, hl319_5, hi319_5, hl319_6, hi319_6, hl319_7, hi319_7⟩ := at_T53 HR0_5.out x5_2 p319 q319
          have hw319_7 := hx319_7
          have hw319_6 := hx319_6
          have hw319_5 := hx319_5
          have hw319_4 := hx319_4
          have hw319_3 := hx319_3
          have hw319_2 := hx319_2
          have hw319_1 := hx319_1
          have hw319_0 := hx319_0
          obtain rfl : ad315 = ad319 := (by injection e319)
          replace hx319_0 := lc_ HB.out hx319_0
          replace hx319_1 := lc_ HB.out hx319_1
          replace hx319_2 := lc_ HB.out hx319_2
          replace hx319_3 := lc_ HB.out hx319_3
          replace hx319_4 := lc_ HB.out hx319_4
          replace hx319_5 := lc_ HB.out hx319_5
          replace hx319_6 := lc_ HB.out hx319_6
          replace hx319_7 := lc_ HB.out hx319_7
          have HR319_1 := Aside0.mk hi319_1
          have HC319_1 := Aside0.mk hl319_1
          clear hi319_1 hl319_1
          have HR319_5 := Aside0.mk hi319_5
          have HC319_5 := Aside0.mk hl319_5
          clear hi319_5 hl319_5
          have HR319_6 := Aside0.mk hi319_6
          have HC319_6 := Aside0.mk hl319_6
          clear hi319_6 hl319_6
          have HR319_7 := Aside0.mk hi319_7
          have HC319_7 := Aside0.mk hl319_7
          clear hi319_7 hl319_7
          replace p319 := eq_true p319
          replace q319 := eq_true q319
          have ea_ := Option.some.inj (hx315_1.symm.trans hx319_1)
          injection ea_ with ea_ en_ ec_
          subst ea_
          subst ec_
          clear en_
          have ea_ := Option.some.inj (hx315_5.symm.trans hx319_5)
          injection ea_ with ea_ en_ ec_
          subst ea_
          subst ec_
          clear en_
          have ea_ := Option.some.inj (hx315_6.symm.trans hx319_6)
          injection ea_ with ea_ en_ ec_
          subst ea_
          subst ec_
          clear en_
          have ea_ := Option.some.inj (hx315_7.symm.trans hx319_7)
          injection ea_ with ea_ en_ ec_
          subst ea_
          subst ec_
          clear en_
          have p323 : 0 ≤ (x5_2 : Int) := of_decide_eq_true (by first | (with_reducible assumption) | assumption)
          have q323 : x5_2 < (l0_5.length : Int) := of_decide_eq_true (by first | (with_reducible assumption) | assumption)
          obtain ⟨ad323, A323_1, c323_1, A323_5, c323_5, A323_6, c323_6, A323_7, c323_7, e323, hx323_0, hx323_1, hx323_2, hx323_3, hx323_4, hx323_5, hx323_6, hx323_7, hl323_1, hi323_1, hl323_5, hi323_5, hl323_6, hi323_6, hl323_7, hi323_7⟩ := at_T53 HR0_5.out x5_2 p323 q323
          have hw323_7 := hx323_7
          have hw323_6 := hx323_6
          have hw323_5 := hx323_5
          have hw323_4 := hx323_4
          have hw323_3 := hx323_3
          have hw323_2 := hx323_2
          have hw323_1 := hx323_1
          have hw323_0 := hx323_0
          obtain rfl : ad315 = ad323 := (by injection e323)
          replace hx323_0 := lc_ HB.out hx323_0
          replace hx323_1 := lc_ HB.out hx323_1
          replace hx323_2 := lc_ HB.out hx323_2
          replace hx323_3 := lc_ HB.out hx323_3
          replace hx323_4 := lc_ HB.out hx323_4
          replace hx323_5 := lc_ HB.out hx323_5
          replace hx323_6 := lc_ HB.out hx323_6
          replace hx323_7 := lc_ HB.out hx323_7
          have HR323_1 := Aside0.mk hi323_1
          have HC323_1 := Aside0.mk hl323_1
          clear hi323_1 hl323_1
          have HR323_5 := Aside0.mk hi323_5
          have HC323_5 := Aside0.mk hl323_5
          clear hi323_5 hl323_5
          have HR323_6 := Aside0.mk hi323_6
          have HC323_6 := Aside0.mk hl323_6
          clear hi323_6 hl323_6
          have HR323_7 := Aside0.mk hi323_7
          have HC323_7 := Aside0.mk hl323_7
          clear hi323_7 hl323_7
          replace p323 := eq_true p323
          replace q323 := eq_true q323
          have ea_ := Option.some.inj (hx315_1.symm.trans hx323_1)
          injection ea_ with ea_ en_ ec_
          subst ea_
          subst ec_
          clear en_
          have ea_ := Option.some.inj (hx315_5.symm.trans hx323_5)
          injection ea_ with ea_ en_ ec_
          subst ea_
          subst ec_
          clear en_
          have ea_ := Option.some.inj (hx315_6.symm.trans hx323_6)
          injection ea_ with ea_ en_ ec_
          subst ea_
          subst ec_
          clear en_
          have ea_ := Option.some.inj (hx315_7.symm.trans hx323_7)
          injection ea_ with ea_ en_ ec_
          subst ea_
          subst ec_
          clear en_
          refine start_ (n := 28) (S := fun w' => w'.cell? ⟨gb298, 0, none⟩ = some (.int .i64 a0_0) ∧ w'.cell? ⟨gb298, 1, none⟩ = some (.string a0_1) ∧ w'.cell? ⟨gb298, 2, none⟩ = some (.int .i64 a0_2) ∧ w'.cell? ⟨gb298, 3, none⟩ = some (u299003) ∧ w'.cell? ⟨gb298, 4, none⟩ = some (.slice Ao10 t295.length co10) ∧ w'.cell? ⟨gb298, 5, none⟩ = some (u299005) ∧ w'.cell? ⟨gb293, 0, none⟩ = some (.int .i64 a0_0) ∧ w'.cell? ⟨gb293, 1, none⟩ = some (.string a0_1) ∧ w'.cell? ⟨gb293, 2, none⟩ = some (.int .i64 a0_2) ∧ w'.cell? ⟨gb293, 3, none⟩ = some (.slice A0_3 l0_3.length c0_3) ∧ w'.cell? ⟨gb293, 4, none⟩ = some (.slice A0_4 l0_4.length c0_4) ∧ w'.cell? ⟨gb293, 5, none⟩ = some (.slice (some ad315) l0_5.length c0_5) ∧ w'.cell? (ad315.add ((x5_2).toNat * 8)) = some (.string ((rd_T53 l0_5 x5_2).f0)) ∧ w'.cell? ⟨(ad315.add ((x5_2).toNat * 8)).block, (ad315.add ((x5_2).toNat * 8)).off + 1, none⟩ = some (.slice A315_1 ((rd_T53 l0_5 x5_2).f1).length c315_1) ∧ w'.cell? ⟨(ad315.add ((x5_2).toNat * 8)).block, (ad315.add ((x5_2).toNat * 8)).off + 2, none⟩ = some (.int .i64 ((rd_T53 l0_5 x5_2).f2.f0)) ∧ w'.cell? ⟨(ad315.add ((x5_2).toNat * 8)).block, (ad315.add ((x5_2).toNat * 8)).off + 3, none⟩ = some (.string ((rd_T53 l0_5 x5_2).f2.f1)) ∧ w'.cell? ⟨(ad315.add ((x5_2).toNat * 8)).block, (ad315.add ((x5_2).toNat * 8)).off + 4, none⟩ = some (.int .i64 ((rd_T53 l0_5 x5_2).f2.f2)) ∧ w'.cell? ⟨(ad315.add ((x5_2).toNat * 8)).block, (ad315.add ((x5_2).toNat * 8)).off + 5, none⟩ = some (.slice A315_5 ((rd_T53 l0_5 x5_2).f2.f3).length c315_5) ∧ w'.cell? ⟨(ad315.add ((x5_2).toNat * 8)).block, (ad315.add ((x5_2).toNat * 8)).off + 6, none⟩ = some (.slice A315_6 ((rd_T53 l0_5 x5_2).f2.f4).length c315_6) ∧ w'.cell? ⟨(ad315.add ((x5_2).toNat * 8)).block, (ad315.add ((x5_2).toNat * 8)).off + 7, none⟩ = some (.slice A315_7 ((rd_T53 l0_5 x5_2).f2.f5).length c315_7) ∧ w'.cell? (ad315.add ((x5_2).toNat * 8)) = some (.string ((rd_T53 l0_5 x5_2).f0)) ∧ w'.cell? ⟨(ad315.add ((x5_2).toNat * 8)).block, (ad315.add ((x5_2).toNat * 8)).off + 1, none⟩ = some (.slice A315_1 ((rd_T53 l0_5 x5_2).f1).length c315_1) ∧ w'.cell? ⟨(ad315.add ((x5_2).toNat * 8)).block, (ad315.add ((x5_2).toNat * 8)).off + 2, none⟩ = some (.int .i64 ((rd_T53 l0_5 x5_2).f2.f0)) ∧ w'.cell? ⟨(ad315.add ((x5_2).toNat * 8)).block, (ad315.add ((x5_2).toNat * 8)).off + 3, none⟩ = some (.string ((rd_T53 l0_5 x5_2).f2.f1)) ∧ w'.cell? ⟨(ad315.add ((x5_2).toNat * 8)).block, (ad315.add ((x5_2).toNat * 8)).off + 4, none⟩ = some (.int .i64 ((rd_T53 l0_5 x5_2).f2.f2)) ∧ w'.cell? ⟨(ad315.add ((x5_2).toNat * 8)).block, (ad315.add ((x5_2).toNat * 8)).off + 5, none⟩ = some (.slice A315_5 ((rd_T53 l0_5 x5_2).f2.f3).length c315_5) ∧ w'.cell? ⟨(ad315.add ((x5_2).toNat * 8)).block, (ad315.add ((x5_2).toNat * 8)).off + 6, none⟩ = some (.slice A315_6 ((rd_T53 l0_5 x5_2).f2.f4).length c315_6) ∧ w'.cell? ⟨(ad315.add ((x5_2).toNat * 8)).block, (ad315.add ((x5_2).toNat * 8)).off + 7, none⟩ = some (.slice A315_7 ((rd_T53 l0_5 x5_2).f2.f5).length c315_7) ∧ w'.cell? (ad315.add ((x5_2).toNat * 8)) = some (.string ((rd_T53 l0_5 x5_2).f0)) ∧ w'.cell? ⟨(ad315.add ((x5_2).toNat * 8)).block, (ad315.add ((x5_2).toNat * 8)).off + 1, none⟩ = some (.slice A315_1 ((rd_T53 l0_5 x5_2).f1).length c315_1) ∧ w'.cell? ⟨(ad315.add ((x5_2).toNat * 8)).block, (ad315.add ((x5_2).toNat * 8)).off + 2, none⟩ = some (.int .i64 ((rd_T53 l0_5 x5_2).f2.f0)) ∧ w'.cell? ⟨(ad315.add ((x5_2).toNat * 8)).block, (ad315.add ((x5_2).toNat * 8)).off + 3, none⟩ = some (.string ((rd_T53 l0_5 x5_2).f2.f1)) ∧ w'.cell? ⟨(ad315.add ((x5_2).toNat * 8)).block, (ad315.add ((x5_2).toNat * 8)).off + 4, none⟩ = some (.int .i64 ((rd_T53 l0_5 x5_2).f2.f2)) ∧ w'.cell? ⟨(ad315.add ((x5_2).toNat * 8)).block, (ad315.add ((x5_2).toNat * 8)).off + 5, none⟩ = some (.slice A315_5 ((rd_T53 l0_5 x5_2).f2.f3).length c315_5) ∧ w'.cell? ⟨(ad315.add ((x5_2).toNat * 8)).block, (ad315.add ((x5_2).toNat * 8)).off + 6, none⟩ = some (.slice A315_6 ((rd_T53 l0_5 x5_2).f2.f4).length c315_6) ∧ w'.cell? ⟨(ad315.add ((x5_2).toNat * 8)).block, (ad315.add ((x5_2).toNat * 8)).off + 7, none⟩ = some (.slice A315_7 ((rd_T53 l0_5 x5_2).f2.f5).length c315_7)) (ds := [27]) #[false, false, false, false, false, false, false, false, false, false, false, false, false, false, false, false, false, false, false, false, false, false, false, false, false, false, false, false] (by kernel_rfl) rfl rfl ⟨(blk_cell BK298.out 0).trans rfl, (blk_cell BK298.out 1).trans rfl, (blk_cell BK298.out 2).trans rfl, (blk_cell BK298.out 3).trans rfl, (blk_cell BK298.out 4).trans rfl, (blk_cell BK298.out 5).trans rfl, (blk_cell BK293.out 0).trans rfl, (blk_cell BK293.out 1).trans rfl, (blk_cell BK293.out 2).trans rfl, (blk_cell BK293.out 3).trans rfl, (blk_cell BK293.out 4).trans rfl, (blk_cell BK293.out 5).trans rfl, (lc_ HB.out hw315_0), (lc_ HB.out hw315_1), (lc_ HB.out hw315_2), (lc_ HB.out hw315_3), (lc_ HB.out hw315_4), (lc_ HB.out hw315_5), (lc_ HB.out hw315_6), (lc_ HB.out hw315_7), (lc_ HB.out hw319_0), (lc_ HB.out hw319_1), (lc_ HB.out hw319_2), (lc_ HB.out hw319_3), (lc_ HB.out hw319_4), (lc_ HB.out hw319_5), (lc_ HB.out hw319_6), (lc_ HB.out hw319_7), (lc_ HB.out hw323_0), (lc_ HB.out hw323_1), (lc_ HB.out hw323_2), (lc_ HB.out hw323_3), (lc_ HB.out hw323_4), (lc_ HB.out hw323_5), (lc_ HB.out hw323_6), (lc_ HB.out hw323_7)⟩ (fun hHeld => ?_); refine with_tabW spec_l3Copy.tab9 spec_l3Copy.bits9 (fun HT_ HW_ => ?_)
          generalize wr.drew = w43 at HO_299003 HO_299004 HO_299005 BK293 BK294 BK298 HB HR315_1 HR315_5 HR315_6 HR315_7 HR319_1 HR319_5 HR319_6 HR319_7 HR323_1 HR323_5 HR323_6 HR323_7 hx315_0 hx315_1 hx315_2 hx315_3 hx315_4 hx315_5 hx315_6 hx315_7 hx319_0 hx319_1 hx319_2 hx319_3 hx319_4 hx319_5 hx319_6 hx319_7 hx323_0 hx323_1 hx323_2 hx323_3 hx323_4 hx323_5 hx323_6 hx323_7 hHeld ⊢
          refine pure_ (i := 0) (N := some 41) (v := ?_) (a' := ?_) #[true, false, false, false, false, false, false, false, false, false, false, false, false, false, false, false, false, false, false, false, false, false, false, false, false, false, false, false] rfl rfl (any_of HT_.out (by kernel_rfl)) (fun _ _ _ h => h) (Or.inl ⟨by rfl, ?_⟩) ?_ ?_
          rotate_left
          ·intro w'
           go_simp
           with_reducible rfl
          rotate_left
          ·simp only [Act.put, List.setIfInBounds_toArray, List.set_cons_zero, List.set_cons_succ, i64_w, i32_w]
           rfl
          refine pure_ (i := 2) (N := some 43) (v := ?_) (a' := ?_) #[true, false, true, false, false, false, false, false, false, false, false, false, false, false, false, false, false, false, false, false, false, false, false, false, false, false, false, false] rfl rfl (any_of HT_.out (by kernel_rfl)) (fun _ _ _ h => h) (Or.inl ⟨by rfl, ?_⟩) ?_ ?_
          rotate_left
          ·intro w'
           go_simp
           with_reducible rfl
          rotate_left
          ·simp only [Act.put, List.setIfInBounds_toArray, List.set_cons_zero, List.set_cons_succ, i64_w, i32_w]
           rfl
          refine pure_ (i := 4) (N := some 45) (v := ?_) (a' := ?_) #[true, false, true, false, true, false, false, false, false, false, false, false, false, false, false, false, false, false, false, false, false, false, false, false, false, false, false, false] rfl rfl (any_of HT_.out (by kernel_rfl)) (fun _ _ _ h => h) (Or.inl ⟨by rfl, ?_⟩) ?_ ?_
          rotate_left
          ·intro w'
           go_simp
           with_reducible rfl
          rotate_left
          ·simp only [Act.put, List.setIfInBounds_toArray, List.set_cons_zero, List.set_cons_succ, i64_w, i32_w]
           rfl
          refine pure_ (i := 9) (N := some 50) (v := ?_) (a' := ?_) #[true, false, true, false, true, false, false, false, false, true, false, false, false, false, false, false, false, false, false, false, false, false, false, false, false, false, false, false] rfl rfl (any_of HT_.out (by kernel_rfl)) (fun _ _ _ h => h) (Or.inl ⟨by rfl, ?_⟩) ?_ ?_
          rotate_left
          ·intro w'
           go_simp
           with_reducible rfl
          rotate_left
          ·simp only [Act.put, List.setIfInBounds_toArray, List.set_cons_zero, List.set_cons_succ, i64_w, i32_w]
           rfl
          refine pure_ (i := 11) (N := some 52) (v := ?_) (a' := ?_) #[true, false, true, false, true, false, false, false, false, true, false, true, false, false, false, false, false, false, false, false, false, false, false, false, false, false, false, false] rfl rfl (any_of HT_.out (by kernel_rfl)) (fun _ _ _ h => h) (Or.inl ⟨by rfl, ?_⟩) ?_ ?_
          rotate_left
          ·intro w'
           go_simp
           with_reducible rfl
          rotate_left
          ·simp only [Act.put, List.setIfInBounds_toArray, List.set_cons_zero, List.set_cons_succ, i64_w, i32_w]
           rfl
          refine pure_ (i := 16) (N := some 57) (v := ?_) (a' := ?_) #[true, false, true, false, true, false, false, false, false, true, false, true, false, false, false, false, true, false, false, false, false, false, false, false, false, false, false, false] rfl rfl (any_of HT_.out (by kernel_rfl)) (fun _ _ _ h => h) (Or.inl ⟨by rfl, ?_⟩) ?_ ?_
          rotate_left
          ·intro w'
           go_simp
           with_reducible rfl
          rotate_left
          ·simp only [Act.put, List.setIfInBounds_toArray, List.set_cons_zero, List.set_cons_succ, i64_w, i32_w]
           rfl
          refine pure_ (i := 18) (N := some 59) (v := ?_) (a' := ?_) #[true, false, true, false, true, false, false, false, false, true, false, true, false, false, false, false, true, false, true, false, false, false, false, false, false, false, false, false] rfl rfl (any_of HT_.out (by kernel_rfl)) (fun _ _ _ h => h) (Or.inl ⟨by rfl, ?_⟩) ?_ ?_
          rotate_left
          ·intro w'
           go_simp
           with_reducible rfl
          rotate_left
          ·simp only [Act.put, List.setIfInBounds_toArray, List.set_cons_zero, List.set_cons_succ, i64_w, i32_w]
           rfl
          refine take_ (i := 1) (N := some 42) (v := ?_) (a' := ?_) #[true, true, true, false, true, false, false, false, false, true, false, true, false, false, false, false, true, false, true, false, false, false, false, false, false, false, false, false] rfl rfl (take_ofW HT_.out HW_.out (by kernel_rfl)) (fun _ _ _ h => h) (Or.inl ⟨by rfl, ?_⟩) hHeld ?_ ?_
          rotate_left
          ·rintro w' ⟨s0, s1, s2, s3, s4, s5, s6, s7, s8, s9, s10, s11, s12, s13, s14, s15, s16, s17, s18, s19, s20, s21, s22, s23, s24, s25, s26, s27, s28, s29, s30, s31, s32, s33, s34, s35⟩
           go_simp
           with_reducible rfl
          rotate_left
          ·simp only [Act.put, List.setIfInBounds_toArray, List.set_cons_zero, List.set_cons_succ, i64_w, i32_w]
           rfl
          refine take_ (i := 3) (N := some 44) (v := ?_) (a' := ?_) #[true, true, true, true, true, false, false, false, false, true, false, true, false, false, false, false, true, false, true, false, false, false, false, false, false, false, false, false] rfl rfl (take_ofW HT_.out HW_.out (by kernel_rfl)) (fun _ _ _ h => h) (Or.inl ⟨by rfl, ?_⟩) hHeld ?_ ?_
          rotate_left
          ·rintro w' ⟨s0, s1, s2, s3, s4, s5, s6, s7, s8, s9, s10, s11, s12, s13, s14, s15, s16, s17, s18, s19, s20, s21, s22, s23, s24, s25, s26, s27, s28, s29, s30, s31, s32, s33, s34, s35⟩
           go_simp
           with_reducible rfl
          rotate_left
          ·simp only [Act.put, List.setIfInBounds_toArray, List.set_cons_zero, List.set_cons_succ, i64_w, i32_w]
           rfl
          refine pure_ (i := 5) (N := some 46) (v := ?_) (a' := ?_) #[true, true, true, true, true, true, false, false, false, true, false, true, false, false, false, false, true, false, true, false, false, false, false, false, false, false, false, false] rfl rfl (any_of HT_.out (by kernel_rfl)) (fun _ _ _ h => h) (Or.inl ⟨by rfl, ?_⟩) ?_ ?_
          rotate_left
          ·intro w'
           go_simp
           with_reducible rfl
          rotate_left
          ·simp only [Act.put, List.setIfInBounds_toArray, List.set_cons_zero, List.set_cons_succ, i64_w, i32_w]
           rfl
          refine pure_ (i := 6) (N := some 47) (v := ?_) (a' := ?_) #[true, true, true, true, true, true, true, false, false, true, false, true, false, false, false, false, true, false, true, false, false, false, false, false, false, false, false, false] rfl rfl (any_of HT_.out (by kernel_rfl)) (fun _ _ _ h => h) (Or.inl ⟨by rfl, ?_⟩) ?_ ?_
          rotate_left
          ·intro w'
           go_simp
           with_reducible rfl
          rotate_left
          ·simp only [Act.put, List.setIfInBounds_toArray, List.set_cons_zero, List.set_cons_succ, i64_w, i32_w]
           rfl
          refine take_ (i := 7) (N := some 48) (v := ?_) (a' := ?_) #[true, true, true, true, true, true, true, true, false, true, false, true, false, false, false, false, true, false, true, false, false, false, false, false, false, false, false, false] rfl rfl (take_ofW HT_.out HW_.out (by kernel_rfl)) (fun _ _ _ h => h) (Or.inl ⟨by rfl, ?_⟩) hHeld ?_ ?_
          rotate_left
          ·rintro w' ⟨s0, s1, s2, s3, s4, s5, s6, s7, s8, s9, s10, s11, s12, s13, s14, s15, s16, s17, s18, s19, s20, s21, s22, s23, s24, s25, s26, s27, s28, s29, s30, s31, s32, s33, s34, s35⟩
           go_simp
           with_reducible rfl
          rotate_left
          ·simp only [Act.put, List.setIfInBounds_toArray, List.set_cons_zero, List.set_cons_succ, i64_w, i32_w]
           rfl
          refine take_ (i := 10) (N := some 51) (v := ?_) (a' := ?_) #[true, true, true, true, true, true, true, true, false, true, true, true, false, false, false, false, true, false, true, false, false, false, false, false, false, false, false, false] rfl rfl (take_ofW HT_.out HW_.out (by kernel_rfl)) (fun _ _ _ h => h) (Or.inl ⟨by rfl, ?_⟩) hHeld ?_ ?_
          rotate_left
          ·rintro w' ⟨s0, s1, s2, s3, s4, s5, s6, s7, s8, s9, s10, s11, s12, s13, s14, s15, s16, s17, s18, s19, s20, s21, s22, s23, s24, s25, s26, s27, s28, s29, s30, s31, s32, s33, s34, s35⟩
           go_simp
           with_reducible rfl
          rotate_left
          ·simp only [Act.put, List.setIfInBounds_toArray, List.set_cons_zero, List.set_cons_succ, i64_w, i32_w]
           rfl
          refine pure_ (i := 12) (N := some 53) (v := ?_) (a' := ?_) #[true, true, true, true, true, true, true, true, false, true, true, true, true, false, false, false, true, false, true, false, false, false, false, false, false, false, false, false] rfl rfl (any_of HT_.out (by kernel_rfl)) (fun _ _ _ h => h) (Or.inl ⟨by rfl, ?_⟩) ?_ ?_
          rotate_left
          ·intro w'
           go_simp
           with_reducible rfl
          rotate_left
          ·simp only [Act.put, List.setIfInBounds_toArray, List.set_cons_zero, List.set_cons_succ, i64_w, i32_w]
           rfl
          refine pure_ (i := 13) (N := some 54) (v := ?_) (a' := ?_) #[true, true, true, true, true, true, true, true, false, true, true, true, true, true, false, false, true, false, true, false, false, false, false, false, false, false, false, false] rfl rfl (any_of HT_.out (by kernel_rfl)) (fun _ _ _ h => h) (Or.inl ⟨by rfl, ?_⟩) ?_ ?_
          rotate_left
          ·intro w'
           go_simp
           with_reducible rfl
          rotate_left
          ·simp only [Act.put, List.setIfInBounds_toArray, List.set_cons_zero, List.set_cons_succ, i64_w, i32_w]
           rfl
          refine take_ (i := 14) (N := some 55) (v := ?_) (a' := ?_) #[true, true, true, true, true, true, true, true, false, true, true, true, true, true, true, false, true, false, true, false, false, false, false, false, false, false, false, false] rfl rfl (take_ofW HT_.out HW_.out (by kernel_rfl)) (fun _ _ _ h => h) (Or.inl ⟨by rfl, ?_⟩) hHeld ?_ ?_
          rotate_left
          ·rintro w' ⟨s0, s1, s2, s3, s4, s5, s6, s7, s8, s9, s10, s11, s12, s13, s14, s15, s16, s17, s18, s19, s20, s21, s22, s23, s24, s25, s26, s27, s28, s29, s30, s31, s32, s33, s34, s35⟩
           go_simp
           with_reducible rfl
          rotate_left
          ·simp only [Act.put, List.setIfInBounds_toArray, List.set_cons_zero, List.set_cons_succ, i64_w, i32_w]
           rfl
          refine take_ (i := 17) (N := some 58) (v := ?_) (a' := ?_) #[true, true, true, true, true, true, true, true, false, true, true, true, true, true, true, false, true, true, true, false, false, false, false, false, false, false, false, false] rfl rfl (take_ofW HT_.out HW_.out (by kernel_rfl)) (fun _ _ _ h => h) (Or.inl ⟨by rfl, ?_⟩) hHeld ?_ ?_
          rotate_left
          ·rintro w' ⟨s0, s1, s2, s3, s4, s5, s6, s7, s8, s9, s10, s11, s12, s13, s14, s15, s16, s17, s18, s19, s20, s21, s22, s23, s24, s25, s26, s27, s28, s29, s30, s31, s32, s33, s34, s35⟩
           go_simp
           with_reducible rfl
          rotate_left
          ·simp only [Act.put, List.setIfInBounds_toArray, List.set_cons_zero, List.set_cons_succ, i64_w, i32_w]
           rfl
          refine pure_ (i := 19) (N := some 60) (v := ?_) (a' := ?_) #[true, true, true, true, true, true, true, true, false, true, true, true, true, true, true, false, true, true, true, true, false, false, false, false, false, false, false, false] rfl rfl (any_of HT_.out (by kernel_rfl)) (fun _ _ _ h => h) (Or.inl ⟨by rfl, ?_⟩) ?_ ?_
          rotate_left
          ·intro w'
           go_simp
           with_reducible rfl
          rotate_left
          ·simp only [Act.put, List.setIfInBounds_toArray, List.set_cons_zero, List.set_cons_succ, i64_w, i32_w]
           rfl
          refine pure_ (i := 20) (N := some 61) (v := ?_) (a' := ?_) #[true, true, true, true, true, true, true, true, false, true, true, true, true, true, true, false, true, true, true, true, true, false, false, false, false, false, false, false] rfl rfl (any_of HT_.out (by kernel_rfl)) (fun _ _ _ h => h) (Or.inl ⟨by rfl, ?_⟩) ?_ ?_
          rotate_left
          ·intro w'
           go_simp
           with_reducible rfl
          rotate_left
          ·simp only [Act.put, List.setIfInBounds_toArray, List.set_cons_zero, List.set_cons_succ, i64_w, i32_w]
           rfl
          refine take_ (i := 21) (N := some 62) (v := ?_) (a' := ?_) #[true, true, true, true, true, true, true, true, false, true, true, true, true, true, true, false, true, true, true, true, true, true, false, false, false, false, false, false] rfl rfl (take_ofW HT_.out HW_.out (by kernel_rfl)) (fun _ _ _ h => h) (Or.inl ⟨by rfl, ?_⟩) hHeld ?_ ?_
          rotate_left
          ·rintro w' ⟨s0, s1, s2, s3, s4, s5, s6, s7, s8, s9, s10, s11, s12, s13, s14, s15, s16, s17, s18, s19, s20, s21, s22, s23, s24, s25, s26, s27, s28, s29, s30, s31, s32, s33, s34, s35⟩
           go_simp
           with_reducible rfl
          rotate_left
          ·simp only [Act.put, List.setIfInBounds_toArray, List.set_cons_zero, List.set_cons_succ, i64_w, i32_w]
           rfl
          refine one_ (i := 8) (N := some 49) #[true, true, true, true, true, true, true, true, true, true, true, true, true, true, true, false, true, true, true, true, true, true, false, false, false, false, false, false] rfl rfl (one_of HT_.out (by kernel_rfl)) (by decide) (fun K hK => ?_)
          refine Kd.R_lit_step Kd.string _ 9 ?hg (N := 49) ?hd (xs := ([] : List ByteArray)) (inner := []) (ok := fun _ => True) (okp := fun _ => True) ?hr ?hp (fun _ hk => hk) trivial (Below.refl _ _) (Nat.le_refl _) (by simp) ?_; (case hd => rfl); (case hg => rfl); (case hr => first | (go_simp; done) | (go_simp; rfl)); (case hp => exact (Reps.none _ _))
          intro v317 w44 ho45 hb hg_ hnew_
          clear hg_ hnew_
          (first | rw [← Ny316.out] at ho45 | (simp only [Int.reduceToNat] at ho45; rw [← Ny316.out] at ho45))
          have n0_ := Aside0.mk (Kd.R_elder' (by (with_reducible repeat (first | apply Kd.R_alloc | apply Kd.R_drewN | apply Kd.R_drew)); exact HO_299003.out) (Kd.R_base ho45) hb)
          have n1_ := Aside0.mk (Kd.R_elder' (by (with_reducible repeat (first | apply Kd.R_alloc | apply Kd.R_drewN | apply Kd.R_drew)); exact HO_299004.out) (Kd.R_base ho45) hb)
          have n2_ := Aside0.mk (Kd.R_elder' (by (with_reducible repeat (first | apply Kd.R_alloc | apply Kd.R_drewN | apply Kd.R_drew)); exact HO_299005.out) (Kd.R_base ho45) hb)
          have n3_ := Aside0.mk (Kd.R_lower ho45 (below_size (by repeat (first | (with_reducible first | exact HB.out | apply below_alloc | apply pw_below_drewN | apply below_drew1 | refine below_set ?_ GE293.out | refine below_set ?_ GE294.out | refine below_set ?_ GE298.out) | exact HB.out))))
          have n4_ := Aside0.mk (blk_below (g := gb293) BK293.out hb)
          have n5_ := Aside0.mk (blk_below (g := gb294) BK294.out hb)
          have n6_ := Aside0.mk (blk_below (g := gb298) BK298.out hb)
          have n7_ := Aside0.mk (below_step (by repeat (first | (with_reducible first | exact HB.out | apply below_alloc | apply pw_below_drewN | apply below_drew1 | refine below_set ?_ GE293.out | refine below_set ?_ GE294.out | refine below_set ?_ GE298.out) | exact HB.out)) hb)
          clear HO_299003
          clear HO_299004
          clear HO_299005
          clear BK293
          clear BK294
          clear BK298
          clear HB
          have HO_299003 := n0_
          have HO_299004 := n1_
          have HO_299005 := n2_
          have HO318 := n3_
          have BK293 := n4_
          have BK294 := n5_
          have BK298 := n6_
          have HB := n7_
          clear n0_ n1_ n2_ n3_ n4_ n5_ n6_ n7_
          clear hb ho45
          refine hK.out _ _ ⟨(blk_cell BK298.out 0).trans rfl, (blk_cell BK298.out 1).trans rfl, (blk_cell BK298.out 2).trans rfl, (blk_cell BK298.out 3).trans rfl, (blk_cell BK298.out 4).trans rfl, (blk_cell BK298.out 5).trans rfl, (blk_cell BK293.out 0).trans rfl, (blk_cell BK293.out 1).trans rfl, (blk_cell BK293.out 2).trans rfl, (blk_cell BK293.out 3).trans rfl, (blk_cell BK293.out 4).trans rfl, (blk_cell BK293.out 5).trans rfl, (lc_ HB.out hw315_0), (lc_ HB.out hw315_1), (lc_ HB.out hw315_2), (lc_ HB.out hw315_3), (lc_ HB.out hw315_4), (lc_ HB.out hw315_5), (lc_ HB.out hw315_6), (lc_ HB.out hw315_7), (lc_ HB.out hw319_0), (lc_ HB.out hw319_1), (lc_ HB.out hw319_2), (lc_ HB.out hw319_3), (lc_ HB.out hw319_4), (lc_ HB.out hw319_5), (lc_ HB.out hw319_6), (lc_ HB.out hw319_7), (lc_ HB.out hw323_0), (lc_ HB.out hw323_1), (lc_ HB.out hw323_2), (lc_ HB.out hw323_3), (lc_ HB.out hw323_4), (lc_ HB.out hw323_5), (lc_ HB.out hw323_6), (lc_ HB.out hw323_7)⟩ (fun hHeld => ?_)
          clear hK K
          refine norm_ (a' := ?_) ?_ ?_
          rotate_left
          ·show Act.put _ (some 49) _ = _
           simp only [Act.put, List.setIfInBounds_toArray, List.set_cons_zero, List.set_cons_succ, i64_w, i32_w]
           rfl
          refine one_ (i := 15) (N := some 56) #[true, true, true, true, true, true, true, true, true, true, true, true, true, true, true, true, true, true, true, true, true, true, false, false, false, false, false, false] rfl rfl (one_of HT_.out (by kernel_rfl)) (by decide) (fun K hK => ?_)
          refine Kd.R_append_rows_step Kd.string (w0 := w) w.heap.size (by rfl) (.tmp 49) (.tmp 55) 51 9 (.string ⟨#[]⟩) 16 rfl Try.underlying51 info9 rfl (by decide) (by omega) v317 y316 ((rd_T53 l0_5 x5_2).f1) _ _ _ (fun _ => True) (fun _ => False) rfl rfl ?aO ?aR (fun _ _ h => h) (fun _ h => h.elim) ?aF ?aB ?aS ?aL ?_
          (case aR => repeat (first | exact (Kd.C_below HR319_1.out HB.out) | (with_reducible refine Kd.C_alloc ?_ _) | (with_reducible refine Kd.C_drewN ?_ _) | (with_reducible refine Kd.C_drew ?_)))
          (case aB => exact (by repeat (first | (with_reducible first | exact HB.out | apply below_alloc | apply pw_below_drewN | apply below_drew1 | refine below_set ?_ GE293.out | refine below_set ?_ GE294.out | refine below_set ?_ GE298.out) | exact HB.out)))
          (case aF => exact (fun _ _ => trivial))
          (case aO => exact (by (with_reducible repeat (first | apply Kd.R_alloc | apply Kd.R_drewN | apply Kd.R_drew)); exact HO318.out))
          (case aS => exact (below_size (by repeat (first | (with_reducible first | exact HB.out | apply below_alloc | apply pw_below_drewN | apply below_drew1 | refine below_set ?_ GE293.out | refine below_set ?_ GE294.out | refine below_set ?_ GE298.out) | exact HB.out))))
          (case aL => have := LMc37.out; omega)
          intro v321 w46 ho hb hg hat
          rw [← Ny320.out] at ho
          have n0_ := Aside0.mk (Kd.R_after (ok := (fun k_ => some k_ ≠ (.slice Ao10 t295.length co10 : Value).ownBlock ∧ some k_ ≠ (u299005 : Value).ownBlock ∧ k_ ≠ gb293 ∧ k_ ≠ gb294 ∧ k_ ≠ gb298)) (by (with_reducible repeat (first | apply Kd.R_alloc | apply Kd.R_drewN | apply Kd.R_drew)); exact HO_299003.out) hg hat)
          have n1_ := Aside0.mk (Kd.R_after (ok := (fun k_ => some k_ ≠ (u299003 : Value).ownBlock ∧ some k_ ≠ (u299005 : Value).ownBlock ∧ k_ ≠ gb293 ∧ k_ ≠ gb294 ∧ k_ ≠ gb298)) (by (with_reducible repeat (first | apply Kd.R_alloc | apply Kd.R_drewN | apply Kd.R_drew)); exact HO_299004.out) hg hat)
          have n2_ := Aside0.mk (Kd.R_after (ok := (fun k_ => some k_ ≠ (u299003 : Value).ownBlock ∧ some k_ ≠ (.slice Ao10 t295.length co10 : Value).ownBlock ∧ k_ ≠ gb293 ∧ k_ ≠ gb294 ∧ k_ ≠ gb298)) (by (with_reducible repeat (first | apply Kd.R_alloc | apply Kd.R_drewN | apply Kd.R_drew)); exact HO_299005.out) hg hat)
          have n3_ := Aside0.mk (blk_grown (g := gb293) (o := .cells #[.int .i64 a0_0, .string a0_1, .int .i64 a0_2, .slice A0_3 l0_3.length c0_3, .slice A0_4 l0_4.length c0_4, .slice (some ad315) l0_5.length c0_5] 33 (0, 0)) BK293.out hg (Kd.R_ne HO318.out BK293.out (by decide)))
          have n4_ := Aside0.mk (blk_grown (g := gb294) (o := .cells #[.int .i64 0, .string (⟨#[]⟩ : ByteArray), .int .i64 0, .slice none 0 0, .slice none 0 0, .slice none 0 0] 33 (0, 0)) BK294.out hg (Kd.R_ne HO318.out BK294.out (by decide)))
          have n5_ := Aside0.mk (blk_grown (g := gb298) (o := .cells #[.int .i64 a0_0, .string a0_1, .int .i64 a0_2, u299003, .slice Ao10 t295.length co10, u299005] 33 (0, 0)) BK298.out hg (Kd.R_ne HO318.out BK298.out (by decide)))
          have n6_ := Aside0.mk (hb)
          have n7_ := Aside0.mk (ho)
          clear HO_299003
          clear HO_299004
          clear HO_299005
          clear BK293
          clear BK294
          clear BK298
          clear HB
          clear HO318
          have HO_299003 := n0_
          have HO_299004 := n1_
          have HO_299005 := n2_
          have BK293 := n3_
          have BK294 := n4_
          have BK298 := n5_
          have HB := n6_
          have HO322 := n7_
          clear n0_ n1_ n2_ n3_ n4_ n5_ n6_ n7_
          clear ho hb hg hat
          refine hK.out _ _ ⟨(blk_cell BK298.out 0).trans rfl, (blk_cell BK298.out 1).trans rfl, (blk_cell BK298.out 2).trans rfl, (blk_cell BK298.out 3).trans rfl, (blk_cell BK298.out 4).trans rfl, (blk_cell BK298.out 5).trans rfl, (blk_cell BK293.out 0).trans rfl, (blk_cell BK293.out 1).trans rfl, (blk_cell BK293.out 2).trans rfl, (blk_cell BK293.out 3).trans rfl, (blk_cell BK293.out 4).trans rfl, (blk_cell BK293.out 5).trans rfl, (lc_ HB.out hw315_0), (lc_ HB.out hw315_1), (lc_ HB.out hw315_2), (lc_ HB.out hw315_3), (lc_ HB.out hw315_4), (lc_ HB.out hw315_5), (lc_ HB.out hw315_6), (lc_ HB.out hw315_7), (lc_ HB.out hw319_0), (lc_ HB.out hw319_1), (lc_ HB.out hw319_2), (lc_ HB.out hw319_3), (lc_ HB.out hw319_4), (lc_ HB.out hw319_5), (lc_ HB.out hw319_6), (lc_ HB.out hw319_7), (lc_ HB.out hw323_0), (lc_ HB.out hw323_1), (lc_ HB.out hw323_2), (lc_ HB.out hw323_3), (lc_ HB.out hw323_4), (lc_ HB.out hw323_5), (lc_ HB.out hw323_6), (lc_ HB.out hw323_7)⟩ (fun hHeld => ?_)
          clear hK K
          refine norm_ (a' := ?_) ?_ ?_
          rotate_left
          ·show Act.put _ (some 56) _ = _
           simp only [Act.put, List.setIfInBounds_toArray, List.set_cons_zero, List.set_cons_succ, i64_w, i32_w]
           rfl
          refine one_ (i := 22) (N := some 63) #[true, true, true, true, true, true, true, true, true, true, true, true, true, true, true, true, true, true, true, true, true, true, true, false, false, false, false, false] rfl rfl (one_of HT_.out (by kernel_rfl)) (by decide) (fun K hK => ?_)
          refine goes_ Try.func35 (by kernel_rfl) rfl #[.agg #[.int .i64 ((rd_T53 l0_5 x5_2).f2.f0), .string ((rd_T53 l0_5 x5_2).f2.f1), .int .i64 ((rd_T53 l0_5 x5_2).f2.f2), .slice A315_5 ((rd_T53 l0_5 x5_2).f2.f3).length c315_5, .slice A315_6 ((rd_T53 l0_5 x5_2).f2.f4).length c315_6, .slice A315_7 ((rd_T53 l0_5 x5_2).f2.f5).length c315_7]] (by rfl) rfl rfl (by (try simp only [List.map_toArray, List.map_cons, List.map_nil]); first | done | rfl | (simp only [List.length_drop, List.length_take]; rfl)) ?_
          with_reducible refine (ih_35 k2 (by have := HK1.out; have := HK2.out; omega) ((rd_T53 l0_5 x5_2).f2.f0) ((rd_T53 l0_5 x5_2).f2.f1) ((rd_T53 l0_5 x5_2).f2.f2) _ _ ((rd_T53 l0_5 x5_2).f2.f3) _ _ ((rd_T53 l0_5 x5_2).f2.f4) _ _ ((rd_T53 l0_5 x5_2).f2.f5) t324 t325 t326 t327 t330 t333 _ ?side1 ?side2 ?side3 ?side4 ?side5 ?side6 A38.out).mono ?_
          (case side1 => repeat (first | exact (Kd.C_below HR323_5.out HB.out) | (with_reducible refine Kd.C_alloc ?_ _) | (with_reducible refine Kd.C_drewN ?_ _) | (with_reducible refine Kd.C_drew ?_)))
          (case side2 => exact HC323_5.out)
          (case side3 => repeat (first | exact (Kd.C_below HR323_6.out HB.out) | (with_reducible refine Kd.C_alloc ?_ _) | (with_reducible refine Kd.C_drewN ?_ _) | (with_reducible refine Kd.C_drew ?_)))
          (case side4 => exact HC323_6.out)
          (case side5 => repeat (first | exact (Kd.C_below HR323_7.out HB.out) | (with_reducible refine Kd.C_alloc ?_ _) | (with_reducible refine Kd.C_drewN ?_ _) | (with_reducible refine Kd.C_drew ?_)))
          (case side6 => exact HC323_7.out)
          rintro e w47 ⟨v328, v331, v334, rfl, ho0, ho1, ho2, hb⟩
          refine ⟨_, rfl, ?_⟩
          have n0_ := Aside0.mk (Kd.R_mono (Kd.R_told (Kd.R_told (Kd.R_told (Kd.R_old (by (with_reducible repeat (first | apply Kd.R_alloc | apply Kd.R_drewN | apply Kd.R_drew)); exact HO_299003.out) hb) (Kd.R_base ho0)) (Kd.R_base ho1)) (Kd.R_base ho2)) (fun _ h_ => h_.1))
          have n1_ := Aside0.mk (Kd.R_mono (Kd.R_told (Kd.R_told (Kd.R_told (Kd.R_old (by (with_reducible repeat (first | apply Kd.R_alloc | apply Kd.R_drewN | apply Kd.R_drew)); exact HO_299004.out) hb) (Kd.R_base ho0)) (Kd.R_base ho1)) (Kd.R_base ho2)) (fun _ h_ => h_.1))
          have n2_ := Aside0.mk (Kd.R_mono (Kd.R_told (Kd.R_told (Kd.R_told (Kd.R_old (by (with_reducible repeat (first | apply Kd.R_alloc | apply Kd.R_drewN | apply Kd.R_drew)); exact HO_299005.out) hb) (Kd.R_base ho0)) (Kd.R_base ho1)) (Kd.R_base ho2)) (fun _ h_ => h_.1))
          have n3_ := Aside0.mk (Kd.R_below (by (with_reducible repeat (first | apply Kd.R_alloc | apply Kd.R_drewN | apply Kd.R_drew)); exact HO322.out) hb)
          have n4_ := Aside0.mk (Kd.R_lower (Kd.R_newB (Kd.R_newB (Kd.R_newB (Kd.R_new' (Kd.R_new' (Kd.R_new' (Kd.R_new' ho0 (Kd.R_lt (by (with_reducible repeat (first | apply Kd.R_alloc | apply Kd.R_drewN | apply Kd.R_drew)); exact HO_299003.out))) (Kd.R_lt (by (with_reducible repeat (first | apply Kd.R_alloc | apply Kd.R_drewN | apply Kd.R_drew)); exact HO_299004.out))) (Kd.R_lt (by (with_reducible repeat (first | apply Kd.R_alloc | apply Kd.R_drewN | apply Kd.R_drew)); exact HO_299005.out))) (Kd.R_lt (by (with_reducible repeat (first | apply Kd.R_alloc | apply Kd.R_drewN | apply Kd.R_drew)); exact HO322.out))) (g := gb293) (o := .cells #[.int .i64 a0_0, .string a0_1, .int .i64 a0_2, .slice A0_3 l0_3.length c0_3, .slice A0_4 l0_4.length c0_4, .slice (some ad315) l0_5.length c0_5] 33 (0, 0)) BK293.out) (g := gb294) (o := .cells #[.int .i64 0, .string (⟨#[]⟩ : ByteArray), .int .i64 0, .slice none 0 0, .slice none 0 0, .slice none 0 0] 33 (0, 0)) BK294.out) (g := gb298) (o := .cells #[.int .i64 a0_0, .string a0_1, .int .i64 a0_2, u299003, .slice Ao10 t295.length co10, u299005] 33 (0, 0)) BK298.out) (below_size (by repeat (first | (with_reducible first | exact HB.out | apply below_alloc | apply pw_below_drewN | apply below_drew1 | refine below_set ?_ GE293.out | refine below_set ?_ GE294.out | refine below_set ?_ GE298.out) | exact HB.out))))
          have n5_ := Aside0.mk (Kd.R_lower (Kd.R_newB (Kd.R_newB (Kd.R_newB (Kd.R_new' (Kd.R_new' (Kd.R_new' (Kd.R_new' ho1 (Kd.R_lt (by (with_reducible repeat (first | apply Kd.R_alloc | apply Kd.R_drewN | apply Kd.R_drew)); exact HO_299003.out))) (Kd.R_lt (by (with_reducible repeat (first | apply Kd.R_alloc | apply Kd.R_drewN | apply Kd.R_drew)); exact HO_299004.out))) (Kd.R_lt (by (with_reducible repeat (first | apply Kd.R_alloc | apply Kd.R_drewN | apply Kd.R_drew)); exact HO_299005.out))) (Kd.R_lt (by (with_reducible repeat (first | apply Kd.R_alloc | apply Kd.R_drewN | apply Kd.R_drew)); exact HO322.out))) (g := gb293) (o := .cells #[.int .i64 a0_0, .string a0_1, .int .i64 a0_2, .slice A0_3 l0_3.length c0_3, .slice A0_4 l0_4.length c0_4, .slice (some ad315) l0_5.length c0_5] 33 (0, 0)) BK293.out) (g := gb294) (o := .cells #[.int .i64 0, .string (⟨#[]⟩ : ByteArray), .int .i64 0, .slice none 0 0, .slice none 0 0, .slice none 0 0] 33 (0, 0)) BK294.out) (g := gb298) (o := .cells #[.int .i64 a0_0, .string a0_1, .int .i64 a0_2, u299003, .slice Ao10 t295.length co10, u299005] 33 (0, 0)) BK298.out) (below_size (by repeat (first | (with_reducible first | exact HB.out | apply below_alloc | apply pw_below_drewN | apply below_drew1 | refine below_set ?_ GE293.out | refine below_set ?_ GE294.out | refine below_set ?_ GE298.out) | exact HB.out))))
          have n6_ := Aside0.mk (Kd.R_lower (Kd.R_newB (Kd.R_newB (Kd.R_newB (Kd.R_new' (Kd.R_new' (Kd.R_new' (Kd.R_new' ho2 (Kd.R_lt (by (with_reducible repeat (first | apply Kd.R_alloc | apply Kd.R_drewN | apply Kd.R_drew)); exact HO_299003.out))) (Kd.R_lt (by (with_reducible repeat (first | apply Kd.R_alloc | apply Kd.R_drewN | apply Kd.R_drew)); exact HO_299004.out))) (Kd.R_lt (by (with_reducible repeat (first | apply Kd.R_alloc | apply Kd.R_drewN | apply Kd.R_drew)); exact HO_299005.out))) (Kd.R_lt (by (with_reducible repeat (first | apply Kd.R_alloc | apply Kd.R_drewN | apply Kd.R_drew)); exact HO322.out))) (g := gb293) (o := .cells #[.int .i64 a0_0, .string a0_1, .int .i64 a0_2, .slice A0_3 l0_3.length c0_3, .slice A0_4 l0_4.length c0_4, .slice (some ad315) l0_5.length c0_5] 33 (0, 0)) BK293.out) (g := gb294) (o := .cells #[.int .i64 0, .string (⟨#[]⟩ : ByteArray), .int .i64 0, .slice none 0 0, .slice none 0 0, .slice none 0 0] 33 (0, 0)) BK294.out) (g := gb298) (o := .cells #[.int .i64 a0_0, .string a0_1, .int .i64 a0_2, u299003, .slice Ao10 t295.length co10, u299005] 33 (0, 0)) BK298.out) (below_size (by repeat (first | (with_reducible first | exact HB.out | apply below_alloc | apply pw_below_drewN | apply below_drew1 | refine below_set ?_ GE293.out | refine below_set ?_ GE294.out | refine below_set ?_ GE298.out) | exact HB.out))))
          have n7_ := Aside0.mk (blk_below (g := gb293) BK293.out hb)
          have n8_ := Aside0.mk (blk_below (g := gb294) BK294.out hb)
          have n9_ := Aside0.mk (blk_below (g := gb298) BK298.out hb)
          have n10_ := Aside0.mk (below_step (by repeat (first | (with_reducible first | exact HB.out | apply below_alloc | apply pw_below_drewN | apply below_drew1 | refine below_set ?_ GE293.out | refine below_set ?_ GE294.out | refine below_set ?_ GE298.out) | exact HB.out)) hb)
          clear HO_299003
          clear HO_299004
          clear HO_299005
          clear HO322
          clear BK293
          clear BK294
          clear BK298
          clear HB
          have HO_299003 := n0_
          have HO_299004 := n1_
          have HO_299005 := n2_
          have HO322 := n3_
          have HO329 := n4_
          have HO332 := n5_
          have HO335 := n6_
          have BK293 := n7_
          have BK294 := n8_
          have BK298 := n9_
          have HB := n10_
          clear n0_ n1_ n2_ n3_ n4_ n5_ n6_ n7_ n8_ n9_ n10_
          (try clear hb)
          (try clear hb2)
          (try clear hk)
          (try clear hi)
          (try clear ho0)
          (try clear ho1)
          (try clear ho2)
          obtain ⟨Ao48, co48, eo48⟩ := Kd.R_slice HO335.out
          (first | subst eo48 | (injection eo48 with f1_ f2_ f3_; have f4_ := f1_.symm; have f5_ := f3_.symm; clear f1_ f2_ f3_; subst f4_; subst f5_))
          obtain ⟨Ao49, co49, eo49⟩ := Kd.R_slice HO332.out
          (first | subst eo49 | (injection eo49 with f1_ f2_ f3_; have f4_ := f1_.symm; have f5_ := f3_.symm; clear f1_ f2_ f3_; subst f4_; subst f5_))
          obtain ⟨Ao50, co50, eo50⟩ := Kd.R_slice HO329.out
          (first | subst eo50 | (injection eo50 with f1_ f2_ f3_; have f4_ := f1_.symm; have f5_ := f3_.symm; clear f1_ f2_ f3_; subst f4_; subst f5_))
          obtain ⟨Ao51, co51, eo51⟩ := Kd.R_slice HO322.out
          (first | subst eo51 | (injection eo51 with f1_ f2_ f3_; have f4_ := f1_.symm; have f5_ := f3_.symm; clear f1_ f2_ f3_; subst f4_; subst f5_))
          refine hK.out _ _ ⟨(blk_cell BK298.out 0).trans rfl, (blk_cell BK298.out 1).trans rfl, (blk_cell BK298.out 2).trans rfl, (blk_cell BK298.out 3).trans rfl, (blk_cell BK298.out 4).trans rfl, (blk_cell BK298.out 5).trans rfl, (blk_cell BK293.out 0).trans rfl, (blk_cell BK293.out 1).trans rfl, (blk_cell BK293.out 2).trans rfl, (blk_cell BK293.out 3).trans rfl, (blk_cell BK293.out 4).trans rfl, (blk_cell BK293.out 5).trans rfl, (lc_ HB.out hw315_0), (lc_ HB.out hw315_1), (lc_ HB.out hw315_2), (lc_ HB.out hw315_3), (lc_ HB.out hw315_4), (lc_ HB.out hw315_5), (lc_ HB.out hw315_6), (lc_ HB.out hw315_7), (lc_ HB.out hw319_0), (lc_ HB.out hw319_1), (lc_ HB.out hw319_2), (lc_ HB.out hw319_3), (lc_ HB.out hw319_4), (lc_ HB.out hw319_5), (lc_ HB.out hw319_6), (lc_ HB.out hw319_7), (lc_ HB.out hw323_0), (lc_ HB.out hw323_1), (lc_ HB.out hw323_2), (lc_ HB.out hw323_3), (lc_ HB.out hw323_4), (lc_ HB.out hw323_5), (lc_ HB.out hw323_6), (lc_ HB.out hw323_7)⟩ (fun hHeld => ?_)
          clear hK K
          refine norm_ (a' := ?_) ?_ ?_
          rotate_left
          ·show Act.put _ (some 63) _ = _
           simp only [Act.put, List.setIfInBounds_toArray, List.set_cons_zero, List.set_cons_succ, i64_w, i32_w]
           rfl
          refine pure_ (i := 23) (N := some 64) (v := ?_) (a' := ?_) #[true, true, true, true, true, true, true, true, true, true, true, true, true, true, true, true, true, true, true, true, true, true, true, true, false, false, false, false] rfl rfl (any_of HT_.out (by kernel_rfl)) (fun _ _ _ h => h) (Or.inl ⟨by rfl, ?_⟩) ?_ ?_
          rotate_left
          ·intro w'
           go_simp
           with_reducible rfl
          rotate_left
          ·simp only [Act.put, List.setIfInBounds_toArray, List.set_cons_zero, List.set_cons_succ, i64_w, i32_w]
           rfl
          refine one_ (i := 24) (N := some 65) #[true, true, true, true, true, true, true, true, true, true, true, true, true, true, true, true, true, true, true, true, true, true, true, true, true, false, false, false] rfl rfl (one_of HT_.out (by kernel_rfl)) (by decide) (fun K hK => ?_)
          refine value_ (w1 := ?_) (v := ?_) (by rfl) rfl ?_ ?_
          rotate_left 2
          ·go_simp
           constructor
           ·rfl
           ·rfl
          refine hK.out _ _ ⟨(blk_cell (blk_alloc BK298.out _) 0).trans rfl, (blk_cell (blk_alloc BK298.out _) 1).trans rfl, (blk_cell (blk_alloc BK298.out _) 2).trans rfl, (blk_cell (blk_alloc BK298.out _) 3).trans rfl, (blk_cell (blk_alloc BK298.out _) 4).trans rfl, (blk_cell (blk_alloc BK298.out _) 5).trans rfl, (blk_cell (blk_alloc BK293.out _) 0).trans rfl, (blk_cell (blk_alloc BK293.out _) 1).trans rfl, (blk_cell (blk_alloc BK293.out _) 2).trans rfl, (blk_cell (blk_alloc BK293.out _) 3).trans rfl, (blk_cell (blk_alloc BK293.out _) 4).trans rfl, (blk_cell (blk_alloc BK293.out _) 5).trans rfl, (World.cell?_alloc_lt _ _ _ (World.block_lt_of_cell? _ _ ((lc_ HB.out hw315_0)))).trans ((lc_ HB.out hw315_0)), (World.cell?_alloc_lt _ _ _ (World.block_lt_of_cell? _ _ ((lc_ HB.out hw315_1)))).trans ((lc_ HB.out hw315_1)), (World.cell?_alloc_lt _ _ _ (World.block_lt_of_cell? _ _ ((lc_ HB.out hw315_2)))).trans ((lc_ HB.out hw315_2)), (World.cell?_alloc_lt _ _ _ (World.block_lt_of_cell? _ _ ((lc_ HB.out hw315_3)))).trans ((lc_ HB.out hw315_3)), (World.cell?_alloc_lt _ _ _ (World.block_lt_of_cell? _ _ ((lc_ HB.out hw315_4)))).trans ((lc_ HB.out hw315_4)), (World.cell?_alloc_lt _ _ _ (World.block_lt_of_cell? _ _ ((lc_ HB.out hw315_5)))).trans ((lc_ HB.out hw315_5)), (World.cell?_alloc_lt _ _ _ (World.block_lt_of_cell? _ _ ((lc_ HB.out hw315_6)))).trans ((lc_ HB.out hw315_6)), (World.cell?_alloc_lt _ _ _ (World.block_lt_of_cell? _ _ ((lc_ HB.out hw315_7)))).trans ((lc_ HB.out hw315_7)), (World.cell?_alloc_lt _ _ _ (World.block_lt_of_cell? _ _ ((lc_ HB.out hw319_0)))).trans ((lc_ HB.out hw319_0)), (World.cell?_alloc_lt _ _ _ (World.block_lt_of_cell? _ _ ((lc_ HB.out hw319_1)))).trans ((lc_ HB.out hw319_1)), (World.cell?_alloc_lt _ _ _ (World.block_lt_of_cell? _ _ ((lc_ HB.out hw319_2)))).trans ((lc_ HB.out hw319_2)), (World.cell?_alloc_lt _ _ _ (World.block_lt_of_cell? _ _ ((lc_ HB.out hw319_3)))).trans ((lc_ HB.out hw319_3)), (World.cell?_alloc_lt _ _ _ (World.block_lt_of_cell? _ _ ((lc_ HB.out hw319_4)))).trans ((lc_ HB.out hw319_4)), (World.cell?_alloc_lt _ _ _ (World.block_lt_of_cell? _ _ ((lc_ HB.out hw319_5)))).trans ((lc_ HB.out hw319_5)), (World.cell?_alloc_lt _ _ _ (World.block_lt_of_cell? _ _ ((lc_ HB.out hw319_6)))).trans ((lc_ HB.out hw319_6)), (World.cell?_alloc_lt _ _ _ (World.block_lt_of_cell? _ _ ((lc_ HB.out hw319_7)))).trans ((lc_ HB.out hw319_7)), (World.cell?_alloc_lt _ _ _ (World.block_lt_of_cell? _ _ ((lc_ HB.out hw323_0)))).trans ((lc_ HB.out hw323_0)), (World.cell?_alloc_lt _ _ _ (World.block_lt_of_cell? _ _ ((lc_ HB.out hw323_1)))).trans ((lc_ HB.out hw323_1)), (World.cell?_alloc_lt _ _ _ (World.block_lt_of_cell? _ _ ((lc_ HB.out hw323_2)))).trans ((lc_ HB.out hw323_2)), (World.cell?_alloc_lt _ _ _ (World.block_lt_of_cell? _ _ ((lc_ HB.out hw323_3)))).trans ((lc_ HB.out hw323_3)), (World.cell?_alloc_lt _ _ _ (World.block_lt_of_cell? _ _ ((lc_ HB.out hw323_4)))).trans ((lc_ HB.out hw323_4)), (World.cell?_alloc_lt _ _ _ (World.block_lt_of_cell? _ _ ((lc_ HB.out hw323_5)))).trans ((lc_ HB.out hw323_5)), (World.cell?_alloc_lt _ _ _ (World.block_lt_of_cell? _ _ ((lc_ HB.out hw323_6)))).trans ((lc_ HB.out hw323_6)), (World.cell?_alloc_lt _ _ _ (World.block_lt_of_cell? _ _ ((lc_ HB.out hw323_7)))).trans ((lc_ HB.out hw323_7))⟩ (fun hHeld => ?_)
          clear hK K
          refine norm_ (a' := ?_) ?_ ?_
          rotate_left
          ·show Act.put _ (some 65) _ = _
           simp only [Act.put, List.setIfInBounds_toArray, List.set_cons_zero, List.set_cons_succ, i64_w, i32_w]
           rfl
          refine one_ (i := 25) (N := some 66) #[true, true, true, true, true, true, true, true, true, true, true, true, true, true, true, true, true, true, true, true, true, true, true, true, true, true, false, false] rfl rfl (one_of HT_.out (by kernel_rfl)) (by decide) (fun K hK => ?_)
          refine Kd.R_append_step k53 (w0 := w) w.heap.size (by rfl) (.tmp 42) (.tmp 65) 31 53 (.agg #[(.string ⟨#[]⟩), (.slice none 0 0), (.int .i64 0), (.string ⟨#[]⟩), (.int .i64 0), (.slice none 0 0), (.slice none 0 0), (.slice none 0 0)]) 144 rfl Try.underlying31 info53 rfl (by decide) (by omega) u299005 x299005_2 (⟨(rd_T53 l0_5 x5_2).f0, y320, (⟨t324, t325, t326, t327, t330, t333⟩ : S33)⟩ : S53) [.string ((rd_T53 l0_5 x5_2).f0), .slice Ao51 y320.length co51, .int .i64 t324, .string t325, .int .i64 t326, .slice Ao50 t327.length co50, .slice Ao49 t330.length co49, .slice Ao48 t333.length co48] (fun k_ => some k_ ≠ (u299003 : Value).ownBlock ∧ some k_ ≠ (.slice Ao10 t295.length co10 : Value).ownBlock ∧ k_ ≠ gb293 ∧ k_ ≠ gb294 ∧ k_ ≠ gb298) (fun k_ => ((fun k_ => some k_ ≠ (u299003 : Value).ownBlock ∧ some k_ ≠ (.slice Ao10 t295.length co10 : Value).ownBlock ∧ k_ ≠ gb293 ∧ k_ ≠ gb294 ∧ k_ ≠ gb298)) k_ ∧ some k_ ≠ (u299005 : Value).ownBlock) rfl rfl ?aP (fun _ hk => hk) ?aF ?aO ?aB ?aS ?aL ?_
          (case aP => exact k53_mkM _ _ _ (⟨(rd_T53 l0_5 x5_2).f0, y320, (⟨t324, t325, t326, t327, t330, t333⟩ : S33)⟩ : S53) (Kd.R_mono (Kd.R_types (Kd.R_types (Kd.R_types (Kd.R_apart' (Kd.R_apart' (Kd.R_apart' (HO322.out) (Kd.R_typed HO_299003.out) (by decide)) (Kd.R_typed HO_299004.out) (by decide)) (Kd.R_typed HO_299005.out) (by decide)) BK293.out (by decide)) BK294.out (by decide)) BK298.out (by decide)) (fun k_ hk => ⟨⟨hk.1.1.1.1.1.2, ⟨hk.1.1.1.1.2, ⟨hk.1.1.2, ⟨hk.1.2, hk.2⟩⟩⟩⟩, hk.1.1.1.2⟩)) (Kd.R_mono (HO329.out) (fun k_ hk => ⟨⟨hk.1.1.1.1.1.1.2, ⟨hk.1.1.1.1.1.2, ⟨hk.1.1.2, ⟨hk.1.2, hk.2⟩⟩⟩⟩, hk.1.1.1.1.2⟩)) (Kd.R_mono (HO332.out) (fun k_ hk => ⟨⟨hk.1.1.1.1.1.1.2, ⟨hk.1.1.1.1.1.2, ⟨hk.1.1.2, ⟨hk.1.2, hk.2⟩⟩⟩⟩, hk.1.1.1.1.2⟩)) (Kd.R_mono (HO335.out) (fun k_ hk => ⟨⟨hk.1.1.1.1.1.1.2, ⟨hk.1.1.1.1.1.2, ⟨hk.1.1.2, ⟨hk.1.2, hk.2⟩⟩⟩⟩, hk.1.1.1.1.2⟩)))
          (case aB => exact (by repeat (first | (with_reducible first | exact HB.out | apply below_alloc | apply pw_below_drewN | apply below_drew1 | refine below_set ?_ GE293.out | refine below_set ?_ GE294.out | refine below_set ?_ GE298.out) | exact HB.out)))
          (case aF => exact (fun k_ hk => ⟨Kd.fresh' (Kd.R_lt (by (with_reducible repeat (first | apply Kd.R_alloc | apply Kd.R_drewN | apply Kd.R_drew)); exact HO_299003.out)) k_ hk, Kd.fresh' (Kd.R_lt (by (with_reducible repeat (first | apply Kd.R_alloc | apply Kd.R_drewN | apply Kd.R_drew)); exact HO_299004.out)) k_ hk, Kd.freshB (g := gb293) (o := .cells #[.int .i64 a0_0, .string a0_1, .int .i64 a0_2, .slice A0_3 l0_3.length c0_3, .slice A0_4 l0_4.length c0_4, .slice (some ad315) l0_5.length c0_5] 33 (0, 0)) BK293.out k_ hk, Kd.freshB (g := gb294) (o := .cells #[.int .i64 0, .string (⟨#[]⟩ : ByteArray), .int .i64 0, .slice none 0 0, .slice none 0 0, .slice none 0 0] 33 (0, 0)) BK294.out k_ hk, Kd.freshB (g := gb298) (o := .cells #[.int .i64 a0_0, .string a0_1, .int .i64 a0_2, u299003, .slice Ao10 t295.length co10, u299005] 33 (0, 0)) BK298.out k_ hk⟩))
          (case aO => exact (by (with_reducible repeat (first | apply Kd.R_alloc | apply Kd.R_drewN | apply Kd.R_drew)); exact Kd.R_mono HO_299005.out (fun _ hk => ⟨hk.1.1.1.1.1, ⟨hk.1.1.1.1.2.1, ⟨hk.1.1.1.1.2.2.1, ⟨hk.1.1.1.1.2.2.2.1, hk.1.1.1.1.2.2.2.2⟩⟩⟩⟩)))
          (case aS => exact (below_size (by repeat (first | (with_reducible first | exact HB.out | apply below_alloc | apply pw_below_drewN | apply below_drew1 | refine below_set ?_ GE293.out | refine below_set ?_ GE294.out | refine below_set ?_ GE298.out) | exact HB.out))))
          (case aL => have := LMc39.out; omega)
          intro v337 w52 ho hb hg hat
          rw [← Ny336.out] at ho
          have n0_ := Aside0.mk (Kd.R_after (ok := (fun k_ => some k_ ≠ (.slice Ao10 t295.length co10 : Value).ownBlock ∧ some k_ ≠ (.slice Ao51 y320.length co51 : Value).ownBlock ∧ some k_ ≠ (.slice Ao50 t327.length co50 : Value).ownBlock ∧ some k_ ≠ (.slice Ao49 t330.length co49 : Value).ownBlock ∧ some k_ ≠ (.slice Ao48 t333.length co48 : Value).ownBlock ∧ k_ ≠ gb293 ∧ k_ ≠ gb294 ∧ k_ ≠ gb298)) (by (with_reducible repeat (first | apply Kd.R_alloc | apply Kd.R_drewN | apply Kd.R_drew)); exact Kd.R_mono HO_299003.out (fun _ hk => ⟨⟨hk.1.1.1.1.1, ⟨hk.1.1.1.2, ⟨hk.1.1.2, ⟨hk.1.2, ⟨hk.2, ⟨hk.1.1.1.1.2.2.1, ⟨hk.1.1.1.1.2.2.2.1, hk.1.1.1.1.2.2.2.2⟩⟩⟩⟩⟩⟩⟩, hk.1.1.1.1.2.1⟩)) hg hat)
          have n1_ := Aside0.mk (Kd.R_after (ok := (fun k_ => some k_ ≠ (u299003 : Value).ownBlock ∧ some k_ ≠ (.slice Ao51 y320.length co51 : Value).ownBlock ∧ some k_ ≠ (.slice Ao50 t327.length co50 : Value).ownBlock ∧ some k_ ≠ (.slice Ao49 t330.length co49 : Value).ownBlock ∧ some k_ ≠ (.slice Ao48 t333.length co48 : Value).ownBlock ∧ k_ ≠ gb293 ∧ k_ ≠ gb294 ∧ k_ ≠ gb298)) (by (with_reducible repeat (first | apply Kd.R_alloc | apply Kd.R_drewN | apply Kd.R_drew)); exact Kd.R_mono HO_299004.out (fun _ hk => ⟨⟨hk.1.1.1.1.1, ⟨hk.1.1.1.2, ⟨hk.1.1.2, ⟨hk.1.2, ⟨hk.2, ⟨hk.1.1.1.1.2.2.1, ⟨hk.1.1.1.1.2.2.2.1, hk.1.1.1.1.2.2.2.2⟩⟩⟩⟩⟩⟩⟩, hk.1.1.1.1.2.1⟩)) hg hat)
          have n2_ := Aside0.mk (blk_grown (g := gb293) (o := .cells #[.int .i64 a0_0, .string a0_1, .int .i64 a0_2, .slice A0_3 l0_3.length c0_3, .slice A0_4 l0_4.length c0_4, .slice (some ad315) l0_5.length c0_5] 33 (0, 0)) BK293.out hg (Kd.R_ne HO_299005.out BK293.out (by decide)))
          have n3_ := Aside0.mk (blk_grown (g := gb294) (o := .cells #[.int .i64 0, .string (⟨#[]⟩ : ByteArray), .int .i64 0, .slice none 0 0, .slice none 0 0, .slice none 0 0] 33 (0, 0)) BK294.out hg (Kd.R_ne HO_299005.out BK294.out (by decide)))
          have n4_ := Aside0.mk (blk_grown (g := gb298) (o := .cells #[.int .i64 a0_0, .string a0_1, .int .i64 a0_2, u299003, .slice Ao10 t295.length co10, u299005] 33 (0, 0)) BK298.out hg (Kd.R_ne HO_299005.out BK298.out (by decide)))
          have n5_ := Aside0.mk (hb)
          have n6_ := Aside0.mk (ho)
          clear HO_299003
          clear HO_299004
          clear BK293
          clear BK294
          clear BK298
          clear HB
          clear HO_299005
          clear HO322
          clear HO329
          clear HO332
          clear HO335
          have HO_299003 := n0_
          have HO_299004 := n1_
          have BK293 := n2_
          have BK294 := n3_
          have BK298 := n4_
          have HB := n5_
          have HO338 := n6_
          clear n0_ n1_ n2_ n3_ n4_ n5_ n6_
          clear ho hb hg hat
          obtain ⟨Ao53, co53, eo53⟩ := Kd.R_slice HO338.out
          (first | subst eo53 | (injection eo53 with f1_ f2_ f3_; have f4_ := f1_.symm; have f5_ := f3_.symm; clear f1_ f2_ f3_; subst f4_; subst f5_))
          refine hK.out _ _ ⟨(blk_cell BK298.out 0).trans rfl, (blk_cell BK298.out 1).trans rfl, (blk_cell BK298.out 2).trans rfl, (blk_cell BK298.out 3).trans rfl, (blk_cell BK298.out 4).trans rfl, (blk_cell BK298.out 5).trans rfl, (blk_cell BK293.out 0).trans rfl, (blk_cell BK293.out 1).trans rfl, (blk_cell BK293.out 2).trans rfl, (blk_cell BK293.out 3).trans rfl, (blk_cell BK293.out 4).trans rfl, (blk_cell BK293.out 5).trans rfl, (lc_ HB.out hw315_0), (lc_ HB.out hw315_1), (lc_ HB.out hw315_2), (lc_ HB.out hw315_3), (lc_ HB.out hw315_4), (lc_ HB.out hw315_5), (lc_ HB.out hw315_6), (lc_ HB.out hw315_7), (lc_ HB.out hw319_0), (lc_ HB.out hw319_1), (lc_ HB.out hw319_2), (lc_ HB.out hw319_3), (lc_ HB.out hw319_4), (lc_ HB.out hw319_5), (lc_ HB.out hw319_6), (lc_ HB.out hw319_7), (lc_ HB.out hw323_0), (lc_ HB.out hw323_1), (lc_ HB.out hw323_2), (lc_ HB.out hw323_3), (lc_ HB.out hw323_4), (lc_ HB.out hw323_5), (lc_ HB.out hw323_6), (lc_ HB.out hw323_7)⟩ (fun hHeld => ?_)
          clear hK K
          refine norm_ (a' := ?_) ?_ ?_
          rotate_left
          ·show Act.put _ (some 66) _ = _
           simp only [Act.put, List.setIfInBounds_toArray, List.set_cons_zero, List.set_cons_succ, i64_w, i32_w]
           rfl
          refine pure_ (i := 26) (N := some 67) (v := ?_) (a' := ?_) #[true, true, true, true, true, true, true, true, true, true, true, true, true, true, true, true, true, true, true, true, true, true, true, true, true, true, true, false] rfl rfl (any_of HT_.out (by kernel_rfl)) (fun _ _ _ h => h) (Or.inl ⟨by rfl, ?_⟩) ?_ ?_
          rotate_left
          ·intro w'
           go_simp
           with_reducible rfl
          rotate_left
          ·simp only [Act.put, List.setIfInBounds_toArray, List.set_cons_zero, List.set_cons_succ, i64_w, i32_w]
           rfl
          refine last_ (i := 27) (N := none) #[true, true, true, true, true, true, true, true, true, true, true, true, true, true, true, true, true, true, true, true, true, true, true, true, true, true, true, true] rfl rfl (one_of HT_.out (by kernel_rfl)) (by decide) (fun K hK => ?_)
          have hs54 : w52.cell? ⟨gb298, 5, none⟩ = some (u299005) := (blk_cell BK298.out 5).trans rfl
          have hfs54 := blk_frozen BK298.out 5
          have hns54_0 := NB293_298.out
          have hns54_1 := NB294_298.out
          have hms54_0 := NB298_293.out
          have hms54_1 := NB298_294.out
          refine skip_ (w1 := ?_) (by rfl) rfl ?_ ?_
          rotate_left
          ·go_simp
           rfl
          refine hK.out _ _ ?_
          clear hK K
          refine done_ (done_of HT_.out (by kernel_rfl)) ?_
          try go_wp2
          go_roundg k2
          case measure => have := HK1.out; have := HK2.out; omega
          case rel => exact ⟨(wrap64 (x5_2 + 1)), (y336), (.slice Ao53 y336.length co53), (by first | rfl | (simp; done) | (simp [*]; done)), H', ⟨by have := HK1.out; have := HK2.out; omega⟩, ⟨by (with_reducible repeat (first | apply Kd.R_alloc | apply Kd.R_drewN | apply Kd.R_drew)); exact Kd.R_mono (Kd.R_st (Kd.R_mono HO_299003.out (fun k_ hk => (⟨hk, hk.1.2.2.2.2.2.2.2⟩ : _ ∧ k_ ≠ gb298)))) (fun _ hk => ⟨hk.1.1.1, ⟨hk.1.2, ⟨hk.1.1.2.2.2.2.2.1, ⟨hk.1.1.2.2.2.2.2.2.1, hk.1.1.2.2.2.2.2.2.2⟩⟩⟩⟩)⟩, ⟨by (with_reducible repeat (first | apply Kd.R_alloc | apply Kd.R_drewN | apply Kd.R_drew)); exact Kd.R_mono (Kd.R_st (Kd.R_mono HO_299004.out (fun k_ hk => (⟨hk, hk.1.2.2.2.2.2.2.2⟩ : _ ∧ k_ ≠ gb298)))) (fun _ hk => ⟨hk.1.1.1, ⟨hk.1.2, ⟨hk.1.1.2.2.2.2.2.1, ⟨hk.1.1.2.2.2.2.2.2.1, hk.1.1.2.2.2.2.2.2.2⟩⟩⟩⟩)⟩, ⟨by (with_reducible repeat (first | apply Kd.R_alloc | apply Kd.R_drewN | apply Kd.R_drew)); exact Kd.R_mono (Kd.R_st (Kd.R_mono HO338.out (fun k_ hk => (⟨hk, hk.2.2.2.2⟩ : _ ∧ k_ ≠ gb298)))) (fun _ hk => ⟨hk.1.1, ⟨hk.1.2.1, ⟨hk.1.2.2.1, ⟨hk.1.2.2.2.1, hk.1.2.2.2.2⟩⟩⟩⟩)⟩, ⟨by (with_reducible repeat (first | refine blk_drewN ?_ _ | refine blk_drew ?_ | refine blk_alloc ?_ _)); exact (blk_far BK293.out NB293_298.out _)⟩, ⟨by (with_reducible repeat (first | refine blk_drewN ?_ _ | refine blk_drew ?_ | refine blk_alloc ?_ _)); exact (blk_far BK294.out NB294_298.out _)⟩, ⟨by (with_reducible repeat (first | refine blk_drewN ?_ _ | refine blk_drew ?_ | refine blk_alloc ?_ _)); exact (put_6_5 BK298.out)⟩, ⟨by repeat (first | (with_reducible first | exact HB.out | apply below_alloc | apply pw_below_drewN | apply below_drew1 | refine below_set ?_ GE293.out | refine below_set ?_ GE294.out | refine below_set ?_ GE298.out) | exact HB.out)⟩⟩
         ·rw [if_neg c39] at H
          exact absurd H (by simp)
        ·rw [if_neg c37] at H
         exact absurd H (by simp)
       ·rw [if_neg c36] at H
        exact absurd H (by simp)
      ·rw [if_neg c35] at H
       have c35b0 : decide (x5_2 < (l0_5.length : Int)) = false := decide_eq_false c35
       clear c35
       simp only [Option.some.injEq, Prod.mk.injEq] at H
       obtain ⟨rfl, rfl, rfl, rfl, rfl, rfl⟩ := H
       have hnb55 := NB293_294.out
       have hnc55 := NB294_293.out
       have hnb56 := NB293_298.out
       have hnc56 := NB298_293.out
       obtain ⟨hcz57_0, hcz57_1, hcz57_2, hcz57_3, hcz57_4, hcz57_5, hfz57_0, hfz57_1, hfz57_2, hfz57_3, hfz57_4, hfz57_5⟩ := cells6 BK293.out
       have hnb58 := NB298_294.out
       have hnc58 := NB294_298.out
       obtain ⟨hcz59_0, hcz59_1, hcz59_2, hcz59_3, hcz59_4, hcz59_5, hfz59_0, hfz59_1, hfz59_2, hfz59_3, hfz59_4, hfz59_5⟩ := cells6 BK298.out
       obtain ⟨hcz60_0, hcz60_1, hcz60_2, hcz60_3, hcz60_4, hcz60_5, hfz60_0, hfz60_1, hfz60_2, hfz60_3, hfz60_4, hfz60_5⟩ := cells6 BK294.out
       obtain ⟨Ao61, co61, eo61⟩ := Kd.R_slice HO_299003.out
       subst eo61
       obtain ⟨Ao62, co62, eo62⟩ := Kd.R_slice HO_299005.out
       subst eo62
       go_wp2
       refine bodyPost_ret (results_cell_row rfl _ _ gb294 33 #[.int .i64 a0_0, .string a0_1, .int .i64 a0_2, .slice Ao61 x299003_1.length co61, .slice Ao10 t295.length co10, .slice Ao62 x299005_2.length co62] (0, 0) _ rfl ((put_6_5 (put_6_4 (put_6_3 (put_6_2 (put_6_1 (put_6_0 BK294.out))))))) Try.underlying33 rfl (by kernel_rfl)) rfl ?_
       exact ⟨_, _, _, by first | rfl | (simp [errW_none, errW_some] <;> rfl) | (simp [*, errW_none, errW_some] <;> rfl), by (with_reducible repeat (first | apply Kd.R_alloc | apply Kd.R_drewN | apply Kd.R_drew)); exact Kd.R_mono (Kd.R_st (Kd.R_st (Kd.R_st (Kd.R_st (Kd.R_st (Kd.R_st (Kd.R_mono HO_299003.out (fun k_ hk => (⟨hk, hk.2.2.2.1⟩ : _ ∧ k_ ≠ gb294))))))))) (fun _ hk => ⟨hk.1.1, hk.1.2.1⟩), by (with_reducible repeat (first | apply Kd.R_alloc | apply Kd.R_drewN | apply Kd.R_drew)); exact Kd.R_mono (Kd.R_st (Kd.R_st (Kd.R_st (Kd.R_st (Kd.R_st (Kd.R_st (Kd.R_mono HO_299004.out (fun k_ hk => (⟨hk, hk.2.2.2.1⟩ : _ ∧ k_ ≠ gb294))))))))) (fun _ hk => ⟨hk.1.1, hk.1.2.1⟩), by (with_reducible repeat (first | apply Kd.R_alloc | apply Kd.R_drewN | apply Kd.R_drew)); exact Kd.R_mono (Kd.R_st (Kd.R_st (Kd.R_st (Kd.R_st (Kd.R_st (Kd.R_st (Kd.R_mono HO_299005.out (fun k_ hk => (⟨hk, hk.2.2.2.1⟩ : _ ∧ k_ ≠ gb294))))))))) (fun _ hk => ⟨hk.1.1, hk.1.2.1⟩), by repeat (first | (with_reducible first | exact HB.out | apply below_alloc | apply pw_below_drewN | apply below_drew1 | refine below_set ?_ GE293.out | refine below_set ?_ GE294.out | refine below_set ?_ GE298.out) | exact HB.out)⟩

end Go.Proofs.Ytpndcfibjjkgcaa.PIfg

/- The walks of the functions that compare: where both sides read alike, true comes back. No condition. -/
import Derived.Test.YtpndcfibjjkgcaaMyIts
namespace Go.Proofs.Ytpndcfibjjkgcaa.MyItc
open Go Go.RowKit Go.Proofs.YtpndcfibjjkgcaaW.PrintWords Go.Proofs.YtpndcfibjjkgcaaW.PrintLast Go.Proofs.YtpndcfibjjkgcaaW.PrintMore Go.Proofs.Ytpndcfibjjkgcaa.PIfg
attribute [local go_sem] max2_int min2_int max_two min_two max_three min_three max_four min_four
set_option linter.unusedVariables false
set_option linter.unusedSimpArgs false
set_option maxHeartbeats 8000000 in
set_option maxRecDepth 100000 in
theorem stepQ29 (n : Nat) (ih : ∀ m, m < n → QE m) : QEs n := by
 intro A0 c0 A1 c1 l w hr0 hc0 hr1 hc1 hq
 have hu33 := Try.underlying33
 have hu68 := Try.underlying68
 have hu53 := Try.underlying53
 have HR0 := Aside0.mk hr0
 have HR1 := Aside0.mk hr1
 have HQ := Aside0.mk hq
 have HB := Aside0.mk (Below.refl w.heap.size w)
 have c3b1 : ((l.length : Int) != (l.length : Int)) = false := bne_self_eq_false _
 clear hr0 hr1 hc0 hc1 hq
 go_enter Try.func29, Try.ntmps29
 go_wp2
 go_loopg [5] (l.length + 1) (fun kq v5 w' => ∃ (x5 : Int) (i : Nat), v5 = .int .i64 x5 ∧ Aside0 (x5 = (i : Int) ∧ i ≤ l.length ∧ l.length - i < kq ∧ kq ≤ l.length + 1) ∧ Aside0 (Below w.heap.size w w'))
 case atStart => exact ⟨0, 0, rfl, ⟨rfl, Nat.zero_le _, by omega, Nat.le_refl _⟩, HB⟩
 case round =>
  clear HB
  obtain ⟨x5, i, rfl, HI, HB⟩ := hrel
  obtain ⟨h1, h2, h3, h4⟩ := HI.out
  clear HI
  cases gk with
  | zero => exact absurd h3 (Nat.not_lt_zero _)
  | succ k1 =>
  by_cases h4_ : x5 < (l.length : Int)
  · have c4b0 : decide (x5 < (l.length : Int)) = true := decide_eq_true h4_
    have h0_ : 0 ≤ x5 := by omega
    have hs_ : SqE n (rd_T33 l x5) := HQ.out.2 _ (rd33_mem l x5 i h1 (by omega))
    obtain ⟨Lad, LA3, Lc3, LA4, Lc4, LA5, Lc5, Le, Lhx0, Lhx1, Lhx2, Lhx3, Lhx4, Lhx5, Lhl3, Lhi3, Lhl4, Lhi4, Lhl5, Lhi5⟩ := at_T33 HR0.out x5 h0_ h4_
    obtain ⟨Rad, RA3, Rc3, RA4, Rc4, RA5, Rc5, Re, Rhx0, Rhx1, Rhx2, Rhx3, Rhx4, Rhx5, Rhl3, Rhi3, Rhl4, Rhi4, Rhl5, Rhi5⟩ := at_T33 HR1.out x5 h0_ h4_
    cases Le
    cases Re
    generalize rd_T33 l x5 = y at *
    have LX0 := Aside0.mk Lhx0
    have LX1 := Aside0.mk Lhx1
    have LX2 := Aside0.mk Lhx2
    have LX3 := Aside0.mk Lhx3
    have LX4 := Aside0.mk Lhx4
    have LX5 := Aside0.mk Lhx5
    have LR3 := Aside0.mk (And.intro Lhi3 Lhl3)
    have LR4 := Aside0.mk (And.intro Lhi4 Lhl4)
    have LR5 := Aside0.mk (And.intro Lhi5 Lhl5)
    have RX0 := Aside0.mk Rhx0
    have RX1 := Aside0.mk Rhx1
    have RX2 := Aside0.mk Rhx2
    have RX3 := Aside0.mk Rhx3
    have RX4 := Aside0.mk Rhx4
    have RX5 := Aside0.mk Rhx5
    have RR3 := Aside0.mk (And.intro Rhi3 Rhl3)
    have RR4 := Aside0.mk (And.intro Rhi4 Rhl4)
    have RR5 := Aside0.mk (And.intro Rhi5 Rhl5)
    have HS := Aside0.mk hs_
    have HJ := Aside0.mk (And.intro h1 (And.intro h2 (And.intro h3 (And.intro h4 h4_))))
    clear hs_ h1 h2 h3 h4 Lhx0 Lhx1 Lhx2 Lhx3 Lhx4 Lhx5 Rhx0 Rhx1 Rhx2 Rhx3 Rhx4 Rhx5
    clear Lhi3 Lhl3 Lhi4 Lhl4 Lhi5 Lhl5 Rhi3 Rhl3 Rhi4 Rhl4 Rhi5 Rhl5
    replace h0_ := eq_true h0_
    replace h4_ := eq_true h4_
    go_wp2
    have n0_ := Aside0.mk (below_drew1 HB.out)
    clear HB
    have HB := n0_
    clear n0_
    refine start_ (n := 10) (S := fun w' => Below w.heap.size w w') (ds := []) #[false, false, false, false, false, false, false, false, false, false] (by kernel_rfl) rfl rfl HB.out (fun hHeld => ?_)
    generalize wr.drew = w31 at HB hHeld ⊢
    refine pure_ (i := 0) (N := some 17) (v := ?_) (a' := ?_) #[true, false, false, false, false, false, false, false, false, false] rfl rfl (by kernel_rfl) (fun _ _ _ h => h) (Or.inl ⟨by rfl, ?_⟩) ?_ ?_
    rotate_left
    ·intro w'
     go_simp
     with_reducible rfl
    rotate_left
    ·simp only [Act.put, List.setIfInBounds_toArray, List.set_cons_zero, List.set_cons_succ, i64_w, i32_w]
     rfl
    refine pure_ (i := 1) (N := some 18) (v := ?_) (a' := ?_) #[true, true, false, false, false, false, false, false, false, false] rfl rfl (by kernel_rfl) (fun _ _ _ h => h) (Or.inl ⟨by rfl, ?_⟩) ?_ ?_
    rotate_left
    ·intro w'
     go_simp
     with_reducible rfl
    rotate_left
    ·simp only [Act.put, List.setIfInBounds_toArray, List.set_cons_zero, List.set_cons_succ, i64_w, i32_w]
     rfl
    refine pure_ (i := 2) (N := some 19) (v := ?_) (a' := ?_) #[true, true, true, false, false, false, false, false, false, false] rfl rfl (by kernel_rfl) (fun _ _ _ h => h) (Or.inl ⟨by rfl, ?_⟩) ?_ ?_
    rotate_left
    ·intro w'
     go_simp
     with_reducible rfl
    rotate_left
    ·simp only [Act.put, List.setIfInBounds_toArray, List.set_cons_zero, List.set_cons_succ, i64_w, i32_w]
     rfl
    refine pure_ (i := 4) (N := some 21) (v := ?_) (a' := ?_) #[true, true, true, false, true, false, false, false, false, false] rfl rfl (by kernel_rfl) (fun _ _ _ h => h) (Or.inl ⟨by rfl, ?_⟩) ?_ ?_
    rotate_left
    ·intro w'
     go_simp
     with_reducible rfl
    rotate_left
    ·simp only [Act.put, List.setIfInBounds_toArray, List.set_cons_zero, List.set_cons_succ, i64_w, i32_w]
     rfl
    refine pure_ (i := 5) (N := some 22) (v := ?_) (a' := ?_) #[true, true, true, false, true, true, false, false, false, false] rfl rfl (by kernel_rfl) (fun _ _ _ h => h) (Or.inl ⟨by rfl, ?_⟩) ?_ ?_
    rotate_left
    ·intro w'
     go_simp
     with_reducible rfl
    rotate_left
    ·simp only [Act.put, List.setIfInBounds_toArray, List.set_cons_zero, List.set_cons_succ, i64_w, i32_w]
     rfl
    refine pure_ (i := 6) (N := some 23) (v := ?_) (a' := ?_) #[true, true, true, false, true, true, true, false, false, false] rfl rfl (by kernel_rfl) (fun _ _ _ h => h) (Or.inl ⟨by rfl, ?_⟩) ?_ ?_
    rotate_left
    ·intro w'
     go_simp
     with_reducible rfl
    rotate_left
    ·simp only [Act.put, List.setIfInBounds_toArray, List.set_cons_zero, List.set_cons_succ, i64_w, i32_w]
     rfl
    refine take_ (i := 3) (N := some 20) (v := ?_) (a' := ?_) #[true, true, true, true, true, true, true, false, false, false] rfl rfl (by kernel_rfl) (fun _ _ _ h => h) (Or.inl ⟨by rfl, ?_⟩) hHeld ?_ ?_
    rotate_left
    ·intro w' hb_
     have hy0 := lc_ hb_ LX0.out
     have hy1 := lc_ hb_ LX1.out
     have hy2 := lc_ hb_ LX2.out
     have hy3 := lc_ hb_ LX3.out
     have hy4 := lc_ hb_ LX4.out
     have hy5 := lc_ hb_ LX5.out
     go_simp
     with_reducible rfl
    rotate_left
    ·simp only [Act.put, List.setIfInBounds_toArray, List.set_cons_zero, List.set_cons_succ, i64_w, i32_w]
     rfl
    refine take_ (i := 7) (N := some 24) (v := ?_) (a' := ?_) #[true, true, true, true, true, true, true, true, false, false] rfl rfl (by kernel_rfl) (fun _ _ _ h => h) (Or.inl ⟨by rfl, ?_⟩) hHeld ?_ ?_
    rotate_left
    ·intro w' hb_
     have hy0 := lc_ hb_ RX0.out
     have hy1 := lc_ hb_ RX1.out
     have hy2 := lc_ hb_ RX2.out
     have hy3 := lc_ hb_ RX3.out
     have hy4 := lc_ hb_ RX4.out
     have hy5 := lc_ hb_ RX5.out
     go_simp
     with_reducible rfl
    rotate_left
    ·simp only [Act.put, List.setIfInBounds_toArray, List.set_cons_zero, List.set_cons_succ, i64_w, i32_w]
     rfl
    refine one_ (i := 8) (N := some 25) #[true, true, true, true, true, true, true, true, true, false] rfl rfl (by kernel_rfl) (by decide) (fun K hK => ?_)
    refine goes_ Try.func12 (by kernel_rfl) rfl #[.agg #[.int .i64 y.f0, .string y.f1, .int .i64 y.f2, .slice LA3 y.f3.length Lc3, .slice LA4 y.f4.length Lc4, .slice LA5 y.f5.length Lc5], .agg #[.int .i64 y.f0, .string y.f1, .int .i64 y.f2, .slice RA3 y.f3.length Rc3, .slice RA4 y.f4.length Rc4, .slice RA5 y.f5.length Rc5]] (by rfl) rfl rfl (by (try simp only [List.map_toArray, List.map_cons, List.map_nil, List.append_toArray, List.cons_append, List.nil_append]); first | done | rfl) ?_
    with_reducible refine (QE_of ih y HS.out _ _ _ _ _ _ _ _ _ _ _ _ w31 ⟨⟨Kd.C_below LR3.out.1 HB.out, LR3.out.2⟩, ⟨Kd.C_below LR4.out.1 HB.out, LR4.out.2⟩, ⟨Kd.C_below LR5.out.1 HB.out, LR5.out.2⟩⟩ ⟨⟨Kd.C_below RR3.out.1 HB.out, RR3.out.2⟩, ⟨Kd.C_below RR4.out.1 HB.out, RR4.out.2⟩, ⟨Kd.C_below RR5.out.1 HB.out, RR5.out.2⟩⟩).mono ?_
    rintro e_ w32 ⟨rfl, hb⟩
    refine ⟨_, rfl, ?_⟩
    have n0_ := Aside0.mk (below_step HB.out hb)
    clear HB hb
    have HB := n0_
    clear n0_
    refine hK.out _ _ HB.out (fun hHeld => ?_)
    clear hK K
    refine norm_ (a' := ?_) ?_ ?_
    rotate_left
    ·show Act.put _ (some 25) _ = _
     simp only [Act.put, List.setIfInBounds_toArray, List.set_cons_zero, List.set_cons_succ, i64_w, i32_w]
     rfl
    refine pure_ (i := 9) (N := some 26) (v := ?_) (a' := ?_) #[true, true, true, true, true, true, true, true, true, true] rfl rfl (by kernel_rfl) (fun _ _ _ h => h) (Or.inl ⟨by rfl, ?_⟩) ?_ ?_
    rotate_left
    ·intro w'
     go_simp
     with_reducible rfl
    rotate_left
    ·simp only [Act.put, List.setIfInBounds_toArray, List.set_cons_zero, List.set_cons_succ, i64_w, i32_w]
     rfl
    refine done_ (by kernel_rfl) ?_
    try go_wp2
    go_roundg k1
    case measure => have := HJ.out; omega
    case rel =>
     obtain ⟨h1, h2, h3, h4, h5⟩ := HJ.out
     have hl := HQ.out.1
     exact ⟨wrap64 (x5 + 1), i + 1, rfl, ⟨by rw [h1]; unfold wrap64; omega, by omega, by omega, by omega⟩, ⟨HB.out⟩⟩
  · have c4b0 : decide (x5 < (l.length : Int)) = false := decide_eq_false h4_
    clear h1 h2 h3 h4 h4_
    go_wp2
    go_ret
    exact ⟨rfl, HB.out⟩
set_option maxHeartbeats 8000000 in
set_option maxRecDepth 100000 in
theorem stepQ30 (n : Nat) (ih : ∀ m, m < n → QD m) : QDs n := by
 intro A0 c0 A1 c1 l w hr0 hc0 hr1 hc1 hq
 have hu33 := Try.underlying33
 have hu68 := Try.underlying68
 have hu53 := Try.underlying53
 have HR0 := Aside0.mk hr0
 have HR1 := Aside0.mk hr1
 have HQ := Aside0.mk hq
 have HB := Aside0.mk (Below.refl w.heap.size w)
 have c3b1 : ((l.length : Int) != (l.length : Int)) = false := bne_self_eq_false _
 clear hr0 hr1 hc0 hc1 hq
 go_enter Try.func30, Try.ntmps30
 go_wp2
 go_loopg [5] (l.length + 1) (fun kq v5 w' => ∃ (x5 : Int) (i : Nat), v5 = .int .i64 x5 ∧ Aside0 (x5 = (i : Int) ∧ i ≤ l.length ∧ l.length - i < kq ∧ kq ≤ l.length + 1) ∧ Aside0 (Below w.heap.size w w'))
 case atStart => exact ⟨0, 0, rfl, ⟨rfl, Nat.zero_le _, by omega, Nat.le_refl _⟩, HB⟩
 case round =>
  clear HB
  obtain ⟨x5, i, rfl, HI, HB⟩ := hrel
  obtain ⟨h1, h2, h3, h4⟩ := HI.out
  clear HI
  cases gk with
  | zero => exact absurd h3 (Nat.not_lt_zero _)
  | succ k1 =>
  by_cases h4_ : x5 < (l.length : Int)
  · have c4b0 : decide (x5 < (l.length : Int)) = true := decide_eq_true h4_
    have h0_ : 0 ≤ x5 := by omega
    have hs_ : SqD n (rd_T68 l x5) := HQ.out.2 _ (rd68_mem l x5 i h1 (by omega))
    obtain ⟨Lad, LA1, Lc1, LA5, Lc5, LA6, Lc6, LA7, Lc7, LA8, Lc8, Le, Lhx0, Lhx1, Lhx2, Lhx3, Lhx4, Lhx5, Lhx6, Lhx7, Lhx8, Lhl1, Lhi1, Lhl5, Lhi5, Lhl6, Lhi6, Lhl7, Lhi7, Lhl8, Lhi8⟩ := at_T68 HR0.out x5 h0_ h4_
    obtain ⟨Rad, RA1, Rc1, RA5, Rc5, RA6, Rc6, RA7, Rc7, RA8, Rc8, Re, Rhx0, Rhx1, Rhx2, Rhx3, Rhx4, Rhx5, Rhx6, Rhx7, Rhx8, Rhl1, Rhi1, Rhl5, Rhi5, Rhl6, Rhi6, Rhl7, Rhi7, Rhl8, Rhi8⟩ := at_T68 HR1.out x5 h0_ h4_
    cases Le
    cases Re
    generalize rd_T68 l x5 = y at *
    have LX0 := Aside0.mk Lhx0
    have LX1 := Aside0.mk Lhx1
    have LX2 := Aside0.mk Lhx2
    have LX3 := Aside0.mk Lhx3
    have LX4 := Aside0.mk Lhx4
    have LX5 := Aside0.mk Lhx5
    have LX6 := Aside0.mk Lhx6
    have LX7 := Aside0.mk Lhx7
    have LX8 := Aside0.mk Lhx8
    have LR1 := Aside0.mk (And.intro Lhi1 Lhl1)
    have LR5 := Aside0.mk (And.intro Lhi5 Lhl5)
    have LR6 := Aside0.mk (And.intro Lhi6 Lhl6)
    have LR7 := Aside0.mk (And.intro Lhi7 Lhl7)
    have LR8 := Aside0.mk (And.intro Lhi8 Lhl8)
    have RX0 := Aside0.mk Rhx0
    have RX1 := Aside0.mk Rhx1
    have RX2 := Aside0.mk Rhx2
    have RX3 := Aside0.mk Rhx3
    have RX4 := Aside0.mk Rhx4
    have RX5 := Aside0.mk Rhx5
    have RX6 := Aside0.mk Rhx6
    have RX7 := Aside0.mk Rhx7
    have RX8 := Aside0.mk Rhx8
    have RR1 := Aside0.mk (And.intro Rhi1 Rhl1)
    have RR5 := Aside0.mk (And.intro Rhi5 Rhl5)
    have RR6 := Aside0.mk (And.intro Rhi6 Rhl6)
    have RR7 := Aside0.mk (And.intro Rhi7 Rhl7)
    have RR8 := Aside0.mk (And.intro Rhi8 Rhl8)
    have HS := Aside0.mk hs_
    have HJ := Aside0.mk (And.intro h1 (And.intro h2 (And.intro h3 (And.intro h4 h4_))))
    clear hs_ h1 h2 h3 h4 Lhx0 Lhx1 Lhx2 Lhx3 Lhx4 Lhx5 Lhx6 Lhx7 Lhx8 Rhx0 Rhx1 Rhx2 Rhx3 Rhx4 Rhx5 Rhx6 Rhx7 Rhx8
    clear Lhi1 Lhl1 Lhi5 Lhl5 Lhi6 Lhl6 Lhi7 Lhl7 Lhi8 Lhl8 Rhi1 Rhl1 Rhi5 Rhl5 Rhi6 Rhl6 Rhi7 Rhl7 Rhi8 Rhl8
    replace h0_ := eq_true h0_
    replace h4_ := eq_true h4_
    go_wp2
    have n0_ := Aside0.mk (below_drew1 HB.out)
    clear HB
    have HB := n0_
    clear n0_
    refine start_ (n := 10) (S := fun w' => Below w.heap.size w w') (ds := []) #[false, false, false, false, false, false, false, false, false, false] (by kernel_rfl) rfl rfl HB.out (fun hHeld => ?_)
    generalize wr.drew = w31 at HB hHeld ⊢
    refine pure_ (i := 0) (N := some 17) (v := ?_) (a' := ?_) #[true, false, false, false, false, false, false, false, false, false] rfl rfl (by kernel_rfl) (fun _ _ _ h => h) (Or.inl ⟨by rfl, ?_⟩) ?_ ?_
    rotate_left
    ·intro w'
     go_simp
     with_reducible rfl
    rotate_left
    ·simp only [Act.put, List.setIfInBounds_toArray, List.set_cons_zero, List.set_cons_succ, i64_w, i32_w]
     rfl
    refine pure_ (i := 1) (N := some 18) (v := ?_) (a' := ?_) #[true, true, false, false, false, false, false, false, false, false] rfl rfl (by kernel_rfl) (fun _ _ _ h => h) (Or.inl ⟨by rfl, ?_⟩) ?_ ?_
    rotate_left
    ·intro w'
     go_simp
     with_reducible rfl
    rotate_left
    ·simp only [Act.put, List.setIfInBounds_toArray, List.set_cons_zero, List.set_cons_succ, i64_w, i32_w]
     rfl
    refine pure_ (i := 2) (N := some 19) (v := ?_) (a' := ?_) #[true, true, true, false, false, false, false, false, false, false] rfl rfl (by kernel_rfl) (fun _ _ _ h => h) (Or.inl ⟨by rfl, ?_⟩) ?_ ?_
    rotate_left
    ·intro w'
     go_simp
     with_reducible rfl
    rotate_left
    ·simp only [Act.put, List.setIfInBounds_toArray, List.set_cons_zero, List.set_cons_succ, i64_w, i32_w]
     rfl
    refine pure_ (i := 4) (N := some 21) (v := ?_) (a' := ?_) #[true, true, true, false, true, false, false, false, false, false] rfl rfl (by kernel_rfl) (fun _ _ _ h => h) (Or.inl ⟨by rfl, ?_⟩) ?_ ?_
    rotate_left
    ·intro w'
     go_simp
     with_reducible rfl
    rotate_left
    ·simp only [Act.put, List.setIfInBounds_toArray, List.set_cons_zero, List.set_cons_succ, i64_w, i32_w]
     rfl
    refine pure_ (i := 5) (N := some 22) (v := ?_) (a' := ?_) #[true, true, true, false, true, true, false, false, false, false] rfl rfl (by kernel_rfl) (fun _ _ _ h => h) (Or.inl ⟨by rfl, ?_⟩) ?_ ?_
    rotate_left
    ·intro w'
     go_simp
     with_reducible rfl
    rotate_left
    ·simp only [Act.put, List.setIfInBounds_toArray, List.set_cons_zero, List.set_cons_succ, i64_w, i32_w]
     rfl
    refine pure_ (i := 6) (N := some 23) (v := ?_) (a' := ?_) #[true, true, true, false, true, true, true, false, false, false] rfl rfl (by kernel_rfl) (fun _ _ _ h => h) (Or.inl ⟨by rfl, ?_⟩) ?_ ?_
    rotate_left
    ·intro w'
     go_simp
     with_reducible rfl
    rotate_left
    ·simp only [Act.put, List.setIfInBounds_toArray, List.set_cons_zero, List.set_cons_succ, i64_w, i32_w]
     rfl
    refine take_ (i := 3) (N := some 20) (v := ?_) (a' := ?_) #[true, true, true, true, true, true, true, false, false, false] rfl rfl (by kernel_rfl) (fun _ _ _ h => h) (Or.inl ⟨by rfl, ?_⟩) hHeld ?_ ?_
    rotate_left
    ·intro w' hb_
     have hy0 := lc_ hb_ LX0.out
     have hy1 := lc_ hb_ LX1.out
     have hy2 := lc_ hb_ LX2.out
     have hy3 := lc_ hb_ LX3.out
     have hy4 := lc_ hb_ LX4.out
     have hy5 := lc_ hb_ LX5.out
     have hy6 := lc_ hb_ LX6.out
     have hy7 := lc_ hb_ LX7.out
     have hy8 := lc_ hb_ LX8.out
     go_simp
     with_reducible rfl
    rotate_left
    ·simp only [Act.put, List.setIfInBounds_toArray, List.set_cons_zero, List.set_cons_succ, i64_w, i32_w]
     rfl
    refine take_ (i := 7) (N := some 24) (v := ?_) (a' := ?_) #[true, true, true, true, true, true, true, true, false, false] rfl rfl (by kernel_rfl) (fun _ _ _ h => h) (Or.inl ⟨by rfl, ?_⟩) hHeld ?_ ?_
    rotate_left
    ·intro w' hb_
     have hy0 := lc_ hb_ RX0.out
     have hy1 := lc_ hb_ RX1.out
     have hy2 := lc_ hb_ RX2.out
     have hy3 := lc_ hb_ RX3.out
     have hy4 := lc_ hb_ RX4.out
     have hy5 := lc_ hb_ RX5.out
     have hy6 := lc_ hb_ RX6.out
     have hy7 := lc_ hb_ RX7.out
     have hy8 := lc_ hb_ RX8.out
     go_simp
     with_reducible rfl
    rotate_left
    ·simp only [Act.put, List.setIfInBounds_toArray, List.set_cons_zero, List.set_cons_succ, i64_w, i32_w]
     rfl
    refine one_ (i := 8) (N := some 25) #[true, true, true, true, true, true, true, true, true, false] rfl rfl (by kernel_rfl) (by decide) (fun K hK => ?_)
    refine goes_ Try.func53 (by kernel_rfl) rfl #[.agg #[.string y.f0, .slice LA1 y.f1.length Lc1, .int .i64 y.f2.f0, .string y.f2.f1, .int .i64 y.f2.f2, .slice LA5 y.f2.f3.length Lc5, .slice LA6 y.f2.f4.length Lc6, .slice LA7 y.f2.f5.length Lc7, .slice LA8 y.f3.length Lc8], .agg #[.string y.f0, .slice RA1 y.f1.length Rc1, .int .i64 y.f2.f0, .string y.f2.f1, .int .i64 y.f2.f2, .slice RA5 y.f2.f3.length Rc5, .slice RA6 y.f2.f4.length Rc6, .slice RA7 y.f2.f5.length Rc7, .slice RA8 y.f3.length Rc8]] (by rfl) rfl rfl (by (try simp only [List.map_toArray, List.map_cons, List.map_nil, List.append_toArray, List.cons_append, List.nil_append]); first | done | rfl) ?_
    with_reducible refine (QD_of ih y HS.out _ _ _ _ _ _ _ _ _ _ _ _ _ _ _ _ _ _ _ _ w31 ⟨⟨Kd.C_below LR1.out.1 HB.out, LR1.out.2⟩, ⟨Kd.C_below LR5.out.1 HB.out, LR5.out.2⟩, ⟨Kd.C_below LR6.out.1 HB.out, LR6.out.2⟩, ⟨Kd.C_below LR7.out.1 HB.out, LR7.out.2⟩, ⟨Kd.C_below LR8.out.1 HB.out, LR8.out.2⟩⟩ ⟨⟨Kd.C_below RR1.out.1 HB.out, RR1.out.2⟩, ⟨Kd.C_below RR5.out.1 HB.out, RR5.out.2⟩, ⟨Kd.C_below RR6.out.1 HB.out, RR6.out.2⟩, ⟨Kd.C_below RR7.out.1 HB.out, RR7.out.2⟩, ⟨Kd.C_below RR8.out.1 HB.out, RR8.out.2⟩⟩).mono ?_
    rintro e_ w32 ⟨rfl, hb⟩
    refine ⟨_, rfl, ?_⟩
    have n0_ := Aside0.mk (below_step HB.out hb)
    clear HB hb
    have HB := n0_
    clear n0_
    refine hK.out _ _ HB.out (fun hHeld => ?_)
    clear hK K
    refine norm_ (a' := ?_) ?_ ?_
    rotate_left
    ·show Act.put _ (some 25) _ = _
     simp only [Act.put, List.setIfInBounds_toArray, List.set_cons_zero, List.set_cons_succ, i64_w, i32_w]
     rfl
    refine pure_ (i := 9) (N := some 26) (v := ?_) (a' := ?_) #[true, true, true, true, true, true, true, true, true, true] rfl rfl (by kernel_rfl) (fun _ _ _ h => h) (Or.inl ⟨by rfl, ?_⟩) ?_ ?_
    rotate_left
    ·intro w'
     go_simp
     with_reducible rfl
    rotate_left
    ·simp only [Act.put, List.setIfInBounds_toArray, List.set_cons_zero, List.set_cons_succ, i64_w, i32_w]
     rfl
    refine done_ (by kernel_rfl) ?_
    try go_wp2
    go_roundg k1
    case measure => have := HJ.out; omega
    case rel =>
     obtain ⟨h1, h2, h3, h4, h5⟩ := HJ.out
     have hl := HQ.out.1
     exact ⟨wrap64 (x5 + 1), i + 1, rfl, ⟨by rw [h1]; unfold wrap64; omega, by omega, by omega, by omega⟩, ⟨HB.out⟩⟩
  · have c4b0 : decide (x5 < (l.length : Int)) = false := decide_eq_false h4_
    clear h1 h2 h3 h4 h4_
    go_wp2
    go_ret
    exact ⟨rfl, HB.out⟩
set_option maxHeartbeats 8000000 in
set_option maxRecDepth 100000 in
theorem stepQ31 (n : Nat) (ih : ∀ m, m < n → QA m) : QAs n := by
 intro A0 c0 A1 c1 l w hr0 hc0 hr1 hc1 hq
 have hu33 := Try.underlying33
 have hu68 := Try.underlying68
 have hu53 := Try.underlying53
 have HR0 := Aside0.mk hr0
 have HR1 := Aside0.mk hr1
 have HQ := Aside0.mk hq
 have HB := Aside0.mk (Below.refl w.heap.size w)
 have c3b1 : ((l.length : Int) != (l.length : Int)) = false := bne_self_eq_false _
 clear hr0 hr1 hc0 hc1 hq
 go_enter Try.func31, Try.ntmps31
 go_wp2
 go_loopg [5] (l.length + 1) (fun kq v5 w' => ∃ (x5 : Int) (i : Nat), v5 = .int .i64 x5 ∧ Aside0 (x5 = (i : Int) ∧ i ≤ l.length ∧ l.length - i < kq ∧ kq ≤ l.length + 1) ∧ Aside0 (Below w.heap.size w w'))
 case atStart => exact ⟨0, 0, rfl, ⟨rfl, Nat.zero_le _, by omega, Nat.le_refl _⟩, HB⟩
 case round =>
  clear HB
  obtain ⟨x5, i, rfl, HI, HB⟩ := hrel
  obtain ⟨h1, h2, h3, h4⟩ := HI.out
  clear HI
  cases gk with
  | zero => exact absurd h3 (Nat.not_lt_zero _)
  | succ k1 =>
  by_cases h4_ : x5 < (l.length : Int)
  · have c4b0 : decide (x5 < (l.length : Int)) = true := decide_eq_true h4_
    have h0_ : 0 ≤ x5 := by omega
    have hs_ : SqA n (rd_T53 l x5) := HQ.out.2 _ (rd53_mem l x5 i h1 (by omega))
    obtain ⟨Lad, LA1, Lc1, LA5, Lc5, LA6, Lc6, LA7, Lc7, Le, Lhx0, Lhx1, Lhx2, Lhx3, Lhx4, Lhx5, Lhx6, Lhx7, Lhl1, Lhi1, Lhl5, Lhi5, Lhl6, Lhi6, Lhl7, Lhi7⟩ := at_T53 HR0.out x5 h0_ h4_
    obtain ⟨Rad, RA1, Rc1, RA5, Rc5, RA6, Rc6, RA7, Rc7, Re, Rhx0, Rhx1, Rhx2, Rhx3, Rhx4, Rhx5, Rhx6, Rhx7, Rhl1, Rhi1, Rhl5, Rhi5, Rhl6, Rhi6, Rhl7, Rhi7⟩ := at_T53 HR1.out x5 h0_ h4_
    cases Le
    cases Re
    generalize rd_T53 l x5 = y at *
    have LX0 := Aside0.mk Lhx0
    have LX1 := Aside0.mk Lhx1
    have LX2 := Aside0.mk Lhx2
    have LX3 := Aside0.mk Lhx3
    have LX4 := Aside0.mk Lhx4
    have LX5 := Aside0.mk Lhx5
    have LX6 := Aside0.mk Lhx6
    have LX7 := Aside0.mk Lhx7
    have LR1 := Aside0.mk (And.intro Lhi1 Lhl1)
    have LR5 := Aside0.mk (And.intro Lhi5 Lhl5)
    have LR6 := Aside0.mk (And.intro Lhi6 Lhl6)
    have LR7 := Aside0.mk (And.intro Lhi7 Lhl7)
    have RX0 := Aside0.mk Rhx0
    have RX1 := Aside0.mk Rhx1
    have RX2 := Aside0.mk Rhx2
    have RX3 := Aside0.mk Rhx3
    have RX4 := Aside0.mk Rhx4
    have RX5 := Aside0.mk Rhx5
    have RX6 := Aside0.mk Rhx6
    have RX7 := Aside0.mk Rhx7
    have RR1 := Aside0.mk (And.intro Rhi1 Rhl1)
    have RR5 := Aside0.mk (And.intro Rhi5 Rhl5)
    have RR6 := Aside0.mk (And.intro Rhi6 Rhl6)
    have RR7 := Aside0.mk (And.intro Rhi7 Rhl7)
    have HS := Aside0.mk hs_
    have HJ := Aside0.mk (And.intro h1 (And.intro h2 (And.intro h3 (And.intro h4 h4_))))
    clear hs_ h1 h2 h3 h4 Lhx0 Lhx1 Lhx2 Lhx3 Lhx4 Lhx5 Lhx6 Lhx7 Rhx0 Rhx1 Rhx2 Rhx3 Rhx4 Rhx5 Rhx6 Rhx7
    clear Lhi1 Lhl1 Lhi5 Lhl5 Lhi6 Lhl6 Lhi7 Lhl7 Rhi1 Rhl1 Rhi5 Rhl5 Rhi6 Rhl6 Rhi7 Rhl7
    replace h0_ := eq_true h0_
    replace h4_ := eq_true h4_
    go_wp2
    have n0_ := Aside0.mk (below_drew1 HB.out)
    clear HB
    have HB := n0_
    clear n0_
    refine start_ (n := 10) (S := fun w' => Below w.heap.size w w') (ds := []) #[false, false, false, false, false, false, false, false, false, false] (by kernel_rfl) rfl rfl HB.out (fun hHeld => ?_)
    generalize wr.drew = w31 at HB hHeld ⊢
    refine pure_ (i := 0) (N := some 17) (v := ?_) (a' := ?_) #[true, false, false, false, false, false, false, false, false, false] rfl rfl (by kernel_rfl) (fun _ _ _ h => h) (Or.inl ⟨by rfl, ?_⟩) ?_ ?_
    rotate_left
    ·intro w'
     go_simp
     with_reducible rfl
    rotate_left
    ·simp only [Act.put, List.setIfInBounds_toArray, List.set_cons_zero, List.set_cons_succ, i64_w, i32_w]
     rfl
    refine pure_ (i := 1) (N := some 18) (v := ?_) (a' := ?_) #[true, true, false, false, false, false, false, false, false, false] rfl rfl (by kernel_rfl) (fun _ _ _ h => h) (Or.inl ⟨by rfl, ?_⟩) ?_ ?_
    rotate_left
    ·intro w'
     go_simp
     with_reducible rfl
    rotate_left
    ·simp only [Act.put, List.setIfInBounds_toArray, List.set_cons_zero, List.set_cons_succ, i64_w, i32_w]
     rfl
    refine pure_ (i := 2) (N := some 19) (v := ?_) (a' := ?_) #[true, true, true, false, false, false, false, false, false, false] rfl rfl (by kernel_rfl) (fun _ _ _ h => h) (Or.inl ⟨by rfl, ?_⟩) ?_ ?_
    rotate_left
    ·intro w'
     go_simp
     with_reducible rfl
    rotate_left
    ·simp only [Act.put, List.setIfInBounds_toArray, List.set_cons_zero, List.set_cons_succ, i64_w, i32_w]
     rfl
    refine pure_ (i := 4) (N := some 21) (v := ?_) (a' := ?_) #[true, true, true, false, true, false, false, false, false, false] rfl rfl (by kernel_rfl) (fun _ _ _ h => h) (Or.inl ⟨by rfl, ?_⟩) ?_ ?_
    rotate_left
    ·intro w'
     go_simp
     with_reducible rfl
    rotate_left
    ·simp only [Act.put, List.setIfInBounds_toArray, List.set_cons_zero, List.set_cons_succ, i64_w, i32_w]
     rfl
    refine pure_ (i := 5) (N := some 22) (v := ?_) (a' := ?_) #[true, true, true, false, true, true, false, false, false, false] rfl rfl (by kernel_rfl) (fun _ _ _ h => h) (Or.inl ⟨by rfl, ?_⟩) ?_ ?_
    rotate_left
    ·intro w'
     go_simp
     with_reducible rfl
    rotate_left
    ·simp only [Act.put, List.setIfInBounds_toArray, List.set_cons_zero, List.set_cons_succ, i64_w, i32_w]
     rfl
    refine pure_ (i := 6) (N := some 23) (v := ?_) (a' := ?_) #[true, true, true, false, true, true, true, false, false, false] rfl rfl (by kernel_rfl) (fun _ _ _ h => h) (Or.inl ⟨by rfl, ?_⟩) ?_ ?_
    rotate_left
    ·intro w'
     go_simp
     with_reducible rfl
    rotate_left
    ·simp only [Act.put, List.setIfInBounds_toArray, List.set_cons_zero, List.set_cons_succ, i64_w, i32_w]
     rfl
    refine take_ (i := 3) (N := some 20) (v := ?_) (a' := ?_) #[true, true, true, true, true, true, true, false, false, false] rfl rfl (by kernel_rfl) (fun _ _ _ h => h) (Or.inl ⟨by rfl, ?_⟩) hHeld ?_ ?_
    rotate_left
    ·intro w' hb_
     have hy0 := lc_ hb_ LX0.out
     have hy1 := lc_ hb_ LX1.out
     have hy2 := lc_ hb_ LX2.out
     have hy3 := lc_ hb_ LX3.out
     have hy4 := lc_ hb_ LX4.out
     have hy5 := lc_ hb_ LX5.out
     have hy6 := lc_ hb_ LX6.out
     have hy7 := lc_ hb_ LX7.out
     go_simp
     with_reducible rfl
    rotate_left
    ·simp only [Act.put, List.setIfInBounds_toArray, List.set_cons_zero, List.set_cons_succ, i64_w, i32_w]
     rfl
    refine take_ (i := 7) (N := some 24) (v := ?_) (a' := ?_) #[true, true, true, true, true, true, true, true, false, false] rfl rfl (by kernel_rfl) (fun _ _ _ h => h) (Or.inl ⟨by rfl, ?_⟩) hHeld ?_ ?_
    rotate_left
    ·intro w' hb_
     have hy0 := lc_ hb_ RX0.out
     have hy1 := lc_ hb_ RX1.out
     have hy2 := lc_ hb_ RX2.out
     have hy3 := lc_ hb_ RX3.out
     have hy4 := lc_ hb_ RX4.out
     have hy5 := lc_ hb_ RX5.out
     have hy6 := lc_ hb_ RX6.out
     have hy7 := lc_ hb_ RX7.out
     go_simp
     with_reducible rfl
    rotate_left
    ·simp only [Act.put, List.setIfInBounds_toArray, List.set_cons_zero, List.set_cons_succ, i64_w, i32_w]
     rfl
    refine one_ (i := 8) (N := some 25) #[true, true, true, true, true, true, true, true, true, false] rfl rfl (by kernel_rfl) (by decide) (fun K hK => ?_)
    refine goes_ Try.func54 (by kernel_rfl) rfl #[.agg #[.string y.f0, .slice LA1 y.f1.length Lc1, .int .i64 y.f2.f0, .string y.f2.f1, .int .i64 y.f2.f2, .slice LA5 y.f2.f3.length Lc5, .slice LA6 y.f2.f4.length Lc6, .slice LA7 y.f2.f5.length Lc7], .agg #[.string y.f0, .slice RA1 y.f1.length Rc1, .int .i64 y.f2.f0, .string y.f2.f1, .int .i64 y.f2.f2, .slice RA5 y.f2.f3.length Rc5, .slice RA6 y.f2.f4.length Rc6, .slice RA7 y.f2.f5.length Rc7]] (by rfl) rfl rfl (by (try simp only [List.map_toArray, List.map_cons, List.map_nil, List.append_toArray, List.cons_append, List.nil_append]); first | done | rfl) ?_
    with_reducible refine (QA_of ih y HS.out _ _ _ _ _ _ _ _ _ _ _ _ _ _ _ _ w31 ⟨⟨Kd.C_below LR1.out.1 HB.out, LR1.out.2⟩, ⟨Kd.C_below LR5.out.1 HB.out, LR5.out.2⟩, ⟨Kd.C_below LR6.out.1 HB.out, LR6.out.2⟩, ⟨Kd.C_below LR7.out.1 HB.out, LR7.out.2⟩⟩ ⟨⟨Kd.C_below RR1.out.1 HB.out, RR1.out.2⟩, ⟨Kd.C_below RR5.out.1 HB.out, RR5.out.2⟩, ⟨Kd.C_below RR6.out.1 HB.out, RR6.out.2⟩, ⟨Kd.C_below RR7.out.1 HB.out, RR7.out.2⟩⟩).mono ?_
    rintro e_ w32 ⟨rfl, hb⟩
    refine ⟨_, rfl, ?_⟩
    have n0_ := Aside0.mk (below_step HB.out hb)
    clear HB hb
    have HB := n0_
    clear n0_
    refine hK.out _ _ HB.out (fun hHeld => ?_)
    clear hK K
    refine norm_ (a' := ?_) ?_ ?_
    rotate_left
    ·show Act.put _ (some 25) _ = _
     simp only [Act.put, List.setIfInBounds_toArray, List.set_cons_zero, List.set_cons_succ, i64_w, i32_w]
     rfl
    refine pure_ (i := 9) (N := some 26) (v := ?_) (a' := ?_) #[true, true, true, true, true, true, true, true, true, true] rfl rfl (by kernel_rfl) (fun _ _ _ h => h) (Or.inl ⟨by rfl, ?_⟩) ?_ ?_
    rotate_left
    ·intro w'
     go_simp
     with_reducible rfl
    rotate_left
    ·simp only [Act.put, List.setIfInBounds_toArray, List.set_cons_zero, List.set_cons_succ, i64_w, i32_w]
     rfl
    refine done_ (by kernel_rfl) ?_
    try go_wp2
    go_roundg k1
    case measure => have := HJ.out; omega
    case rel =>
     obtain ⟨h1, h2, h3, h4, h5⟩ := HJ.out
     have hl := HQ.out.1
     exact ⟨wrap64 (x5 + 1), i + 1, rfl, ⟨by rw [h1]; unfold wrap64; omega, by omega, by omega, by omega⟩, ⟨HB.out⟩⟩
  · have c4b0 : decide (x5 < (l.length : Int)) = false := decide_eq_false h4_
    clear h1 h2 h3 h4 h4_
    go_wp2
    go_ret
    exact ⟨rfl, HB.out⟩
set_option maxHeartbeats 8000000 in
set_option maxRecDepth 100000 in
theorem stepQ69 : QSs := by
 intro A0 c0 A1 c1 l w hr0 hr1 hl
 have HR0 := Aside0.mk hr0
 have HR1 := Aside0.mk hr1
 have HL := Aside0.mk hl
 have HB := Aside0.mk (Below.refl w.heap.size w)
 have c3b1 : ((l.length : Int) != (l.length : Int)) = false := bne_self_eq_false _
 clear hr0 hr1 hl
 go_enter Try.func69, Try.ntmps69
 go_wp2
 repeat (go_quiet (fail); try go_wp2)
 go_loopg [5] (l.length + 1) (fun kq v5 w' => ∃ (x5 : Int) (i : Nat), v5 = .int .i64 x5 ∧ Aside0 (x5 = (i : Int) ∧ i ≤ l.length ∧ l.length - i < kq ∧ kq ≤ l.length + 1) ∧ Drawn0 w w')
 case atStart => exact ⟨0, 0, rfl, ⟨rfl, Nat.zero_le _, by omega, Nat.le_refl _⟩, by repeat (first | exact Drawn0.refl _ | apply Drawn0.step)⟩
 case round =>
  clear HB
  obtain ⟨x5, i, rfl, HI, ⟨m1, rfl⟩⟩ := hrel
  obtain ⟨h1, h2, h3, h4⟩ := HI.out
  clear HI
  cases gk with
  | zero => exact absurd h3 (Nat.not_lt_zero _)
  | succ k1 =>
  by_cases h4_ : x5 < (l.length : Int)
  · have c4b0 : decide (x5 < (l.length : Int)) = true := decide_eq_true h4_
    have h0_ : 0 ≤ x5 := by omega
    obtain ⟨Lad, Le, Lhx⟩ := Kd.at_string HR0.out x5 h0_ h4_
    obtain ⟨Rad, Re, Rhx⟩ := Kd.at_string HR1.out x5 h0_ h4_
    cases Le
    cases Re
    have c7b1 : ((rdOf ByteArray.empty l x5).toList != (rdOf ByteArray.empty l x5).toList) = false := bne_self_eq_false _
    have HJ := Aside0.mk (And.intro h1 (And.intro h2 (And.intro h3 (And.intro h4 h4_))))
    clear h1 h2 h3 h4
    replace h0_ := eq_true h0_
    replace h4_ := eq_true h4_
    go_wp2
    repeat (go_quiet (fail); try go_wp2)
    go_roundg k1
    case measure => have := HJ.out; omega
    case rel =>
     obtain ⟨h1, h2, h3, h4, h5⟩ := HJ.out
     have hl := HL.out
     exact ⟨wrap64 (x5 + 1), i + 1, rfl, ⟨by rw [h1]; unfold wrap64; omega, by omega, by omega, by omega⟩, by repeat (first | exact Drawn0.refl _ | apply Drawn0.step)⟩
  · have c4b0 : decide (x5 < (l.length : Int)) = false := decide_eq_false h4_
    clear h1 h2 h3 h4 h4_
    go_wp2
    repeat (go_quiet (fail); try go_wp2)
    go_ret
    exact ⟨rfl, Drawn0.below (by repeat (first | exact Drawn0.refl _ | apply Drawn0.step))⟩
set_option maxHeartbeats 8000000 in
set_option maxRecDepth 100000 in
theorem stepQ12 (n : Nat) (hE : QEs n) (hD : QDs n) (hA : QAs n) : QE n := by
 intro y LA3 Lc3 LA4 Lc4 LA5 Lc5 RA3 Rc3 RA4 Rc4 RA5 Rc5 w hl hr hs
 have hu33 := Try.underlying33
 have hu68 := Try.underlying68
 have hu53 := Try.underlying53
 have LR3 := Aside0.mk hl.1
 have LR4 := Aside0.mk hl.2.1
 have LR5 := Aside0.mk hl.2.2
 have RR3 := Aside0.mk hr.1
 have RR4 := Aside0.mk hr.2.1
 have RR5 := Aside0.mk hr.2.2
 have HS := Aside0.mk hs
 have HB := Aside0.mk (Below.refl w.heap.size w)
 clear hl hr hs
 have ci0 : (y.f0 != y.f0) = false := bne_self_eq_false _
 have ci1 : (y.f1.toList != y.f1.toList) = false := bne_self_eq_false _
 have ci2 : (y.f2 != y.f2) = false := bne_self_eq_false _
 go_enter Try.func12, Try.ntmps12
 go_wp2_with (first | ((with_reducible refine gate_dst (N := 2) rfl ?_); refine box_event ?hg (N := 2) ?hd (cs := #[.int .i64 y.f0, .string y.f1, .int .i64 y.f2, .slice LA3 y.f3.length Lc3, .slice LA4 y.f4.length Lc4, .slice LA5 y.f5.length Lc5]) (t := 33) ?hr ?_; (case hd => rfl); (case hg => rfl); (case hr => first | (go_simp; done) | (go_simp; rfl)); intro gb2 hg w3 hbox hb; have hx_ := bel_of (w := w) hb HB.out; have nb_ := Aside0.mk (below_step hx_ hb); have ge_ := Aside0.mk (box_ge hx_ hg); clear HB  ; have HB := nb_; have BK2 := Aside0.mk hbox; have GE2 := ge_; clear nb_ ge_ hx_ hb hbox hg  ) | ((with_reducible refine gate_dst (N := 3) rfl ?_); refine box_event ?hg (N := 3) ?hd (cs := #[.int .i64 y.f0, .string y.f1, .int .i64 y.f2, .slice RA3 y.f3.length Rc3, .slice RA4 y.f4.length Rc4, .slice RA5 y.f5.length Rc5]) (t := 33) ?hr ?_; (case hd => rfl); (case hg => rfl); (case hr => first | (go_simp; done) | (go_simp; rfl)); intro gb3 hg w5 hbox hb; have hx_ := bel_of (w := w) hb (by repeat (first | (with_reducible first | exact HB.out | apply below_alloc | apply pw_below_drewN | apply below_drew1 | refine below_set ?_ GE2.out) | exact HB.out)); have n2_ := Aside0.mk (blk_below (g := gb2) BK2.out hb); have m2_ := Aside0.mk (box_lt (g' := gb2) BK2.out hg); have k2_ := Aside0.mk (box_gt (g' := gb2) BK2.out hg); have nb_ := Aside0.mk (below_step hx_ hb); have ge_ := Aside0.mk (box_ge hx_ hg); clear HB BK2 ; have BK2 := n2_; have NB2_3 := m2_; have NB3_2 := k2_; have HB := nb_; have BK3 := Aside0.mk hbox; have GE3 := ge_; clear nb_ ge_ hx_ hb hbox hg n2_ m2_ k2_ ; have hnb_ := NB2_3.out; have hnc_ := NB3_2.out; obtain ⟨hc41_0, hc41_1, hc41_2, hc41_3, hc41_4, hc41_5, hf41_0, hf41_1, hf41_2, hf41_3, hf41_4, hf41_5⟩ := cells6 BK2.out; obtain ⟨hc42_0, hc42_1, hc42_2, hc42_3, hc42_4, hc42_5, hf42_0, hf42_1, hf42_2, hf42_3, hf42_4, hf42_5⟩ := cells6 BK3.out) | ((with_reducible refine gate_dst (N := 24) rfl ?_); (with_reducible refine gate_callee (f := 29) rfl ?_); refine goesL_ (some 24) rfl rfl Try.func29 (by kernel_rfl) rfl #[.slice LA3 y.f3.length Lc3, .slice RA3 y.f3.length Rc3] rfl (by (try simp only [List.map_toArray, List.map_cons, List.map_nil, List.append_toArray, List.cons_append, List.nil_append]); first | done | rfl) ?_; refine calls_bel (w0 := w) (by repeat (first | (with_reducible first | exact HB.out | apply below_alloc | apply pw_below_drewN | apply below_drew1 | refine below_set ?_ GE2.out | refine below_set ?_ GE3.out) | exact HB.out)) (fun hx_ => ?_); (with_reducible refine (hE _ _ _ _ y.f3 _ (Kd.C_below LR3.out.1 hx_) LR3.out.2 (Kd.C_below RR3.out.1 hx_) RR3.out.2 HS.out.1).mono ?_); rintro e_ w43 ⟨rfl, hb⟩; refine ⟨_, rfl, ?_⟩; have n2_ := Aside0.mk (blk_below (g := gb2) BK2.out hb); have n3_ := Aside0.mk (blk_below (g := gb3) BK3.out hb); have nb_ := Aside0.mk (below_step hx_ hb); clear HB BK2 BK3 hx_ hb; have HB := nb_; have BK2 := n2_; have BK3 := n3_; clear nb_ n2_ n3_; obtain ⟨hc44_0, hc44_1, hc44_2, hc44_3, hc44_4, hc44_5, hf44_0, hf44_1, hf44_2, hf44_3, hf44_4, hf44_5⟩ := cells6 BK2.out; obtain ⟨hc45_0, hc45_1, hc45_2, hc45_3, hc45_4, hc45_5, hf45_0, hf45_1, hf45_2, hf45_3, hf45_4, hf45_5⟩ := cells6 BK3.out) | ((with_reducible refine gate_dst (N := 30) rfl ?_); (with_reducible refine gate_callee (f := 30) rfl ?_); refine goesL_ (some 30) rfl rfl Try.func30 (by kernel_rfl) rfl #[.slice LA4 y.f4.length Lc4, .slice RA4 y.f4.length Rc4] rfl (by (try simp only [List.map_toArray, List.map_cons, List.map_nil, List.append_toArray, List.cons_append, List.nil_append]); first | done | rfl) ?_; refine calls_bel (w0 := w) (by repeat (first | (with_reducible first | exact HB.out | apply below_alloc | apply pw_below_drewN | apply below_drew1 | refine below_set ?_ GE2.out | refine below_set ?_ GE3.out) | exact HB.out)) (fun hx_ => ?_); (with_reducible refine (hD _ _ _ _ y.f4 _ (Kd.C_below LR4.out.1 hx_) LR4.out.2 (Kd.C_below RR4.out.1 hx_) RR4.out.2 HS.out.2.1).mono ?_); rintro e_ w46 ⟨rfl, hb⟩; refine ⟨_, rfl, ?_⟩; have n2_ := Aside0.mk (blk_below (g := gb2) BK2.out hb); have n3_ := Aside0.mk (blk_below (g := gb3) BK3.out hb); have nb_ := Aside0.mk (below_step hx_ hb); clear HB BK2 BK3 hx_ hb; have HB := nb_; have BK2 := n2_; have BK3 := n3_; clear nb_ n2_ n3_; obtain ⟨hc47_0, hc47_1, hc47_2, hc47_3, hc47_4, hc47_5, hf47_0, hf47_1, hf47_2, hf47_3, hf47_4, hf47_5⟩ := cells6 BK2.out; obtain ⟨hc48_0, hc48_1, hc48_2, hc48_3, hc48_4, hc48_5, hf48_0, hf48_1, hf48_2, hf48_3, hf48_4, hf48_5⟩ := cells6 BK3.out) | ((with_reducible refine gate_dst (N := 36) rfl ?_); (with_reducible refine gate_callee (f := 31) rfl ?_); refine goesL_ (some 36) rfl rfl Try.func31 (by kernel_rfl) rfl #[.slice LA5 y.f5.length Lc5, .slice RA5 y.f5.length Rc5] rfl (by (try simp only [List.map_toArray, List.map_cons, List.map_nil, List.append_toArray, List.cons_append, List.nil_append]); first | done | rfl) ?_; refine calls_bel (w0 := w) (by repeat (first | (with_reducible first | exact HB.out | apply below_alloc | apply pw_below_drewN | apply below_drew1 | refine below_set ?_ GE2.out | refine below_set ?_ GE3.out) | exact HB.out)) (fun hx_ => ?_); (with_reducible refine (hA _ _ _ _ y.f5 _ (Kd.C_below LR5.out.1 hx_) LR5.out.2 (Kd.C_below RR5.out.1 hx_) RR5.out.2 HS.out.2.2).mono ?_); rintro e_ w49 ⟨rfl, hb⟩; refine ⟨_, rfl, ?_⟩; have n2_ := Aside0.mk (blk_below (g := gb2) BK2.out hb); have n3_ := Aside0.mk (blk_below (g := gb3) BK3.out hb); have nb_ := Aside0.mk (below_step hx_ hb); clear HB BK2 BK3 hx_ hb; have HB := nb_; have BK2 := n2_; have BK3 := n3_; clear nb_ n2_ n3_; obtain ⟨hc50_0, hc50_1, hc50_2, hc50_3, hc50_4, hc50_5, hf50_0, hf50_1, hf50_2, hf50_3, hf50_4, hf50_5⟩ := cells6 BK2.out; obtain ⟨hc51_0, hc51_1, hc51_2, hc51_3, hc51_4, hc51_5, hf51_0, hf51_1, hf51_2, hf51_3, hf51_4, hf51_5⟩ := cells6 BK3.out))
 go_ret
 exact ⟨rfl, by repeat (first | (with_reducible first | exact HB.out | apply below_alloc | apply pw_below_drewN | apply below_drew1 | refine below_set ?_ GE2.out | refine below_set ?_ GE3.out) | exact HB.out)⟩
set_option maxHeartbeats 8000000 in
set_option maxRecDepth 100000 in
theorem stepQ53 (n : Nat) (ih : ∀ m, m < n → QE m) (hD : QDs n) : QD n := by
 intro y LA1 Lc1 LA5 Lc5 LA6 Lc6 LA7 Lc7 LA8 Lc8 RA1 Rc1 RA5 Rc5 RA6 Rc6 RA7 Rc7 RA8 Rc8 w hl hr hs
 have hu33 := Try.underlying33
 have hu68 := Try.underlying68
 have hu53 := Try.underlying53
 have LR1 := Aside0.mk hl.1
 have LR5 := Aside0.mk hl.2.1
 have LR6 := Aside0.mk hl.2.2.1
 have LR7 := Aside0.mk hl.2.2.2.1
 have LR8 := Aside0.mk hl.2.2.2.2
 have RR1 := Aside0.mk hr.1
 have RR5 := Aside0.mk hr.2.1
 have RR6 := Aside0.mk hr.2.2.1
 have RR7 := Aside0.mk hr.2.2.2.1
 have RR8 := Aside0.mk hr.2.2.2.2
 have HS := Aside0.mk hs
 have HB := Aside0.mk (Below.refl w.heap.size w)
 clear hl hr hs
 have ci0 : (y.f0.toList != y.f0.toList) = false := bne_self_eq_false _
 have ci2 : (y.f2.f0 != y.f2.f0) = false := bne_self_eq_false _
 have ci3 : (y.f2.f1.toList != y.f2.f1.toList) = false := bne_self_eq_false _
 have ci4 : (y.f2.f2 != y.f2.f2) = false := bne_self_eq_false _
 go_enter Try.func53, Try.ntmps53
 go_wp2_with (first | ((with_reducible refine gate_dst (N := 2) rfl ?_); refine box_event ?hg (N := 2) ?hd (cs := #[.string y.f0, .slice LA1 y.f1.length Lc1, .int .i64 y.f2.f0, .string y.f2.f1, .int .i64 y.f2.f2, .slice LA5 y.f2.f3.length Lc5, .slice LA6 y.f2.f4.length Lc6, .slice LA7 y.f2.f5.length Lc7, .slice LA8 y.f3.length Lc8]) (t := 68) ?hr ?_; (case hd => rfl); (case hg => rfl); (case hr => first | (go_simp; done) | (go_simp; rfl)); intro gb2 hg w3 hbox hb; have hx_ := bel_of (w := w) hb HB.out; have nb_ := Aside0.mk (below_step hx_ hb); have ge_ := Aside0.mk (box_ge hx_ hg); clear HB  ; have HB := nb_; have BK2 := Aside0.mk hbox; have GE2 := ge_; clear nb_ ge_ hx_ hb hbox hg  ) | ((with_reducible refine gate_dst (N := 3) rfl ?_); refine box_event ?hg (N := 3) ?hd (cs := #[.string y.f0, .slice RA1 y.f1.length Rc1, .int .i64 y.f2.f0, .string y.f2.f1, .int .i64 y.f2.f2, .slice RA5 y.f2.f3.length Rc5, .slice RA6 y.f2.f4.length Rc6, .slice RA7 y.f2.f5.length Rc7, .slice RA8 y.f3.length Rc8]) (t := 68) ?hr ?_; (case hd => rfl); (case hg => rfl); (case hr => first | (go_simp; done) | (go_simp; rfl)); intro gb3 hg w5 hbox hb; have hx_ := bel_of (w := w) hb (by repeat (first | (with_reducible first | exact HB.out | apply below_alloc | apply pw_below_drewN | apply below_drew1 | refine below_set ?_ GE2.out) | exact HB.out)); have n2_ := Aside0.mk (blk_below (g := gb2) BK2.out hb); have m2_ := Aside0.mk (box_lt (g' := gb2) BK2.out hg); have k2_ := Aside0.mk (box_gt (g' := gb2) BK2.out hg); have nb_ := Aside0.mk (below_step hx_ hb); have ge_ := Aside0.mk (box_ge hx_ hg); clear HB BK2 ; have BK2 := n2_; have NB2_3 := m2_; have NB3_2 := k2_; have HB := nb_; have BK3 := Aside0.mk hbox; have GE3 := ge_; clear nb_ ge_ hx_ hb hbox hg n2_ m2_ k2_ ; have hnb_ := NB2_3.out; have hnc_ := NB3_2.out; obtain ⟨hc52_0, hc52_1, hc52_2, hc52_3, hc52_4, hc52_5, hc52_6, hc52_7, hc52_8, hf52_0, hf52_1, hf52_2, hf52_3, hf52_4, hf52_5, hf52_6, hf52_7, hf52_8⟩ := cells9 BK2.out; obtain ⟨hc53_0, hc53_1, hc53_2, hc53_3, hc53_4, hc53_5, hc53_6, hc53_7, hc53_8, hf53_0, hf53_1, hf53_2, hf53_3, hf53_4, hf53_5, hf53_6, hf53_7, hf53_8⟩ := cells9 BK3.out) | ((with_reducible refine gate_dst (N := 14) rfl ?_); (with_reducible refine gate_callee (f := 69) rfl ?_); refine goesL_ (some 14) rfl rfl Try.func69 (by kernel_rfl) rfl #[.slice LA1 y.f1.length Lc1, .slice RA1 y.f1.length Rc1] rfl (by (try simp only [List.map_toArray, List.map_cons, List.map_nil, List.append_toArray, List.cons_append, List.nil_append]); first | done | rfl) ?_; refine calls_bel (w0 := w) (by repeat (first | (with_reducible first | exact HB.out | apply below_alloc | apply pw_below_drewN | apply below_drew1 | refine below_set ?_ GE2.out | refine below_set ?_ GE3.out) | exact HB.out)) (fun hx_ => ?_); (with_reducible refine (stepQ69 _ _ _ _ y.f1 _ (Kd.C_below LR1.out.1 hx_) (Kd.C_below RR1.out.1 hx_) HS.out.1).mono ?_); rintro e_ w54 ⟨rfl, hb⟩; refine ⟨_, rfl, ?_⟩; have n2_ := Aside0.mk (blk_below (g := gb2) BK2.out hb); have n3_ := Aside0.mk (blk_below (g := gb3) BK3.out hb); have nb_ := Aside0.mk (below_step hx_ hb); clear HB BK2 BK3 hx_ hb; have HB := nb_; have BK2 := n2_; have BK3 := n3_; clear nb_ n2_ n3_; obtain ⟨hc55_0, hc55_1, hc55_2, hc55_3, hc55_4, hc55_5, hc55_6, hc55_7, hc55_8, hf55_0, hf55_1, hf55_2, hf55_3, hf55_4, hf55_5, hf55_6, hf55_7, hf55_8⟩ := cells9 BK2.out; obtain ⟨hc56_0, hc56_1, hc56_2, hc56_3, hc56_4, hc56_5, hc56_6, hc56_7, hc56_8, hf56_0, hf56_1, hf56_2, hf56_3, hf56_4, hf56_5, hf56_6, hf56_7, hf56_8⟩ := cells9 BK3.out) | ((with_reducible refine gate_dst (N := 20) rfl ?_); (with_reducible refine gate_callee (f := 12) rfl ?_); refine goesL_ (some 20) rfl rfl Try.func12 (by kernel_rfl) rfl #[.agg #[.int .i64 y.f2.f0, .string y.f2.f1, .int .i64 y.f2.f2, .slice LA5 y.f2.f3.length Lc5, .slice LA6 y.f2.f4.length Lc6, .slice LA7 y.f2.f5.length Lc7], .agg #[.int .i64 y.f2.f0, .string y.f2.f1, .int .i64 y.f2.f2, .slice RA5 y.f2.f3.length Rc5, .slice RA6 y.f2.f4.length Rc6, .slice RA7 y.f2.f5.length Rc7]] rfl (by (try simp only [List.map_toArray, List.map_cons, List.map_nil, List.append_toArray, List.cons_append, List.nil_append]); first | done | rfl) ?_; refine calls_bel (w0 := w) (by repeat (first | (with_reducible first | exact HB.out | apply below_alloc | apply pw_below_drewN | apply below_drew1 | refine below_set ?_ GE2.out | refine below_set ?_ GE3.out) | exact HB.out)) (fun hx_ => ?_); (with_reducible refine (QE_of ih y.f2 HS.out.2.1 _ _ _ _ _ _ _ _ _ _ _ _ _ ⟨⟨Kd.C_below LR5.out.1 hx_, LR5.out.2⟩, ⟨Kd.C_below LR6.out.1 hx_, LR6.out.2⟩, ⟨Kd.C_below LR7.out.1 hx_, LR7.out.2⟩⟩ ⟨⟨Kd.C_below RR5.out.1 hx_, RR5.out.2⟩, ⟨Kd.C_below RR6.out.1 hx_, RR6.out.2⟩, ⟨Kd.C_below RR7.out.1 hx_, RR7.out.2⟩⟩).mono ?_); rintro e_ w57 ⟨rfl, hb⟩; refine ⟨_, rfl, ?_⟩; have n2_ := Aside0.mk (blk_below (g := gb2) BK2.out hb); have n3_ := Aside0.mk (blk_below (g := gb3) BK3.out hb); have nb_ := Aside0.mk (below_step hx_ hb); clear HB BK2 BK3 hx_ hb; have HB := nb_; have BK2 := n2_; have BK3 := n3_; clear nb_ n2_ n3_; obtain ⟨hc58_0, hc58_1, hc58_2, hc58_3, hc58_4, hc58_5, hc58_6, hc58_7, hc58_8, hf58_0, hf58_1, hf58_2, hf58_3, hf58_4, hf58_5, hf58_6, hf58_7, hf58_8⟩ := cells9 BK2.out; obtain ⟨hc59_0, hc59_1, hc59_2, hc59_3, hc59_4, hc59_5, hc59_6, hc59_7, hc59_8, hf59_0, hf59_1, hf59_2, hf59_3, hf59_4, hf59_5, hf59_6, hf59_7, hf59_8⟩ := cells9 BK3.out) | ((with_reducible refine gate_dst (N := 26) rfl ?_); (with_reducible refine gate_callee (f := 30) rfl ?_); refine goesL_ (some 26) rfl rfl Try.func30 (by kernel_rfl) rfl #[.slice LA8 y.f3.length Lc8, .slice RA8 y.f3.length Rc8] rfl (by (try simp only [List.map_toArray, List.map_cons, List.map_nil, List.append_toArray, List.cons_append, List.nil_append]); first | done | rfl) ?_; refine calls_bel (w0 := w) (by repeat (first | (with_reducible first | exact HB.out | apply below_alloc | apply pw_below_drewN | apply below_drew1 | refine below_set ?_ GE2.out | refine below_set ?_ GE3.out) | exact HB.out)) (fun hx_ => ?_); (with_reducible refine (hD _ _ _ _ y.f3 _ (Kd.C_below LR8.out.1 hx_) LR8.out.2 (Kd.C_below RR8.out.1 hx_) RR8.out.2 HS.out.2.2).mono ?_); rintro e_ w60 ⟨rfl, hb⟩; refine ⟨_, rfl, ?_⟩; have n2_ := Aside0.mk (blk_below (g := gb2) BK2.out hb); have n3_ := Aside0.mk (blk_below (g := gb3) BK3.out hb); have nb_ := Aside0.mk (below_step hx_ hb); clear HB BK2 BK3 hx_ hb; have HB := nb_; have BK2 := n2_; have BK3 := n3_; clear nb_ n2_ n3_; obtain ⟨hc61_0, hc61_1, hc61_2, hc61_3, hc61_4, hc61_5, hc61_6, hc61_7, hc61_8, hf61_0, hf61_1, hf61_2, hf61_3, hf61_4, hf61_5, hf61_6, hf61_7, hf61_8⟩ := cells9 BK2.out; obtain ⟨hc62_0, hc62_1, hc62_2, hc62_3, hc62_4, hc62_5, hc62_6, hc62_7, hc62_8, hf62_0, hf62_1, hf62_2, hf62_3, hf62_4, hf62_5, hf62_6, hf62_7, hf62_8⟩ := cells9 BK3.out))
 go_ret
 exact ⟨rfl, by repeat (first | (with_reducible first | exact HB.out | apply below_alloc | apply pw_below_drewN | apply below_drew1 | refine below_set ?_ GE2.out | refine below_set ?_ GE3.out) | exact HB.out)⟩
set_option maxHeartbeats 8000000 in
set_option maxRecDepth 100000 in
theorem stepQ54 (n : Nat) (ih : ∀ m, m < n → QE m) : QA n := by
 intro y LA1 Lc1 LA5 Lc5 LA6 Lc6 LA7 Lc7 RA1 Rc1 RA5 Rc5 RA6 Rc6 RA7 Rc7 w hl hr hs
 have hu33 := Try.underlying33
 have hu68 := Try.underlying68
 have hu53 := Try.underlying53
 have LR1 := Aside0.mk hl.1
 have LR5 := Aside0.mk hl.2.1
 have LR6 := Aside0.mk hl.2.2.1
 have LR7 := Aside0.mk hl.2.2.2
 have RR1 := Aside0.mk hr.1
 have RR5 := Aside0.mk hr.2.1
 have RR6 := Aside0.mk hr.2.2.1
 have RR7 := Aside0.mk hr.2.2.2
 have HS := Aside0.mk hs
 have HB := Aside0.mk (Below.refl w.heap.size w)
 clear hl hr hs
 have ci0 : (y.f0.toList != y.f0.toList) = false := bne_self_eq_false _
 have ci2 : (y.f2.f0 != y.f2.f0) = false := bne_self_eq_false _
 have ci3 : (y.f2.f1.toList != y.f2.f1.toList) = false := bne_self_eq_false _
 have ci4 : (y.f2.f2 != y.f2.f2) = false := bne_self_eq_false _
 go_enter Try.func54, Try.ntmps54
 go_wp2_with (first | ((with_reducible refine gate_dst (N := 2) rfl ?_); refine box_event ?hg (N := 2) ?hd (cs := #[.string y.f0, .slice LA1 y.f1.length Lc1, .int .i64 y.f2.f0, .string y.f2.f1, .int .i64 y.f2.f2, .slice LA5 y.f2.f3.length Lc5, .slice LA6 y.f2.f4.length Lc6, .slice LA7 y.f2.f5.length Lc7]) (t := 53) ?hr ?_; (case hd => rfl); (case hg => rfl); (case hr => first | (go_simp; done) | (go_simp; rfl)); intro gb2 hg w3 hbox hb; have hx_ := bel_of (w := w) hb HB.out; have nb_ := Aside0.mk (below_step hx_ hb); have ge_ := Aside0.mk (box_ge hx_ hg); clear HB  ; have HB := nb_; have BK2 := Aside0.mk hbox; have GE2 := ge_; clear nb_ ge_ hx_ hb hbox hg  ) | ((with_reducible refine gate_dst (N := 3) rfl ?_); refine box_event ?hg (N := 3) ?hd (cs := #[.string y.f0, .slice RA1 y.f1.length Rc1, .int .i64 y.f2.f0, .string y.f2.f1, .int .i64 y.f2.f2, .slice RA5 y.f2.f3.length Rc5, .slice RA6 y.f2.f4.length Rc6, .slice RA7 y.f2.f5.length Rc7]) (t := 53) ?hr ?_; (case hd => rfl); (case hg => rfl); (case hr => first | (go_simp; done) | (go_simp; rfl)); intro gb3 hg w5 hbox hb; have hx_ := bel_of (w := w) hb (by repeat (first | (with_reducible first | exact HB.out | apply below_alloc | apply pw_below_drewN | apply below_drew1 | refine below_set ?_ GE2.out) | exact HB.out)); have n2_ := Aside0.mk (blk_below (g := gb2) BK2.out hb); have m2_ := Aside0.mk (box_lt (g' := gb2) BK2.out hg); have k2_ := Aside0.mk (box_gt (g' := gb2) BK2.out hg); have nb_ := Aside0.mk (below_step hx_ hb); have ge_ := Aside0.mk (box_ge hx_ hg); clear HB BK2 ; have BK2 := n2_; have NB2_3 := m2_; have NB3_2 := k2_; have HB := nb_; have BK3 := Aside0.mk hbox; have GE3 := ge_; clear nb_ ge_ hx_ hb hbox hg n2_ m2_ k2_ ; have hnb_ := NB2_3.out; have hnc_ := NB3_2.out; obtain ⟨hc63_0, hc63_1, hc63_2, hc63_3, hc63_4, hc63_5, hc63_6, hc63_7, hf63_0, hf63_1, hf63_2, hf63_3, hf63_4, hf63_5, hf63_6, hf63_7⟩ := cells8 BK2.out; obtain ⟨hc64_0, hc64_1, hc64_2, hc64_3, hc64_4, hc64_5, hc64_6, hc64_7, hf64_0, hf64_1, hf64_2, hf64_3, hf64_4, hf64_5, hf64_6, hf64_7⟩ := cells8 BK3.out) | ((with_reducible refine gate_dst (N := 14) rfl ?_); (with_reducible refine gate_callee (f := 69) rfl ?_); refine goesL_ (some 14) rfl rfl Try.func69 (by kernel_rfl) rfl #[.slice LA1 y.f1.length Lc1, .slice RA1 y.f1.length Rc1] rfl (by (try simp only [List.map_toArray, List.map_cons, List.map_nil, List.append_toArray, List.cons_append, List.nil_append]); first | done | rfl) ?_; refine calls_bel (w0 := w) (by repeat (first | (with_reducible first | exact HB.out | apply below_alloc | apply pw_below_drewN | apply below_drew1 | refine below_set ?_ GE2.out | refine below_set ?_ GE3.out) | exact HB.out)) (fun hx_ => ?_); (with_reducible refine (stepQ69 _ _ _ _ y.f1 _ (Kd.C_below LR1.out.1 hx_) (Kd.C_below RR1.out.1 hx_) HS.out.1).mono ?_); rintro e_ w65 ⟨rfl, hb⟩; refine ⟨_, rfl, ?_⟩; have n2_ := Aside0.mk (blk_below (g := gb2) BK2.out hb); have n3_ := Aside0.mk (blk_below (g := gb3) BK3.out hb); have nb_ := Aside0.mk (below_step hx_ hb); clear HB BK2 BK3 hx_ hb; have HB := nb_; have BK2 := n2_; have BK3 := n3_; clear nb_ n2_ n3_; obtain ⟨hc66_0, hc66_1, hc66_2, hc66_3, hc66_4, hc66_5, hc66_6, hc66_7, hf66_0, hf66_1, hf66_2, hf66_3, hf66_4, hf66_5, hf66_6, hf66_7⟩ := cells8 BK2.out; obtain ⟨hc67_0, hc67_1, hc67_2, hc67_3, hc67_4, hc67_5, hc67_6, hc67_7, hf67_0, hf67_1, hf67_2, hf67_3, hf67_4, hf67_5, hf67_6, hf67_7⟩ := cells8 BK3.out) | ((with_reducible refine gate_dst (N := 20) rfl ?_); (with_reducible refine gate_callee (f := 12) rfl ?_); refine goesL_ (some 20) rfl rfl Try.func12 (by kernel_rfl) rfl #[.agg #[.int .i64 y.f2.f0, .string y.f2.f1, .int .i64 y.f2.f2, .slice LA5 y.f2.f3.length Lc5, .slice LA6 y.f2.f4.length Lc6, .slice LA7 y.f2.f5.length Lc7], .agg #[.int .i64 y.f2.f0, .string y.f2.f1, .int .i64 y.f2.f2, .slice RA5 y.f2.f3.length Rc5, .slice RA6 y.f2.f4.length Rc6, .slice RA7 y.f2.f5.length Rc7]] rfl (by (try simp only [List.map_toArray, List.map_cons, List.map_nil, List.append_toArray, List.cons_append, List.nil_append]); first | done | rfl) ?_; refine calls_bel (w0 := w) (by repeat (first | (with_reducible first | exact HB.out | apply below_alloc | apply pw_below_drewN | apply below_drew1 | refine below_set ?_ GE2.out | refine below_set ?_ GE3.out) | exact HB.out)) (fun hx_ => ?_); (with_reducible refine (QE_of ih y.f2 HS.out.2 _ _ _ _ _ _ _ _ _ _ _ _ _ ⟨⟨Kd.C_below LR5.out.1 hx_, LR5.out.2⟩, ⟨Kd.C_below LR6.out.1 hx_, LR6.out.2⟩, ⟨Kd.C_below LR7.out.1 hx_, LR7.out.2⟩⟩ ⟨⟨Kd.C_below RR5.out.1 hx_, RR5.out.2⟩, ⟨Kd.C_below RR6.out.1 hx_, RR6.out.2⟩, ⟨Kd.C_below RR7.out.1 hx_, RR7.out.2⟩⟩).mono ?_); rintro e_ w68 ⟨rfl, hb⟩; refine ⟨_, rfl, ?_⟩; have n2_ := Aside0.mk (blk_below (g := gb2) BK2.out hb); have n3_ := Aside0.mk (blk_below (g := gb3) BK3.out hb); have nb_ := Aside0.mk (below_step hx_ hb); clear HB BK2 BK3 hx_ hb; have HB := nb_; have BK2 := n2_; have BK3 := n3_; clear nb_ n2_ n3_; obtain ⟨hc69_0, hc69_1, hc69_2, hc69_3, hc69_4, hc69_5, hc69_6, hc69_7, hf69_0, hf69_1, hf69_2, hf69_3, hf69_4, hf69_5, hf69_6, hf69_7⟩ := cells8 BK2.out; obtain ⟨hc70_0, hc70_1, hc70_2, hc70_3, hc70_4, hc70_5, hc70_6, hc70_7, hf70_0, hf70_1, hf70_2, hf70_3, hf70_4, hf70_5, hf70_6, hf70_7⟩ := cells8 BK3.out))
 go_ret
 exact ⟨rfl, by repeat (first | (with_reducible first | exact HB.out | apply below_alloc | apply pw_below_drewN | apply below_drew1 | refine below_set ?_ GE2.out | refine below_set ?_ GE3.out) | exact HB.out)⟩
theorem allQ (n : Nat) : QEs n ∧ QDs n ∧ QAs n := by
  induction n using Nat.strongRecOn with
  | _ n ih =>
    have hE : ∀ m, m < n → QE m := fun m hm => stepQ12 m (ih m hm).1 (ih m hm).2.1 (ih m hm).2.2
    exact ⟨stepQ29 n hE, stepQ30 n (fun m hm => stepQ53 m (fun k hk => hE k (Nat.lt_trans hk hm)) (ih m hm).2.1), stepQ31 n (fun m hm => stepQ54 m (fun k hk => hE k (Nat.lt_trans hk hm)))⟩
theorem eqExp_calls (n : Nat) : QE n := stepQ12 n (allQ n).1 (allQ n).2.1 (allQ n).2.2
end Go.Proofs.Ytpndcfibjjkgcaa.MyItc

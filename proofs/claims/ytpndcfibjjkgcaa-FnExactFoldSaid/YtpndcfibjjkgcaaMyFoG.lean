/- The walks of both functions that fold a value whose parts are folded. No condition. -/
import Derived.Test.YtpndcfibjjkgcaaMyFoP
import Derived.Test.YtpndcfibjjkgcaaMyFoB
namespace Go.Proofs.Ytpndcfibjjkgcaa.MyItc
open Go Go.RowKit Go.Proofs.YtpndcfibjjkgcaaW.PrintWords Go.Proofs.YtpndcfibjjkgcaaW.PrintLast Go.Proofs.YtpndcfibjjkgcaaW.PrintMore Go.Proofs.Ytpndcfibjjkgcaa.PIfg
attribute [local go_sem] max2_int min2_int max_two min_two max_three min_three max_four min_four
set_option linter.unusedVariables false
set_option linter.unusedSimpArgs false
set_option maxHeartbeats 8000000 in
set_option maxRecDepth 100000 in
theorem oneF47 (a0_0 : Int) (a0_1 : ByteArray) (a0_2 : Int) (g : Nat) (c0_3 : Nat) (l0_3 : List (S33)) (A0_4 : Option Addr) (c0_4 : Nat) (l0_4 : List (S68)) (A0_5 : Option Addr) (c0_5 : Nat) (l0_5 : List (S53)) (Z03 : Option Addr) (z03 : Nat) (Z04 : Option Addr) (z04 : Nat) (Z05 : Option Addr) (z05 : Nat) (Z13 : Option Addr) (z13 : Nat) (Z14 : Option Addr) (z14 : Nat) (Z15 : Option Addr) (z15 : Nat) (w : World) (v : Value) (zz : S33) (bb : Bool) (hl : l0_3.length = 2) (s0 : (w.cell? ⟨g, 0, none⟩ = some (.int .i64 (rd_T33 l0_3 0).f0) ∧ w.cell? ⟨g, 1, none⟩ = some (.string (rd_T33 l0_3 0).f1) ∧ w.cell? ⟨g, 2, none⟩ = some (.int .i64 (rd_T33 l0_3 0).f2) ∧ w.cell? ⟨g, 3, none⟩ = some (.slice Z03 (rd_T33 l0_3 0).f3.length z03) ∧ w.cell? ⟨g, 4, none⟩ = some (.slice Z04 (rd_T33 l0_3 0).f4.length z04) ∧ w.cell? ⟨g, 5, none⟩ = some (.slice Z05 (rd_T33 l0_3 0).f5.length z05))) (s1 : (w.cell? ⟨g, 6, none⟩ = some (.int .i64 (rd_T33 l0_3 1).f0) ∧ w.cell? ⟨g, 7, none⟩ = some (.string (rd_T33 l0_3 1).f1) ∧ w.cell? ⟨g, 8, none⟩ = some (.int .i64 (rd_T33 l0_3 1).f2) ∧ w.cell? ⟨g, 9, none⟩ = some (.slice Z13 (rd_T33 l0_3 1).f3.length z13) ∧ w.cell? ⟨g, 10, none⟩ = some (.slice Z14 (rd_T33 l0_3 1).f4.length z14) ∧ w.cell? ⟨g, 11, none⟩ = some (.slice Z15 (rd_T33 l0_3 1).f5.length z15))) (c9 : (a0_0 == 9) = true) (c8 : (a0_0 == 8) = false) (d0 : ((rd_T33 l0_3 0).f0 == 3) = true) (d1 : ((rd_T33 l0_3 1).f0 == 3) = true) (hF : ∀ w, Calls Try.prog 64 #[.string a0_1, .int .i64 (rd_T33 l0_3 0).f2, .int .i64 (rd_T33 l0_3 1).f2] w fun e w' => e = .returned (.tuple #[aggN zz, .bool bb]) ∧ Below w.heap.size w w') (cs : (bb = true ∧ v = aggN zz) ∨ (bb = false ∧ v = .agg #[.int .i64 a0_0, .string a0_1, .int .i64 a0_2, .slice (some ⟨g, 0, none⟩) l0_3.length c0_3, .slice A0_4 l0_4.length c0_4, .slice A0_5 l0_5.length c0_5])) :
  Calls Try.prog 47 #[.agg #[.int .i64 a0_0, .string a0_1, .int .i64 a0_2, .slice (some ⟨g, 0, none⟩) l0_3.length c0_3, .slice A0_4 l0_4.length c0_4, .slice A0_5 l0_5.length c0_5]] w fun e w' => e = .returned v ∧ Below w.heap.size w w' := by
 have hu33 := Try.underlying33
 have HB := Aside0.mk (Below.refl w.heap.size w)
 have cl : ((l0_3.length : Int) == 2) = true := beq_iff_eq.mpr (by omega)
 have cb00 : decide (0 < (l0_3.length : Int)) = true := decide_eq_true (by omega)
 have cb01 : decide (0 < l0_3.length) = true := decide_eq_true (by omega)
 have qi0 : (0 < l0_3.length) = True := eq_true (by omega)
 have q0 : ((0 : Int) < (l0_3.length : Int)) = True := eq_true (by omega)
 have cb10 : decide (1 < (l0_3.length : Int)) = true := decide_eq_true (by omega)
 have cb11 : decide (1 < l0_3.length) = true := decide_eq_true (by omega)
 have qi1 : (1 < l0_3.length) = True := eq_true (by omega)
 have q1 : ((1 : Int) < (l0_3.length : Int)) = True := eq_true (by omega)
 have E0 := Aside0.mk s0
 have E1 := Aside0.mk s1
 have HF := Aside0.mk hF
 have CS := Aside0.mk cs
 clear s0 s1 hl hF cs
 go_enter Try.func47, Try.ntmps47
 try go_wp2_with (first | ((with_reducible refine gate_dst (N := 1) rfl ?_); refine box_event ?hg (N := 1) ?hd (cs := #[.int .i64 a0_0, .string a0_1, .int .i64 a0_2, .slice (some ⟨g, 0, none⟩) l0_3.length c0_3, .slice A0_4 l0_4.length c0_4, .slice A0_5 l0_5.length c0_5]) (t := 33) ?hr ?_; (case hd => rfl); (case hg => rfl); (case hr => first | (go_simp; done) | (go_simp; rfl)); intro gb1 hg w3 hbox hb; have hx_ := bel_of (w := w) hb (by repeat (first | (with_reducible first | exact HB.out | apply below_alloc | apply pw_below_drewN | apply below_drew1) | exact HB.out)); have nb_ := Aside0.mk (below_step hx_ hb); have ge_ := Aside0.mk (box_ge hx_ hg); clear HB  ; have HB := nb_; have BK1 := Aside0.mk hbox; have GE1 := ge_; clear nb_ ge_ hx_ hb hbox hg  ) | ((with_reducible refine gate_dst (N := 2) rfl ?_); refine box_event ?hg (N := 2) ?hd (cs := #[.int .i64 0, .string (⟨#[]⟩ : ByteArray), .int .i64 0, .slice none 0 0, .slice none 0 0, .slice none 0 0]) (t := 33) ?hr ?_; (case hd => rfl); (case hg => rfl); (case hr => first | (go_simp; done) | (go_simp; rfl)); intro gb2 hg w4 hbox hb; have hx_ := bel_of (w := w) hb (by repeat (first | (with_reducible first | exact HB.out | apply below_alloc | apply pw_below_drewN | apply below_drew1 | refine below_set ?_ GE1.out) | exact HB.out)); have n1_ := Aside0.mk (blk_below (g := gb1) (by (with_reducible repeat (first | refine blk_drewN ?_ _ | refine blk_drew ?_ | refine blk_alloc ?_ _)); exact BK1.out) hb); have m1_ := Aside0.mk (box_lt (g' := gb1) (by (with_reducible repeat (first | refine blk_drewN ?_ _ | refine blk_drew ?_ | refine blk_alloc ?_ _)); exact BK1.out) hg); have k1_ := Aside0.mk (box_gt (g' := gb1) (by (with_reducible repeat (first | refine blk_drewN ?_ _ | refine blk_drew ?_ | refine blk_alloc ?_ _)); exact BK1.out) hg); have nb_ := Aside0.mk (below_step hx_ hb); have ge_ := Aside0.mk (box_ge hx_ hg); clear HB BK1 ; have BK1 := n1_; have NB1_2 := m1_; have NB2_1 := k1_; have HB := nb_; have BK2 := Aside0.mk hbox; have GE2 := ge_; clear nb_ ge_ hx_ hb hbox hg n1_ m1_ k1_ ; obtain ⟨hc21_0, hc21_1, hc21_2, hc21_3, hc21_4, hc21_5, hf21_0, hf21_1, hf21_2, hf21_3, hf21_4, hf21_5⟩ := cells6 BK1.out; obtain ⟨hc22_0, hc22_1, hc22_2, hc22_3, hc22_4, hc22_5, hf22_0, hf22_1, hf22_2, hf22_3, hf22_4, hf22_5⟩ := cells6 BK2.out; have hnb6 := NB1_2.out; have hnc6 := NB2_1.out; obtain ⟨hz0_0, hz0_1, hz0_2, hz0_3, hz0_4, hz0_5⟩ := six_later HB.out E0.out; obtain ⟨hz1_0, hz1_1, hz1_2, hz1_3, hz1_4, hz1_5⟩ := six_later HB.out E1.out))
 have n1_ := Aside0.mk (blk_drew BK1.out)
 have n2_ := Aside0.mk (blk_drew BK2.out)
 have nb_ := Aside0.mk (below_drew1 HB.out)
 clear BK1 BK2 HB
 have BK1 := n1_
 have BK2 := n2_
 have HB := nb_
 clear n1_ n2_ nb_
 refine start_ (n := 19) (S := fun w' => Below w.heap.size w w' ∧ w'.heap[gb1]? = some (.cells #[.int .i64 a0_0, .string a0_1, .int .i64 a0_2, .slice (some ⟨g, 0, none⟩) l0_3.length c0_3, .slice A0_4 l0_4.length c0_4, .slice A0_5 l0_5.length c0_5] 33 (0, 0))) (ds := [17]) #[false, false, false, false, false, false, false, false, false, false, false, false, false, false, false, false, false, false, false] (by kernel_rfl) rfl rfl ⟨HB.out, BK1.out⟩ (fun hHeld => ?_)
 generalize w4.drew = w12 at BK1 BK2 HB hHeld ⊢
 refine pure_ (i := 0) (N := some 32) (v := ?_) (a' := ?_) #[true, false, false, false, false, false, false, false, false, false, false, false, false, false, false, false, false, false, false] rfl rfl (by kernel_rfl) (fun _ _ _ h => h) (Or.inl ⟨by rfl, ?_⟩) ?_ ?_
 rotate_left
 ·intro w'
  go_simp
  with_reducible rfl
 rotate_left
 ·simp only [Act.put, List.setIfInBounds_toArray, List.set_cons_zero, List.set_cons_succ, i64_w, i32_w]
  rfl
 refine take_ (i := 1) (N := some 33) (v := ?_) (a' := ?_) #[true, true, false, false, false, false, false, false, false, false, false, false, false, false, false, false, false, false, false] rfl rfl (by kernel_rfl) (fun _ _ _ h => h) (Or.inl ⟨by rfl, ?_⟩) hHeld ?_ ?_
 rotate_left
 ·rintro w' ⟨hb_, hk_⟩
  have hc := (blk_cell hk_ 1).trans rfl
  go_simp
  with_reducible rfl
 rotate_left
 ·simp only [Act.put, List.setIfInBounds_toArray, List.set_cons_zero, List.set_cons_succ, i64_w, i32_w]
  rfl
 refine pure_ (i := 2) (N := some 34) (v := ?_) (a' := ?_) #[true, true, true, false, false, false, false, false, false, false, false, false, false, false, false, false, false, false, false] rfl rfl (by kernel_rfl) (fun _ _ _ h => h) (Or.inl ⟨by rfl, ?_⟩) ?_ ?_
 rotate_left
 ·intro w'
  go_simp
  with_reducible rfl
 rotate_left
 ·simp only [Act.put, List.setIfInBounds_toArray, List.set_cons_zero, List.set_cons_succ, i64_w, i32_w]
  rfl
 refine take_ (i := 3) (N := some 35) (v := ?_) (a' := ?_) #[true, true, true, true, false, false, false, false, false, false, false, false, false, false, false, false, false, false, false] rfl rfl (by kernel_rfl) (fun _ _ _ h => h) (Or.inl ⟨by rfl, ?_⟩) hHeld ?_ ?_
 rotate_left
 ·rintro w' ⟨hb_, hk_⟩
  have hc := (blk_cell hk_ 3).trans rfl
  go_simp
  with_reducible rfl
 rotate_left
 ·simp only [Act.put, List.setIfInBounds_toArray, List.set_cons_zero, List.set_cons_succ, i64_w, i32_w]
  rfl
 refine pure_ (i := 4) (N := some 36) (v := ?_) (a' := ?_) #[true, true, true, true, true, false, false, false, false, false, false, false, false, false, false, false, false, false, false] rfl rfl (by kernel_rfl) (fun _ _ _ h => h) (Or.inl ⟨by rfl, ?_⟩) ?_ ?_
 rotate_left
 ·intro w'
  go_simp
  with_reducible rfl
 rotate_left
 ·simp only [Act.put, List.setIfInBounds_toArray, List.set_cons_zero, List.set_cons_succ, i64_w, i32_w]
  rfl
 refine pure_ (i := 5) (N := some 37) (v := ?_) (a' := ?_) #[true, true, true, true, true, true, false, false, false, false, false, false, false, false, false, false, false, false, false] rfl rfl (by kernel_rfl) (fun _ _ _ h => h) (Or.inl ⟨by rfl, ?_⟩) ?_ ?_
 rotate_left
 ·intro w'
  go_simp
  with_reducible rfl
 rotate_left
 ·simp only [Act.put, List.setIfInBounds_toArray, List.set_cons_zero, List.set_cons_succ, i64_w, i32_w]
  rfl
 refine take_ (i := 6) (N := some 38) (v := ?_) (a' := ?_) #[true, true, true, true, true, true, true, false, false, false, false, false, false, false, false, false, false, false, false] rfl rfl (by kernel_rfl) (fun _ _ _ h => h) (Or.inl ⟨by rfl, ?_⟩) hHeld ?_ ?_
 rotate_left
 ·rintro w' ⟨hb_, hk_⟩
  obtain ⟨h0_, h1_, h2_, h3_, h4_, h5_⟩ := six_later hb_ E0.out
  go_simp
  with_reducible rfl
 rotate_left
 ·simp only [Act.put, List.setIfInBounds_toArray, List.set_cons_zero, List.set_cons_succ, i64_w, i32_w]
  rfl
 refine pure_ (i := 7) (N := some 39) (v := ?_) (a' := ?_) #[true, true, true, true, true, true, true, true, false, false, false, false, false, false, false, false, false, false, false] rfl rfl (by kernel_rfl) (fun _ _ _ h => h) (Or.inl ⟨by rfl, ?_⟩) ?_ ?_
 rotate_left
 ·intro w'
  go_simp
  with_reducible rfl
 rotate_left
 ·simp only [Act.put, List.setIfInBounds_toArray, List.set_cons_zero, List.set_cons_succ, i64_w, i32_w]
  rfl
 refine take_ (i := 8) (N := some 40) (v := ?_) (a' := ?_) #[true, true, true, true, true, true, true, true, true, false, false, false, false, false, false, false, false, false, false] rfl rfl (by kernel_rfl) (fun _ _ _ h => h) (Or.inl ⟨by rfl, ?_⟩) hHeld ?_ ?_
 rotate_left
 ·rintro w' ⟨hb_, hk_⟩
  have hc := (blk_cell hk_ 3).trans rfl
  go_simp
  with_reducible rfl
 rotate_left
 ·simp only [Act.put, List.setIfInBounds_toArray, List.set_cons_zero, List.set_cons_succ, i64_w, i32_w]
  rfl
 refine pure_ (i := 9) (N := some 41) (v := ?_) (a' := ?_) #[true, true, true, true, true, true, true, true, true, true, false, false, false, false, false, false, false, false, false] rfl rfl (by kernel_rfl) (fun _ _ _ h => h) (Or.inl ⟨by rfl, ?_⟩) ?_ ?_
 rotate_left
 ·intro w'
  go_simp
  with_reducible rfl
 rotate_left
 ·simp only [Act.put, List.setIfInBounds_toArray, List.set_cons_zero, List.set_cons_succ, i64_w, i32_w]
  rfl
 refine pure_ (i := 10) (N := some 42) (v := ?_) (a' := ?_) #[true, true, true, true, true, true, true, true, true, true, true, false, false, false, false, false, false, false, false] rfl rfl (by kernel_rfl) (fun _ _ _ h => h) (Or.inl ⟨by rfl, ?_⟩) ?_ ?_
 rotate_left
 ·intro w'
  go_simp
  with_reducible rfl
 rotate_left
 ·simp only [Act.put, List.setIfInBounds_toArray, List.set_cons_zero, List.set_cons_succ, i64_w, i32_w]
  rfl
 refine take_ (i := 11) (N := some 43) (v := ?_) (a' := ?_) #[true, true, true, true, true, true, true, true, true, true, true, true, false, false, false, false, false, false, false] rfl rfl (by kernel_rfl) (fun _ _ _ h => h) (Or.inl ⟨by rfl, ?_⟩) hHeld ?_ ?_
 rotate_left
 ·rintro w' ⟨hb_, hk_⟩
  obtain ⟨h0_, h1_, h2_, h3_, h4_, h5_⟩ := six_later hb_ E1.out
  go_simp
  with_reducible rfl
 rotate_left
 ·simp only [Act.put, List.setIfInBounds_toArray, List.set_cons_zero, List.set_cons_succ, i64_w, i32_w]
  rfl
 refine two_ (i := 12) (j := 16) (Ni := some 44) (Nj := some 3) #[true, true, true, true, true, true, true, true, true, true, true, true, true, false, false, false, false, false, false] #[true, true, true, true, true, true, true, true, true, true, true, true, false, false, false, false, true, false, false] rfl rfl rfl rfl (by kernel_rfl) (by decide) (by decide) (fun K hK => ?hA) (fun K hK => ?hB)
 case' hA =>
  refine goes_ Try.func64 (by kernel_rfl) rfl #[.string a0_1, .int .i64 (rd_T33 l0_3 0).f2, .int .i64 (rd_T33 l0_3 1).f2] (by rfl) rfl rfl (by (try simp only [List.map_toArray, List.map_cons, List.map_nil, List.append_toArray, List.cons_append, List.nil_append]); first | done | rfl) ?_
  with_reducible refine (HF.out _).mono ?_
  rintro e w13 ⟨rfl, hb⟩
  refine ⟨_, rfl, ?_⟩
  have n1_ := Aside0.mk (blk_below BK1.out hb)
  have n2_ := Aside0.mk (blk_below BK2.out hb)
  have nb_ := Aside0.mk (below_step HB.out hb)
  clear HB hb BK1 BK2
  have HB := nb_
  have BK1 := n1_
  have BK2 := n2_
  clear nb_ n1_ n2_
  refine hK.out _ _ ⟨HB.out, BK1.out⟩ (fun hHeld => ?_)
  clear hK K
  refine norm_ (a' := ?_) ?_ ?_
  rotate_left
  ·show Act.put _ (some 44) _ = _
   simp only [Act.put, List.setIfInBounds_toArray, List.set_cons_zero, List.set_cons_succ, i64_w, i32_w]
   rfl
  refine pure_ (i := 13) (N := some 31) (v := ?_) (a' := ?_) #[true, true, true, true, true, true, true, true, true, true, true, true, true, true, false, false, false, false, false] rfl rfl (by kernel_rfl) (fun _ _ _ h => h) (Or.inl ⟨by rfl, ?_⟩) ?_ ?_
  rotate_left
  ·intro w'
   go_simp
   with_reducible rfl
  rotate_left
  ·simp only [Act.put, List.setIfInBounds_toArray, List.set_cons_zero, List.set_cons_succ, i64_w, i32_w]
   rfl
  refine pure_ (i := 14) (N := some 45) (v := ?_) (a' := ?_) #[true, true, true, true, true, true, true, true, true, true, true, true, true, true, true, false, false, false, false] rfl rfl (by kernel_rfl) (fun _ _ _ h => h) (Or.inl ⟨by rfl, ?_⟩) ?_ ?_
  rotate_left
  ·intro w'
   go_simp
   with_reducible rfl
  rotate_left
  ·simp only [Act.put, List.setIfInBounds_toArray, List.set_cons_zero, List.set_cons_succ, i64_w, i32_w]
   rfl
  refine pure_ (i := 15) (N := some 46) (v := ?_) (a' := ?_) #[true, true, true, true, true, true, true, true, true, true, true, true, true, true, true, true, false, false, false] rfl rfl (by kernel_rfl) (fun _ _ _ h => h) (Or.inl ⟨by rfl, ?_⟩) ?_ ?_
  rotate_left
  ·intro w'
   go_simp
   with_reducible rfl
  rotate_left
  ·simp only [Act.put, List.setIfInBounds_toArray, List.set_cons_zero, List.set_cons_succ, i64_w, i32_w]
   rfl
  refine one_ (i := 16) (N := some 3) #[true, true, true, true, true, true, true, true, true, true, true, true, true, true, true, true, true, false, false] rfl rfl (by kernel_rfl) (by decide) (fun K hK => ?_)
  refine box_step (cs := #[.int .i64 0, .string (⟨#[]⟩ : ByteArray), .int .i64 0, .slice none 0 0, .slice none 0 0, .slice none 0 0]) (t := 33) (by rfl) ?hr ?_
  (case hr => first | (go_simp; done) | (go_simp; rfl))
  intro gb3 w14 hg hbox hb
  have n1_ := Aside0.mk (blk_below BK1.out hb)
  have NB1_3 := Aside0.mk (box_lt BK1.out hg)
  have NB3_1 := Aside0.mk (box_gt BK1.out hg)
  have n2_ := Aside0.mk (blk_below BK2.out hb)
  have NB2_3 := Aside0.mk (box_lt BK2.out hg)
  have NB3_2 := Aside0.mk (box_gt BK2.out hg)
  have GE3 := Aside0.mk (box_ge HB.out hg)
  have nb_ := Aside0.mk (below_step HB.out hb)
  have BK3 := Aside0.mk hbox
  clear HB BK1 BK2 hb hbox hg
  have HB := nb_
  have BK1 := n1_
  have BK2 := n2_
  clear nb_ n1_ n2_
  refine hK.out _ _ ⟨HB.out, BK1.out⟩ (fun hHeld => ?_)
  clear hK K
  refine norm_ (a' := ?_) ?_ ?_
  rotate_left
  ·show Act.put _ (some 3) _ = _
   simp only [Act.put, List.setIfInBounds_toArray, List.set_cons_zero, List.set_cons_succ, i64_w, i32_w]
   rfl
 case' hB =>
  refine box_step (cs := #[.int .i64 0, .string (⟨#[]⟩ : ByteArray), .int .i64 0, .slice none 0 0, .slice none 0 0, .slice none 0 0]) (t := 33) (by rfl) ?hr ?_
  (case hr => first | (go_simp; done) | (go_simp; rfl))
  intro gb3 w13 hg hbox hb
  have n1_ := Aside0.mk (blk_below BK1.out hb)
  have NB1_3 := Aside0.mk (box_lt BK1.out hg)
  have NB3_1 := Aside0.mk (box_gt BK1.out hg)
  have n2_ := Aside0.mk (blk_below BK2.out hb)
  have NB2_3 := Aside0.mk (box_lt BK2.out hg)
  have NB3_2 := Aside0.mk (box_gt BK2.out hg)
  have GE3 := Aside0.mk (box_ge HB.out hg)
  have nb_ := Aside0.mk (below_step HB.out hb)
  have BK3 := Aside0.mk hbox
  clear HB BK1 BK2 hb hbox hg
  have HB := nb_
  have BK1 := n1_
  have BK2 := n2_
  clear nb_ n1_ n2_
  refine hK.out _ _ ⟨HB.out, BK1.out⟩ (fun hHeld => ?_)
  clear hK K
  refine norm_ (a' := ?_) ?_ ?_
  rotate_left
  ·show Act.put _ (some 3) _ = _
   simp only [Act.put, List.setIfInBounds_toArray, List.set_cons_zero, List.set_cons_succ, i64_w, i32_w]
   rfl
  refine one_ (i := 12) (N := some 44) #[true, true, true, true, true, true, true, true, true, true, true, true, true, false, false, false, true, false, false] rfl rfl (by kernel_rfl) (by decide) (fun K hK => ?_)
  refine goes_ Try.func64 (by kernel_rfl) rfl #[.string a0_1, .int .i64 (rd_T33 l0_3 0).f2, .int .i64 (rd_T33 l0_3 1).f2] (by rfl) rfl rfl (by (try simp only [List.map_toArray, List.map_cons, List.map_nil, List.append_toArray, List.cons_append, List.nil_append]); first | done | rfl) ?_
  with_reducible refine (HF.out _).mono ?_
  rintro e w14 ⟨rfl, hb⟩
  refine ⟨_, rfl, ?_⟩
  have n1_ := Aside0.mk (blk_below BK1.out hb)
  have n2_ := Aside0.mk (blk_below BK2.out hb)
  have n3_ := Aside0.mk (blk_below BK3.out hb)
  have nb_ := Aside0.mk (below_step HB.out hb)
  clear HB hb BK1 BK2 BK3
  have HB := nb_
  have BK1 := n1_
  have BK2 := n2_
  have BK3 := n3_
  clear nb_ n1_ n2_ n3_
  refine hK.out _ _ ⟨HB.out, BK1.out⟩ (fun hHeld => ?_)
  clear hK K
  refine norm_ (a' := ?_) ?_ ?_
  rotate_left
  ·show Act.put _ (some 44) _ = _
   simp only [Act.put, List.setIfInBounds_toArray, List.set_cons_zero, List.set_cons_succ, i64_w, i32_w]
   rfl
  refine pure_ (i := 13) (N := some 31) (v := ?_) (a' := ?_) #[true, true, true, true, true, true, true, true, true, true, true, true, true, true, false, false, true, false, false] rfl rfl (by kernel_rfl) (fun _ _ _ h => h) (Or.inl ⟨by rfl, ?_⟩) ?_ ?_
  rotate_left
  ·intro w'
   go_simp
   with_reducible rfl
  rotate_left
  ·simp only [Act.put, List.setIfInBounds_toArray, List.set_cons_zero, List.set_cons_succ, i64_w, i32_w]
   rfl
  refine pure_ (i := 14) (N := some 45) (v := ?_) (a' := ?_) #[true, true, true, true, true, true, true, true, true, true, true, true, true, true, true, false, true, false, false] rfl rfl (by kernel_rfl) (fun _ _ _ h => h) (Or.inl ⟨by rfl, ?_⟩) ?_ ?_
  rotate_left
  ·intro w'
   go_simp
   with_reducible rfl
  rotate_left
  ·simp only [Act.put, List.setIfInBounds_toArray, List.set_cons_zero, List.set_cons_succ, i64_w, i32_w]
   rfl
  refine pure_ (i := 15) (N := some 46) (v := ?_) (a' := ?_) #[true, true, true, true, true, true, true, true, true, true, true, true, true, true, true, true, true, false, false] rfl rfl (by kernel_rfl) (fun _ _ _ h => h) (Or.inl ⟨by rfl, ?_⟩) ?_ ?_
  rotate_left
  ·intro w'
   go_simp
   with_reducible rfl
  rotate_left
  ·simp only [Act.put, List.setIfInBounds_toArray, List.set_cons_zero, List.set_cons_succ, i64_w, i32_w]
   rfl
 all_goals (
  refine last_ (i := 17) (N := none) #[true, true, true, true, true, true, true, true, true, true, true, true, true, true, true, true, true, true, false] rfl rfl (by kernel_rfl) (by decide) (fun K hK => ?_)
  obtain ⟨hs0, hs1, hs2, hs3, hs4, hs5, hf0, hf1, hf2, hf3, hf4, hf5⟩ := cells6 BK3.out
  refine skip_ (w1 := ?_) (by rfl) rfl ?_ ?_
  rotate_left
  ·go_simp
   rfl
  refine hK.out _ _ ?_
  clear hK K
  refine pure_ (i := 18) (N := some 4) (v := ?_) (a' := ?_) #[true, true, true, true, true, true, true, true, true, true, true, true, true, true, true, true, true, true, true] rfl rfl (by kernel_rfl) (fun _ _ _ h => h) (Or.inl ⟨by rfl, ?_⟩) ?_ ?_
  rotate_left
  ·intro w'
   go_simp
   with_reducible rfl
  rotate_left
  ·simp only [Act.put, List.setIfInBounds_toArray, List.set_cons_zero, List.set_cons_succ, i64_w, i32_w]
   rfl
  refine done_ (by kernel_rfl) ?_
  have n1_ : Aside0 (((((((w14.setCell ⟨gb3, 0, none⟩ (.int .i64 zz.f0)).setCell ⟨gb3, 1, none⟩ (.string zz.f1)).setCell ⟨gb3, 2, none⟩ (.int .i64 zz.f2)).setCell ⟨gb3, 3, none⟩ (.slice none 0 0)).setCell ⟨gb3, 4, none⟩ (.slice none 0 0)).setCell ⟨gb3, 5, none⟩ (.slice none 0 0)).heap[gb1]? = some (.cells #[.int .i64 a0_0, .string a0_1, .int .i64 a0_2, .slice (some ⟨g, 0, none⟩) l0_3.length c0_3, .slice A0_4 l0_4.length c0_4, .slice A0_5 l0_5.length c0_5] 33 (0, 0))) := ⟨(blk_far (blk_far (blk_far (blk_far (blk_far (blk_far BK1.out NB1_3.out _) NB1_3.out _) NB1_3.out _) NB1_3.out _) NB1_3.out _) NB1_3.out _)⟩
  have n2_ : Aside0 (((((((w14.setCell ⟨gb3, 0, none⟩ (.int .i64 zz.f0)).setCell ⟨gb3, 1, none⟩ (.string zz.f1)).setCell ⟨gb3, 2, none⟩ (.int .i64 zz.f2)).setCell ⟨gb3, 3, none⟩ (.slice none 0 0)).setCell ⟨gb3, 4, none⟩ (.slice none 0 0)).setCell ⟨gb3, 5, none⟩ (.slice none 0 0)).heap[gb2]? = some (.cells #[.int .i64 0, .string (⟨#[]⟩ : ByteArray), .int .i64 0, .slice none 0 0, .slice none 0 0, .slice none 0 0] 33 (0, 0))) := ⟨(blk_far (blk_far (blk_far (blk_far (blk_far (blk_far BK2.out NB2_3.out _) NB2_3.out _) NB2_3.out _) NB2_3.out _) NB2_3.out _) NB2_3.out _)⟩
  have n3_ : Aside0 (((((((w14.setCell ⟨gb3, 0, none⟩ (.int .i64 zz.f0)).setCell ⟨gb3, 1, none⟩ (.string zz.f1)).setCell ⟨gb3, 2, none⟩ (.int .i64 zz.f2)).setCell ⟨gb3, 3, none⟩ (.slice none 0 0)).setCell ⟨gb3, 4, none⟩ (.slice none 0 0)).setCell ⟨gb3, 5, none⟩ (.slice none 0 0)).heap[gb3]? = some (.cells #[.int .i64 zz.f0, .string zz.f1, .int .i64 zz.f2, .slice none 0 0, .slice none 0 0, .slice none 0 0] 33 (0, 0))) := ⟨(put_6_5 (put_6_4 (put_6_3 (put_6_2 (put_6_1 (put_6_0 BK3.out))))))⟩
  have nb_ : Aside0 (Below w.heap.size w ((((((w14.setCell ⟨gb3, 0, none⟩ (.int .i64 zz.f0)).setCell ⟨gb3, 1, none⟩ (.string zz.f1)).setCell ⟨gb3, 2, none⟩ (.int .i64 zz.f2)).setCell ⟨gb3, 3, none⟩ (.slice none 0 0)).setCell ⟨gb3, 4, none⟩ (.slice none 0 0)).setCell ⟨gb3, 5, none⟩ (.slice none 0 0))) := ⟨(by repeat (first | (with_reducible first | exact HB.out | apply below_alloc | apply pw_below_drewN | apply below_drew1 | refine below_set ?_ GE3.out) | exact HB.out))⟩
  clear BK1 BK2 BK3 HB hs0 hs1 hs2 hs3 hs4 hs5 hf0 hf1 hf2 hf3 hf4 hf5 hHeld
  generalize ((((((w14.setCell ⟨gb3, 0, none⟩ (.int .i64 zz.f0)).setCell ⟨gb3, 1, none⟩ (.string zz.f1)).setCell ⟨gb3, 2, none⟩ (.int .i64 zz.f2)).setCell ⟨gb3, 3, none⟩ (.slice none 0 0)).setCell ⟨gb3, 4, none⟩ (.slice none 0 0)).setCell ⟨gb3, 5, none⟩ (.slice none 0 0)) = w15 at n1_ n2_ n3_ nb_ ⊢
  have BK1 := n1_
  have BK2 := n2_
  have BK3 := n3_
  have HB := nb_
  clear n1_ n2_ n3_ nb_
  obtain ⟨hc23_0, hc23_1, hc23_2, hc23_3, hc23_4, hc23_5, hf23_0, hf23_1, hf23_2, hf23_3, hf23_4, hf23_5⟩ := cells6 BK1.out
  obtain ⟨hc24_0, hc24_1, hc24_2, hc24_3, hc24_4, hc24_5, hf24_0, hf24_1, hf24_2, hf24_3, hf24_4, hf24_5⟩ := cells6 BK2.out
  obtain ⟨hc25_0, hc25_1, hc25_2, hc25_3, hc25_4, hc25_5, hf25_0, hf25_1, hf25_2, hf25_3, hf25_4, hf25_5⟩ := cells6 BK3.out
  have hnb12 := NB1_2.out
  have hnb21 := NB2_1.out
  have hnb13 := NB1_3.out
  have hnb31 := NB3_1.out
  have hnb23 := NB2_3.out
  have hnb32 := NB3_2.out
  rcases CS.out with ⟨rfl, rfl⟩ | ⟨rfl, rfl⟩
  ·go_wp2
   refine bodyPost_ret (results_cell_row rfl _ _ gb2 33 #[.int .i64 zz.f0, .string zz.f1, .int .i64 zz.f2, .slice none 0 0, .slice none 0 0, .slice none 0 0] (0, 0) _ rfl (by (with_reducible repeat (first | refine blk_drewN ?_ _ | refine blk_drew ?_ | refine blk_alloc ?_ _)); exact (put_6_5 (put_6_4 (put_6_3 (put_6_2 (put_6_1 (put_6_0 BK2.out))))))) Try.underlying33 rfl (by kernel_rfl)) rfl ?_
   exact ⟨rfl, by repeat (first | (with_reducible first | exact HB.out | apply below_alloc | apply pw_below_drewN | apply below_drew1 | refine below_set ?_ GE2.out) | exact HB.out)⟩
  ·go_wp2
   refine bodyPost_ret (results_cell_row rfl _ _ gb2 33 #[.int .i64 a0_0, .string a0_1, .int .i64 a0_2, .slice (some ⟨g, 0, none⟩) l0_3.length c0_3, .slice A0_4 l0_4.length c0_4, .slice A0_5 l0_5.length c0_5] (0, 0) _ rfl (by (with_reducible repeat (first | refine blk_drewN ?_ _ | refine blk_drew ?_ | refine blk_alloc ?_ _)); exact (put_6_5 (put_6_4 (put_6_3 (put_6_2 (put_6_1 (put_6_0 BK2.out))))))) Try.underlying33 rfl (by kernel_rfl)) rfl ?_
   exact ⟨rfl, by repeat (first | (with_reducible first | exact HB.out | apply below_alloc | apply pw_below_drewN | apply below_drew1 | refine below_set ?_ GE2.out) | exact HB.out)⟩)
set_option maxHeartbeats 8000000 in
set_option maxRecDepth 100000 in
theorem oneF63 (a0_0 : Int) (a0_1 : ByteArray) (a0_2 : Int) (g : Nat) (c0_3 : Nat) (l0_3 : List (S33)) (A0_4 : Option Addr) (c0_4 : Nat) (l0_4 : List (S68)) (A0_5 : Option Addr) (c0_5 : Nat) (l0_5 : List (S53)) (Z03 : Option Addr) (z03 : Nat) (Z04 : Option Addr) (z04 : Nat) (Z05 : Option Addr) (z05 : Nat) (Z13 : Option Addr) (z13 : Nat) (Z14 : Option Addr) (z14 : Nat) (Z15 : Option Addr) (z15 : Nat) (w : World) (v : Value) (zz : S33) (bb : Bool) (hl : l0_3.length = 2) (s0 : (w.cell? ⟨g, 0, none⟩ = some (.int .i64 (rd_T33 l0_3 0).f0) ∧ w.cell? ⟨g, 1, none⟩ = some (.string (rd_T33 l0_3 0).f1) ∧ w.cell? ⟨g, 2, none⟩ = some (.int .i64 (rd_T33 l0_3 0).f2) ∧ w.cell? ⟨g, 3, none⟩ = some (.slice Z03 (rd_T33 l0_3 0).f3.length z03) ∧ w.cell? ⟨g, 4, none⟩ = some (.slice Z04 (rd_T33 l0_3 0).f4.length z04) ∧ w.cell? ⟨g, 5, none⟩ = some (.slice Z05 (rd_T33 l0_3 0).f5.length z05))) (s1 : (w.cell? ⟨g, 6, none⟩ = some (.int .i64 (rd_T33 l0_3 1).f0) ∧ w.cell? ⟨g, 7, none⟩ = some (.string (rd_T33 l0_3 1).f1) ∧ w.cell? ⟨g, 8, none⟩ = some (.int .i64 (rd_T33 l0_3 1).f2) ∧ w.cell? ⟨g, 9, none⟩ = some (.slice Z13 (rd_T33 l0_3 1).f3.length z13) ∧ w.cell? ⟨g, 10, none⟩ = some (.slice Z14 (rd_T33 l0_3 1).f4.length z14) ∧ w.cell? ⟨g, 11, none⟩ = some (.slice Z15 (rd_T33 l0_3 1).f5.length z15))) (c9 : (a0_0 == 9) = true) (c8 : (a0_0 == 8) = false) (d0 : ((rd_T33 l0_3 0).f0 == 3) = true) (d1 : ((rd_T33 l0_3 1).f0 == 3) = true) (hF : ∀ w, Calls Try.prog 71 #[.string a0_1, .int .i64 (rd_T33 l0_3 0).f2, .int .i64 (rd_T33 l0_3 1).f2] w fun e w' => e = .returned (.tuple #[aggN zz, .bool bb]) ∧ Below w.heap.size w w') (cs : (bb = true ∧ v = aggN zz) ∨ (bb = false ∧ v = .agg #[.int .i64 a0_0, .string a0_1, .int .i64 a0_2, .slice (some ⟨g, 0, none⟩) l0_3.length c0_3, .slice A0_4 l0_4.length c0_4, .slice A0_5 l0_5.length c0_5])) :
  Calls Try.prog 63 #[.agg #[.int .i64 a0_0, .string a0_1, .int .i64 a0_2, .slice (some ⟨g, 0, none⟩) l0_3.length c0_3, .slice A0_4 l0_4.length c0_4, .slice A0_5 l0_5.length c0_5]] w fun e w' => e = .returned v ∧ Below w.heap.size w w' := by
 have hu33 := Try.underlying33
 have HB := Aside0.mk (Below.refl w.heap.size w)
 have cl : ((l0_3.length : Int) == 2) = true := beq_iff_eq.mpr (by omega)
 have cb00 : decide (0 < (l0_3.length : Int)) = true := decide_eq_true (by omega)
 have cb01 : decide (0 < l0_3.length) = true := decide_eq_true (by omega)
 have qi0 : (0 < l0_3.length) = True := eq_true (by omega)
 have q0 : ((0 : Int) < (l0_3.length : Int)) = True := eq_true (by omega)
 have cb10 : decide (1 < (l0_3.length : Int)) = true := decide_eq_true (by omega)
 have cb11 : decide (1 < l0_3.length) = true := decide_eq_true (by omega)
 have qi1 : (1 < l0_3.length) = True := eq_true (by omega)
 have q1 : ((1 : Int) < (l0_3.length : Int)) = True := eq_true (by omega)
 have E0 := Aside0.mk s0
 have E1 := Aside0.mk s1
 have HF := Aside0.mk hF
 have CS := Aside0.mk cs
 clear s0 s1 hl hF cs
 go_enter Try.func63, Try.ntmps63
 try go_wp2_with (first | ((with_reducible refine gate_dst (N := 1) rfl ?_); refine box_event ?hg (N := 1) ?hd (cs := #[.int .i64 a0_0, .string a0_1, .int .i64 a0_2, .slice (some ⟨g, 0, none⟩) l0_3.length c0_3, .slice A0_4 l0_4.length c0_4, .slice A0_5 l0_5.length c0_5]) (t := 33) ?hr ?_; (case hd => rfl); (case hg => rfl); (case hr => first | (go_simp; done) | (go_simp; rfl)); intro gb1 hg w3 hbox hb; have hx_ := bel_of (w := w) hb (by repeat (first | (with_reducible first | exact HB.out | apply below_alloc | apply pw_below_drewN | apply below_drew1) | exact HB.out)); have nb_ := Aside0.mk (below_step hx_ hb); have ge_ := Aside0.mk (box_ge hx_ hg); clear HB  ; have HB := nb_; have BK1 := Aside0.mk hbox; have GE1 := ge_; clear nb_ ge_ hx_ hb hbox hg  ) | ((with_reducible refine gate_dst (N := 2) rfl ?_); refine box_event ?hg (N := 2) ?hd (cs := #[.int .i64 0, .string (⟨#[]⟩ : ByteArray), .int .i64 0, .slice none 0 0, .slice none 0 0, .slice none 0 0]) (t := 33) ?hr ?_; (case hd => rfl); (case hg => rfl); (case hr => first | (go_simp; done) | (go_simp; rfl)); intro gb2 hg w4 hbox hb; have hx_ := bel_of (w := w) hb (by repeat (first | (with_reducible first | exact HB.out | apply below_alloc | apply pw_below_drewN | apply below_drew1 | refine below_set ?_ GE1.out) | exact HB.out)); have n1_ := Aside0.mk (blk_below (g := gb1) (by (with_reducible repeat (first | refine blk_drewN ?_ _ | refine blk_drew ?_ | refine blk_alloc ?_ _)); exact BK1.out) hb); have m1_ := Aside0.mk (box_lt (g' := gb1) (by (with_reducible repeat (first | refine blk_drewN ?_ _ | refine blk_drew ?_ | refine blk_alloc ?_ _)); exact BK1.out) hg); have k1_ := Aside0.mk (box_gt (g' := gb1) (by (with_reducible repeat (first | refine blk_drewN ?_ _ | refine blk_drew ?_ | refine blk_alloc ?_ _)); exact BK1.out) hg); have nb_ := Aside0.mk (below_step hx_ hb); have ge_ := Aside0.mk (box_ge hx_ hg); clear HB BK1 ; have BK1 := n1_; have NB1_2 := m1_; have NB2_1 := k1_; have HB := nb_; have BK2 := Aside0.mk hbox; have GE2 := ge_; clear nb_ ge_ hx_ hb hbox hg n1_ m1_ k1_ ; obtain ⟨hc26_0, hc26_1, hc26_2, hc26_3, hc26_4, hc26_5, hf26_0, hf26_1, hf26_2, hf26_3, hf26_4, hf26_5⟩ := cells6 BK1.out; obtain ⟨hc27_0, hc27_1, hc27_2, hc27_3, hc27_4, hc27_5, hf27_0, hf27_1, hf27_2, hf27_3, hf27_4, hf27_5⟩ := cells6 BK2.out; have hnb6 := NB1_2.out; have hnc6 := NB2_1.out; obtain ⟨hz0_0, hz0_1, hz0_2, hz0_3, hz0_4, hz0_5⟩ := six_later HB.out E0.out; obtain ⟨hz1_0, hz1_1, hz1_2, hz1_3, hz1_4, hz1_5⟩ := six_later HB.out E1.out))
 have n1_ := Aside0.mk (blk_drew BK1.out)
 have n2_ := Aside0.mk (blk_drew BK2.out)
 have nb_ := Aside0.mk (below_drew1 HB.out)
 clear BK1 BK2 HB
 have BK1 := n1_
 have BK2 := n2_
 have HB := nb_
 clear n1_ n2_ nb_
 refine start_ (n := 19) (S := fun w' => Below w.heap.size w w' ∧ w'.heap[gb1]? = some (.cells #[.int .i64 a0_0, .string a0_1, .int .i64 a0_2, .slice (some ⟨g, 0, none⟩) l0_3.length c0_3, .slice A0_4 l0_4.length c0_4, .slice A0_5 l0_5.length c0_5] 33 (0, 0))) (ds := [17]) #[false, false, false, false, false, false, false, false, false, false, false, false, false, false, false, false, false, false, false] (by kernel_rfl) rfl rfl ⟨HB.out, BK1.out⟩ (fun hHeld => ?_)
 generalize w4.drew = w12 at BK1 BK2 HB hHeld ⊢
 refine pure_ (i := 0) (N := some 31) (v := ?_) (a' := ?_) #[true, false, false, false, false, false, false, false, false, false, false, false, false, false, false, false, false, false, false] rfl rfl (by kernel_rfl) (fun _ _ _ h => h) (Or.inl ⟨by rfl, ?_⟩) ?_ ?_
 rotate_left
 ·intro w'
  go_simp
  with_reducible rfl
 rotate_left
 ·simp only [Act.put, List.setIfInBounds_toArray, List.set_cons_zero, List.set_cons_succ, i64_w, i32_w]
  rfl
 refine take_ (i := 1) (N := some 32) (v := ?_) (a' := ?_) #[true, true, false, false, false, false, false, false, false, false, false, false, false, false, false, false, false, false, false] rfl rfl (by kernel_rfl) (fun _ _ _ h => h) (Or.inl ⟨by rfl, ?_⟩) hHeld ?_ ?_
 rotate_left
 ·rintro w' ⟨hb_, hk_⟩
  have hc := (blk_cell hk_ 1).trans rfl
  go_simp
  with_reducible rfl
 rotate_left
 ·simp only [Act.put, List.setIfInBounds_toArray, List.set_cons_zero, List.set_cons_succ, i64_w, i32_w]
  rfl
 refine pure_ (i := 2) (N := some 33) (v := ?_) (a' := ?_) #[true, true, true, false, false, false, false, false, false, false, false, false, false, false, false, false, false, false, false] rfl rfl (by kernel_rfl) (fun _ _ _ h => h) (Or.inl ⟨by rfl, ?_⟩) ?_ ?_
 rotate_left
 ·intro w'
  go_simp
  with_reducible rfl
 rotate_left
 ·simp only [Act.put, List.setIfInBounds_toArray, List.set_cons_zero, List.set_cons_succ, i64_w, i32_w]
  rfl
 refine take_ (i := 3) (N := some 34) (v := ?_) (a' := ?_) #[true, true, true, true, false, false, false, false, false, false, false, false, false, false, false, false, false, false, false] rfl rfl (by kernel_rfl) (fun _ _ _ h => h) (Or.inl ⟨by rfl, ?_⟩) hHeld ?_ ?_
 rotate_left
 ·rintro w' ⟨hb_, hk_⟩
  have hc := (blk_cell hk_ 3).trans rfl
  go_simp
  with_reducible rfl
 rotate_left
 ·simp only [Act.put, List.setIfInBounds_toArray, List.set_cons_zero, List.set_cons_succ, i64_w, i32_w]
  rfl
 refine pure_ (i := 4) (N := some 35) (v := ?_) (a' := ?_) #[true, true, true, true, true, false, false, false, false, false, false, false, false, false, false, false, false, false, false] rfl rfl (by kernel_rfl) (fun _ _ _ h => h) (Or.inl ⟨by rfl, ?_⟩) ?_ ?_
 rotate_left
 ·intro w'
  go_simp
  with_reducible rfl
 rotate_left
 ·simp only [Act.put, List.setIfInBounds_toArray, List.set_cons_zero, List.set_cons_succ, i64_w, i32_w]
  rfl
 refine pure_ (i := 5) (N := some 36) (v := ?_) (a' := ?_) #[true, true, true, true, true, true, false, false, false, false, false, false, false, false, false, false, false, false, false] rfl rfl (by kernel_rfl) (fun _ _ _ h => h) (Or.inl ⟨by rfl, ?_⟩) ?_ ?_
 rotate_left
 ·intro w'
  go_simp
  with_reducible rfl
 rotate_left
 ·simp only [Act.put, List.setIfInBounds_toArray, List.set_cons_zero, List.set_cons_succ, i64_w, i32_w]
  rfl
 refine take_ (i := 6) (N := some 37) (v := ?_) (a' := ?_) #[true, true, true, true, true, true, true, false, false, false, false, false, false, false, false, false, false, false, false] rfl rfl (by kernel_rfl) (fun _ _ _ h => h) (Or.inl ⟨by rfl, ?_⟩) hHeld ?_ ?_
 rotate_left
 ·rintro w' ⟨hb_, hk_⟩
  obtain ⟨h0_, h1_, h2_, h3_, h4_, h5_⟩ := six_later hb_ E0.out
  go_simp
  with_reducible rfl
 rotate_left
 ·simp only [Act.put, List.setIfInBounds_toArray, List.set_cons_zero, List.set_cons_succ, i64_w, i32_w]
  rfl
 refine pure_ (i := 7) (N := some 38) (v := ?_) (a' := ?_) #[true, true, true, true, true, true, true, true, false, false, false, false, false, false, false, false, false, false, false] rfl rfl (by kernel_rfl) (fun _ _ _ h => h) (Or.inl ⟨by rfl, ?_⟩) ?_ ?_
 rotate_left
 ·intro w'
  go_simp
  with_reducible rfl
 rotate_left
 ·simp only [Act.put, List.setIfInBounds_toArray, List.set_cons_zero, List.set_cons_succ, i64_w, i32_w]
  rfl
 refine take_ (i := 8) (N := some 39) (v := ?_) (a' := ?_) #[true, true, true, true, true, true, true, true, true, false, false, false, false, false, false, false, false, false, false] rfl rfl (by kernel_rfl) (fun _ _ _ h => h) (Or.inl ⟨by rfl, ?_⟩) hHeld ?_ ?_
 rotate_left
 ·rintro w' ⟨hb_, hk_⟩
  have hc := (blk_cell hk_ 3).trans rfl
  go_simp
  with_reducible rfl
 rotate_left
 ·simp only [Act.put, List.setIfInBounds_toArray, List.set_cons_zero, List.set_cons_succ, i64_w, i32_w]
  rfl
 refine pure_ (i := 9) (N := some 40) (v := ?_) (a' := ?_) #[true, true, true, true, true, true, true, true, true, true, false, false, false, false, false, false, false, false, false] rfl rfl (by kernel_rfl) (fun _ _ _ h => h) (Or.inl ⟨by rfl, ?_⟩) ?_ ?_
 rotate_left
 ·intro w'
  go_simp
  with_reducible rfl
 rotate_left
 ·simp only [Act.put, List.setIfInBounds_toArray, List.set_cons_zero, List.set_cons_succ, i64_w, i32_w]
  rfl
 refine pure_ (i := 10) (N := some 41) (v := ?_) (a' := ?_) #[true, true, true, true, true, true, true, true, true, true, true, false, false, false, false, false, false, false, false] rfl rfl (by kernel_rfl) (fun _ _ _ h => h) (Or.inl ⟨by rfl, ?_⟩) ?_ ?_
 rotate_left
 ·intro w'
  go_simp
  with_reducible rfl
 rotate_left
 ·simp only [Act.put, List.setIfInBounds_toArray, List.set_cons_zero, List.set_cons_succ, i64_w, i32_w]
  rfl
 refine take_ (i := 11) (N := some 42) (v := ?_) (a' := ?_) #[true, true, true, true, true, true, true, true, true, true, true, true, false, false, false, false, false, false, false] rfl rfl (by kernel_rfl) (fun _ _ _ h => h) (Or.inl ⟨by rfl, ?_⟩) hHeld ?_ ?_
 rotate_left
 ·rintro w' ⟨hb_, hk_⟩
  obtain ⟨h0_, h1_, h2_, h3_, h4_, h5_⟩ := six_later hb_ E1.out
  go_simp
  with_reducible rfl
 rotate_left
 ·simp only [Act.put, List.setIfInBounds_toArray, List.set_cons_zero, List.set_cons_succ, i64_w, i32_w]
  rfl
 refine two_ (i := 12) (j := 16) (Ni := some 43) (Nj := some 3) #[true, true, true, true, true, true, true, true, true, true, true, true, true, false, false, false, false, false, false] #[true, true, true, true, true, true, true, true, true, true, true, true, false, false, false, false, true, false, false] rfl rfl rfl rfl (by kernel_rfl) (by decide) (by decide) (fun K hK => ?hA) (fun K hK => ?hB)
 case' hA =>
  refine goes_ Try.func71 (by kernel_rfl) rfl #[.string a0_1, .int .i64 (rd_T33 l0_3 0).f2, .int .i64 (rd_T33 l0_3 1).f2] (by rfl) rfl rfl (by (try simp only [List.map_toArray, List.map_cons, List.map_nil, List.append_toArray, List.cons_append, List.nil_append]); first | done | rfl) ?_
  with_reducible refine (HF.out _).mono ?_
  rintro e w13 ⟨rfl, hb⟩
  refine ⟨_, rfl, ?_⟩
  have n1_ := Aside0.mk (blk_below BK1.out hb)
  have n2_ := Aside0.mk (blk_below BK2.out hb)
  have nb_ := Aside0.mk (below_step HB.out hb)
  clear HB hb BK1 BK2
  have HB := nb_
  have BK1 := n1_
  have BK2 := n2_
  clear nb_ n1_ n2_
  refine hK.out _ _ ⟨HB.out, BK1.out⟩ (fun hHeld => ?_)
  clear hK K
  refine norm_ (a' := ?_) ?_ ?_
  rotate_left
  ·show Act.put _ (some 43) _ = _
   simp only [Act.put, List.setIfInBounds_toArray, List.set_cons_zero, List.set_cons_succ, i64_w, i32_w]
   rfl
  refine pure_ (i := 13) (N := some 30) (v := ?_) (a' := ?_) #[true, true, true, true, true, true, true, true, true, true, true, true, true, true, false, false, false, false, false] rfl rfl (by kernel_rfl) (fun _ _ _ h => h) (Or.inl ⟨by rfl, ?_⟩) ?_ ?_
  rotate_left
  ·intro w'
   go_simp
   with_reducible rfl
  rotate_left
  ·simp only [Act.put, List.setIfInBounds_toArray, List.set_cons_zero, List.set_cons_succ, i64_w, i32_w]
   rfl
  refine pure_ (i := 14) (N := some 44) (v := ?_) (a' := ?_) #[true, true, true, true, true, true, true, true, true, true, true, true, true, true, true, false, false, false, false] rfl rfl (by kernel_rfl) (fun _ _ _ h => h) (Or.inl ⟨by rfl, ?_⟩) ?_ ?_
  rotate_left
  ·intro w'
   go_simp
   with_reducible rfl
  rotate_left
  ·simp only [Act.put, List.setIfInBounds_toArray, List.set_cons_zero, List.set_cons_succ, i64_w, i32_w]
   rfl
  refine pure_ (i := 15) (N := some 45) (v := ?_) (a' := ?_) #[true, true, true, true, true, true, true, true, true, true, true, true, true, true, true, true, false, false, false] rfl rfl (by kernel_rfl) (fun _ _ _ h => h) (Or.inl ⟨by rfl, ?_⟩) ?_ ?_
  rotate_left
  ·intro w'
   go_simp
   with_reducible rfl
  rotate_left
  ·simp only [Act.put, List.setIfInBounds_toArray, List.set_cons_zero, List.set_cons_succ, i64_w, i32_w]
   rfl
  refine one_ (i := 16) (N := some 3) #[true, true, true, true, true, true, true, true, true, true, true, true, true, true, true, true, true, false, false] rfl rfl (by kernel_rfl) (by decide) (fun K hK => ?_)
  refine box_step (cs := #[.int .i64 0, .string (⟨#[]⟩ : ByteArray), .int .i64 0, .slice none 0 0, .slice none 0 0, .slice none 0 0]) (t := 33) (by rfl) ?hr ?_
  (case hr => first | (go_simp; done) | (go_simp; rfl))
  intro gb3 w14 hg hbox hb
  have n1_ := Aside0.mk (blk_below BK1.out hb)
  have NB1_3 := Aside0.mk (box_lt BK1.out hg)
  have NB3_1 := Aside0.mk (box_gt BK1.out hg)
  have n2_ := Aside0.mk (blk_below BK2.out hb)
  have NB2_3 := Aside0.mk (box_lt BK2.out hg)
  have NB3_2 := Aside0.mk (box_gt BK2.out hg)
  have GE3 := Aside0.mk (box_ge HB.out hg)
  have nb_ := Aside0.mk (below_step HB.out hb)
  have BK3 := Aside0.mk hbox
  clear HB BK1 BK2 hb hbox hg
  have HB := nb_
  have BK1 := n1_
  have BK2 := n2_
  clear nb_ n1_ n2_
  refine hK.out _ _ ⟨HB.out, BK1.out⟩ (fun hHeld => ?_)
  clear hK K
  refine norm_ (a' := ?_) ?_ ?_
  rotate_left
  ·show Act.put _ (some 3) _ = _
   simp only [Act.put, List.setIfInBounds_toArray, List.set_cons_zero, List.set_cons_succ, i64_w, i32_w]
   rfl
 case' hB =>
  refine box_step (cs := #[.int .i64 0, .string (⟨#[]⟩ : ByteArray), .int .i64 0, .slice none 0 0, .slice none 0 0, .slice none 0 0]) (t := 33) (by rfl) ?hr ?_
  (case hr => first | (go_simp; done) | (go_simp; rfl))
  intro gb3 w13 hg hbox hb
  have n1_ := Aside0.mk (blk_below BK1.out hb)
  have NB1_3 := Aside0.mk (box_lt BK1.out hg)
  have NB3_1 := Aside0.mk (box_gt BK1.out hg)
  have n2_ := Aside0.mk (blk_below BK2.out hb)
  have NB2_3 := Aside0.mk (box_lt BK2.out hg)
  have NB3_2 := Aside0.mk (box_gt BK2.out hg)
  have GE3 := Aside0.mk (box_ge HB.out hg)
  have nb_ := Aside0.mk (below_step HB.out hb)
  have BK3 := Aside0.mk hbox
  clear HB BK1 BK2 hb hbox hg
  have HB := nb_
  have BK1 := n1_
  have BK2 := n2_
  clear nb_ n1_ n2_
  refine hK.out _ _ ⟨HB.out, BK1.out⟩ (fun hHeld => ?_)
  clear hK K
  refine norm_ (a' := ?_) ?_ ?_
  rotate_left
  ·show Act.put _ (some 3) _ = _
   simp only [Act.put, List.setIfInBounds_toArray, List.set_cons_zero, List.set_cons_succ, i64_w, i32_w]
   rfl
  refine one_ (i := 12) (N := some 43) #[true, true, true, true, true, true, true, true, true, true, true, true, true, false, false, false, true, false, false] rfl rfl (by kernel_rfl) (by decide) (fun K hK => ?_)
  refine goes_ Try.func71 (by kernel_rfl) rfl #[.string a0_1, .int .i64 (rd_T33 l0_3 0).f2, .int .i64 (rd_T33 l0_3 1).f2] (by rfl) rfl rfl (by (try simp only [List.map_toArray, List.map_cons, List.map_nil, List.append_toArray, List.cons_append, List.nil_append]); first | done | rfl) ?_
  with_reducible refine (HF.out _).mono ?_
  rintro e w14 ⟨rfl, hb⟩
  refine ⟨_, rfl, ?_⟩
  have n1_ := Aside0.mk (blk_below BK1.out hb)
  have n2_ := Aside0.mk (blk_below BK2.out hb)
  have n3_ := Aside0.mk (blk_below BK3.out hb)
  have nb_ := Aside0.mk (below_step HB.out hb)
  clear HB hb BK1 BK2 BK3
  have HB := nb_
  have BK1 := n1_
  have BK2 := n2_
  have BK3 := n3_
  clear nb_ n1_ n2_ n3_
  refine hK.out _ _ ⟨HB.out, BK1.out⟩ (fun hHeld => ?_)
  clear hK K
  refine norm_ (a' := ?_) ?_ ?_
  rotate_left
  ·show Act.put _ (some 43) _ = _
   simp only [Act.put, List.setIfInBounds_toArray, List.set_cons_zero, List.set_cons_succ, i64_w, i32_w]
   rfl
  refine pure_ (i := 13) (N := some 30) (v := ?_) (a' := ?_) #[true, true, true, true, true, true, true, true, true, true, true, true, true, true, false, false, true, false, false] rfl rfl (by kernel_rfl) (fun _ _ _ h => h) (Or.inl ⟨by rfl, ?_⟩) ?_ ?_
  rotate_left
  ·intro w'
   go_simp
   with_reducible rfl
  rotate_left
  ·simp only [Act.put, List.setIfInBounds_toArray, List.set_cons_zero, List.set_cons_succ, i64_w, i32_w]
   rfl
  refine pure_ (i := 14) (N := some 44) (v := ?_) (a' := ?_) #[true, true, true, true, true, true, true, true, true, true, true, true, true, true, true, false, true, false, false] rfl rfl (by kernel_rfl) (fun _ _ _ h => h) (Or.inl ⟨by rfl, ?_⟩) ?_ ?_
  rotate_left
  ·intro w'
   go_simp
   with_reducible rfl
  rotate_left
  ·simp only [Act.put, List.setIfInBounds_toArray, List.set_cons_zero, List.set_cons_succ, i64_w, i32_w]
   rfl
  refine pure_ (i := 15) (N := some 45) (v := ?_) (a' := ?_) #[true, true, true, true, true, true, true, true, true, true, true, true, true, true, true, true, true, false, false] rfl rfl (by kernel_rfl) (fun _ _ _ h => h) (Or.inl ⟨by rfl, ?_⟩) ?_ ?_
  rotate_left
  ·intro w'
   go_simp
   with_reducible rfl
  rotate_left
  ·simp only [Act.put, List.setIfInBounds_toArray, List.set_cons_zero, List.set_cons_succ, i64_w, i32_w]
   rfl
 all_goals (
  refine last_ (i := 17) (N := none) #[true, true, true, true, true, true, true, true, true, true, true, true, true, true, true, true, true, true, false] rfl rfl (by kernel_rfl) (by decide) (fun K hK => ?_)
  obtain ⟨hs0, hs1, hs2, hs3, hs4, hs5, hf0, hf1, hf2, hf3, hf4, hf5⟩ := cells6 BK3.out
  refine skip_ (w1 := ?_) (by rfl) rfl ?_ ?_
  rotate_left
  ·go_simp
   rfl
  refine hK.out _ _ ?_
  clear hK K
  refine pure_ (i := 18) (N := some 4) (v := ?_) (a' := ?_) #[true, true, true, true, true, true, true, true, true, true, true, true, true, true, true, true, true, true, true] rfl rfl (by kernel_rfl) (fun _ _ _ h => h) (Or.inl ⟨by rfl, ?_⟩) ?_ ?_
  rotate_left
  ·intro w'
   go_simp
   with_reducible rfl
  rotate_left
  ·simp only [Act.put, List.setIfInBounds_toArray, List.set_cons_zero, List.set_cons_succ, i64_w, i32_w]
   rfl
  refine done_ (by kernel_rfl) ?_
  have n1_ : Aside0 (((((((w14.setCell ⟨gb3, 0, none⟩ (.int .i64 zz.f0)).setCell ⟨gb3, 1, none⟩ (.string zz.f1)).setCell ⟨gb3, 2, none⟩ (.int .i64 zz.f2)).setCell ⟨gb3, 3, none⟩ (.slice none 0 0)).setCell ⟨gb3, 4, none⟩ (.slice none 0 0)).setCell ⟨gb3, 5, none⟩ (.slice none 0 0)).heap[gb1]? = some (.cells #[.int .i64 a0_0, .string a0_1, .int .i64 a0_2, .slice (some ⟨g, 0, none⟩) l0_3.length c0_3, .slice A0_4 l0_4.length c0_4, .slice A0_5 l0_5.length c0_5] 33 (0, 0))) := ⟨(blk_far (blk_far (blk_far (blk_far (blk_far (blk_far BK1.out NB1_3.out _) NB1_3.out _) NB1_3.out _) NB1_3.out _) NB1_3.out _) NB1_3.out _)⟩
  have n2_ : Aside0 (((((((w14.setCell ⟨gb3, 0, none⟩ (.int .i64 zz.f0)).setCell ⟨gb3, 1, none⟩ (.string zz.f1)).setCell ⟨gb3, 2, none⟩ (.int .i64 zz.f2)).setCell ⟨gb3, 3, none⟩ (.slice none 0 0)).setCell ⟨gb3, 4, none⟩ (.slice none 0 0)).setCell ⟨gb3, 5, none⟩ (.slice none 0 0)).heap[gb2]? = some (.cells #[.int .i64 0, .string (⟨#[]⟩ : ByteArray), .int .i64 0, .slice none 0 0, .slice none 0 0, .slice none 0 0] 33 (0, 0))) := ⟨(blk_far (blk_far (blk_far (blk_far (blk_far (blk_far BK2.out NB2_3.out _) NB2_3.out _) NB2_3.out _) NB2_3.out _) NB2_3.out _) NB2_3.out _)⟩
  have n3_ : Aside0 (((((((w14.setCell ⟨gb3, 0, none⟩ (.int .i64 zz.f0)).setCell ⟨gb3, 1, none⟩ (.string zz.f1)).setCell ⟨gb3, 2, none⟩ (.int .i64 zz.f2)).setCell ⟨gb3, 3, none⟩ (.slice none 0 0)).setCell ⟨gb3, 4, none⟩ (.slice none 0 0)).setCell ⟨gb3, 5, none⟩ (.slice none 0 0)).heap[gb3]? = some (.cells #[.int .i64 zz.f0, .string zz.f1, .int .i64 zz.f2, .slice none 0 0, .slice none 0 0, .slice none 0 0] 33 (0, 0))) := ⟨(put_6_5 (put_6_4 (put_6_3 (put_6_2 (put_6_1 (put_6_0 BK3.out))))))⟩
  have nb_ : Aside0 (Below w.heap.size w ((((((w14.setCell ⟨gb3, 0, none⟩ (.int .i64 zz.f0)).setCell ⟨gb3, 1, none⟩ (.string zz.f1)).setCell ⟨gb3, 2, none⟩ (.int .i64 zz.f2)).setCell ⟨gb3, 3, none⟩ (.slice none 0 0)).setCell ⟨gb3, 4, none⟩ (.slice none 0 0)).setCell ⟨gb3, 5, none⟩ (.slice none 0 0))) := ⟨(by repeat (first | (with_reducible first | exact HB.out | apply below_alloc | apply pw_below_drewN | apply below_drew1 | refine below_set ?_ GE3.out) | exact HB.out))⟩
  clear BK1 BK2 BK3 HB hs0 hs1 hs2 hs3 hs4 hs5 hf0 hf1 hf2 hf3 hf4 hf5 hHeld
  generalize ((((((w14.setCell ⟨gb3, 0, none⟩ (.int .i64 zz.f0)).setCell ⟨gb3, 1, none⟩ (.string zz.f1)).setCell ⟨gb3, 2, none⟩ (.int .i64 zz.f2)).setCell ⟨gb3, 3, none⟩ (.slice none 0 0)).setCell ⟨gb3, 4, none⟩ (.slice none 0 0)).setCell ⟨gb3, 5, none⟩ (.slice none 0 0)) = w15 at n1_ n2_ n3_ nb_ ⊢
  have BK1 := n1_
  have BK2 := n2_
  have BK3 := n3_
  have HB := nb_
  clear n1_ n2_ n3_ nb_
  obtain ⟨hc28_0, hc28_1, hc28_2, hc28_3, hc28_4, hc28_5, hf28_0, hf28_1, hf28_2, hf28_3, hf28_4, hf28_5⟩ := cells6 BK1.out
  obtain ⟨hc29_0, hc29_1, hc29_2, hc29_3, hc29_4, hc29_5, hf29_0, hf29_1, hf29_2, hf29_3, hf29_4, hf29_5⟩ := cells6 BK2.out
  obtain ⟨hc30_0, hc30_1, hc30_2, hc30_3, hc30_4, hc30_5, hf30_0, hf30_1, hf30_2, hf30_3, hf30_4, hf30_5⟩ := cells6 BK3.out
  have hnb12 := NB1_2.out
  have hnb21 := NB2_1.out
  have hnb13 := NB1_3.out
  have hnb31 := NB3_1.out
  have hnb23 := NB2_3.out
  have hnb32 := NB3_2.out
  rcases CS.out with ⟨rfl, rfl⟩ | ⟨rfl, rfl⟩
  ·go_wp2
   refine bodyPost_ret (results_cell_row rfl _ _ gb2 33 #[.int .i64 zz.f0, .string zz.f1, .int .i64 zz.f2, .slice none 0 0, .slice none 0 0, .slice none 0 0] (0, 0) _ rfl (by (with_reducible repeat (first | refine blk_drewN ?_ _ | refine blk_drew ?_ | refine blk_alloc ?_ _)); exact (put_6_5 (put_6_4 (put_6_3 (put_6_2 (put_6_1 (put_6_0 BK2.out))))))) Try.underlying33 rfl (by kernel_rfl)) rfl ?_
   exact ⟨rfl, by repeat (first | (with_reducible first | exact HB.out | apply below_alloc | apply pw_below_drewN | apply below_drew1 | refine below_set ?_ GE2.out) | exact HB.out)⟩
  ·go_wp2
   refine bodyPost_ret (results_cell_row rfl _ _ gb2 33 #[.int .i64 a0_0, .string a0_1, .int .i64 a0_2, .slice (some ⟨g, 0, none⟩) l0_3.length c0_3, .slice A0_4 l0_4.length c0_4, .slice A0_5 l0_5.length c0_5] (0, 0) _ rfl (by (with_reducible repeat (first | refine blk_drewN ?_ _ | refine blk_drew ?_ | refine blk_alloc ?_ _)); exact (put_6_5 (put_6_4 (put_6_3 (put_6_2 (put_6_1 (put_6_0 BK2.out))))))) Try.underlying33 rfl (by kernel_rfl)) rfl ?_
   exact ⟨rfl, by repeat (first | (with_reducible first | exact HB.out | apply below_alloc | apply pw_below_drewN | apply below_drew1 | refine below_set ?_ GE2.out) | exact HB.out)⟩)
end Go.Proofs.Ytpndcfibjjkgcaa.MyItc

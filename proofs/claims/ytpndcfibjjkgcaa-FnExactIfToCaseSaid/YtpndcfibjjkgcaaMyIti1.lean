/- The walk of the function that says an if as a case. No condition. -/
import Derived.Test.YtpndcfibjjkgcaaMyIti
namespace Go.Proofs.Ytpndcfibjjkgcaa.MyItc
open Go Go.RowKit Go.Proofs.YtpndcfibjjkgcaaW.PrintWords Go.Proofs.YtpndcfibjjkgcaaW.PrintLast Go.Proofs.YtpndcfibjjkgcaaW.PrintMore Go.Proofs.Ytpndcfibjjkgcaa.PIfg
attribute [local go_sem] max2_int min2_int max_two min_two max_three min_three max_four min_four
set_option linter.unusedVariables false
set_option linter.unusedSimpArgs false
def I_T3 : Bool × List (List Nat × List Nat) := (true, [([], []), ([0], [0]), ([1], [1]), ([2], [2]), ([3], [3]), ([4], [4]), ([], []), ([6], [6]), ([7], [7]), ([8], [8]), ([9, 4], [9]), ([10], [10]), ([], []), ([12], [12]), ([13], [13]), ([14], [14]), ([15, 10], [15]), ([16], [16]), ([11, 17], [11, 17]), ([5, 18], [5, 18]), ([19, 16, 0, 1, 2, 3, 4, 5, 6, 7, 8, 9, 10, 11, 12, 13, 14, 15, 16, 17, 18, 19], [19]), ([20, 0, 1, 2, 3, 4, 5, 6, 7, 8, 9, 10, 11, 12, 13, 14, 15, 16, 17, 18, 19, 20], [])])
def I_B3 : List Nat := [0, 1, 3, 7, 15, 31, 0, 64, 192, 448, 991, 2015, 0, 4096, 12288, 28672, 63455, 128991, 262111, 524287, 1048575, 2097151]
theorem I_tab3 : rtab .any (opsOf Try.f16 3) = I_T3 := by kernel_rfl
theorem I_bits3 : waitsOk I_T3.2 I_B3 = true := by kernel_rfl
set_option maxHeartbeats 8000000 in
set_option maxRecDepth 100000 in
theorem IfToCase_no (k : Nat) (a0_0 : Int) (a0_1 : ByteArray) (a0_2 : Int) (A0_3 : Option Addr) (c0_3 : Nat) (l0_3 : List (S33)) (A0_4 : Option Addr) (c0_4 : Nat) (l0_4 : List (S68)) (A0_5 : Option Addr) (c0_5 : Nat) (l0_5 : List (S53)) (w : World) (ha : ArgE w A0_3 c0_3 l0_3 A0_4 c0_4 l0_4 A0_5 c0_5 l0_5) (hn : ¬ (a0_0 = 8 ∧ l0_3.length = 3)) (h : uE k l0_3 l0_4 l0_5 = some ()) :
  Calls Try.prog 16 #[.agg #[.int .i64 a0_0, .string a0_1, .int .i64 a0_2, .slice A0_3 l0_3.length c0_3, .slice A0_4 l0_4.length c0_4, .slice A0_5 l0_5.length c0_5]] w fun e w' => ∃ (A3 : Option Addr) (c3 : Nat) (i3 : List It) (A4 : Option Addr) (c4 : Nat) (i4 : List It) (A5 : Option Addr) (c5 : Nat) (i5 : List It), e = .returned (.tuple #[.agg #[.int .i64 a0_0, .string a0_1, .int .i64 a0_2, .slice A3 l0_3.length c3, .slice A4 l0_4.length c4, .slice A5 l0_5.length c5], .bool false]) ∧ CopE w.heap.size w' l0_3 l0_4 l0_5 A3 c3 i3 A4 c4 i4 A5 c5 i5 ∧ Below w.heap.size w w' := by
 have hu33 := Try.underlying33
 have HA := Aside0.mk ha
 have H' := Aside0.mk h
 have HN := Aside0.mk (decide_eq_false hn)
 clear ha h hn
 have HB := Aside0.mk (Below.refl w.heap.size w)
 go_enter Try.func16, Try.ntmps16
 go_wp2_with (first | ((with_reducible refine gate_dst (N := 1) rfl ?_); refine box_event ?hg (N := 1) ?hd (cs := #[.int .i64 a0_0, .string a0_1, .int .i64 a0_2, .slice A0_3 l0_3.length c0_3, .slice A0_4 l0_4.length c0_4, .slice A0_5 l0_5.length c0_5]) (t := 33) ?hr ?_; (case hd => rfl); (case hg => rfl); (case hr => first | (go_simp; done) | (go_simp; rfl)); intro gb1 hg w3 hbox hb; have hx_ := bel_of (w := w) hb (by repeat (first | (with_reducible first | exact HB.out | apply below_alloc | apply pw_below_drewN | apply below_drew1) | exact HB.out)); have nb_ := Aside0.mk (below_step hx_ hb); have ge_ := Aside0.mk (box_ge hx_ hg); clear HB  ; have HB := nb_; have BK1 := Aside0.mk hbox; have GE1 := ge_; clear nb_ ge_ hx_ hb hbox hg  ) | ((with_reducible refine gate_dst (N := 2) rfl ?_); refine box_event ?hg (N := 2) ?hd (cs := #[.int .i64 0, .string (⟨#[]⟩ : ByteArray), .int .i64 0, .slice none 0 0, .slice none 0 0, .slice none 0 0]) (t := 33) ?hr ?_; (case hd => rfl); (case hg => rfl); (case hr => first | (go_simp; done) | (go_simp; rfl)); intro gb2 hg w4 hbox hb; have hx_ := bel_of (w := w) hb (by repeat (first | (with_reducible first | exact HB.out | apply below_alloc | apply pw_below_drewN | apply below_drew1 | refine below_set ?_ GE1.out) | exact HB.out)); have n1_ := Aside0.mk (blk_below (g := gb1) (by (with_reducible repeat (first | refine blk_drewN ?_ _ | refine blk_drew ?_ | refine blk_alloc ?_ _)); exact BK1.out) hb); have m1_ := Aside0.mk (box_lt (g' := gb1) (by (with_reducible repeat (first | refine blk_drewN ?_ _ | refine blk_drew ?_ | refine blk_alloc ?_ _)); exact BK1.out) hg); have k1_ := Aside0.mk (box_gt (g' := gb1) (by (with_reducible repeat (first | refine blk_drewN ?_ _ | refine blk_drew ?_ | refine blk_alloc ?_ _)); exact BK1.out) hg); have nb_ := Aside0.mk (below_step hx_ hb); have ge_ := Aside0.mk (box_ge hx_ hg); clear HB BK1 ; have BK1 := n1_; have NB1_2 := m1_; have NB2_1 := k1_; have HB := nb_; have BK2 := Aside0.mk hbox; have GE2 := ge_; clear nb_ ge_ hx_ hb hbox hg n1_ m1_ k1_ ; obtain ⟨hc5_0, hc5_1, hc5_2, hc5_3, hc5_4, hc5_5, hf5_0, hf5_1, hf5_2, hf5_3, hf5_4, hf5_5⟩ := cells6 BK1.out; have hnb6 := NB1_2.out; have hnc6 := NB2_1.out) | ((with_reducible refine gate_callee (f := 36) rfl ?_); refine goesL_ (some 5) rfl rfl Try.func36 (by kernel_rfl) rfl #[.agg #[.int .i64 a0_0, .string a0_1, .int .i64 a0_2, .slice A0_3 l0_3.length c0_3, .slice A0_4 l0_4.length c0_4, .slice A0_5 l0_5.length c0_5]] rfl (by (try simp only [List.map_toArray, List.map_cons, List.map_nil, List.append_toArray, List.cons_append, List.nil_append]); first | done | rfl) ?_; refine calls_bel (w0 := w) (by repeat (first | (with_reducible first | exact HB.out | apply below_alloc | apply pw_below_drewN | apply below_drew1 | refine below_set ?_ GE1.out | refine below_set ?_ GE2.out) | exact HB.out)) (fun hx_ => ?_); (with_reducible refine (isIf_calls _ _ _ _ _ _ _ _ _ _ _ _ _).mono ?_); rintro e w8 ⟨rfl, hb⟩; rw [HN.out]; refine ⟨_, rfl, ?_⟩; have n1_ := Aside0.mk (blk_below (g := gb1) (by (with_reducible repeat (first | refine blk_drewN ?_ _ | refine blk_drew ?_ | refine blk_alloc ?_ _)); exact BK1.out) hb); have n2_ := Aside0.mk (blk_below (g := gb2) (by (with_reducible repeat (first | refine blk_drewN ?_ _ | refine blk_drew ?_ | refine blk_alloc ?_ _)); exact BK2.out) hb); have nb_ := Aside0.mk (below_step hx_ hb); clear HB BK1 BK2 hx_ hb; have HB := nb_; have BK1 := n1_; have BK2 := n2_; clear nb_ n1_ n2_; obtain ⟨hc6_0, hc6_1, hc6_2, hc6_3, hc6_4, hc6_5, hf6_0, hf6_1, hf6_2, hf6_3, hf6_4, hf6_5⟩ := cells6 BK1.out) | ((with_reducible refine gate_callee (f := 37) rfl ?_); refine goesL_ (some 8) rfl rfl Try.func37 (by kernel_rfl) rfl #[.agg #[.int .i64 a0_0, .string a0_1, .int .i64 a0_2, .slice A0_3 l0_3.length c0_3, .slice A0_4 l0_4.length c0_4, .slice A0_5 l0_5.length c0_5]] rfl (by (try simp only [List.map_toArray, List.map_cons, List.map_nil, List.append_toArray, List.cons_append, List.nil_append]); first | done | rfl) ?_; refine calls_bel (w0 := w) (by repeat (first | (with_reducible first | exact HB.out | apply below_alloc | apply pw_below_drewN | apply below_drew1 | refine below_set ?_ GE1.out | refine below_set ?_ GE2.out) | exact HB.out)) (fun hx_ => ?_); (with_reducible refine ((all k).1 a0_0 a0_1 a0_2 _ _ l0_3 _ _ l0_4 _ _ l0_5 _ ⟨⟨Kd.C_below HA.out.1.1 hx_, HA.out.1.2⟩, ⟨Kd.C_below HA.out.2.1.1 hx_, HA.out.2.1.2⟩, ⟨Kd.C_below HA.out.2.2.1 hx_, HA.out.2.2.2⟩⟩ H'.out).mono ?_); rintro e w9 ⟨E3, d3, y3, E4, d4, y4, E5, d5, y5, rfl, hc, hb⟩; refine ⟨_, rfl, ?_⟩; have n2_ := Aside0.mk (blk_below (g := gb2) (by (with_reducible repeat (first | refine blk_drewN ?_ _ | refine blk_drew ?_ | refine blk_alloc ?_ _)); exact BK2.out) hb); have g2_ := Aside0.mk (lt_of_blk (g := gb2) (by (with_reducible repeat (first | refine blk_drewN ?_ _ | refine blk_drew ?_ | refine blk_alloc ?_ _)); exact BK2.out) hb); have HC := Aside0.mk hc; have LO := Aside0.mk (below_size hx_); have nb_ := Aside0.mk (below_step hx_ hb); clear HB BK1 BK2 hx_ hb hc; have HB := nb_; have BK2 := n2_; have GL := g2_; clear nb_ n2_ g2_; obtain ⟨hc7_0, hc7_1, hc7_2, hc7_3, hc7_4, hc7_5, hf7_0, hf7_1, hf7_2, hf7_3, hf7_4, hf7_5⟩ := cells6 BK2.out))
 refine bodyPost_ret (results_ct rfl _ _ gb2 33 #[.int .i64 a0_0, .string a0_1, .int .i64 a0_2, .slice E3 l0_3.length d3, .slice E4 l0_4.length d4, .slice E5 l0_5.length d5] (0, 0) _ rfl (by (with_reducible repeat (first | refine blk_drewN ?_ _ | refine blk_drew ?_ | refine blk_alloc ?_ _)); exact (put_6_5 (put_6_4 (put_6_3 (put_6_2 (put_6_1 (put_6_0 BK2.out))))))) Try.underlying33 rfl (by kernel_rfl)) rfl ?_
 exact ⟨E3, d3, y3, E4, d4, y4, E5, d5, y5, rfl, ((((((HC.out.set GL.out _ _).set GL.out _ _).set GL.out _ _).set GL.out _ _).set GL.out _ _).set GL.out _ _).low LO.out, by repeat (first | (with_reducible first | exact HB.out | apply below_alloc | apply pw_below_drewN | apply below_drew1 | refine below_set ?_ GE2.out) | exact HB.out)⟩
set_option maxHeartbeats 8000000 in
set_option maxRecDepth 100000 in
theorem IfToCase_yes (k : Nat) (a0_0 : Int) (a0_1 : ByteArray) (a0_2 : Int) (A0_3 : Option Addr) (c0_3 : Nat) (l0_3 : List (S33)) (A0_4 : Option Addr) (c0_4 : Nat) (l0_4 : List (S68)) (A0_5 : Option Addr) (c0_5 : Nat) (l0_5 : List (S53)) (w : World) (ha : ArgE w A0_3 c0_3 l0_3 A0_4 c0_4 l0_4 A0_5 c0_5 l0_5) (hn : a0_0 = 8 ∧ l0_3.length = 3) (h0 : uE k (rd_T33 l0_3 0).f3 (rd_T33 l0_3 0).f4 (rd_T33 l0_3 0).f5 = some ()) (h1 : uE k (rd_T33 l0_3 1).f3 (rd_T33 l0_3 1).f4 (rd_T33 l0_3 1).f5 = some ()) (h2 : uE k (rd_T33 l0_3 2).f3 (rd_T33 l0_3 2).f4 (rd_T33 l0_3 2).f5 = some ()) :
  Calls Try.prog 16 #[.agg #[.int .i64 a0_0, .string a0_1, .int .i64 a0_2, .slice A0_3 l0_3.length c0_3, .slice A0_4 l0_4.length c0_4, .slice A0_5 l0_5.length c0_5]] w fun e w' => ∃ (A3 : Option Addr) (c3 : Nat) (i3 : List It) (A4 : Option Addr) (c4 : Nat) (i4 : List It) (A5 : Option Addr) (c5 : Nat) (i5 : List It), e = .returned (.tuple #[.agg #[.int .i64 7, .string (⟨#[]⟩ : ByteArray), .int .i64 0, .slice A3 1 c3, .slice A4 0 c4, .slice A5 2 c5], .bool true]) ∧ CopE w.heap.size w' [(rd_T33 l0_3 0)] [] [(⟨(⟨#[84, 114, 117, 101]⟩ : ByteArray), [], (rd_T33 l0_3 1)⟩ : S53), (⟨(⟨#[70, 97, 108, 115, 101]⟩ : ByteArray), [], (rd_T33 l0_3 2)⟩ : S53)] A3 c3 i3 A4 c4 i4 A5 c5 i5 ∧ Below w.heap.size w w' := by
 have hu33 := Try.underlying33
 have hu53 := Try.underlying53
 have HA := Aside0.mk ha
 have HU0 := Aside0.mk h0
 have HU1 := Aside0.mk h1
 have HU2 := Aside0.mk h2
 have HN := Aside0.mk (decide_eq_true hn)
 have hl3 : l0_3.length = 3 := hn.2
 have c4b0 : decide (0 < (l0_3.length : Int)) = true := decide_eq_true (by omega)
 have c4b1 : decide (0 < l0_3.length) = true := decide_eq_true (by omega)
 have c6b0 : decide (1 < (l0_3.length : Int)) = true := decide_eq_true (by omega)
 have c6b1 : decide (1 < l0_3.length) = true := decide_eq_true (by omega)
 have c8b0 : decide (2 < (l0_3.length : Int)) = true := decide_eq_true (by omega)
 have c8b1 : decide (2 < l0_3.length) = true := decide_eq_true (by omega)
 have qi0 : (0 < l0_3.length) = True := eq_true (by omega)
 have qi1 : (1 < l0_3.length) = True := eq_true (by omega)
 have qi2 : (2 < l0_3.length) = True := eq_true (by omega)
 have q0 : ((0 : Int) < (l0_3.length : Int)) = True := eq_true (by omega)
 have q1 : ((1 : Int) < (l0_3.length : Int)) = True := eq_true (by omega)
 have q2 : ((2 : Int) < (l0_3.length : Int)) = True := eq_true (by omega)
 obtain ⟨ad, Z03, z03, Z04, z04, Z05, z05, e0, g0, ga0⟩ := at3_0 HA.out.1.1 (by omega)
 obtain ⟨ad1, Z13, z13, Z14, z14, Z15, z15, e1, g1, ga1⟩ := at3_1 HA.out.1.1 (by omega)
 obtain ⟨ad2, Z23, z23, Z24, z24, Z25, z25, e2, g2, ga2⟩ := at3_2 HA.out.1.1 (by omega)
 subst e0
 obtain rfl : ad = ad1 := by injection e1
 obtain rfl : ad = ad2 := by injection e2
 have GC0 := Aside0.mk g0
 have GC1 := Aside0.mk g1
 have GC2 := Aside0.mk g2
 have GA0 := Aside0.mk ga0
 have GA1 := Aside0.mk ga1
 have GA2 := Aside0.mk ga2
 clear ha hn h0 h1 h2 hl3 g0 g1 g2 ga0 ga1 ga2 e1 e2
 have HB := Aside0.mk (Below.refl w.heap.size w)
 go_enter Try.func16, Try.ntmps16
 try go_wp2_with (first | ((with_reducible refine gate_dst (N := 1) rfl ?_); refine box_event ?hg (N := 1) ?hd (cs := #[.int .i64 a0_0, .string a0_1, .int .i64 a0_2, .slice (some ad) l0_3.length c0_3, .slice A0_4 l0_4.length c0_4, .slice A0_5 l0_5.length c0_5]) (t := 33) ?hr ?_; (case hd => rfl); (case hg => rfl); (case hr => first | (go_simp; done) | (go_simp; rfl)); intro gb1 hg w3 hbox hb; have hx_ := bel_of (w := w) hb (by repeat (first | (with_reducible first | exact HB.out | apply below_alloc | apply pw_below_drewN | apply below_drew1) | exact HB.out)); have nb_ := Aside0.mk (below_step hx_ hb); have ge_ := Aside0.mk (box_ge hx_ hg); clear HB  ; have HB := nb_; have BK1 := Aside0.mk hbox; have GE1 := ge_; clear nb_ ge_ hx_ hb hbox hg  ) | ((with_reducible refine gate_dst (N := 2) rfl ?_); refine box_event ?hg (N := 2) ?hd (cs := #[.int .i64 0, .string (⟨#[]⟩ : ByteArray), .int .i64 0, .slice none 0 0, .slice none 0 0, .slice none 0 0]) (t := 33) ?hr ?_; (case hd => rfl); (case hg => rfl); (case hr => first | (go_simp; done) | (go_simp; rfl)); intro gb2 hg w4 hbox hb; have hx_ := bel_of (w := w) hb (by repeat (first | (with_reducible first | exact HB.out | apply below_alloc | apply pw_below_drewN | apply below_drew1 | refine below_set ?_ GE1.out) | exact HB.out)); have n1_ := Aside0.mk (blk_below (g := gb1) (by (with_reducible repeat (first | refine blk_drewN ?_ _ | refine blk_drew ?_ | refine blk_alloc ?_ _)); exact BK1.out) hb); have m1_ := Aside0.mk (box_lt (g' := gb1) (by (with_reducible repeat (first | refine blk_drewN ?_ _ | refine blk_drew ?_ | refine blk_alloc ?_ _)); exact BK1.out) hg); have k1_ := Aside0.mk (box_gt (g' := gb1) (by (with_reducible repeat (first | refine blk_drewN ?_ _ | refine blk_drew ?_ | refine blk_alloc ?_ _)); exact BK1.out) hg); have nb_ := Aside0.mk (below_step hx_ hb); have ge_ := Aside0.mk (box_ge hx_ hg); clear HB BK1 ; have BK1 := n1_; have NB1_2 := m1_; have NB2_1 := k1_; have HB := nb_; have BK2 := Aside0.mk hbox; have GE2 := ge_; clear nb_ ge_ hx_ hb hbox hg n1_ m1_ k1_ ; obtain ⟨hc5_0, hc5_1, hc5_2, hc5_3, hc5_4, hc5_5, hf5_0, hf5_1, hf5_2, hf5_3, hf5_4, hf5_5⟩ := cells6 BK1.out; have hnb6 := NB1_2.out; have hnc6 := NB2_1.out) | ((with_reducible refine gate_callee (f := 36) rfl ?_); refine goesL_ (some 5) rfl rfl Try.func36 (by kernel_rfl) rfl #[.agg #[.int .i64 a0_0, .string a0_1, .int .i64 a0_2, .slice (some ad) l0_3.length c0_3, .slice A0_4 l0_4.length c0_4, .slice A0_5 l0_5.length c0_5]] rfl (by (try simp only [List.map_toArray, List.map_cons, List.map_nil, List.append_toArray, List.cons_append, List.nil_append]); first | done | rfl) ?_; refine calls_bel (w0 := w) (by repeat (first | (with_reducible first | exact HB.out | apply below_alloc | apply pw_below_drewN | apply below_drew1 | refine below_set ?_ GE1.out | refine below_set ?_ GE2.out) | exact HB.out)) (fun hx_ => ?_); (with_reducible refine (isIf_calls _ _ _ _ _ _ _ _ _ _ _ _ _).mono ?_); rintro e w8 ⟨rfl, hb⟩; rw [HN.out]; refine ⟨_, rfl, ?_⟩; have n1_ := Aside0.mk (blk_below (g := gb1) (by (with_reducible repeat (first | refine blk_drewN ?_ _ | refine blk_drew ?_ | refine blk_alloc ?_ _)); exact BK1.out) hb); have n2_ := Aside0.mk (blk_below (g := gb2) (by (with_reducible repeat (first | refine blk_drewN ?_ _ | refine blk_drew ?_ | refine blk_alloc ?_ _)); exact BK2.out) hb); have nb_ := Aside0.mk (below_step hx_ hb); clear HB BK1 BK2 hx_ hb; have HB := nb_; have BK1 := n1_; have BK2 := n2_; clear nb_ n1_ n2_))
 have n0_ := Aside0.mk (blk_drew BK1.out)
 have n1_ := Aside0.mk (blk_drew BK2.out)
 have n2_ := Aside0.mk (below_drew1 HB.out)
 clear BK1 BK2 HB
 have BK1 := n0_
 have BK2 := n1_
 have HB := n2_
 clear n0_ n1_ n2_
 refine start_ (n := 22) (S := fun w' => Below w.heap.size w w' ∧ w'.heap[gb1]? = some (.cells #[.int .i64 a0_0, .string a0_1, .int .i64 a0_2, .slice (some ad) l0_3.length c0_3, .slice A0_4 l0_4.length c0_4, .slice A0_5 l0_5.length c0_5] 33 (0, 0))) (ds := [20]) #[false, false, false, false, false, false, false, false, false, false, false, false, false, false, false, false, false, false, false, false, false, false] (by kernel_rfl) rfl rfl ⟨HB.out, BK1.out⟩ (fun hHeld => ?_); refine with_tabW I_tab3 I_bits3 (fun HT_ HW_ => ?_)
 generalize w8.drew = w9 at BK1 BK2 HB hHeld ⊢
 refine pure_ (i := 0) (N := some 9) (v := ?_) (a' := ?_) #[true, false, false, false, false, false, false, false, false, false, false, false, false, false, false, false, false, false, false, false, false, false] rfl rfl (any_of HT_.out (by kernel_rfl)) (fun _ _ _ h => h) (Or.inl ⟨by rfl, ?_⟩) ?_ ?_
 rotate_left
 ·intro w'
  go_simp
  with_reducible rfl
 rotate_left
 ·simp only [Act.put, List.setIfInBounds_toArray, List.set_cons_zero, List.set_cons_succ, i64_w, i32_w]
  rfl
 refine pure_ (i := 6) (N := some 15) (v := ?_) (a' := ?_) #[true, false, false, false, false, false, true, false, false, false, false, false, false, false, false, false, false, false, false, false, false, false] rfl rfl (any_of HT_.out (by kernel_rfl)) (fun _ _ _ h => h) (Or.inl ⟨by rfl, ?_⟩) ?_ ?_
 rotate_left
 ·intro w'
  go_simp
  with_reducible rfl
 rotate_left
 ·simp only [Act.put, List.setIfInBounds_toArray, List.set_cons_zero, List.set_cons_succ, i64_w, i32_w]
  rfl
 refine pure_ (i := 12) (N := some 21) (v := ?_) (a' := ?_) #[true, false, false, false, false, false, true, false, false, false, false, false, true, false, false, false, false, false, false, false, false, false] rfl rfl (any_of HT_.out (by kernel_rfl)) (fun _ _ _ h => h) (Or.inl ⟨by rfl, ?_⟩) ?_ ?_
 rotate_left
 ·intro w'
  go_simp
  with_reducible rfl
 rotate_left
 ·simp only [Act.put, List.setIfInBounds_toArray, List.set_cons_zero, List.set_cons_succ, i64_w, i32_w]
  rfl
 refine take_ (i := 1) (N := some 10) (v := ?_) (a' := ?_) #[true, true, false, false, false, false, true, false, false, false, false, false, true, false, false, false, false, false, false, false, false, false] rfl rfl (take_ofW HT_.out HW_.out (by kernel_rfl)) (fun _ _ _ h => h) (Or.inl ⟨by rfl, ?_⟩) hHeld ?_ ?_
 rotate_left
 ·rintro w' ⟨hb_, hk_⟩
  have hc := (blk_cell hk_ 3).trans rfl
  go_simp
  with_reducible rfl
 rotate_left
 ·simp only [Act.put, List.setIfInBounds_toArray, List.set_cons_zero, List.set_cons_succ, i64_w, i32_w]
  rfl
 refine pure_ (i := 2) (N := some 11) (v := ?_) (a' := ?_) #[true, true, true, false, false, false, true, false, false, false, false, false, true, false, false, false, false, false, false, false, false, false] rfl rfl (any_of HT_.out (by kernel_rfl)) (fun _ _ _ h => h) (Or.inl ⟨by rfl, ?_⟩) ?_ ?_
 rotate_left
 ·intro w'
  go_simp
  with_reducible rfl
 rotate_left
 ·simp only [Act.put, List.setIfInBounds_toArray, List.set_cons_zero, List.set_cons_succ, i64_w, i32_w]
  rfl
 refine take_ (i := 3) (N := some 12) (v := ?_) (a' := ?_) #[true, true, true, true, false, false, true, false, false, false, false, false, true, false, false, false, false, false, false, false, false, false] rfl rfl (take_ofW HT_.out HW_.out (by kernel_rfl)) (fun _ _ _ h => h) (Or.inl ⟨by rfl, ?_⟩) hHeld ?_ ?_
 rotate_left
 ·rintro w' ⟨hb_, hk_⟩
  obtain ⟨h0_, h1_, h2_, h3_, h4_, h5_⟩ := six_later hb_ GC0.out
  go_simp
  with_reducible rfl
 rotate_left
 ·simp only [Act.put, List.setIfInBounds_toArray, List.set_cons_zero, List.set_cons_succ, i64_w, i32_w]
  rfl
 refine take_ (i := 7) (N := some 16) (v := ?_) (a' := ?_) #[true, true, true, true, false, false, true, true, false, false, false, false, true, false, false, false, false, false, false, false, false, false] rfl rfl (take_ofW HT_.out HW_.out (by kernel_rfl)) (fun _ _ _ h => h) (Or.inl ⟨by rfl, ?_⟩) hHeld ?_ ?_
 rotate_left
 ·rintro w' ⟨hb_, hk_⟩
  have hc := (blk_cell hk_ 3).trans rfl
  go_simp
  with_reducible rfl
 rotate_left
 ·simp only [Act.put, List.setIfInBounds_toArray, List.set_cons_zero, List.set_cons_succ, i64_w, i32_w]
  rfl
 refine pure_ (i := 8) (N := some 17) (v := ?_) (a' := ?_) #[true, true, true, true, false, false, true, true, true, false, false, false, true, false, false, false, false, false, false, false, false, false] rfl rfl (any_of HT_.out (by kernel_rfl)) (fun _ _ _ h => h) (Or.inl ⟨by rfl, ?_⟩) ?_ ?_
 rotate_left
 ·intro w'
  go_simp
  with_reducible rfl
 rotate_left
 ·simp only [Act.put, List.setIfInBounds_toArray, List.set_cons_zero, List.set_cons_succ, i64_w, i32_w]
  rfl
 refine take_ (i := 9) (N := some 18) (v := ?_) (a' := ?_) #[true, true, true, true, false, false, true, true, true, true, false, false, true, false, false, false, false, false, false, false, false, false] rfl rfl (take_ofW HT_.out HW_.out (by kernel_rfl)) (fun _ _ _ h => h) (Or.inl ⟨by rfl, ?_⟩) hHeld ?_ ?_
 rotate_left
 ·rintro w' ⟨hb_, hk_⟩
  obtain ⟨h0_, h1_, h2_, h3_, h4_, h5_⟩ := six_later hb_ GC1.out
  go_simp
  with_reducible rfl
 rotate_left
 ·simp only [Act.put, List.setIfInBounds_toArray, List.set_cons_zero, List.set_cons_succ, i64_w, i32_w]
  rfl
 refine take_ (i := 13) (N := some 22) (v := ?_) (a' := ?_) #[true, true, true, true, false, false, true, true, true, true, false, false, true, true, false, false, false, false, false, false, false, false] rfl rfl (take_ofW HT_.out HW_.out (by kernel_rfl)) (fun _ _ _ h => h) (Or.inl ⟨by rfl, ?_⟩) hHeld ?_ ?_
 rotate_left
 ·rintro w' ⟨hb_, hk_⟩
  have hc := (blk_cell hk_ 3).trans rfl
  go_simp
  with_reducible rfl
 rotate_left
 ·simp only [Act.put, List.setIfInBounds_toArray, List.set_cons_zero, List.set_cons_succ, i64_w, i32_w]
  rfl
 refine pure_ (i := 14) (N := some 23) (v := ?_) (a' := ?_) #[true, true, true, true, false, false, true, true, true, true, false, false, true, true, true, false, false, false, false, false, false, false] rfl rfl (any_of HT_.out (by kernel_rfl)) (fun _ _ _ h => h) (Or.inl ⟨by rfl, ?_⟩) ?_ ?_
 rotate_left
 ·intro w'
  go_simp
  with_reducible rfl
 rotate_left
 ·simp only [Act.put, List.setIfInBounds_toArray, List.set_cons_zero, List.set_cons_succ, i64_w, i32_w]
  rfl
 refine take_ (i := 15) (N := some 24) (v := ?_) (a' := ?_) #[true, true, true, true, false, false, true, true, true, true, false, false, true, true, true, true, false, false, false, false, false, false] rfl rfl (take_ofW HT_.out HW_.out (by kernel_rfl)) (fun _ _ _ h => h) (Or.inl ⟨by rfl, ?_⟩) hHeld ?_ ?_
 rotate_left
 ·rintro w' ⟨hb_, hk_⟩
  obtain ⟨h0_, h1_, h2_, h3_, h4_, h5_⟩ := six_later hb_ GC2.out
  go_simp
  with_reducible rfl
 rotate_left
 ·simp only [Act.put, List.setIfInBounds_toArray, List.set_cons_zero, List.set_cons_succ, i64_w, i32_w]
  rfl
 refine one_ (i := 4) (N := some 13) #[true, true, true, true, true, false, true, true, true, true, false, false, true, true, true, true, false, false, false, false, false, false] rfl rfl (one_of HT_.out (by kernel_rfl)) (by decide) (fun K hK => ?_)
 refine goes_ Try.func37 (by kernel_rfl) rfl #[.agg #[.int .i64 (rd_T33 l0_3 0).f0, .string (rd_T33 l0_3 0).f1, .int .i64 (rd_T33 l0_3 0).f2, .slice Z03 (rd_T33 l0_3 0).f3.length z03, .slice Z04 (rd_T33 l0_3 0).f4.length z04, .slice Z05 (rd_T33 l0_3 0).f5.length z05]] (by rfl) rfl rfl (by (try simp only [List.map_toArray, List.map_cons, List.map_nil, List.append_toArray, List.cons_append, List.nil_append]); first | done | rfl) ?_
 with_reducible refine ((all k).1 (rd_T33 l0_3 0).f0 (rd_T33 l0_3 0).f1 (rd_T33 l0_3 0).f2 _ _ (rd_T33 l0_3 0).f3 _ _ (rd_T33 l0_3 0).f4 _ _ (rd_T33 l0_3 0).f5 _ ⟨⟨Kd.C_below GA0.out.1.1 HB.out, GA0.out.1.2⟩, ⟨Kd.C_below GA0.out.2.1.1 HB.out, GA0.out.2.1.2⟩, ⟨Kd.C_below GA0.out.2.2.1 HB.out, GA0.out.2.2.2⟩⟩ HU0.out).mono ?_
 rintro e w101 ⟨U3, du3, yu3, U4, du4, yu4, U5, du5, yu5, rfl, hc, hb⟩
 refine ⟨_, rfl, ?_⟩
 have S0_ := Aside0.mk (below_size hb)
 have LB := Aside0.mk (And.intro (below_size HB.out) (And.intro (blk_lt BK1.out) (blk_lt BK2.out)))
 have n1_ := Aside0.mk (blk_below BK1.out hb)
 have n2_ := Aside0.mk (blk_below BK2.out hb)
 have n3_ := Aside0.mk (below_step HB.out hb)
 have K0 := Aside0.mk hc.at_
 have P0 := Aside0.mk hc.part
 have R0 : Aside0 (RepE (rd_T33 l0_3 0) (.i (rd_T33 l0_3 0).f0 :: .s (rd_T33 l0_3 0).f1 :: .i (rd_T33 l0_3 0).f2 :: rows3 U3 (rd_T33 l0_3 0).f3.length du3 yu3 U4 (rd_T33 l0_3 0).f4.length du4 yu4 U5 (rd_T33 l0_3 0).f5.length du5 yu5)) := ⟨RepE.mk hc.r3 hc.r4 hc.r5⟩
 clear hc
 clear BK1 BK2 HB hb 
 have BK1 := n1_
 have BK2 := n2_
 have HB := n3_
 clear n1_ n2_ n3_ 
 refine hK.out _ _ ⟨HB.out, BK1.out⟩ (fun hHeld => ?_)
 clear hK K
 refine norm_ (a' := ?_) ?_ ?_
 rotate_left
 ·show Act.put _ (some 13) _ = _
  simp only [Act.put, List.setIfInBounds_toArray, List.set_cons_zero, List.set_cons_succ, i64_w, i32_w]
  rfl
 refine join_ (σ := Nat × Nat × Option Addr × Nat × List It × Option Addr × Nat × List It × Option Addr × Nat × List It × Option Addr × Nat × List It × Option Addr × Nat × List It × Option Addr × Nat × List It) 3 #[true, true, true, true, true, true, true, true, true, true, true, true, true, true, true, true, true, true, true, false, false, false] (fun s_ => [(14, .slice (some ⟨s_.1, 0, none⟩) 1 1), (19, .agg #[.int .i64 (rd_T33 l0_3 1).f0, .string (rd_T33 l0_3 1).f1, .int .i64 (rd_T33 l0_3 1).f2, .slice s_.2.2.1 (rd_T33 l0_3 1).f3.length s_.2.2.2.1, .slice s_.2.2.2.2.2.1 (rd_T33 l0_3 1).f4.length s_.2.2.2.2.2.2.1, .slice s_.2.2.2.2.2.2.2.2.1 (rd_T33 l0_3 1).f5.length s_.2.2.2.2.2.2.2.2.2.1]), (25, .agg #[.int .i64 (rd_T33 l0_3 2).f0, .string (rd_T33 l0_3 2).f1, .int .i64 (rd_T33 l0_3 2).f2, .slice s_.2.2.2.2.2.2.2.2.2.2.2.1 (rd_T33 l0_3 2).f3.length s_.2.2.2.2.2.2.2.2.2.2.2.2.1, .slice s_.2.2.2.2.2.2.2.2.2.2.2.2.2.2.1 (rd_T33 l0_3 2).f4.length s_.2.2.2.2.2.2.2.2.2.2.2.2.2.2.2.1, .slice s_.2.2.2.2.2.2.2.2.2.2.2.2.2.2.2.2.2.1 (rd_T33 l0_3 2).f5.length s_.2.2.2.2.2.2.2.2.2.2.2.2.2.2.2.2.2.2.1]), (27, .slice (some ⟨s_.2.1, 0, none⟩) 2 2), (20, .agg #[.string (⟨#[84, 114, 117, 101]⟩ : ByteArray), .slice none 0 0, .int .i64 (rd_T33 l0_3 1).f0, .string (rd_T33 l0_3 1).f1, .int .i64 (rd_T33 l0_3 1).f2, .slice s_.2.2.1 (rd_T33 l0_3 1).f3.length s_.2.2.2.1, .slice s_.2.2.2.2.2.1 (rd_T33 l0_3 1).f4.length s_.2.2.2.2.2.2.1, .slice s_.2.2.2.2.2.2.2.2.1 (rd_T33 l0_3 1).f5.length s_.2.2.2.2.2.2.2.2.2.1]), (26, .agg #[.string (⟨#[70, 97, 108, 115, 101]⟩ : ByteArray), .slice none 0 0, .int .i64 (rd_T33 l0_3 2).f0, .string (rd_T33 l0_3 2).f1, .int .i64 (rd_T33 l0_3 2).f2, .slice s_.2.2.2.2.2.2.2.2.2.2.2.1 (rd_T33 l0_3 2).f3.length s_.2.2.2.2.2.2.2.2.2.2.2.2.1, .slice s_.2.2.2.2.2.2.2.2.2.2.2.2.2.2.1 (rd_T33 l0_3 2).f4.length s_.2.2.2.2.2.2.2.2.2.2.2.2.2.2.2.1, .slice s_.2.2.2.2.2.2.2.2.2.2.2.2.2.2.2.2.2.1 (rd_T33 l0_3 2).f5.length s_.2.2.2.2.2.2.2.2.2.2.2.2.2.2.2.2.2.2.1])]) (fun s_ w' => Below w.heap.size w w' ∧ w'.heap[gb1]? = some (.cells #[.int .i64 a0_0, .string a0_1, .int .i64 a0_2, .slice (some ad) l0_3.length c0_3, .slice A0_4 l0_4.length c0_4, .slice A0_5 l0_5.length c0_5] 33 (0, 0)) ∧ w'.heap[gb2]? = some (.cells #[.int .i64 0, .string (⟨#[]⟩ : ByteArray), .int .i64 0, .slice none 0 0, .slice none 0 0, .slice none 0 0] 33 (0, 0)) ∧ AtL w' ([.r 33 6 (.slice (some ⟨s_.1, 0, none⟩) 1 1) 1 (.i (rd_T33 l0_3 0).f0 :: .s (rd_T33 l0_3 0).f1 :: .i (rd_T33 l0_3 0).f2 :: rows3 U3 (rd_T33 l0_3 0).f3.length du3 yu3 U4 (rd_T33 l0_3 0).f4.length du4 yu4 U5 (rd_T33 l0_3 0).f5.length du5 yu5), .r 53 8 (.slice (some ⟨s_.2.1, 0, none⟩) 2 2) 2 ((.s (⟨#[84, 114, 117, 101]⟩ : ByteArray) :: .r 9 1 (.slice none 0 0) 0 [] :: (.i (rd_T33 l0_3 1).f0 :: .s (rd_T33 l0_3 1).f1 :: .i (rd_T33 l0_3 1).f2 :: rows3 s_.2.2.1 (rd_T33 l0_3 1).f3.length s_.2.2.2.1 s_.2.2.2.2.1 s_.2.2.2.2.2.1 (rd_T33 l0_3 1).f4.length s_.2.2.2.2.2.2.1 s_.2.2.2.2.2.2.2.1 s_.2.2.2.2.2.2.2.2.1 (rd_T33 l0_3 1).f5.length s_.2.2.2.2.2.2.2.2.2.1 s_.2.2.2.2.2.2.2.2.2.2.1)) ++ (.s (⟨#[70, 97, 108, 115, 101]⟩ : ByteArray) :: .r 9 1 (.slice none 0 0) 0 [] :: (.i (rd_T33 l0_3 2).f0 :: .s (rd_T33 l0_3 2).f1 :: .i (rd_T33 l0_3 2).f2 :: rows3 s_.2.2.2.2.2.2.2.2.2.2.2.1 (rd_T33 l0_3 2).f3.length s_.2.2.2.2.2.2.2.2.2.2.2.2.1 s_.2.2.2.2.2.2.2.2.2.2.2.2.2.1 s_.2.2.2.2.2.2.2.2.2.2.2.2.2.2.1 (rd_T33 l0_3 2).f4.length s_.2.2.2.2.2.2.2.2.2.2.2.2.2.2.2.1 s_.2.2.2.2.2.2.2.2.2.2.2.2.2.2.2.2.1 s_.2.2.2.2.2.2.2.2.2.2.2.2.2.2.2.2.2.1 (rd_T33 l0_3 2).f5.length s_.2.2.2.2.2.2.2.2.2.2.2.2.2.2.2.2.2.2.1 s_.2.2.2.2.2.2.2.2.2.2.2.2.2.2.2.2.2.2.2)))]) ∧ (blksL ([.r 33 6 (.slice (some ⟨s_.1, 0, none⟩) 1 1) 1 (.i (rd_T33 l0_3 0).f0 :: .s (rd_T33 l0_3 0).f1 :: .i (rd_T33 l0_3 0).f2 :: rows3 U3 (rd_T33 l0_3 0).f3.length du3 yu3 U4 (rd_T33 l0_3 0).f4.length du4 yu4 U5 (rd_T33 l0_3 0).f5.length du5 yu5), .r 53 8 (.slice (some ⟨s_.2.1, 0, none⟩) 2 2) 2 ((.s (⟨#[84, 114, 117, 101]⟩ : ByteArray) :: .r 9 1 (.slice none 0 0) 0 [] :: (.i (rd_T33 l0_3 1).f0 :: .s (rd_T33 l0_3 1).f1 :: .i (rd_T33 l0_3 1).f2 :: rows3 s_.2.2.1 (rd_T33 l0_3 1).f3.length s_.2.2.2.1 s_.2.2.2.2.1 s_.2.2.2.2.2.1 (rd_T33 l0_3 1).f4.length s_.2.2.2.2.2.2.1 s_.2.2.2.2.2.2.2.1 s_.2.2.2.2.2.2.2.2.1 (rd_T33 l0_3 1).f5.length s_.2.2.2.2.2.2.2.2.2.1 s_.2.2.2.2.2.2.2.2.2.2.1)) ++ (.s (⟨#[70, 97, 108, 115, 101]⟩ : ByteArray) :: .r 9 1 (.slice none 0 0) 0 [] :: (.i (rd_T33 l0_3 2).f0 :: .s (rd_T33 l0_3 2).f1 :: .i (rd_T33 l0_3 2).f2 :: rows3 s_.2.2.2.2.2.2.2.2.2.2.2.1 (rd_T33 l0_3 2).f3.length s_.2.2.2.2.2.2.2.2.2.2.2.2.1 s_.2.2.2.2.2.2.2.2.2.2.2.2.2.1 s_.2.2.2.2.2.2.2.2.2.2.2.2.2.2.1 (rd_T33 l0_3 2).f4.length s_.2.2.2.2.2.2.2.2.2.2.2.2.2.2.2.1 s_.2.2.2.2.2.2.2.2.2.2.2.2.2.2.2.2.1 s_.2.2.2.2.2.2.2.2.2.2.2.2.2.2.2.2.2.1 (rd_T33 l0_3 2).f5.length s_.2.2.2.2.2.2.2.2.2.2.2.2.2.2.2.2.2.2.1 s_.2.2.2.2.2.2.2.2.2.2.2.2.2.2.2.2.2.2.2)))])).Nodup ∧ (∀ b ∈ blksL ([.r 33 6 (.slice (some ⟨s_.1, 0, none⟩) 1 1) 1 (.i (rd_T33 l0_3 0).f0 :: .s (rd_T33 l0_3 0).f1 :: .i (rd_T33 l0_3 0).f2 :: rows3 U3 (rd_T33 l0_3 0).f3.length du3 yu3 U4 (rd_T33 l0_3 0).f4.length du4 yu4 U5 (rd_T33 l0_3 0).f5.length du5 yu5), .r 53 8 (.slice (some ⟨s_.2.1, 0, none⟩) 2 2) 2 ((.s (⟨#[84, 114, 117, 101]⟩ : ByteArray) :: .r 9 1 (.slice none 0 0) 0 [] :: (.i (rd_T33 l0_3 1).f0 :: .s (rd_T33 l0_3 1).f1 :: .i (rd_T33 l0_3 1).f2 :: rows3 s_.2.2.1 (rd_T33 l0_3 1).f3.length s_.2.2.2.1 s_.2.2.2.2.1 s_.2.2.2.2.2.1 (rd_T33 l0_3 1).f4.length s_.2.2.2.2.2.2.1 s_.2.2.2.2.2.2.2.1 s_.2.2.2.2.2.2.2.2.1 (rd_T33 l0_3 1).f5.length s_.2.2.2.2.2.2.2.2.2.1 s_.2.2.2.2.2.2.2.2.2.2.1)) ++ (.s (⟨#[70, 97, 108, 115, 101]⟩ : ByteArray) :: .r 9 1 (.slice none 0 0) 0 [] :: (.i (rd_T33 l0_3 2).f0 :: .s (rd_T33 l0_3 2).f1 :: .i (rd_T33 l0_3 2).f2 :: rows3 s_.2.2.2.2.2.2.2.2.2.2.2.1 (rd_T33 l0_3 2).f3.length s_.2.2.2.2.2.2.2.2.2.2.2.2.1 s_.2.2.2.2.2.2.2.2.2.2.2.2.2.1 s_.2.2.2.2.2.2.2.2.2.2.2.2.2.2.1 (rd_T33 l0_3 2).f4.length s_.2.2.2.2.2.2.2.2.2.2.2.2.2.2.2.1 s_.2.2.2.2.2.2.2.2.2.2.2.2.2.2.2.2.1 s_.2.2.2.2.2.2.2.2.2.2.2.2.2.2.2.2.2.1 (rd_T33 l0_3 2).f5.length s_.2.2.2.2.2.2.2.2.2.2.2.2.2.2.2.2.2.2.1 s_.2.2.2.2.2.2.2.2.2.2.2.2.2.2.2.2.2.2.2)))]), w.heap.size ≤ b ∧ gb2 < b) ∧ RepE (rd_T33 l0_3 1) (.i (rd_T33 l0_3 1).f0 :: .s (rd_T33 l0_3 1).f1 :: .i (rd_T33 l0_3 1).f2 :: rows3 s_.2.2.1 (rd_T33 l0_3 1).f3.length s_.2.2.2.1 s_.2.2.2.2.1 s_.2.2.2.2.2.1 (rd_T33 l0_3 1).f4.length s_.2.2.2.2.2.2.1 s_.2.2.2.2.2.2.2.1 s_.2.2.2.2.2.2.2.2.1 (rd_T33 l0_3 1).f5.length s_.2.2.2.2.2.2.2.2.2.1 s_.2.2.2.2.2.2.2.2.2.2.1) ∧ RepE (rd_T33 l0_3 2) (.i (rd_T33 l0_3 2).f0 :: .s (rd_T33 l0_3 2).f1 :: .i (rd_T33 l0_3 2).f2 :: rows3 s_.2.2.2.2.2.2.2.2.2.2.2.1 (rd_T33 l0_3 2).f3.length s_.2.2.2.2.2.2.2.2.2.2.2.2.1 s_.2.2.2.2.2.2.2.2.2.2.2.2.2.1 s_.2.2.2.2.2.2.2.2.2.2.2.2.2.2.1 (rd_T33 l0_3 2).f4.length s_.2.2.2.2.2.2.2.2.2.2.2.2.2.2.2.1 s_.2.2.2.2.2.2.2.2.2.2.2.2.2.2.2.2.1 s_.2.2.2.2.2.2.2.2.2.2.2.2.2.2.2.2.2.1 (rd_T33 l0_3 2).f5.length s_.2.2.2.2.2.2.2.2.2.2.2.2.2.2.2.2.2.2.1 s_.2.2.2.2.2.2.2.2.2.2.2.2.2.2.2.2.2.2.2)) ?_ ?_
 rotate_left
 ·intro hCont
  refine two_ (i := 5) (j := 10) (Ni := some 14) (Nj := some 19) #[true, true, true, true, true, true, true, true, true, true, false, false, true, true, true, true, false, false, false, false, false, false] #[true, true, true, true, true, false, true, true, true, true, true, false, true, true, true, true, false, false, false, false, false, false] rfl rfl rfl rfl (two_of HT_.out (by kernel_rfl)) (by decide) (by decide) (fun K hK => ?_) (fun K hK => ?_)
  ·skip
   refine lit_step (e := 33) (sz := 6) (n := 1) (items := .i (rd_T33 l0_3 0).f0 :: .s (rd_T33 l0_3 0).f1 :: .i (rd_T33 l0_3 0).f2 :: rows3 U3 (rd_T33 l0_3 0).f3.length du3 yu3 U4 (rd_T33 l0_3 0).f4.length du4 yu4 U5 (rd_T33 l0_3 0).f5.length du5 yu5) [.int .i64 (rd_T33 l0_3 0).f0, .string (rd_T33 l0_3 0).f1, .int .i64 (rd_T33 l0_3 0).f2, .slice U3 (rd_T33 l0_3 0).f3.length du3, .slice U4 (rd_T33 l0_3 0).f4.length du4, .slice U5 (rd_T33 l0_3 0).f5.length du5] (by rfl) (by rfl) ?hr (by rfl) ?ha (by simp) (by omega) ?_
   (case hr => first | (go_simp; done) | (go_simp; rfl))
   (case ha => have q_ := K0.out; simp only [AtL, It.At, true_and] at q_ ⊢; exact q_)
   intro b14 w102 e14 hA hb
   have E14 := Aside0.mk e14
   have S14_ := Aside0.mk (below_size hb)
   have L14_ := Aside0.mk (show b14 < w102.heap.size from (AtL_blk _ hA b14 (by simp [blksL, It.blks, Value.ownBlock])).1)
   have n1_ := Aside0.mk (blk_below BK1.out hb)
   have n2_ := Aside0.mk (blk_below BK2.out hb)
   have n3_ := Aside0.mk (below_step HB.out hb)
   have K14 := Aside0.mk hA
   clear hA e14
   clear BK1 BK2 HB hb K0
   have BK1 := n1_
   have BK2 := n2_
   have HB := n3_
   clear n1_ n2_ n3_ 
   refine hK.out _ _ ⟨HB.out, BK1.out⟩ (fun hHeld => ?_)
   clear hK K
   refine norm_ (a' := ?_) ?_ ?_
   rotate_left
   ·show Act.put _ (some 14) _ = _
    simp only [Act.put, List.setIfInBounds_toArray, List.set_cons_zero, List.set_cons_succ, i64_w, i32_w]
    rfl
   refine one_ (i := 10) (N := some 19) #[true, true, true, true, true, true, true, true, true, true, true, false, true, true, true, true, false, false, false, false, false, false] rfl rfl (one_of HT_.out (by kernel_rfl)) (by decide) (fun K hK => ?_)
   refine goes_ Try.func37 (by kernel_rfl) rfl #[.agg #[.int .i64 (rd_T33 l0_3 1).f0, .string (rd_T33 l0_3 1).f1, .int .i64 (rd_T33 l0_3 1).f2, .slice Z13 (rd_T33 l0_3 1).f3.length z13, .slice Z14 (rd_T33 l0_3 1).f4.length z14, .slice Z15 (rd_T33 l0_3 1).f5.length z15]] (by rfl) rfl rfl (by (try simp only [List.map_toArray, List.map_cons, List.map_nil, List.append_toArray, List.cons_append, List.nil_append]); first | done | rfl) ?_
   with_reducible refine ((all k).1 (rd_T33 l0_3 1).f0 (rd_T33 l0_3 1).f1 (rd_T33 l0_3 1).f2 _ _ (rd_T33 l0_3 1).f3 _ _ (rd_T33 l0_3 1).f4 _ _ (rd_T33 l0_3 1).f5 _ ⟨⟨Kd.C_below GA1.out.1.1 HB.out, GA1.out.1.2⟩, ⟨Kd.C_below GA1.out.2.1.1 HB.out, GA1.out.2.1.2⟩, ⟨Kd.C_below GA1.out.2.2.1 HB.out, GA1.out.2.2.2⟩⟩ HU1.out).mono ?_
   rintro e w103 ⟨V3, dv3, yv3, V4, dv4, yv4, V5, dv5, yv5, rfl, hc, hb⟩
   refine ⟨_, rfl, ?_⟩
   have S1_ := Aside0.mk (below_size hb)
   have n1_ := Aside0.mk (blk_below BK1.out hb)
   have n2_ := Aside0.mk (blk_below BK2.out hb)
   have n3_ := Aside0.mk (below_step HB.out hb)
   have kK14_ := Aside0.mk (AtL_below K14.out hb)
   have K1 := Aside0.mk hc.at_
   have P1 := Aside0.mk hc.part
   have R1 : Aside0 (RepE (rd_T33 l0_3 1) (.i (rd_T33 l0_3 1).f0 :: .s (rd_T33 l0_3 1).f1 :: .i (rd_T33 l0_3 1).f2 :: rows3 V3 (rd_T33 l0_3 1).f3.length dv3 yv3 V4 (rd_T33 l0_3 1).f4.length dv4 yv4 V5 (rd_T33 l0_3 1).f5.length dv5 yv5)) := ⟨RepE.mk hc.r3 hc.r4 hc.r5⟩
   clear hc
   clear BK1 BK2 HB hb K14
   have BK1 := n1_
   have BK2 := n2_
   have HB := n3_
   have K14 := kK14_
   clear n1_ n2_ n3_ kK14_
   refine hK.out _ _ ⟨HB.out, BK1.out⟩ (fun hHeld => ?_)
   clear hK K
   refine norm_ (a' := ?_) ?_ ?_
   rotate_left
   ·show Act.put _ (some 19) _ = _
    simp only [Act.put, List.setIfInBounds_toArray, List.set_cons_zero, List.set_cons_succ, i64_w, i32_w]
    rfl
   refine pure_ (i := 11) (N := some 20) (v := ?_) (a' := ?_) #[true, true, true, true, true, true, true, true, true, true, true, true, true, true, true, true, false, false, false, false, false, false] rfl rfl (any_of HT_.out (by kernel_rfl)) (fun _ _ _ h => h) (Or.inl ⟨by rfl, ?_⟩) ?_ ?_
   rotate_left
   ·intro w'
    go_simp
    with_reducible rfl
   rotate_left
   ·simp only [Act.put, List.setIfInBounds_toArray, List.set_cons_zero, List.set_cons_succ, i64_w, i32_w]
    rfl
   refine one_ (i := 16) (N := some 25) #[true, true, true, true, true, true, true, true, true, true, true, true, true, true, true, true, true, false, false, false, false, false] rfl rfl (one_of HT_.out (by kernel_rfl)) (by decide) (fun K hK => ?_)
   refine goes_ Try.func37 (by kernel_rfl) rfl #[.agg #[.int .i64 (rd_T33 l0_3 2).f0, .string (rd_T33 l0_3 2).f1, .int .i64 (rd_T33 l0_3 2).f2, .slice Z23 (rd_T33 l0_3 2).f3.length z23, .slice Z24 (rd_T33 l0_3 2).f4.length z24, .slice Z25 (rd_T33 l0_3 2).f5.length z25]] (by rfl) rfl rfl (by (try simp only [List.map_toArray, List.map_cons, List.map_nil, List.append_toArray, List.cons_append, List.nil_append]); first | done | rfl) ?_
   with_reducible refine ((all k).1 (rd_T33 l0_3 2).f0 (rd_T33 l0_3 2).f1 (rd_T33 l0_3 2).f2 _ _ (rd_T33 l0_3 2).f3 _ _ (rd_T33 l0_3 2).f4 _ _ (rd_T33 l0_3 2).f5 _ ⟨⟨Kd.C_below GA2.out.1.1 HB.out, GA2.out.1.2⟩, ⟨Kd.C_below GA2.out.2.1.1 HB.out, GA2.out.2.1.2⟩, ⟨Kd.C_below GA2.out.2.2.1 HB.out, GA2.out.2.2.2⟩⟩ HU2.out).mono ?_
   rintro e w104 ⟨X3, dx3, yx3, X4, dx4, yx4, X5, dx5, yx5, rfl, hc, hb⟩
   refine ⟨_, rfl, ?_⟩
   have S2_ := Aside0.mk (below_size hb)
   have n1_ := Aside0.mk (blk_below BK1.out hb)
   have n2_ := Aside0.mk (blk_below BK2.out hb)
   have n3_ := Aside0.mk (below_step HB.out hb)
   have kK14_ := Aside0.mk (AtL_below K14.out hb)
   have kK1_ := Aside0.mk (AtL_below K1.out hb)
   have K2 := Aside0.mk hc.at_
   have P2 := Aside0.mk hc.part
   have R2 : Aside0 (RepE (rd_T33 l0_3 2) (.i (rd_T33 l0_3 2).f0 :: .s (rd_T33 l0_3 2).f1 :: .i (rd_T33 l0_3 2).f2 :: rows3 X3 (rd_T33 l0_3 2).f3.length dx3 yx3 X4 (rd_T33 l0_3 2).f4.length dx4 yx4 X5 (rd_T33 l0_3 2).f5.length dx5 yx5)) := ⟨RepE.mk hc.r3 hc.r4 hc.r5⟩
   clear hc
   clear BK1 BK2 HB hb K14 K1
   have BK1 := n1_
   have BK2 := n2_
   have HB := n3_
   have K14 := kK14_
   have K1 := kK1_
   clear n1_ n2_ n3_ kK14_ kK1_
   refine hK.out _ _ ⟨HB.out, BK1.out⟩ (fun hHeld => ?_)
   clear hK K
   refine norm_ (a' := ?_) ?_ ?_
   rotate_left
   ·show Act.put _ (some 25) _ = _
    simp only [Act.put, List.setIfInBounds_toArray, List.set_cons_zero, List.set_cons_succ, i64_w, i32_w]
    rfl
   refine pure_ (i := 17) (N := some 26) (v := ?_) (a' := ?_) #[true, true, true, true, true, true, true, true, true, true, true, true, true, true, true, true, true, true, false, false, false, false] rfl rfl (any_of HT_.out (by kernel_rfl)) (fun _ _ _ h => h) (Or.inl ⟨by rfl, ?_⟩) ?_ ?_
   rotate_left
   ·intro w'
    go_simp
    with_reducible rfl
   rotate_left
   ·simp only [Act.put, List.setIfInBounds_toArray, List.set_cons_zero, List.set_cons_succ, i64_w, i32_w]
    rfl
   refine one_ (i := 18) (N := some 27) #[true, true, true, true, true, true, true, true, true, true, true, true, true, true, true, true, true, true, true, false, false, false] rfl rfl (one_of HT_.out (by kernel_rfl)) (by decide) (fun K hK => ?_)
   refine lit_step (e := 53) (sz := 8) (n := 2) (items := (.s (⟨#[84, 114, 117, 101]⟩ : ByteArray) :: .r 9 1 (.slice none 0 0) 0 [] :: (.i (rd_T33 l0_3 1).f0 :: .s (rd_T33 l0_3 1).f1 :: .i (rd_T33 l0_3 1).f2 :: rows3 V3 (rd_T33 l0_3 1).f3.length dv3 yv3 V4 (rd_T33 l0_3 1).f4.length dv4 yv4 V5 (rd_T33 l0_3 1).f5.length dv5 yv5)) ++ (.s (⟨#[70, 97, 108, 115, 101]⟩ : ByteArray) :: .r 9 1 (.slice none 0 0) 0 [] :: (.i (rd_T33 l0_3 2).f0 :: .s (rd_T33 l0_3 2).f1 :: .i (rd_T33 l0_3 2).f2 :: rows3 X3 (rd_T33 l0_3 2).f3.length dx3 yx3 X4 (rd_T33 l0_3 2).f4.length dx4 yx4 X5 (rd_T33 l0_3 2).f5.length dx5 yx5))) [.string (⟨#[84, 114, 117, 101]⟩ : ByteArray), .slice none 0 0, .int .i64 (rd_T33 l0_3 1).f0, .string (rd_T33 l0_3 1).f1, .int .i64 (rd_T33 l0_3 1).f2, .slice V3 (rd_T33 l0_3 1).f3.length dv3, .slice V4 (rd_T33 l0_3 1).f4.length dv4, .slice V5 (rd_T33 l0_3 1).f5.length dv5, .string (⟨#[70, 97, 108, 115, 101]⟩ : ByteArray), .slice none 0 0, .int .i64 (rd_T33 l0_3 2).f0, .string (rd_T33 l0_3 2).f1, .int .i64 (rd_T33 l0_3 2).f2, .slice X3 (rd_T33 l0_3 2).f3.length dx3, .slice X4 (rd_T33 l0_3 2).f4.length dx4, .slice X5 (rd_T33 l0_3 2).f5.length dx5] (by rfl) (by rfl) ?hr (by rfl) ?ha (by simp) (by omega) ?_
   (case hr => first | (go_simp; done) | (go_simp; rfl))
   (case ha => have q1_ := K1.out; have q2_ := K2.out; have z_ := z_row w104 9 1 (.inl rfl); rw [AtL_app]; simp only [AtL, It.At, true_and] at q1_ q2_ z_ ⊢; exact ⟨⟨z_, q1_⟩, ⟨z_, q2_⟩⟩)
   intro b27 w105 e27 hA hb
   have E27 := Aside0.mk e27
   have S27_ := Aside0.mk (below_size hb)
   have L27_ := Aside0.mk (show b27 < w105.heap.size from (AtL_blk _ hA b27 (by simp [blksL, It.blks, Value.ownBlock])).1)
   have n1_ := Aside0.mk (blk_below BK1.out hb)
   have n2_ := Aside0.mk (blk_below BK2.out hb)
   have n3_ := Aside0.mk (below_step HB.out hb)
   have kK14_ := Aside0.mk (AtL_below K14.out hb)
   have K27 := Aside0.mk hA
   clear hA e27
   clear BK1 BK2 HB hb K14 K1 K2
   have BK1 := n1_
   have BK2 := n2_
   have HB := n3_
   have K14 := kK14_
   clear n1_ n2_ n3_ kK14_
   refine hK.out _ _ ⟨HB.out, BK1.out⟩ (fun hHeld => ?_)
   clear hK K
   refine norm_ (a' := ?_) ?_ ?_
   rotate_left
   ·show Act.put _ (some 27) _ = _
    simp only [Act.put, List.setIfInBounds_toArray, List.set_cons_zero, List.set_cons_succ, i64_w, i32_w]
    rfl
   have hbl_ : blksL ([.r 33 6 (.slice (some ⟨b14, 0, none⟩) 1 1) 1 (.i (rd_T33 l0_3 0).f0 :: .s (rd_T33 l0_3 0).f1 :: .i (rd_T33 l0_3 0).f2 :: rows3 U3 (rd_T33 l0_3 0).f3.length du3 yu3 U4 (rd_T33 l0_3 0).f4.length du4 yu4 U5 (rd_T33 l0_3 0).f5.length du5 yu5), .r 53 8 (.slice (some ⟨b27, 0, none⟩) 2 2) 2 ((.s (⟨#[84, 114, 117, 101]⟩ : ByteArray) :: .r 9 1 (.slice none 0 0) 0 [] :: (.i (rd_T33 l0_3 1).f0 :: .s (rd_T33 l0_3 1).f1 :: .i (rd_T33 l0_3 1).f2 :: rows3 V3 (rd_T33 l0_3 1).f3.length dv3 yv3 V4 (rd_T33 l0_3 1).f4.length dv4 yv4 V5 (rd_T33 l0_3 1).f5.length dv5 yv5)) ++ (.s (⟨#[70, 97, 108, 115, 101]⟩ : ByteArray) :: .r 9 1 (.slice none 0 0) 0 [] :: (.i (rd_T33 l0_3 2).f0 :: .s (rd_T33 l0_3 2).f1 :: .i (rd_T33 l0_3 2).f2 :: rows3 X3 (rd_T33 l0_3 2).f3.length dx3 yx3 X4 (rd_T33 l0_3 2).f4.length dx4 yx4 X5 (rd_T33 l0_3 2).f5.length dx5 yx5)))]) = (b14 :: blksL (rows3 U3 (rd_T33 l0_3 0).f3.length du3 yu3 U4 (rd_T33 l0_3 0).f4.length du4 yu4 U5 (rd_T33 l0_3 0).f5.length du5 yu5)) ++ (b27 :: (blksL (rows3 V3 (rd_T33 l0_3 1).f3.length dv3 yv3 V4 (rd_T33 l0_3 1).f4.length dv4 yv4 V5 (rd_T33 l0_3 1).f5.length dv5 yv5) ++ blksL (rows3 X3 (rd_T33 l0_3 2).f3.length dx3 yx3 X4 (rd_T33 l0_3 2).f4.length dx4 yx4 X5 (rd_T33 l0_3 2).f5.length dx5 yx5))) := by simp [blksL, It.blks, Value.ownBlock, blksL_app, List.append_assoc]
   have hnd_ : (blksL ([.r 33 6 (.slice (some ⟨b14, 0, none⟩) 1 1) 1 (.i (rd_T33 l0_3 0).f0 :: .s (rd_T33 l0_3 0).f1 :: .i (rd_T33 l0_3 0).f2 :: rows3 U3 (rd_T33 l0_3 0).f3.length du3 yu3 U4 (rd_T33 l0_3 0).f4.length du4 yu4 U5 (rd_T33 l0_3 0).f5.length du5 yu5), .r 53 8 (.slice (some ⟨b27, 0, none⟩) 2 2) 2 ((.s (⟨#[84, 114, 117, 101]⟩ : ByteArray) :: .r 9 1 (.slice none 0 0) 0 [] :: (.i (rd_T33 l0_3 1).f0 :: .s (rd_T33 l0_3 1).f1 :: .i (rd_T33 l0_3 1).f2 :: rows3 V3 (rd_T33 l0_3 1).f3.length dv3 yv3 V4 (rd_T33 l0_3 1).f4.length dv4 yv4 V5 (rd_T33 l0_3 1).f5.length dv5 yv5)) ++ (.s (⟨#[70, 97, 108, 115, 101]⟩ : ByteArray) :: .r 9 1 (.slice none 0 0) 0 [] :: (.i (rd_T33 l0_3 2).f0 :: .s (rd_T33 l0_3 2).f1 :: .i (rd_T33 l0_3 2).f2 :: rows3 X3 (rd_T33 l0_3 2).f3.length dx3 yx3 X4 (rd_T33 l0_3 2).f4.length dx4 yx4 X5 (rd_T33 l0_3 2).f5.length dx5 yx5)))])).Nodup := by
    rw [hbl_]
    exact nd5 P0.out.nd P1.out.nd P2.out.nd (fun x hx => by have := P0.out.ge x hx; have := P0.out.lt x hx; have q0_ := S0_.out; have q1_ := S1_.out; have q2_ := S2_.out; have q3_ := S14_.out; have q4_ := S27_.out; have q5_ := L14_.out; have q6_ := L27_.out; have q7_ := E14.out; have q8_ := E27.out; omega) (fun x hx => by have := P0.out.ge x hx; have := P0.out.lt x hx; have q0_ := S0_.out; have q1_ := S1_.out; have q2_ := S2_.out; have q3_ := S14_.out; have q4_ := S27_.out; have q5_ := L14_.out; have q6_ := L27_.out; have q7_ := E14.out; have q8_ := E27.out; omega) (fun x hx => by have := P1.out.ge x hx; have := P1.out.lt x hx; have q0_ := S0_.out; have q1_ := S1_.out; have q2_ := S2_.out; have q3_ := S14_.out; have q4_ := S27_.out; have q5_ := L14_.out; have q6_ := L27_.out; have q7_ := E14.out; have q8_ := E27.out; omega) (fun x hx => by have := P1.out.ge x hx; have := P1.out.lt x hx; have q0_ := S0_.out; have q1_ := S1_.out; have q2_ := S2_.out; have q3_ := S14_.out; have q4_ := S27_.out; have q5_ := L14_.out; have q6_ := L27_.out; have q7_ := E14.out; have q8_ := E27.out; omega) (fun x hx => by have := P2.out.ge x hx; have := P2.out.lt x hx; have q0_ := S0_.out; have q1_ := S1_.out; have q2_ := S2_.out; have q3_ := S14_.out; have q4_ := S27_.out; have q5_ := L14_.out; have q6_ := L27_.out; have q7_ := E14.out; have q8_ := E27.out; omega) (fun x hx => by have := P2.out.ge x hx; have := P2.out.lt x hx; have q0_ := S0_.out; have q1_ := S1_.out; have q2_ := S2_.out; have q3_ := S14_.out; have q4_ := S27_.out; have q5_ := L14_.out; have q6_ := L27_.out; have q7_ := E14.out; have q8_ := E27.out; omega) (by have q0_ := S0_.out; have q1_ := S1_.out; have q2_ := S2_.out; have q3_ := S14_.out; have q4_ := S27_.out; have q5_ := L14_.out; have q6_ := L27_.out; have q7_ := E14.out; have q8_ := E27.out; omega) (fun x hx y hy => by have := P0.out.ge x hx; have := P0.out.lt x hx; have := P1.out.ge y hy; have := P1.out.lt y hy; have q0_ := S0_.out; have q1_ := S1_.out; have q2_ := S2_.out; have q3_ := S14_.out; have q4_ := S27_.out; have q5_ := L14_.out; have q6_ := L27_.out; have q7_ := E14.out; have q8_ := E27.out; omega) (fun x hx y hy => by have := P0.out.ge x hx; have := P0.out.lt x hx; have := P2.out.ge y hy; have := P2.out.lt y hy; have q0_ := S0_.out; have q1_ := S1_.out; have q2_ := S2_.out; have q3_ := S14_.out; have q4_ := S27_.out; have q5_ := L14_.out; have q6_ := L27_.out; have q7_ := E14.out; have q8_ := E27.out; omega) (fun x hx y hy => by have := P1.out.ge x hx; have := P1.out.lt x hx; have := P2.out.ge y hy; have := P2.out.lt y hy; have q0_ := S0_.out; have q1_ := S1_.out; have q2_ := S2_.out; have q3_ := S14_.out; have q4_ := S27_.out; have q5_ := L14_.out; have q6_ := L27_.out; have q7_ := E14.out; have q8_ := E27.out; omega)
   have hge_ : ∀ b ∈ blksL ([.r 33 6 (.slice (some ⟨b14, 0, none⟩) 1 1) 1 (.i (rd_T33 l0_3 0).f0 :: .s (rd_T33 l0_3 0).f1 :: .i (rd_T33 l0_3 0).f2 :: rows3 U3 (rd_T33 l0_3 0).f3.length du3 yu3 U4 (rd_T33 l0_3 0).f4.length du4 yu4 U5 (rd_T33 l0_3 0).f5.length du5 yu5), .r 53 8 (.slice (some ⟨b27, 0, none⟩) 2 2) 2 ((.s (⟨#[84, 114, 117, 101]⟩ : ByteArray) :: .r 9 1 (.slice none 0 0) 0 [] :: (.i (rd_T33 l0_3 1).f0 :: .s (rd_T33 l0_3 1).f1 :: .i (rd_T33 l0_3 1).f2 :: rows3 V3 (rd_T33 l0_3 1).f3.length dv3 yv3 V4 (rd_T33 l0_3 1).f4.length dv4 yv4 V5 (rd_T33 l0_3 1).f5.length dv5 yv5)) ++ (.s (⟨#[70, 97, 108, 115, 101]⟩ : ByteArray) :: .r 9 1 (.slice none 0 0) 0 [] :: (.i (rd_T33 l0_3 2).f0 :: .s (rd_T33 l0_3 2).f1 :: .i (rd_T33 l0_3 2).f2 :: rows3 X3 (rd_T33 l0_3 2).f3.length dx3 yx3 X4 (rd_T33 l0_3 2).f4.length dx4 yx4 X5 (rd_T33 l0_3 2).f5.length dx5 yx5)))]), w.heap.size ≤ b ∧ gb2 < b := by
    intro b hb
    rw [hbl_] at hb
    have l1_ := LB.out
    have q0_ := S0_.out; have q1_ := S1_.out; have q2_ := S2_.out; have q3_ := S14_.out; have q4_ := S27_.out; have q5_ := L14_.out; have q6_ := L27_.out; have q7_ := E14.out; have q8_ := E27.out
    simp only [List.mem_append, List.mem_cons] at hb
    rcases hb with (rfl | hb) | rfl | hb | hb
    · omega
    · have := P0.out.ge b hb; omega
    · omega
    · have := P1.out.ge b hb; omega
    · have := P2.out.ge b hb; omega
   exact norm_ (by simp only [putAll, Act.put, List.setIfInBounds_toArray, List.set_cons_zero, List.set_cons_succ]) (hCont (b14, b27, V3, dv3, yv3, V4, dv4, yv4, V5, dv5, yv5, X3, dx3, yx3, X4, dx4, yx4, X5, dx5, yx5) _ ⟨HB.out, BK1.out, BK2.out, (AtL_app [_] [_]).2 ⟨K14.out, K27.out⟩, hnd_, hge_, R1.out, R2.out⟩)
  ·skip
   refine goes_ Try.func37 (by kernel_rfl) rfl #[.agg #[.int .i64 (rd_T33 l0_3 1).f0, .string (rd_T33 l0_3 1).f1, .int .i64 (rd_T33 l0_3 1).f2, .slice Z13 (rd_T33 l0_3 1).f3.length z13, .slice Z14 (rd_T33 l0_3 1).f4.length z14, .slice Z15 (rd_T33 l0_3 1).f5.length z15]] (by rfl) rfl rfl (by (try simp only [List.map_toArray, List.map_cons, List.map_nil, List.append_toArray, List.cons_append, List.nil_append]); first | done | rfl) ?_
   with_reducible refine ((all k).1 (rd_T33 l0_3 1).f0 (rd_T33 l0_3 1).f1 (rd_T33 l0_3 1).f2 _ _ (rd_T33 l0_3 1).f3 _ _ (rd_T33 l0_3 1).f4 _ _ (rd_T33 l0_3 1).f5 _ ⟨⟨Kd.C_below GA1.out.1.1 HB.out, GA1.out.1.2⟩, ⟨Kd.C_below GA1.out.2.1.1 HB.out, GA1.out.2.1.2⟩, ⟨Kd.C_below GA1.out.2.2.1 HB.out, GA1.out.2.2.2⟩⟩ HU1.out).mono ?_
   rintro e w106 ⟨V3, dv3, yv3, V4, dv4, yv4, V5, dv5, yv5, rfl, hc, hb⟩
   refine ⟨_, rfl, ?_⟩
   have S1_ := Aside0.mk (below_size hb)
   have n1_ := Aside0.mk (blk_below BK1.out hb)
   have n2_ := Aside0.mk (blk_below BK2.out hb)
   have n3_ := Aside0.mk (below_step HB.out hb)
   have kK0_ := Aside0.mk (AtL_below K0.out hb)
   have K1 := Aside0.mk hc.at_
   have P1 := Aside0.mk hc.part
   have R1 : Aside0 (RepE (rd_T33 l0_3 1) (.i (rd_T33 l0_3 1).f0 :: .s (rd_T33 l0_3 1).f1 :: .i (rd_T33 l0_3 1).f2 :: rows3 V3 (rd_T33 l0_3 1).f3.length dv3 yv3 V4 (rd_T33 l0_3 1).f4.length dv4 yv4 V5 (rd_T33 l0_3 1).f5.length dv5 yv5)) := ⟨RepE.mk hc.r3 hc.r4 hc.r5⟩
   clear hc
   clear BK1 BK2 HB hb K0
   have BK1 := n1_
   have BK2 := n2_
   have HB := n3_
   have K0 := kK0_
   clear n1_ n2_ n3_ kK0_
   refine hK.out _ _ ⟨HB.out, BK1.out⟩ (fun hHeld => ?_)
   clear hK K
   refine norm_ (a' := ?_) ?_ ?_
   rotate_left
   ·show Act.put _ (some 19) _ = _
    simp only [Act.put, List.setIfInBounds_toArray, List.set_cons_zero, List.set_cons_succ, i64_w, i32_w]
    rfl
   refine pure_ (i := 11) (N := some 20) (v := ?_) (a' := ?_) #[true, true, true, true, true, false, true, true, true, true, true, true, true, true, true, true, false, false, false, false, false, false] rfl rfl (any_of HT_.out (by kernel_rfl)) (fun _ _ _ h => h) (Or.inl ⟨by rfl, ?_⟩) ?_ ?_
   rotate_left
   ·intro w'
    go_simp
    with_reducible rfl
   rotate_left
   ·simp only [Act.put, List.setIfInBounds_toArray, List.set_cons_zero, List.set_cons_succ, i64_w, i32_w]
    rfl
   refine two_ (i := 5) (j := 16) (Ni := some 14) (Nj := some 25) #[true, true, true, true, true, true, true, true, true, true, true, true, true, true, true, true, false, false, false, false, false, false] #[true, true, true, true, true, false, true, true, true, true, true, true, true, true, true, true, true, false, false, false, false, false] rfl rfl rfl rfl (two_of HT_.out (by kernel_rfl)) (by decide) (by decide) (fun K hK => ?_) (fun K hK => ?_)
   ·skip
    refine lit_step (e := 33) (sz := 6) (n := 1) (items := .i (rd_T33 l0_3 0).f0 :: .s (rd_T33 l0_3 0).f1 :: .i (rd_T33 l0_3 0).f2 :: rows3 U3 (rd_T33 l0_3 0).f3.length du3 yu3 U4 (rd_T33 l0_3 0).f4.length du4 yu4 U5 (rd_T33 l0_3 0).f5.length du5 yu5) [.int .i64 (rd_T33 l0_3 0).f0, .string (rd_T33 l0_3 0).f1, .int .i64 (rd_T33 l0_3 0).f2, .slice U3 (rd_T33 l0_3 0).f3.length du3, .slice U4 (rd_T33 l0_3 0).f4.length du4, .slice U5 (rd_T33 l0_3 0).f5.length du5] (by rfl) (by rfl) ?hr (by rfl) ?ha (by simp) (by omega) ?_
    (case hr => first | (go_simp; done) | (go_simp; rfl))
    (case ha => have q_ := K0.out; simp only [AtL, It.At, true_and] at q_ ⊢; exact q_)
    intro b14 w107 e14 hA hb
    have E14 := Aside0.mk e14
    have S14_ := Aside0.mk (below_size hb)
    have L14_ := Aside0.mk (show b14 < w107.heap.size from (AtL_blk _ hA b14 (by simp [blksL, It.blks, Value.ownBlock])).1)
    have n1_ := Aside0.mk (blk_below BK1.out hb)
    have n2_ := Aside0.mk (blk_below BK2.out hb)
    have n3_ := Aside0.mk (below_step HB.out hb)
    have kK1_ := Aside0.mk (AtL_below K1.out hb)
    have K14 := Aside0.mk hA
    clear hA e14
    clear BK1 BK2 HB hb K1 K0
    have BK1 := n1_
    have BK2 := n2_
    have HB := n3_
    have K1 := kK1_
    clear n1_ n2_ n3_ kK1_
    refine hK.out _ _ ⟨HB.out, BK1.out⟩ (fun hHeld => ?_)
    clear hK K
    refine norm_ (a' := ?_) ?_ ?_
    rotate_left
    ·show Act.put _ (some 14) _ = _
     simp only [Act.put, List.setIfInBounds_toArray, List.set_cons_zero, List.set_cons_succ, i64_w, i32_w]
     rfl
    refine one_ (i := 16) (N := some 25) #[true, true, true, true, true, true, true, true, true, true, true, true, true, true, true, true, true, false, false, false, false, false] rfl rfl (one_of HT_.out (by kernel_rfl)) (by decide) (fun K hK => ?_)
    refine goes_ Try.func37 (by kernel_rfl) rfl #[.agg #[.int .i64 (rd_T33 l0_3 2).f0, .string (rd_T33 l0_3 2).f1, .int .i64 (rd_T33 l0_3 2).f2, .slice Z23 (rd_T33 l0_3 2).f3.length z23, .slice Z24 (rd_T33 l0_3 2).f4.length z24, .slice Z25 (rd_T33 l0_3 2).f5.length z25]] (by rfl) rfl rfl (by (try simp only [List.map_toArray, List.map_cons, List.map_nil, List.append_toArray, List.cons_append, List.nil_append]); first | done | rfl) ?_
    with_reducible refine ((all k).1 (rd_T33 l0_3 2).f0 (rd_T33 l0_3 2).f1 (rd_T33 l0_3 2).f2 _ _ (rd_T33 l0_3 2).f3 _ _ (rd_T33 l0_3 2).f4 _ _ (rd_T33 l0_3 2).f5 _ ⟨⟨Kd.C_below GA2.out.1.1 HB.out, GA2.out.1.2⟩, ⟨Kd.C_below GA2.out.2.1.1 HB.out, GA2.out.2.1.2⟩, ⟨Kd.C_below GA2.out.2.2.1 HB.out, GA2.out.2.2.2⟩⟩ HU2.out).mono ?_
    rintro e w108 ⟨X3, dx3, yx3, X4, dx4, yx4, X5, dx5, yx5, rfl, hc, hb⟩
    refine ⟨_, rfl, ?_⟩
    have S2_ := Aside0.mk (below_size hb)
    have n1_ := Aside0.mk (blk_below BK1.out hb)
    have n2_ := Aside0.mk (blk_below BK2.out hb)
    have n3_ := Aside0.mk (below_step HB.out hb)
    have kK1_ := Aside0.mk (AtL_below K1.out hb)
    have kK14_ := Aside0.mk (AtL_below K14.out hb)
    have K2 := Aside0.mk hc.at_
    have P2 := Aside0.mk hc.part
    have R2 : Aside0 (RepE (rd_T33 l0_3 2) (.i (rd_T33 l0_3 2).f0 :: .s (rd_T33 l0_3 2).f1 :: .i (rd_T33 l0_3 2).f2 :: rows3 X3 (rd_T33 l0_3 2).f3.length dx3 yx3 X4 (rd_T33 l0_3 2).f4.length dx4 yx4 X5 (rd_T33 l0_3 2).f5.length dx5 yx5)) := ⟨RepE.mk hc.r3 hc.r4 hc.r5⟩
    clear hc
    clear BK1 BK2 HB hb K1 K14
    have BK1 := n1_
    have BK2 := n2_
    have HB := n3_
    have K1 := kK1_
    have K14 := kK14_
    clear n1_ n2_ n3_ kK1_ kK14_
    refine hK.out _ _ ⟨HB.out, BK1.out⟩ (fun hHeld => ?_)
    clear hK K
    refine norm_ (a' := ?_) ?_ ?_
    rotate_left
    ·show Act.put _ (some 25) _ = _
     simp only [Act.put, List.setIfInBounds_toArray, List.set_cons_zero, List.set_cons_succ, i64_w, i32_w]
     rfl
    refine pure_ (i := 17) (N := some 26) (v := ?_) (a' := ?_) #[true, true, true, true, true, true, true, true, true, true, true, true, true, true, true, true, true, true, false, false, false, false] rfl rfl (any_of HT_.out (by kernel_rfl)) (fun _ _ _ h => h) (Or.inl ⟨by rfl, ?_⟩) ?_ ?_
    rotate_left
    ·intro w'
     go_simp
     with_reducible rfl
    rotate_left
    ·simp only [Act.put, List.setIfInBounds_toArray, List.set_cons_zero, List.set_cons_succ, i64_w, i32_w]
     rfl
    refine one_ (i := 18) (N := some 27) #[true, true, true, true, true, true, true, true, true, true, true, true, true, true, true, true, true, true, true, false, false, false] rfl rfl (one_of HT_.out (by kernel_rfl)) (by decide) (fun K hK => ?_)
    refine lit_step (e := 53) (sz := 8) (n := 2) (items := (.s (⟨#[84, 114, 117, 101]⟩ : ByteArray) :: .r 9 1 (.slice none 0 0) 0 [] :: (.i (rd_T33 l0_3 1).f0 :: .s (rd_T33 l0_3 1).f1 :: .i (rd_T33 l0_3 1).f2 :: rows3 V3 (rd_T33 l0_3 1).f3.length dv3 yv3 V4 (rd_T33 l0_3 1).f4.length dv4 yv4 V5 (rd_T33 l0_3 1).f5.length dv5 yv5)) ++ (.s (⟨#[70, 97, 108, 115, 101]⟩ : ByteArray) :: .r 9 1 (.slice none 0 0) 0 [] :: (.i (rd_T33 l0_3 2).f0 :: .s (rd_T33 l0_3 2).f1 :: .i (rd_T33 l0_3 2).f2 :: rows3 X3 (rd_T33 l0_3 2).f3.length dx3 yx3 X4 (rd_T33 l0_3 2).f4.length dx4 yx4 X5 (rd_T33 l0_3 2).f5.length dx5 yx5))) [.string (⟨#[84, 114, 117, 101]⟩ : ByteArray), .slice none 0 0, .int .i64 (rd_T33 l0_3 1).f0, .string (rd_T33 l0_3 1).f1, .int .i64 (rd_T33 l0_3 1).f2, .slice V3 (rd_T33 l0_3 1).f3.length dv3, .slice V4 (rd_T33 l0_3 1).f4.length dv4, .slice V5 (rd_T33 l0_3 1).f5.length dv5, .string (⟨#[70, 97, 108, 115, 101]⟩ : ByteArray), .slice none 0 0, .int .i64 (rd_T33 l0_3 2).f0, .string (rd_T33 l0_3 2).f1, .int .i64 (rd_T33 l0_3 2).f2, .slice X3 (rd_T33 l0_3 2).f3.length dx3, .slice X4 (rd_T33 l0_3 2).f4.length dx4, .slice X5 (rd_T33 l0_3 2).f5.length dx5] (by rfl) (by rfl) ?hr (by rfl) ?ha (by simp) (by omega) ?_
    (case hr => first | (go_simp; done) | (go_simp; rfl))
    (case ha => have q1_ := K1.out; have q2_ := K2.out; have z_ := z_row w108 9 1 (.inl rfl); rw [AtL_app]; simp only [AtL, It.At, true_and] at q1_ q2_ z_ ⊢; exact ⟨⟨z_, q1_⟩, ⟨z_, q2_⟩⟩)
    intro b27 w109 e27 hA hb
    have E27 := Aside0.mk e27
    have S27_ := Aside0.mk (below_size hb)
    have L27_ := Aside0.mk (show b27 < w109.heap.size from (AtL_blk _ hA b27 (by simp [blksL, It.blks, Value.ownBlock])).1)
    have n1_ := Aside0.mk (blk_below BK1.out hb)
    have n2_ := Aside0.mk (blk_below BK2.out hb)
    have n3_ := Aside0.mk (below_step HB.out hb)
    have kK14_ := Aside0.mk (AtL_below K14.out hb)
    have K27 := Aside0.mk hA
    clear hA e27
    clear BK1 BK2 HB hb K14 K1 K2
    have BK1 := n1_
    have BK2 := n2_
    have HB := n3_
    have K14 := kK14_
    clear n1_ n2_ n3_ kK14_
    refine hK.out _ _ ⟨HB.out, BK1.out⟩ (fun hHeld => ?_)
    clear hK K
    refine norm_ (a' := ?_) ?_ ?_
    rotate_left
    ·show Act.put _ (some 27) _ = _
     simp only [Act.put, List.setIfInBounds_toArray, List.set_cons_zero, List.set_cons_succ, i64_w, i32_w]
     rfl
    have hbl_ : blksL ([.r 33 6 (.slice (some ⟨b14, 0, none⟩) 1 1) 1 (.i (rd_T33 l0_3 0).f0 :: .s (rd_T33 l0_3 0).f1 :: .i (rd_T33 l0_3 0).f2 :: rows3 U3 (rd_T33 l0_3 0).f3.length du3 yu3 U4 (rd_T33 l0_3 0).f4.length du4 yu4 U5 (rd_T33 l0_3 0).f5.length du5 yu5), .r 53 8 (.slice (some ⟨b27, 0, none⟩) 2 2) 2 ((.s (⟨#[84, 114, 117, 101]⟩ : ByteArray) :: .r 9 1 (.slice none 0 0) 0 [] :: (.i (rd_T33 l0_3 1).f0 :: .s (rd_T33 l0_3 1).f1 :: .i (rd_T33 l0_3 1).f2 :: rows3 V3 (rd_T33 l0_3 1).f3.length dv3 yv3 V4 (rd_T33 l0_3 1).f4.length dv4 yv4 V5 (rd_T33 l0_3 1).f5.length dv5 yv5)) ++ (.s (⟨#[70, 97, 108, 115, 101]⟩ : ByteArray) :: .r 9 1 (.slice none 0 0) 0 [] :: (.i (rd_T33 l0_3 2).f0 :: .s (rd_T33 l0_3 2).f1 :: .i (rd_T33 l0_3 2).f2 :: rows3 X3 (rd_T33 l0_3 2).f3.length dx3 yx3 X4 (rd_T33 l0_3 2).f4.length dx4 yx4 X5 (rd_T33 l0_3 2).f5.length dx5 yx5)))]) = (b14 :: blksL (rows3 U3 (rd_T33 l0_3 0).f3.length du3 yu3 U4 (rd_T33 l0_3 0).f4.length du4 yu4 U5 (rd_T33 l0_3 0).f5.length du5 yu5)) ++ (b27 :: (blksL (rows3 V3 (rd_T33 l0_3 1).f3.length dv3 yv3 V4 (rd_T33 l0_3 1).f4.length dv4 yv4 V5 (rd_T33 l0_3 1).f5.length dv5 yv5) ++ blksL (rows3 X3 (rd_T33 l0_3 2).f3.length dx3 yx3 X4 (rd_T33 l0_3 2).f4.length dx4 yx4 X5 (rd_T33 l0_3 2).f5.length dx5 yx5))) := by simp [blksL, It.blks, Value.ownBlock, blksL_app, List.append_assoc]
    have hnd_ : (blksL ([.r 33 6 (.slice (some ⟨b14, 0, none⟩) 1 1) 1 (.i (rd_T33 l0_3 0).f0 :: .s (rd_T33 l0_3 0).f1 :: .i (rd_T33 l0_3 0).f2 :: rows3 U3 (rd_T33 l0_3 0).f3.length du3 yu3 U4 (rd_T33 l0_3 0).f4.length du4 yu4 U5 (rd_T33 l0_3 0).f5.length du5 yu5), .r 53 8 (.slice (some ⟨b27, 0, none⟩) 2 2) 2 ((.s (⟨#[84, 114, 117, 101]⟩ : ByteArray) :: .r 9 1 (.slice none 0 0) 0 [] :: (.i (rd_T33 l0_3 1).f0 :: .s (rd_T33 l0_3 1).f1 :: .i (rd_T33 l0_3 1).f2 :: rows3 V3 (rd_T33 l0_3 1).f3.length dv3 yv3 V4 (rd_T33 l0_3 1).f4.length dv4 yv4 V5 (rd_T33 l0_3 1).f5.length dv5 yv5)) ++ (.s (⟨#[70, 97, 108, 115, 101]⟩ : ByteArray) :: .r 9 1 (.slice none 0 0) 0 [] :: (.i (rd_T33 l0_3 2).f0 :: .s (rd_T33 l0_3 2).f1 :: .i (rd_T33 l0_3 2).f2 :: rows3 X3 (rd_T33 l0_3 2).f3.length dx3 yx3 X4 (rd_T33 l0_3 2).f4.length dx4 yx4 X5 (rd_T33 l0_3 2).f5.length dx5 yx5)))])).Nodup := by
     rw [hbl_]
     exact nd5 P0.out.nd P1.out.nd P2.out.nd (fun x hx => by have := P0.out.ge x hx; have := P0.out.lt x hx; have q0_ := S0_.out; have q1_ := S1_.out; have q2_ := S2_.out; have q3_ := S14_.out; have q4_ := S27_.out; have q5_ := L14_.out; have q6_ := L27_.out; have q7_ := E14.out; have q8_ := E27.out; omega) (fun x hx => by have := P0.out.ge x hx; have := P0.out.lt x hx; have q0_ := S0_.out; have q1_ := S1_.out; have q2_ := S2_.out; have q3_ := S14_.out; have q4_ := S27_.out; have q5_ := L14_.out; have q6_ := L27_.out; have q7_ := E14.out; have q8_ := E27.out; omega) (fun x hx => by have := P1.out.ge x hx; have := P1.out.lt x hx; have q0_ := S0_.out; have q1_ := S1_.out; have q2_ := S2_.out; have q3_ := S14_.out; have q4_ := S27_.out; have q5_ := L14_.out; have q6_ := L27_.out; have q7_ := E14.out; have q8_ := E27.out; omega) (fun x hx => by have := P1.out.ge x hx; have := P1.out.lt x hx; have q0_ := S0_.out; have q1_ := S1_.out; have q2_ := S2_.out; have q3_ := S14_.out; have q4_ := S27_.out; have q5_ := L14_.out; have q6_ := L27_.out; have q7_ := E14.out; have q8_ := E27.out; omega) (fun x hx => by have := P2.out.ge x hx; have := P2.out.lt x hx; have q0_ := S0_.out; have q1_ := S1_.out; have q2_ := S2_.out; have q3_ := S14_.out; have q4_ := S27_.out; have q5_ := L14_.out; have q6_ := L27_.out; have q7_ := E14.out; have q8_ := E27.out; omega) (fun x hx => by have := P2.out.ge x hx; have := P2.out.lt x hx; have q0_ := S0_.out; have q1_ := S1_.out; have q2_ := S2_.out; have q3_ := S14_.out; have q4_ := S27_.out; have q5_ := L14_.out; have q6_ := L27_.out; have q7_ := E14.out; have q8_ := E27.out; omega) (by have q0_ := S0_.out; have q1_ := S1_.out; have q2_ := S2_.out; have q3_ := S14_.out; have q4_ := S27_.out; have q5_ := L14_.out; have q6_ := L27_.out; have q7_ := E14.out; have q8_ := E27.out; omega) (fun x hx y hy => by have := P0.out.ge x hx; have := P0.out.lt x hx; have := P1.out.ge y hy; have := P1.out.lt y hy; have q0_ := S0_.out; have q1_ := S1_.out; have q2_ := S2_.out; have q3_ := S14_.out; have q4_ := S27_.out; have q5_ := L14_.out; have q6_ := L27_.out; have q7_ := E14.out; have q8_ := E27.out; omega) (fun x hx y hy => by have := P0.out.ge x hx; have := P0.out.lt x hx; have := P2.out.ge y hy; have := P2.out.lt y hy; have q0_ := S0_.out; have q1_ := S1_.out; have q2_ := S2_.out; have q3_ := S14_.out; have q4_ := S27_.out; have q5_ := L14_.out; have q6_ := L27_.out; have q7_ := E14.out; have q8_ := E27.out; omega) (fun x hx y hy => by have := P1.out.ge x hx; have := P1.out.lt x hx; have := P2.out.ge y hy; have := P2.out.lt y hy; have q0_ := S0_.out; have q1_ := S1_.out; have q2_ := S2_.out; have q3_ := S14_.out; have q4_ := S27_.out; have q5_ := L14_.out; have q6_ := L27_.out; have q7_ := E14.out; have q8_ := E27.out; omega)
    have hge_ : ∀ b ∈ blksL ([.r 33 6 (.slice (some ⟨b14, 0, none⟩) 1 1) 1 (.i (rd_T33 l0_3 0).f0 :: .s (rd_T33 l0_3 0).f1 :: .i (rd_T33 l0_3 0).f2 :: rows3 U3 (rd_T33 l0_3 0).f3.length du3 yu3 U4 (rd_T33 l0_3 0).f4.length du4 yu4 U5 (rd_T33 l0_3 0).f5.length du5 yu5), .r 53 8 (.slice (some ⟨b27, 0, none⟩) 2 2) 2 ((.s (⟨#[84, 114, 117, 101]⟩ : ByteArray) :: .r 9 1 (.slice none 0 0) 0 [] :: (.i (rd_T33 l0_3 1).f0 :: .s (rd_T33 l0_3 1).f1 :: .i (rd_T33 l0_3 1).f2 :: rows3 V3 (rd_T33 l0_3 1).f3.length dv3 yv3 V4 (rd_T33 l0_3 1).f4.length dv4 yv4 V5 (rd_T33 l0_3 1).f5.length dv5 yv5)) ++ (.s (⟨#[70, 97, 108, 115, 101]⟩ : ByteArray) :: .r 9 1 (.slice none 0 0) 0 [] :: (.i (rd_T33 l0_3 2).f0 :: .s (rd_T33 l0_3 2).f1 :: .i (rd_T33 l0_3 2).f2 :: rows3 X3 (rd_T33 l0_3 2).f3.length dx3 yx3 X4 (rd_T33 l0_3 2).f4.length dx4 yx4 X5 (rd_T33 l0_3 2).f5.length dx5 yx5)))]), w.heap.size ≤ b ∧ gb2 < b := by
     intro b hb
     rw [hbl_] at hb
     have l1_ := LB.out
     have q0_ := S0_.out; have q1_ := S1_.out; have q2_ := S2_.out; have q3_ := S14_.out; have q4_ := S27_.out; have q5_ := L14_.out; have q6_ := L27_.out; have q7_ := E14.out; have q8_ := E27.out
     simp only [List.mem_append, List.mem_cons] at hb
     rcases hb with (rfl | hb) | rfl | hb | hb
     · omega
     · have := P0.out.ge b hb; omega
     · omega
     · have := P1.out.ge b hb; omega
     · have := P2.out.ge b hb; omega
    exact norm_ (by simp only [putAll, Act.put, List.setIfInBounds_toArray, List.set_cons_zero, List.set_cons_succ]) (hCont (b14, b27, V3, dv3, yv3, V4, dv4, yv4, V5, dv5, yv5, X3, dx3, yx3, X4, dx4, yx4, X5, dx5, yx5) _ ⟨HB.out, BK1.out, BK2.out, (AtL_app [_] [_]).2 ⟨K14.out, K27.out⟩, hnd_, hge_, R1.out, R2.out⟩)
   ·skip
    refine goes_ Try.func37 (by kernel_rfl) rfl #[.agg #[.int .i64 (rd_T33 l0_3 2).f0, .string (rd_T33 l0_3 2).f1, .int .i64 (rd_T33 l0_3 2).f2, .slice Z23 (rd_T33 l0_3 2).f3.length z23, .slice Z24 (rd_T33 l0_3 2).f4.length z24, .slice Z25 (rd_T33 l0_3 2).f5.length z25]] (by rfl) rfl rfl (by (try simp only [List.map_toArray, List.map_cons, List.map_nil, List.append_toArray, List.cons_append, List.nil_append]); first | done | rfl) ?_
    with_reducible refine ((all k).1 (rd_T33 l0_3 2).f0 (rd_T33 l0_3 2).f1 (rd_T33 l0_3 2).f2 _ _ (rd_T33 l0_3 2).f3 _ _ (rd_T33 l0_3 2).f4 _ _ (rd_T33 l0_3 2).f5 _ ⟨⟨Kd.C_below GA2.out.1.1 HB.out, GA2.out.1.2⟩, ⟨Kd.C_below GA2.out.2.1.1 HB.out, GA2.out.2.1.2⟩, ⟨Kd.C_below GA2.out.2.2.1 HB.out, GA2.out.2.2.2⟩⟩ HU2.out).mono ?_
    rintro e w110 ⟨X3, dx3, yx3, X4, dx4, yx4, X5, dx5, yx5, rfl, hc, hb⟩
    refine ⟨_, rfl, ?_⟩
    have S2_ := Aside0.mk (below_size hb)
    have n1_ := Aside0.mk (blk_below BK1.out hb)
    have n2_ := Aside0.mk (blk_below BK2.out hb)
    have n3_ := Aside0.mk (below_step HB.out hb)
    have kK0_ := Aside0.mk (AtL_below K0.out hb)
    have kK1_ := Aside0.mk (AtL_below K1.out hb)
    have K2 := Aside0.mk hc.at_
    have P2 := Aside0.mk hc.part
    have R2 : Aside0 (RepE (rd_T33 l0_3 2) (.i (rd_T33 l0_3 2).f0 :: .s (rd_T33 l0_3 2).f1 :: .i (rd_T33 l0_3 2).f2 :: rows3 X3 (rd_T33 l0_3 2).f3.length dx3 yx3 X4 (rd_T33 l0_3 2).f4.length dx4 yx4 X5 (rd_T33 l0_3 2).f5.length dx5 yx5)) := ⟨RepE.mk hc.r3 hc.r4 hc.r5⟩
    clear hc
    clear BK1 BK2 HB hb K0 K1
    have BK1 := n1_
    have BK2 := n2_
    have HB := n3_
    have K0 := kK0_
    have K1 := kK1_
    clear n1_ n2_ n3_ kK0_ kK1_
    refine hK.out _ _ ⟨HB.out, BK1.out⟩ (fun hHeld => ?_)
    clear hK K
    refine norm_ (a' := ?_) ?_ ?_
    rotate_left
    ·show Act.put _ (some 25) _ = _
     simp only [Act.put, List.setIfInBounds_toArray, List.set_cons_zero, List.set_cons_succ, i64_w, i32_w]
     rfl
    refine pure_ (i := 17) (N := some 26) (v := ?_) (a' := ?_) #[true, true, true, true, true, false, true, true, true, true, true, true, true, true, true, true, true, true, false, false, false, false] rfl rfl (any_of HT_.out (by kernel_rfl)) (fun _ _ _ h => h) (Or.inl ⟨by rfl, ?_⟩) ?_ ?_
    rotate_left
    ·intro w'
     go_simp
     with_reducible rfl
    rotate_left
    ·simp only [Act.put, List.setIfInBounds_toArray, List.set_cons_zero, List.set_cons_succ, i64_w, i32_w]
     rfl
    refine two_ (i := 5) (j := 18) (Ni := some 14) (Nj := some 27) #[true, true, true, true, true, true, true, true, true, true, true, true, true, true, true, true, true, true, false, false, false, false] #[true, true, true, true, true, false, true, true, true, true, true, true, true, true, true, true, true, true, true, false, false, false] rfl rfl rfl rfl (two_of HT_.out (by kernel_rfl)) (by decide) (by decide) (fun K hK => ?_) (fun K hK => ?_)
    ·skip
     refine lit_step (e := 33) (sz := 6) (n := 1) (items := .i (rd_T33 l0_3 0).f0 :: .s (rd_T33 l0_3 0).f1 :: .i (rd_T33 l0_3 0).f2 :: rows3 U3 (rd_T33 l0_3 0).f3.length du3 yu3 U4 (rd_T33 l0_3 0).f4.length du4 yu4 U5 (rd_T33 l0_3 0).f5.length du5 yu5) [.int .i64 (rd_T33 l0_3 0).f0, .string (rd_T33 l0_3 0).f1, .int .i64 (rd_T33 l0_3 0).f2, .slice U3 (rd_T33 l0_3 0).f3.length du3, .slice U4 (rd_T33 l0_3 0).f4.length du4, .slice U5 (rd_T33 l0_3 0).f5.length du5] (by rfl) (by rfl) ?hr (by rfl) ?ha (by simp) (by omega) ?_
     (case hr => first | (go_simp; done) | (go_simp; rfl))
     (case ha => have q_ := K0.out; simp only [AtL, It.At, true_and] at q_ ⊢; exact q_)
     intro b14 w111 e14 hA hb
     have E14 := Aside0.mk e14
     have S14_ := Aside0.mk (below_size hb)
     have L14_ := Aside0.mk (show b14 < w111.heap.size from (AtL_blk _ hA b14 (by simp [blksL, It.blks, Value.ownBlock])).1)
     have n1_ := Aside0.mk (blk_below BK1.out hb)
     have n2_ := Aside0.mk (blk_below BK2.out hb)
     have n3_ := Aside0.mk (below_step HB.out hb)
     have kK1_ := Aside0.mk (AtL_below K1.out hb)
     have kK2_ := Aside0.mk (AtL_below K2.out hb)
     have K14 := Aside0.mk hA
     clear hA e14
     clear BK1 BK2 HB hb K1 K2 K0
     have BK1 := n1_
     have BK2 := n2_
     have HB := n3_
     have K1 := kK1_
     have K2 := kK2_
     clear n1_ n2_ n3_ kK1_ kK2_
     refine hK.out _ _ ⟨HB.out, BK1.out⟩ (fun hHeld => ?_)
     clear hK K
     refine norm_ (a' := ?_) ?_ ?_
     rotate_left
     ·show Act.put _ (some 14) _ = _
      simp only [Act.put, List.setIfInBounds_toArray, List.set_cons_zero, List.set_cons_succ, i64_w, i32_w]
      rfl
     refine one_ (i := 18) (N := some 27) #[true, true, true, true, true, true, true, true, true, true, true, true, true, true, true, true, true, true, true, false, false, false] rfl rfl (one_of HT_.out (by kernel_rfl)) (by decide) (fun K hK => ?_)
     refine lit_step (e := 53) (sz := 8) (n := 2) (items := (.s (⟨#[84, 114, 117, 101]⟩ : ByteArray) :: .r 9 1 (.slice none 0 0) 0 [] :: (.i (rd_T33 l0_3 1).f0 :: .s (rd_T33 l0_3 1).f1 :: .i (rd_T33 l0_3 1).f2 :: rows3 V3 (rd_T33 l0_3 1).f3.length dv3 yv3 V4 (rd_T33 l0_3 1).f4.length dv4 yv4 V5 (rd_T33 l0_3 1).f5.length dv5 yv5)) ++ (.s (⟨#[70, 97, 108, 115, 101]⟩ : ByteArray) :: .r 9 1 (.slice none 0 0) 0 [] :: (.i (rd_T33 l0_3 2).f0 :: .s (rd_T33 l0_3 2).f1 :: .i (rd_T33 l0_3 2).f2 :: rows3 X3 (rd_T33 l0_3 2).f3.length dx3 yx3 X4 (rd_T33 l0_3 2).f4.length dx4 yx4 X5 (rd_T33 l0_3 2).f5.length dx5 yx5))) [.string (⟨#[84, 114, 117, 101]⟩ : ByteArray), .slice none 0 0, .int .i64 (rd_T33 l0_3 1).f0, .string (rd_T33 l0_3 1).f1, .int .i64 (rd_T33 l0_3 1).f2, .slice V3 (rd_T33 l0_3 1).f3.length dv3, .slice V4 (rd_T33 l0_3 1).f4.length dv4, .slice V5 (rd_T33 l0_3 1).f5.length dv5, .string (⟨#[70, 97, 108, 115, 101]⟩ : ByteArray), .slice none 0 0, .int .i64 (rd_T33 l0_3 2).f0, .string (rd_T33 l0_3 2).f1, .int .i64 (rd_T33 l0_3 2).f2, .slice X3 (rd_T33 l0_3 2).f3.length dx3, .slice X4 (rd_T33 l0_3 2).f4.length dx4, .slice X5 (rd_T33 l0_3 2).f5.length dx5] (by rfl) (by rfl) ?hr (by rfl) ?ha (by simp) (by omega) ?_
     (case hr => first | (go_simp; done) | (go_simp; rfl))
     (case ha => have q1_ := K1.out; have q2_ := K2.out; have z_ := z_row w111 9 1 (.inl rfl); rw [AtL_app]; simp only [AtL, It.At, true_and] at q1_ q2_ z_ ⊢; exact ⟨⟨z_, q1_⟩, ⟨z_, q2_⟩⟩)
     intro b27 w112 e27 hA hb
     have E27 := Aside0.mk e27
     have S27_ := Aside0.mk (below_size hb)
     have L27_ := Aside0.mk (show b27 < w112.heap.size from (AtL_blk _ hA b27 (by simp [blksL, It.blks, Value.ownBlock])).1)
     have n1_ := Aside0.mk (blk_below BK1.out hb)
     have n2_ := Aside0.mk (blk_below BK2.out hb)
     have n3_ := Aside0.mk (below_step HB.out hb)
     have kK14_ := Aside0.mk (AtL_below K14.out hb)
     have K27 := Aside0.mk hA
     clear hA e27
     clear BK1 BK2 HB hb K14 K1 K2
     have BK1 := n1_
     have BK2 := n2_
     have HB := n3_
     have K14 := kK14_
     clear n1_ n2_ n3_ kK14_
     refine hK.out _ _ ⟨HB.out, BK1.out⟩ (fun hHeld => ?_)
     clear hK K
     refine norm_ (a' := ?_) ?_ ?_
     rotate_left
     ·show Act.put _ (some 27) _ = _
      simp only [Act.put, List.setIfInBounds_toArray, List.set_cons_zero, List.set_cons_succ, i64_w, i32_w]
      rfl
     have hbl_ : blksL ([.r 33 6 (.slice (some ⟨b14, 0, none⟩) 1 1) 1 (.i (rd_T33 l0_3 0).f0 :: .s (rd_T33 l0_3 0).f1 :: .i (rd_T33 l0_3 0).f2 :: rows3 U3 (rd_T33 l0_3 0).f3.length du3 yu3 U4 (rd_T33 l0_3 0).f4.length du4 yu4 U5 (rd_T33 l0_3 0).f5.length du5 yu5), .r 53 8 (.slice (some ⟨b27, 0, none⟩) 2 2) 2 ((.s (⟨#[84, 114, 117, 101]⟩ : ByteArray) :: .r 9 1 (.slice none 0 0) 0 [] :: (.i (rd_T33 l0_3 1).f0 :: .s (rd_T33 l0_3 1).f1 :: .i (rd_T33 l0_3 1).f2 :: rows3 V3 (rd_T33 l0_3 1).f3.length dv3 yv3 V4 (rd_T33 l0_3 1).f4.length dv4 yv4 V5 (rd_T33 l0_3 1).f5.length dv5 yv5)) ++ (.s (⟨#[70, 97, 108, 115, 101]⟩ : ByteArray) :: .r 9 1 (.slice none 0 0) 0 [] :: (.i (rd_T33 l0_3 2).f0 :: .s (rd_T33 l0_3 2).f1 :: .i (rd_T33 l0_3 2).f2 :: rows3 X3 (rd_T33 l0_3 2).f3.length dx3 yx3 X4 (rd_T33 l0_3 2).f4.length dx4 yx4 X5 (rd_T33 l0_3 2).f5.length dx5 yx5)))]) = (b14 :: blksL (rows3 U3 (rd_T33 l0_3 0).f3.length du3 yu3 U4 (rd_T33 l0_3 0).f4.length du4 yu4 U5 (rd_T33 l0_3 0).f5.length du5 yu5)) ++ (b27 :: (blksL (rows3 V3 (rd_T33 l0_3 1).f3.length dv3 yv3 V4 (rd_T33 l0_3 1).f4.length dv4 yv4 V5 (rd_T33 l0_3 1).f5.length dv5 yv5) ++ blksL (rows3 X3 (rd_T33 l0_3 2).f3.length dx3 yx3 X4 (rd_T33 l0_3 2).f4.length dx4 yx4 X5 (rd_T33 l0_3 2).f5.length dx5 yx5))) := by simp [blksL, It.blks, Value.ownBlock, blksL_app, List.append_assoc]
     have hnd_ : (blksL ([.r 33 6 (.slice (some ⟨b14, 0, none⟩) 1 1) 1 (.i (rd_T33 l0_3 0).f0 :: .s (rd_T33 l0_3 0).f1 :: .i (rd_T33 l0_3 0).f2 :: rows3 U3 (rd_T33 l0_3 0).f3.length du3 yu3 U4 (rd_T33 l0_3 0).f4.length du4 yu4 U5 (rd_T33 l0_3 0).f5.length du5 yu5), .r 53 8 (.slice (some ⟨b27, 0, none⟩) 2 2) 2 ((.s (⟨#[84, 114, 117, 101]⟩ : ByteArray) :: .r 9 1 (.slice none 0 0) 0 [] :: (.i (rd_T33 l0_3 1).f0 :: .s (rd_T33 l0_3 1).f1 :: .i (rd_T33 l0_3 1).f2 :: rows3 V3 (rd_T33 l0_3 1).f3.length dv3 yv3 V4 (rd_T33 l0_3 1).f4.length dv4 yv4 V5 (rd_T33 l0_3 1).f5.length dv5 yv5)) ++ (.s (⟨#[70, 97, 108, 115, 101]⟩ : ByteArray) :: .r 9 1 (.slice none 0 0) 0 [] :: (.i (rd_T33 l0_3 2).f0 :: .s (rd_T33 l0_3 2).f1 :: .i (rd_T33 l0_3 2).f2 :: rows3 X3 (rd_T33 l0_3 2).f3.length dx3 yx3 X4 (rd_T33 l0_3 2).f4.length dx4 yx4 X5 (rd_T33 l0_3 2).f5.length dx5 yx5)))])).Nodup := by
      rw [hbl_]
      exact nd5 P0.out.nd P1.out.nd P2.out.nd (fun x hx => by have := P0.out.ge x hx; have := P0.out.lt x hx; have q0_ := S0_.out; have q1_ := S1_.out; have q2_ := S2_.out; have q3_ := S14_.out; have q4_ := S27_.out; have q5_ := L14_.out; have q6_ := L27_.out; have q7_ := E14.out; have q8_ := E27.out; omega) (fun x hx => by have := P0.out.ge x hx; have := P0.out.lt x hx; have q0_ := S0_.out; have q1_ := S1_.out; have q2_ := S2_.out; have q3_ := S14_.out; have q4_ := S27_.out; have q5_ := L14_.out; have q6_ := L27_.out; have q7_ := E14.out; have q8_ := E27.out; omega) (fun x hx => by have := P1.out.ge x hx; have := P1.out.lt x hx; have q0_ := S0_.out; have q1_ := S1_.out; have q2_ := S2_.out; have q3_ := S14_.out; have q4_ := S27_.out; have q5_ := L14_.out; have q6_ := L27_.out; have q7_ := E14.out; have q8_ := E27.out; omega) (fun x hx => by have := P1.out.ge x hx; have := P1.out.lt x hx; have q0_ := S0_.out; have q1_ := S1_.out; have q2_ := S2_.out; have q3_ := S14_.out; have q4_ := S27_.out; have q5_ := L14_.out; have q6_ := L27_.out; have q7_ := E14.out; have q8_ := E27.out; omega) (fun x hx => by have := P2.out.ge x hx; have := P2.out.lt x hx; have q0_ := S0_.out; have q1_ := S1_.out; have q2_ := S2_.out; have q3_ := S14_.out; have q4_ := S27_.out; have q5_ := L14_.out; have q6_ := L27_.out; have q7_ := E14.out; have q8_ := E27.out; omega) (fun x hx => by have := P2.out.ge x hx; have := P2.out.lt x hx; have q0_ := S0_.out; have q1_ := S1_.out; have q2_ := S2_.out; have q3_ := S14_.out; have q4_ := S27_.out; have q5_ := L14_.out; have q6_ := L27_.out; have q7_ := E14.out; have q8_ := E27.out; omega) (by have q0_ := S0_.out; have q1_ := S1_.out; have q2_ := S2_.out; have q3_ := S14_.out; have q4_ := S27_.out; have q5_ := L14_.out; have q6_ := L27_.out; have q7_ := E14.out; have q8_ := E27.out; omega) (fun x hx y hy => by have := P0.out.ge x hx; have := P0.out.lt x hx; have := P1.out.ge y hy; have := P1.out.lt y hy; have q0_ := S0_.out; have q1_ := S1_.out; have q2_ := S2_.out; have q3_ := S14_.out; have q4_ := S27_.out; have q5_ := L14_.out; have q6_ := L27_.out; have q7_ := E14.out; have q8_ := E27.out; omega) (fun x hx y hy => by have := P0.out.ge x hx; have := P0.out.lt x hx; have := P2.out.ge y hy; have := P2.out.lt y hy; have q0_ := S0_.out; have q1_ := S1_.out; have q2_ := S2_.out; have q3_ := S14_.out; have q4_ := S27_.out; have q5_ := L14_.out; have q6_ := L27_.out; have q7_ := E14.out; have q8_ := E27.out; omega) (fun x hx y hy => by have := P1.out.ge x hx; have := P1.out.lt x hx; have := P2.out.ge y hy; have := P2.out.lt y hy; have q0_ := S0_.out; have q1_ := S1_.out; have q2_ := S2_.out; have q3_ := S14_.out; have q4_ := S27_.out; have q5_ := L14_.out; have q6_ := L27_.out; have q7_ := E14.out; have q8_ := E27.out; omega)
     have hge_ : ∀ b ∈ blksL ([.r 33 6 (.slice (some ⟨b14, 0, none⟩) 1 1) 1 (.i (rd_T33 l0_3 0).f0 :: .s (rd_T33 l0_3 0).f1 :: .i (rd_T33 l0_3 0).f2 :: rows3 U3 (rd_T33 l0_3 0).f3.length du3 yu3 U4 (rd_T33 l0_3 0).f4.length du4 yu4 U5 (rd_T33 l0_3 0).f5.length du5 yu5), .r 53 8 (.slice (some ⟨b27, 0, none⟩) 2 2) 2 ((.s (⟨#[84, 114, 117, 101]⟩ : ByteArray) :: .r 9 1 (.slice none 0 0) 0 [] :: (.i (rd_T33 l0_3 1).f0 :: .s (rd_T33 l0_3 1).f1 :: .i (rd_T33 l0_3 1).f2 :: rows3 V3 (rd_T33 l0_3 1).f3.length dv3 yv3 V4 (rd_T33 l0_3 1).f4.length dv4 yv4 V5 (rd_T33 l0_3 1).f5.length dv5 yv5)) ++ (.s (⟨#[70, 97, 108, 115, 101]⟩ : ByteArray) :: .r 9 1 (.slice none 0 0) 0 [] :: (.i (rd_T33 l0_3 2).f0 :: .s (rd_T33 l0_3 2).f1 :: .i (rd_T33 l0_3 2).f2 :: rows3 X3 (rd_T33 l0_3 2).f3.length dx3 yx3 X4 (rd_T33 l0_3 2).f4.length dx4 yx4 X5 (rd_T33 l0_3 2).f5.length dx5 yx5)))]), w.heap.size ≤ b ∧ gb2 < b := by
      intro b hb
      rw [hbl_] at hb
      have l1_ := LB.out
      have q0_ := S0_.out; have q1_ := S1_.out; have q2_ := S2_.out; have q3_ := S14_.out; have q4_ := S27_.out; have q5_ := L14_.out; have q6_ := L27_.out; have q7_ := E14.out; have q8_ := E27.out
      simp only [List.mem_append, List.mem_cons] at hb
      rcases hb with (rfl | hb) | rfl | hb | hb
      · omega
      · have := P0.out.ge b hb; omega
      · omega
      · have := P1.out.ge b hb; omega
      · have := P2.out.ge b hb; omega
     exact norm_ (by simp only [putAll, Act.put, List.setIfInBounds_toArray, List.set_cons_zero, List.set_cons_succ]) (hCont (b14, b27, V3, dv3, yv3, V4, dv4, yv4, V5, dv5, yv5, X3, dx3, yx3, X4, dx4, yx4, X5, dx5, yx5) _ ⟨HB.out, BK1.out, BK2.out, (AtL_app [_] [_]).2 ⟨K14.out, K27.out⟩, hnd_, hge_, R1.out, R2.out⟩)
    ·skip
     refine lit_step (e := 53) (sz := 8) (n := 2) (items := (.s (⟨#[84, 114, 117, 101]⟩ : ByteArray) :: .r 9 1 (.slice none 0 0) 0 [] :: (.i (rd_T33 l0_3 1).f0 :: .s (rd_T33 l0_3 1).f1 :: .i (rd_T33 l0_3 1).f2 :: rows3 V3 (rd_T33 l0_3 1).f3.length dv3 yv3 V4 (rd_T33 l0_3 1).f4.length dv4 yv4 V5 (rd_T33 l0_3 1).f5.length dv5 yv5)) ++ (.s (⟨#[70, 97, 108, 115, 101]⟩ : ByteArray) :: .r 9 1 (.slice none 0 0) 0 [] :: (.i (rd_T33 l0_3 2).f0 :: .s (rd_T33 l0_3 2).f1 :: .i (rd_T33 l0_3 2).f2 :: rows3 X3 (rd_T33 l0_3 2).f3.length dx3 yx3 X4 (rd_T33 l0_3 2).f4.length dx4 yx4 X5 (rd_T33 l0_3 2).f5.length dx5 yx5))) [.string (⟨#[84, 114, 117, 101]⟩ : ByteArray), .slice none 0 0, .int .i64 (rd_T33 l0_3 1).f0, .string (rd_T33 l0_3 1).f1, .int .i64 (rd_T33 l0_3 1).f2, .slice V3 (rd_T33 l0_3 1).f3.length dv3, .slice V4 (rd_T33 l0_3 1).f4.length dv4, .slice V5 (rd_T33 l0_3 1).f5.length dv5, .string (⟨#[70, 97, 108, 115, 101]⟩ : ByteArray), .slice none 0 0, .int .i64 (rd_T33 l0_3 2).f0, .string (rd_T33 l0_3 2).f1, .int .i64 (rd_T33 l0_3 2).f2, .slice X3 (rd_T33 l0_3 2).f3.length dx3, .slice X4 (rd_T33 l0_3 2).f4.length dx4, .slice X5 (rd_T33 l0_3 2).f5.length dx5] (by rfl) (by rfl) ?hr (by rfl) ?ha (by simp) (by omega) ?_
     (case hr => first | (go_simp; done) | (go_simp; rfl))
     (case ha => have q1_ := K1.out; have q2_ := K2.out; have z_ := z_row w110 9 1 (.inl rfl); rw [AtL_app]; simp only [AtL, It.At, true_and] at q1_ q2_ z_ ⊢; exact ⟨⟨z_, q1_⟩, ⟨z_, q2_⟩⟩)
     intro b27 w113 e27 hA hb
     have E27 := Aside0.mk e27
     have S27_ := Aside0.mk (below_size hb)
     have L27_ := Aside0.mk (show b27 < w113.heap.size from (AtL_blk _ hA b27 (by simp [blksL, It.blks, Value.ownBlock])).1)
     have n1_ := Aside0.mk (blk_below BK1.out hb)
     have n2_ := Aside0.mk (blk_below BK2.out hb)
     have n3_ := Aside0.mk (below_step HB.out hb)
     have kK0_ := Aside0.mk (AtL_below K0.out hb)
     have K27 := Aside0.mk hA
     clear hA e27
     clear BK1 BK2 HB hb K0 K1 K2
     have BK1 := n1_
     have BK2 := n2_
     have HB := n3_
     have K0 := kK0_
     clear n1_ n2_ n3_ kK0_
     refine hK.out _ _ ⟨HB.out, BK1.out⟩ (fun hHeld => ?_)
     clear hK K
     refine norm_ (a' := ?_) ?_ ?_
     rotate_left
     ·show Act.put _ (some 27) _ = _
      simp only [Act.put, List.setIfInBounds_toArray, List.set_cons_zero, List.set_cons_succ, i64_w, i32_w]
      rfl
     refine one_ (i := 5) (N := some 14) #[true, true, true, true, true, true, true, true, true, true, true, true, true, true, true, true, true, true, true, false, false, false] rfl rfl (one_of HT_.out (by kernel_rfl)) (by decide) (fun K hK => ?_)
     refine lit_step (e := 33) (sz := 6) (n := 1) (items := .i (rd_T33 l0_3 0).f0 :: .s (rd_T33 l0_3 0).f1 :: .i (rd_T33 l0_3 0).f2 :: rows3 U3 (rd_T33 l0_3 0).f3.length du3 yu3 U4 (rd_T33 l0_3 0).f4.length du4 yu4 U5 (rd_T33 l0_3 0).f5.length du5 yu5) [.int .i64 (rd_T33 l0_3 0).f0, .string (rd_T33 l0_3 0).f1, .int .i64 (rd_T33 l0_3 0).f2, .slice U3 (rd_T33 l0_3 0).f3.length du3, .slice U4 (rd_T33 l0_3 0).f4.length du4, .slice U5 (rd_T33 l0_3 0).f5.length du5] (by rfl) (by rfl) ?hr (by rfl) ?ha (by simp) (by omega) ?_
     (case hr => first | (go_simp; done) | (go_simp; rfl))
     (case ha => have q_ := K0.out; simp only [AtL, It.At, true_and] at q_ ⊢; exact q_)
     intro b14 w114 e14 hA hb
     have E14 := Aside0.mk e14
     have S14_ := Aside0.mk (below_size hb)
     have L14_ := Aside0.mk (show b14 < w114.heap.size from (AtL_blk _ hA b14 (by simp [blksL, It.blks, Value.ownBlock])).1)
     have n1_ := Aside0.mk (blk_below BK1.out hb)
     have n2_ := Aside0.mk (blk_below BK2.out hb)
     have n3_ := Aside0.mk (below_step HB.out hb)
     have kK27_ := Aside0.mk (AtL_below K27.out hb)
     have K14 := Aside0.mk hA
     clear hA e14
     clear BK1 BK2 HB hb K27 K0
     have BK1 := n1_
     have BK2 := n2_
     have HB := n3_
     have K27 := kK27_
     clear n1_ n2_ n3_ kK27_
     refine hK.out _ _ ⟨HB.out, BK1.out⟩ (fun hHeld => ?_)
     clear hK K
     refine norm_ (a' := ?_) ?_ ?_
     rotate_left
     ·show Act.put _ (some 14) _ = _
      simp only [Act.put, List.setIfInBounds_toArray, List.set_cons_zero, List.set_cons_succ, i64_w, i32_w]
      rfl
     have hbl_ : blksL ([.r 33 6 (.slice (some ⟨b14, 0, none⟩) 1 1) 1 (.i (rd_T33 l0_3 0).f0 :: .s (rd_T33 l0_3 0).f1 :: .i (rd_T33 l0_3 0).f2 :: rows3 U3 (rd_T33 l0_3 0).f3.length du3 yu3 U4 (rd_T33 l0_3 0).f4.length du4 yu4 U5 (rd_T33 l0_3 0).f5.length du5 yu5), .r 53 8 (.slice (some ⟨b27, 0, none⟩) 2 2) 2 ((.s (⟨#[84, 114, 117, 101]⟩ : ByteArray) :: .r 9 1 (.slice none 0 0) 0 [] :: (.i (rd_T33 l0_3 1).f0 :: .s (rd_T33 l0_3 1).f1 :: .i (rd_T33 l0_3 1).f2 :: rows3 V3 (rd_T33 l0_3 1).f3.length dv3 yv3 V4 (rd_T33 l0_3 1).f4.length dv4 yv4 V5 (rd_T33 l0_3 1).f5.length dv5 yv5)) ++ (.s (⟨#[70, 97, 108, 115, 101]⟩ : ByteArray) :: .r 9 1 (.slice none 0 0) 0 [] :: (.i (rd_T33 l0_3 2).f0 :: .s (rd_T33 l0_3 2).f1 :: .i (rd_T33 l0_3 2).f2 :: rows3 X3 (rd_T33 l0_3 2).f3.length dx3 yx3 X4 (rd_T33 l0_3 2).f4.length dx4 yx4 X5 (rd_T33 l0_3 2).f5.length dx5 yx5)))]) = (b14 :: blksL (rows3 U3 (rd_T33 l0_3 0).f3.length du3 yu3 U4 (rd_T33 l0_3 0).f4.length du4 yu4 U5 (rd_T33 l0_3 0).f5.length du5 yu5)) ++ (b27 :: (blksL (rows3 V3 (rd_T33 l0_3 1).f3.length dv3 yv3 V4 (rd_T33 l0_3 1).f4.length dv4 yv4 V5 (rd_T33 l0_3 1).f5.length dv5 yv5) ++ blksL (rows3 X3 (rd_T33 l0_3 2).f3.length dx3 yx3 X4 (rd_T33 l0_3 2).f4.length dx4 yx4 X5 (rd_T33 l0_3 2).f5.length dx5 yx5))) := by simp [blksL, It.blks, Value.ownBlock, blksL_app, List.append_assoc]
     have hnd_ : (blksL ([.r 33 6 (.slice (some ⟨b14, 0, none⟩) 1 1) 1 (.i (rd_T33 l0_3 0).f0 :: .s (rd_T33 l0_3 0).f1 :: .i (rd_T33 l0_3 0).f2 :: rows3 U3 (rd_T33 l0_3 0).f3.length du3 yu3 U4 (rd_T33 l0_3 0).f4.length du4 yu4 U5 (rd_T33 l0_3 0).f5.length du5 yu5), .r 53 8 (.slice (some ⟨b27, 0, none⟩) 2 2) 2 ((.s (⟨#[84, 114, 117, 101]⟩ : ByteArray) :: .r 9 1 (.slice none 0 0) 0 [] :: (.i (rd_T33 l0_3 1).f0 :: .s (rd_T33 l0_3 1).f1 :: .i (rd_T33 l0_3 1).f2 :: rows3 V3 (rd_T33 l0_3 1).f3.length dv3 yv3 V4 (rd_T33 l0_3 1).f4.length dv4 yv4 V5 (rd_T33 l0_3 1).f5.length dv5 yv5)) ++ (.s (⟨#[70, 97, 108, 115, 101]⟩ : ByteArray) :: .r 9 1 (.slice none 0 0) 0 [] :: (.i (rd_T33 l0_3 2).f0 :: .s (rd_T33 l0_3 2).f1 :: .i (rd_T33 l0_3 2).f2 :: rows3 X3 (rd_T33 l0_3 2).f3.length dx3 yx3 X4 (rd_T33 l0_3 2).f4.length dx4 yx4 X5 (rd_T33 l0_3 2).f5.length dx5 yx5)))])).Nodup := by
      rw [hbl_]
      exact nd5 P0.out.nd P1.out.nd P2.out.nd (fun x hx => by have := P0.out.ge x hx; have := P0.out.lt x hx; have q0_ := S0_.out; have q1_ := S1_.out; have q2_ := S2_.out; have q3_ := S14_.out; have q4_ := S27_.out; have q5_ := L14_.out; have q6_ := L27_.out; have q7_ := E14.out; have q8_ := E27.out; omega) (fun x hx => by have := P0.out.ge x hx; have := P0.out.lt x hx; have q0_ := S0_.out; have q1_ := S1_.out; have q2_ := S2_.out; have q3_ := S14_.out; have q4_ := S27_.out; have q5_ := L14_.out; have q6_ := L27_.out; have q7_ := E14.out; have q8_ := E27.out; omega) (fun x hx => by have := P1.out.ge x hx; have := P1.out.lt x hx; have q0_ := S0_.out; have q1_ := S1_.out; have q2_ := S2_.out; have q3_ := S14_.out; have q4_ := S27_.out; have q5_ := L14_.out; have q6_ := L27_.out; have q7_ := E14.out; have q8_ := E27.out; omega) (fun x hx => by have := P1.out.ge x hx; have := P1.out.lt x hx; have q0_ := S0_.out; have q1_ := S1_.out; have q2_ := S2_.out; have q3_ := S14_.out; have q4_ := S27_.out; have q5_ := L14_.out; have q6_ := L27_.out; have q7_ := E14.out; have q8_ := E27.out; omega) (fun x hx => by have := P2.out.ge x hx; have := P2.out.lt x hx; have q0_ := S0_.out; have q1_ := S1_.out; have q2_ := S2_.out; have q3_ := S14_.out; have q4_ := S27_.out; have q5_ := L14_.out; have q6_ := L27_.out; have q7_ := E14.out; have q8_ := E27.out; omega) (fun x hx => by have := P2.out.ge x hx; have := P2.out.lt x hx; have q0_ := S0_.out; have q1_ := S1_.out; have q2_ := S2_.out; have q3_ := S14_.out; have q4_ := S27_.out; have q5_ := L14_.out; have q6_ := L27_.out; have q7_ := E14.out; have q8_ := E27.out; omega) (by have q0_ := S0_.out; have q1_ := S1_.out; have q2_ := S2_.out; have q3_ := S14_.out; have q4_ := S27_.out; have q5_ := L14_.out; have q6_ := L27_.out; have q7_ := E14.out; have q8_ := E27.out; omega) (fun x hx y hy => by have := P0.out.ge x hx; have := P0.out.lt x hx; have := P1.out.ge y hy; have := P1.out.lt y hy; have q0_ := S0_.out; have q1_ := S1_.out; have q2_ := S2_.out; have q3_ := S14_.out; have q4_ := S27_.out; have q5_ := L14_.out; have q6_ := L27_.out; have q7_ := E14.out; have q8_ := E27.out; omega) (fun x hx y hy => by have := P0.out.ge x hx; have := P0.out.lt x hx; have := P2.out.ge y hy; have := P2.out.lt y hy; have q0_ := S0_.out; have q1_ := S1_.out; have q2_ := S2_.out; have q3_ := S14_.out; have q4_ := S27_.out; have q5_ := L14_.out; have q6_ := L27_.out; have q7_ := E14.out; have q8_ := E27.out; omega) (fun x hx y hy => by have := P1.out.ge x hx; have := P1.out.lt x hx; have := P2.out.ge y hy; have := P2.out.lt y hy; have q0_ := S0_.out; have q1_ := S1_.out; have q2_ := S2_.out; have q3_ := S14_.out; have q4_ := S27_.out; have q5_ := L14_.out; have q6_ := L27_.out; have q7_ := E14.out; have q8_ := E27.out; omega)
     have hge_ : ∀ b ∈ blksL ([.r 33 6 (.slice (some ⟨b14, 0, none⟩) 1 1) 1 (.i (rd_T33 l0_3 0).f0 :: .s (rd_T33 l0_3 0).f1 :: .i (rd_T33 l0_3 0).f2 :: rows3 U3 (rd_T33 l0_3 0).f3.length du3 yu3 U4 (rd_T33 l0_3 0).f4.length du4 yu4 U5 (rd_T33 l0_3 0).f5.length du5 yu5), .r 53 8 (.slice (some ⟨b27, 0, none⟩) 2 2) 2 ((.s (⟨#[84, 114, 117, 101]⟩ : ByteArray) :: .r 9 1 (.slice none 0 0) 0 [] :: (.i (rd_T33 l0_3 1).f0 :: .s (rd_T33 l0_3 1).f1 :: .i (rd_T33 l0_3 1).f2 :: rows3 V3 (rd_T33 l0_3 1).f3.length dv3 yv3 V4 (rd_T33 l0_3 1).f4.length dv4 yv4 V5 (rd_T33 l0_3 1).f5.length dv5 yv5)) ++ (.s (⟨#[70, 97, 108, 115, 101]⟩ : ByteArray) :: .r 9 1 (.slice none 0 0) 0 [] :: (.i (rd_T33 l0_3 2).f0 :: .s (rd_T33 l0_3 2).f1 :: .i (rd_T33 l0_3 2).f2 :: rows3 X3 (rd_T33 l0_3 2).f3.length dx3 yx3 X4 (rd_T33 l0_3 2).f4.length dx4 yx4 X5 (rd_T33 l0_3 2).f5.length dx5 yx5)))]), w.heap.size ≤ b ∧ gb2 < b := by
      intro b hb
      rw [hbl_] at hb
      have l1_ := LB.out
      have q0_ := S0_.out; have q1_ := S1_.out; have q2_ := S2_.out; have q3_ := S14_.out; have q4_ := S27_.out; have q5_ := L14_.out; have q6_ := L27_.out; have q7_ := E14.out; have q8_ := E27.out
      simp only [List.mem_append, List.mem_cons] at hb
      rcases hb with (rfl | hb) | rfl | hb | hb
      · omega
      · have := P0.out.ge b hb; omega
      · omega
      · have := P1.out.ge b hb; omega
      · have := P2.out.ge b hb; omega
     exact norm_ (by simp only [putAll, Act.put, List.setIfInBounds_toArray, List.set_cons_zero, List.set_cons_succ]) (hCont (b14, b27, V3, dv3, yv3, V4, dv4, yv4, V5, dv5, yv5, X3, dx3, yx3, X4, dx4, yx4, X5, dx5, yx5) _ ⟨HB.out, BK1.out, BK2.out, (AtL_app [_] [_]).2 ⟨K14.out, K27.out⟩, hnd_, hge_, R1.out, R2.out⟩)
 rintro ⟨b14, b27, V3, dv3, yv3, V4, dv4, yv4, V5, dv5, yv5, X3, dx3, yx3, X4, dx4, yx4, X5, dx5, yx5⟩ w34 ⟨h0_, h1_, h2_, h3_, h4_, h5_, h6_, h7_⟩
 clear BK1 BK2 HB K0
 have HB := Aside0.mk h0_
 have BK1 := Aside0.mk h1_
 have BK2 := Aside0.mk h2_
 have KR := Aside0.mk h3_
 have ND := Aside0.mk h4_
 have GE_ := Aside0.mk h5_
 have R1 := Aside0.mk h6_
 have R2 := Aside0.mk h7_
 clear h0_ h1_ h2_ h3_ h4_ h5_ h6_ h7_
 refine norm_ (a' := ?_) ?_ ?_
 rotate_left
 ·simp only [putAll, Act.put, List.setIfInBounds_toArray, List.set_cons_zero, List.set_cons_succ]
  rfl
 refine pure_ (i := 19) (N := some 28) (v := ?_) (a' := ?_) #[true, true, true, true, true, true, true, true, true, true, true, true, true, true, true, true, true, true, true, true, false, false] rfl rfl (any_of HT_.out (by kernel_rfl)) (fun _ _ _ h => h) (Or.inl ⟨by rfl, ?_⟩) ?_ ?_
 rotate_left
 ·intro w'
  go_simp
  with_reducible rfl
 rotate_left
 ·simp only [Act.put, List.setIfInBounds_toArray, List.set_cons_zero, List.set_cons_succ, i64_w, i32_w]
  rfl
 refine last_ (i := 20) (N := none) #[true, true, true, true, true, true, true, true, true, true, true, true, true, true, true, true, true, true, true, true, true, false] rfl rfl (one_of HT_.out (by kernel_rfl)) (by decide) (fun K hK => ?_)
 have hs0 : w34.cell? ⟨gb2, 0, none⟩ = some (.int .i64 0) := (blk_cell BK2.out 0).trans rfl
 have hf0 := blk_frozen BK2.out 0
 have hs1 : w34.cell? ⟨gb2, 1, none⟩ = some (.string (⟨#[]⟩ : ByteArray)) := (blk_cell BK2.out 1).trans rfl
 have hf1 := blk_frozen BK2.out 1
 have hs2 : w34.cell? ⟨gb2, 2, none⟩ = some (.int .i64 0) := (blk_cell BK2.out 2).trans rfl
 have hf2 := blk_frozen BK2.out 2
 have hs3 : w34.cell? ⟨gb2, 3, none⟩ = some (.slice none 0 0) := (blk_cell BK2.out 3).trans rfl
 have hf3 := blk_frozen BK2.out 3
 have hs4 : w34.cell? ⟨gb2, 4, none⟩ = some (.slice none 0 0) := (blk_cell BK2.out 4).trans rfl
 have hf4 := blk_frozen BK2.out 4
 have hs5 : w34.cell? ⟨gb2, 5, none⟩ = some (.slice none 0 0) := (blk_cell BK2.out 5).trans rfl
 have hf5 := blk_frozen BK2.out 5
 refine skip_ (w1 := ?_) (by rfl) rfl ?_ ?_
 rotate_left
 ·go_simp
  rfl
 refine hK.out _ _ ?_
 clear hK K
 refine pure_ (i := 21) (N := some 3) (v := ?_) (a' := ?_) #[true, true, true, true, true, true, true, true, true, true, true, true, true, true, true, true, true, true, true, true, true, true] rfl rfl (any_of HT_.out (by kernel_rfl)) (fun _ _ _ h => h) (Or.inl ⟨by rfl, ?_⟩) ?_ ?_
 rotate_left
 ·intro w'
  go_simp
  with_reducible rfl
 rotate_left
 ·simp only [Act.put, List.setIfInBounds_toArray, List.set_cons_zero, List.set_cons_succ, i64_w, i32_w]
  rfl
 refine done_ (done_of HT_.out (by kernel_rfl)) ?_
 try go_wp2
 refine bodyPost_ret (results_ct rfl _ _ gb2 33 #[.int .i64 7, .string (⟨#[]⟩ : ByteArray), .int .i64 0, .slice (some ⟨b14, 0, none⟩) 1 1, .slice none 0 0, .slice (some ⟨b27, 0, none⟩) 2 2] (0, 0) _ rfl (by (with_reducible repeat (first | refine blk_drewN ?_ _ | refine blk_drew ?_ | refine blk_alloc ?_ _)); exact (put_6_5 (put_6_4 (put_6_3 (put_6_2 (put_6_1 (put_6_0 BK2.out))))))) Try.underlying33 rfl (by kernel_rfl)) rfl ?_
 have hat_ := (AtL_set (g := gb2) (AtL_set (g := gb2) (AtL_set (g := gb2) (AtL_set (g := gb2) (AtL_set (g := gb2) (AtL_set (g := gb2) KR.out (fun b hb => by have := GE_.out b hb; omega) 0 (.int .i64 7)) (fun b hb => by have := GE_.out b hb; omega) 1 (.string (⟨#[]⟩ : ByteArray))) (fun b hb => by have := GE_.out b hb; omega) 2 (.int .i64 0)) (fun b hb => by have := GE_.out b hb; omega) 3 (.slice (some ⟨b14, 0, none⟩) 1 1)) (fun b hb => by have := GE_.out b hb; omega) 4 (.slice none 0 0)) (fun b hb => by have := GE_.out b hb; omega) 5 (.slice (some ⟨b27, 0, none⟩) 2 2))
 exact ⟨some ⟨b14, 0, none⟩, 1, _, none, 0, [], some ⟨b27, 0, none⟩, 2, rfl, ⟨_, by simp only [AtL, and_true] at hat_ ⊢; exact ⟨hat_.1, z_row _ 68 9 (by simp), hat_.2⟩, ⟨by have h_ := ND.out; simp only [blksL, It.blks, Value.ownBlock, Option.toList, List.append_nil, List.nil_append] at h_ ⊢; exact h_, fun b hb => (GE_.out b (by simp only [blksL, It.blks, Value.ownBlock, Option.toList, List.append_nil, List.nil_append] at hb ⊢; exact hb)).1, fun b hb => (AtL_blk _ hat_ b (by simp only [blksL, It.blks, Value.ownBlock, Option.toList, List.append_nil, List.nil_append] at hb ⊢; exact hb)).1⟩, by have h_ := RepEs.cons R0.out .nil; rwa [List.append_nil] at h_, .nil, by have h_ := RepAs.cons (RepA.mk (x := (⟨(⟨#[84, 114, 117, 101]⟩ : ByteArray), [], (rd_T33 l0_3 1)⟩ : S53)) (v1 := .slice none 0 0) R1.out) (RepAs.cons (RepA.mk (x := (⟨(⟨#[70, 97, 108, 115, 101]⟩ : ByteArray), [], (rd_T33 l0_3 2)⟩ : S53)) (v1 := .slice none 0 0) R2.out) .nil); rwa [List.append_nil] at h_⟩, by repeat (first | (with_reducible first | exact HB.out | apply below_alloc | apply pw_below_drewN | apply below_drew1 | refine below_set ?_ GE2.out) | exact HB.out)⟩
end Go.Proofs.Ytpndcfibjjkgcaa.MyItc

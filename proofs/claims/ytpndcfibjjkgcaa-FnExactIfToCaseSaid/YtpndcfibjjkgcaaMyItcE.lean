/- The walk of the function that copies an expression, the induction over the rounds, and the function that asks whether an expression is an if. No condition. -/
import Derived.Test.YtpndcfibjjkgcaaMyItcD
import Derived.Test.YtpndcfibjjkgcaaMyItcM
namespace Go.Proofs.Ytpndcfibjjkgcaa.MyItc
open Go Go.RowKit Go.Proofs.YtpndcfibjjkgcaaW.PrintWords Go.Proofs.YtpndcfibjjkgcaaW.PrintLast Go.Proofs.YtpndcfibjjkgcaaW.PrintMore Go.Proofs.Ytpndcfibjjkgcaa.PIfg Go.Proofs.Ytpndcfibjjkgcaa.MyClone
attribute [local go_sem] max2_int min2_int max_two min_two max_three min_three max_four min_four
set_option linter.unusedVariables false
set_option linter.unusedSimpArgs false
set_option maxHeartbeats 8000000 in
set_option maxRecDepth 100000 in
theorem stepE (k : Nat) (ih_M : ∀ m_, m_ < k → AtM m_) : AtE k := by
 intro a0_0 a0_1 a0_2 A0_3 c0_3 l0_3 A0_4 c0_4 l0_4 A0_5 c0_5 l0_5 w ha h
 cases k with
 | zero => exact absurd h (by simp [uE])
 | succ k =>
 simp only [uE] at h
 have hu33 := Try.underlying33
 have HA := Aside0.mk ha
 have H' := Aside0.mk h
 have HB := Aside0.mk (Below.refl w.heap.size w)
 clear ha h
 go_enter Try.func37, Try.ntmps37
 go_wp2_with (first | ((with_reducible refine gate_dst (N := 1) rfl ?_); refine box_event ?hg (N := 1) ?hd (cs := #[.int .i64 a0_0, .string a0_1, .int .i64 a0_2, .slice A0_3 l0_3.length c0_3, .slice A0_4 l0_4.length c0_4, .slice A0_5 l0_5.length c0_5]) (t := 33) ?hr ?_; (case hd => rfl); (case hg => rfl); (case hr => first | (go_simp; done) | (go_simp; rfl)); intro gb1 hg w3 hbox hb; have hx_ := bel_of (w := w) hb (by repeat (first | (with_reducible first | exact HB.out | apply below_alloc | apply pw_below_drewN | apply below_drew1) | exact HB.out)); have nb_ := Aside0.mk (below_step hx_ hb); have ge_ := Aside0.mk (box_ge hx_ hg); clear HB  ; have HB := nb_; have BK1 := Aside0.mk hbox; have GE1 := ge_; clear nb_ ge_ hx_ hb hbox hg  ) | ((with_reducible refine gate_dst (N := 2) rfl ?_); refine box_event ?hg (N := 2) ?hd (cs := #[.int .i64 0, .string (⟨#[]⟩ : ByteArray), .int .i64 0, .slice none 0 0, .slice none 0 0, .slice none 0 0]) (t := 33) ?hr ?_; (case hd => rfl); (case hg => rfl); (case hr => first | (go_simp; done) | (go_simp; rfl)); intro gb2 hg w4 hbox hb; have hx_ := bel_of (w := w) hb (by repeat (first | (with_reducible first | exact HB.out | apply below_alloc | apply pw_below_drewN | apply below_drew1 | refine below_set ?_ GE1.out) | exact HB.out)); have n1_ := Aside0.mk (blk_below (g := gb1) (by (with_reducible repeat (first | refine blk_drewN ?_ _ | refine blk_drew ?_ | refine blk_alloc ?_ _)); exact BK1.out) hb); have m1_ := Aside0.mk (box_lt (g' := gb1) (by (with_reducible repeat (first | refine blk_drewN ?_ _ | refine blk_drew ?_ | refine blk_alloc ?_ _)); exact BK1.out) hg); have k1_ := Aside0.mk (box_gt (g' := gb1) (by (with_reducible repeat (first | refine blk_drewN ?_ _ | refine blk_drew ?_ | refine blk_alloc ?_ _)); exact BK1.out) hg); have nb_ := Aside0.mk (below_step hx_ hb); have ge_ := Aside0.mk (box_ge hx_ hg); clear HB BK1 ; have BK1 := n1_; have NB1_2 := m1_; have NB2_1 := k1_; have HB := nb_; have BK2 := Aside0.mk hbox; have GE2 := ge_; clear nb_ ge_ hx_ hb hbox hg n1_ m1_ k1_ ; obtain ⟨hc5_0, hc5_1, hc5_2, hc5_3, hc5_4, hc5_5, hf5_0, hf5_1, hf5_2, hf5_3, hf5_4, hf5_5⟩ := cells6 BK1.out; have hnb6 := NB1_2.out; have hnc6 := NB2_1.out) | ((with_reducible refine gate_callee (f := 48) rfl ?_); refine goesL_ (some 4) rfl rfl Try.func48 (by kernel_rfl) rfl #[.agg #[.int .i64 a0_0, .string a0_1, .int .i64 a0_2, .slice A0_3 l0_3.length c0_3, .slice A0_4 l0_4.length c0_4, .slice A0_5 l0_5.length c0_5], CV] rfl (by (try simp only [List.map_toArray, List.map_cons, List.map_nil, List.append_toArray, List.cons_append, List.nil_append]); first | done | rfl) ?_; refine calls_bel (w0 := w) (by repeat (first | (with_reducible first | exact HB.out | apply below_alloc | apply pw_below_drewN | apply below_drew1 | refine below_set ?_ GE1.out | refine below_set ?_ GE2.out) | exact HB.out)) (fun hx_ => ?_); refine (ih_M k (Nat.lt_succ_self k) a0_0 a0_1 a0_2 _ _ l0_3 _ _ l0_4 _ _ l0_5 _ ⟨⟨Kd.C_below HA.out.1.1 hx_, HA.out.1.2⟩, ⟨Kd.C_below HA.out.2.1.1 hx_, HA.out.2.1.2⟩, ⟨Kd.C_below HA.out.2.2.1 hx_, HA.out.2.2.2⟩⟩ H'.out).mono ?_; rintro e w9 ⟨E3, d3, y3, E4, d4, y4, E5, d5, y5, rfl, hc, hb⟩; refine ⟨_, rfl, ?_⟩; have n2_ := Aside0.mk (blk_below (g := gb2) (by (with_reducible repeat (first | refine blk_drewN ?_ _ | refine blk_drew ?_ | refine blk_alloc ?_ _)); exact BK2.out) hb); have g2_ := Aside0.mk (lt_of_blk (g := gb2) (by (with_reducible repeat (first | refine blk_drewN ?_ _ | refine blk_drew ?_ | refine blk_alloc ?_ _)); exact BK2.out) hb); have HC := Aside0.mk hc; have LO := Aside0.mk (below_size hx_); have nb_ := Aside0.mk (below_step hx_ hb); clear HB BK1 BK2 hx_ hb hc; have HB := nb_; have BK2 := n2_; have GL := g2_; clear nb_ n2_ g2_; obtain ⟨hc7_0, hc7_1, hc7_2, hc7_3, hc7_4, hc7_5, hf7_0, hf7_1, hf7_2, hf7_3, hf7_4, hf7_5⟩ := cells6 BK2.out))
 refine bodyPost_ret (results_cell_row rfl _ _ gb2 33 #[.int .i64 a0_0, .string a0_1, .int .i64 a0_2, .slice E3 l0_3.length d3, .slice E4 l0_4.length d4, .slice E5 l0_5.length d5] (0, 0) _ rfl (by (with_reducible repeat (first | refine blk_drewN ?_ _ | refine blk_drew ?_ | refine blk_alloc ?_ _)); exact (put_6_5 (put_6_4 (put_6_3 (put_6_2 (put_6_1 (put_6_0 BK2.out))))))) Try.underlying33 rfl (by kernel_rfl)) rfl ?_
 exact ⟨E3, d3, y3, E4, d4, y4, E5, d5, y5, rfl, ((((((HC.out.set GL.out _ _).set GL.out _ _).set GL.out _ _).set GL.out _ _).set GL.out _ _).set GL.out _ _).low LO.out, by repeat (first | (with_reducible first | exact HB.out | apply below_alloc | apply pw_below_drewN | apply below_drew1 | refine below_set ?_ GE2.out) | exact HB.out)⟩
theorem all (k : Nat) : AtE k ∧ AtM k ∧ AtD k := by
  induction k using Nat.strongRecOn with
  | _ k ih => exact ⟨stepE k (fun m hm => (ih m hm).2.1), stepM k (fun m hm => (ih m hm).1) (fun m hm => (ih m hm).2.2), stepD k (fun m hm => (ih m hm).1) (fun m hm => (ih m hm).2.2)⟩
set_option maxHeartbeats 8000000 in
set_option maxRecDepth 100000 in
theorem isIf_calls (a0_0 : Int) (a0_1 : ByteArray) (a0_2 : Int) (A0_3 : Option Addr) (c0_3 : Nat) (l0_3 : List (S33)) (A0_4 : Option Addr) (c0_4 : Nat) (l0_4 : List (S68)) (A0_5 : Option Addr) (c0_5 : Nat) (l0_5 : List (S53)) (w : World) :
  Calls Try.prog 36 #[.agg #[.int .i64 a0_0, .string a0_1, .int .i64 a0_2, .slice A0_3 l0_3.length c0_3, .slice A0_4 l0_4.length c0_4, .slice A0_5 l0_5.length c0_5]] w fun e w' => e = .returned (.bool (decide (a0_0 = 8 ∧ l0_3.length = 3))) ∧ Below w.heap.size w w' := by
 have hu33 := Try.underlying33
 have HB := Aside0.mk (Below.refl w.heap.size w)
 by_cases c2 : a0_0 = 8
 · have c2b0 : (a0_0 == 8) = true := beq_iff_eq.mpr c2
   have e3 : (((l0_3.length : Int) == 3) : Bool) = decide (a0_0 = 8 ∧ l0_3.length = 3) := by
    rw [Bool.eq_iff_iff, beq_iff_eq, decide_eq_true_iff]
    omega
   clear c2
   rw [← e3]
   clear e3
   go_enter Try.func36, Try.ntmps36
   go_wp2_with (first | ((with_reducible refine gate_dst (N := 1) rfl ?_); (try (refine gate_guard (by rfl) ?_; dsimp only)); refine box_event ?hg (N := 1) ?hd (cs := #[.int .i64 a0_0, .string a0_1, .int .i64 a0_2, .slice A0_3 l0_3.length c0_3, .slice A0_4 l0_4.length c0_4, .slice A0_5 l0_5.length c0_5]) (t := 33) ?hr ?_; (case hd => rfl); (case hg => rfl); (case hr => first | (go_simp; done) | (go_simp; rfl)); intro gb1 hg w3 hbox hb; have hx_ := bel_of (w := w) hb (by repeat (first | (with_reducible first | exact HB.out | apply below_alloc | apply pw_below_drewN | apply below_drew1) | exact HB.out)); have nb_ := Aside0.mk (below_step hx_ hb); have ge_ := Aside0.mk (box_ge hx_ hg); clear HB  ; have HB := nb_; have BK1 := Aside0.mk hbox; have GE1 := ge_; clear nb_ ge_ hx_ hb hbox hg  ; obtain ⟨hc5_0, hc5_1, hc5_2, hc5_3, hc5_4, hc5_5, hf5_0, hf5_1, hf5_2, hf5_3, hf5_4, hf5_5⟩ := cells6 BK1.out))
   go_ret
   exact ⟨by first | rfl | (simp; done) | (simp [*]; done), by repeat (first | (with_reducible first | exact HB.out | apply below_alloc | apply pw_below_drewN | apply below_drew1 | refine below_set ?_ GE1.out) | exact HB.out)⟩
 · have c2b0 : (a0_0 == 8) = false := beq_eq_false_iff_ne.mpr c2
   have e3 : decide (a0_0 = 8 ∧ l0_3.length = 3) = false := by simp [c2]
   clear c2
   rw [e3]
   clear e3
   go_enter Try.func36, Try.ntmps36
   go_wp2_with (first | ((with_reducible refine gate_dst (N := 1) rfl ?_); (try (refine gate_guard (by rfl) ?_; dsimp only)); refine box_event ?hg (N := 1) ?hd (cs := #[.int .i64 a0_0, .string a0_1, .int .i64 a0_2, .slice A0_3 l0_3.length c0_3, .slice A0_4 l0_4.length c0_4, .slice A0_5 l0_5.length c0_5]) (t := 33) ?hr ?_; (case hd => rfl); (case hg => rfl); (case hr => first | (go_simp; done) | (go_simp; rfl)); intro gb1 hg w3 hbox hb; have hx_ := bel_of (w := w) hb (by repeat (first | (with_reducible first | exact HB.out | apply below_alloc | apply pw_below_drewN | apply below_drew1) | exact HB.out)); have nb_ := Aside0.mk (below_step hx_ hb); have ge_ := Aside0.mk (box_ge hx_ hg); clear HB  ; have HB := nb_; have BK1 := Aside0.mk hbox; have GE1 := ge_; clear nb_ ge_ hx_ hb hbox hg  ; obtain ⟨hc5_0, hc5_1, hc5_2, hc5_3, hc5_4, hc5_5, hf5_0, hf5_1, hf5_2, hf5_3, hf5_4, hf5_5⟩ := cells6 BK1.out))
   go_ret
   exact ⟨by first | rfl | (simp; done) | (simp [*]; done), by repeat (first | (with_reducible first | exact HB.out | apply below_alloc | apply pw_below_drewN | apply below_drew1 | refine below_set ?_ GE1.out) | exact HB.out)⟩
end Go.Proofs.Ytpndcfibjjkgcaa.MyItc

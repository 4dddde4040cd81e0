/- The walks of the function that counts, of the two literals and of the function that is asked; and the induction over the rounds. No condition. -/
import Derived.Test.YtpndcfibjjkgcaaMyCntD
import Derived.Test.YtpndcfibjjkgcaaMyCntM
namespace Go.Proofs.Ytpndcfibjjkgcaa.MyCnt
open Go.RowKit Go.Proofs.YtpndcfibjjkgcaaW.PrintWords Go.Proofs.YtpndcfibjjkgcaaW.PrintLast Go.Proofs.YtpndcfibjjkgcaaW.PrintMore Go.Proofs.Ytpndcfibjjkgcaa.PIfg Go.Proofs.Ytpndcfibjjkgcaa.MyClone
attribute [local go_sem] max2_int min2_int max_two min_two max_three min_three max_four min_four
set_option linter.unusedVariables false
set_option linter.unusedSimpArgs false
set_option maxHeartbeats 8000000 in
set_option maxRecDepth 100000 in
theorem lit1_calls (a0_0 : Int) (a0_1 : ByteArray) (a0_2 : Int) (A0_3 : Option Addr) (c0_3 : Nat) (l0_3 : List (S33)) (A0_4 : Option Addr) (c0_4 : Nat) (l0_4 : List (S68)) (A0_5 : Option Addr) (c0_5 : Nat) (l0_5 : List (S53)) (r : Bool) (w : World) (h : (a0_0 == 8) = r) :
  Calls Try.prog 34 #[.agg #[.int .i64 a0_0, .string a0_1, .int .i64 a0_2, .slice A0_3 l0_3.length c0_3, .slice A0_4 l0_4.length c0_4, .slice A0_5 l0_5.length c0_5]] w fun e w' => e = .returned (.bool r) ∧ Below w.heap.size w w' := by
 subst h
 have hu33 := Try.underlying33
 have HB := Aside0.mk (Below.refl w.heap.size w)
 go_enter Try.func34, Try.ntmps34
 go_wp2_with (first | ((with_reducible refine gate_dst (N := 1) rfl ?_); refine box_event ?hg (N := 1) ?hd (cs := #[.int .i64 a0_0, .string a0_1, .int .i64 a0_2, .slice A0_3 l0_3.length c0_3, .slice A0_4 l0_4.length c0_4, .slice A0_5 l0_5.length c0_5]) (t := 33) ?hr ?_; (case hd => rfl); (case hg => rfl); (case hr => first | (go_simp; done) | (go_simp; rfl)); intro gb1 hg w2 hbox hb; have hx_ := bel_of (w := w) hb (by repeat (first | (with_reducible first | exact HB.out | apply below_alloc | apply pw_below_drewN | apply below_drew1) | exact HB.out)); have nb_ := Aside0.mk (below_step hx_ hb); have ge_ := Aside0.mk (box_ge hx_ hg); clear HB ; have HB := nb_; have BK1 := Aside0.mk hbox; have GE1 := ge_; clear nb_ ge_ hx_ hb hbox hg ; obtain ⟨hc3_0, hc3_1, hc3_2, hc3_3, hc3_4, hc3_5, hf3_0, hf3_1, hf3_2, hf3_3, hf3_4, hf3_5⟩ := cells6 BK1.out))
 go_ret
 exact ⟨by first | rfl | (simp; done) | (simp [*]; done), by repeat (first | (with_reducible first | exact HB.out | apply below_alloc | apply pw_below_drewN | apply below_drew1 | refine below_set ?_ GE1.out) | exact HB.out)⟩
set_option maxHeartbeats 8000000 in
set_option maxRecDepth 100000 in
theorem stepE (k : Nat) (ih_M : ∀ m_, m_ < k → AtM m_) : AtE k := by
 intro a0_0 a0_1 a0_2 A0_3 c0_3 l0_3 A0_4 c0_4 l0_4 A0_5 c0_5 l0_5 r w hr0_3 hc0_3 hr0_4 hc0_4 hr0_5 hc0_5 h
 cases k with
 | zero => exact absurd h (by simp [cE])
 | succ k =>
 simp only [cE] at h
 have hu33 := Try.underlying33
 have HR0_3 := Aside0.mk hr0_3
 have HC0_3 := Aside0.mk hc0_3
 have HR0_4 := Aside0.mk hr0_4
 have HC0_4 := Aside0.mk hc0_4
 have HR0_5 := Aside0.mk hr0_5
 have HC0_5 := Aside0.mk hc0_5
 clear hr0_3 hc0_3 hr0_4 hc0_4 hr0_5 hc0_5
 have HB := Aside0.mk (Below.refl w.heap.size w)
 by_cases c2 : a0_0 = 8
 · rw [if_pos c2] at h
   have c2b0 : (a0_0 == 8) = true := beq_iff_eq.mpr c2
   clear c2
   have H' := Aside0.mk h
   clear h
   go_enter Try.func33, Try.ntmps33
   go_wp2_with (first | ((with_reducible refine gate_dst (N := 2) rfl ?_); refine box_event ?hg (N := 2) ?hd (cs := #[.int .i64 a0_0, .string a0_1, .int .i64 a0_2, .slice A0_3 l0_3.length c0_3, .slice A0_4 l0_4.length c0_4, .slice A0_5 l0_5.length c0_5]) (t := 33) ?hr ?_; (case hd => rfl); (case hg => rfl); (case hr => first | (go_simp; done) | (go_simp; rfl)); intro gb2 hg w3 hbox hb; have hx_ := bel_of (w := w) hb (by repeat (first | (with_reducible first | exact HB.out | apply below_alloc | apply pw_below_drewN | apply below_drew1) | exact HB.out)); have nb_ := Aside0.mk (below_step hx_ hb); have ge_ := Aside0.mk (box_ge hx_ hg); clear HB ; have HB := nb_; have BK2 := Aside0.mk hbox; have GE2 := ge_; clear nb_ ge_ hx_ hb hbox hg ) | ((with_reducible refine gate_dst (N := 3) rfl ?_); refine box_event ?hg (N := 3) ?hd (cs := #[.func (.func 34) #[] #[]]) (t := 28) ?hr ?_; (case hd => rfl); (case hg => rfl); (case hr => first | (go_simp; done) | (go_simp; rfl)); intro gb3 hg w4 hbox hb; have hx_ := bel_of (w := w) hb (by repeat (first | (with_reducible first | exact HB.out | apply below_alloc | apply pw_below_drewN | apply below_drew1 | refine below_set ?_ GE2.out) | exact HB.out)); have n2_ := Aside0.mk (blk_below (g := gb2) (by (with_reducible repeat (first | refine blk_drewN ?_ _ | refine blk_drew ?_ | refine blk_alloc ?_ _)); exact BK2.out) hb); have m2_ := Aside0.mk (box_lt (g' := gb2) (by (with_reducible repeat (first | refine blk_drewN ?_ _ | refine blk_drew ?_ | refine blk_alloc ?_ _)); exact BK2.out) hg); have k2_ := Aside0.mk (box_gt (g' := gb2) (by (with_reducible repeat (first | refine blk_drewN ?_ _ | refine blk_drew ?_ | refine blk_alloc ?_ _)); exact BK2.out) hg); have nb_ := Aside0.mk (below_step hx_ hb); have ge_ := Aside0.mk (box_ge hx_ hg); clear HB BK2; have BK2 := n2_; have NB2_3 := m2_; have NB3_2 := k2_; have HB := nb_; have BK3 := Aside0.mk hbox; have GE3 := ge_; clear nb_ ge_ hx_ hb hbox hg n2_ m2_ k2_) | ((with_reducible refine gate_dst (N := 5) rfl ?_); refine box_event ?hg (N := 5) ?hd (cs := #[.int .i64 0]) (t := 3) ?hr ?_; (case hd => rfl); (case hg => rfl); (case hr => first | (go_simp; done) | (go_simp; rfl)); intro gb5 hg w5 hbox hb; have hx_ := bel_of (w := w) hb (by repeat (first | (with_reducible first | exact HB.out | apply below_alloc | apply pw_below_drewN | apply below_drew1 | refine below_set ?_ GE2.out | refine below_set ?_ GE3.out) | exact HB.out)); have n2_ := Aside0.mk (blk_below (g := gb2) (by (with_reducible repeat (first | refine blk_drewN ?_ _ | refine blk_drew ?_ | refine blk_alloc ?_ _)); exact BK2.out) hb); have n3_ := Aside0.mk (blk_below (g := gb3) (by (with_reducible repeat (first | refine blk_drewN ?_ _ | refine blk_drew ?_ | refine blk_alloc ?_ _)); exact BK3.out) hb); have m2_ := Aside0.mk (box_lt (g' := gb2) (by (with_reducible repeat (first | refine blk_drewN ?_ _ | refine blk_drew ?_ | refine blk_alloc ?_ _)); exact BK2.out) hg); have m3_ := Aside0.mk (box_lt (g' := gb3) (by (with_reducible repeat (first | refine blk_drewN ?_ _ | refine blk_drew ?_ | refine blk_alloc ?_ _)); exact BK3.out) hg); have k2_ := Aside0.mk (box_gt (g' := gb2) (by (with_reducible repeat (first | refine blk_drewN ?_ _ | refine blk_drew ?_ | refine blk_alloc ?_ _)); exact BK2.out) hg); have k3_ := Aside0.mk (box_gt (g' := gb3) (by (with_reducible repeat (first | refine blk_drewN ?_ _ | refine blk_drew ?_ | refine blk_alloc ?_ _)); exact BK3.out) hg); have nb_ := Aside0.mk (below_step hx_ hb); have ge_ := Aside0.mk (box_ge hx_ hg); clear HB BK2 BK3; have BK2 := n2_; have BK3 := n3_; have NB2_5 := m2_; have NB3_5 := m3_; have NB5_2 := k2_; have NB5_3 := k3_; have HB := nb_; have BK5 := Aside0.mk hbox; have GE5 := ge_; clear nb_ ge_ hx_ hb hbox hg n2_ m2_ k2_ n3_ m3_ k3_; obtain ⟨hc6_0, hc6_1, hc6_2, hc6_3, hc6_4, hc6_5, hf6_0, hf6_1, hf6_2, hf6_3, hf6_4, hf6_5⟩ := cells6 BK2.out; have hc7_0 := (blk_cell BK3.out 0).trans rfl; have hf7_0 := blk_frozen BK3.out 0; have hc8_0 := (blk_cell BK5.out 0).trans rfl; have hf8_0 := blk_frozen BK5.out 0; have hnb9 := NB2_5.out; have hnc9 := NB5_2.out; have hnb10 := NB3_5.out; have hnc10 := NB5_3.out; have hnb11 := NB2_3.out; have hnc11 := NB3_2.out) | ((with_reducible refine gate_dst (N := 8) rfl ?_); (with_reducible refine gate_fn (t := 6) rfl ?_); refine goesF_ (some 8) rfl rfl Try.func34 (by kernel_rfl) rfl #[.agg #[.int .i64 a0_0, .string a0_1, .int .i64 a0_2, .slice A0_3 l0_3.length c0_3, .slice A0_4 l0_4.length c0_4, .slice A0_5 l0_5.length c0_5]] rfl rfl (by (try simp only [List.map_toArray, List.map_cons, List.map_nil, List.append_toArray, List.cons_append, List.nil_append]); first | done | rfl) ?_; refine calls_bel (w0 := w) (by repeat (first | (with_reducible first | exact HB.out | apply below_alloc | apply pw_below_drewN | apply below_drew1 | refine below_set ?_ GE2.out | refine below_set ?_ GE3.out | refine below_set ?_ GE5.out) | exact HB.out)) (fun hx_ => ?_); refine (lit1_calls _ _ _ _ _ _ _ _ _ _ _ _ true _ c2b0).mono ?_; rintro e w8 ⟨rfl, hb⟩; refine ⟨_, rfl, ?_⟩; have n2_ := Aside0.mk (blk_below (g := gb2) (by (with_reducible repeat (first | refine blk_drewN ?_ _ | refine blk_drew ?_ | refine blk_alloc ?_ _)); first | exact BK2.out | exact blk_far BK2.out NB2_5.out _) hb); have n3_ := Aside0.mk (blk_below (g := gb3) (by (with_reducible repeat (first | refine blk_drewN ?_ _ | refine blk_drew ?_ | refine blk_alloc ?_ _)); first | exact BK3.out | exact blk_far BK3.out NB3_5.out _) hb); have n5_ := Aside0.mk (blk_below (g := gb5) (o := .cells #[.int .i64 0] 3 (0, 0)) (by (with_reducible repeat (first | refine blk_drewN ?_ _ | refine blk_drew ?_ | refine blk_alloc ?_ _)); first | exact BK5.out | exact blk_put BK5.out 0 _ rfl) hb); have nb_ := Aside0.mk (below_step hx_ hb); clear HB BK2 BK3 BK5 hx_ hb; have HB := nb_; have BK2 := n2_; have BK3 := n3_; have BK5 := n5_; clear nb_ n2_ n3_ n5_; obtain ⟨hc12_0, hc12_1, hc12_2, hc12_3, hc12_4, hc12_5, hf12_0, hf12_1, hf12_2, hf12_3, hf12_4, hf12_5⟩ := cells6 BK2.out; have hc13_0 := (blk_cell BK3.out 0).trans rfl; have hf13_0 := blk_frozen BK3.out 0; have hc14_0 := (blk_cell BK5.out 0).trans rfl; have hf14_0 := blk_frozen BK5.out 0) | ((with_reducible refine gate_callee (f := 48) rfl ?_); refine goesL_ (some 11) rfl rfl Try.func48 (by kernel_rfl) rfl #[.agg #[.int .i64 a0_0, .string a0_1, .int .i64 a0_2, .slice A0_3 l0_3.length c0_3, .slice A0_4 l0_4.length c0_4, .slice A0_5 l0_5.length c0_5], FV gb5 gb3] rfl (by (try simp only [List.map_toArray, List.map_cons, List.map_nil, List.append_toArray, List.cons_append, List.nil_append]); first | done | rfl) ?_; refine calls_bel (w0 := w) (by repeat (first | (with_reducible first | exact HB.out | apply below_alloc | apply pw_below_drewN | apply below_drew1 | refine below_set ?_ GE2.out | refine below_set ?_ GE3.out | refine below_set ?_ GE5.out) | exact HB.out)) (fun hx_ => ?_); refine (ih_M k (Nat.lt_succ_self k) a0_0 a0_1 a0_2 _ _ l0_3 _ _ l0_4 _ _ l0_5 1 r w _ gb5 gb3 ⟨hx_, GE5.out, GE3.out, NB3_5.out, (by (with_reducible repeat (first | refine blk_drewN ?_ _ | refine blk_drew ?_ | refine blk_alloc ?_ _)); first | exact BK5.out | exact blk_put BK5.out 0 _ rfl), (by (with_reducible repeat (first | refine blk_drewN ?_ _ | refine blk_drew ?_ | refine blk_alloc ?_ _)); first | exact BK3.out | exact blk_far BK3.out NB3_5.out _), rfl, fun _ _ => rfl⟩ HR0_3.out HC0_3.out HR0_4.out HC0_4.out HR0_5.out HC0_5.out H'.out).mono ?_; rintro e w9 ⟨v9, w2, rfl, h2, hb⟩; refine ⟨_, rfl, ?_⟩; have nb_ := Aside0.mk (h2.under hb); have n5_ := Aside0.mk ((hb.block gb5 (blk_lt h2.hg)).trans h2.hg); clear HB BK2 BK3 BK5 hx_ hb h2 w2; have HB := nb_; have BK5 := n5_; clear nb_ n5_; have hc15_0 := (blk_cell BK5.out 0).trans rfl; have hf15_0 := blk_frozen BK5.out 0))
   go_ret
   exact ⟨by first | rfl | (simp; done) | (simp [*]; done), by repeat (first | (with_reducible first | exact HB.out | apply below_alloc | apply pw_below_drewN | apply below_drew1 | refine below_set ?_ GE2.out | refine below_set ?_ GE3.out | refine below_set ?_ GE5.out) | exact HB.out)⟩
 · rw [if_neg c2] at h
   have c2b0 : (a0_0 == 8) = false := beq_eq_false_iff_ne.mpr c2
   clear c2
   have H' := Aside0.mk h
   clear h
   go_enter Try.func33, Try.ntmps33
   go_wp2_with (first | ((with_reducible refine gate_dst (N := 2) rfl ?_); refine box_event ?hg (N := 2) ?hd (cs := #[.int .i64 a0_0, .string a0_1, .int .i64 a0_2, .slice A0_3 l0_3.length c0_3, .slice A0_4 l0_4.length c0_4, .slice A0_5 l0_5.length c0_5]) (t := 33) ?hr ?_; (case hd => rfl); (case hg => rfl); (case hr => first | (go_simp; done) | (go_simp; rfl)); intro gb2 hg w3 hbox hb; have hx_ := bel_of (w := w) hb (by repeat (first | (with_reducible first | exact HB.out | apply below_alloc | apply pw_below_drewN | apply below_drew1) | exact HB.out)); have nb_ := Aside0.mk (below_step hx_ hb); have ge_ := Aside0.mk (box_ge hx_ hg); clear HB ; have HB := nb_; have BK2 := Aside0.mk hbox; have GE2 := ge_; clear nb_ ge_ hx_ hb hbox hg ) | ((with_reducible refine gate_dst (N := 3) rfl ?_); refine box_event ?hg (N := 3) ?hd (cs := #[.func (.func 34) #[] #[]]) (t := 28) ?hr ?_; (case hd => rfl); (case hg => rfl); (case hr => first | (go_simp; done) | (go_simp; rfl)); intro gb3 hg w4 hbox hb; have hx_ := bel_of (w := w) hb (by repeat (first | (with_reducible first | exact HB.out | apply below_alloc | apply pw_below_drewN | apply below_drew1 | refine below_set ?_ GE2.out) | exact HB.out)); have n2_ := Aside0.mk (blk_below (g := gb2) (by (with_reducible repeat (first | refine blk_drewN ?_ _ | refine blk_drew ?_ | refine blk_alloc ?_ _)); exact BK2.out) hb); have m2_ := Aside0.mk (box_lt (g' := gb2) (by (with_reducible repeat (first | refine blk_drewN ?_ _ | refine blk_drew ?_ | refine blk_alloc ?_ _)); exact BK2.out) hg); have k2_ := Aside0.mk (box_gt (g' := gb2) (by (with_reducible repeat (first | refine blk_drewN ?_ _ | refine blk_drew ?_ | refine blk_alloc ?_ _)); exact BK2.out) hg); have nb_ := Aside0.mk (below_step hx_ hb); have ge_ := Aside0.mk (box_ge hx_ hg); clear HB BK2; have BK2 := n2_; have NB2_3 := m2_; have NB3_2 := k2_; have HB := nb_; have BK3 := Aside0.mk hbox; have GE3 := ge_; clear nb_ ge_ hx_ hb hbox hg n2_ m2_ k2_) | ((with_reducible refine gate_dst (N := 5) rfl ?_); refine box_event ?hg (N := 5) ?hd (cs := #[.int .i64 0]) (t := 3) ?hr ?_; (case hd => rfl); (case hg => rfl); (case hr => first | (go_simp; done) | (go_simp; rfl)); intro gb5 hg w5 hbox hb; have hx_ := bel_of (w := w) hb (by repeat (first | (with_reducible first | exact HB.out | apply below_alloc | apply pw_below_drewN | apply below_drew1 | refine below_set ?_ GE2.out | refine below_set ?_ GE3.out) | exact HB.out)); have n2_ := Aside0.mk (blk_below (g := gb2) (by (with_reducible repeat (first | refine blk_drewN ?_ _ | refine blk_drew ?_ | refine blk_alloc ?_ _)); exact BK2.out) hb); have n3_ := Aside0.mk (blk_below (g := gb3) (by (with_reducible repeat (first | refine blk_drewN ?_ _ | refine blk_drew ?_ | refine blk_alloc ?_ _)); exact BK3.out) hb); have m2_ := Aside0.mk (box_lt (g' := gb2) (by (with_reducible repeat (first | refine blk_drewN ?_ _ | refine blk_drew ?_ | refine blk_alloc ?_ _)); exact BK2.out) hg); have m3_ := Aside0.mk (box_lt (g' := gb3) (by (with_reducible repeat (first | refine blk_drewN ?_ _ | refine blk_drew ?_ | refine blk_alloc ?_ _)); exact BK3.out) hg); have k2_ := Aside0.mk (box_gt (g' := gb2) (by (with_reducible repeat (first | refine blk_drewN ?_ _ | refine blk_drew ?_ | refine blk_alloc ?_ _)); exact BK2.out) hg); have k3_ := Aside0.mk (box_gt (g' := gb3) (by (with_reducible repeat (first | refine blk_drewN ?_ _ | refine blk_drew ?_ | refine blk_alloc ?_ _)); exact BK3.out) hg); have nb_ := Aside0.mk (below_step hx_ hb); have ge_ := Aside0.mk (box_ge hx_ hg); clear HB BK2 BK3; have BK2 := n2_; have BK3 := n3_; have NB2_5 := m2_; have NB3_5 := m3_; have NB5_2 := k2_; have NB5_3 := k3_; have HB := nb_; have BK5 := Aside0.mk hbox; have GE5 := ge_; clear nb_ ge_ hx_ hb hbox hg n2_ m2_ k2_ n3_ m3_ k3_; obtain ⟨hc6_0, hc6_1, hc6_2, hc6_3, hc6_4, hc6_5, hf6_0, hf6_1, hf6_2, hf6_3, hf6_4, hf6_5⟩ := cells6 BK2.out; have hc7_0 := (blk_cell BK3.out 0).trans rfl; have hf7_0 := blk_frozen BK3.out 0; have hc8_0 := (blk_cell BK5.out 0).trans rfl; have hf8_0 := blk_frozen BK5.out 0; have hnb9 := NB2_5.out; have hnc9 := NB5_2.out; have hnb10 := NB3_5.out; have hnc10 := NB5_3.out; have hnb11 := NB2_3.out; have hnc11 := NB3_2.out) | ((with_reducible refine gate_dst (N := 8) rfl ?_); (with_reducible refine gate_fn (t := 6) rfl ?_); refine goesF_ (some 8) rfl rfl Try.func34 (by kernel_rfl) rfl #[.agg #[.int .i64 a0_0, .string a0_1, .int .i64 a0_2, .slice A0_3 l0_3.length c0_3, .slice A0_4 l0_4.length c0_4, .slice A0_5 l0_5.length c0_5]] rfl rfl (by (try simp only [List.map_toArray, List.map_cons, List.map_nil, List.append_toArray, List.cons_append, List.nil_append]); first | done | rfl) ?_; refine calls_bel (w0 := w) (by repeat (first | (with_reducible first | exact HB.out | apply below_alloc | apply pw_below_drewN | apply below_drew1 | refine below_set ?_ GE2.out | refine below_set ?_ GE3.out | refine below_set ?_ GE5.out) | exact HB.out)) (fun hx_ => ?_); refine (lit1_calls _ _ _ _ _ _ _ _ _ _ _ _ false _ c2b0).mono ?_; rintro e w8 ⟨rfl, hb⟩; refine ⟨_, rfl, ?_⟩; have n2_ := Aside0.mk (blk_below (g := gb2) (by (with_reducible repeat (first | refine blk_drewN ?_ _ | refine blk_drew ?_ | refine blk_alloc ?_ _)); first | exact BK2.out | exact blk_far BK2.out NB2_5.out _) hb); have n3_ := Aside0.mk (blk_below (g := gb3) (by (with_reducible repeat (first | refine blk_drewN ?_ _ | refine blk_drew ?_ | refine blk_alloc ?_ _)); first | exact BK3.out | exact blk_far BK3.out NB3_5.out _) hb); have n5_ := Aside0.mk (blk_below (g := gb5) (o := .cells #[.int .i64 0] 3 (0, 0)) (by (with_reducible repeat (first | refine blk_drewN ?_ _ | refine blk_drew ?_ | refine blk_alloc ?_ _)); first | exact BK5.out | exact blk_put BK5.out 0 _ rfl) hb); have nb_ := Aside0.mk (below_step hx_ hb); clear HB BK2 BK3 BK5 hx_ hb; have HB := nb_; have BK2 := n2_; have BK3 := n3_; have BK5 := n5_; clear nb_ n2_ n3_ n5_; obtain ⟨hc12_0, hc12_1, hc12_2, hc12_3, hc12_4, hc12_5, hf12_0, hf12_1, hf12_2, hf12_3, hf12_4, hf12_5⟩ := cells6 BK2.out; have hc13_0 := (blk_cell BK3.out 0).trans rfl; have hf13_0 := blk_frozen BK3.out 0; have hc14_0 := (blk_cell BK5.out 0).trans rfl; have hf14_0 := blk_frozen BK5.out 0) | ((with_reducible refine gate_callee (f := 48) rfl ?_); refine goesL_ (some 11) rfl rfl Try.func48 (by kernel_rfl) rfl #[.agg #[.int .i64 a0_0, .string a0_1, .int .i64 a0_2, .slice A0_3 l0_3.length c0_3, .slice A0_4 l0_4.length c0_4, .slice A0_5 l0_5.length c0_5], FV gb5 gb3] rfl (by (try simp only [List.map_toArray, List.map_cons, List.map_nil, List.append_toArray, List.cons_append, List.nil_append]); first | done | rfl) ?_; refine calls_bel (w0 := w) (by repeat (first | (with_reducible first | exact HB.out | apply below_alloc | apply pw_below_drewN | apply below_drew1 | refine below_set ?_ GE2.out | refine below_set ?_ GE3.out | refine below_set ?_ GE5.out) | exact HB.out)) (fun hx_ => ?_); refine (ih_M k (Nat.lt_succ_self k) a0_0 a0_1 a0_2 _ _ l0_3 _ _ l0_4 _ _ l0_5 0 r w _ gb5 gb3 ⟨hx_, GE5.out, GE3.out, NB3_5.out, (by (with_reducible repeat (first | refine blk_drewN ?_ _ | refine blk_drew ?_ | refine blk_alloc ?_ _)); first | exact BK5.out | exact blk_put BK5.out 0 _ rfl), (by (with_reducible repeat (first | refine blk_drewN ?_ _ | refine blk_drew ?_ | refine blk_alloc ?_ _)); first | exact BK3.out | exact blk_far BK3.out NB3_5.out _), rfl, fun _ _ => rfl⟩ HR0_3.out HC0_3.out HR0_4.out HC0_4.out HR0_5.out HC0_5.out H'.out).mono ?_; rintro e w9 ⟨v9, w2, rfl, h2, hb⟩; refine ⟨_, rfl, ?_⟩; have nb_ := Aside0.mk (h2.under hb); have n5_ := Aside0.mk ((hb.block gb5 (blk_lt h2.hg)).trans h2.hg); clear HB BK2 BK3 BK5 hx_ hb h2 w2; have HB := nb_; have BK5 := n5_; clear nb_ n5_; have hc15_0 := (blk_cell BK5.out 0).trans rfl; have hf15_0 := blk_frozen BK5.out 0))
   go_ret
   exact ⟨by first | rfl | (simp; done) | (simp [*]; done), by repeat (first | (with_reducible first | exact HB.out | apply below_alloc | apply pw_below_drewN | apply below_drew1 | refine below_set ?_ GE2.out | refine below_set ?_ GE3.out | refine below_set ?_ GE5.out) | exact HB.out)⟩
def L_T1 : Bool × List (List Nat × List Nat) := (true, [([], []), ([], []), ([], []), ([1, 2], [1, 2]), ([0, 3], [0, 3]), ([4, 3, 0, 1, 2, 3, 4], [4])])
def L_B1 : List Nat := [0, 0, 0, 6, 15, 31]
theorem L_tab1 : rtab .any (opsOf Try.f55 1) = L_T1 := by kernel_rfl
theorem L_bits1 : waitsOk L_T1.2 L_B1 = true := by kernel_rfl
set_option maxHeartbeats 8000000 in
set_option maxRecDepth 100000 in
theorem stepL (k : Nat) (ih_E : ∀ m_, m_ < k → AtE m_) : AtL k := by
 intro a0_0 a0_1 a0_2 A0_3 c0_3 l0_3 A0_4 c0_4 l0_4 A0_5 c0_5 l0_5 n r w0 wS g p hw hr0_3 hc0_3 hr0_4 hc0_4 hr0_5 hc0_5 h
 cases k with
 | zero => exact absurd h (by simp [cL])
 | succ k =>
 simp only [cL] at h
 have hu33 := Try.underlying33
 have HR0_3 := Aside0.mk hr0_3
 have HC0_3 := Aside0.mk hc0_3
 have HR0_4 := Aside0.mk hr0_4
 have HC0_4 := Aside0.mk hc0_4
 have HR0_5 := Aside0.mk hr0_5
 have HC0_5 := Aside0.mk hc0_5
 clear hr0_3 hc0_3 hr0_4 hc0_4 hr0_5 hc0_5
 obtain ⟨m, h1, h⟩ := Option.bind_eq_some_iff.mp h
 have A1 := Aside0.mk h1
 clear h1
 obtain rfl := Option.some.inj h
 clear h
 obtain ⟨w, HWa_, HBa_⟩ : ∃ w : World, Cnt w0 wS w g p n ∧ Below w.heap.size w wS := ⟨wS, hw, Below.refl _ _⟩
 have HW := Aside0.mk HWa_
 have HB := Aside0.mk HBa_
 clear HWa_ HBa_ hw
 go_enter Try.func55, Try.ntmps55
 try go_wp2_with (first | ((with_reducible refine gate_dst (N := 3) rfl ?_); refine box_event ?hg (N := 3) ?hd (cs := #[.int .i64 a0_0, .string a0_1, .int .i64 a0_2, .slice A0_3 l0_3.length c0_3, .slice A0_4 l0_4.length c0_4, .slice A0_5 l0_5.length c0_5]) (t := 33) ?hr ?_; (case hd => rfl); (case hg => rfl); (case hr => first | (go_simp; done) | (go_simp; rfl)); intro gb3 hg w3 hbox hb; have hx_ := bel_of (w := w) hb (by repeat (first | (with_reducible first | exact HB.out | apply below_alloc | apply pw_below_drewN | apply below_drew1) | exact HB.out)); have nb_ := Aside0.mk (below_step hx_ hb); have ge_ := Aside0.mk (box_ge hx_ hg); clear HB ; have HB := nb_; have BK3 := Aside0.mk hbox; have GE3 := ge_; clear nb_ ge_ hx_ hb hbox hg ) | ((with_reducible refine gate_dst (N := 4) rfl ?_); refine box_event ?hg (N := 4) ?hd (cs := #[.int .i64 0, .string (⟨#[]⟩ : ByteArray), .int .i64 0, .slice none 0 0, .slice none 0 0, .slice none 0 0]) (t := 33) ?hr ?_; (case hd => rfl); (case hg => rfl); (case hr => first | (go_simp; done) | (go_simp; rfl)); intro gb4 hg w4 hbox hb; have hx_ := bel_of (w := w) hb (by repeat (first | (with_reducible first | exact HB.out | apply below_alloc | apply pw_below_drewN | apply below_drew1 | refine below_set ?_ GE3.out) | exact HB.out)); have n3_ := Aside0.mk (blk_below (g := gb3) (by (with_reducible repeat (first | refine blk_drewN ?_ _ | refine blk_drew ?_ | refine blk_alloc ?_ _)); exact BK3.out) hb); have m3_ := Aside0.mk (box_lt (g' := gb3) (by (with_reducible repeat (first | refine blk_drewN ?_ _ | refine blk_drew ?_ | refine blk_alloc ?_ _)); exact BK3.out) hg); have k3_ := Aside0.mk (box_gt (g' := gb3) (by (with_reducible repeat (first | refine blk_drewN ?_ _ | refine blk_drew ?_ | refine blk_alloc ?_ _)); exact BK3.out) hg); have nb_ := Aside0.mk (below_step hx_ hb); have ge_ := Aside0.mk (box_ge hx_ hg); clear HB BK3; have BK3 := n3_; have NB3_4 := m3_; have NB4_3 := k3_; have HB := nb_; have BK4 := Aside0.mk hbox; have GE4 := ge_; clear nb_ ge_ hx_ hb hbox hg n3_ m3_ k3_; obtain ⟨hc6_0, hc6_1, hc6_2, hc6_3, hc6_4, hc6_5, hf6_0, hf6_1, hf6_2, hf6_3, hf6_4, hf6_5⟩ := cells6 BK3.out))
 have n0_ := Aside0.mk (blk_drew BK3.out)
 have n1_ := Aside0.mk (blk_drew BK4.out)
 have n2_ := Aside0.mk (below_drew1 HB.out)
 clear BK3 BK4 HB
 have BK3 := n0_
 have BK4 := n1_
 have HB := n2_
 clear n0_ n1_ n2_
 have BKg := Aside0.mk (HW.out.begin_ HB.out).hg
 have BKp := Aside0.mk (HW.out.begin_ HB.out).hp
 refine start_ (n := 6) (S := fun w' => w'.cell? ⟨gb3, 0, none⟩ = some (.int .i64 a0_0) ∧ w'.cell? ⟨gb3, 1, none⟩ = some (.string a0_1) ∧ w'.cell? ⟨gb3, 2, none⟩ = some (.int .i64 a0_2) ∧ w'.cell? ⟨gb3, 3, none⟩ = some (.slice A0_3 l0_3.length c0_3) ∧ w'.cell? ⟨gb3, 4, none⟩ = some (.slice A0_4 l0_4.length c0_4) ∧ w'.cell? ⟨gb3, 5, none⟩ = some (.slice A0_5 l0_5.length c0_5) ∧ w'.cell? ⟨g, 0, none⟩ = some (.int .i64 n) ∧ w'.cell? ⟨p, 0, none⟩ = some (.func (.func 34) #[] #[])) (ds := [5]) #[false, false, false, false, false, false] (by kernel_rfl) rfl rfl ⟨(blk_cell BK3.out 0).trans rfl, (blk_cell BK3.out 1).trans rfl, (blk_cell BK3.out 2).trans rfl, (blk_cell BK3.out 3).trans rfl, (blk_cell BK3.out 4).trans rfl, (blk_cell BK3.out 5).trans rfl, (blk_cell BKg.out 0).trans rfl, (blk_cell BKp.out 0).trans rfl⟩ (fun hHeld => ?_); refine with_tabW L_tab1 L_bits1 (fun HT_ HW_ => ?_)
 generalize w4.drew = w5 at BK3 BK4 BKg BKp HB hHeld ⊢
 refine take_ (i := 0) (N := some 5) (v := ?_) (a' := ?_) #[true, false, false, false, false, false] rfl rfl (take_ofW HT_.out HW_.out (by kernel_rfl)) (fun _ _ _ h => h) (Or.inl ⟨by rfl, ?_⟩) hHeld ?_ ?_
 rotate_left
 ·rintro w' ⟨s0, s1, s2, s3, s4, s5, s6, s7⟩
  go_simp
  with_reducible rfl
 rotate_left
 ·simp only [Act.put, List.setIfInBounds_toArray, List.set_cons_zero, List.set_cons_succ, i64_w, i32_w]
  rfl
 refine take_ (i := 1) (N := some 6) (v := ?_) (a' := ?_) #[true, true, false, false, false, false] rfl rfl (take_ofW HT_.out HW_.out (by kernel_rfl)) (fun _ _ _ h => h) (Or.inl ⟨by rfl, ?_⟩) hHeld ?_ ?_
 rotate_left
 ·rintro w' ⟨s0, s1, s2, s3, s4, s5, s6, s7⟩
  go_simp
  with_reducible rfl
 rotate_left
 ·simp only [Act.put, List.setIfInBounds_toArray, List.set_cons_zero, List.set_cons_succ, i64_w, i32_w]
  rfl
 refine take_ (i := 2) (N := some 7) (v := ?_) (a' := ?_) #[true, true, true, false, false, false] rfl rfl (take_ofW HT_.out HW_.out (by kernel_rfl)) (fun _ _ _ h => h) (Or.inl ⟨by rfl, ?_⟩) hHeld ?_ ?_
 rotate_left
 ·rintro w' ⟨s0, s1, s2, s3, s4, s5, s6, s7⟩
  go_simp
  with_reducible rfl
 rotate_left
 ·simp only [Act.put, List.setIfInBounds_toArray, List.set_cons_zero, List.set_cons_succ, i64_w, i32_w]
  rfl
 refine one_ (i := 3) (N := some 8) #[true, true, true, true, false, false] rfl rfl (one_of HT_.out (by kernel_rfl)) (by decide) (fun K hK => ?_)
 refine goes_ Try.func33 (by kernel_rfl) rfl #[.agg #[.int .i64 a0_0, .string a0_1, .int .i64 a0_2, .slice A0_3 l0_3.length c0_3, .slice A0_4 l0_4.length c0_4, .slice A0_5 l0_5.length c0_5], .func (.func 34) #[] #[]] (by rfl) rfl rfl (by (try simp only [List.map_toArray, List.map_cons, List.map_nil, List.append_toArray, List.cons_append, List.nil_append]); first | done | rfl) ?_
 refine (ih_E k (Nat.lt_succ_self k) a0_0 a0_1 a0_2 _ _ l0_3 _ _ l0_4 _ _ l0_5 m _ (Kd.C_below HR0_3.out (HW.out.under HB.out)) HC0_3.out (Kd.C_below HR0_4.out (HW.out.under HB.out)) HC0_4.out (Kd.C_below HR0_5.out (HW.out.under HB.out)) HC0_5.out A1.out).mono ?_
 rintro e w6 ⟨rfl, hb⟩
 refine ⟨_, rfl, ?_⟩
 have n0_ := Aside0.mk (blk_below BK3.out hb)
 have n1_ := Aside0.mk (blk_below BK4.out hb)
 have n2_ := Aside0.mk (below_step HB.out hb)
 clear BK3 BK4 HB BKg BKp hb
 have BK3 := n0_
 have BK4 := n1_
 have HB := n2_
 clear n0_ n1_ n2_
 have BKg := Aside0.mk (HW.out.begin_ HB.out).hg
 have BKp := Aside0.mk (HW.out.begin_ HB.out).hp
 refine hK.out _ _ ⟨(blk_cell BK3.out 0).trans rfl, (blk_cell BK3.out 1).trans rfl, (blk_cell BK3.out 2).trans rfl, (blk_cell BK3.out 3).trans rfl, (blk_cell BK3.out 4).trans rfl, (blk_cell BK3.out 5).trans rfl, (blk_cell BKg.out 0).trans rfl, (blk_cell BKp.out 0).trans rfl⟩ (fun hHeld => ?_)
 clear hK K
 refine norm_ (a' := ?_) ?_ ?_
 rotate_left
 ·show Act.put _ (some 8) _ = _
  simp only [Act.put, List.setIfInBounds_toArray, List.set_cons_zero, List.set_cons_succ, i64_w, i32_w]
  rfl
 refine pure_ (i := 4) (N := some 9) (v := ?_) (a' := ?_) #[true, true, true, true, true, false] rfl rfl (any_of HT_.out (by kernel_rfl)) (fun _ _ _ h => h) (Or.inl ⟨by rfl, ?_⟩) ?_ ?_
 rotate_left
 ·intro w'
  go_simp
  with_reducible rfl
 rotate_left
 ·simp only [Act.put, List.setIfInBounds_toArray, List.set_cons_zero, List.set_cons_succ, i64_w, i32_w]
  rfl
 refine last_ (i := 5) (N := none) #[true, true, true, true, true, true] rfl rfl (one_of HT_.out (by kernel_rfl)) (by decide) (fun K hK => ?_)
 have hcg : w6.cell? ⟨g, 0, none⟩ = some (.int .i64 n) := (blk_cell BKg.out 0).trans rfl
 have hfg := blk_frozen BKg.out 0
 refine skip_ (w1 := ?_) (by rfl) rfl ?_ ?_
 rotate_left
 ·go_simp
  rfl
 refine hK.out _ _ ?_
 clear hK K
 refine done_ (done_of HT_.out (by kernel_rfl)) ?_
 obtain ⟨w7, hs_, HW2, HB2, hm⟩ := HW.out.step HB.out ((HW.out.begin_ HB.out).set (wrap64 (n + m))) (Below.refl _ _)
 have n0_ := Aside0.mk (blk_past BK3.out HW.out.lt GE3.out hm)
 have n1_ := Aside0.mk (blk_past BK4.out HW.out.lt GE4.out hm)
 have n2_ : Aside0 (w7.heap.size ≤ gb3) := ⟨by rw [hs_]; exact GE3.out⟩
 have n3_ : Aside0 (w7.heap.size ≤ gb4) := ⟨by rw [hs_]; exact GE4.out⟩
 have n4_ := Aside0.mk HW2
 have n5_ := Aside0.mk HB2
 clear BK3 BK4 HB GE3 GE4 HW BKg BKp HW2 HB2 hm hs_ hcg hfg hHeld
 generalize w6.setCell _ _ = w8 at n0_ n1_ n5_ ⊢
 have BK3 := n0_
 have BK4 := n1_
 have GE3 := n2_
 have GE4 := n3_
 have HW := n4_
 have HB := n5_
 clear n0_ n1_ n2_ n3_ n4_ n5_
 have hnb1 := NB3_4.out
 have hnb2 := NB4_3.out
 obtain ⟨hc8_0, hc8_1, hc8_2, hc8_3, hc8_4, hc8_5, hf8_0, hf8_1, hf8_2, hf8_3, hf8_4, hf8_5⟩ := cells6 BK3.out
 obtain ⟨hc9_0, hc9_1, hc9_2, hc9_3, hc9_4, hc9_5, hf9_0, hf9_1, hf9_2, hf9_3, hf9_4, hf9_5⟩ := cells6 BK4.out
 go_wp2
 refine bodyPost_ret (results_cell_row rfl _ _ gb4 33 #[.int .i64 a0_0, .string a0_1, .int .i64 a0_2, .slice A0_3 l0_3.length c0_3, .slice A0_4 l0_4.length c0_4, .slice A0_5 l0_5.length c0_5] (0, 0) _ rfl (by (with_reducible repeat (first | refine blk_drewN ?_ _ | refine blk_drew ?_ | refine blk_alloc ?_ _)); exact (put_6_5 (put_6_4 (put_6_3 (put_6_2 (put_6_1 (put_6_0 BK4.out))))))) Try.underlying33 rfl (by kernel_rfl)) rfl ?_
 exact ⟨w7, by first | rfl | (simp; done) | (simp [*]; done), HW.out, by repeat (first | (with_reducible first | exact HB.out | apply below_alloc | apply pw_below_drewN | apply below_drew1 | refine below_set ?_ GE3.out | refine below_set ?_ GE4.out) | exact HB.out)⟩
theorem all (k : Nat) : AtE k ∧ AtL k ∧ AtM k ∧ AtD k := by
  induction k using Nat.strongRecOn with
  | _ k ih => exact ⟨stepE k (fun m hm => (ih m hm).2.2.1), stepL k (fun m hm => (ih m hm).1), stepM k (fun m hm => (ih m hm).2.1) (fun m hm => (ih m hm).2.2.2), stepD k (fun m hm => (ih m hm).2.1) (fun m hm => (ih m hm).2.2.2)⟩
def impl_Ifs.f (k : Nat) (a0_0 : Int) (a0_1 : ByteArray) (a0_2 : Int) (l0_3 : List (S33)) (l0_4 : List (S68)) (l0_5 : List (S53)) : Option Int := cE k a0_0 l0_3 l0_4 l0_5
set_option maxHeartbeats 8000000 in
set_option maxRecDepth 100000 in
theorem impl_Ifs.calls (k : Nat) (a0_0 : Int) (a0_1 : ByteArray) (a0_2 : Int) (A0_3 : Option Addr) (c0_3 : Nat) (l0_3 : List (S33)) (A0_4 : Option Addr) (c0_4 : Nat) (l0_4 : List (S68)) (A0_5 : Option Addr) (c0_5 : Nat) (l0_5 : List (S53)) (r : Int) (w : World) (hr0_3 : Kd.C k33 w A0_3 l0_3.length l0_3) (hc0_3 : l0_3.length ≤ c0_3) (hr0_4 : Kd.C k68 w A0_4 l0_4.length l0_4) (hc0_4 : l0_4.length ≤ c0_4) (hr0_5 : Kd.C k53 w A0_5 l0_5.length l0_5) (hc0_5 : l0_5.length ≤ c0_5) (h : impl_Ifs.f k a0_0 a0_1 a0_2 l0_3 l0_4 l0_5 = some r) :
  Calls Try.prog 14 #[.agg #[.int .i64 a0_0, .string a0_1, .int .i64 a0_2, .slice A0_3 l0_3.length c0_3, .slice A0_4 l0_4.length c0_4, .slice A0_5 l0_5.length c0_5]] w fun e w' => e = .returned (.int .i64 r) ∧ Below w.heap.size w w' := by
 have hu33 := Try.underlying33
 have HR0_3 := Aside0.mk hr0_3
 have HC0_3 := Aside0.mk hc0_3
 have HR0_4 := Aside0.mk hr0_4
 have HC0_4 := Aside0.mk hc0_4
 have HR0_5 := Aside0.mk hr0_5
 have HC0_5 := Aside0.mk hc0_5
 clear hr0_3 hc0_3 hr0_4 hc0_4 hr0_5 hc0_5
 have H' := Aside0.mk (show cE k a0_0 l0_3 l0_4 l0_5 = some r from h)
 clear h
 have HB := Aside0.mk (Below.refl w.heap.size w)
 go_enter Try.func14, Try.ntmps14
 go_wp2_with (first | ((with_reducible refine gate_dst (N := 1) rfl ?_); refine box_event ?hg (N := 1) ?hd (cs := #[.int .i64 a0_0, .string a0_1, .int .i64 a0_2, .slice A0_3 l0_3.length c0_3, .slice A0_4 l0_4.length c0_4, .slice A0_5 l0_5.length c0_5]) (t := 33) ?hr ?_; (case hd => rfl); (case hg => rfl); (case hr => first | (go_simp; done) | (go_simp; rfl)); intro gb1 hg w3 hbox hb; have hx_ := bel_of (w := w) hb (by repeat (first | (with_reducible first | exact HB.out | apply below_alloc | apply pw_below_drewN | apply below_drew1) | exact HB.out)); have nb_ := Aside0.mk (below_step hx_ hb); have ge_ := Aside0.mk (box_ge hx_ hg); clear HB ; have HB := nb_; have BK1 := Aside0.mk hbox; have GE1 := ge_; clear nb_ ge_ hx_ hb hbox hg ; obtain ⟨hc6_0, hc6_1, hc6_2, hc6_3, hc6_4, hc6_5, hf6_0, hf6_1, hf6_2, hf6_3, hf6_4, hf6_5⟩ := cells6 BK1.out) | ((with_reducible refine gate_callee (f := 33) rfl ?_); refine goesL_ (some 4) rfl rfl Try.func33 (by kernel_rfl) rfl #[.agg #[.int .i64 a0_0, .string a0_1, .int .i64 a0_2, .slice A0_3 l0_3.length c0_3, .slice A0_4 l0_4.length c0_4, .slice A0_5 l0_5.length c0_5], .func (.func 34) #[] #[]] rfl (by (try simp only [List.map_toArray, List.map_cons, List.map_nil, List.append_toArray, List.cons_append, List.nil_append]); first | done | rfl) ?_; refine calls_bel (w0 := w) (by repeat (first | (with_reducible first | exact HB.out | apply below_alloc | apply pw_below_drewN | apply below_drew1 | refine below_set ?_ GE1.out) | exact HB.out)) (fun hx_ => ?_); refine ((all k).1 a0_0 a0_1 a0_2 _ _ l0_3 _ _ l0_4 _ _ l0_5 r _ (Kd.C_below HR0_3.out hx_) HC0_3.out (Kd.C_below HR0_4.out hx_) HC0_4.out (Kd.C_below HR0_5.out hx_) HC0_5.out H'.out).mono ?_; rintro e w9 ⟨rfl, hb⟩; refine ⟨_, rfl, ?_⟩; have nb_ := Aside0.mk (below_step hx_ hb); clear HB hx_ hb; have HB := nb_; clear nb_))
 go_ret
 exact ⟨by first | rfl | (simp; done) | (simp [*]; done), by repeat (first | (with_reducible first | exact HB.out | apply below_alloc | apply pw_below_drewN | apply below_drew1 | refine below_set ?_ GE1.out) | exact HB.out)⟩
end Go.Proofs.Ytpndcfibjjkgcaa.MyCnt

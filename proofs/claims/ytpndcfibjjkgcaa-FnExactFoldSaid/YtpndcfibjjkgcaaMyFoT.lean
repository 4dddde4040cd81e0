/- The walk of the given function that folds an expression. No condition. -/
import Derived.Test.YtpndcfibjjkgcaaMyFoU
import Derived.Test.YtpndcfibjjkgcaaMyFoS
import Derived.Test.YtpndcfibjjkgcaaMyFoC
import Derived.Test.YtpndcfibjjkgcaaMyFoH
namespace Go.Proofs.Ytpndcfibjjkgcaa.MyItc
open Go Go.RowKit Go.Proofs.YtpndcfibjjkgcaaW.PrintWords Go.Proofs.YtpndcfibjjkgcaaW.PrintLast Go.Proofs.YtpndcfibjjkgcaaW.PrintMore Go.Proofs.Ytpndcfibjjkgcaa.PIfg
attribute [local go_sem] max2_int min2_int max_two min_two max_three min_three max_four min_four
set_option linter.unusedVariables false
set_option linter.unusedSimpArgs false
set_option maxHeartbeats 8000000 in
set_option maxRecDepth 100000 in
theorem stepTnE (n : Nat) (ih_E : ∀ m_, m_ ≤ n → TnE m_) (ih_D : TnD n) : TnE (n + 1) := by
 intro y A0_3 c0_3 A0_4 c0_4 A0_5 c0_5 w ha hq
 obtain ⟨a0_0, a0_1, a0_2, l0_3, l0_4, l0_5⟩ := y
 rw [SqE] at hq
 dsimp only at ha hq ⊢
 have hu33 := Try.underlying33
 have hu53 := Try.underlying53
 have HA := Aside0.mk ha
 have HQ := Aside0.mk hq
 have HB := Aside0.mk (Below.refl w.heap.size w)
 clear ha hq
 rw [gE]
 go_enter Try.func46, Try.ntmps46
 go_wp2_with (first | ((with_reducible refine gate_dst (N := 2) rfl ?_); refine box_event ?hg (N := 2) ?hd (cs := #[.int .i64 a0_0, .string a0_1, .int .i64 a0_2, .slice A0_3 l0_3.length c0_3, .slice A0_4 l0_4.length c0_4, .slice A0_5 l0_5.length c0_5]) (t := 33) ?hr ?_; (case hd => rfl); (case hg => rfl); (case hr => first | (go_simp; done) | (go_simp; rfl)); intro gb2 hg w3 hbox hb; have hx_ := bel_of (w := w) hb (by repeat (first | (with_reducible first | exact HB.out | apply below_alloc | apply pw_below_drewN | apply below_drew1) | exact HB.out)); have nb_ := Aside0.mk (below_step hx_ hb); have ge_ := Aside0.mk (box_ge hx_ hg); clear HB  ; have HB := nb_; have BK2 := Aside0.mk hbox; have GE2 := ge_; clear nb_ ge_ hx_ hb hbox hg  ) | ((with_reducible refine gate_dst (N := 4) rfl ?_); refine box_event ?hg (N := 4) ?hd (cs := #[.int .i64 0, .string (⟨#[]⟩ : ByteArray), .int .i64 0, .slice none 0 0, .slice none 0 0, .slice none 0 0]) (t := 33) ?hr ?_; (case hd => rfl); (case hg => rfl); (case hr => first | (go_simp; done) | (go_simp; rfl)); intro gb4 hg w4 hbox hb; have hx_ := bel_of (w := w) hb (by repeat (first | (with_reducible first | exact HB.out | apply below_alloc | apply pw_below_drewN | apply below_drew1 | refine below_set ?_ GE2.out) | exact HB.out)); have n2_ := Aside0.mk (blk_below (g := gb2) (by (with_reducible repeat (first | refine blk_drewN ?_ _ | refine blk_drew ?_ | refine blk_alloc ?_ _)); exact BK2.out) hb); have m2_ := Aside0.mk (box_lt (g' := gb2) (by (with_reducible repeat (first | refine blk_drewN ?_ _ | refine blk_drew ?_ | refine blk_alloc ?_ _)); exact BK2.out) hg); have k2_ := Aside0.mk (box_gt (g' := gb2) (by (with_reducible repeat (first | refine blk_drewN ?_ _ | refine blk_drew ?_ | refine blk_alloc ?_ _)); exact BK2.out) hg); have nb_ := Aside0.mk (below_step hx_ hb); have ge_ := Aside0.mk (box_ge hx_ hg); clear HB BK2 ; have BK2 := n2_; have NB2_4 := m2_; have NB4_2 := k2_; have HB := nb_; have BK4 := Aside0.mk hbox; have GE4 := ge_; clear nb_ ge_ hx_ hb hbox hg n2_ m2_ k2_ ; obtain ⟨hc21_0, hc21_1, hc21_2, hc21_3, hc21_4, hc21_5, hf21_0, hf21_1, hf21_2, hf21_3, hf21_4, hf21_5⟩ := cells6 BK2.out) | ((with_reducible refine gate_callee (f := 35) rfl ?_); refine goesL_ (some 9) rfl rfl Try.func35 (by kernel_rfl) rfl #[.agg #[.int .i64 a0_0, .string a0_1, .int .i64 a0_2, .slice A0_3 l0_3.length c0_3, .slice A0_4 l0_4.length c0_4, .slice A0_5 l0_5.length c0_5]] rfl (by (try simp only [List.map_toArray, List.map_cons, List.map_nil, List.append_toArray, List.cons_append, List.nil_append]); first | done | rfl) ?_; refine calls_bel (w0 := w) (by repeat (first | (with_reducible first | exact HB.out | apply below_alloc | apply pw_below_drewN | apply below_drew1 | refine below_set ?_ GE2.out | refine below_set ?_ GE4.out) | exact HB.out)) (fun hx_ => ?_); (with_reducible refine (l3Copy_skel n a0_0 a0_1 a0_2 _ _ l0_3 _ _ l0_4 _ _ l0_5 _ ⟨⟨Kd.C_below HA.out.1.1 hx_, HA.out.1.2⟩, ⟨Kd.C_below HA.out.2.1.1 hx_, HA.out.2.1.2⟩, ⟨Kd.C_below HA.out.2.2.1 hx_, HA.out.2.2.2⟩⟩ HQ.out).mono ?_); rintro e w10 ⟨E3, d3, E4, m4, d4, E5, d5, rfl, hc3, hc5, hb⟩; refine ⟨_, rfl, ?_⟩; have n2_ := Aside0.mk (blk_below (g := gb2) (by (with_reducible repeat (first | refine blk_drewN ?_ _ | refine blk_drew ?_ | refine blk_alloc ?_ _)); exact BK2.out) hb); have n4_ := Aside0.mk (blk_below (g := gb4) (by (with_reducible repeat (first | refine blk_drewN ?_ _ | refine blk_drew ?_ | refine blk_alloc ?_ _)); exact BK4.out) hb); have g2_ := lt_of_blk (g := gb2) (by (with_reducible repeat (first | refine blk_drewN ?_ _ | refine blk_drew ?_ | refine blk_alloc ?_ _)); exact BK2.out) hb; have g4_ := lt_of_blk (g := gb4) (by (with_reducible repeat (first | refine blk_drewN ?_ _ | refine blk_drew ?_ | refine blk_alloc ?_ _)); exact BK4.out) hb; have HC3 := Aside0.mk hc3; have HC5 := Aside0.mk hc5; have LOW := Aside0.mk (below_size hx_); have GB : Aside0 (∀ k, ((Value.slice E3 l0_3.length d3).ownBlock = some k ∨ (Value.slice E5 l0_5.length d5).ownBlock = some k) → gb2 < k ∧ gb4 < k) := ⟨fun k hk => have hk_ := hk.elim (Kd.R_base hc3 k) (Kd.R_base hc5 k); ⟨Nat.lt_of_lt_of_le g2_ hk_, Nat.lt_of_lt_of_le g4_ hk_⟩⟩; have GT : Aside0 (∀ k, ((Value.slice E3 l0_3.length d3).ownBlock = some k ∨ (Value.slice E5 l0_5.length d5).ownBlock = some k) → k < w10.heap.size) := ⟨fun k hk => hk.elim (Kd.R_lt hc3 k) (Kd.R_lt hc5 k)⟩; have nb_ := Aside0.mk (below_step hx_ hb); clear HB BK2 BK4 hx_ hb hc3 hc5 g2_ g4_; have HB := nb_; have BK2 := n2_; have BK4 := n4_; clear nb_ n2_ n4_; have HD := Aside0.mk (And.intro (Below.refl w10.heap.size w10) (Nat.le_refl w10.heap.size))) | ((with_reducible refine gate_dst (N := 5) rfl ?_); refine box_event ?hg (N := 5) ?hd (cs := #[.int .i64 0, .string (⟨#[]⟩ : ByteArray), .int .i64 0, .slice none 0 0, .slice none 0 0, .slice none 0 0]) (t := 33) ?hr ?_; (case hd => rfl); (case hg => rfl); (case hr => first | (go_simp; done) | (go_simp; rfl)); intro gb5 hg w11 hbox hb; have hx_ := bel_of (w := w) hb (by repeat (first | (with_reducible first | exact HB.out | apply below_alloc | apply pw_below_drewN | apply below_drew1 | refine below_set ?_ GE2.out | refine below_set ?_ GE4.out) | exact HB.out)); have n2_ := Aside0.mk (blk_below (g := gb2) (by (with_reducible repeat (first | refine blk_drewN ?_ _ | refine blk_drew ?_ | refine blk_alloc ?_ _)); exact BK2.out) hb); have n4_ := Aside0.mk (blk_below (g := gb4) (by (with_reducible repeat (first | refine blk_drewN ?_ _ | refine blk_drew ?_ | refine blk_alloc ?_ _)); exact BK4.out) hb); have m2_ := Aside0.mk (box_lt (g' := gb2) (by (with_reducible repeat (first | refine blk_drewN ?_ _ | refine blk_drew ?_ | refine blk_alloc ?_ _)); exact BK2.out) hg); have m4_ := Aside0.mk (box_lt (g' := gb4) (by (with_reducible repeat (first | refine blk_drewN ?_ _ | refine blk_drew ?_ | refine blk_alloc ?_ _)); exact BK4.out) hg); have k2_ := Aside0.mk (box_gt (g' := gb2) (by (with_reducible repeat (first | refine blk_drewN ?_ _ | refine blk_drew ?_ | refine blk_alloc ?_ _)); exact BK2.out) hg); have k4_ := Aside0.mk (box_gt (g' := gb4) (by (with_reducible repeat (first | refine blk_drewN ?_ _ | refine blk_drew ?_ | refine blk_alloc ?_ _)); exact BK4.out) hg); have x0_ := Aside0.mk (And.intro (below_step (bel_of (w := w10) hb (by repeat (first | (with_reducible first | exact HD.out.1 | apply below_alloc | apply pw_below_drewN | apply below_drew1) | exact HD.out.1))) hb) (box_ge (bel_of (w := w10) hb (by repeat (first | (with_reducible first | exact HD.out.1 | apply below_alloc | apply pw_below_drewN | apply below_drew1) | exact HD.out.1))) hg)); have nb_ := Aside0.mk (below_step hx_ hb); have ge_ := Aside0.mk (box_ge hx_ hg); clear HB BK2 BK4 HD; have BK2 := n2_; have BK4 := n4_; have NB2_5 := m2_; have NB4_5 := m4_; have NB5_2 := k2_; have NB5_4 := k4_; have HD := x0_; have HB := nb_; have BK5 := Aside0.mk hbox; have GE5 := ge_; clear nb_ ge_ hx_ hb hbox hg n2_ m2_ k2_ n4_ m4_ k4_ x0_; obtain ⟨hc22_0, hc22_1, hc22_2, hc22_3, hc22_4, hc22_5, hf22_0, hf22_1, hf22_2, hf22_3, hf22_4, hf22_5⟩ := cells6 BK5.out))
 have hrows_ := skel_rows (lo' := w.heap.size) (Kd.R_below HC3.out HD.out.1) (Kd.R_below HC5.out HD.out.1) LOW.out (a := gb4) (b := gb5) ⟨_, BK4.out⟩ ⟨_, BK5.out⟩ (fun k hk => ⟨Nat.ne_of_gt (GB.out k hk).2, Nat.ne_of_lt (Nat.lt_of_lt_of_le (GT.out k hk) HD.out.2)⟩)
 obtain ⟨y3, y5, r3_, r5_, sk_, o3_, o5_⟩ := hrows_
 have rb_ : ∀ b, badB gb4 gb5 (.slice E3 l0_3.length d3) (.slice E5 l0_5.length d5) b → b < w11.heap.size := fun b hb => by rcases hb with rfl | rfl | h | h <;> first | exact blk_lt BK4.out | exact blk_lt BK5.out | exact own_lt r3_.own _ h | exact own_lt r5_.own _ h
 have g3_ : ∀ k, (Value.slice E3 l0_3.length d3).ownBlock = some k → gb2 < k := fun k hk => (GB.out k (.inl hk)).1
 have g5_ : ∀ k, (Value.slice E5 l0_5.length d5).ownBlock = some k → gb2 < k := fun k hk => (GB.out k (.inr hk)).1
 have bE3_ : ∀ g, E3 = some ⟨g, 0, none⟩ → badB gb4 gb5 (.slice E3 l0_3.length d3) (.slice E5 l0_5.length d5) g := fun g h => .inr (.inr (.inl (by rw [h]; rfl)))
 have bE5_ : ∀ g, E5 = some ⟨g, 0, none⟩ → badB gb4 gb5 (.slice E3 l0_3.length d3) (.slice E5 l0_5.length d5) g := fun g h => .inr (.inr (.inr (by rw [h]; rfl)))
 have b4_ : badB gb4 gb5 (.slice E3 l0_3.length d3) (.slice E5 l0_5.length d5) gb4 := .inl rfl
 have b5_ : badB gb4 gb5 (.slice E3 l0_3.length d3) (.slice E5 l0_5.length d5) gb5 := .inr (.inl rfl)
 generalize badB gb4 gb5 (.slice E3 l0_3.length d3) (.slice E5 l0_5.length d5) = bad at r3_ r5_ sk_ rb_ bE3_ bE5_ b4_ b5_
 have n2_ : Aside0 (((((((w11.setCell ⟨gb5, 0, none⟩ (.int .i64 a0_0)).setCell ⟨gb5, 1, none⟩ (.string a0_1)).setCell ⟨gb5, 2, none⟩ (.int .i64 a0_2)).setCell ⟨gb5, 3, none⟩ (.slice E3 l0_3.length d3)).setCell ⟨gb5, 4, none⟩ (.slice E4 m4 d4)).setCell ⟨gb5, 5, none⟩ (.slice E5 l0_5.length d5)).heap[gb2]? = some (.cells #[.int .i64 a0_0, .string a0_1, .int .i64 a0_2, .slice A0_3 l0_3.length c0_3, .slice A0_4 l0_4.length c0_4, .slice A0_5 l0_5.length c0_5] 33 (0, 0))) := ⟨(blk_far (blk_far (blk_far (blk_far (blk_far (blk_far BK2.out NB2_5.out _) NB2_5.out _) NB2_5.out _) NB2_5.out _) NB2_5.out _) NB2_5.out _)⟩
 have n4_ : Aside0 (((((((w11.setCell ⟨gb5, 0, none⟩ (.int .i64 a0_0)).setCell ⟨gb5, 1, none⟩ (.string a0_1)).setCell ⟨gb5, 2, none⟩ (.int .i64 a0_2)).setCell ⟨gb5, 3, none⟩ (.slice E3 l0_3.length d3)).setCell ⟨gb5, 4, none⟩ (.slice E4 m4 d4)).setCell ⟨gb5, 5, none⟩ (.slice E5 l0_5.length d5)).heap[gb4]? = some (.cells #[.int .i64 0, .string (⟨#[]⟩ : ByteArray), .int .i64 0, .slice none 0 0, .slice none 0 0, .slice none 0 0] 33 (0, 0))) := ⟨(blk_far (blk_far (blk_far (blk_far (blk_far (blk_far BK4.out NB4_5.out _) NB4_5.out _) NB4_5.out _) NB4_5.out _) NB4_5.out _) NB4_5.out _)⟩
 have n5_ : Aside0 (((((((w11.setCell ⟨gb5, 0, none⟩ (.int .i64 a0_0)).setCell ⟨gb5, 1, none⟩ (.string a0_1)).setCell ⟨gb5, 2, none⟩ (.int .i64 a0_2)).setCell ⟨gb5, 3, none⟩ (.slice E3 l0_3.length d3)).setCell ⟨gb5, 4, none⟩ (.slice E4 m4 d4)).setCell ⟨gb5, 5, none⟩ (.slice E5 l0_5.length d5)).heap[gb5]? = some (.cells #[.int .i64 a0_0, .string a0_1, .int .i64 a0_2, .slice E3 l0_3.length d3, .slice E4 m4 d4, .slice E5 l0_5.length d5] 33 (0, 0))) := ⟨(put_6_5 (put_6_4 (put_6_3 (put_6_2 (put_6_1 (put_6_0 BK5.out))))))⟩
 have nb_ : Aside0 (Below w.heap.size w ((((((w11.setCell ⟨gb5, 0, none⟩ (.int .i64 a0_0)).setCell ⟨gb5, 1, none⟩ (.string a0_1)).setCell ⟨gb5, 2, none⟩ (.int .i64 a0_2)).setCell ⟨gb5, 3, none⟩ (.slice E3 l0_3.length d3)).setCell ⟨gb5, 4, none⟩ (.slice E4 m4 d4)).setCell ⟨gb5, 5, none⟩ (.slice E5 l0_5.length d5))) := ⟨(by repeat (first | (with_reducible first | exact HB.out | apply below_alloc | apply pw_below_drewN | apply below_drew1 | refine below_set ?_ GE2.out | refine below_set ?_ GE4.out | refine below_set ?_ GE5.out) | exact HB.out))⟩
 have nm_ : Aside0 (w11.heap.size ≤ ((((((w11.setCell ⟨gb5, 0, none⟩ (.int .i64 a0_0)).setCell ⟨gb5, 1, none⟩ (.string a0_1)).setCell ⟨gb5, 2, none⟩ (.int .i64 a0_2)).setCell ⟨gb5, 3, none⟩ (.slice E3 l0_3.length d3)).setCell ⟨gb5, 4, none⟩ (.slice E4 m4 d4)).setCell ⟨gb5, 5, none⟩ (.slice E5 l0_5.length d5)).heap.size) := ⟨Nat.le_of_eq (by simp [World.setCell])⟩
 have q3_ : Aside0 (RowX bad ((((((w11.setCell ⟨gb5, 0, none⟩ (.int .i64 a0_0)).setCell ⟨gb5, 1, none⟩ (.string a0_1)).setCell ⟨gb5, 2, none⟩ (.int .i64 a0_2)).setCell ⟨gb5, 3, none⟩ (.slice E3 l0_3.length d3)).setCell ⟨gb5, 4, none⟩ (.slice E4 m4 d4)).setCell ⟨gb5, 5, none⟩ (.slice E5 l0_5.length d5)) w.heap.size 33 6 (.slice E3 l0_3.length d3) l0_3.length [] y3) := ⟨r3_.puts b5_ (fun e => (o3_ _ e).2.1 rfl) 0 [.int .i64 a0_0, .string a0_1, .int .i64 a0_2, .slice E3 l0_3.length d3, .slice E4 m4 d4, .slice E5 l0_5.length d5]⟩
 have q5_ : Aside0 (RowX bad ((((((w11.setCell ⟨gb5, 0, none⟩ (.int .i64 a0_0)).setCell ⟨gb5, 1, none⟩ (.string a0_1)).setCell ⟨gb5, 2, none⟩ (.int .i64 a0_2)).setCell ⟨gb5, 3, none⟩ (.slice E3 l0_3.length d3)).setCell ⟨gb5, 4, none⟩ (.slice E4 m4 d4)).setCell ⟨gb5, 5, none⟩ (.slice E5 l0_5.length d5)) w.heap.size 53 8 (.slice E5 l0_5.length d5) l0_5.length [] y5) := ⟨r5_.puts b5_ (fun e => (o5_ _ e).2.1 rfl) 0 [.int .i64 a0_0, .string a0_1, .int .i64 a0_2, .slice E3 l0_3.length d3, .slice E4 m4 d4, .slice E5 l0_5.length d5]⟩
 have qs_ : Aside0 (SkAs bad ((((((w11.setCell ⟨gb5, 0, none⟩ (.int .i64 a0_0)).setCell ⟨gb5, 1, none⟩ (.string a0_1)).setCell ⟨gb5, 2, none⟩ (.int .i64 a0_2)).setCell ⟨gb5, 3, none⟩ (.slice E3 l0_3.length d3)).setCell ⟨gb5, 4, none⟩ (.slice E4 m4 d4)).setCell ⟨gb5, 5, none⟩ (.slice E5 l0_5.length d5)) w.heap.size l0_5 y5) := ⟨sk_.puts b5_ 0 [.int .i64 a0_0, .string a0_1, .int .i64 a0_2, .slice E3 l0_3.length d3, .slice E4 m4 d4, .slice E5 l0_5.length d5]⟩
 have RB := Aside0.mk rb_
 have G3 := Aside0.mk g3_
 have G5 := Aside0.mk g5_
 have O3 := Aside0.mk o3_
 have O5 := Aside0.mk o5_
 have BE3 := Aside0.mk bE3_
 have BE5 := Aside0.mk bE5_
 have BD4 := Aside0.mk b4_
 have BD5 := Aside0.mk b5_
 clear r3_ r5_ sk_ rb_ g3_ g5_ o3_ o5_ bE3_ bE5_ b4_ b5_ BK2 BK4 BK5 HB HC3 HC5 HD GB GT LOW
 generalize ((((((w11.setCell ⟨gb5, 0, none⟩ (.int .i64 a0_0)).setCell ⟨gb5, 1, none⟩ (.string a0_1)).setCell ⟨gb5, 2, none⟩ (.int .i64 a0_2)).setCell ⟨gb5, 3, none⟩ (.slice E3 l0_3.length d3)).setCell ⟨gb5, 4, none⟩ (.slice E4 m4 d4)).setCell ⟨gb5, 5, none⟩ (.slice E5 l0_5.length d5)) = w12 at n2_ n4_ n5_ nb_ nm_ q3_ q5_ qs_ ⊢
 generalize w11.heap.size = mid at nm_ RB
 go_loopg [6] (l0_3.length + 1) (fun kq v6 w' => ∃ (x6 : Int) (j3 : Nat) (X : List It) (rest : List Value), v6 = .int .i64 x6 ∧ Aside0 (l0_3.length - j3 < kq) ∧ Aside0 (kq ≤ l0_3.length + 1) ∧ Aside0 (w'.heap[gb2]? = some (.cells #[.int .i64 a0_0, .string a0_1, .int .i64 a0_2, .slice A0_3 l0_3.length c0_3, .slice A0_4 l0_4.length c0_4, .slice A0_5 l0_5.length c0_5] 33 (0, 0))) ∧ Aside0 (w'.heap[gb4]? = some (.cells #[.int .i64 0, .string (⟨#[]⟩ : ByteArray), .int .i64 0, .slice none 0 0, .slice none 0 0, .slice none 0 0] 33 (0, 0))) ∧ Aside0 (w'.heap[gb5]? = some (.cells #[.int .i64 a0_0, .string a0_1, .int .i64 a0_2, .slice E3 l0_3.length d3, .slice E4 m4 d4, .slice E5 l0_5.length d5] 33 (0, 0))) ∧ Aside0 (Below w.heap.size w w') ∧ Aside0 (mid ≤ w'.heap.size) ∧ Aside0 (RowX bad w' w.heap.size 33 6 (.slice E3 l0_3.length d3) l0_3.length X rest) ∧ Aside0 (RowX bad w' w.heap.size 53 8 (.slice E5 l0_5.length d5) l0_5.length [] y5) ∧ Aside0 (SkAs bad w' w.heap.size l0_5 y5) ∧ Aside0 (x6 = (j3 : Int) ∧ j3 ≤ l0_3.length ∧ X.length = j3 * 6 ∧ RepEs ((l0_3.take j3).map (gE n)) X))
 case atStart => exact ⟨0, 0, [], y3, (by first | rfl | (simp; done)), ⟨by omega⟩, ⟨Nat.le_refl _⟩, n2_, n4_, n5_, nb_, nm_, q3_, q5_, qs_, ⟨rfl, Nat.zero_le _, by simp, by simpa using RepEs.nil⟩⟩
 case round =>
  clear n2_ n4_ n5_ nb_ nm_ q3_ q5_ qs_
  try clear p2
  obtain ⟨x6, j3, X, rest, rfl, HA1, HK1, BK2, BK4, BK5, HB, HM, R3, R5, SK, HJ⟩ := hrel
  cases gk with
  | zero => exact absurd HA1.out (Nat.not_lt_zero _)
  | succ k1 =>
   obtain ⟨hc23_0, hc23_1, hc23_2, hc23_3, hc23_4, hc23_5, hf23_0, hf23_1, hf23_2, hf23_3, hf23_4, hf23_5⟩ := cells6 BK2.out
   by_cases c3 : x6 < (l0_3.length : Int)
   ·have c3b0 : decide (x6 < (l0_3.length : Int)) = true := decide_eq_true c3
    have hj_ : x6 = (j3 : Int) := HJ.out.1
    have p_ : 0 ≤ x6 := by omega
    have q_ : x6 < (l0_3.length : Int) := c3
    have c4b0 : decide (0 ≤ x6) = true := decide_eq_true p_
    have HSQ := Aside0.mk (HQ.out.1.2 _ (rd33_mem l0_3 x6 j3 hj_ (by omega)))
    obtain ⟨g3, rfl⟩ := R3.out.slice_ (by omega)
    have LT_ := Aside0.mk (show x6.toNat * 6 + 6 ≤ l0_3.length * 6 ∧ x6.toNat = j3 ∧ j3 < l0_3.length from by omega)
    clear c3 hj_
    obtain ⟨ad, A_3, c_3, A_4, c_4, A_5, c_5, e_, hx0, hx1, hx2, hx3, hx4, hx5, hl3, hi3, hl4, hi4, hl5, hi5⟩ := at_T33 HA.out.1.1 x6 p_ q_
    cases e_
    have GC := Aside0.mk (And.intro hx0 (And.intro hx1 (And.intro hx2 (And.intro hx3 (And.intro hx4 hx5)))))
    have GA := Aside0.mk (And.intro (And.intro hi3 hl3) (And.intro (And.intro hi4 hl4) (And.intro hi5 hl5)))
    clear hx0 hx1 hx2 hx3 hx4 hx5 hl3 hi3 hl4 hi4 hl5 hi5
    replace p_ := eq_true p_
    replace q_ := eq_true q_
    try go_wp2
    have n2_ := Aside0.mk (blk_drew BK2.out)
    have n4_ := Aside0.mk (blk_drew BK4.out)
    have n5_ := Aside0.mk (blk_drew BK5.out)
    have nb_ := Aside0.mk (below_drew1 HB.out)
    have nm_ : Aside0 (mid ≤ wr.drew.heap.size) := ⟨HM.out⟩
    have dr_ := below_drew (Below.refl wr.heap.size wr)
    have q3_ := Aside0.mk (R3.out.below dr_)
    have q5_ := Aside0.mk (R5.out.below dr_)
    have qs_ := Aside0.mk (SK.out.later dr_)
    clear BK2 BK4 BK5 HB HM R3 R5 SK dr_
    have BK2 := n2_
    have BK4 := n4_
    have BK5 := n5_
    have HB := nb_
    have HM := nm_
    have R3 := q3_
    have R5 := q5_
    have SK := qs_
    clear n2_ n4_ n5_ nb_ nm_ q3_ q5_ qs_
    refine start_ (n := 12) (S := fun w' => Below w.heap.size w w' ∧ w'.heap[gb2]? = some (.cells #[.int .i64 a0_0, .string a0_1, .int .i64 a0_2, .slice (some ad) l0_3.length c0_3, .slice A0_4 l0_4.length c0_4, .slice A0_5 l0_5.length c0_5] 33 (0, 0)) ∧ w'.heap[gb5]? = some (.cells #[.int .i64 a0_0, .string a0_1, .int .i64 a0_2, .slice (some ⟨g3, 0, none⟩) l0_3.length d3, .slice E4 m4 d4, .slice E5 l0_5.length d5] 33 (0, 0))) (ds := [11]) #[false, false, false, false, false, false, false, false, false, false, false, false] (by kernel_rfl) rfl rfl ⟨HB.out, BK2.out, BK5.out⟩ (fun hHeld => ?_)
    generalize wr.drew = w13 at BK2 BK4 BK5 HB HM R3 R5 SK hHeld ⊢
    refine pure_ (i := 0) (N := some 17) (v := ?_) (a' := ?_) #[true, false, false, false, false, false, false, false, false, false, false, false] rfl rfl (by kernel_rfl) (fun _ _ _ h => h) (Or.inl ⟨by rfl, ?_⟩) ?_ ?_
    rotate_left
    ·intro w'
     go_simp
     with_reducible rfl
    rotate_left
    ·simp only [Act.put, List.setIfInBounds_toArray, List.set_cons_zero, List.set_cons_succ, i64_w, i32_w]
     rfl
    refine pure_ (i := 2) (N := some 19) (v := ?_) (a' := ?_) #[true, false, true, false, false, false, false, false, false, false, false, false] rfl rfl (by kernel_rfl) (fun _ _ _ h => h) (Or.inl ⟨by rfl, ?_⟩) ?_ ?_
    rotate_left
    ·intro w'
     go_simp
     with_reducible rfl
    rotate_left
    ·simp only [Act.put, List.setIfInBounds_toArray, List.set_cons_zero, List.set_cons_succ, i64_w, i32_w]
     rfl
    refine pure_ (i := 3) (N := some 20) (v := ?_) (a' := ?_) #[true, false, true, true, false, false, false, false, false, false, false, false] rfl rfl (by kernel_rfl) (fun _ _ _ h => h) (Or.inl ⟨by rfl, ?_⟩) ?_ ?_
    rotate_left
    ·intro w'
     go_simp
     with_reducible rfl
    rotate_left
    ·simp only [Act.put, List.setIfInBounds_toArray, List.set_cons_zero, List.set_cons_succ, i64_w, i32_w]
     rfl
    refine pure_ (i := 5) (N := some 22) (v := ?_) (a' := ?_) #[true, false, true, true, false, true, false, false, false, false, false, false] rfl rfl (by kernel_rfl) (fun _ _ _ h => h) (Or.inl ⟨by rfl, ?_⟩) ?_ ?_
    rotate_left
    ·intro w'
     go_simp
     with_reducible rfl
    rotate_left
    ·simp only [Act.put, List.setIfInBounds_toArray, List.set_cons_zero, List.set_cons_succ, i64_w, i32_w]
     rfl
    refine pure_ (i := 8) (N := some 25) (v := ?_) (a' := ?_) #[true, false, true, true, false, true, false, false, true, false, false, false] rfl rfl (by kernel_rfl) (fun _ _ _ h => h) (Or.inl ⟨by rfl, ?_⟩) ?_ ?_
    rotate_left
    ·intro w'
     go_simp
     with_reducible rfl
    rotate_left
    ·simp only [Act.put, List.setIfInBounds_toArray, List.set_cons_zero, List.set_cons_succ, i64_w, i32_w]
     rfl
    refine take_ (i := 1) (N := some 18) (v := ?_) (a' := ?_) #[true, true, true, true, false, true, false, false, true, false, false, false] rfl rfl (by kernel_rfl) (fun _ _ _ h => h) (Or.inl ⟨by rfl, ?_⟩) hHeld ?_ ?_
    rotate_left
    ·rintro w' ⟨hb_, h2_, h5_⟩
     have hc := (blk_cell h5_ 3).trans rfl
     go_simp
     with_reducible rfl
    rotate_left
    ·simp only [Act.put, List.setIfInBounds_toArray, List.set_cons_zero, List.set_cons_succ, i64_w, i32_w]
     rfl
    refine take_ (i := 4) (N := some 21) (v := ?_) (a' := ?_) #[true, true, true, true, true, true, false, false, true, false, false, false] rfl rfl (by kernel_rfl) (fun _ _ _ h => h) (Or.inl ⟨by rfl, ?_⟩) hHeld ?_ ?_
    rotate_left
    ·rintro w' ⟨hb_, h2_, h5_⟩
     have hc := (blk_cell h2_ 3).trans rfl
     go_simp
     with_reducible rfl
    rotate_left
    ·simp only [Act.put, List.setIfInBounds_toArray, List.set_cons_zero, List.set_cons_succ, i64_w, i32_w]
     rfl
    refine pure_ (i := 6) (N := some 23) (v := ?_) (a' := ?_) #[true, true, true, true, true, true, true, false, true, false, false, false] rfl rfl (by kernel_rfl) (fun _ _ _ h => h) (Or.inl ⟨by rfl, ?_⟩) ?_ ?_
    rotate_left
    ·intro w'
     go_simp
     with_reducible rfl
    rotate_left
    ·simp only [Act.put, List.setIfInBounds_toArray, List.set_cons_zero, List.set_cons_succ, i64_w, i32_w]
     rfl
    refine take_ (i := 7) (N := some 24) (v := ?_) (a' := ?_) #[true, true, true, true, true, true, true, true, true, false, false, false] rfl rfl (by kernel_rfl) (fun _ _ _ h => h) (Or.inl ⟨by rfl, ?_⟩) hHeld ?_ ?_
    rotate_left
    ·rintro w' ⟨hb_, h2_, h5_⟩
     obtain ⟨h0_, h1_, h3_, h4_, h6_, h7_⟩ := six_later hb_ GC.out
     go_simp
     with_reducible rfl
    rotate_left
    ·simp only [Act.put, List.setIfInBounds_toArray, List.set_cons_zero, List.set_cons_succ, i64_w, i32_w]
     rfl
    refine one_ (i := 9) (N := some 26) #[true, true, true, true, true, true, true, true, true, true, false, false] rfl rfl (by kernel_rfl) (by decide) (fun K hK => ?_)
    refine goes_ Try.func46 (by kernel_rfl) rfl #[.agg #[.int .i64 (rd_T33 l0_3 x6).f0, .string (rd_T33 l0_3 x6).f1, .int .i64 (rd_T33 l0_3 x6).f2, .slice A_3 (rd_T33 l0_3 x6).f3.length c_3, .slice A_4 (rd_T33 l0_3 x6).f4.length c_4, .slice A_5 (rd_T33 l0_3 x6).f5.length c_5], .int .i64 4] (by rfl) rfl rfl (by (try simp only [List.map_toArray, List.map_cons, List.map_nil, List.append_toArray, List.cons_append, List.nil_append]); first | done | rfl) ?_
    have hx_ := HB.out
    with_reducible refine (ih_E n (Nat.le_refl n) (rd_T33 l0_3 x6) _ _ _ _ _ _ _ ⟨⟨Kd.C_below GA.out.1.1 hx_, GA.out.1.2⟩, ⟨Kd.C_below GA.out.2.1.1 hx_, GA.out.2.1.2⟩, ⟨Kd.C_below GA.out.2.2.1 hx_, GA.out.2.2.2⟩⟩ HSQ.out).mono ?_
    rintro e w14 ⟨F3, f3, o3, F4, f4, o4, F5, f5, o5, rfl, hc, hb⟩
    refine ⟨_, rfl, ?_⟩
    have HE := Aside0.mk hc
    have HF := Aside0.mk (fun b hb => Nat.le_trans HM.out (hc.ge b hb))
    have HG := Aside0.mk (fun b hb => Nat.le_trans (below_size hx_) (hc.ge b hb))
    have n2_ := Aside0.mk (blk_below BK2.out hb)
    have n4_ := Aside0.mk (blk_below BK4.out hb)
    have n5_ := Aside0.mk (blk_below BK5.out hb)
    have nb_ := Aside0.mk (below_step HB.out hb)
    have nm_ := Aside0.mk (Nat.le_trans HM.out (below_size hb))
    have q3_ := Aside0.mk (R3.out.below hb)
    have q5_ := Aside0.mk (R5.out.below hb)
    have qs_ := Aside0.mk (SK.out.later hb)
    clear BK2 BK4 BK5 HB HM R3 R5 SK hb hc hx_
    have BK2 := n2_
    have BK4 := n4_
    have BK5 := n5_
    have HB := nb_
    have HM := nm_
    have R3 := q3_
    have R5 := q5_
    have SK := qs_
    clear n2_ n4_ n5_ nb_ nm_ q3_ q5_ qs_
    refine hK.out _ _ ⟨HB.out, BK2.out, BK5.out⟩ (fun hHeld => ?_)
    clear hK K
    refine norm_ (a' := ?_) ?_ ?_
    rotate_left
    ·show Act.put _ (some 26) _ = _
     simp only [Act.put, List.setIfInBounds_toArray, List.set_cons_zero, List.set_cons_succ, i64_w, i32_w]
     rfl
    refine pure_ (i := 10) (N := some 27) (v := ?_) (a' := ?_) #[true, true, true, true, true, true, true, true, true, true, true, false] rfl rfl (by kernel_rfl) (fun _ _ _ h => h) (Or.inl ⟨by rfl, ?_⟩) ?_ ?_
    rotate_left
    ·intro w'
     go_simp
     with_reducible rfl
    rotate_left
    ·simp only [Act.put, List.setIfInBounds_toArray, List.set_cons_zero, List.set_cons_succ, i64_w, i32_w]
     rfl
    refine last_ (i := 11) (N := none) #[true, true, true, true, true, true, true, true, true, true, true, true] rfl rfl (by kernel_rfl) (by decide) (fun K hK => ?_)
    obtain ⟨u0, u1, u2, u3, u4, u5, ⟨s0, s1, s2, s3, s4, s5⟩, ⟨t0, t1, t2, t3, t4, t5⟩⟩ := R3.out.cells6 (o := x6.toNat * 6) (by have := LT_.out; omega)
    have hs0 : w14.cell? ⟨g3, x6.toNat * 6, none⟩ = some u0 := s0
    have hf0 : w14.frozen? ⟨g3, x6.toNat * 6, none⟩ = false := t0
    have hs1 : w14.cell? ⟨g3, x6.toNat * 6 + 1, none⟩ = some u1 := s1
    have hf1 : w14.frozen? ⟨g3, x6.toNat * 6 + 1, none⟩ = false := t1
    have hs2 : w14.cell? ⟨g3, x6.toNat * 6 + 2, none⟩ = some u2 := s2
    have hf2 : w14.frozen? ⟨g3, x6.toNat * 6 + 2, none⟩ = false := t2
    have hs3 : w14.cell? ⟨g3, x6.toNat * 6 + 3, none⟩ = some u3 := s3
    have hf3 : w14.frozen? ⟨g3, x6.toNat * 6 + 3, none⟩ = false := t3
    have hs4 : w14.cell? ⟨g3, x6.toNat * 6 + 4, none⟩ = some u4 := s4
    have hf4 : w14.frozen? ⟨g3, x6.toNat * 6 + 4, none⟩ = false := t4
    have hs5 : w14.cell? ⟨g3, x6.toNat * 6 + 5, none⟩ = some u5 := s5
    have hf5 : w14.frozen? ⟨g3, x6.toNat * 6 + 5, none⟩ = false := t5
    clear s0 s1 s2 s3 s4 s5 t0 t1 t2 t3 t4 t5
    refine skip_ (w1 := ?_) (by rfl) rfl ?_ ?_
    rotate_left
    ·go_simp
     rfl
    refine hK.out _ _ ?_
    clear hK K
    refine done_ (by kernel_rfl) ?_
    have n2_ : Aside0 (((((((w14.setCell ⟨g3, x6.toNat * 6, none⟩ (.int .i64 (gE n (rd_T33 l0_3 x6)).f0)).setCell ⟨g3, x6.toNat * 6 + 1, none⟩ (.string (gE n (rd_T33 l0_3 x6)).f1)).setCell ⟨g3, x6.toNat * 6 + 2, none⟩ (.int .i64 (gE n (rd_T33 l0_3 x6)).f2)).setCell ⟨g3, x6.toNat * 6 + 3, none⟩ (.slice F3 (gE n (rd_T33 l0_3 x6)).f3.length f3)).setCell ⟨g3, x6.toNat * 6 + 4, none⟩ (.slice F4 (gE n (rd_T33 l0_3 x6)).f4.length f4)).setCell ⟨g3, x6.toNat * 6 + 5, none⟩ (.slice F5 (gE n (rd_T33 l0_3 x6)).f5.length f5)).heap[gb2]? = some (.cells #[.int .i64 a0_0, .string a0_1, .int .i64 a0_2, .slice (some ad) l0_3.length c0_3, .slice A0_4 l0_4.length c0_4, .slice A0_5 l0_5.length c0_5] 33 (0, 0))) := ⟨(puts_block (g := g3) [.int .i64 (gE n (rd_T33 l0_3 x6)).f0, .string (gE n (rd_T33 l0_3 x6)).f1, .int .i64 (gE n (rd_T33 l0_3 x6)).f2, .slice F3 (gE n (rd_T33 l0_3 x6)).f3.length f3, .slice F4 (gE n (rd_T33 l0_3 x6)).f4.length f4, .slice F5 (gE n (rd_T33 l0_3 x6)).f5.length f5] w14 (x6.toNat * 6) gb2 (Nat.ne_of_lt (G3.out g3 rfl))).trans BK2.out⟩
    have n4_ : Aside0 (((((((w14.setCell ⟨g3, x6.toNat * 6, none⟩ (.int .i64 (gE n (rd_T33 l0_3 x6)).f0)).setCell ⟨g3, x6.toNat * 6 + 1, none⟩ (.string (gE n (rd_T33 l0_3 x6)).f1)).setCell ⟨g3, x6.toNat * 6 + 2, none⟩ (.int .i64 (gE n (rd_T33 l0_3 x6)).f2)).setCell ⟨g3, x6.toNat * 6 + 3, none⟩ (.slice F3 (gE n (rd_T33 l0_3 x6)).f3.length f3)).setCell ⟨g3, x6.toNat * 6 + 4, none⟩ (.slice F4 (gE n (rd_T33 l0_3 x6)).f4.length f4)).setCell ⟨g3, x6.toNat * 6 + 5, none⟩ (.slice F5 (gE n (rd_T33 l0_3 x6)).f5.length f5)).heap[gb4]? = some (.cells #[.int .i64 0, .string (⟨#[]⟩ : ByteArray), .int .i64 0, .slice none 0 0, .slice none 0 0, .slice none 0 0] 33 (0, 0))) := ⟨(puts_block (g := g3) [.int .i64 (gE n (rd_T33 l0_3 x6)).f0, .string (gE n (rd_T33 l0_3 x6)).f1, .int .i64 (gE n (rd_T33 l0_3 x6)).f2, .slice F3 (gE n (rd_T33 l0_3 x6)).f3.length f3, .slice F4 (gE n (rd_T33 l0_3 x6)).f4.length f4, .slice F5 (gE n (rd_T33 l0_3 x6)).f5.length f5] w14 (x6.toNat * 6) gb4 (fun e => (O3.out g3 rfl).1 e.symm)).trans BK4.out⟩
    have n5_ : Aside0 (((((((w14.setCell ⟨g3, x6.toNat * 6, none⟩ (.int .i64 (gE n (rd_T33 l0_3 x6)).f0)).setCell ⟨g3, x6.toNat * 6 + 1, none⟩ (.string (gE n (rd_T33 l0_3 x6)).f1)).setCell ⟨g3, x6.toNat * 6 + 2, none⟩ (.int .i64 (gE n (rd_T33 l0_3 x6)).f2)).setCell ⟨g3, x6.toNat * 6 + 3, none⟩ (.slice F3 (gE n (rd_T33 l0_3 x6)).f3.length f3)).setCell ⟨g3, x6.toNat * 6 + 4, none⟩ (.slice F4 (gE n (rd_T33 l0_3 x6)).f4.length f4)).setCell ⟨g3, x6.toNat * 6 + 5, none⟩ (.slice F5 (gE n (rd_T33 l0_3 x6)).f5.length f5)).heap[gb5]? = some (.cells #[.int .i64 a0_0, .string a0_1, .int .i64 a0_2, .slice (some ⟨g3, 0, none⟩) l0_3.length d3, .slice E4 m4 d4, .slice E5 l0_5.length d5] 33 (0, 0))) := ⟨(puts_block (g := g3) [.int .i64 (gE n (rd_T33 l0_3 x6)).f0, .string (gE n (rd_T33 l0_3 x6)).f1, .int .i64 (gE n (rd_T33 l0_3 x6)).f2, .slice F3 (gE n (rd_T33 l0_3 x6)).f3.length f3, .slice F4 (gE n (rd_T33 l0_3 x6)).f4.length f4, .slice F5 (gE n (rd_T33 l0_3 x6)).f5.length f5] w14 (x6.toNat * 6) gb5 (fun e => (O3.out g3 rfl).2.1 e.symm)).trans BK5.out⟩
    have nb_ : Aside0 (Below w.heap.size w ((((((w14.setCell ⟨g3, x6.toNat * 6, none⟩ (.int .i64 (gE n (rd_T33 l0_3 x6)).f0)).setCell ⟨g3, x6.toNat * 6 + 1, none⟩ (.string (gE n (rd_T33 l0_3 x6)).f1)).setCell ⟨g3, x6.toNat * 6 + 2, none⟩ (.int .i64 (gE n (rd_T33 l0_3 x6)).f2)).setCell ⟨g3, x6.toNat * 6 + 3, none⟩ (.slice F3 (gE n (rd_T33 l0_3 x6)).f3.length f3)).setCell ⟨g3, x6.toNat * 6 + 4, none⟩ (.slice F4 (gE n (rd_T33 l0_3 x6)).f4.length f4)).setCell ⟨g3, x6.toNat * 6 + 5, none⟩ (.slice F5 (gE n (rd_T33 l0_3 x6)).f5.length f5))) := ⟨puts_below (Nat.le_trans GE2.out (Nat.le_of_lt (G3.out g3 rfl))) [.int .i64 (gE n (rd_T33 l0_3 x6)).f0, .string (gE n (rd_T33 l0_3 x6)).f1, .int .i64 (gE n (rd_T33 l0_3 x6)).f2, .slice F3 (gE n (rd_T33 l0_3 x6)).f3.length f3, .slice F4 (gE n (rd_T33 l0_3 x6)).f4.length f4, .slice F5 (gE n (rd_T33 l0_3 x6)).f5.length f5] w14 (x6.toNat * 6) HB.out⟩
    have nm_ : Aside0 (mid ≤ ((((((w14.setCell ⟨g3, x6.toNat * 6, none⟩ (.int .i64 (gE n (rd_T33 l0_3 x6)).f0)).setCell ⟨g3, x6.toNat * 6 + 1, none⟩ (.string (gE n (rd_T33 l0_3 x6)).f1)).setCell ⟨g3, x6.toNat * 6 + 2, none⟩ (.int .i64 (gE n (rd_T33 l0_3 x6)).f2)).setCell ⟨g3, x6.toNat * 6 + 3, none⟩ (.slice F3 (gE n (rd_T33 l0_3 x6)).f3.length f3)).setCell ⟨g3, x6.toNat * 6 + 4, none⟩ (.slice F4 (gE n (rd_T33 l0_3 x6)).f4.length f4)).setCell ⟨g3, x6.toNat * 6 + 5, none⟩ (.slice F5 (gE n (rd_T33 l0_3 x6)).f5.length f5)).heap.size) := ⟨Nat.le_trans HM.out (Nat.le_of_eq (puts_size (g := g3) [.int .i64 (gE n (rd_T33 l0_3 x6)).f0, .string (gE n (rd_T33 l0_3 x6)).f1, .int .i64 (gE n (rd_T33 l0_3 x6)).f2, .slice F3 (gE n (rd_T33 l0_3 x6)).f3.length f3, .slice F4 (gE n (rd_T33 l0_3 x6)).f4.length f4, .slice F5 (gE n (rd_T33 l0_3 x6)).f5.length f5] w14 (x6.toNat * 6)).symm)⟩
    have q3_ : Aside0 (RowX bad ((((((w14.setCell ⟨g3, x6.toNat * 6, none⟩ (.int .i64 (gE n (rd_T33 l0_3 x6)).f0)).setCell ⟨g3, x6.toNat * 6 + 1, none⟩ (.string (gE n (rd_T33 l0_3 x6)).f1)).setCell ⟨g3, x6.toNat * 6 + 2, none⟩ (.int .i64 (gE n (rd_T33 l0_3 x6)).f2)).setCell ⟨g3, x6.toNat * 6 + 3, none⟩ (.slice F3 (gE n (rd_T33 l0_3 x6)).f3.length f3)).setCell ⟨g3, x6.toNat * 6 + 4, none⟩ (.slice F4 (gE n (rd_T33 l0_3 x6)).f4.length f4)).setCell ⟨g3, x6.toNat * 6 + 5, none⟩ (.slice F5 (gE n (rd_T33 l0_3 x6)).f5.length f5)) w.heap.size 33 6 (.slice (some ⟨g3, 0, none⟩) l0_3.length d3) l0_3.length (X ++ [.i (gE n (rd_T33 l0_3 x6)).f0, .s (gE n (rd_T33 l0_3 x6)).f1, .i (gE n (rd_T33 l0_3 x6)).f2, .r 33 6 (.slice F3 (gE n (rd_T33 l0_3 x6)).f3.length f3) (gE n (rd_T33 l0_3 x6)).f3.length o3, .r 68 9 (.slice F4 (gE n (rd_T33 l0_3 x6)).f4.length f4) (gE n (rd_T33 l0_3 x6)).f4.length o4, .r 53 8 (.slice F5 (gE n (rd_T33 l0_3 x6)).f5.length f5) (gE n (rd_T33 l0_3 x6)).f5.length o5]) (rest.drop 6)) := ⟨R3.out.push (BE3.out g3 rfl) [.i (gE n (rd_T33 l0_3 x6)).f0, .s (gE n (rd_T33 l0_3 x6)).f1, .i (gE n (rd_T33 l0_3 x6)).f2, .r 33 6 (.slice F3 (gE n (rd_T33 l0_3 x6)).f3.length f3) (gE n (rd_T33 l0_3 x6)).f3.length o3, .r 68 9 (.slice F4 (gE n (rd_T33 l0_3 x6)).f4.length f4) (gE n (rd_T33 l0_3 x6)).f4.length o4, .r 53 8 (.slice F5 (gE n (rd_T33 l0_3 x6)).f5.length f5) (gE n (rd_T33 l0_3 x6)).f5.length o5] (by have h_ := R3.out.len; have := LT_.out; have := HJ.out.2.2.1; simp only [List.length_cons, List.length_nil]; omega) (by have h_ := HE.out.at_; simp only [AtL, and_true] at h_ ⊢; exact ⟨by simp only [It.At], by simp only [It.At], by simp only [It.At], h_⟩) (fun b hb => by have h_ : b ∈ blksL (rows3 F3 (gE n (rd_T33 l0_3 x6)).f3.length f3 o3 F4 (gE n (rd_T33 l0_3 x6)).f4.length f4 o4 F5 (gE n (rd_T33 l0_3 x6)).f5.length f5 o5) := (by simpa only [blksL, It.blks, List.nil_append] using hb); exact ⟨HG.out b h_, fun hb_ => Nat.lt_irrefl _ (Nat.lt_of_lt_of_le (RB.out b hb_) (HF.out b h_))⟩) (x6.toNat * 6) (by have := LT_.out; have := HJ.out.2.2.1; omega) [.int .i64 (gE n (rd_T33 l0_3 x6)).f0, .string (gE n (rd_T33 l0_3 x6)).f1, .int .i64 (gE n (rd_T33 l0_3 x6)).f2, .slice F3 (gE n (rd_T33 l0_3 x6)).f3.length f3, .slice F4 (gE n (rd_T33 l0_3 x6)).f4.length f4, .slice F5 (gE n (rd_T33 l0_3 x6)).f5.length f5] rfl⟩
    have q5_ : Aside0 (RowX bad ((((((w14.setCell ⟨g3, x6.toNat * 6, none⟩ (.int .i64 (gE n (rd_T33 l0_3 x6)).f0)).setCell ⟨g3, x6.toNat * 6 + 1, none⟩ (.string (gE n (rd_T33 l0_3 x6)).f1)).setCell ⟨g3, x6.toNat * 6 + 2, none⟩ (.int .i64 (gE n (rd_T33 l0_3 x6)).f2)).setCell ⟨g3, x6.toNat * 6 + 3, none⟩ (.slice F3 (gE n (rd_T33 l0_3 x6)).f3.length f3)).setCell ⟨g3, x6.toNat * 6 + 4, none⟩ (.slice F4 (gE n (rd_T33 l0_3 x6)).f4.length f4)).setCell ⟨g3, x6.toNat * 6 + 5, none⟩ (.slice F5 (gE n (rd_T33 l0_3 x6)).f5.length f5)) w.heap.size 53 8 (.slice E5 l0_5.length d5) l0_5.length [] y5) := ⟨R5.out.puts (BE3.out g3 rfl) (O3.out g3 rfl).2.2 (x6.toNat * 6) [.int .i64 (gE n (rd_T33 l0_3 x6)).f0, .string (gE n (rd_T33 l0_3 x6)).f1, .int .i64 (gE n (rd_T33 l0_3 x6)).f2, .slice F3 (gE n (rd_T33 l0_3 x6)).f3.length f3, .slice F4 (gE n (rd_T33 l0_3 x6)).f4.length f4, .slice F5 (gE n (rd_T33 l0_3 x6)).f5.length f5]⟩
    have qs_ : Aside0 (SkAs bad ((((((w14.setCell ⟨g3, x6.toNat * 6, none⟩ (.int .i64 (gE n (rd_T33 l0_3 x6)).f0)).setCell ⟨g3, x6.toNat * 6 + 1, none⟩ (.string (gE n (rd_T33 l0_3 x6)).f1)).setCell ⟨g3, x6.toNat * 6 + 2, none⟩ (.int .i64 (gE n (rd_T33 l0_3 x6)).f2)).setCell ⟨g3, x6.toNat * 6 + 3, none⟩ (.slice F3 (gE n (rd_T33 l0_3 x6)).f3.length f3)).setCell ⟨g3, x6.toNat * 6 + 4, none⟩ (.slice F4 (gE n (rd_T33 l0_3 x6)).f4.length f4)).setCell ⟨g3, x6.toNat * 6 + 5, none⟩ (.slice F5 (gE n (rd_T33 l0_3 x6)).f5.length f5)) w.heap.size l0_5 y5) := ⟨SK.out.puts (BE3.out g3 rfl) (x6.toNat * 6) [.int .i64 (gE n (rd_T33 l0_3 x6)).f0, .string (gE n (rd_T33 l0_3 x6)).f1, .int .i64 (gE n (rd_T33 l0_3 x6)).f2, .slice F3 (gE n (rd_T33 l0_3 x6)).f3.length f3, .slice F4 (gE n (rd_T33 l0_3 x6)).f4.length f4, .slice F5 (gE n (rd_T33 l0_3 x6)).f5.length f5]⟩
    clear BK2 BK4 BK5 HB HM R3 R5 SK hs0 hs1 hs2 hs3 hs4 hs5 hf0 hf1 hf2 hf3 hf4 hf5 hHeld
    generalize ((((((w14.setCell ⟨g3, x6.toNat * 6, none⟩ (.int .i64 (gE n (rd_T33 l0_3 x6)).f0)).setCell ⟨g3, x6.toNat * 6 + 1, none⟩ (.string (gE n (rd_T33 l0_3 x6)).f1)).setCell ⟨g3, x6.toNat * 6 + 2, none⟩ (.int .i64 (gE n (rd_T33 l0_3 x6)).f2)).setCell ⟨g3, x6.toNat * 6 + 3, none⟩ (.slice F3 (gE n (rd_T33 l0_3 x6)).f3.length f3)).setCell ⟨g3, x6.toNat * 6 + 4, none⟩ (.slice F4 (gE n (rd_T33 l0_3 x6)).f4.length f4)).setCell ⟨g3, x6.toNat * 6 + 5, none⟩ (.slice F5 (gE n (rd_T33 l0_3 x6)).f5.length f5)) = w15 at n2_ n4_ n5_ nb_ nm_ q3_ q5_ qs_ ⊢
    try go_wp2
    go_roundg k1
    case measure => have := HK1.out; omega
    case rel => exact ⟨(wrap64 (x6 + 1)), j3 + 1, X ++ [.i (gE n (rd_T33 l0_3 x6)).f0, .s (gE n (rd_T33 l0_3 x6)).f1, .i (gE n (rd_T33 l0_3 x6)).f2, .r 33 6 (.slice F3 (gE n (rd_T33 l0_3 x6)).f3.length f3) (gE n (rd_T33 l0_3 x6)).f3.length o3, .r 68 9 (.slice F4 (gE n (rd_T33 l0_3 x6)).f4.length f4) (gE n (rd_T33 l0_3 x6)).f4.length o4, .r 53 8 (.slice F5 (gE n (rd_T33 l0_3 x6)).f5.length f5) (gE n (rd_T33 l0_3 x6)).f5.length o5], rest.drop 6, (by first | rfl | (simp; done) | (simp [*]; done)), ⟨by have := HA1.out; have := LT_.out; omega⟩, ⟨by have := HK1.out; omega⟩, n2_, n4_, n5_, nb_, nm_, q3_, q5_, qs_, ⟨by rw [HJ.out.1]; have := LT_.out; have := HQ.out.1.1; unfold wrap64; omega, by have := LT_.out; omega, by rw [List.length_append, HJ.out.2.2.1]; simp only [List.length_cons, List.length_nil]; omega, by rw [take_snoc l0_3 j3 (by have := LT_.out; omega), List.map_append, List.map_cons, List.map_nil]; refine HJ.out.2.2.2.snoc ?_; rw [← rdE_at l0_3 x6 j3 HJ.out.1 (by have := LT_.out; omega)]; exact RepE.mk HE.out.r3 HE.out.r4 HE.out.r5⟩⟩
   ·have c3b0 : decide (x6 < (l0_3.length : Int)) = false := decide_eq_false c3
    have R3F : Aside0 (RowX bad wr w.heap.size 33 6 (.slice E3 l0_3.length d3) l0_3.length X [] ∧ RepEs (l0_3.map (gE n)) X) := ⟨by
     obtain ⟨h1, h2, h3, h4⟩ := HJ.out
     have hj : j3 = l0_3.length := by omega
     have hl := R3.out.len
     have hr : rest = [] := List.eq_nil_of_length_eq_zero (by omega)
     refine ⟨hr ▸ R3.out, ?_⟩
     rw [hj, List.take_length] at h4
     exact h4⟩
    clear c3 R3 HJ HA1
    have R3 := Aside0.mk R3F.out.1
    have RP3 := Aside0.mk R3F.out.2
    clear R3F
    go_wp2
    go_loopg [7] (l0_5.length + 1) (fun kq v7 w' => ∃ (x7 : Int) (j5 : Nat) (Y : List It) (rest : List Value), v7 = .int .i64 x7 ∧ Aside0 (l0_5.length - j5 < kq) ∧ Aside0 (kq ≤ l0_5.length + 1) ∧ Aside0 (w'.heap[gb2]? = some (.cells #[.int .i64 a0_0, .string a0_1, .int .i64 a0_2, .slice A0_3 l0_3.length c0_3, .slice A0_4 l0_4.length c0_4, .slice A0_5 l0_5.length c0_5] 33 (0, 0))) ∧ Aside0 (w'.heap[gb4]? = some (.cells #[.int .i64 0, .string (⟨#[]⟩ : ByteArray), .int .i64 0, .slice none 0 0, .slice none 0 0, .slice none 0 0] 33 (0, 0))) ∧ Aside0 (w'.heap[gb5]? = some (.cells #[.int .i64 a0_0, .string a0_1, .int .i64 a0_2, .slice E3 l0_3.length d3, .slice E4 m4 d4, .slice E5 l0_5.length d5] 33 (0, 0))) ∧ Aside0 (Below w.heap.size w w') ∧ Aside0 (mid ≤ w'.heap.size) ∧ Aside0 (RowX bad w' w.heap.size 33 6 (.slice E3 l0_3.length d3) l0_3.length X []) ∧ Aside0 (RowX bad w' w.heap.size 53 8 (.slice E5 l0_5.length d5) l0_5.length Y rest) ∧ Aside0 (SkAs bad w' w.heap.size (l0_5.drop j5) rest) ∧ Aside0 (x7 = (j5 : Int) ∧ j5 ≤ l0_5.length ∧ Y.length = j5 * 8 ∧ RepAs ((l0_5.take j5).map (gA n)) Y))
    case atStart => exact ⟨0, 0, [], y5, (by first | rfl | (simp; done)), ⟨by omega⟩, ⟨Nat.le_refl _⟩, BK2, BK4, BK5, HB, HM, R3, R5, ⟨by simpa using SK.out⟩, ⟨rfl, Nat.zero_le _, by simp, by simpa using RepAs.nil⟩⟩
    case round =>
     clear BK2 BK4 BK5 HB HM R3 R5 SK c3b0 HK1
     try clear p2
     obtain ⟨x7, j5, Y, rest, rfl, HA1, HK1, BK2, BK4, BK5, HB, HM, R3, R5, SK, HJ⟩ := hrel
     cases gk with
     | zero => exact absurd HA1.out (Nat.not_lt_zero _)
     | succ k1 =>
      obtain ⟨hc24_0, hc24_1, hc24_2, hc24_3, hc24_4, hc24_5, hf24_0, hf24_1, hf24_2, hf24_3, hf24_4, hf24_5⟩ := cells6 BK2.out
      by_cases c3 : x7 < (l0_5.length : Int)
      ·have c3b0 : decide (x7 < (l0_5.length : Int)) = true := decide_eq_true c3
       have hj_ : x7 = (j5 : Int) := HJ.out.1
       have p_ : 0 ≤ x7 := by omega
       have q_ : x7 < (l0_5.length : Int) := c3
       have c4b0 : decide (0 ≤ x7) = true := decide_eq_true p_
       have hm_ : (rd_T53 l0_5 x7) ∈ l0_5 := rd53_mem l0_5 x7 j5 hj_ (by omega)
       obtain ⟨n1, rfl⟩ : ∃ q, n = q + 1 := by
        cases n with
        | zero => exact absurd (HQ.out.2.2.2 _ hm_) (by simp [SqA])
        | succ q => exact ⟨q, rfl⟩
       have hsq := HQ.out.2.2.2 _ hm_
       rw [SqA] at hsq
       have HSQ := Aside0.mk hsq.2
       obtain ⟨g5, rfl⟩ := R5.out.slice_ (by omega)
       have LT_ := Aside0.mk (show x7.toNat * 8 + 8 ≤ l0_5.length * 8 ∧ x7.toNat = j5 ∧ j5 < l0_5.length from by omega)
       have hsk_ := SK.out
       rw [List.drop_eq_getElem_cons (by omega : j5 < l0_5.length), ← rdA_at l0_5 x7 j5 hj_ (by omega)] at hsk_
       clear c3 hj_ hm_ hsq SK
       cases hsk_ with
       | cons hv_ hk_ hs_ =>
        rename_i v1 z0 z1 z2 z3 z4 z5 cs
        have r5_ := (RowX.keep (x := .s (rd_T53 l0_5 x7).f0) R5.out (by simp only [It.At]) (fun b hb => by simp [It.blks] at hb)).keep (x := .r 9 1 v1 (rd_T53 l0_5 x7).f1.length ((rd_T53 l0_5 x7).f1.map It.s)) hv_ hk_
        clear R5
        have R5 := Aside0.mk r5_
        have SK := Aside0.mk hs_
        clear r5_ hs_ hv_ hk_
        obtain ⟨ad, A_1, c_1, A_3, c_3, A_4, c_4, A_5, c_5, e_, hx0, hx1, hx2, hx3, hx4, hx5, hx6, hx7, hl1, hi1, hl3, hi3, hl4, hi4, hl5, hi5⟩ := at_T53 HA.out.2.2.1 x7 p_ q_
        cases e_
        have GC := Aside0.mk (And.intro hx2 (And.intro hx3 (And.intro hx4 (And.intro hx5 (And.intro hx6 hx7)))))
        have GA := Aside0.mk (And.intro (And.intro hi3 hl3) (And.intro (And.intro hi4 hl4) (And.intro hi5 hl5)))
        clear hx0 hx1 hx2 hx3 hx4 hx5 hx6 hx7 hl1 hi1 hl3 hi3 hl4 hi4 hl5 hi5
        replace p_ := eq_true p_
        replace q_ := eq_true q_
        try go_wp2
        have n2_ := Aside0.mk (blk_drew BK2.out)
        have n4_ := Aside0.mk (blk_drew BK4.out)
        have n5_ := Aside0.mk (blk_drew BK5.out)
        have nb_ := Aside0.mk (below_drew1 HB.out)
        have nm_ : Aside0 (mid ≤ wr.drew.heap.size) := ⟨HM.out⟩
        have dr_ := below_drew (Below.refl wr.heap.size wr)
        have q3_ := Aside0.mk (R3.out.below dr_)
        have q5_ := Aside0.mk (R5.out.below dr_)
        have qs_ := Aside0.mk (SK.out.later dr_)
        clear BK2 BK4 BK5 HB HM R3 R5 SK dr_
        have BK2 := n2_
        have BK4 := n4_
        have BK5 := n5_
        have HB := nb_
        have HM := nm_
        have R3 := q3_
        have R5 := q5_
        have SK := qs_
        clear n2_ n4_ n5_ nb_ nm_ q3_ q5_ qs_
        refine start_ (n := 14) (S := fun w' => Below w.heap.size w w' ∧ w'.heap[gb2]? = some (.cells #[.int .i64 a0_0, .string a0_1, .int .i64 a0_2, .slice A0_3 l0_3.length c0_3, .slice A0_4 l0_4.length c0_4, .slice (some ad) l0_5.length c0_5] 33 (0, 0)) ∧ w'.heap[gb5]? = some (.cells #[.int .i64 a0_0, .string a0_1, .int .i64 a0_2, .slice E3 l0_3.length d3, .slice E4 m4 d4, .slice (some ⟨g5, 0, none⟩) l0_5.length d5] 33 (0, 0))) (ds := [13]) #[false, false, false, false, false, false, false, false, false, false, false, false, false, false] (by kernel_rfl) rfl rfl ⟨HB.out, BK2.out, BK5.out⟩ (fun hHeld => ?_)
        generalize wr.drew = w13 at BK2 BK4 BK5 HB HM R3 R5 SK hHeld ⊢
        refine pure_ (i := 0) (N := some 35) (v := ?_) (a' := ?_) #[true, false, false, false, false, false, false, false, false, false, false, false, false, false] rfl rfl (by kernel_rfl) (fun _ _ _ h => h) (Or.inl ⟨by rfl, ?_⟩) ?_ ?_
        rotate_left
        ·intro w'
         go_simp
         with_reducible rfl
        rotate_left
        ·simp only [Act.put, List.setIfInBounds_toArray, List.set_cons_zero, List.set_cons_succ, i64_w, i32_w]
         rfl
        refine pure_ (i := 2) (N := some 37) (v := ?_) (a' := ?_) #[true, false, true, false, false, false, false, false, false, false, false, false, false, false] rfl rfl (by kernel_rfl) (fun _ _ _ h => h) (Or.inl ⟨by rfl, ?_⟩) ?_ ?_
        rotate_left
        ·intro w'
         go_simp
         with_reducible rfl
        rotate_left
        ·simp only [Act.put, List.setIfInBounds_toArray, List.set_cons_zero, List.set_cons_succ, i64_w, i32_w]
         rfl
        refine pure_ (i := 3) (N := some 38) (v := ?_) (a' := ?_) #[true, false, true, true, false, false, false, false, false, false, false, false, false, false] rfl rfl (by kernel_rfl) (fun _ _ _ h => h) (Or.inl ⟨by rfl, ?_⟩) ?_ ?_
        rotate_left
        ·intro w'
         go_simp
         with_reducible rfl
        rotate_left
        ·simp only [Act.put, List.setIfInBounds_toArray, List.set_cons_zero, List.set_cons_succ, i64_w, i32_w]
         rfl
        refine pure_ (i := 5) (N := some 40) (v := ?_) (a' := ?_) #[true, false, true, true, false, true, false, false, false, false, false, false, false, false] rfl rfl (by kernel_rfl) (fun _ _ _ h => h) (Or.inl ⟨by rfl, ?_⟩) ?_ ?_
        rotate_left
        ·intro w'
         go_simp
         with_reducible rfl
        rotate_left
        ·simp only [Act.put, List.setIfInBounds_toArray, List.set_cons_zero, List.set_cons_succ, i64_w, i32_w]
         rfl
        refine pure_ (i := 9) (N := some 44) (v := ?_) (a' := ?_) #[true, false, true, true, false, true, false, false, false, true, false, false, false, false] rfl rfl (by kernel_rfl) (fun _ _ _ h => h) (Or.inl ⟨by rfl, ?_⟩) ?_ ?_
        rotate_left
        ·intro w'
         go_simp
         with_reducible rfl
        rotate_left
        ·simp only [Act.put, List.setIfInBounds_toArray, List.set_cons_zero, List.set_cons_succ, i64_w, i32_w]
         rfl
        refine take_ (i := 1) (N := some 36) (v := ?_) (a' := ?_) #[true, true, true, true, false, true, false, false, false, true, false, false, false, false] rfl rfl (by kernel_rfl) (fun _ _ _ h => h) (Or.inl ⟨by rfl, ?_⟩) hHeld ?_ ?_
        rotate_left
        ·rintro w' ⟨hb_, h2_, h5_⟩
         have hc := (blk_cell h5_ 5).trans rfl
         go_simp
         with_reducible rfl
        rotate_left
        ·simp only [Act.put, List.setIfInBounds_toArray, List.set_cons_zero, List.set_cons_succ, i64_w, i32_w]
         rfl
        refine take_ (i := 4) (N := some 39) (v := ?_) (a' := ?_) #[true, true, true, true, true, true, false, false, false, true, false, false, false, false] rfl rfl (by kernel_rfl) (fun _ _ _ h => h) (Or.inl ⟨by rfl, ?_⟩) hHeld ?_ ?_
        rotate_left
        ·rintro w' ⟨hb_, h2_, h5_⟩
         have hc := (blk_cell h2_ 5).trans rfl
         go_simp
         with_reducible rfl
        rotate_left
        ·simp only [Act.put, List.setIfInBounds_toArray, List.set_cons_zero, List.set_cons_succ, i64_w, i32_w]
         rfl
        refine pure_ (i := 6) (N := some 41) (v := ?_) (a' := ?_) #[true, true, true, true, true, true, true, false, false, true, false, false, false, false] rfl rfl (by kernel_rfl) (fun _ _ _ h => h) (Or.inl ⟨by rfl, ?_⟩) ?_ ?_
        rotate_left
        ·intro w'
         go_simp
         with_reducible rfl
        rotate_left
        ·simp only [Act.put, List.setIfInBounds_toArray, List.set_cons_zero, List.set_cons_succ, i64_w, i32_w]
         rfl
        refine pure_ (i := 7) (N := some 42) (v := ?_) (a' := ?_) #[true, true, true, true, true, true, true, true, false, true, false, false, false, false] rfl rfl (by kernel_rfl) (fun _ _ _ h => h) (Or.inl ⟨by rfl, ?_⟩) ?_ ?_
        rotate_left
        ·intro w'
         go_simp
         with_reducible rfl
        rotate_left
        ·simp only [Act.put, List.setIfInBounds_toArray, List.set_cons_zero, List.set_cons_succ, i64_w, i32_w]
         rfl
        refine take_ (i := 8) (N := some 43) (v := ?_) (a' := ?_) #[true, true, true, true, true, true, true, true, true, true, false, false, false, false] rfl rfl (by kernel_rfl) (fun _ _ _ h => h) (Or.inl ⟨by rfl, ?_⟩) hHeld ?_ ?_
        rotate_left
        ·rintro w' ⟨hb_, h2_, h5_⟩
         obtain ⟨h0_, h1_, h3_, h4_, h6_, h7_⟩ := six_later hb_ GC.out
         go_simp
         with_reducible rfl
        rotate_left
        ·simp only [Act.put, List.setIfInBounds_toArray, List.set_cons_zero, List.set_cons_succ, i64_w, i32_w]
         rfl
        refine one_ (i := 10) (N := some 45) #[true, true, true, true, true, true, true, true, true, true, true, false, false, false] rfl rfl (by kernel_rfl) (by decide) (fun K hK => ?_)
        refine goes_ Try.func46 (by kernel_rfl) rfl #[.agg #[.int .i64 (rd_T53 l0_5 x7).f2.f0, .string (rd_T53 l0_5 x7).f2.f1, .int .i64 (rd_T53 l0_5 x7).f2.f2, .slice A_3 (rd_T53 l0_5 x7).f2.f3.length c_3, .slice A_4 (rd_T53 l0_5 x7).f2.f4.length c_4, .slice A_5 (rd_T53 l0_5 x7).f2.f5.length c_5], .int .i64 4] (by rfl) rfl rfl (by (try simp only [List.map_toArray, List.map_cons, List.map_nil, List.append_toArray, List.cons_append, List.nil_append]); first | done | rfl) ?_
        have hx_ := HB.out
        with_reducible refine (ih_E n1 (Nat.le_succ n1) ((rd_T53 l0_5 x7).f2) _ _ _ _ _ _ _ ⟨⟨Kd.C_below GA.out.1.1 hx_, GA.out.1.2⟩, ⟨Kd.C_below GA.out.2.1.1 hx_, GA.out.2.1.2⟩, ⟨Kd.C_below GA.out.2.2.1 hx_, GA.out.2.2.2⟩⟩ HSQ.out).mono ?_
        rintro e w14 ⟨F3, f3, o3, F4, f4, o4, F5, f5, o5, rfl, hc, hb⟩
        refine ⟨_, rfl, ?_⟩
        have HE := Aside0.mk hc
        have HF := Aside0.mk (fun b hb => Nat.le_trans HM.out (hc.ge b hb))
        have HG := Aside0.mk (fun b hb => Nat.le_trans (below_size hx_) (hc.ge b hb))
        have n2_ := Aside0.mk (blk_below BK2.out hb)
        have n4_ := Aside0.mk (blk_below BK4.out hb)
        have n5_ := Aside0.mk (blk_below BK5.out hb)
        have nb_ := Aside0.mk (below_step HB.out hb)
        have nm_ := Aside0.mk (Nat.le_trans HM.out (below_size hb))
        have q3_ := Aside0.mk (R3.out.below hb)
        have q5_ := Aside0.mk (R5.out.below hb)
        have qs_ := Aside0.mk (SK.out.later hb)
        clear BK2 BK4 BK5 HB HM R3 R5 SK hb hc hx_
        have BK2 := n2_
        have BK4 := n4_
        have BK5 := n5_
        have HB := nb_
        have HM := nm_
        have R3 := q3_
        have R5 := q5_
        have SK := qs_
        clear n2_ n4_ n5_ nb_ nm_ q3_ q5_ qs_
        refine hK.out _ _ ⟨HB.out, BK2.out, BK5.out⟩ (fun hHeld => ?_)
        clear hK K
        refine norm_ (a' := ?_) ?_ ?_
        rotate_left
        ·show Act.put _ (some 45) _ = _
         simp only [Act.put, List.setIfInBounds_toArray, List.set_cons_zero, List.set_cons_succ, i64_w, i32_w]
         rfl
        refine pure_ (i := 11) (N := some 46) (v := ?_) (a' := ?_) #[true, true, true, true, true, true, true, true, true, true, true, true, false, false] rfl rfl (by kernel_rfl) (fun _ _ _ h => h) (Or.inl ⟨by rfl, ?_⟩) ?_ ?_
        rotate_left
        ·intro w'
         go_simp
         with_reducible rfl
        rotate_left
        ·simp only [Act.put, List.setIfInBounds_toArray, List.set_cons_zero, List.set_cons_succ, i64_w, i32_w]
         rfl
        refine pure_ (i := 12) (N := some 47) (v := ?_) (a' := ?_) #[true, true, true, true, true, true, true, true, true, true, true, true, true, false] rfl rfl (by kernel_rfl) (fun _ _ _ h => h) (Or.inl ⟨by rfl, ?_⟩) ?_ ?_
        rotate_left
        ·intro w'
         go_simp
         with_reducible rfl
        rotate_left
        ·simp only [Act.put, List.setIfInBounds_toArray, List.set_cons_zero, List.set_cons_succ, i64_w, i32_w]
         rfl
        refine last_ (i := 13) (N := none) #[true, true, true, true, true, true, true, true, true, true, true, true, true, true] rfl rfl (by kernel_rfl) (by decide) (fun K hK => ?_)
        obtain ⟨u0, u1, u2, u3, u4, u5, ⟨s0, s1, s2, s3, s4, s5⟩, ⟨t0, t1, t2, t3, t4, t5⟩⟩ := R5.out.cells6 (o := x7.toNat * 8 + 2) (by have := LT_.out; omega)
        have hs0 : w14.cell? ⟨g5, x7.toNat * 8 + 2, none⟩ = some u0 := s0
        have hf0 : w14.frozen? ⟨g5, x7.toNat * 8 + 2, none⟩ = false := t0
        have hs1 : w14.cell? ⟨g5, x7.toNat * 8 + 3, none⟩ = some u1 := s1
        have hf1 : w14.frozen? ⟨g5, x7.toNat * 8 + 3, none⟩ = false := t1
        have hs2 : w14.cell? ⟨g5, x7.toNat * 8 + 4, none⟩ = some u2 := s2
        have hf2 : w14.frozen? ⟨g5, x7.toNat * 8 + 4, none⟩ = false := t2
        have hs3 : w14.cell? ⟨g5, x7.toNat * 8 + 5, none⟩ = some u3 := s3
        have hf3 : w14.frozen? ⟨g5, x7.toNat * 8 + 5, none⟩ = false := t3
        have hs4 : w14.cell? ⟨g5, x7.toNat * 8 + 6, none⟩ = some u4 := s4
        have hf4 : w14.frozen? ⟨g5, x7.toNat * 8 + 6, none⟩ = false := t4
        have hs5 : w14.cell? ⟨g5, x7.toNat * 8 + 7, none⟩ = some u5 := s5
        have hf5 : w14.frozen? ⟨g5, x7.toNat * 8 + 7, none⟩ = false := t5
        clear s0 s1 s2 s3 s4 s5 t0 t1 t2 t3 t4 t5
        refine skip_ (w1 := ?_) (by rfl) rfl ?_ ?_
        rotate_left
        ·go_simp
         rfl
        refine hK.out _ _ ?_
        clear hK K
        refine done_ (by kernel_rfl) ?_
        have n2_ : Aside0 (((((((w14.setCell ⟨g5, x7.toNat * 8 + 2, none⟩ (.int .i64 (gE n1 (rd_T53 l0_5 x7).f2).f0)).setCell ⟨g5, x7.toNat * 8 + 3, none⟩ (.string (gE n1 (rd_T53 l0_5 x7).f2).f1)).setCell ⟨g5, x7.toNat * 8 + 4, none⟩ (.int .i64 (gE n1 (rd_T53 l0_5 x7).f2).f2)).setCell ⟨g5, x7.toNat * 8 + 5, none⟩ (.slice F3 (gE n1 (rd_T53 l0_5 x7).f2).f3.length f3)).setCell ⟨g5, x7.toNat * 8 + 6, none⟩ (.slice F4 (gE n1 (rd_T53 l0_5 x7).f2).f4.length f4)).setCell ⟨g5, x7.toNat * 8 + 7, none⟩ (.slice F5 (gE n1 (rd_T53 l0_5 x7).f2).f5.length f5)).heap[gb2]? = some (.cells #[.int .i64 a0_0, .string a0_1, .int .i64 a0_2, .slice A0_3 l0_3.length c0_3, .slice A0_4 l0_4.length c0_4, .slice (some ad) l0_5.length c0_5] 33 (0, 0))) := ⟨(puts_block (g := g5) [.int .i64 (gE n1 (rd_T53 l0_5 x7).f2).f0, .string (gE n1 (rd_T53 l0_5 x7).f2).f1, .int .i64 (gE n1 (rd_T53 l0_5 x7).f2).f2, .slice F3 (gE n1 (rd_T53 l0_5 x7).f2).f3.length f3, .slice F4 (gE n1 (rd_T53 l0_5 x7).f2).f4.length f4, .slice F5 (gE n1 (rd_T53 l0_5 x7).f2).f5.length f5] w14 (x7.toNat * 8 + 2) gb2 (Nat.ne_of_lt (G5.out g5 rfl))).trans BK2.out⟩
        have n4_ : Aside0 (((((((w14.setCell ⟨g5, x7.toNat * 8 + 2, none⟩ (.int .i64 (gE n1 (rd_T53 l0_5 x7).f2).f0)).setCell ⟨g5, x7.toNat * 8 + 3, none⟩ (.string (gE n1 (rd_T53 l0_5 x7).f2).f1)).setCell ⟨g5, x7.toNat * 8 + 4, none⟩ (.int .i64 (gE n1 (rd_T53 l0_5 x7).f2).f2)).setCell ⟨g5, x7.toNat * 8 + 5, none⟩ (.slice F3 (gE n1 (rd_T53 l0_5 x7).f2).f3.length f3)).setCell ⟨g5, x7.toNat * 8 + 6, none⟩ (.slice F4 (gE n1 (rd_T53 l0_5 x7).f2).f4.length f4)).setCell ⟨g5, x7.toNat * 8 + 7, none⟩ (.slice F5 (gE n1 (rd_T53 l0_5 x7).f2).f5.length f5)).heap[gb4]? = some (.cells #[.int .i64 0, .string (⟨#[]⟩ : ByteArray), .int .i64 0, .slice none 0 0, .slice none 0 0, .slice none 0 0] 33 (0, 0))) := ⟨(puts_block (g := g5) [.int .i64 (gE n1 (rd_T53 l0_5 x7).f2).f0, .string (gE n1 (rd_T53 l0_5 x7).f2).f1, .int .i64 (gE n1 (rd_T53 l0_5 x7).f2).f2, .slice F3 (gE n1 (rd_T53 l0_5 x7).f2).f3.length f3, .slice F4 (gE n1 (rd_T53 l0_5 x7).f2).f4.length f4, .slice F5 (gE n1 (rd_T53 l0_5 x7).f2).f5.length f5] w14 (x7.toNat * 8 + 2) gb4 (fun e => (O5.out g5 rfl).1 e.symm)).trans BK4.out⟩
        have n5_ : Aside0 (((((((w14.setCell ⟨g5, x7.toNat * 8 + 2, none⟩ (.int .i64 (gE n1 (rd_T53 l0_5 x7).f2).f0)).setCell ⟨g5, x7.toNat * 8 + 3, none⟩ (.string (gE n1 (rd_T53 l0_5 x7).f2).f1)).setCell ⟨g5, x7.toNat * 8 + 4, none⟩ (.int .i64 (gE n1 (rd_T53 l0_5 x7).f2).f2)).setCell ⟨g5, x7.toNat * 8 + 5, none⟩ (.slice F3 (gE n1 (rd_T53 l0_5 x7).f2).f3.length f3)).setCell ⟨g5, x7.toNat * 8 + 6, none⟩ (.slice F4 (gE n1 (rd_T53 l0_5 x7).f2).f4.length f4)).setCell ⟨g5, x7.toNat * 8 + 7, none⟩ (.slice F5 (gE n1 (rd_T53 l0_5 x7).f2).f5.length f5)).heap[gb5]? = some (.cells #[.int .i64 a0_0, .string a0_1, .int .i64 a0_2, .slice E3 l0_3.length d3, .slice E4 m4 d4, .slice (some ⟨g5, 0, none⟩) l0_5.length d5] 33 (0, 0))) := ⟨(puts_block (g := g5) [.int .i64 (gE n1 (rd_T53 l0_5 x7).f2).f0, .string (gE n1 (rd_T53 l0_5 x7).f2).f1, .int .i64 (gE n1 (rd_T53 l0_5 x7).f2).f2, .slice F3 (gE n1 (rd_T53 l0_5 x7).f2).f3.length f3, .slice F4 (gE n1 (rd_T53 l0_5 x7).f2).f4.length f4, .slice F5 (gE n1 (rd_T53 l0_5 x7).f2).f5.length f5] w14 (x7.toNat * 8 + 2) gb5 (fun e => (O5.out g5 rfl).2.1 e.symm)).trans BK5.out⟩
        have nb_ : Aside0 (Below w.heap.size w ((((((w14.setCell ⟨g5, x7.toNat * 8 + 2, none⟩ (.int .i64 (gE n1 (rd_T53 l0_5 x7).f2).f0)).setCell ⟨g5, x7.toNat * 8 + 3, none⟩ (.string (gE n1 (rd_T53 l0_5 x7).f2).f1)).setCell ⟨g5, x7.toNat * 8 + 4, none⟩ (.int .i64 (gE n1 (rd_T53 l0_5 x7).f2).f2)).setCell ⟨g5, x7.toNat * 8 + 5, none⟩ (.slice F3 (gE n1 (rd_T53 l0_5 x7).f2).f3.length f3)).setCell ⟨g5, x7.toNat * 8 + 6, none⟩ (.slice F4 (gE n1 (rd_T53 l0_5 x7).f2).f4.length f4)).setCell ⟨g5, x7.toNat * 8 + 7, none⟩ (.slice F5 (gE n1 (rd_T53 l0_5 x7).f2).f5.length f5))) := ⟨puts_below (Nat.le_trans GE2.out (Nat.le_of_lt (G5.out g5 rfl))) [.int .i64 (gE n1 (rd_T53 l0_5 x7).f2).f0, .string (gE n1 (rd_T53 l0_5 x7).f2).f1, .int .i64 (gE n1 (rd_T53 l0_5 x7).f2).f2, .slice F3 (gE n1 (rd_T53 l0_5 x7).f2).f3.length f3, .slice F4 (gE n1 (rd_T53 l0_5 x7).f2).f4.length f4, .slice F5 (gE n1 (rd_T53 l0_5 x7).f2).f5.length f5] w14 (x7.toNat * 8 + 2) HB.out⟩
        have nm_ : Aside0 (mid ≤ ((((((w14.setCell ⟨g5, x7.toNat * 8 + 2, none⟩ (.int .i64 (gE n1 (rd_T53 l0_5 x7).f2).f0)).setCell ⟨g5, x7.toNat * 8 + 3, none⟩ (.string (gE n1 (rd_T53 l0_5 x7).f2).f1)).setCell ⟨g5, x7.toNat * 8 + 4, none⟩ (.int .i64 (gE n1 (rd_T53 l0_5 x7).f2).f2)).setCell ⟨g5, x7.toNat * 8 + 5, none⟩ (.slice F3 (gE n1 (rd_T53 l0_5 x7).f2).f3.length f3)).setCell ⟨g5, x7.toNat * 8 + 6, none⟩ (.slice F4 (gE n1 (rd_T53 l0_5 x7).f2).f4.length f4)).setCell ⟨g5, x7.toNat * 8 + 7, none⟩ (.slice F5 (gE n1 (rd_T53 l0_5 x7).f2).f5.length f5)).heap.size) := ⟨Nat.le_trans HM.out (Nat.le_of_eq (puts_size (g := g5) [.int .i64 (gE n1 (rd_T53 l0_5 x7).f2).f0, .string (gE n1 (rd_T53 l0_5 x7).f2).f1, .int .i64 (gE n1 (rd_T53 l0_5 x7).f2).f2, .slice F3 (gE n1 (rd_T53 l0_5 x7).f2).f3.length f3, .slice F4 (gE n1 (rd_T53 l0_5 x7).f2).f4.length f4, .slice F5 (gE n1 (rd_T53 l0_5 x7).f2).f5.length f5] w14 (x7.toNat * 8 + 2)).symm)⟩
        have q3_ : Aside0 (RowX bad ((((((w14.setCell ⟨g5, x7.toNat * 8 + 2, none⟩ (.int .i64 (gE n1 (rd_T53 l0_5 x7).f2).f0)).setCell ⟨g5, x7.toNat * 8 + 3, none⟩ (.string (gE n1 (rd_T53 l0_5 x7).f2).f1)).setCell ⟨g5, x7.toNat * 8 + 4, none⟩ (.int .i64 (gE n1 (rd_T53 l0_5 x7).f2).f2)).setCell ⟨g5, x7.toNat * 8 + 5, none⟩ (.slice F3 (gE n1 (rd_T53 l0_5 x7).f2).f3.length f3)).setCell ⟨g5, x7.toNat * 8 + 6, none⟩ (.slice F4 (gE n1 (rd_T53 l0_5 x7).f2).f4.length f4)).setCell ⟨g5, x7.toNat * 8 + 7, none⟩ (.slice F5 (gE n1 (rd_T53 l0_5 x7).f2).f5.length f5)) w.heap.size 33 6 (.slice E3 l0_3.length d3) l0_3.length X []) := ⟨R3.out.puts (BE5.out g5 rfl) (O5.out g5 rfl).2.2 (x7.toNat * 8 + 2) [.int .i64 (gE n1 (rd_T53 l0_5 x7).f2).f0, .string (gE n1 (rd_T53 l0_5 x7).f2).f1, .int .i64 (gE n1 (rd_T53 l0_5 x7).f2).f2, .slice F3 (gE n1 (rd_T53 l0_5 x7).f2).f3.length f3, .slice F4 (gE n1 (rd_T53 l0_5 x7).f2).f4.length f4, .slice F5 (gE n1 (rd_T53 l0_5 x7).f2).f5.length f5]⟩
        have q5_ : Aside0 (RowX bad ((((((w14.setCell ⟨g5, x7.toNat * 8 + 2, none⟩ (.int .i64 (gE n1 (rd_T53 l0_5 x7).f2).f0)).setCell ⟨g5, x7.toNat * 8 + 3, none⟩ (.string (gE n1 (rd_T53 l0_5 x7).f2).f1)).setCell ⟨g5, x7.toNat * 8 + 4, none⟩ (.int .i64 (gE n1 (rd_T53 l0_5 x7).f2).f2)).setCell ⟨g5, x7.toNat * 8 + 5, none⟩ (.slice F3 (gE n1 (rd_T53 l0_5 x7).f2).f3.length f3)).setCell ⟨g5, x7.toNat * 8 + 6, none⟩ (.slice F4 (gE n1 (rd_T53 l0_5 x7).f2).f4.length f4)).setCell ⟨g5, x7.toNat * 8 + 7, none⟩ (.slice F5 (gE n1 (rd_T53 l0_5 x7).f2).f5.length f5)) w.heap.size 53 8 (.slice (some ⟨g5, 0, none⟩) l0_5.length d5) l0_5.length (((Y ++ [.s (rd_T53 l0_5 x7).f0]) ++ [.r 9 1 v1 (rd_T53 l0_5 x7).f1.length ((rd_T53 l0_5 x7).f1.map It.s)]) ++ [.i (gE n1 (rd_T53 l0_5 x7).f2).f0, .s (gE n1 (rd_T53 l0_5 x7).f2).f1, .i (gE n1 (rd_T53 l0_5 x7).f2).f2, .r 33 6 (.slice F3 (gE n1 (rd_T53 l0_5 x7).f2).f3.length f3) (gE n1 (rd_T53 l0_5 x7).f2).f3.length o3, .r 68 9 (.slice F4 (gE n1 (rd_T53 l0_5 x7).f2).f4.length f4) (gE n1 (rd_T53 l0_5 x7).f2).f4.length o4, .r 53 8 (.slice F5 (gE n1 (rd_T53 l0_5 x7).f2).f5.length f5) (gE n1 (rd_T53 l0_5 x7).f2).f5.length o5]) cs) := ⟨R5.out.push (BE5.out g5 rfl) [.i (gE n1 (rd_T53 l0_5 x7).f2).f0, .s (gE n1 (rd_T53 l0_5 x7).f2).f1, .i (gE n1 (rd_T53 l0_5 x7).f2).f2, .r 33 6 (.slice F3 (gE n1 (rd_T53 l0_5 x7).f2).f3.length f3) (gE n1 (rd_T53 l0_5 x7).f2).f3.length o3, .r 68 9 (.slice F4 (gE n1 (rd_T53 l0_5 x7).f2).f4.length f4) (gE n1 (rd_T53 l0_5 x7).f2).f4.length o4, .r 53 8 (.slice F5 (gE n1 (rd_T53 l0_5 x7).f2).f5.length f5) (gE n1 (rd_T53 l0_5 x7).f2).f5.length o5] (by simp only [List.length_cons, List.length_nil]; omega) (by have h_ := HE.out.at_; simp only [AtL, and_true] at h_ ⊢; exact ⟨by simp only [It.At], by simp only [It.At], by simp only [It.At], h_⟩) (fun b hb => by have h_ : b ∈ blksL (rows3 F3 (gE n1 (rd_T53 l0_5 x7).f2).f3.length f3 o3 F4 (gE n1 (rd_T53 l0_5 x7).f2).f4.length f4 o4 F5 (gE n1 (rd_T53 l0_5 x7).f2).f5.length f5 o5) := (by simpa only [blksL, It.blks, List.nil_append] using hb); exact ⟨HG.out b h_, fun hb_ => Nat.lt_irrefl _ (Nat.lt_of_lt_of_le (RB.out b hb_) (HF.out b h_))⟩) (x7.toNat * 8 + 2) (by have := LT_.out; have := HJ.out.2.2.1; simp only [List.length_append, List.length_cons, List.length_nil]; omega) [.int .i64 (gE n1 (rd_T53 l0_5 x7).f2).f0, .string (gE n1 (rd_T53 l0_5 x7).f2).f1, .int .i64 (gE n1 (rd_T53 l0_5 x7).f2).f2, .slice F3 (gE n1 (rd_T53 l0_5 x7).f2).f3.length f3, .slice F4 (gE n1 (rd_T53 l0_5 x7).f2).f4.length f4, .slice F5 (gE n1 (rd_T53 l0_5 x7).f2).f5.length f5] rfl⟩
        have qs_ : Aside0 (SkAs bad ((((((w14.setCell ⟨g5, x7.toNat * 8 + 2, none⟩ (.int .i64 (gE n1 (rd_T53 l0_5 x7).f2).f0)).setCell ⟨g5, x7.toNat * 8 + 3, none⟩ (.string (gE n1 (rd_T53 l0_5 x7).f2).f1)).setCell ⟨g5, x7.toNat * 8 + 4, none⟩ (.int .i64 (gE n1 (rd_T53 l0_5 x7).f2).f2)).setCell ⟨g5, x7.toNat * 8 + 5, none⟩ (.slice F3 (gE n1 (rd_T53 l0_5 x7).f2).f3.length f3)).setCell ⟨g5, x7.toNat * 8 + 6, none⟩ (.slice F4 (gE n1 (rd_T53 l0_5 x7).f2).f4.length f4)).setCell ⟨g5, x7.toNat * 8 + 7, none⟩ (.slice F5 (gE n1 (rd_T53 l0_5 x7).f2).f5.length f5)) w.heap.size (l0_5.drop (j5 + 1)) cs) := ⟨SK.out.puts (BE5.out g5 rfl) (x7.toNat * 8 + 2) [.int .i64 (gE n1 (rd_T53 l0_5 x7).f2).f0, .string (gE n1 (rd_T53 l0_5 x7).f2).f1, .int .i64 (gE n1 (rd_T53 l0_5 x7).f2).f2, .slice F3 (gE n1 (rd_T53 l0_5 x7).f2).f3.length f3, .slice F4 (gE n1 (rd_T53 l0_5 x7).f2).f4.length f4, .slice F5 (gE n1 (rd_T53 l0_5 x7).f2).f5.length f5]⟩
        clear BK2 BK4 BK5 HB HM R3 R5 SK hs0 hs1 hs2 hs3 hs4 hs5 hf0 hf1 hf2 hf3 hf4 hf5 hHeld
        generalize ((((((w14.setCell ⟨g5, x7.toNat * 8 + 2, none⟩ (.int .i64 (gE n1 (rd_T53 l0_5 x7).f2).f0)).setCell ⟨g5, x7.toNat * 8 + 3, none⟩ (.string (gE n1 (rd_T53 l0_5 x7).f2).f1)).setCell ⟨g5, x7.toNat * 8 + 4, none⟩ (.int .i64 (gE n1 (rd_T53 l0_5 x7).f2).f2)).setCell ⟨g5, x7.toNat * 8 + 5, none⟩ (.slice F3 (gE n1 (rd_T53 l0_5 x7).f2).f3.length f3)).setCell ⟨g5, x7.toNat * 8 + 6, none⟩ (.slice F4 (gE n1 (rd_T53 l0_5 x7).f2).f4.length f4)).setCell ⟨g5, x7.toNat * 8 + 7, none⟩ (.slice F5 (gE n1 (rd_T53 l0_5 x7).f2).f5.length f5)) = w15 at n2_ n4_ n5_ nb_ nm_ q3_ q5_ qs_ ⊢
        try go_wp2
        go_roundg k1
        case measure => have := HK1.out; omega
        case rel => exact ⟨(wrap64 (x7 + 1)), j5 + 1, ((Y ++ [.s (rd_T53 l0_5 x7).f0]) ++ [.r 9 1 v1 (rd_T53 l0_5 x7).f1.length ((rd_T53 l0_5 x7).f1.map It.s)]) ++ [.i (gE n1 (rd_T53 l0_5 x7).f2).f0, .s (gE n1 (rd_T53 l0_5 x7).f2).f1, .i (gE n1 (rd_T53 l0_5 x7).f2).f2, .r 33 6 (.slice F3 (gE n1 (rd_T53 l0_5 x7).f2).f3.length f3) (gE n1 (rd_T53 l0_5 x7).f2).f3.length o3, .r 68 9 (.slice F4 (gE n1 (rd_T53 l0_5 x7).f2).f4.length f4) (gE n1 (rd_T53 l0_5 x7).f2).f4.length o4, .r 53 8 (.slice F5 (gE n1 (rd_T53 l0_5 x7).f2).f5.length f5) (gE n1 (rd_T53 l0_5 x7).f2).f5.length o5], cs, (by first | rfl | (simp; done) | (simp [*]; done)), ⟨by have := HA1.out; have := LT_.out; omega⟩, ⟨by have := HK1.out; omega⟩, n2_, n4_, n5_, nb_, nm_, q3_, q5_, qs_, ⟨by rw [HJ.out.1]; have := LT_.out; have := HQ.out.2.2.1; unfold wrap64; omega, by have := LT_.out; omega, by rw [List.length_append, List.length_append, List.length_append, HJ.out.2.2.1]; simp only [List.length_cons, List.length_nil]; omega, by rw [take_snoc l0_5 j5 (by have := LT_.out; omega), List.map_append, List.map_cons, List.map_nil, List.append_assoc, List.append_assoc]; refine HJ.out.2.2.2.snoc ?_; rw [← rdA_at l0_5 x7 j5 HJ.out.1 (by have := LT_.out; omega), gA]; exact RepA.mk (x := (⟨(rd_T53 l0_5 x7).f0, (rd_T53 l0_5 x7).f1, (gE n1 (rd_T53 l0_5 x7).f2)⟩ : S53)) (RepE.mk (x := (gE n1 (rd_T53 l0_5 x7).f2)) HE.out.r3 HE.out.r4 HE.out.r5)⟩⟩
      ·have c3b0 : decide (x7 < (l0_5.length : Int)) = false := decide_eq_false c3
       have R5F : Aside0 (RowX bad wr w.heap.size 53 8 (.slice E5 l0_5.length d5) l0_5.length Y [] ∧ RepAs (l0_5.map (gA n)) Y) := ⟨by
        obtain ⟨h1, h2, h3, h4⟩ := HJ.out
        have hj : j5 = l0_5.length := by omega
        have hl := R5.out.len
        have hr : rest = [] := List.eq_nil_of_length_eq_zero (by omega)
        refine ⟨hr ▸ R5.out, ?_⟩
        rw [hj, List.take_length] at h4
        exact h4⟩
       clear c3 R5 HJ HA1 SK HK1
       have R5 := Aside0.mk R5F.out.1
       have RP5 := Aside0.mk R5F.out.2
       clear R5F
       go_wp2_with (first | ((with_reducible refine gate_dst (N := 51) rfl ?_); (with_reducible refine gate_callee (f := 61) rfl ?_); refine goesL_ (some 51) rfl rfl Try.func61 (by kernel_rfl) rfl #[.slice A0_4 l0_4.length c0_4, .int .i64 4] rfl (by (try simp only [List.map_toArray, List.map_cons, List.map_nil, List.append_toArray, List.cons_append, List.nil_append]); first | done | rfl) ?_; refine (ih_D _ _ l0_4 _ (Kd.C_below HA.out.2.1.1 HB.out) HA.out.2.1.2 HQ.out.2.1).mono ?_; rintro e w20 ⟨D1, e1, z1, rfl, hc, hb⟩; refine ⟨_, rfl, ?_⟩; have ha_ := hc.at_; have hg_ := hc.ge; simp only [List.length_map] at ha_ hg_; have DA := Aside0.mk ha_; have DR := Aside0.mk hc.rd; have DG : Aside0 (∀ b ∈ blksL [.r 68 9 (.slice D1 l0_4.length e1) l0_4.length z1], w.heap.size ≤ b ∧ gb4 < b ∧ gb5 < b) := ⟨fun b h => ⟨Nat.le_trans (below_size HB.out) (hg_ b h), Nat.lt_of_lt_of_le (RB.out _ BD4.out) (Nat.le_trans HM.out (hg_ b h)), Nat.lt_of_lt_of_le (RB.out _ BD5.out) (Nat.le_trans HM.out (hg_ b h))⟩⟩; have n2_ := Aside0.mk (blk_below (by (with_reducible repeat (first | refine blk_drewN ?_ _ | refine blk_drew ?_ | refine blk_alloc ?_ _)); exact BK2.out) hb); have n4_ := Aside0.mk (blk_below (by (with_reducible repeat (first | refine blk_drewN ?_ _ | refine blk_drew ?_ | refine blk_alloc ?_ _)); exact BK4.out) hb); have n5_ := Aside0.mk (blk_below (by (with_reducible repeat (first | refine blk_drewN ?_ _ | refine blk_drew ?_ | refine blk_alloc ?_ _)); exact BK5.out) hb); have nb_ := Aside0.mk (below_step HB.out hb); have q3_ := Aside0.mk (R3.out.below hb); have q5_ := Aside0.mk (R5.out.below hb); clear BK2 BK4 BK5 HB HM R3 R5 hb hc ha_ hg_; have BK4 := n4_; have BK5 := n5_; have HB := nb_; have R3 := q3_; have R5 := q5_; clear n2_ n4_ n5_ nb_ q3_ q5_; obtain ⟨hc25_0, hc25_1, hc25_2, hc25_3, hc25_4, hc25_5, hf25_0, hf25_1, hf25_2, hf25_3, hf25_4, hf25_5⟩ := cells6 BK5.out) | ((with_reducible refine gate_store (t := 30) (p := 52) rfl ?_); refine store_event (t := 30) (p := 52) (v := ?vo_w21) (w1 := w20.setCell ⟨gb5, 4, none⟩ (.slice D1 l0_4.length e1)) ?hg ?ho ?hn ?hr ?_; (case ho => rfl); (case hg => rfl); (case hn => rfl); (case hr => first | (go_simp; done) | (go_simp; rfl)); intro w21 hw; have n4_ : Aside0 (w21.heap[gb4]? = some (.cells #[.int .i64 0, .string (⟨#[]⟩ : ByteArray), .int .i64 0, .slice none 0 0, .slice none 0 0, .slice none 0 0] 33 (0, 0))) := ⟨by rw [hw]; exact blk_far BK4.out NB4_5.out _⟩; have n5_ : Aside0 (w21.heap[gb5]? = some (.cells #[.int .i64 a0_0, .string a0_1, .int .i64 a0_2, .slice E3 l0_3.length d3, .slice D1 l0_4.length e1, .slice E5 l0_5.length d5] 33 (0, 0))) := ⟨by rw [hw]; exact put_6_4 BK5.out⟩; have nb_ : Aside0 (Below w.heap.size w w21) := ⟨by rw [hw]; exact below_set HB.out GE5.out⟩; have q3_ : Aside0 (RowX bad w21 w.heap.size 33 6 (.slice E3 l0_3.length d3) l0_3.length X []) := ⟨by rw [hw]; exact R3.out.puts BD5.out (fun e => (O3.out _ e).2.1 rfl) 4 [.slice D1 l0_4.length e1]⟩; have q5_ : Aside0 (RowX bad w21 w.heap.size 53 8 (.slice E5 l0_5.length d5) l0_5.length Y []) := ⟨by rw [hw]; exact R5.out.puts BD5.out (fun e => (O5.out _ e).2.1 rfl) 4 [.slice D1 l0_4.length e1]⟩; have da_ : Aside0 (AtL w21 [.r 68 9 (.slice D1 l0_4.length e1) l0_4.length z1]) := ⟨by rw [hw]; exact AtL_set DA.out (fun b hb => Nat.ne_of_gt (DG.out b hb).2.2) _ _⟩; clear BK4 BK5 HB R3 R5 DA hw; have BK4 := n4_; have BK5 := n5_; have HB := nb_; have R3 := q3_; have R5 := q5_; have DA := da_; clear n4_ n5_ nb_ q3_ q5_ da_; obtain ⟨hc26_0, hc26_1, hc26_2, hc26_3, hc26_4, hc26_5, hf26_0, hf26_1, hf26_2, hf26_3, hf26_4, hf26_5⟩ := cells6 BK5.out) | ((with_reducible refine gate_dst (N := 55) rfl ?_); (with_reducible refine gate_callee (f := 63) rfl ?_); refine goesL_ (some 55) rfl rfl Try.func63 (by kernel_rfl) rfl #[.agg #[.int .i64 a0_0, .string a0_1, .int .i64 a0_2, .slice E3 l0_3.length d3, .slice D1 l0_4.length e1, .slice E5 l0_5.length d5]] rfl (by (try simp only [List.map_toArray, List.map_cons, List.map_nil, List.append_toArray, List.cons_append, List.nil_append]); first | done | rfl) ?_; have hq3_ := R3.out.full (by simp); have hq5_ := R5.out.full (by simp); have hqa_ : AtL w21 (rows3 E3 l0_3.length d3 X D1 l0_4.length e1 z1 E5 l0_5.length d5 Y) := (by have hd_ := DA.out; simp only [AtL, and_true] at hd_ ⊢; exact ⟨hq3_.1, hd_, hq5_.1⟩); have h63_ := one63_calls (⟨a0_0, a0_1, a0_2, l0_3.map (gE n), l0_4.map (gD n), l0_5.map (gA n)⟩ : S33) E3 d3 X D1 e1 z1 E5 d5 Y w21 (by simpa only [List.length_map] using hqa_) ⟨RP3.out, DR.out, RP5.out⟩; simp only [aggY, List.length_map] at h63_; refine calls_bel (w0 := w) HB.out (fun hx_ => ?_); refine h63_.mono ?_; rintro e w23 ⟨v_, rfl, ⟨F3, f3, o3, F4, f4, o4, F5, f5, o5, rfl, hat_, hr_, hsub_, _⟩, hb⟩; refine ⟨_, rfl, ?_⟩; have AT := Aside0.mk (AtL_below hat_ hb); have RR := Aside0.mk hr_; have GF : Aside0 (∀ b ∈ blksL (rows3 F3 (one (⟨a0_0, a0_1, a0_2, l0_3.map (gE n), l0_4.map (gD n), l0_5.map (gA n)⟩ : S33)).f3.length f3 o3 F4 (one (⟨a0_0, a0_1, a0_2, l0_3.map (gE n), l0_4.map (gD n), l0_5.map (gA n)⟩ : S33)).f4.length f4 o4 F5 (one (⟨a0_0, a0_1, a0_2, l0_3.map (gE n), l0_4.map (gD n), l0_5.map (gA n)⟩ : S33)).f5.length f5 o5), w.heap.size ≤ b ∧ b ≠ gb4 ∧ b ≠ gb5) := ⟨fun b hb_ => by have h_ := hsub_ b hb_; simp only [blksL, It.blks, List.append_nil, List.mem_append] at h_; rcases h_ with (h_ | h_) | h_ | h_ | h_ <;> first | exact ⟨own_base R3.out.own b (by simpa using h_), (O3.out b (by simpa using h_)).1, (O3.out b (by simpa using h_)).2.1⟩ | exact ⟨(R3.out.ok b h_).1, fun e => (R3.out.ok b h_).2 (e ▸ BD4.out), fun e => (R3.out.ok b h_).2 (e ▸ BD5.out)⟩ | exact (have k_ := DG.out b (by simpa only [blksL, It.blks, List.append_nil, List.mem_append] using h_); ⟨k_.1, Nat.ne_of_gt k_.2.1, Nat.ne_of_gt k_.2.2⟩) | exact ⟨own_base R5.out.own b (by simpa using h_), (O5.out b (by simpa using h_)).1, (O5.out b (by simpa using h_)).2.1⟩ | exact ⟨(R5.out.ok b h_).1, fun e => (R5.out.ok b h_).2 (e ▸ BD4.out), fun e => (R5.out.ok b h_).2 (e ▸ BD5.out)⟩⟩; have n4_ := Aside0.mk (blk_below BK4.out hb); have n5_ := Aside0.mk (blk_below BK5.out hb); have nb_ := Aside0.mk (below_step hx_ hb); clear BK4 BK5 HB R3 R5 DA hx_ hb hat_ hr_ hsub_ h63_ hqa_ hq3_ hq5_; have BK4 := n4_; have BK5 := n5_; have HB := nb_; clear n4_ n5_ nb_; obtain ⟨hc27_0, hc27_1, hc27_2, hc27_3, hc27_4, hc27_5, hf27_0, hf27_1, hf27_2, hf27_3, hf27_4, hf27_5⟩ := cells6 BK5.out) | ((with_reducible refine gate_store (t := 33) (p := 5) rfl ?_); refine store_event (t := 33) (p := 5) (v := ?vo_w24) (w1 := ((((((w23.setCell ⟨gb5, 0, none⟩ (.int .i64 (one (⟨a0_0, a0_1, a0_2, l0_3.map (gE n), l0_4.map (gD n), l0_5.map (gA n)⟩ : S33)).f0)).setCell ⟨gb5, 1, none⟩ (.string (one (⟨a0_0, a0_1, a0_2, l0_3.map (gE n), l0_4.map (gD n), l0_5.map (gA n)⟩ : S33)).f1)).setCell ⟨gb5, 2, none⟩ (.int .i64 (one (⟨a0_0, a0_1, a0_2, l0_3.map (gE n), l0_4.map (gD n), l0_5.map (gA n)⟩ : S33)).f2)).setCell ⟨gb5, 3, none⟩ (.slice F3 (one (⟨a0_0, a0_1, a0_2, l0_3.map (gE n), l0_4.map (gD n), l0_5.map (gA n)⟩ : S33)).f3.length f3)).setCell ⟨gb5, 4, none⟩ (.slice F4 (one (⟨a0_0, a0_1, a0_2, l0_3.map (gE n), l0_4.map (gD n), l0_5.map (gA n)⟩ : S33)).f4.length f4)).setCell ⟨gb5, 5, none⟩ (.slice F5 (one (⟨a0_0, a0_1, a0_2, l0_3.map (gE n), l0_4.map (gD n), l0_5.map (gA n)⟩ : S33)).f5.length f5))) ?hg ?ho ?hn ?hr ?_; (case ho => rfl); (case hg => rfl); (case hn => rfl); (case hr => first | (go_simp; done) | (go_simp; rfl)); intro w24 hw; have n4_ : Aside0 (w24.heap[gb4]? = some (.cells #[.int .i64 0, .string (⟨#[]⟩ : ByteArray), .int .i64 0, .slice none 0 0, .slice none 0 0, .slice none 0 0] 33 (0, 0))) := ⟨by rw [hw]; exact (blk_far (blk_far (blk_far (blk_far (blk_far (blk_far BK4.out NB4_5.out _) NB4_5.out _) NB4_5.out _) NB4_5.out _) NB4_5.out _) NB4_5.out _)⟩; have n5_ : Aside0 (w24.heap[gb5]? = some (.cells #[.int .i64 (one (⟨a0_0, a0_1, a0_2, l0_3.map (gE n), l0_4.map (gD n), l0_5.map (gA n)⟩ : S33)).f0, .string (one (⟨a0_0, a0_1, a0_2, l0_3.map (gE n), l0_4.map (gD n), l0_5.map (gA n)⟩ : S33)).f1, .int .i64 (one (⟨a0_0, a0_1, a0_2, l0_3.map (gE n), l0_4.map (gD n), l0_5.map (gA n)⟩ : S33)).f2, .slice F3 (one (⟨a0_0, a0_1, a0_2, l0_3.map (gE n), l0_4.map (gD n), l0_5.map (gA n)⟩ : S33)).f3.length f3, .slice F4 (one (⟨a0_0, a0_1, a0_2, l0_3.map (gE n), l0_4.map (gD n), l0_5.map (gA n)⟩ : S33)).f4.length f4, .slice F5 (one (⟨a0_0, a0_1, a0_2, l0_3.map (gE n), l0_4.map (gD n), l0_5.map (gA n)⟩ : S33)).f5.length f5] 33 (0, 0))) := ⟨by rw [hw]; exact (put_6_5 (put_6_4 (put_6_3 (put_6_2 (put_6_1 (put_6_0 BK5.out))))))⟩; have nb_ : Aside0 (Below w.heap.size w w24) := ⟨by rw [hw]; exact (by repeat (first | (with_reducible first | exact HB.out | apply below_alloc | apply pw_below_drewN | apply below_drew1 | refine below_set ?_ GE5.out) | exact HB.out))⟩; have at_ : Aside0 (AtL w24 (rows3 F3 (one (⟨a0_0, a0_1, a0_2, l0_3.map (gE n), l0_4.map (gD n), l0_5.map (gA n)⟩ : S33)).f3.length f3 o3 F4 (one (⟨a0_0, a0_1, a0_2, l0_3.map (gE n), l0_4.map (gD n), l0_5.map (gA n)⟩ : S33)).f4.length f4 o4 F5 (one (⟨a0_0, a0_1, a0_2, l0_3.map (gE n), l0_4.map (gD n), l0_5.map (gA n)⟩ : S33)).f5.length f5 o5)) := ⟨by rw [hw]; exact (AtL_set (AtL_set (AtL_set (AtL_set (AtL_set (AtL_set AT.out (fun b hb => (GF.out b hb).2.2) 0 (.int .i64 (one (⟨a0_0, a0_1, a0_2, l0_3.map (gE n), l0_4.map (gD n), l0_5.map (gA n)⟩ : S33)).f0)) (fun b hb => (GF.out b hb).2.2) 1 (.string (one (⟨a0_0, a0_1, a0_2, l0_3.map (gE n), l0_4.map (gD n), l0_5.map (gA n)⟩ : S33)).f1)) (fun b hb => (GF.out b hb).2.2) 2 (.int .i64 (one (⟨a0_0, a0_1, a0_2, l0_3.map (gE n), l0_4.map (gD n), l0_5.map (gA n)⟩ : S33)).f2)) (fun b hb => (GF.out b hb).2.2) 3 (.slice F3 (one (⟨a0_0, a0_1, a0_2, l0_3.map (gE n), l0_4.map (gD n), l0_5.map (gA n)⟩ : S33)).f3.length f3)) (fun b hb => (GF.out b hb).2.2) 4 (.slice F4 (one (⟨a0_0, a0_1, a0_2, l0_3.map (gE n), l0_4.map (gD n), l0_5.map (gA n)⟩ : S33)).f4.length f4)) (fun b hb => (GF.out b hb).2.2) 5 (.slice F5 (one (⟨a0_0, a0_1, a0_2, l0_3.map (gE n), l0_4.map (gD n), l0_5.map (gA n)⟩ : S33)).f5.length f5))⟩; clear BK4 BK5 HB AT hw; have BK4 := n4_; have BK5 := n5_; have HB := nb_; have AT := at_; clear n4_ n5_ nb_ at_; obtain ⟨hc28_0, hc28_1, hc28_2, hc28_3, hc28_4, hc28_5, hf28_0, hf28_1, hf28_2, hf28_3, hf28_4, hf28_5⟩ := cells6 BK5.out; obtain ⟨hc29_0, hc29_1, hc29_2, hc29_3, hc29_4, hc29_5, hf29_0, hf29_1, hf29_2, hf29_3, hf29_4, hf29_5⟩ := cells6 BK4.out; have hnb45 := NB4_5.out; have hnb54 := NB5_4.out))
       refine bodyPost_ret (results_cell_row rfl _ _ gb4 33 #[.int .i64 (one (⟨a0_0, a0_1, a0_2, l0_3.map (gE n), l0_4.map (gD n), l0_5.map (gA n)⟩ : S33)).f0, .string (one (⟨a0_0, a0_1, a0_2, l0_3.map (gE n), l0_4.map (gD n), l0_5.map (gA n)⟩ : S33)).f1, .int .i64 (one (⟨a0_0, a0_1, a0_2, l0_3.map (gE n), l0_4.map (gD n), l0_5.map (gA n)⟩ : S33)).f2, .slice F3 (one (⟨a0_0, a0_1, a0_2, l0_3.map (gE n), l0_4.map (gD n), l0_5.map (gA n)⟩ : S33)).f3.length f3, .slice F4 (one (⟨a0_0, a0_1, a0_2, l0_3.map (gE n), l0_4.map (gD n), l0_5.map (gA n)⟩ : S33)).f4.length f4, .slice F5 (one (⟨a0_0, a0_1, a0_2, l0_3.map (gE n), l0_4.map (gD n), l0_5.map (gA n)⟩ : S33)).f5.length f5] (0, 0) _ rfl (by (with_reducible repeat (first | refine blk_drewN ?_ _ | refine blk_drew ?_ | refine blk_alloc ?_ _)); exact (put_6_5 (put_6_4 (put_6_3 (put_6_2 (put_6_1 (put_6_0 BK4.out))))))) Try.underlying33 rfl (by kernel_rfl)) rfl ?_
       exact ⟨F3, f3, o3, F4, f4, o4, F5, f5, o5, rfl, ⟨(AtL_set (AtL_set (AtL_set (AtL_set (AtL_set (AtL_set AT.out (fun b hb => (GF.out b hb).2.1) 0 (.int .i64 (one (⟨a0_0, a0_1, a0_2, l0_3.map (gE n), l0_4.map (gD n), l0_5.map (gA n)⟩ : S33)).f0)) (fun b hb => (GF.out b hb).2.1) 1 (.string (one (⟨a0_0, a0_1, a0_2, l0_3.map (gE n), l0_4.map (gD n), l0_5.map (gA n)⟩ : S33)).f1)) (fun b hb => (GF.out b hb).2.1) 2 (.int .i64 (one (⟨a0_0, a0_1, a0_2, l0_3.map (gE n), l0_4.map (gD n), l0_5.map (gA n)⟩ : S33)).f2)) (fun b hb => (GF.out b hb).2.1) 3 (.slice F3 (one (⟨a0_0, a0_1, a0_2, l0_3.map (gE n), l0_4.map (gD n), l0_5.map (gA n)⟩ : S33)).f3.length f3)) (fun b hb => (GF.out b hb).2.1) 4 (.slice F4 (one (⟨a0_0, a0_1, a0_2, l0_3.map (gE n), l0_4.map (gD n), l0_5.map (gA n)⟩ : S33)).f4.length f4)) (fun b hb => (GF.out b hb).2.1) 5 (.slice F5 (one (⟨a0_0, a0_1, a0_2, l0_3.map (gE n), l0_4.map (gD n), l0_5.map (gA n)⟩ : S33)).f5.length f5)), fun b hb => (GF.out b hb).1, RR.out.1, RR.out.2.1, RR.out.2.2⟩, by repeat (first | (with_reducible first | exact HB.out | apply below_alloc | apply pw_below_drewN | apply below_drew1 | refine below_set ?_ GE4.out) | exact HB.out)⟩
theorem allT2 : ∀ n, TnE n ∧ TnD n := by
  intro n
  induction n using Nat.strongRecOn with
  | _ n ih =>
    have hD : TnD n := stepTnD n (fun m hm => (ih m hm).1) (fun m hm => (ih m hm).2)
    refine ⟨?_, hD⟩
    cases n with
    | zero => exact fun y _ _ _ _ _ _ _ _ h => by simp [SqE] at h
    | succ n => exact stepTnE n (fun m hm => (ih m (by omega)).1) (ih n (by omega)).2
end Go.Proofs.Ytpndcfibjjkgcaa.MyItc

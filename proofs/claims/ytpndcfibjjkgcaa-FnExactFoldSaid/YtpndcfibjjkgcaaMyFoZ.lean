/- The walk of the given Fold; what the law's argument comes to. No condition. -/
import Derived.Test.YtpndcfibjjkgcaaMyFoT
namespace Go.Proofs.Ytpndcfibjjkgcaa.MyItc
open Go Go.RowKit Go.Proofs.YtpndcfibjjkgcaaW.PrintWords Go.Proofs.YtpndcfibjjkgcaaW.PrintLast Go.Proofs.YtpndcfibjjkgcaaW.PrintMore Go.Proofs.Ytpndcfibjjkgcaa.PIfg Go.Proofs.Ytpndcfibjjkgcaa.MyOpen
attribute [local go_sem] max2_int min2_int max_two min_two max_three min_three max_four min_four
set_option linter.unusedVariables false
set_option linter.unusedSimpArgs false
set_option maxHeartbeats 8000000 in
set_option maxRecDepth 100000 in
theorem fold21 {n : Nat} {y : S33} (hq : SqE (n + 1) y) (A3 : Option Addr) (c3 : Nat) (A4 : Option Addr) (c4 : Nat) (A5 : Option Addr) (c5 : Nat) (w : World) (ha : ArgE w A3 c3 y.f3 A4 c4 y.f4 A5 c5 y.f5) :
  Calls Try.prog 21 #[.agg #[.int .i64 y.f0, .string y.f1, .int .i64 y.f2, .slice A3 y.f3.length c3, .slice A4 y.f4.length c4, .slice A5 y.f5.length c5]] w fun e w' => ∃ (A3 : Option Addr) (c3 : Nat) (A4 : Option Addr) (c4 : Nat) (A5 : Option Addr) (c5 : Nat), e = .returned (.agg #[.int .i64 (gE (n + 1) y).f0, .string (gE (n + 1) y).f1, .int .i64 (gE (n + 1) y).f2, .slice A3 (gE (n + 1) y).f3.length c3, .slice A4 (gE (n + 1) y).f4.length c4, .slice A5 (gE (n + 1) y).f5.length c5]) ∧ ArgE w' A3 c3 (gE (n + 1) y).f3 A4 c4 (gE (n + 1) y).f4 A5 c5 (gE (n + 1) y).f5 ∧ Below w.heap.size w w' := by
 have hu33 := Try.underlying33
 have HA := Aside0.mk ha
 have HQ := Aside0.mk hq
 have HB := Aside0.mk (Below.refl w.heap.size w)
 clear ha hq
 go_enter Try.func21, Try.ntmps21
 go_wp2_with (first | ((with_reducible refine gate_dst (N := 1) rfl ?_); refine box_event ?hg (N := 1) ?hd (cs := #[.int .i64 y.f0, .string y.f1, .int .i64 y.f2, .slice A3 y.f3.length c3, .slice A4 y.f4.length c4, .slice A5 y.f5.length c5]) (t := 33) ?hr ?_; (case hd => rfl); (case hg => rfl); (case hr => first | (go_simp; done) | (go_simp; rfl)); intro gb1 hg w3 hbox hb; have hx_ := bel_of (w := w) hb (by repeat (first | (with_reducible first | exact HB.out | apply below_alloc | apply pw_below_drewN | apply below_drew1) | exact HB.out)); have nb_ := Aside0.mk (below_step hx_ hb); have ge_ := Aside0.mk (box_ge hx_ hg); clear HB  ; have HB := nb_; have BK1 := Aside0.mk hbox; have GE1 := ge_; clear nb_ ge_ hx_ hb hbox hg  ) | ((with_reducible refine gate_dst (N := 2) rfl ?_); refine box_event ?hg (N := 2) ?hd (cs := #[.int .i64 0, .string (⟨#[]⟩ : ByteArray), .int .i64 0, .slice none 0 0, .slice none 0 0, .slice none 0 0]) (t := 33) ?hr ?_; (case hd => rfl); (case hg => rfl); (case hr => first | (go_simp; done) | (go_simp; rfl)); intro gb2 hg w4 hbox hb; have hx_ := bel_of (w := w) hb (by repeat (first | (with_reducible first | exact HB.out | apply below_alloc | apply pw_below_drewN | apply below_drew1 | refine below_set ?_ GE1.out) | exact HB.out)); have n1_ := Aside0.mk (blk_below (g := gb1) (by (with_reducible repeat (first | refine blk_drewN ?_ _ | refine blk_drew ?_ | refine blk_alloc ?_ _)); exact BK1.out) hb); have m1_ := Aside0.mk (box_lt (g' := gb1) (by (with_reducible repeat (first | refine blk_drewN ?_ _ | refine blk_drew ?_ | refine blk_alloc ?_ _)); exact BK1.out) hg); have k1_ := Aside0.mk (box_gt (g' := gb1) (by (with_reducible repeat (first | refine blk_drewN ?_ _ | refine blk_drew ?_ | refine blk_alloc ?_ _)); exact BK1.out) hg); have nb_ := Aside0.mk (below_step hx_ hb); have ge_ := Aside0.mk (box_ge hx_ hg); clear HB BK1 ; have BK1 := n1_; have NB1_2 := m1_; have NB2_1 := k1_; have HB := nb_; have BK2 := Aside0.mk hbox; have GE2 := ge_; clear nb_ ge_ hx_ hb hbox hg n1_ m1_ k1_ ; obtain ⟨hc5_0, hc5_1, hc5_2, hc5_3, hc5_4, hc5_5, hf5_0, hf5_1, hf5_2, hf5_3, hf5_4, hf5_5⟩ := cells6 BK1.out; have hnb6 := NB1_2.out; have hnc6 := NB2_1.out) | ((with_reducible refine gate_callee (f := 46) rfl ?_); refine goesL_ (some 4) rfl rfl Try.func46 (by kernel_rfl) rfl #[.agg #[.int .i64 y.f0, .string y.f1, .int .i64 y.f2, .slice A3 y.f3.length c3, .slice A4 y.f4.length c4, .slice A5 y.f5.length c5], .int .i64 4] rfl (by (try simp only [List.map_toArray, List.map_cons, List.map_nil, List.append_toArray, List.cons_append, List.nil_append]); first | done | rfl) ?_; refine calls_bel (w0 := w) (by repeat (first | (with_reducible first | exact HB.out | apply below_alloc | apply pw_below_drewN | apply below_drew1 | refine below_set ?_ GE1.out | refine below_set ?_ GE2.out) | exact HB.out)) (fun hx_ => ?_); refine ((allT2 (n + 1)).1 y _ _ _ _ _ _ _ ⟨⟨Kd.C_below HA.out.1.1 hx_, HA.out.1.2⟩, ⟨Kd.C_below HA.out.2.1.1 hx_, HA.out.2.1.2⟩, ⟨Kd.C_below HA.out.2.2.1 hx_, HA.out.2.2.2⟩⟩ HQ.out).mono ?_; rintro e w9 ⟨E3, d3, y3, E4, d4, y4, E5, d5, y5, rfl, hc, hb⟩; refine ⟨_, rfl, ?_⟩; have n2_ := Aside0.mk (blk_below (g := gb2) (by (with_reducible repeat (first | refine blk_drewN ?_ _ | refine blk_drew ?_ | refine blk_alloc ?_ _)); exact BK2.out) hb); have g2_ := Aside0.mk (lt_of_blk (g := gb2) (by (with_reducible repeat (first | refine blk_drewN ?_ _ | refine blk_drew ?_ | refine blk_alloc ?_ _)); exact BK2.out) hb); have HC := Aside0.mk hc; have nb_ := Aside0.mk (below_step hx_ hb); clear HB BK1 BK2 hx_ hb hc; have HB := nb_; have BK2 := n2_; have GL := g2_; clear nb_ n2_ g2_; obtain ⟨hc7_0, hc7_1, hc7_2, hc7_3, hc7_4, hc7_5, hf7_0, hf7_1, hf7_2, hf7_3, hf7_4, hf7_5⟩ := cells6 BK2.out))
 refine bodyPost_ret (results_cell_row rfl _ _ gb2 33 #[.int .i64 (gE (n + 1) y).f0, .string (gE (n + 1) y).f1, .int .i64 (gE (n + 1) y).f2, .slice E3 (gE (n + 1) y).f3.length d3, .slice E4 (gE (n + 1) y).f4.length d4, .slice E5 (gE (n + 1) y).f5.length d5] (0, 0) _ rfl (by (with_reducible repeat (first | refine blk_drewN ?_ _ | refine blk_drew ?_ | refine blk_alloc ?_ _)); exact (put_6_5 (put_6_4 (put_6_3 (put_6_2 (put_6_1 (put_6_0 BK2.out))))))) Try.underlying33 rfl (by kernel_rfl)) rfl ?_
 exact ⟨E3, d3, E4, d4, E5, d5, rfl, rows_arg (AtL_set (g := gb2) (AtL_set (g := gb2) (AtL_set (g := gb2) (AtL_set (g := gb2) (AtL_set (g := gb2) (AtL_set (g := gb2) HC.out.at_ (fun b hb => Nat.ne_of_gt (Nat.lt_of_lt_of_le GL.out (HC.out.ge b hb))) 0 (.int .i64 (gE (n + 1) y).f0)) (fun b hb => Nat.ne_of_gt (Nat.lt_of_lt_of_le GL.out (HC.out.ge b hb))) 1 (.string (gE (n + 1) y).f1)) (fun b hb => Nat.ne_of_gt (Nat.lt_of_lt_of_le GL.out (HC.out.ge b hb))) 2 (.int .i64 (gE (n + 1) y).f2)) (fun b hb => Nat.ne_of_gt (Nat.lt_of_lt_of_le GL.out (HC.out.ge b hb))) 3 (.slice E3 (gE (n + 1) y).f3.length d3)) (fun b hb => Nat.ne_of_gt (Nat.lt_of_lt_of_le GL.out (HC.out.ge b hb))) 4 (.slice E4 (gE (n + 1) y).f4.length d4)) (fun b hb => Nat.ne_of_gt (Nat.lt_of_lt_of_le GL.out (HC.out.ge b hb))) 5 (.slice E5 (gE (n + 1) y).f5.length d5)) HC.out.r3 HC.out.r4 HC.out.r5, by repeat (first | (with_reducible first | exact HB.out | apply below_alloc | apply pw_below_drewN | apply below_drew1 | refine below_set ?_ GE2.out) | exact HB.out)⟩
/-- What the walk of the law asks of a value that was made of its argument. -/
structure FineF (n : Nat) (y : S33) : Prop where
  sqE : SqE (n + 1) y
  sq : LE n y.f3 ∧ LD n y.f4 ∧ LA n y.f5
  ic : LE (n + 1) (gE (n + 1) y).f3 ∧ LD (n + 1) (gE (n + 1) y).f4 ∧ LA (n + 1) (gE (n + 1) y).f5
  few0 : ∀ i3 i4 i5, RepEs y.f3 i3 → RepDs y.f4 i4 → RepAs y.f5 i5 → szL i3 + szL i4 + szL i5 ≤ 1000000000
  few : ∀ i3 i4 i5, RepEs (gE (n + 1) y).f3 i3 → RepDs (gE (n + 1) y).f4 i4 → RepAs (gE (n + 1) y).f5 i5 → szL i3 + szL i4 + szL i5 ≤ 1000000000
theorem few_of {n : Nat} {y : S33} (h : SqE (n + 1) y) (hk : kE (n + 1) y ≤ 1048576) : ∀ i3 i4 i5, RepEs y.f3 i3 → RepDs y.f4 i4 → RepAs y.f5 i5 → szL i3 + szL i4 + szL i5 ≤ 1000000000 := fun i3 i4 i5 h3 h4 h5 => by
  rw [SqE] at h
  rw [kE] at hk
  obtain ⟨hE, hD, hA⟩ := sz_le n
  have a := rowsE_le (kE n) _ _ h3 (fun z hz => hE z (h.1.2 z hz))
  have b := rowsD_le (kD n) _ _ h4 (fun z hz => hD z (h.2.1.2 z hz))
  have c := rowsA_le (kA n) _ _ h5 (fun z hz => hA z (h.2.2.2 z hz))
  omega
theorem fineF {n : Nat} {y : S33} (h : SqE (n + 1) y) (hk : kE (n + 1) y ≤ 1048576) : FineF n y := by
  have hz := (g_sq (n + 1)).1 y h
  have hkz := (g_k (n + 1)).1 y h
  have f0 := few_of h hk
  have f1 := few_of hz (Nat.le_trans hkz hk)
  have h' := h
  rw [SqE] at h hz
  exact ⟨h', h, ⟨⟨hz.1.1, fun z h => (sq_up n).1 z (hz.1.2 z h)⟩, ⟨hz.2.1.1, fun z h => (sq_up n).2.1 z (hz.2.1.2 z h)⟩, ⟨hz.2.2.1, fun z h => (sq_up n).2.2 z (hz.2.2.2 z h)⟩⟩, f0, f1⟩
/-- What the law's argument comes to. -/
theorem law_fineF (x : S26) (hx : ∃ n, FitE n x) : ∃ (m : Nat) (t : Int), laws_szExp.f m x.f0 x.f1 x.f2 x.f3 x.f4 x.f5 1048576 = some t ∧ (0 ≤ t → ∃ (n k : Nat) (y : S33), laws_toExp.f k x.f0 x.f1 x.f2 x.f3 x.f4 x.f5 = some (y.f0, y.f1, y.f2, y.f3, y.f4, y.f5) ∧ FineF n y) := by
  obtain ⟨n, hn⟩ := hx
  obtain ⟨r, ⟨m, hr⟩, _, _, hS⟩ := (sz_all n).1 x hn 1048576 (by omega) (by omega)
  refine ⟨m, r, hr m (Nat.le_refl _), fun h => ?_⟩
  obtain ⟨hs, hc⟩ := hS h
  obtain ⟨k, hk⟩ := (to_all n).1 x hs
  have hq := (sq_all n).1 x hs
  cases n with
  | zero => simp [FitE] at hn
  | succ n => exact ⟨n, k, cvE (n + 1) x, hk k (Nat.le_refl _), fineF hq (by rw [(k_cv (n + 1)).1 x]; omega)⟩
end Go.Proofs.Ytpndcfibjjkgcaa.MyItc

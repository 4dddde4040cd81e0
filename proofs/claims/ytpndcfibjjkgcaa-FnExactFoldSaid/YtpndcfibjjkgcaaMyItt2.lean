/- The walks of the functions that turn lists of the laws' own types into the program's, and the induction over the rounds. No condition. -/
import Derived.Test.YtpndcfibjjkgcaaMyItt1
namespace Go.Proofs.Ytpndcfibjjkgcaa.MyItc
open Go Go.RowKit Go.Proofs.YtpndcfibjjkgcaaW.PrintWords Go.Proofs.YtpndcfibjjkgcaaW.PrintLast Go.Proofs.YtpndcfibjjkgcaaW.PrintMore Go.Proofs.Ytpndcfibjjkgcaa.PIfg
attribute [local go_sem] max2_int min2_int max_two min_two max_three min_three max_four min_four
set_option linter.unusedVariables false
set_option linter.unusedSimpArgs false
set_option maxHeartbeats 8000000 in
set_option maxRecDepth 100000 in
theorem stepTEs (k : Nat) (ih : ∀ m_, m_ < k → TE m_) : TEs k := by
 intro A0 c0 l0 r w hr0 hc0 h
 cases k with
 | zero => exact absurd h (by simp [laws_toExpS.f])
 | succ k =>
 simp only [laws_toExpS.f] at h
 have hu26 := Try.underlying26
 have hu33 := Try.underlying33
 have HR0 := Aside0.mk hr0
 have HC0 := Aside0.mk hc0
 clear hr0 hc0
 have HB := Aside0.mk (Below.refl w.heap.size w)
 by_cases c2 : 0 ≤ (l0.length : Int)
 ·rw [if_pos c2] at h
  have C2 := Aside0.mk c2
  have c2b0 := eq_true c2
  have c2b1 : decide (0 ≤ (l0.length : Int)) = true := decide_eq_true c2
  clear c2
  by_cases c3 : ((l0.length : Int) : Int).toNat ≤ 2706490160679
  ·rw [if_pos c3] at h
   have C3 := Aside0.mk c3
   have c3b0 := eq_true c3
   have c3b1 : decide (((l0.length : Int) : Int).toNat ≤ 2706490160679) = true := decide_eq_true c3
   clear c3
   rw [Int.toNat_natCast] at h
   have H' := Aside0.mk h
   clear h
   go_enter Try.func26, Try.ntmps26
   go_wp2_with (first | ((with_reducible refine gate_dst (N := 7) rfl ?_); refine Kd.R_make (Kd.it 6) _ 33 rfl (N := 7) rfl 29 _ _ rfl (l0.length : Int) rfl rfl Try.underlying29 (.agg #[(.int .i64 0), (.string ⟨#[]⟩), (.int .i64 0), (.slice none 0 0), (.slice none 0 0), (.slice none 0 0)]) 104 info33 rfl (by decide) (by omega) zIE (ok := fun _ => True) (okp := fun _ => True) z_M.1 (fun _ hk => hk) trivial C2.out (Nat.le_trans (Nat.mul_le_mul_right _ C3.out) (by omega)) (Below.refl _ _) (Nat.le_refl _) ?_; intro v125 w4 ho5 hb hg_ hnew_; clear hg_ hnew_; rw [Int.toNat_natCast] at ho5; have n0_ := Aside0.mk (Kd.R_lower ho5 (below_size HB.out)); have n1_ := Aside0.mk (below_step HB.out hb); clear HB; have HO126 := n0_; have HB := n1_; clear n0_ n1_; clear hb ho5))
   go_loopg [4] k (fun kq v4 w' => ∃ (x3_1 : List (List It)) (x4_1 : Int) (yy : List S33) (i3 : Nat) (X3 : List (List It)), v4 = .int .i64 x4_1 ∧ Aside0 (laws_toExpS.l0 kq l0 yy x4_1 = some r) ∧ Aside0 (kq ≤ k) ∧ Aside0 (Kd.R (Kd.it 6) 33 w' w.heap.size (fun _ => True) v125 x3_1) ∧ Aside0 (Below w.heap.size w w') ∧ Aside0 (x4_1 = (i3 : Int) ∧ i3 ≤ l0.length ∧ X3.length = i3 ∧ x3_1 = X3 ++ List.replicate (l0.length - i3) zIE ∧ yy.length = l0.length ∧ RepEs (yy.take i3) X3.flatten ∧ (blksL X3.flatten).Nodup))
   case atStart => exact ⟨_, 0, _, 0, [], (by first | rfl | (simp; done) | (simp [*]; done)), H', ⟨Nat.le_refl _⟩, ⟨by (with_reducible repeat (first | apply Kd.R_alloc | apply Kd.R_drewN | apply Kd.R_drew)); exact HO126.out⟩, ⟨by repeat (first | (with_reducible first | exact HB.out | apply below_alloc | apply pw_below_drewN | apply below_drew1) | exact HB.out)⟩, ⟨rfl, Nat.zero_le _, rfl, rfl, List.length_replicate, by simpa using RepEs.nil, by simp [blksL]⟩⟩
   case round =>
    clear H' C2 C3 HB
    try clear c2b0
    try clear c2b1
    try clear p2
    try clear c3b0
    try clear c3b1
    obtain ⟨x3_1, x4_1, yy, i3, X3, rfl, HA, HK1, HO_3, HB, HJ⟩ := hrel
    cases gk with
    | zero => exact absurd HA.out (by simp [laws_toExpS.l0])
    | succ k1 =>
     have H := HA.out
     clear HA
     simp only [laws_toExpS.l0] at H
     by_cases c6 : x4_1 < (l0.length : Int)
     ·rw [if_pos c6] at H
      have c6b0 : decide (x4_1 < (l0.length : Int)) = true := decide_eq_true c6
      have q127 := c6
      clear c6
      by_cases c7 : 0 ≤ x4_1
      ·rw [if_pos c7] at H
       have c7b0 : decide (0 ≤ x4_1) = true := decide_eq_true c7
       have p127 := c7
       clear c7
       replace H := Option.bind_eq_some_iff.mp H
       obtain ⟨⟨t0, t1, t2, t3, t4, t5⟩, A80, H⟩ := H
       have AQ := Aside0.mk A80
       clear A80
       have hlen : x3_1.length = l0.length ∧ yy.length = l0.length := by
        obtain ⟨j0, j1, j2, j3, j4, j5, j6⟩ := HJ.out
        exact ⟨by rw [j3, List.length_append, List.length_replicate, j2]; omega, j4⟩
       have c9b0 : decide (x4_1 < (x3_1.length : Int)) = true := decide_eq_true (by rw [hlen.1]; exact q127)
       rw [if_pos (by rw [hlen.2]; exact q127)] at H
       have H' := Aside0.mk H
       clear H hlen
       have ZG := Aside0.mk (show x3_1.getD x4_1.toNat zIE = zIE from by
        obtain ⟨j0, j1, j2, j3, j4, j5, j6⟩ := HJ.out
        rw [j3, j0, Int.toNat_natCast, show l0.length - i3 = (l0.length - i3 - 1) + 1 by omega]
        exact get_at X3 _ i3 _ _ j2)
       obtain ⟨ad, A3, c3, A4, c4, A5, c5, e127, hx0, hx1, hx2, hx3, hx4, hx5, hl3, hi3, hl4, hi4, hl5, hi5⟩ := at_T26 HR0.out x4_1 p127 q127
       cases e127
       replace hx0 := lc_ HB.out hx0
       replace hx1 := lc_ HB.out hx1
       replace hx2 := lc_ HB.out hx2
       replace hx3 := lc_ HB.out hx3
       replace hx4 := lc_ HB.out hx4
       replace hx5 := lc_ HB.out hx5
       have HR3 := Aside0.mk hi3
       have HC3 := Aside0.mk hl3
       have HR4 := Aside0.mk hi4
       have HC4 := Aside0.mk hl4
       have HR5 := Aside0.mk hi5
       have HC5 := Aside0.mk hl5
       clear hi3 hl3 hi4 hl4 hi5 hl5
       replace p127 := eq_true p127
       replace q127 := eq_true q127
       go_wp2_with (first | ((with_reducible refine gate_callee (f := 10) rfl ?_); refine goesL_ (some 20) rfl rfl Try.func10 (by kernel_rfl) rfl #[.agg #[.int .i64 ((rd_T26 l0 x4_1).f0), .string ((rd_T26 l0 x4_1).f1), .int .i64 ((rd_T26 l0 x4_1).f2), .slice A3 ((rd_T26 l0 x4_1).f3).length c3, .slice A4 ((rd_T26 l0 x4_1).f4).length c4, .slice A5 ((rd_T26 l0 x4_1).f5).length c5]] rfl (by (try simp only [List.map_toArray, List.map_cons, List.map_nil, List.append_toArray, List.cons_append, List.nil_append]); first | done | rfl) ?_; refine calls_bel (w0 := w) HB.out (fun hx_ => ?_); (with_reducible refine (ih k1 (by have := HK1.out; omega) ((rd_T26 l0 x4_1).f0) ((rd_T26 l0 x4_1).f1) ((rd_T26 l0 x4_1).f2) _ _ ((rd_T26 l0 x4_1).f3) _ _ ((rd_T26 l0 x4_1).f4) _ _ ((rd_T26 l0 x4_1).f5) t0 t1 t2 t3 t4 t5 _ (Kd.C_below HR3.out hx_) HC3.out (Kd.C_below HR4.out hx_) HC4.out (Kd.C_below HR5.out hx_) HC5.out AQ.out).mono ?_); rintro e w11 ⟨E3, d3, y3, E4, d4, y4, E5, d5, y5, rfl, hc, hb⟩; refine ⟨_, rfl, ?_⟩; have HU_ := Aside0.mk (r_lt (by (with_reducible repeat (first | apply Kd.R_alloc | apply Kd.R_drewN | apply Kd.R_drew)); exact HO_3.out) hb); have HX_ := Aside0.mk (x_lt (by (with_reducible repeat (first | apply Kd.R_alloc | apply Kd.R_drewN | apply Kd.R_drew)); exact HO_3.out) (by simp) hb); have HL_ := Aside0.mk (below_size hx_); have GW_ := Aside0.mk (Grow.mk (Q := rows3 E3 t3.length d3 y3 E4 t4.length d4 y4 E5 t5.length d5 y5) hc.at_ hc.part (below_size hb)); have RP_ := Aside0.mk (And.intro hc.r3 (And.intro hc.r4 hc.r5)); have n0_ := Aside0.mk (Kd.R_below (by (with_reducible repeat (first | apply Kd.R_alloc | apply Kd.R_drewN | apply Kd.R_drew)); exact HO_3.out) hb); have n4_ := Aside0.mk (below_step hx_ hb); clear HO_3 HB hx_ hb hc; have HO_3 := n0_; have HB := n4_; clear n0_ n4_; have p10 : 0 ≤ (x4_1 : Int) := of_eq_true p127; have q10 : (x4_1 : Int) < ((x3_1.length : Int) : Int) := of_decide_eq_true c9b0; obtain ⟨go10, co10, eo10, gb10, gl10, cl10, HG10⟩ := Kd.R_form HO_3.out (by omega); (first | cases eo10 | (injection eo10 with ea_ en_ ec_; (first | subst ea_ | (injection ea_ with ea_; subst ea_)); subst ec_; clear en_)); have GB10 := Aside0.mk gb10; clear gb10 gl10 HG10; obtain ⟨ce15, hcl15, hM15, hcc15, hfr15⟩ := Kd.R_elem HO_3.out zIE (x4_1 : Int) p10 q10; rw [ZG.out] at hM15; obtain ⟨_, rfl, _, _⟩ := hM15; obtain ⟨el, hel⟩ : ∃ el : List It, el = .i t0 :: .s t1 :: .i t2 :: rows3 E3 t3.length d3 y3 E4 t4.length d4 y4 E5 t5.length d5 y5 := ⟨_, rfl⟩; have hbl : blksL el = blksL (rows3 E3 t3.length d3 y3 E4 t4.length d4 y4 E5 t5.length d5 y5) := (by subst hel; simp [blksL, It.blks, row1, rows3]); have PE_ := Aside0.mk (show Part _ _ el from ⟨by rw [hbl]; exact GW_.out.part.nd, by rw [hbl]; exact GW_.out.part.ge, by rw [hbl]; exact GW_.out.part.lt⟩); have QE_ := Aside0.mk (show AtL w11 el from by (subst hel; have q_ := GW_.out.at_; simp only [List.append_assoc, List.cons_append, List.nil_append, AtL, It.At, true_and] at q_ ⊢; exact q_)); have NU_ := Aside0.mk (HU_.out go10 (by simp [Value.ownBlock])); have HP15 := Kd.R_seg HO_3.out (x4_1 : Int) p10 q10 (seg := [.int .i64 t0, .string t1, .int .i64 t2, .slice E3 t3.length d3, .slice E4 t4.length d4, .slice E5 t5.length d5]) (j := 0) hcl15 hcc15 (show 6 ≤ 6 from by decide) (x' := el) (okp := fun k_ => True ∧ k_ ≠ go10) (show (Kd.it 6).M _ _ _ el _ from ⟨by rw [hel]; rfl, by rw [hel]; rfl, QE_.out, fun b hb_ => ⟨⟨trivial, by have := PE_.out.ge b hb_; have := NU_.out; omega⟩, by have := PE_.out.ge b hb_; have := HL_.out; omega⟩⟩) (fun _ hk => hk); have hx15_0 := hcc15 0 _ rfl; (try simp only [show (Kd.it 6).sz = 6 from rfl, Nat.mul_one, Nat.add_zero] at hx15_0); have hf15_0 := hfr15 0; (try simp only [show (Kd.it 6).sz = 6 from rfl, Nat.mul_one, Nat.add_zero] at hf15_0); have hx15_1 := hcc15 1 _ rfl; (try simp only [show (Kd.it 6).sz = 6 from rfl, Nat.mul_one, Nat.add_zero] at hx15_1); have hf15_1 := hfr15 1; (try simp only [show (Kd.it 6).sz = 6 from rfl, Nat.mul_one, Nat.add_zero] at hf15_1); have hx15_2 := hcc15 2 _ rfl; (try simp only [show (Kd.it 6).sz = 6 from rfl, Nat.mul_one, Nat.add_zero] at hx15_2); have hf15_2 := hfr15 2; (try simp only [show (Kd.it 6).sz = 6 from rfl, Nat.mul_one, Nat.add_zero] at hf15_2); have hx15_3 := hcc15 3 _ rfl; (try simp only [show (Kd.it 6).sz = 6 from rfl, Nat.mul_one, Nat.add_zero] at hx15_3); have hf15_3 := hfr15 3; (try simp only [show (Kd.it 6).sz = 6 from rfl, Nat.mul_one, Nat.add_zero] at hf15_3); have hx15_4 := hcc15 4 _ rfl; (try simp only [show (Kd.it 6).sz = 6 from rfl, Nat.mul_one, Nat.add_zero] at hx15_4); have hf15_4 := hfr15 4; (try simp only [show (Kd.it 6).sz = 6 from rfl, Nat.mul_one, Nat.add_zero] at hf15_4); have hx15_5 := hcc15 5 _ rfl; (try simp only [show (Kd.it 6).sz = 6 from rfl, Nat.mul_one, Nat.add_zero] at hx15_5); have hf15_5 := hfr15 5; (try simp only [show (Kd.it 6).sz = 6 from rfl, Nat.mul_one, Nat.add_zero] at hf15_5); clear hcl15 hcc15 hfr15; replace p10 := eq_true p10; replace q10 := eq_true q10) | ((with_reducible refine gate_store (t := 33) (p := 21) rfl ?_); refine store_event (t := 33) (p := 21) (v := ?vo_w16) (w1 := ((((((w11.setCell ⟨go10, (x4_1 : Int).toNat * 6, none⟩ (.int .i64 t0)).setCell ⟨go10, (x4_1 : Int).toNat * 6 + 1, none⟩ (.string t1)).setCell ⟨go10, (x4_1 : Int).toNat * 6 + 2, none⟩ (.int .i64 t2)).setCell ⟨go10, (x4_1 : Int).toNat * 6 + 3, none⟩ (.slice E3 t3.length d3)).setCell ⟨go10, (x4_1 : Int).toNat * 6 + 4, none⟩ (.slice E4 t4.length d4)).setCell ⟨go10, (x4_1 : Int).toNat * 6 + 5, none⟩ (.slice E5 t5.length d5))) ?hg ?ho ?hn ?hr ?_; (case ho => rfl); (case hg => rfl); (case hn => rfl); (case hr => first | (go_simp; done) | (go_simp; rfl)); intro w16 hw; have hp_ : Kd.R (Kd.it 6) 33 w16 w.heap.size (fun _ => True) (.slice (some ⟨go10, 0, none⟩) x3_1.length co10) (x3_1.set (x4_1 : Int).toNat el) := (by rw [hw]; exact HP15.1); clear HP15; have n0_ := Aside0.mk (hp_); have n1_ := Aside0.mk ((by rw [hw]; exact below_set (below_set (below_set (below_set (below_set (below_set (HB.out) GB10.out) GB10.out) GB10.out) GB10.out) GB10.out) GB10.out : Below w.heap.size w w16)); clear HO_3 HB; have HO_3 := n0_; have HB := n1_; clear n0_ n1_; clear hw hp_))
       go_roundg k1
       case measure => have := HK1.out; omega
       case rel => exact ⟨_, (wrap64 (x4_1 + 1)), _, i3 + 1, X3 ++ [el], (by first | rfl | (simp; done) | (simp [*]; done)), H', ⟨by have := HK1.out; omega⟩, ⟨by (with_reducible repeat (first | apply Kd.R_alloc | apply Kd.R_drewN | apply Kd.R_drew)); exact HO_3.out⟩, ⟨by repeat (first | (with_reducible first | exact HB.out | apply below_alloc | apply pw_below_drewN | apply below_drew1) | exact HB.out)⟩, ⟨by
        obtain ⟨j0, j1, j2, j3, j4, j5, j6⟩ := HJ.out
        have jl : i3 < l0.length := by have := of_eq_true q127; omega
        have jt : x4_1.toNat = i3 := by rw [j0, Int.toNat_natCast]
        have jm : l0.length ≤ 9223372036854775807 := by have := HR0.out.2.1; omega
        refine ⟨by rw [j0]; unfold wrap64; omega, jl, by rw [List.length_append, j2]; rfl, ?_, by rw [List.length_set]; exact j4, ?_, ?_⟩
        · rw [jt, j3, show l0.length - i3 = (l0.length - (i3 + 1)) + 1 by omega]
          exact set_at X3 _ i3 _ _ j2
        · rw [jt, take_set yy i3 _ (by omega), List.flatten_append, List.flatten_cons, List.flatten_nil, List.append_nil, hel]
          exact j5.snoc (RepE.mk (x := (⟨t0, t1, t2, t3, t4, t5⟩ : S33)) RP_.out.1 RP_.out.2.1 RP_.out.2.2)
        · exact nodup_more j6 PE_.out (fun c hc => HX_.out c (by rw [j3, List.flatten_append, blksL_app]; exact List.mem_append_left _ hc))⟩⟩
      ·rw [if_neg c7] at H
       exact absurd H (by simp)
     ·rw [if_neg c6] at H
      have c6b0 : decide (x4_1 < (l0.length : Int)) = false := decide_eq_false c6
      clear c6
      obtain rfl := Option.some.inj H
      clear H
      have hfin : Aside0 (∃ Ao co, v125 = .slice Ao yy.length co ∧ CopR 33 6 RepEs w.heap.size wr yy Ao co x3_1.flatten) := ⟨by
       obtain ⟨j0, j1, j2, j3, j4, j5, j6⟩ := HJ.out
       have jl : i3 = l0.length := by have := of_decide_eq_false c6b0; omega
       obtain ⟨Ao30, co30, eo30⟩ := Kd.R_slice HO_3.out
       have hr := Kd.it_row HO_3.out (by simp)
       have hx : x3_1 = X3 := by rw [j3, jl, Nat.sub_self, List.replicate_zero, List.append_nil]
       have hxl : x3_1.length = yy.length := by rw [hx, j2, jl, j4]
       rw [hxl] at eo30 hr
       subst eo30
       refine ⟨Ao30, co30, rfl, hr.1, ⟨hr.2.2 (by rw [hx]; exact j6), fun b hb => (hr.2.1 b hb).2, fun b hb => (AtL_blk _ hr.1 b hb).1⟩, ?_⟩
       rw [jl, ← j4, List.take_length] at j5
       rw [hx]
       exact j5⟩
      obtain ⟨Ao30, co30, rfl, hcop⟩ := hfin.out
      clear hfin
      have HCP := Aside0.mk hcop
      clear hcop
      go_wp2
      go_ret
      first | exact ⟨Ao30, co30, x3_1.flatten, rfl, HCP.out, by repeat (first | (with_reducible first | exact HB.out | apply below_alloc | apply pw_below_drewN | apply below_drew1) | exact HB.out)⟩ | exact ⟨Ao30, co30, rfl, x3_1.flatten, HCP.out, by repeat (first | (with_reducible first | exact HB.out | apply below_alloc | apply pw_below_drewN | apply below_drew1) | exact HB.out)⟩
  ·rw [if_neg c3] at h
   exact absurd h (by simp)
 ·rw [if_neg c2] at h
  exact absurd h (by simp)
set_option maxHeartbeats 8000000 in
set_option maxRecDepth 100000 in
theorem stepTDs (k : Nat) (ih : ∀ m_, m_ < k → TD m_) : TDs k := by
 intro A0 c0 l0 r w hr0 hc0 h
 cases k with
 | zero => exact absurd h (by simp [laws_toDecS.f])
 | succ k =>
 simp only [laws_toDecS.f] at h
 have hu63 := Try.underlying63
 have hu68 := Try.underlying68
 have HR0 := Aside0.mk hr0
 have HC0 := Aside0.mk hc0
 clear hr0 hc0
 have HB := Aside0.mk (Below.refl w.heap.size w)
 by_cases c2 : 0 ≤ (l0.length : Int)
 ·rw [if_pos c2] at h
  have C2 := Aside0.mk c2
  have c2b0 := eq_true c2
  have c2b1 : decide (0 ≤ (l0.length : Int)) = true := decide_eq_true c2
  clear c2
  by_cases c3 : ((l0.length : Int) : Int).toNat ≤ 1675446289944
  ·rw [if_pos c3] at h
   have C3 := Aside0.mk c3
   have c3b0 := eq_true c3
   have c3b1 : decide (((l0.length : Int) : Int).toNat ≤ 1675446289944) = true := decide_eq_true c3
   clear c3
   rw [Int.toNat_natCast] at h
   have H' := Aside0.mk h
   clear h
   go_enter Try.func27, Try.ntmps27
   go_wp2_with (first | ((with_reducible refine gate_dst (N := 7) rfl ?_); refine Kd.R_make (Kd.it 9) _ 68 rfl (N := 7) rfl 30 _ _ rfl (l0.length : Int) rfl rfl Try.underlying30 (.agg #[(.string ⟨#[]⟩), (.slice none 0 0), (.int .i64 0), (.string ⟨#[]⟩), (.int .i64 0), (.slice none 0 0), (.slice none 0 0), (.slice none 0 0), (.slice none 0 0)]) 168 info68 rfl (by decide) (by omega) zID (ok := fun _ => True) (okp := fun _ => True) z_M.2.2 (fun _ hk => hk) trivial C2.out (Nat.le_trans (Nat.mul_le_mul_right _ C3.out) (by omega)) (Below.refl _ _) (Nat.le_refl _) ?_; intro v125 w4 ho5 hb hg_ hnew_; clear hg_ hnew_; rw [Int.toNat_natCast] at ho5; have n0_ := Aside0.mk (Kd.R_lower ho5 (below_size HB.out)); have n1_ := Aside0.mk (below_step HB.out hb); clear HB; have HO126 := n0_; have HB := n1_; clear n0_ n1_; clear hb ho5))
   go_loopg [4] k (fun kq v4 w' => ∃ (x3_1 : List (List It)) (x4_1 : Int) (yy : List S68) (i3 : Nat) (X3 : List (List It)), v4 = .int .i64 x4_1 ∧ Aside0 (laws_toDecS.l0 kq l0 yy x4_1 = some r) ∧ Aside0 (kq ≤ k) ∧ Aside0 (Kd.R (Kd.it 9) 68 w' w.heap.size (fun _ => True) v125 x3_1) ∧ Aside0 (Below w.heap.size w w') ∧ Aside0 (x4_1 = (i3 : Int) ∧ i3 ≤ l0.length ∧ X3.length = i3 ∧ x3_1 = X3 ++ List.replicate (l0.length - i3) zID ∧ yy.length = l0.length ∧ RepDs (yy.take i3) X3.flatten ∧ (blksL X3.flatten).Nodup))
   case atStart => exact ⟨_, 0, _, 0, [], (by first | rfl | (simp; done) | (simp [*]; done)), H', ⟨Nat.le_refl _⟩, ⟨by (with_reducible repeat (first | apply Kd.R_alloc | apply Kd.R_drewN | apply Kd.R_drew)); exact HO126.out⟩, ⟨by repeat (first | (with_reducible first | exact HB.out | apply below_alloc | apply pw_below_drewN | apply below_drew1) | exact HB.out)⟩, ⟨rfl, Nat.zero_le _, rfl, rfl, List.length_replicate, by simpa using RepDs.nil, by simp [blksL]⟩⟩
   case round =>
    clear H' C2 C3 HB
    try clear c2b0
    try clear c2b1
    try clear p2
    try clear c3b0
    try clear c3b1
    obtain ⟨x3_1, x4_1, yy, i3, X3, rfl, HA, HK1, HO_3, HB, HJ⟩ := hrel
    cases gk with
    | zero => exact absurd HA.out (by simp [laws_toDecS.l0])
    | succ k1 =>
     have H := HA.out
     clear HA
     simp only [laws_toDecS.l0] at H
     by_cases c6 : x4_1 < (l0.length : Int)
     ·rw [if_pos c6] at H
      have c6b0 : decide (x4_1 < (l0.length : Int)) = true := decide_eq_true c6
      have q127 := c6
      clear c6
      by_cases c7 : 0 ≤ x4_1
      ·rw [if_pos c7] at H
       have c7b0 : decide (0 ≤ x4_1) = true := decide_eq_true c7
       have p127 := c7
       clear c7
       replace H := Option.bind_eq_some_iff.mp H
       obtain ⟨⟨t0, t1, t2, t3, t4, t5, t6, t7, t8⟩, A80, H⟩ := H
       have AQ := Aside0.mk A80
       clear A80
       have hlen : x3_1.length = l0.length ∧ yy.length = l0.length := by
        obtain ⟨j0, j1, j2, j3, j4, j5, j6⟩ := HJ.out
        exact ⟨by rw [j3, List.length_append, List.length_replicate, j2]; omega, j4⟩
       have c9b0 : decide (x4_1 < (x3_1.length : Int)) = true := decide_eq_true (by rw [hlen.1]; exact q127)
       rw [if_pos (by rw [hlen.2]; exact q127)] at H
       have H' := Aside0.mk H
       clear H hlen
       have ZG := Aside0.mk (show x3_1.getD x4_1.toNat zID = zID from by
        obtain ⟨j0, j1, j2, j3, j4, j5, j6⟩ := HJ.out
        rw [j3, j0, Int.toNat_natCast, show l0.length - i3 = (l0.length - i3 - 1) + 1 by omega]
        exact get_at X3 _ i3 _ _ j2)
       obtain ⟨ad, A1, c1, A5, c5, A6, c6, A7, c7, A8, c8, e127, hx0, hx1, hx2, hx3, hx4, hx5, hx6, hx7, hx8, hl1, hi1, hl5, hi5, hl6, hi6, hl7, hi7, hl8, hi8⟩ := at_T63 HR0.out x4_1 p127 q127
       cases e127
       replace hx0 := lc_ HB.out hx0
       replace hx1 := lc_ HB.out hx1
       replace hx2 := lc_ HB.out hx2
       replace hx3 := lc_ HB.out hx3
       replace hx4 := lc_ HB.out hx4
       replace hx5 := lc_ HB.out hx5
       replace hx6 := lc_ HB.out hx6
       replace hx7 := lc_ HB.out hx7
       replace hx8 := lc_ HB.out hx8
       have HR1 := Aside0.mk hi1
       have HC1 := Aside0.mk hl1
       have HR5 := Aside0.mk hi5
       have HC5 := Aside0.mk hl5
       have HR6 := Aside0.mk hi6
       have HC6 := Aside0.mk hl6
       have HR7 := Aside0.mk hi7
       have HC7 := Aside0.mk hl7
       have HR8 := Aside0.mk hi8
       have HC8 := Aside0.mk hl8
       clear hi1 hl1 hi5 hl5 hi6 hl6 hi7 hl7 hi8 hl8
       replace p127 := eq_true p127
       replace q127 := eq_true q127
       go_wp2_with (first | ((with_reducible refine gate_callee (f := 51) rfl ?_); refine goesL_ (some 20) rfl rfl Try.func51 (by kernel_rfl) rfl #[.agg #[.string ((rd_T63 l0 x4_1).f0), .slice A1 ((rd_T63 l0 x4_1).f1).length c1, .int .i64 ((rd_T63 l0 x4_1).f2.f0), .string ((rd_T63 l0 x4_1).f2.f1), .int .i64 ((rd_T63 l0 x4_1).f2.f2), .slice A5 ((rd_T63 l0 x4_1).f2.f3).length c5, .slice A6 ((rd_T63 l0 x4_1).f2.f4).length c6, .slice A7 ((rd_T63 l0 x4_1).f2.f5).length c7, .slice A8 ((rd_T63 l0 x4_1).f3).length c8]] rfl (by (try simp only [List.map_toArray, List.map_cons, List.map_nil, List.append_toArray, List.cons_append, List.nil_append]); first | done | rfl) ?_; refine calls_bel (w0 := w) HB.out (fun hx_ => ?_); (with_reducible refine (ih k1 (by have := HK1.out; omega) ((rd_T63 l0 x4_1).f0) _ _ ((rd_T63 l0 x4_1).f1) ((rd_T63 l0 x4_1).f2.f0) ((rd_T63 l0 x4_1).f2.f1) ((rd_T63 l0 x4_1).f2.f2) _ _ ((rd_T63 l0 x4_1).f2.f3) _ _ ((rd_T63 l0 x4_1).f2.f4) _ _ ((rd_T63 l0 x4_1).f2.f5) _ _ ((rd_T63 l0 x4_1).f3) t0 t1 t2 t3 t4 t5 t6 t7 t8 _ (Kd.C_below HR1.out hx_) HC1.out (Kd.C_below HR5.out hx_) HC5.out (Kd.C_below HR6.out hx_) HC6.out (Kd.C_below HR7.out hx_) HC7.out (Kd.C_below HR8.out hx_) HC8.out AQ.out).mono ?_); rintro e w11 ⟨E1, d1, E5, d5, y5, E6, d6, y6, E7, d7, y7, E8, d8, y8, rfl, hgw, hrp, hb⟩; refine ⟨_, rfl, ?_⟩; have HU_ := Aside0.mk (r_lt (by (with_reducible repeat (first | apply Kd.R_alloc | apply Kd.R_drewN | apply Kd.R_drew)); exact HO_3.out) hb); have HX_ := Aside0.mk (x_lt (by (with_reducible repeat (first | apply Kd.R_alloc | apply Kd.R_drewN | apply Kd.R_drew)); exact HO_3.out) (by simp) hb); have HL_ := Aside0.mk (below_size hx_); have GW_ := Aside0.mk hgw; have RP_ := Aside0.mk hrp; have n0_ := Aside0.mk (Kd.R_below (by (with_reducible repeat (first | apply Kd.R_alloc | apply Kd.R_drewN | apply Kd.R_drew)); exact HO_3.out) hb); have n4_ := Aside0.mk (below_step hx_ hb); clear HO_3 HB hx_ hb hgw hrp; have HO_3 := n0_; have HB := n4_; clear n0_ n4_; have p10 : 0 ≤ (x4_1 : Int) := of_eq_true p127; have q10 : (x4_1 : Int) < ((x3_1.length : Int) : Int) := of_decide_eq_true c9b0; obtain ⟨go10, co10, eo10, gb10, gl10, cl10, HG10⟩ := Kd.R_form HO_3.out (by omega); (first | cases eo10 | (injection eo10 with ea_ en_ ec_; (first | subst ea_ | (injection ea_ with ea_; subst ea_)); subst ec_; clear en_)); have GB10 := Aside0.mk gb10; clear gb10 gl10 HG10; obtain ⟨ce15, hcl15, hM15, hcc15, hfr15⟩ := Kd.R_elem HO_3.out zID (x4_1 : Int) p10 q10; rw [ZG.out] at hM15; obtain ⟨_, rfl, _, _⟩ := hM15; obtain ⟨el, hel⟩ : ∃ el : List It, el = .s t0 :: .r 9 1 (.slice E1 t1.length d1) t1.length (t1.map It.s) :: (.i t2 :: .s t3 :: .i t4 :: (rows3 E5 t5.length d5 y5 E6 t6.length d6 y6 E7 t7.length d7 y7 ++ [.r 68 9 (.slice E8 t8.length d8) t8.length y8])) := ⟨_, rfl⟩; have hbl : blksL el = blksL (row1 E1 d1 t1 ++ rows3 E5 t5.length d5 y5 E6 t6.length d6 y6 E7 t7.length d7 y7 ++ [.r 68 9 (.slice E8 t8.length d8) t8.length y8]) := (by subst hel; simp [blksL, It.blks, row1, rows3]); have PE_ := Aside0.mk (show Part _ _ el from ⟨by rw [hbl]; exact GW_.out.part.nd, by rw [hbl]; exact GW_.out.part.ge, by rw [hbl]; exact GW_.out.part.lt⟩); have QE_ := Aside0.mk (show AtL w11 el from by (subst hel; have q_ := GW_.out.at_; simp only [List.append_assoc, List.cons_append, List.nil_append, AtL, It.At, true_and] at q_ ⊢; exact q_)); have NU_ := Aside0.mk (HU_.out go10 (by simp [Value.ownBlock])); have HP15 := Kd.R_seg HO_3.out (x4_1 : Int) p10 q10 (seg := [.string t0, .slice E1 t1.length d1, .int .i64 t2, .string t3, .int .i64 t4, .slice E5 t5.length d5, .slice E6 t6.length d6, .slice E7 t7.length d7, .slice E8 t8.length d8]) (j := 0) hcl15 hcc15 (show 9 ≤ 9 from by decide) (x' := el) (okp := fun k_ => True ∧ k_ ≠ go10) (show (Kd.it 9).M _ _ _ el _ from ⟨by rw [hel]; rfl, by rw [hel]; rfl, QE_.out, fun b hb_ => ⟨⟨trivial, by have := PE_.out.ge b hb_; have := NU_.out; omega⟩, by have := PE_.out.ge b hb_; have := HL_.out; omega⟩⟩) (fun _ hk => hk); have hx15_0 := hcc15 0 _ rfl; (try simp only [show (Kd.it 9).sz = 9 from rfl, Nat.mul_one, Nat.add_zero] at hx15_0); have hf15_0 := hfr15 0; (try simp only [show (Kd.it 9).sz = 9 from rfl, Nat.mul_one, Nat.add_zero] at hf15_0); have hx15_1 := hcc15 1 _ rfl; (try simp only [show (Kd.it 9).sz = 9 from rfl, Nat.mul_one, Nat.add_zero] at hx15_1); have hf15_1 := hfr15 1; (try simp only [show (Kd.it 9).sz = 9 from rfl, Nat.mul_one, Nat.add_zero] at hf15_1); have hx15_2 := hcc15 2 _ rfl; (try simp only [show (Kd.it 9).sz = 9 from rfl, Nat.mul_one, Nat.add_zero] at hx15_2); have hf15_2 := hfr15 2; (try simp only [show (Kd.it 9).sz = 9 from rfl, Nat.mul_one, Nat.add_zero] at hf15_2); have hx15_3 := hcc15 3 _ rfl; (try simp only [show (Kd.it 9).sz = 9 from rfl, Nat.mul_one, Nat.add_zero] at hx15_3); have hf15_3 := hfr15 3; (try simp only [show (Kd.it 9).sz = 9 from rfl, Nat.mul_one, Nat.add_zero] at hf15_3); have hx15_4 := hcc15 4 _ rfl; (try simp only [show (Kd.it 9).sz = 9 from rfl, Nat.mul_one, Nat.add_zero] at hx15_4); have hf15_4 := hfr15 4; (try simp only [show (Kd.it 9).sz = 9 from rfl, Nat.mul_one, Nat.add_zero] at hf15_4); have hx15_5 := hcc15 5 _ rfl; (try simp only [show (Kd.it 9).sz = 9 from rfl, Nat.mul_one, Nat.add_zero] at hx15_5); have hf15_5 := hfr15 5; (try simp only [show (Kd.it 9).sz = 9 from rfl, Nat.mul_one, Nat.add_zero] at hf15_5); have hx15_6 := hcc15 6 _ rfl; (try simp only [show (Kd.it 9).sz = 9 from rfl, Nat.mul_one, Nat.add_zero] at hx15_6); have hf15_6 := hfr15 6; (try simp only [show (Kd.it 9).sz = 9 from rfl, Nat.mul_one, Nat.add_zero] at hf15_6); have hx15_7 := hcc15 7 _ rfl; (try simp only [show (Kd.it 9).sz = 9 from rfl, Nat.mul_one, Nat.add_zero] at hx15_7); have hf15_7 := hfr15 7; (try simp only [show (Kd.it 9).sz = 9 from rfl, Nat.mul_one, Nat.add_zero] at hf15_7); have hx15_8 := hcc15 8 _ rfl; (try simp only [show (Kd.it 9).sz = 9 from rfl, Nat.mul_one, Nat.add_zero] at hx15_8); have hf15_8 := hfr15 8; (try simp only [show (Kd.it 9).sz = 9 from rfl, Nat.mul_one, Nat.add_zero] at hf15_8); clear hcl15 hcc15 hfr15; replace p10 := eq_true p10; replace q10 := eq_true q10) | ((with_reducible refine gate_store (t := 68) (p := 21) rfl ?_); refine store_event (t := 68) (p := 21) (v := ?vo_w16) (w1 := (((((((((w11.setCell ⟨go10, (x4_1 : Int).toNat * 9, none⟩ (.string t0)).setCell ⟨go10, (x4_1 : Int).toNat * 9 + 1, none⟩ (.slice E1 t1.length d1)).setCell ⟨go10, (x4_1 : Int).toNat * 9 + 2, none⟩ (.int .i64 t2)).setCell ⟨go10, (x4_1 : Int).toNat * 9 + 3, none⟩ (.string t3)).setCell ⟨go10, (x4_1 : Int).toNat * 9 + 4, none⟩ (.int .i64 t4)).setCell ⟨go10, (x4_1 : Int).toNat * 9 + 5, none⟩ (.slice E5 t5.length d5)).setCell ⟨go10, (x4_1 : Int).toNat * 9 + 6, none⟩ (.slice E6 t6.length d6)).setCell ⟨go10, (x4_1 : Int).toNat * 9 + 7, none⟩ (.slice E7 t7.length d7)).setCell ⟨go10, (x4_1 : Int).toNat * 9 + 8, none⟩ (.slice E8 t8.length d8))) ?hg ?ho ?hn ?hr ?_; (case ho => rfl); (case hg => rfl); (case hn => rfl); (case hr => first | (go_simp; done) | (go_simp; rfl)); intro w16 hw; have hp_ : Kd.R (Kd.it 9) 68 w16 w.heap.size (fun _ => True) (.slice (some ⟨go10, 0, none⟩) x3_1.length co10) (x3_1.set (x4_1 : Int).toNat el) := (by rw [hw]; exact HP15.1); clear HP15; have n0_ := Aside0.mk (hp_); have n1_ := Aside0.mk ((by rw [hw]; exact below_set (below_set (below_set (below_set (below_set (below_set (below_set (below_set (below_set (HB.out) GB10.out) GB10.out) GB10.out) GB10.out) GB10.out) GB10.out) GB10.out) GB10.out) GB10.out : Below w.heap.size w w16)); clear HO_3 HB; have HO_3 := n0_; have HB := n1_; clear n0_ n1_; clear hw hp_))
       go_roundg k1
       case measure => have := HK1.out; omega
       case rel => exact ⟨_, (wrap64 (x4_1 + 1)), _, i3 + 1, X3 ++ [el], (by first | rfl | (simp; done) | (simp [*]; done)), H', ⟨by have := HK1.out; omega⟩, ⟨by (with_reducible repeat (first | apply Kd.R_alloc | apply Kd.R_drewN | apply Kd.R_drew)); exact HO_3.out⟩, ⟨by repeat (first | (with_reducible first | exact HB.out | apply below_alloc | apply pw_below_drewN | apply below_drew1) | exact HB.out)⟩, ⟨by
        obtain ⟨j0, j1, j2, j3, j4, j5, j6⟩ := HJ.out
        have jl : i3 < l0.length := by have := of_eq_true q127; omega
        have jt : x4_1.toNat = i3 := by rw [j0, Int.toNat_natCast]
        have jm : l0.length ≤ 9223372036854775807 := by have := HR0.out.2.1; omega
        refine ⟨by rw [j0]; unfold wrap64; omega, jl, by rw [List.length_append, j2]; rfl, ?_, by rw [List.length_set]; exact j4, ?_, ?_⟩
        · rw [jt, j3, show l0.length - i3 = (l0.length - (i3 + 1)) + 1 by omega]
          exact set_at X3 _ i3 _ _ j2
        · rw [jt, take_set yy i3 _ (by omega), List.flatten_append, List.flatten_cons, List.flatten_nil, List.append_nil, hel]
          exact j5.snoc (RepD.mk (x := (⟨t0, t1, (⟨t2, t3, t4, t5, t6, t7⟩ : S33), t8⟩ : S68)) (RepE.mk (x := (⟨t2, t3, t4, t5, t6, t7⟩ : S33)) RP_.out.1 RP_.out.2.1 RP_.out.2.2.1) RP_.out.2.2.2)
        · exact nodup_more j6 PE_.out (fun c hc => HX_.out c (by rw [j3, List.flatten_append, blksL_app]; exact List.mem_append_left _ hc))⟩⟩
      ·rw [if_neg c7] at H
       exact absurd H (by simp)
     ·rw [if_neg c6] at H
      have c6b0 : decide (x4_1 < (l0.length : Int)) = false := decide_eq_false c6
      clear c6
      obtain rfl := Option.some.inj H
      clear H
      have hfin : Aside0 (∃ Ao co, v125 = .slice Ao yy.length co ∧ CopR 68 9 RepDs w.heap.size wr yy Ao co x3_1.flatten) := ⟨by
       obtain ⟨j0, j1, j2, j3, j4, j5, j6⟩ := HJ.out
       have jl : i3 = l0.length := by have := of_decide_eq_false c6b0; omega
       obtain ⟨Ao30, co30, eo30⟩ := Kd.R_slice HO_3.out
       have hr := Kd.it_row HO_3.out (by simp)
       have hx : x3_1 = X3 := by rw [j3, jl, Nat.sub_self, List.replicate_zero, List.append_nil]
       have hxl : x3_1.length = yy.length := by rw [hx, j2, jl, j4]
       rw [hxl] at eo30 hr
       subst eo30
       refine ⟨Ao30, co30, rfl, hr.1, ⟨hr.2.2 (by rw [hx]; exact j6), fun b hb => (hr.2.1 b hb).2, fun b hb => (AtL_blk _ hr.1 b hb).1⟩, ?_⟩
       rw [jl, ← j4, List.take_length] at j5
       rw [hx]
       exact j5⟩
      obtain ⟨Ao30, co30, rfl, hcop⟩ := hfin.out
      clear hfin
      have HCP := Aside0.mk hcop
      clear hcop
      go_wp2
      go_ret
      first | exact ⟨Ao30, co30, x3_1.flatten, rfl, HCP.out, by repeat (first | (with_reducible first | exact HB.out | apply below_alloc | apply pw_below_drewN | apply below_drew1) | exact HB.out)⟩ | exact ⟨Ao30, co30, rfl, x3_1.flatten, HCP.out, by repeat (first | (with_reducible first | exact HB.out | apply below_alloc | apply pw_below_drewN | apply below_drew1) | exact HB.out)⟩
  ·rw [if_neg c3] at h
   exact absurd h (by simp)
 ·rw [if_neg c2] at h
  exact absurd h (by simp)
set_option maxHeartbeats 8000000 in
set_option maxRecDepth 100000 in
theorem stepTAs (k : Nat) (ih : ∀ m_, m_ < k → TA m_) : TAs k := by
 intro A0 c0 l0 r w hr0 hc0 h
 cases k with
 | zero => exact absurd h (by simp [laws_toAltS.f])
 | succ k =>
 simp only [laws_toAltS.f] at h
 have hu66 := Try.underlying66
 have hu53 := Try.underlying53
 have HR0 := Aside0.mk hr0
 have HC0 := Aside0.mk hc0
 clear hr0 hc0
 have HB := Aside0.mk (Below.refl w.heap.size w)
 by_cases c2 : 0 ≤ (l0.length : Int)
 ·rw [if_pos c2] at h
  have C2 := Aside0.mk c2
  have c2b0 := eq_true c2
  have c2b1 : decide (0 ≤ (l0.length : Int)) = true := decide_eq_true c2
  clear c2
  by_cases c3 : ((l0.length : Int) : Int).toNat ≤ 1954687338268
  ·rw [if_pos c3] at h
   have C3 := Aside0.mk c3
   have c3b0 := eq_true c3
   have c3b1 : decide (((l0.length : Int) : Int).toNat ≤ 1954687338268) = true := decide_eq_true c3
   clear c3
   rw [Int.toNat_natCast] at h
   have H' := Aside0.mk h
   clear h
   go_enter Try.func28, Try.ntmps28
   go_wp2_with (first | ((with_reducible refine gate_dst (N := 7) rfl ?_); refine Kd.R_make (Kd.it 8) _ 53 rfl (N := 7) rfl 31 _ _ rfl (l0.length : Int) rfl rfl Try.underlying31 (.agg #[(.string ⟨#[]⟩), (.slice none 0 0), (.int .i64 0), (.string ⟨#[]⟩), (.int .i64 0), (.slice none 0 0), (.slice none 0 0), (.slice none 0 0)]) 144 info53 rfl (by decide) (by omega) zIA (ok := fun _ => True) (okp := fun _ => True) z_M.2.1 (fun _ hk => hk) trivial C2.out (Nat.le_trans (Nat.mul_le_mul_right _ C3.out) (by omega)) (Below.refl _ _) (Nat.le_refl _) ?_; intro v125 w4 ho5 hb hg_ hnew_; clear hg_ hnew_; rw [Int.toNat_natCast] at ho5; have n0_ := Aside0.mk (Kd.R_lower ho5 (below_size HB.out)); have n1_ := Aside0.mk (below_step HB.out hb); clear HB; have HO126 := n0_; have HB := n1_; clear n0_ n1_; clear hb ho5))
   go_loopg [4] k (fun kq v4 w' => ∃ (x3_1 : List (List It)) (x4_1 : Int) (yy : List S53) (i3 : Nat) (X3 : List (List It)), v4 = .int .i64 x4_1 ∧ Aside0 (laws_toAltS.l0 kq l0 yy x4_1 = some r) ∧ Aside0 (kq ≤ k) ∧ Aside0 (Kd.R (Kd.it 8) 53 w' w.heap.size (fun _ => True) v125 x3_1) ∧ Aside0 (Below w.heap.size w w') ∧ Aside0 (x4_1 = (i3 : Int) ∧ i3 ≤ l0.length ∧ X3.length = i3 ∧ x3_1 = X3 ++ List.replicate (l0.length - i3) zIA ∧ yy.length = l0.length ∧ RepAs (yy.take i3) X3.flatten ∧ (blksL X3.flatten).Nodup))
   case atStart => exact ⟨_, 0, _, 0, [], (by first | rfl | (simp; done) | (simp [*]; done)), H', ⟨Nat.le_refl _⟩, ⟨by (with_reducible repeat (first | apply Kd.R_alloc | apply Kd.R_drewN | apply Kd.R_drew)); exact HO126.out⟩, ⟨by repeat (first | (with_reducible first | exact HB.out | apply below_alloc | apply pw_below_drewN | apply below_drew1) | exact HB.out)⟩, ⟨rfl, Nat.zero_le _, rfl, rfl, List.length_replicate, by simpa using RepAs.nil, by simp [blksL]⟩⟩
   case round =>
    clear H' C2 C3 HB
    try clear c2b0
    try clear c2b1
    try clear p2
    try clear c3b0
    try clear c3b1
    obtain ⟨x3_1, x4_1, yy, i3, X3, rfl, HA, HK1, HO_3, HB, HJ⟩ := hrel
    cases gk with
    | zero => exact absurd HA.out (by simp [laws_toAltS.l0])
    | succ k1 =>
     have H := HA.out
     clear HA
     simp only [laws_toAltS.l0] at H
     by_cases c6 : x4_1 < (l0.length : Int)
     ·rw [if_pos c6] at H
      have c6b0 : decide (x4_1 < (l0.length : Int)) = true := decide_eq_true c6
      have q127 := c6
      clear c6
      by_cases c7 : 0 ≤ x4_1
      ·rw [if_pos c7] at H
       have c7b0 : decide (0 ≤ x4_1) = true := decide_eq_true c7
       have p127 := c7
       clear c7
       replace H := Option.bind_eq_some_iff.mp H
       obtain ⟨⟨t0, t1, t2, t3, t4, t5, t6, t7⟩, A80, H⟩ := H
       have AQ := Aside0.mk A80
       clear A80
       have hlen : x3_1.length = l0.length ∧ yy.length = l0.length := by
        obtain ⟨j0, j1, j2, j3, j4, j5, j6⟩ := HJ.out
        exact ⟨by rw [j3, List.length_append, List.length_replicate, j2]; omega, j4⟩
       have c9b0 : decide (x4_1 < (x3_1.length : Int)) = true := decide_eq_true (by rw [hlen.1]; exact q127)
       rw [if_pos (by rw [hlen.2]; exact q127)] at H
       have H' := Aside0.mk H
       clear H hlen
       have ZG := Aside0.mk (show x3_1.getD x4_1.toNat zIA = zIA from by
        obtain ⟨j0, j1, j2, j3, j4, j5, j6⟩ := HJ.out
        rw [j3, j0, Int.toNat_natCast, show l0.length - i3 = (l0.length - i3 - 1) + 1 by omega]
        exact get_at X3 _ i3 _ _ j2)
       obtain ⟨ad, A1, c1, A5, c5, A6, c6, A7, c7, e127, hx0, hx1, hx2, hx3, hx4, hx5, hx6, hx7, hl1, hi1, hl5, hi5, hl6, hi6, hl7, hi7⟩ := at_T66 HR0.out x4_1 p127 q127
       cases e127
       replace hx0 := lc_ HB.out hx0
       replace hx1 := lc_ HB.out hx1
       replace hx2 := lc_ HB.out hx2
       replace hx3 := lc_ HB.out hx3
       replace hx4 := lc_ HB.out hx4
       replace hx5 := lc_ HB.out hx5
       replace hx6 := lc_ HB.out hx6
       replace hx7 := lc_ HB.out hx7
       have HR1 := Aside0.mk hi1
       have HC1 := Aside0.mk hl1
       have HR5 := Aside0.mk hi5
       have HC5 := Aside0.mk hl5
       have HR6 := Aside0.mk hi6
       have HC6 := Aside0.mk hl6
       have HR7 := Aside0.mk hi7
       have HC7 := Aside0.mk hl7
       clear hi1 hl1 hi5 hl5 hi6 hl6 hi7 hl7
       replace p127 := eq_true p127
       replace q127 := eq_true q127
       go_wp2_with (first | ((with_reducible refine gate_callee (f := 52) rfl ?_); refine goesL_ (some 20) rfl rfl Try.func52 (by kernel_rfl) rfl #[.agg #[.string ((rd_T66 l0 x4_1).f0), .slice A1 ((rd_T66 l0 x4_1).f1).length c1, .int .i64 ((rd_T66 l0 x4_1).f2.f0), .string ((rd_T66 l0 x4_1).f2.f1), .int .i64 ((rd_T66 l0 x4_1).f2.f2), .slice A5 ((rd_T66 l0 x4_1).f2.f3).length c5, .slice A6 ((rd_T66 l0 x4_1).f2.f4).length c6, .slice A7 ((rd_T66 l0 x4_1).f2.f5).length c7]] rfl (by (try simp only [List.map_toArray, List.map_cons, List.map_nil, List.append_toArray, List.cons_append, List.nil_append]); first | done | rfl) ?_; refine calls_bel (w0 := w) HB.out (fun hx_ => ?_); (with_reducible refine (ih k1 (by have := HK1.out; omega) ((rd_T66 l0 x4_1).f0) _ _ ((rd_T66 l0 x4_1).f1) ((rd_T66 l0 x4_1).f2.f0) ((rd_T66 l0 x4_1).f2.f1) ((rd_T66 l0 x4_1).f2.f2) _ _ ((rd_T66 l0 x4_1).f2.f3) _ _ ((rd_T66 l0 x4_1).f2.f4) _ _ ((rd_T66 l0 x4_1).f2.f5) t0 t1 t2 t3 t4 t5 t6 t7 _ (Kd.C_below HR1.out hx_) HC1.out (Kd.C_below HR5.out hx_) HC5.out (Kd.C_below HR6.out hx_) HC6.out (Kd.C_below HR7.out hx_) HC7.out AQ.out).mono ?_); rintro e w11 ⟨E1, d1, E5, d5, y5, E6, d6, y6, E7, d7, y7, rfl, hgw, hrp, hb⟩; refine ⟨_, rfl, ?_⟩; have HU_ := Aside0.mk (r_lt (by (with_reducible repeat (first | apply Kd.R_alloc | apply Kd.R_drewN | apply Kd.R_drew)); exact HO_3.out) hb); have HX_ := Aside0.mk (x_lt (by (with_reducible repeat (first | apply Kd.R_alloc | apply Kd.R_drewN | apply Kd.R_drew)); exact HO_3.out) (by simp) hb); have HL_ := Aside0.mk (below_size hx_); have GW_ := Aside0.mk hgw; have RP_ := Aside0.mk hrp; have n0_ := Aside0.mk (Kd.R_below (by (with_reducible repeat (first | apply Kd.R_alloc | apply Kd.R_drewN | apply Kd.R_drew)); exact HO_3.out) hb); have n4_ := Aside0.mk (below_step hx_ hb); clear HO_3 HB hx_ hb hgw hrp; have HO_3 := n0_; have HB := n4_; clear n0_ n4_; have p10 : 0 ≤ (x4_1 : Int) := of_eq_true p127; have q10 : (x4_1 : Int) < ((x3_1.length : Int) : Int) := of_decide_eq_true c9b0; obtain ⟨go10, co10, eo10, gb10, gl10, cl10, HG10⟩ := Kd.R_form HO_3.out (by omega); (first | cases eo10 | (injection eo10 with ea_ en_ ec_; (first | subst ea_ | (injection ea_ with ea_; subst ea_)); subst ec_; clear en_)); have GB10 := Aside0.mk gb10; clear gb10 gl10 HG10; obtain ⟨ce15, hcl15, hM15, hcc15, hfr15⟩ := Kd.R_elem HO_3.out zIA (x4_1 : Int) p10 q10; rw [ZG.out] at hM15; obtain ⟨_, rfl, _, _⟩ := hM15; obtain ⟨el, hel⟩ : ∃ el : List It, el = .s t0 :: .r 9 1 (.slice E1 t1.length d1) t1.length (t1.map It.s) :: (.i t2 :: .s t3 :: .i t4 :: (rows3 E5 t5.length d5 y5 E6 t6.length d6 y6 E7 t7.length d7 y7)) := ⟨_, rfl⟩; have hbl : blksL el = blksL (row1 E1 d1 t1 ++ rows3 E5 t5.length d5 y5 E6 t6.length d6 y6 E7 t7.length d7 y7) := (by subst hel; simp [blksL, It.blks, row1, rows3]); have PE_ := Aside0.mk (show Part _ _ el from ⟨by rw [hbl]; exact GW_.out.part.nd, by rw [hbl]; exact GW_.out.part.ge, by rw [hbl]; exact GW_.out.part.lt⟩); have QE_ := Aside0.mk (show AtL w11 el from by (subst hel; have q_ := GW_.out.at_; simp only [List.append_assoc, List.cons_append, List.nil_append, AtL, It.At, true_and] at q_ ⊢; exact q_)); have NU_ := Aside0.mk (HU_.out go10 (by simp [Value.ownBlock])); have HP15 := Kd.R_seg HO_3.out (x4_1 : Int) p10 q10 (seg := [.string t0, .slice E1 t1.length d1, .int .i64 t2, .string t3, .int .i64 t4, .slice E5 t5.length d5, .slice E6 t6.length d6, .slice E7 t7.length d7]) (j := 0) hcl15 hcc15 (show 8 ≤ 8 from by decide) (x' := el) (okp := fun k_ => True ∧ k_ ≠ go10) (show (Kd.it 8).M _ _ _ el _ from ⟨by rw [hel]; rfl, by rw [hel]; rfl, QE_.out, fun b hb_ => ⟨⟨trivial, by have := PE_.out.ge b hb_; have := NU_.out; omega⟩, by have := PE_.out.ge b hb_; have := HL_.out; omega⟩⟩) (fun _ hk => hk); have hx15_0 := hcc15 0 _ rfl; (try simp only [show (Kd.it 8).sz = 8 from rfl, Nat.mul_one, Nat.add_zero] at hx15_0); have hf15_0 := hfr15 0; (try simp only [show (Kd.it 8).sz = 8 from rfl, Nat.mul_one, Nat.add_zero] at hf15_0); have hx15_1 := hcc15 1 _ rfl; (try simp only [show (Kd.it 8).sz = 8 from rfl, Nat.mul_one, Nat.add_zero] at hx15_1); have hf15_1 := hfr15 1; (try simp only [show (Kd.it 8).sz = 8 from rfl, Nat.mul_one, Nat.add_zero] at hf15_1); have hx15_2 := hcc15 2 _ rfl; (try simp only [show (Kd.it 8).sz = 8 from rfl, Nat.mul_one, Nat.add_zero] at hx15_2); have hf15_2 := hfr15 2; (try simp only [show (Kd.it 8).sz = 8 from rfl, Nat.mul_one, Nat.add_zero] at hf15_2); have hx15_3 := hcc15 3 _ rfl; (try simp only [show (Kd.it 8).sz = 8 from rfl, Nat.mul_one, Nat.add_zero] at hx15_3); have hf15_3 := hfr15 3; (try simp only [show (Kd.it 8).sz = 8 from rfl, Nat.mul_one, Nat.add_zero] at hf15_3); have hx15_4 := hcc15 4 _ rfl; (try simp only [show (Kd.it 8).sz = 8 from rfl, Nat.mul_one, Nat.add_zero] at hx15_4); have hf15_4 := hfr15 4; (try simp only [show (Kd.it 8).sz = 8 from rfl, Nat.mul_one, Nat.add_zero] at hf15_4); have hx15_5 := hcc15 5 _ rfl; (try simp only [show (Kd.it 8).sz = 8 from rfl, Nat.mul_one, Nat.add_zero] at hx15_5); have hf15_5 := hfr15 5; (try simp only [show (Kd.it 8).sz = 8 from rfl, Nat.mul_one, Nat.add_zero] at hf15_5); have hx15_6 := hcc15 6 _ rfl; (try simp only [show (Kd.it 8).sz = 8 from rfl, Nat.mul_one, Nat.add_zero] at hx15_6); have hf15_6 := hfr15 6; (try simp only [show (Kd.it 8).sz = 8 from rfl, Nat.mul_one, Nat.add_zero] at hf15_6); have hx15_7 := hcc15 7 _ rfl; (try simp only [show (Kd.it 8).sz = 8 from rfl, Nat.mul_one, Nat.add_zero] at hx15_7); have hf15_7 := hfr15 7; (try simp only [show (Kd.it 8).sz = 8 from rfl, Nat.mul_one, Nat.add_zero] at hf15_7); clear hcl15 hcc15 hfr15; replace p10 := eq_true p10; replace q10 := eq_true q10) | ((with_reducible refine gate_store (t := 53) (p := 21) rfl ?_); refine store_event (t := 53) (p := 21) (v := ?vo_w16) (w1 := ((((((((w11.setCell ⟨go10, (x4_1 : Int).toNat * 8, none⟩ (.string t0)).setCell ⟨go10, (x4_1 : Int).toNat * 8 + 1, none⟩ (.slice E1 t1.length d1)).setCell ⟨go10, (x4_1 : Int).toNat * 8 + 2, none⟩ (.int .i64 t2)).setCell ⟨go10, (x4_1 : Int).toNat * 8 + 3, none⟩ (.string t3)).setCell ⟨go10, (x4_1 : Int).toNat * 8 + 4, none⟩ (.int .i64 t4)).setCell ⟨go10, (x4_1 : Int).toNat * 8 + 5, none⟩ (.slice E5 t5.length d5)).setCell ⟨go10, (x4_1 : Int).toNat * 8 + 6, none⟩ (.slice E6 t6.length d6)).setCell ⟨go10, (x4_1 : Int).toNat * 8 + 7, none⟩ (.slice E7 t7.length d7))) ?hg ?ho ?hn ?hr ?_; (case ho => rfl); (case hg => rfl); (case hn => rfl); (case hr => first | (go_simp; done) | (go_simp; rfl)); intro w16 hw; have hp_ : Kd.R (Kd.it 8) 53 w16 w.heap.size (fun _ => True) (.slice (some ⟨go10, 0, none⟩) x3_1.length co10) (x3_1.set (x4_1 : Int).toNat el) := (by rw [hw]; exact HP15.1); clear HP15; have n0_ := Aside0.mk (hp_); have n1_ := Aside0.mk ((by rw [hw]; exact below_set (below_set (below_set (below_set (below_set (below_set (below_set (below_set (HB.out) GB10.out) GB10.out) GB10.out) GB10.out) GB10.out) GB10.out) GB10.out) GB10.out : Below w.heap.size w w16)); clear HO_3 HB; have HO_3 := n0_; have HB := n1_; clear n0_ n1_; clear hw hp_))
       go_roundg k1
       case measure => have := HK1.out; omega
       case rel => exact ⟨_, (wrap64 (x4_1 + 1)), _, i3 + 1, X3 ++ [el], (by first | rfl | (simp; done) | (simp [*]; done)), H', ⟨by have := HK1.out; omega⟩, ⟨by (with_reducible repeat (first | apply Kd.R_alloc | apply Kd.R_drewN | apply Kd.R_drew)); exact HO_3.out⟩, ⟨by repeat (first | (with_reducible first | exact HB.out | apply below_alloc | apply pw_below_drewN | apply below_drew1) | exact HB.out)⟩, ⟨by
        obtain ⟨j0, j1, j2, j3, j4, j5, j6⟩ := HJ.out
        have jl : i3 < l0.length := by have := of_eq_true q127; omega
        have jt : x4_1.toNat = i3 := by rw [j0, Int.toNat_natCast]
        have jm : l0.length ≤ 9223372036854775807 := by have := HR0.out.2.1; omega
        refine ⟨by rw [j0]; unfold wrap64; omega, jl, by rw [List.length_append, j2]; rfl, ?_, by rw [List.length_set]; exact j4, ?_, ?_⟩
        · rw [jt, j3, show l0.length - i3 = (l0.length - (i3 + 1)) + 1 by omega]
          exact set_at X3 _ i3 _ _ j2
        · rw [jt, take_set yy i3 _ (by omega), List.flatten_append, List.flatten_cons, List.flatten_nil, List.append_nil, hel]
          exact j5.snoc (RepA.mk (x := (⟨t0, t1, (⟨t2, t3, t4, t5, t6, t7⟩ : S33)⟩ : S53)) (RepE.mk (x := (⟨t2, t3, t4, t5, t6, t7⟩ : S33)) RP_.out.1 RP_.out.2.1 RP_.out.2.2) )
        · exact nodup_more j6 PE_.out (fun c hc => HX_.out c (by rw [j3, List.flatten_append, blksL_app]; exact List.mem_append_left _ hc))⟩⟩
      ·rw [if_neg c7] at H
       exact absurd H (by simp)
     ·rw [if_neg c6] at H
      have c6b0 : decide (x4_1 < (l0.length : Int)) = false := decide_eq_false c6
      clear c6
      obtain rfl := Option.some.inj H
      clear H
      have hfin : Aside0 (∃ Ao co, v125 = .slice Ao yy.length co ∧ CopR 53 8 RepAs w.heap.size wr yy Ao co x3_1.flatten) := ⟨by
       obtain ⟨j0, j1, j2, j3, j4, j5, j6⟩ := HJ.out
       have jl : i3 = l0.length := by have := of_decide_eq_false c6b0; omega
       obtain ⟨Ao30, co30, eo30⟩ := Kd.R_slice HO_3.out
       have hr := Kd.it_row HO_3.out (by simp)
       have hx : x3_1 = X3 := by rw [j3, jl, Nat.sub_self, List.replicate_zero, List.append_nil]
       have hxl : x3_1.length = yy.length := by rw [hx, j2, jl, j4]
       rw [hxl] at eo30 hr
       subst eo30
       refine ⟨Ao30, co30, rfl, hr.1, ⟨hr.2.2 (by rw [hx]; exact j6), fun b hb => (hr.2.1 b hb).2, fun b hb => (AtL_blk _ hr.1 b hb).1⟩, ?_⟩
       rw [jl, ← j4, List.take_length] at j5
       rw [hx]
       exact j5⟩
      obtain ⟨Ao30, co30, rfl, hcop⟩ := hfin.out
      clear hfin
      have HCP := Aside0.mk hcop
      clear hcop
      go_wp2
      go_ret
      first | exact ⟨Ao30, co30, x3_1.flatten, rfl, HCP.out, by repeat (first | (with_reducible first | exact HB.out | apply below_alloc | apply pw_below_drewN | apply below_drew1) | exact HB.out)⟩ | exact ⟨Ao30, co30, rfl, x3_1.flatten, HCP.out, by repeat (first | (with_reducible first | exact HB.out | apply below_alloc | apply pw_below_drewN | apply below_drew1) | exact HB.out)⟩
  ·rw [if_neg c3] at h
   exact absurd h (by simp)
 ·rw [if_neg c2] at h
  exact absurd h (by simp)
theorem allT (k : Nat) : TE k ∧ TD k ∧ TA k ∧ TEs k ∧ TDs k ∧ TAs k := by
  induction k using Nat.strongRecOn with
  | _ k ih => exact ⟨stepTE k (fun m hm => (ih m hm).2.2.2.1) (fun m hm => (ih m hm).2.2.2.2.1) (fun m hm => (ih m hm).2.2.2.2.2), stepTD k (fun m hm => (ih m hm).1) (fun m hm => (ih m hm).2.2.2.2.1), stepTA k (fun m hm => (ih m hm).1), stepTEs k (fun m hm => (ih m hm).1), stepTDs k (fun m hm => (ih m hm).2.1), stepTAs k (fun m hm => (ih m hm).2.2.1)⟩
end Go.Proofs.Ytpndcfibjjkgcaa.MyItc

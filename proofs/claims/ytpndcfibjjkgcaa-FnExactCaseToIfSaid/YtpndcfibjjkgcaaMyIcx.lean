/- The walks of both functions that say a case as an if. No condition. -/
import Derived.Test.YtpndcfibjjkgcaaMyItx
import Derived.Test.YtpndcfibjjkgcaaMyIti
import Derived.Test.YtpndcfibjjkgcaaMyItcE
import Derived.Test.YtpndcfibjjkgcaaPIfgc
namespace Go.Proofs.Ytpndcfibjjkgcaa.MyItc
open Go Go.RowKit Go.Proofs.YtpndcfibjjkgcaaW.PrintWords Go.Proofs.YtpndcfibjjkgcaaW.PrintLast Go.Proofs.YtpndcfibjjkgcaaW.PrintMore Go.Proofs.Ytpndcfibjjkgcaa.PIfg
attribute [local go_sem] max2_int min2_int max_two min_two max_three min_three max_four min_four
set_option linter.unusedVariables false
set_option linter.unusedSimpArgs false
theorem own_cell {w : World} {e sz n g c : Nat} {L : List It} (h : (It.r e sz (.slice (some ⟨g, 0, none⟩) n c) n L).At w) (j : Nat) (x : It) (hj : L[j]? = some x) : w.cell? ⟨g, j, none⟩ = some x.val := by
  simp only [It.At] at h
  rcases h.2.1.2 with ⟨hv, _⟩ | ⟨g', cap, cur, hv, _, hb, h3, h4, h5, h6⟩
  · cases hv
  · injection hv with hv
    injection hv with hv
    injection hv with hv
    subst hv
    have hi : (L.map It.val)[j]? = some x.val := by simp [hj]
    rw [← h6, List.getElem?_take] at hi
    split at hi
    · have hc : cur[j]? = some x.val := by simpa using hi
      simp [World.cell?, hb, hc]
    · cases hi
theorem row_slice {w : World} {e sz n : Nat} {v : Value} {L : List It} (h : (It.r e sz v n L).At w) : ∃ A c, v = .slice A n c ∧ (0 < n → ∃ g, A = some ⟨g, 0, none⟩) := by
  simp only [It.At] at h
  rcases h.2.1.2 with ⟨rfl, rfl⟩ | ⟨g, cap, cur, rfl, _⟩
  · exact ⟨none, 0, rfl, fun h => absurd h (Nat.lt_irrefl 0)⟩
  · exact ⟨_, cap, rfl, fun _ => ⟨g, rfl⟩⟩
theorem el_at {w : World} {x : S33} {i : List It} (h : RepE x i) (ha : AtL w i) : ∃ (A3 : Option Addr) (c3 : Nat) (y3 : List It) (A4 : Option Addr) (c4 : Nat) (y4 : List It) (A5 : Option Addr) (c5 : Nat) (y5 : List It), i = .i x.f0 :: .s x.f1 :: .i x.f2 :: rows3 A3 x.f3.length c3 y3 A4 x.f4.length c4 y4 A5 x.f5.length c5 y5 := by
  cases h with
  | mk h3 h4 h5 =>
    rename_i v3 v4 v5 i3 i4 i5
    simp only [AtL, and_true] at ha
    obtain ⟨A3, c3, rfl, _⟩ := row_slice ha.2.2.2.1
    obtain ⟨A4, c4, rfl, _⟩ := row_slice ha.2.2.2.2.1
    obtain ⟨A5, c5, rfl, _⟩ := row_slice ha.2.2.2.2.2
    exact ⟨A3, c3, i3, A4, c4, i4, A5, c5, i5, rfl⟩
theorem el_arg {w : World} {x : S33} {A3 : Option Addr} {c3 : Nat} {y3 : List It} {A4 : Option Addr} {c4 : Nat} {y4 : List It} {A5 : Option Addr} {c5 : Nat} {y5 : List It} (h : RepE x (.i x.f0 :: .s x.f1 :: .i x.f2 :: rows3 A3 x.f3.length c3 y3 A4 x.f4.length c4 y4 A5 x.f5.length c5 y5)) (ha : AtL w (.i x.f0 :: .s x.f1 :: .i x.f2 :: rows3 A3 x.f3.length c3 y3 A4 x.f4.length c4 y4 A5 x.f5.length c5 y5)) : ArgE w A3 c3 x.f3 A4 c4 x.f4 A5 c5 x.f5 := by
  cases h with
  | mk h3 h4 h5 => exact rows_arg ha.2.2.2 h3 h4 h5
theorem pieces {w : World} {l : List S33} {m : List S53} {A B : Option Addr} {c d : Nat} {i k : List It} (ha : (It.r 33 6 (.slice A l.length c) l.length i).At w) (hb : (It.r 53 8 (.slice B m.length d) m.length k).At w) (hr : RepEs l i) (hk : RepAs m k) (hl : l.length = 1) (hm : m.length = 2) : ∃ (g h : Nat) (Z03 : Option Addr) (z03 : Nat) (y03 : List It) (Z04 : Option Addr) (z04 : Nat) (y04 : List It) (Z05 : Option Addr) (z05 : Nat) (y05 : List It) (Z13 : Option Addr) (z13 : Nat) (y13 : List It) (Z14 : Option Addr) (z14 : Nat) (y14 : List It) (Z15 : Option Addr) (z15 : Nat) (y15 : List It) (Z23 : Option Addr) (z23 : Nat) (y23 : List It) (Z24 : Option Addr) (z24 : Nat) (y24 : List It) (Z25 : Option Addr) (z25 : Nat) (y25 : List It), (A = some ⟨g, 0, none⟩ ∧ B = some ⟨h, 0, none⟩) ∧
    ((w.cell? ⟨g, 0, none⟩ = some (.int .i64 (rd_T33 l 0).f0) ∧ w.cell? ⟨g, 1, none⟩ = some (.string (rd_T33 l 0).f1) ∧ w.cell? ⟨g, 2, none⟩ = some (.int .i64 (rd_T33 l 0).f2) ∧ w.cell? ⟨g, 3, none⟩ = some (.slice Z03 (rd_T33 l 0).f3.length z03) ∧ w.cell? ⟨g, 4, none⟩ = some (.slice Z04 (rd_T33 l 0).f4.length z04) ∧ w.cell? ⟨g, 5, none⟩ = some (.slice Z05 (rd_T33 l 0).f5.length z05)) ∧ (w.cell? ⟨h, 2, none⟩ = some (.int .i64 (rd_T53 m 0).f2.f0) ∧ w.cell? ⟨h, 3, none⟩ = some (.string (rd_T53 m 0).f2.f1) ∧ w.cell? ⟨h, 4, none⟩ = some (.int .i64 (rd_T53 m 0).f2.f2) ∧ w.cell? ⟨h, 5, none⟩ = some (.slice Z13 (rd_T53 m 0).f2.f3.length z13) ∧ w.cell? ⟨h, 6, none⟩ = some (.slice Z14 (rd_T53 m 0).f2.f4.length z14) ∧ w.cell? ⟨h, 7, none⟩ = some (.slice Z15 (rd_T53 m 0).f2.f5.length z15)) ∧ (w.cell? ⟨h, 10, none⟩ = some (.int .i64 (rd_T53 m 1).f2.f0) ∧ w.cell? ⟨h, 11, none⟩ = some (.string (rd_T53 m 1).f2.f1) ∧ w.cell? ⟨h, 12, none⟩ = some (.int .i64 (rd_T53 m 1).f2.f2) ∧ w.cell? ⟨h, 13, none⟩ = some (.slice Z23 (rd_T53 m 1).f2.f3.length z23) ∧ w.cell? ⟨h, 14, none⟩ = some (.slice Z24 (rd_T53 m 1).f2.f4.length z24) ∧ w.cell? ⟨h, 15, none⟩ = some (.slice Z25 (rd_T53 m 1).f2.f5.length z25))) ∧ (RepE (rd_T33 l 0) (.i (rd_T33 l 0).f0 :: .s (rd_T33 l 0).f1 :: .i (rd_T33 l 0).f2 :: rows3 Z03 (rd_T33 l 0).f3.length z03 y03 Z04 (rd_T33 l 0).f4.length z04 y04 Z05 (rd_T33 l 0).f5.length z05 y05) ∧ RepE (rd_T53 m 0).f2 (.i (rd_T53 m 0).f2.f0 :: .s (rd_T53 m 0).f2.f1 :: .i (rd_T53 m 0).f2.f2 :: rows3 Z13 (rd_T53 m 0).f2.f3.length z13 y13 Z14 (rd_T53 m 0).f2.f4.length z14 y14 Z15 (rd_T53 m 0).f2.f5.length z15 y15) ∧ RepE (rd_T53 m 1).f2 (.i (rd_T53 m 1).f2.f0 :: .s (rd_T53 m 1).f2.f1 :: .i (rd_T53 m 1).f2.f2 :: rows3 Z23 (rd_T53 m 1).f2.f3.length z23 y23 Z24 (rd_T53 m 1).f2.f4.length z24 y24 Z25 (rd_T53 m 1).f2.f5.length z25 y25)) ∧ (AtL w (.i (rd_T33 l 0).f0 :: .s (rd_T33 l 0).f1 :: .i (rd_T33 l 0).f2 :: rows3 Z03 (rd_T33 l 0).f3.length z03 y03 Z04 (rd_T33 l 0).f4.length z04 y04 Z05 (rd_T33 l 0).f5.length z05 y05) ∧ AtL w (.i (rd_T53 m 0).f2.f0 :: .s (rd_T53 m 0).f2.f1 :: .i (rd_T53 m 0).f2.f2 :: rows3 Z13 (rd_T53 m 0).f2.f3.length z13 y13 Z14 (rd_T53 m 0).f2.f4.length z14 y14 Z15 (rd_T53 m 0).f2.f5.length z15 y15) ∧ AtL w (.i (rd_T53 m 1).f2.f0 :: .s (rd_T53 m 1).f2.f1 :: .i (rd_T53 m 1).f2.f2 :: rows3 Z23 (rd_T53 m 1).f2.f3.length z23 y23 Z24 (rd_T53 m 1).f2.f4.length z24 y24 Z25 (rd_T53 m 1).f2.f5.length z25 y25)) ∧ ∀ b, b ∈ blksL (.i (rd_T33 l 0).f0 :: .s (rd_T33 l 0).f1 :: .i (rd_T33 l 0).f2 :: rows3 Z03 (rd_T33 l 0).f3.length z03 y03 Z04 (rd_T33 l 0).f4.length z04 y04 Z05 (rd_T33 l 0).f5.length z05 y05) ∨ b ∈ blksL (.i (rd_T53 m 0).f2.f0 :: .s (rd_T53 m 0).f2.f1 :: .i (rd_T53 m 0).f2.f2 :: rows3 Z13 (rd_T53 m 0).f2.f3.length z13 y13 Z14 (rd_T53 m 0).f2.f4.length z14 y14 Z15 (rd_T53 m 0).f2.f5.length z15 y15) ∨ b ∈ blksL (.i (rd_T53 m 1).f2.f0 :: .s (rd_T53 m 1).f2.f1 :: .i (rd_T53 m 1).f2.f2 :: rows3 Z23 (rd_T53 m 1).f2.f3.length z23 y23 Z24 (rd_T53 m 1).f2.f4.length z24 y24 Z25 (rd_T53 m 1).f2.f5.length z25 y25) → b ∈ blksL i ∨ b ∈ blksL k := by
  match l, hl, m, hm with
  | [p0], _, [p1, p2], _ =>
    cases hr with
    | cons h0 hr =>
    cases hr
    cases hk with
    | cons h1 hk =>
    cases hk with
    | cons h2 hk =>
    cases hk
    cases h1 with
    | mk h1 =>
    cases h2 with
    | mk h2 =>
    rename_i e0 v1 e1 v2 e2
    have hA := ha
    have hB := hb
    simp only [It.At, AtL_app] at hA hB
    have a0 := hA.2.2.1
    obtain ⟨a1, a2⟩ : AtL w e1 ∧ AtL w e2 := by
      have := hB.2.2
      simp only [AtL] at this
      exact ⟨this.1.2.2, this.2.1.2.2⟩
    obtain ⟨Z03, z03, y03, Z04, z04, y04, Z05, z05, y05, rfl⟩ := el_at h0 a0
    obtain ⟨Z13, z13, y13, Z14, z14, y14, Z15, z15, y15, rfl⟩ := el_at h1 a1
    obtain ⟨Z23, z23, y23, Z24, z24, y24, Z25, z25, y25, rfl⟩ := el_at h2 a2
    obtain ⟨A', c', e_, hg⟩ := row_slice ha
    cases e_
    obtain ⟨g, rfl⟩ := hg (by simp)
    obtain ⟨B', d', f_, hh⟩ := row_slice hb
    cases f_
    obtain ⟨h, rfl⟩ := hh (by simp)
    refine ⟨g, h, Z03, z03, y03, Z04, z04, y04, Z05, z05, y05, Z13, z13, y13, Z14, z14, y14, Z15, z15, y15, Z23, z23, y23, Z24, z24, y24, Z25, z25, y25, ⟨rfl, rfl⟩, ⟨?_, ?_, ?_⟩, ⟨h0, h1, h2⟩, ⟨a0, a1, a2⟩, fun b hb => ?_⟩
    · exact ⟨own_cell ha 0 _ rfl, own_cell ha 1 _ rfl, own_cell ha 2 _ rfl, own_cell ha 3 _ rfl, own_cell ha 4 _ rfl, own_cell ha 5 _ rfl⟩
    · exact ⟨own_cell hb 2 _ rfl, own_cell hb 3 _ rfl, own_cell hb 4 _ rfl, own_cell hb 5 _ rfl, own_cell hb 6 _ rfl, own_cell hb 7 _ rfl⟩
    · exact ⟨own_cell hb 10 _ rfl, own_cell hb 11 _ rfl, own_cell hb 12 _ rfl, own_cell hb 13 _ rfl, own_cell hb 14 _ rfl, own_cell hb 15 _ rfl⟩
    · rw [blksL_app, blksL_app, blksL_app]
      rcases hb with hb | hb | hb
      · exact .inl (List.mem_append_left _ hb)
      · exact .inr (List.mem_append_left _ (by simp only [blksL, List.mem_append] at hb ⊢; exact .inr (.inr hb)))
      · exact .inr (List.mem_append_right _ (List.mem_append_left _ (by simp only [blksL, List.mem_append] at hb ⊢; exact .inr (.inr hb))))
set_option maxHeartbeats 8000000 in
set_option maxRecDepth 100000 in
theorem specCase_no (n : Nat) (a0_0 : Int) (a0_1 : ByteArray) (a0_2 : Int) (A0_3 : Option Addr) (c0_3 : Nat) (l0_3 : List (S33)) (A0_4 : Option Addr) (c0_4 : Nat) (l0_4 : List (S68)) (A0_5 : Option Addr) (c0_5 : Nat) (l0_5 : List (S53)) (w : World) (ha : ArgE w A0_3 c0_3 l0_3 A0_4 c0_4 l0_4 A0_5 c0_5 l0_5) (hq : LE n l0_3 ∧ LD n l0_4 ∧ LA n l0_5) (hn : spec_l21Can.f a0_0 a0_1 a0_2 l0_3 l0_4 l0_5 = some false) :
  Calls Try.prog 19 #[.agg #[.int .i64 a0_0, .string a0_1, .int .i64 a0_2, .slice A0_3 l0_3.length c0_3, .slice A0_4 l0_4.length c0_4, .slice A0_5 l0_5.length c0_5]] w fun e w' => ∃ (A3 : Option Addr) (c3 : Nat) (A4 : Option Addr) (c4 : Nat) (A5 : Option Addr) (c5 : Nat), e = .returned (.tuple #[.agg #[.int .i64 a0_0, .string a0_1, .int .i64 a0_2, .slice A3 l0_3.length c3, .slice A4 l0_4.length c4, .slice A5 l0_5.length c5], .bool false]) ∧ ArgE w' A3 c3 l0_3 A4 c4 l0_4 A5 c5 l0_5 ∧ Below w.heap.size w w' := by
 have hu33 := Try.underlying33
 have hu53 := Try.underlying53
 have HA := Aside0.mk ha
 have HQ := Aside0.mk hq
 have HN := Aside0.mk hn
 have HB := Aside0.mk (Below.refl w.heap.size w)
 clear ha hq hn
 go_enter Try.func19, Try.ntmps19
 go_wp2_with (first | ((with_reducible refine gate_dst (N := 1) rfl ?_); refine box_event ?hg (N := 1) ?hd (cs := #[.int .i64 a0_0, .string a0_1, .int .i64 a0_2, .slice A0_3 l0_3.length c0_3, .slice A0_4 l0_4.length c0_4, .slice A0_5 l0_5.length c0_5]) (t := 33) ?hr ?_; (case hd => rfl); (case hg => rfl); (case hr => first | (go_simp; done) | (go_simp; rfl)); intro gb1 hg w3 hbox hb; have hx_ := bel_of (w := w) hb HB.out; have nb_ := Aside0.mk (below_step hx_ hb); have ge_ := Aside0.mk (box_ge hx_ hg); clear HB  ; have HB := nb_; have BK1 := Aside0.mk hbox; have GE1 := ge_; clear nb_ ge_ hx_ hb hbox hg  ) | ((with_reducible refine gate_dst (N := 2) rfl ?_); refine box_event ?hg (N := 2) ?hd (cs := #[.int .i64 0, .string (⟨#[]⟩ : ByteArray), .int .i64 0, .slice none 0 0, .slice none 0 0, .slice none 0 0]) (t := 33) ?hr ?_; (case hd => rfl); (case hg => rfl); (case hr => first | (go_simp; done) | (go_simp; rfl)); intro gb2 hg w4 hbox hb; have hx_ := bel_of (w := w) hb (by repeat (first | (with_reducible first | exact HB.out | apply below_alloc | apply pw_below_drewN | apply below_drew1 | refine below_set ?_ GE1.out) | exact HB.out)); have n1_ := Aside0.mk (blk_below (g := gb1) BK1.out hb); have m1_ := Aside0.mk (box_lt (g' := gb1) BK1.out hg); have k1_ := Aside0.mk (box_gt (g' := gb1) BK1.out hg); have nb_ := Aside0.mk (below_step hx_ hb); have ge_ := Aside0.mk (box_ge hx_ hg); clear HB BK1 ; have BK1 := n1_; have NB1_2 := m1_; have NB2_1 := k1_; have HB := nb_; have BK2 := Aside0.mk hbox; have GE2 := ge_; clear nb_ ge_ hx_ hb hbox hg n1_ m1_ k1_ ; obtain ⟨hc5_0, hc5_1, hc5_2, hc5_3, hc5_4, hc5_5, hf5_0, hf5_1, hf5_2, hf5_3, hf5_4, hf5_5⟩ := cells6 BK1.out; have hnb6 := NB1_2.out; have hnc6 := NB2_1.out) | ((with_reducible refine gate_callee (f := 35) rfl ?_); refine goesL_ (some 6) rfl rfl Try.func35 (by kernel_rfl) rfl #[.agg #[.int .i64 a0_0, .string a0_1, .int .i64 a0_2, .slice A0_3 l0_3.length c0_3, .slice A0_4 l0_4.length c0_4, .slice A0_5 l0_5.length c0_5]] rfl (by (try simp only [List.map_toArray, List.map_cons, List.map_nil, List.append_toArray, List.cons_append, List.nil_append]); first | done | rfl) ?_; refine calls_bel (w0 := w) (by repeat (first | (with_reducible first | exact HB.out | apply below_alloc | apply pw_below_drewN | apply below_drew1 | refine below_set ?_ GE1.out | refine below_set ?_ GE2.out) | exact HB.out)) (fun hx_ => ?_); (with_reducible refine (l3Copy_calls n a0_0 a0_1 a0_2 _ _ l0_3 _ _ l0_4 _ _ l0_5 _ ⟨⟨Kd.C_below HA.out.1.1 hx_, HA.out.1.2⟩, ⟨Kd.C_below HA.out.2.1.1 hx_, HA.out.2.1.2⟩, ⟨Kd.C_below HA.out.2.2.1 hx_, HA.out.2.2.2⟩⟩ HQ.out).mono ?_); rintro e w10 ⟨E3, d3, y3, E4, d4, y4, E5, d5, y5, rfl, hc, hb⟩; refine ⟨_, rfl, ?_⟩; have n1_ := Aside0.mk (blk_below (g := gb1) BK1.out hb); have n2_ := Aside0.mk (blk_below (g := gb2) BK2.out hb); have g2_ := Aside0.mk (lt_of_blk (g := gb2) BK2.out hb); have HC := Aside0.mk hc; have nb_ := Aside0.mk (below_step hx_ hb); clear HB BK1 BK2 hx_ hb hc; have HB := nb_; have BK1 := n1_; have BK2 := n2_; have GL2 := g2_; clear nb_ n1_ n2_ g2_; have GB := Aside0.mk (fun b hb => Nat.lt_of_lt_of_le GL2.out (HC.out.ge b hb)); have GT := Aside0.mk (fun b hb => (AtL_blk _ HC.out.at_ b hb).1); have HD := Aside0.mk (And.intro (Below.refl w10.heap.size w10) (Nat.le_refl w10.heap.size))) | ((with_reducible refine gate_dst (N := 4) rfl ?_); refine box_event ?hg (N := 4) ?hd (cs := #[.int .i64 0, .string (⟨#[]⟩ : ByteArray), .int .i64 0, .slice none 0 0, .slice none 0 0, .slice none 0 0]) (t := 33) ?hr ?_; (case hd => rfl); (case hg => rfl); (case hr => first | (go_simp; done) | (go_simp; rfl)); intro gb4 hg w11 hbox hb; have hx_ := bel_of (w := w) hb (by repeat (first | (with_reducible first | exact HB.out | apply below_alloc | apply pw_below_drewN | apply below_drew1 | refine below_set ?_ GE1.out | refine below_set ?_ GE2.out) | exact HB.out)); have n1_ := Aside0.mk (blk_below (g := gb1) BK1.out hb); have n2_ := Aside0.mk (blk_below (g := gb2) BK2.out hb); have m1_ := Aside0.mk (box_lt (g' := gb1) BK1.out hg); have m2_ := Aside0.mk (box_lt (g' := gb2) BK2.out hg); have k1_ := Aside0.mk (box_gt (g' := gb1) BK1.out hg); have k2_ := Aside0.mk (box_gt (g' := gb2) BK2.out hg); have x0_ := Aside0.mk (And.intro (below_step (bel_of (w := w10) hb (by repeat (first | (with_reducible first | exact HD.out.1 | apply below_alloc | apply pw_below_drewN | apply below_drew1) | exact HD.out.1))) hb) (box_ge (bel_of (w := w10) hb (by repeat (first | (with_reducible first | exact HD.out.1 | apply below_alloc | apply pw_below_drewN | apply below_drew1) | exact HD.out.1))) hg)); have nb_ := Aside0.mk (below_step hx_ hb); have ge_ := Aside0.mk (box_ge hx_ hg); clear HB BK1 BK2 HD; have BK1 := n1_; have BK2 := n2_; have NB1_4 := m1_; have NB2_4 := m2_; have NB4_1 := k1_; have NB4_2 := k2_; have HD := x0_; have HB := nb_; have BK4 := Aside0.mk hbox; have GE4 := ge_; clear nb_ ge_ hx_ hb hbox hg n1_ m1_ k1_ n2_ m2_ k2_ x0_; obtain ⟨hc7_0, hc7_1, hc7_2, hc7_3, hc7_4, hc7_5, hf7_0, hf7_1, hf7_2, hf7_3, hf7_4, hf7_5⟩ := cells6 BK1.out; obtain ⟨hc8_0, hc8_1, hc8_2, hc8_3, hc8_4, hc8_5, hf8_0, hf8_1, hf8_2, hf8_3, hf8_4, hf8_5⟩ := cells6 BK2.out; obtain ⟨hc9_0, hc9_1, hc9_2, hc9_3, hc9_4, hc9_5, hf9_0, hf9_1, hf9_2, hf9_3, hf9_4, hf9_5⟩ := cells6 BK4.out; have hnb14 := NB1_4.out; have hnb41 := NB4_1.out; have hnb24 := NB2_4.out; have hnb42 := NB4_2.out; have hnb12 := NB1_2.out; have hnb21 := NB2_1.out) | ((with_reducible refine gate_callee (f := 44) rfl ?_); refine goesL_ (some 8) rfl rfl Try.func44 (by kernel_rfl) rfl #[.agg #[.int .i64 a0_0, .string a0_1, .int .i64 a0_2, .slice A0_3 l0_3.length c0_3, .slice A0_4 l0_4.length c0_4, .slice A0_5 l0_5.length c0_5]] rfl (by (try simp only [List.map_toArray, List.map_cons, List.map_nil, List.append_toArray, List.cons_append, List.nil_append]); first | done | rfl) ?_; refine calls_bel (w0 := w) (by repeat (first | (with_reducible first | exact HB.out | apply below_alloc | apply pw_below_drewN | apply below_drew1 | refine below_set ?_ GE1.out | refine below_set ?_ GE2.out | refine below_set ?_ GE4.out) | exact HB.out)) (fun hx_ => ?_); (with_reducible refine (spec_l21Can.calls _ _ _ _ _ _ _ _ _ _ _ _ false _ (Kd.C_below HA.out.1.1 hx_) HA.out.1.2 (Kd.C_below HA.out.2.1.1 hx_) HA.out.2.1.2 (Kd.C_below HA.out.2.2.1 hx_) HA.out.2.2.2 HN.out).mono ?_); rintro e w12 ⟨rfl, hb⟩; refine ⟨_, rfl, ?_⟩; have n2_ := Aside0.mk (blk_below (g := gb2) (blk_far (blk_far (blk_far (blk_far (blk_far (blk_far BK2.out NB2_4.out _) NB2_4.out _) NB2_4.out _) NB2_4.out _) NB2_4.out _) NB2_4.out _) hb); have n4_ := Aside0.mk (blk_below (g := gb4) (put_6_5 (put_6_4 (put_6_3 (put_6_2 (put_6_1 (put_6_0 BK4.out)))))) hb); have nd_ := Aside0.mk (below_step (bel_of (w := w10) hb (by repeat (first | (with_reducible first | exact HD.out.1 | refine below_set ?_ HD.out.2) | exact HD.out.1))) hb); have DG := Aside0.mk HD.out.2; have nb_ := Aside0.mk (below_step hx_ hb); clear HB BK1 BK2 BK4 HD hx_ hb; have HB := nb_; have BK2 := n2_; have BK4 := n4_; have HD := nd_; clear nb_ n2_ n4_ nd_; obtain ⟨hc12_0, hc12_1, hc12_2, hc12_3, hc12_4, hc12_5, hf12_0, hf12_1, hf12_2, hf12_3, hf12_4, hf12_5⟩ := cells6 BK4.out; obtain ⟨hc13_0, hc13_1, hc13_2, hc13_3, hc13_4, hc13_5, hf13_0, hf13_1, hf13_2, hf13_3, hf13_4, hf13_5⟩ := cells6 BK2.out))
 refine bodyPost_ret (results_ct rfl _ _ gb2 33 #[.int .i64 a0_0, .string a0_1, .int .i64 a0_2, .slice E3 l0_3.length d3, .slice E4 l0_4.length d4, .slice E5 l0_5.length d5] (0, 0) _ rfl ((put_6_5 (put_6_4 (put_6_3 (put_6_2 (put_6_1 (put_6_0 BK2.out))))))) Try.underlying33 rfl (by kernel_rfl)) rfl ?_
 exact ⟨E3, d3, E4, d4, E5, d5, rfl, rows_arg (AtL_set (g := gb2) (AtL_set (g := gb2) (AtL_set (g := gb2) (AtL_set (g := gb2) (AtL_set (g := gb2) (AtL_set (g := gb2) (AtL_below HC.out.at_ HD.out) (fun b hb => by have := GB.out b hb; omega) 0 (.int .i64 a0_0)) (fun b hb => by have := GB.out b hb; omega) 1 (.string a0_1)) (fun b hb => by have := GB.out b hb; omega) 2 (.int .i64 a0_2)) (fun b hb => by have := GB.out b hb; omega) 3 (.slice E3 l0_3.length d3)) (fun b hb => by have := GB.out b hb; omega) 4 (.slice E4 l0_4.length d4)) (fun b hb => by have := GB.out b hb; omega) 5 (.slice E5 l0_5.length d5)) HC.out.r3 HC.out.r4 HC.out.r5, by repeat (first | (with_reducible first | exact HB.out | apply below_alloc | apply pw_below_drewN | apply below_drew1 | refine below_set ?_ GE2.out) | exact HB.out)⟩
set_option maxHeartbeats 8000000 in
set_option maxRecDepth 100000 in
theorem specCase_yes (n : Nat) (a0_0 : Int) (a0_1 : ByteArray) (a0_2 : Int) (A0_3 : Option Addr) (c0_3 : Nat) (l0_3 : List (S33)) (A0_4 : Option Addr) (c0_4 : Nat) (l0_4 : List (S68)) (A0_5 : Option Addr) (c0_5 : Nat) (l0_5 : List (S53)) (w : World) (ha : ArgE w A0_3 c0_3 l0_3 A0_4 c0_4 l0_4 A0_5 c0_5 l0_5) (hq : LE n l0_3 ∧ LD n l0_4 ∧ LA n l0_5) (hn : spec_l21Can.f a0_0 a0_1 a0_2 l0_3 l0_4 l0_5 = some true) (hl : l0_3.length = 1 ∧ l0_5.length = 2) :
  Calls Try.prog 19 #[.agg #[.int .i64 a0_0, .string a0_1, .int .i64 a0_2, .slice A0_3 l0_3.length c0_3, .slice A0_4 l0_4.length c0_4, .slice A0_5 l0_5.length c0_5]] w fun e w' => ∃ (A3 : Option Addr) (c3 : Nat) (A4 : Option Addr) (c4 : Nat) (A5 : Option Addr) (c5 : Nat), e = .returned (.tuple #[.agg #[.int .i64 8, .string (⟨#[]⟩ : ByteArray), .int .i64 0, .slice A3 3 c3, .slice A4 0 c4, .slice A5 0 c5], .bool true]) ∧ ArgE w' A3 c3 [(rd_T33 l0_3 0), (rd_T53 l0_5 0).f2, (rd_T53 l0_5 1).f2] A4 c4 [] A5 c5 [] ∧ Below w.heap.size w w' := by
 have hu33 := Try.underlying33
 have hu53 := Try.underlying53
 have HA := Aside0.mk ha
 have HQ := Aside0.mk hq
 have HN := Aside0.mk hn
 have HB := Aside0.mk (Below.refl w.heap.size w)
 have c4b0 : decide (0 < (l0_3.length : Int)) = true := decide_eq_true (by omega)
 have c4b1 : decide (0 < l0_3.length) = true := decide_eq_true (by omega)
 have c6b0 : decide (0 < (l0_5.length : Int)) = true := decide_eq_true (by omega)
 have c6b1 : decide (0 < l0_5.length) = true := decide_eq_true (by omega)
 have c8b0 : decide (1 < (l0_5.length : Int)) = true := decide_eq_true (by omega)
 have c8b1 : decide (1 < l0_5.length) = true := decide_eq_true (by omega)
 have qi0 : (0 < l0_3.length) = True := eq_true (by omega)
 have qi1 : (0 < l0_5.length) = True := eq_true (by omega)
 have qi2 : (1 < l0_5.length) = True := eq_true (by omega)
 have q0 : ((0 : Int) < (l0_3.length : Int)) = True := eq_true (by omega)
 have q1 : ((0 : Int) < (l0_5.length : Int)) = True := eq_true (by omega)
 have q2 : ((1 : Int) < (l0_5.length : Int)) = True := eq_true (by omega)
 have HL := Aside0.mk hl
 clear ha hq hn hl
 go_enter Try.func19, Try.ntmps19
 try go_wp2_with (first | ((with_reducible refine gate_dst (N := 1) rfl ?_); refine box_event ?hg (N := 1) ?hd (cs := #[.int .i64 a0_0, .string a0_1, .int .i64 a0_2, .slice A0_3 l0_3.length c0_3, .slice A0_4 l0_4.length c0_4, .slice A0_5 l0_5.length c0_5]) (t := 33) ?hr ?_; (case hd => rfl); (case hg => rfl); (case hr => first | (go_simp; done) | (go_simp; rfl)); intro gb1 hg w3 hbox hb; have hx_ := bel_of (w := w) hb HB.out; have nb_ := Aside0.mk (below_step hx_ hb); have ge_ := Aside0.mk (box_ge hx_ hg); clear HB  ; have HB := nb_; have BK1 := Aside0.mk hbox; have GE1 := ge_; clear nb_ ge_ hx_ hb hbox hg  ) | ((with_reducible refine gate_dst (N := 2) rfl ?_); refine box_event ?hg (N := 2) ?hd (cs := #[.int .i64 0, .string (⟨#[]⟩ : ByteArray), .int .i64 0, .slice none 0 0, .slice none 0 0, .slice none 0 0]) (t := 33) ?hr ?_; (case hd => rfl); (case hg => rfl); (case hr => first | (go_simp; done) | (go_simp; rfl)); intro gb2 hg w4 hbox hb; have hx_ := bel_of (w := w) hb (by repeat (first | (with_reducible first | exact HB.out | apply below_alloc | apply pw_below_drewN | apply below_drew1 | refine below_set ?_ GE1.out) | exact HB.out)); have n1_ := Aside0.mk (blk_below (g := gb1) BK1.out hb); have m1_ := Aside0.mk (box_lt (g' := gb1) BK1.out hg); have k1_ := Aside0.mk (box_gt (g' := gb1) BK1.out hg); have nb_ := Aside0.mk (below_step hx_ hb); have ge_ := Aside0.mk (box_ge hx_ hg); clear HB BK1 ; have BK1 := n1_; have NB1_2 := m1_; have NB2_1 := k1_; have HB := nb_; have BK2 := Aside0.mk hbox; have GE2 := ge_; clear nb_ ge_ hx_ hb hbox hg n1_ m1_ k1_ ; obtain ⟨hc5_0, hc5_1, hc5_2, hc5_3, hc5_4, hc5_5, hf5_0, hf5_1, hf5_2, hf5_3, hf5_4, hf5_5⟩ := cells6 BK1.out; have hnb6 := NB1_2.out; have hnc6 := NB2_1.out) | ((with_reducible refine gate_callee (f := 35) rfl ?_); refine goesL_ (some 6) rfl rfl Try.func35 (by kernel_rfl) rfl #[.agg #[.int .i64 a0_0, .string a0_1, .int .i64 a0_2, .slice A0_3 l0_3.length c0_3, .slice A0_4 l0_4.length c0_4, .slice A0_5 l0_5.length c0_5]] rfl (by (try simp only [List.map_toArray, List.map_cons, List.map_nil, List.append_toArray, List.cons_append, List.nil_append]); first | done | rfl) ?_; refine calls_bel (w0 := w) (by repeat (first | (with_reducible first | exact HB.out | apply below_alloc | apply pw_below_drewN | apply below_drew1 | refine below_set ?_ GE1.out | refine below_set ?_ GE2.out) | exact HB.out)) (fun hx_ => ?_); (with_reducible refine (l3Copy_calls n a0_0 a0_1 a0_2 _ _ l0_3 _ _ l0_4 _ _ l0_5 _ ⟨⟨Kd.C_below HA.out.1.1 hx_, HA.out.1.2⟩, ⟨Kd.C_below HA.out.2.1.1 hx_, HA.out.2.1.2⟩, ⟨Kd.C_below HA.out.2.2.1 hx_, HA.out.2.2.2⟩⟩ HQ.out).mono ?_); rintro e w10 ⟨E3, d3, y3, E4, d4, y4, E5, d5, y5, rfl, hc, hb⟩; refine ⟨_, rfl, ?_⟩; have n1_ := Aside0.mk (blk_below (g := gb1) BK1.out hb); have n2_ := Aside0.mk (blk_below (g := gb2) BK2.out hb); have g2_ := Aside0.mk (lt_of_blk (g := gb2) BK2.out hb); have HC := Aside0.mk hc; have nb_ := Aside0.mk (below_step hx_ hb); clear HB BK1 BK2 hx_ hb hc; have HB := nb_; have BK1 := n1_; have BK2 := n2_; have GL2 := g2_; clear nb_ n1_ n2_ g2_; have GB := Aside0.mk (fun b hb => Nat.lt_of_lt_of_le GL2.out (HC.out.ge b hb)); have GT := Aside0.mk (fun b hb => (AtL_blk _ HC.out.at_ b hb).1); have HD := Aside0.mk (And.intro (Below.refl w10.heap.size w10) (Nat.le_refl w10.heap.size))) | ((with_reducible refine gate_dst (N := 4) rfl ?_); refine box_event ?hg (N := 4) ?hd (cs := #[.int .i64 0, .string (⟨#[]⟩ : ByteArray), .int .i64 0, .slice none 0 0, .slice none 0 0, .slice none 0 0]) (t := 33) ?hr ?_; (case hd => rfl); (case hg => rfl); (case hr => first | (go_simp; done) | (go_simp; rfl)); intro gb4 hg w11 hbox hb; have hx_ := bel_of (w := w) hb (by repeat (first | (with_reducible first | exact HB.out | apply below_alloc | apply pw_below_drewN | apply below_drew1 | refine below_set ?_ GE1.out | refine below_set ?_ GE2.out) | exact HB.out)); have n1_ := Aside0.mk (blk_below (g := gb1) BK1.out hb); have n2_ := Aside0.mk (blk_below (g := gb2) BK2.out hb); have m1_ := Aside0.mk (box_lt (g' := gb1) BK1.out hg); have m2_ := Aside0.mk (box_lt (g' := gb2) BK2.out hg); have k1_ := Aside0.mk (box_gt (g' := gb1) BK1.out hg); have k2_ := Aside0.mk (box_gt (g' := gb2) BK2.out hg); have x0_ := Aside0.mk (And.intro (below_step (bel_of (w := w10) hb (by repeat (first | (with_reducible first | exact HD.out.1 | apply below_alloc | apply pw_below_drewN | apply below_drew1) | exact HD.out.1))) hb) (box_ge (bel_of (w := w10) hb (by repeat (first | (with_reducible first | exact HD.out.1 | apply below_alloc | apply pw_below_drewN | apply below_drew1) | exact HD.out.1))) hg)); have nb_ := Aside0.mk (below_step hx_ hb); have ge_ := Aside0.mk (box_ge hx_ hg); clear HB BK1 BK2 HD; have BK1 := n1_; have BK2 := n2_; have NB1_4 := m1_; have NB2_4 := m2_; have NB4_1 := k1_; have NB4_2 := k2_; have HD := x0_; have HB := nb_; have BK4 := Aside0.mk hbox; have GE4 := ge_; clear nb_ ge_ hx_ hb hbox hg n1_ m1_ k1_ n2_ m2_ k2_ x0_; obtain ⟨hc7_0, hc7_1, hc7_2, hc7_3, hc7_4, hc7_5, hf7_0, hf7_1, hf7_2, hf7_3, hf7_4, hf7_5⟩ := cells6 BK1.out; obtain ⟨hc8_0, hc8_1, hc8_2, hc8_3, hc8_4, hc8_5, hf8_0, hf8_1, hf8_2, hf8_3, hf8_4, hf8_5⟩ := cells6 BK2.out; obtain ⟨hc9_0, hc9_1, hc9_2, hc9_3, hc9_4, hc9_5, hf9_0, hf9_1, hf9_2, hf9_3, hf9_4, hf9_5⟩ := cells6 BK4.out; have hnb14 := NB1_4.out; have hnb41 := NB4_1.out; have hnb24 := NB2_4.out; have hnb42 := NB4_2.out; have hnb12 := NB1_2.out; have hnb21 := NB2_1.out) | ((with_reducible refine gate_callee (f := 44) rfl ?_); refine goesL_ (some 8) rfl rfl Try.func44 (by kernel_rfl) rfl #[.agg #[.int .i64 a0_0, .string a0_1, .int .i64 a0_2, .slice A0_3 l0_3.length c0_3, .slice A0_4 l0_4.length c0_4, .slice A0_5 l0_5.length c0_5]] rfl (by (try simp only [List.map_toArray, List.map_cons, List.map_nil, List.append_toArray, List.cons_append, List.nil_append]); first | done | rfl) ?_; refine calls_bel (w0 := w) (by repeat (first | (with_reducible first | exact HB.out | apply below_alloc | apply pw_below_drewN | apply below_drew1 | refine below_set ?_ GE1.out | refine below_set ?_ GE2.out | refine below_set ?_ GE4.out) | exact HB.out)) (fun hx_ => ?_); (with_reducible refine (spec_l21Can.calls _ _ _ _ _ _ _ _ _ _ _ _ true _ (Kd.C_below HA.out.1.1 hx_) HA.out.1.2 (Kd.C_below HA.out.2.1.1 hx_) HA.out.2.1.2 (Kd.C_below HA.out.2.2.1 hx_) HA.out.2.2.2 HN.out).mono ?_); rintro e w12 ⟨rfl, hb⟩; refine ⟨_, rfl, ?_⟩; have n2_ := Aside0.mk (blk_below (g := gb2) (blk_far (blk_far (blk_far (blk_far (blk_far (blk_far BK2.out NB2_4.out _) NB2_4.out _) NB2_4.out _) NB2_4.out _) NB2_4.out _) NB2_4.out _) hb); have n4_ := Aside0.mk (blk_below (g := gb4) (put_6_5 (put_6_4 (put_6_3 (put_6_2 (put_6_1 (put_6_0 BK4.out)))))) hb); have nd_ := Aside0.mk (below_step (bel_of (w := w10) hb (by repeat (first | (with_reducible first | exact HD.out.1 | refine below_set ?_ HD.out.2) | exact HD.out.1))) hb); have DG := Aside0.mk HD.out.2; have nb_ := Aside0.mk (below_step hx_ hb); clear HB BK1 BK2 BK4 HD hx_ hb; have HB := nb_; have BK2 := n2_; have BK4 := n4_; have HD := nd_; clear nb_ n2_ n4_ nd_; obtain ⟨hc12_0, hc12_1, hc12_2, hc12_3, hc12_4, hc12_5, hf12_0, hf12_1, hf12_2, hf12_3, hf12_4, hf12_5⟩ := cells6 BK4.out; obtain ⟨hc13_0, hc13_1, hc13_2, hc13_3, hc13_4, hc13_5, hf13_0, hf13_1, hf13_2, hf13_3, hf13_4, hf13_5⟩ := cells6 BK2.out))
 have n2_ := Aside0.mk (blk_drew BK2.out)
 have n4_ := Aside0.mk (blk_drew BK4.out)
 have nb_ := Aside0.mk (below_drew1 HB.out)
 have nd_ := Aside0.mk (below_drew1 HD.out)
 clear BK2 BK4 HB HD
 have BK2 := n2_
 have BK4 := n4_
 have HB := nb_
 have HD := nd_
 clear n2_ n4_ nb_ nd_
 have hcr_ := HC.out
 have har_ := hcr_.at_
 simp only [AtL] at har_
 obtain ⟨g, h, Z03, z03, y03, Z04, z04, y04, Z05, z05, y05, Z13, z13, y13, Z14, z14, y14, Z15, z15, y15, Z23, z23, y23, Z24, z24, y24, Z25, z25, y25, ⟨rfl, rfl⟩, ⟨hg0, hg1, hg2⟩, ⟨hr0, hr1, hr2⟩, ⟨ha0, ha1, ha2⟩, hsub⟩ := pieces har_.1 har_.2.2.1 hcr_.r3 hcr_.r5 HL.out.1 HL.out.2
 have GC0 := Aside0.mk hg0
 have R0 := Aside0.mk hr0
 have GC1 := Aside0.mk hg1
 have R1 := Aside0.mk hr1
 have GC2 := Aside0.mk hg2
 have R2 := Aside0.mk hr2
 have GS : Aside0 (∀ b, b ∈ blksL (.i (rd_T33 l0_3 0).f0 :: .s (rd_T33 l0_3 0).f1 :: .i (rd_T33 l0_3 0).f2 :: rows3 Z03 (rd_T33 l0_3 0).f3.length z03 y03 Z04 (rd_T33 l0_3 0).f4.length z04 y04 Z05 (rd_T33 l0_3 0).f5.length z05 y05) ∨ b ∈ blksL (.i (rd_T53 l0_5 0).f2.f0 :: .s (rd_T53 l0_5 0).f2.f1 :: .i (rd_T53 l0_5 0).f2.f2 :: rows3 Z13 (rd_T53 l0_5 0).f2.f3.length z13 y13 Z14 (rd_T53 l0_5 0).f2.f4.length z14 y14 Z15 (rd_T53 l0_5 0).f2.f5.length z15 y15) ∨ b ∈ blksL (.i (rd_T53 l0_5 1).f2.f0 :: .s (rd_T53 l0_5 1).f2.f1 :: .i (rd_T53 l0_5 1).f2.f2 :: rows3 Z23 (rd_T53 l0_5 1).f2.f3.length z23 y23 Z24 (rd_T53 l0_5 1).f2.f4.length z24 y24 Z25 (rd_T53 l0_5 1).f2.f5.length z25 y25) → gb2 < b) := ⟨fun b hb => GB.out b (by have h_ := hsub b hb; simp only [blksL, It.blks, List.append_nil, List.mem_append]; exact h_.elim (fun q_ => .inl (.inr q_)) (fun q_ => .inr (.inr (.inr q_))))⟩
 refine start_ (n := 18) (S := fun w' => Below w10.heap.size w10 w' ∧ w'.heap[gb4]? = some (.cells #[.int .i64 a0_0, .string a0_1, .int .i64 a0_2, .slice (some ⟨g, 0, none⟩) l0_3.length d3, .slice E4 l0_4.length d4, .slice (some ⟨h, 0, none⟩) l0_5.length d5] 33 (0, 0))) (ds := [16]) #[false, false, false, false, false, false, false, false, false, false, false, false, false, false, false, false, false, false] (by kernel_rfl) rfl rfl ⟨HD.out, BK4.out⟩ (fun hHeld => ?_)
 generalize w12.drew = w13 at BK2 BK4 HB HD hHeld ⊢
 have K0 := Aside0.mk (AtL_below ha0 HD.out)
 have K1 := Aside0.mk (AtL_below ha1 HD.out)
 have K2 := Aside0.mk (AtL_below ha2 HD.out)
 clear har_ hcr_ hg0 hg1 hg2 hr0 hr1 hr2 ha0 ha1 ha2 hsub
 refine pure_ (i := 0) (N := some 11) (v := ?_) (a' := ?_) #[true, false, false, false, false, false, false, false, false, false, false, false, false, false, false, false, false, false] rfl rfl (by kernel_rfl) (fun _ _ _ h => h) (Or.inl ⟨by rfl, ?_⟩) ?_ ?_
 rotate_left
 ·intro w'
  go_simp
  with_reducible rfl
 rotate_left
 ·simp only [Act.put, List.setIfInBounds_toArray, List.set_cons_zero, List.set_cons_succ, i64_w, i32_w]
  rfl
 refine take_ (i := 1) (N := some 12) (v := ?_) (a' := ?_) #[true, true, false, false, false, false, false, false, false, false, false, false, false, false, false, false, false, false] rfl rfl (by kernel_rfl) (fun _ _ _ h => h) (Or.inl ⟨by rfl, ?_⟩) hHeld ?_ ?_
 rotate_left
 ·rintro w' ⟨hb_, hk_⟩
  have hc := (blk_cell hk_ 3).trans rfl
  go_simp
  with_reducible rfl
 rotate_left
 ·simp only [Act.put, List.setIfInBounds_toArray, List.set_cons_zero, List.set_cons_succ, i64_w, i32_w]
  rfl
 refine pure_ (i := 2) (N := some 13) (v := ?_) (a' := ?_) #[true, true, true, false, false, false, false, false, false, false, false, false, false, false, false, false, false, false] rfl rfl (by kernel_rfl) (fun _ _ _ h => h) (Or.inl ⟨by rfl, ?_⟩) ?_ ?_
 rotate_left
 ·intro w'
  go_simp
  with_reducible rfl
 rotate_left
 ·simp only [Act.put, List.setIfInBounds_toArray, List.set_cons_zero, List.set_cons_succ, i64_w, i32_w]
  rfl
 refine take_ (i := 3) (N := some 14) (v := ?_) (a' := ?_) #[true, true, true, true, false, false, false, false, false, false, false, false, false, false, false, false, false, false] rfl rfl (by kernel_rfl) (fun _ _ _ h => h) (Or.inl ⟨by rfl, ?_⟩) hHeld ?_ ?_
 rotate_left
 ·rintro w' ⟨hb_, hk_⟩
  obtain ⟨h0_, h1_, h2_, h3_, h4_, h5_⟩ := six_later hb_ GC0.out
  go_simp
  with_reducible rfl
 rotate_left
 ·simp only [Act.put, List.setIfInBounds_toArray, List.set_cons_zero, List.set_cons_succ, i64_w, i32_w]
  rfl
 refine pure_ (i := 4) (N := some 15) (v := ?_) (a' := ?_) #[true, true, true, true, true, false, false, false, false, false, false, false, false, false, false, false, false, false] rfl rfl (by kernel_rfl) (fun _ _ _ h => h) (Or.inl ⟨by rfl, ?_⟩) ?_ ?_
 rotate_left
 ·intro w'
  go_simp
  with_reducible rfl
 rotate_left
 ·simp only [Act.put, List.setIfInBounds_toArray, List.set_cons_zero, List.set_cons_succ, i64_w, i32_w]
  rfl
 refine take_ (i := 5) (N := some 16) (v := ?_) (a' := ?_) #[true, true, true, true, true, true, false, false, false, false, false, false, false, false, false, false, false, false] rfl rfl (by kernel_rfl) (fun _ _ _ h => h) (Or.inl ⟨by rfl, ?_⟩) hHeld ?_ ?_
 rotate_left
 ·rintro w' ⟨hb_, hk_⟩
  have hc := (blk_cell hk_ 5).trans rfl
  go_simp
  with_reducible rfl
 rotate_left
 ·simp only [Act.put, List.setIfInBounds_toArray, List.set_cons_zero, List.set_cons_succ, i64_w, i32_w]
  rfl
 refine pure_ (i := 6) (N := some 17) (v := ?_) (a' := ?_) #[true, true, true, true, true, true, true, false, false, false, false, false, false, false, false, false, false, false] rfl rfl (by kernel_rfl) (fun _ _ _ h => h) (Or.inl ⟨by rfl, ?_⟩) ?_ ?_
 rotate_left
 ·intro w'
  go_simp
  with_reducible rfl
 rotate_left
 ·simp only [Act.put, List.setIfInBounds_toArray, List.set_cons_zero, List.set_cons_succ, i64_w, i32_w]
  rfl
 refine pure_ (i := 7) (N := some 18) (v := ?_) (a' := ?_) #[true, true, true, true, true, true, true, true, false, false, false, false, false, false, false, false, false, false] rfl rfl (by kernel_rfl) (fun _ _ _ h => h) (Or.inl ⟨by rfl, ?_⟩) ?_ ?_
 rotate_left
 ·intro w'
  go_simp
  with_reducible rfl
 rotate_left
 ·simp only [Act.put, List.setIfInBounds_toArray, List.set_cons_zero, List.set_cons_succ, i64_w, i32_w]
  rfl
 refine take_ (i := 8) (N := some 19) (v := ?_) (a' := ?_) #[true, true, true, true, true, true, true, true, true, false, false, false, false, false, false, false, false, false] rfl rfl (by kernel_rfl) (fun _ _ _ h => h) (Or.inl ⟨by rfl, ?_⟩) hHeld ?_ ?_
 rotate_left
 ·rintro w' ⟨hb_, hk_⟩
  obtain ⟨h0_, h1_, h2_, h3_, h4_, h5_⟩ := six_later hb_ GC1.out
  go_simp
  with_reducible rfl
 rotate_left
 ·simp only [Act.put, List.setIfInBounds_toArray, List.set_cons_zero, List.set_cons_succ, i64_w, i32_w]
  rfl
 refine pure_ (i := 9) (N := some 20) (v := ?_) (a' := ?_) #[true, true, true, true, true, true, true, true, true, true, false, false, false, false, false, false, false, false] rfl rfl (by kernel_rfl) (fun _ _ _ h => h) (Or.inl ⟨by rfl, ?_⟩) ?_ ?_
 rotate_left
 ·intro w'
  go_simp
  with_reducible rfl
 rotate_left
 ·simp only [Act.put, List.setIfInBounds_toArray, List.set_cons_zero, List.set_cons_succ, i64_w, i32_w]
  rfl
 refine take_ (i := 10) (N := some 21) (v := ?_) (a' := ?_) #[true, true, true, true, true, true, true, true, true, true, true, false, false, false, false, false, false, false] rfl rfl (by kernel_rfl) (fun _ _ _ h => h) (Or.inl ⟨by rfl, ?_⟩) hHeld ?_ ?_
 rotate_left
 ·rintro w' ⟨hb_, hk_⟩
  have hc := (blk_cell hk_ 5).trans rfl
  go_simp
  with_reducible rfl
 rotate_left
 ·simp only [Act.put, List.setIfInBounds_toArray, List.set_cons_zero, List.set_cons_succ, i64_w, i32_w]
  rfl
 refine pure_ (i := 11) (N := some 22) (v := ?_) (a' := ?_) #[true, true, true, true, true, true, true, true, true, true, true, true, false, false, false, false, false, false] rfl rfl (by kernel_rfl) (fun _ _ _ h => h) (Or.inl ⟨by rfl, ?_⟩) ?_ ?_
 rotate_left
 ·intro w'
  go_simp
  with_reducible rfl
 rotate_left
 ·simp only [Act.put, List.setIfInBounds_toArray, List.set_cons_zero, List.set_cons_succ, i64_w, i32_w]
  rfl
 refine pure_ (i := 12) (N := some 23) (v := ?_) (a' := ?_) #[true, true, true, true, true, true, true, true, true, true, true, true, true, false, false, false, false, false] rfl rfl (by kernel_rfl) (fun _ _ _ h => h) (Or.inl ⟨by rfl, ?_⟩) ?_ ?_
 rotate_left
 ·intro w'
  go_simp
  with_reducible rfl
 rotate_left
 ·simp only [Act.put, List.setIfInBounds_toArray, List.set_cons_zero, List.set_cons_succ, i64_w, i32_w]
  rfl
 refine take_ (i := 13) (N := some 24) (v := ?_) (a' := ?_) #[true, true, true, true, true, true, true, true, true, true, true, true, true, true, false, false, false, false] rfl rfl (by kernel_rfl) (fun _ _ _ h => h) (Or.inl ⟨by rfl, ?_⟩) hHeld ?_ ?_
 rotate_left
 ·rintro w' ⟨hb_, hk_⟩
  obtain ⟨h0_, h1_, h2_, h3_, h4_, h5_⟩ := six_later hb_ GC2.out
  go_simp
  with_reducible rfl
 rotate_left
 ·simp only [Act.put, List.setIfInBounds_toArray, List.set_cons_zero, List.set_cons_succ, i64_w, i32_w]
  rfl
 refine one_ (i := 14) (N := some 25) #[true, true, true, true, true, true, true, true, true, true, true, true, true, true, true, false, false, false] rfl rfl (by kernel_rfl) (by decide) (fun K hK => ?_)
 refine lit_step (e := 33) (sz := 6) (n := 3) (items := (.i (rd_T33 l0_3 0).f0 :: .s (rd_T33 l0_3 0).f1 :: .i (rd_T33 l0_3 0).f2 :: rows3 Z03 (rd_T33 l0_3 0).f3.length z03 y03 Z04 (rd_T33 l0_3 0).f4.length z04 y04 Z05 (rd_T33 l0_3 0).f5.length z05 y05) ++ ((.i (rd_T53 l0_5 0).f2.f0 :: .s (rd_T53 l0_5 0).f2.f1 :: .i (rd_T53 l0_5 0).f2.f2 :: rows3 Z13 (rd_T53 l0_5 0).f2.f3.length z13 y13 Z14 (rd_T53 l0_5 0).f2.f4.length z14 y14 Z15 (rd_T53 l0_5 0).f2.f5.length z15 y15) ++ (.i (rd_T53 l0_5 1).f2.f0 :: .s (rd_T53 l0_5 1).f2.f1 :: .i (rd_T53 l0_5 1).f2.f2 :: rows3 Z23 (rd_T53 l0_5 1).f2.f3.length z23 y23 Z24 (rd_T53 l0_5 1).f2.f4.length z24 y24 Z25 (rd_T53 l0_5 1).f2.f5.length z25 y25))) [.int .i64 (rd_T33 l0_3 0).f0, .string (rd_T33 l0_3 0).f1, .int .i64 (rd_T33 l0_3 0).f2, .slice Z03 (rd_T33 l0_3 0).f3.length z03, .slice Z04 (rd_T33 l0_3 0).f4.length z04, .slice Z05 (rd_T33 l0_3 0).f5.length z05, .int .i64 (rd_T53 l0_5 0).f2.f0, .string (rd_T53 l0_5 0).f2.f1, .int .i64 (rd_T53 l0_5 0).f2.f2, .slice Z13 (rd_T53 l0_5 0).f2.f3.length z13, .slice Z14 (rd_T53 l0_5 0).f2.f4.length z14, .slice Z15 (rd_T53 l0_5 0).f2.f5.length z15, .int .i64 (rd_T53 l0_5 1).f2.f0, .string (rd_T53 l0_5 1).f2.f1, .int .i64 (rd_T53 l0_5 1).f2.f2, .slice Z23 (rd_T53 l0_5 1).f2.f3.length z23, .slice Z24 (rd_T53 l0_5 1).f2.f4.length z24, .slice Z25 (rd_T53 l0_5 1).f2.f5.length z25] (by rfl) (by rfl) ?hr (by rfl) ?ha (by simp) (by omega) ?_
 (case hr => first | (go_simp; done) | (go_simp; rfl))
 (case ha => exact (AtL_app _ _).2 ⟨K0.out, (AtL_app _ _).2 ⟨K1.out, K2.out⟩⟩)
 intro b25 w14 e25 hA hb
 have N25 := Aside0.mk (show gb2 < b25 from by rw [e25]; exact blk_lt BK2.out)
 have n1_ := Aside0.mk (blk_below BK4.out hb)
 have n2_ := Aside0.mk (blk_below BK2.out hb)
 have n3_ := Aside0.mk (below_step HB.out hb)
 have n4_ := Aside0.mk (below_step HD.out hb)
 have K25 := Aside0.mk hA
 clear hA e25 BK4 BK2 HB HD hb
 have BK4 := n1_
 have BK2 := n2_
 have HB := n3_
 have HD := n4_
 clear n1_ n2_ n3_ n4_
 refine hK.out _ _ ⟨HD.out, BK4.out⟩ (fun hHeld => ?_)
 clear hK K
 refine norm_ (a' := ?_) ?_ ?_
 rotate_left
 ·show Act.put _ (some 25) _ = _
  simp only [Act.put, List.setIfInBounds_toArray, List.set_cons_zero, List.set_cons_succ, i64_w, i32_w]
  rfl
 refine pure_ (i := 15) (N := some 26) (v := ?_) (a' := ?_) #[true, true, true, true, true, true, true, true, true, true, true, true, true, true, true, true, false, false] rfl rfl (by kernel_rfl) (fun _ _ _ h => h) (Or.inl ⟨by rfl, ?_⟩) ?_ ?_
 rotate_left
 ·intro w'
  go_simp
  with_reducible rfl
 rotate_left
 ·simp only [Act.put, List.setIfInBounds_toArray, List.set_cons_zero, List.set_cons_succ, i64_w, i32_w]
  rfl
 refine last_ (i := 16) (N := none) #[true, true, true, true, true, true, true, true, true, true, true, true, true, true, true, true, true, false] rfl rfl (by kernel_rfl) (by decide) (fun K hK => ?_)
 have hs0 : w14.cell? ⟨gb2, 0, none⟩ = some (.int .i64 0) := (blk_cell BK2.out 0).trans rfl
 have hf0 := blk_frozen BK2.out 0
 have hs1 : w14.cell? ⟨gb2, 1, none⟩ = some (.string (⟨#[]⟩ : ByteArray)) := (blk_cell BK2.out 1).trans rfl
 have hf1 := blk_frozen BK2.out 1
 have hs2 : w14.cell? ⟨gb2, 2, none⟩ = some (.int .i64 0) := (blk_cell BK2.out 2).trans rfl
 have hf2 := blk_frozen BK2.out 2
 have hs3 : w14.cell? ⟨gb2, 3, none⟩ = some (.slice none 0 0) := (blk_cell BK2.out 3).trans rfl
 have hf3 := blk_frozen BK2.out 3
 have hs4 : w14.cell? ⟨gb2, 4, none⟩ = some (.slice none 0 0) := (blk_cell BK2.out 4).trans rfl
 have hf4 := blk_frozen BK2.out 4
 have hs5 : w14.cell? ⟨gb2, 5, none⟩ = some (.slice none 0 0) := (blk_cell BK2.out 5).trans rfl
 have hf5 := blk_frozen BK2.out 5
 refine skip_ (w1 := ?_) (by rfl) rfl ?_ ?_
 rotate_left
 ·go_simp
  rfl
 refine hK.out _ _ ?_
 clear hK K
 refine pure_ (i := 17) (N := some 3) (v := ?_) (a' := ?_) #[true, true, true, true, true, true, true, true, true, true, true, true, true, true, true, true, true, true] rfl rfl (by kernel_rfl) (fun _ _ _ h => h) (Or.inl ⟨by rfl, ?_⟩) ?_ ?_
 rotate_left
 ·intro w'
  go_simp
  with_reducible rfl
 rotate_left
 ·simp only [Act.put, List.setIfInBounds_toArray, List.set_cons_zero, List.set_cons_succ, i64_w, i32_w]
  rfl
 refine done_ (by kernel_rfl) ?_
 try go_wp2
 refine bodyPost_ret (results_ct rfl _ _ gb2 33 #[.int .i64 8, .string (⟨#[]⟩ : ByteArray), .int .i64 0, .slice (some ⟨b25, 0, none⟩) 3 3, .slice none 0 0, .slice none 0 0] (0, 0) _ rfl ((put_6_5 (put_6_4 (put_6_3 (put_6_2 (put_6_1 (put_6_0 BK2.out))))))) Try.underlying33 rfl (by kernel_rfl)) rfl ?_
 have hgb_ : ∀ b ∈ blksL (rows3 (some ⟨b25, 0, none⟩) 3 3 ((.i (rd_T33 l0_3 0).f0 :: .s (rd_T33 l0_3 0).f1 :: .i (rd_T33 l0_3 0).f2 :: rows3 Z03 (rd_T33 l0_3 0).f3.length z03 y03 Z04 (rd_T33 l0_3 0).f4.length z04 y04 Z05 (rd_T33 l0_3 0).f5.length z05 y05) ++ ((.i (rd_T53 l0_5 0).f2.f0 :: .s (rd_T53 l0_5 0).f2.f1 :: .i (rd_T53 l0_5 0).f2.f2 :: rows3 Z13 (rd_T53 l0_5 0).f2.f3.length z13 y13 Z14 (rd_T53 l0_5 0).f2.f4.length z14 y14 Z15 (rd_T53 l0_5 0).f2.f5.length z15 y15) ++ (.i (rd_T53 l0_5 1).f2.f0 :: .s (rd_T53 l0_5 1).f2.f1 :: .i (rd_T53 l0_5 1).f2.f2 :: rows3 Z23 (rd_T53 l0_5 1).f2.f3.length z23 y23 Z24 (rd_T53 l0_5 1).f2.f4.length z24 y24 Z25 (rd_T53 l0_5 1).f2.f5.length z25 y25))) none 0 0 [] none 0 0 []), gb2 < b := by
  intro b hb
  simp only [blksL, It.blks, Value.ownBlock, Option.toList, blksL_app, List.append_nil, List.nil_append, List.mem_append, List.mem_cons, List.not_mem_nil, or_false, false_or] at hb
  have s_ := GS.out b
  simp only [blksL, It.blks, List.append_nil, List.nil_append, List.mem_append] at s_
  have := N25.out
  rcases hb with rfl | hb | hb | hb
  · assumption
  · exact s_ (.inl hb)
  · exact s_ (.inr (.inl hb))
  · exact s_ (.inr (.inr hb))
 have hat_ : AtL w14 (rows3 (some ⟨b25, 0, none⟩) 3 3 ((.i (rd_T33 l0_3 0).f0 :: .s (rd_T33 l0_3 0).f1 :: .i (rd_T33 l0_3 0).f2 :: rows3 Z03 (rd_T33 l0_3 0).f3.length z03 y03 Z04 (rd_T33 l0_3 0).f4.length z04 y04 Z05 (rd_T33 l0_3 0).f5.length z05 y05) ++ ((.i (rd_T53 l0_5 0).f2.f0 :: .s (rd_T53 l0_5 0).f2.f1 :: .i (rd_T53 l0_5 0).f2.f2 :: rows3 Z13 (rd_T53 l0_5 0).f2.f3.length z13 y13 Z14 (rd_T53 l0_5 0).f2.f4.length z14 y14 Z15 (rd_T53 l0_5 0).f2.f5.length z15 y15) ++ (.i (rd_T53 l0_5 1).f2.f0 :: .s (rd_T53 l0_5 1).f2.f1 :: .i (rd_T53 l0_5 1).f2.f2 :: rows3 Z23 (rd_T53 l0_5 1).f2.f3.length z23 y23 Z24 (rd_T53 l0_5 1).f2.f4.length z24 y24 Z25 (rd_T53 l0_5 1).f2.f5.length z25 y25))) none 0 0 [] none 0 0 []) := by
  have h1_ := K25.out
  simp only [AtL, and_true] at h1_ ⊢
  exact ⟨h1_, z_row w14 68 9 (by simp), z_row w14 53 8 (by simp)⟩
 exact ⟨some ⟨b25, 0, none⟩, 3, none, 0, none, 0, rfl, rows_arg (l3 := [(rd_T33 l0_3 0), (rd_T53 l0_5 0).f2, (rd_T53 l0_5 1).f2]) (l4 := []) (l5 := []) (AtL_set (g := gb2) (AtL_set (g := gb2) (AtL_set (g := gb2) (AtL_set (g := gb2) (AtL_set (g := gb2) (AtL_set (g := gb2) hat_ (fun b hb => by have := hgb_ b hb; omega) 0 (.int .i64 8)) (fun b hb => by have := hgb_ b hb; omega) 1 (.string (⟨#[]⟩ : ByteArray))) (fun b hb => by have := hgb_ b hb; omega) 2 (.int .i64 0)) (fun b hb => by have := hgb_ b hb; omega) 3 (.slice (some ⟨b25, 0, none⟩) 3 3)) (fun b hb => by have := hgb_ b hb; omega) 4 (.slice none 0 0)) (fun b hb => by have := hgb_ b hb; omega) 5 (.slice none 0 0)) (by have h_ := RepEs.cons R0.out (.cons R1.out (.cons R2.out .nil)); simpa only [List.append_nil] using h_) .nil .nil, by repeat (first | (with_reducible first | exact HB.out | apply below_alloc | apply pw_below_drewN | apply below_drew1 | refine below_set ?_ GE2.out) | exact HB.out)⟩
set_option maxHeartbeats 8000000 in
set_option maxRecDepth 100000 in
theorem implCase_no (k : Nat) (a0_0 : Int) (a0_1 : ByteArray) (a0_2 : Int) (A0_3 : Option Addr) (c0_3 : Nat) (l0_3 : List (S33)) (A0_4 : Option Addr) (c0_4 : Nat) (l0_4 : List (S68)) (A0_5 : Option Addr) (c0_5 : Nat) (l0_5 : List (S53)) (w : World) (ha : ArgE w A0_3 c0_3 l0_3 A0_4 c0_4 l0_4 A0_5 c0_5 l0_5) (hn : impl_isCase.f a0_0 a0_1 a0_2 l0_3 l0_4 l0_5 = some false) (h : uE k l0_3 l0_4 l0_5 = some ()) :
  Calls Try.prog 20 #[.agg #[.int .i64 a0_0, .string a0_1, .int .i64 a0_2, .slice A0_3 l0_3.length c0_3, .slice A0_4 l0_4.length c0_4, .slice A0_5 l0_5.length c0_5]] w fun e w' => ∃ (A3 : Option Addr) (c3 : Nat) (i3 : List It) (A4 : Option Addr) (c4 : Nat) (i4 : List It) (A5 : Option Addr) (c5 : Nat) (i5 : List It), e = .returned (.tuple #[.agg #[.int .i64 a0_0, .string a0_1, .int .i64 a0_2, .slice A3 l0_3.length c3, .slice A4 l0_4.length c4, .slice A5 l0_5.length c5], .bool false]) ∧ CopE w.heap.size w' l0_3 l0_4 l0_5 A3 c3 i3 A4 c4 i4 A5 c5 i5 ∧ Below w.heap.size w w' := by
 have hu33 := Try.underlying33
 have HA := Aside0.mk ha
 have H' := Aside0.mk h
 have HN := Aside0.mk hn
 clear ha h hn
 have HB := Aside0.mk (Below.refl w.heap.size w)
 go_enter Try.func20, Try.ntmps20
 go_wp2_with (first | ((with_reducible refine gate_dst (N := 1) rfl ?_); refine box_event ?hg (N := 1) ?hd (cs := #[.int .i64 a0_0, .string a0_1, .int .i64 a0_2, .slice A0_3 l0_3.length c0_3, .slice A0_4 l0_4.length c0_4, .slice A0_5 l0_5.length c0_5]) (t := 33) ?hr ?_; (case hd => rfl); (case hg => rfl); (case hr => first | (go_simp; done) | (go_simp; rfl)); intro gb1 hg w3 hbox hb; have hx_ := bel_of (w := w) hb HB.out; have nb_ := Aside0.mk (below_step hx_ hb); have ge_ := Aside0.mk (box_ge hx_ hg); clear HB  ; have HB := nb_; have BK1 := Aside0.mk hbox; have GE1 := ge_; clear nb_ ge_ hx_ hb hbox hg  ) | ((with_reducible refine gate_dst (N := 2) rfl ?_); refine box_event ?hg (N := 2) ?hd (cs := #[.int .i64 0, .string (⟨#[]⟩ : ByteArray), .int .i64 0, .slice none 0 0, .slice none 0 0, .slice none 0 0]) (t := 33) ?hr ?_; (case hd => rfl); (case hg => rfl); (case hr => first | (go_simp; done) | (go_simp; rfl)); intro gb2 hg w4 hbox hb; have hx_ := bel_of (w := w) hb (by repeat (first | (with_reducible first | exact HB.out | apply below_alloc | apply pw_below_drewN | apply below_drew1 | refine below_set ?_ GE1.out) | exact HB.out)); have n1_ := Aside0.mk (blk_below (g := gb1) BK1.out hb); have m1_ := Aside0.mk (box_lt (g' := gb1) BK1.out hg); have k1_ := Aside0.mk (box_gt (g' := gb1) BK1.out hg); have nb_ := Aside0.mk (below_step hx_ hb); have ge_ := Aside0.mk (box_ge hx_ hg); clear HB BK1 ; have BK1 := n1_; have NB1_2 := m1_; have NB2_1 := k1_; have HB := nb_; have BK2 := Aside0.mk hbox; have GE2 := ge_; clear nb_ ge_ hx_ hb hbox hg n1_ m1_ k1_ ; obtain ⟨hc5_0, hc5_1, hc5_2, hc5_3, hc5_4, hc5_5, hf5_0, hf5_1, hf5_2, hf5_3, hf5_4, hf5_5⟩ := cells6 BK1.out; have hnb6 := NB1_2.out; have hnc6 := NB2_1.out) | ((with_reducible refine gate_callee (f := 45) rfl ?_); refine goesL_ (some 5) rfl rfl Try.func45 (by kernel_rfl) rfl #[.agg #[.int .i64 a0_0, .string a0_1, .int .i64 a0_2, .slice A0_3 l0_3.length c0_3, .slice A0_4 l0_4.length c0_4, .slice A0_5 l0_5.length c0_5]] rfl (by (try simp only [List.map_toArray, List.map_cons, List.map_nil, List.append_toArray, List.cons_append, List.nil_append]); first | done | rfl) ?_; refine calls_bel (w0 := w) (by repeat (first | (with_reducible first | exact HB.out | apply below_alloc | apply pw_below_drewN | apply below_drew1 | refine below_set ?_ GE1.out | refine below_set ?_ GE2.out) | exact HB.out)) (fun hx_ => ?_); (with_reducible refine (impl_isCase.calls _ _ _ _ _ _ _ _ _ _ _ _ false _ (Kd.C_below HA.out.1.1 hx_) HA.out.1.2 (Kd.C_below HA.out.2.1.1 hx_) HA.out.2.1.2 (Kd.C_below HA.out.2.2.1 hx_) HA.out.2.2.2 HN.out).mono ?_); rintro e w8 ⟨rfl, hb⟩; refine ⟨_, rfl, ?_⟩; have n1_ := Aside0.mk (blk_below (g := gb1) BK1.out hb); have n2_ := Aside0.mk (blk_below (g := gb2) BK2.out hb); have nb_ := Aside0.mk (below_step hx_ hb); clear HB BK1 BK2 hx_ hb; have HB := nb_; have BK1 := n1_; have BK2 := n2_; clear nb_ n1_ n2_; obtain ⟨hc6_0, hc6_1, hc6_2, hc6_3, hc6_4, hc6_5, hf6_0, hf6_1, hf6_2, hf6_3, hf6_4, hf6_5⟩ := cells6 BK1.out) | ((with_reducible refine gate_callee (f := 37) rfl ?_); refine goesL_ (some 8) rfl rfl Try.func37 (by kernel_rfl) rfl #[.agg #[.int .i64 a0_0, .string a0_1, .int .i64 a0_2, .slice A0_3 l0_3.length c0_3, .slice A0_4 l0_4.length c0_4, .slice A0_5 l0_5.length c0_5]] rfl (by (try simp only [List.map_toArray, List.map_cons, List.map_nil, List.append_toArray, List.cons_append, List.nil_append]); first | done | rfl) ?_; refine calls_bel (w0 := w) (by repeat (first | (with_reducible first | exact HB.out | apply below_alloc | apply pw_below_drewN | apply below_drew1 | refine below_set ?_ GE1.out | refine below_set ?_ GE2.out) | exact HB.out)) (fun hx_ => ?_); (with_reducible refine ((all k).1 a0_0 a0_1 a0_2 _ _ l0_3 _ _ l0_4 _ _ l0_5 _ ⟨⟨Kd.C_below HA.out.1.1 hx_, HA.out.1.2⟩, ⟨Kd.C_below HA.out.2.1.1 hx_, HA.out.2.1.2⟩, ⟨Kd.C_below HA.out.2.2.1 hx_, HA.out.2.2.2⟩⟩ H'.out).mono ?_); rintro e w9 ⟨E3, d3, y3, E4, d4, y4, E5, d5, y5, rfl, hc, hb⟩; refine ⟨_, rfl, ?_⟩; have n2_ := Aside0.mk (blk_below (g := gb2) BK2.out hb); have g2_ := Aside0.mk (lt_of_blk (g := gb2) BK2.out hb); have HC := Aside0.mk hc; have LO := Aside0.mk (below_size hx_); have nb_ := Aside0.mk (below_step hx_ hb); clear HB BK1 BK2 hx_ hb hc; have HB := nb_; have BK2 := n2_; have GL := g2_; clear nb_ n2_ g2_; obtain ⟨hc7_0, hc7_1, hc7_2, hc7_3, hc7_4, hc7_5, hf7_0, hf7_1, hf7_2, hf7_3, hf7_4, hf7_5⟩ := cells6 BK2.out))
 refine bodyPost_ret (results_ct rfl _ _ gb2 33 #[.int .i64 a0_0, .string a0_1, .int .i64 a0_2, .slice E3 l0_3.length d3, .slice E4 l0_4.length d4, .slice E5 l0_5.length d5] (0, 0) _ rfl ((put_6_5 (put_6_4 (put_6_3 (put_6_2 (put_6_1 (put_6_0 BK2.out))))))) Try.underlying33 rfl (by kernel_rfl)) rfl ?_
 exact ⟨E3, d3, y3, E4, d4, y4, E5, d5, y5, rfl, ((((((HC.out.set GL.out _ _).set GL.out _ _).set GL.out _ _).set GL.out _ _).set GL.out _ _).set GL.out _ _).low LO.out, by repeat (first | (with_reducible first | exact HB.out | apply below_alloc | apply pw_below_drewN | apply below_drew1 | refine below_set ?_ GE2.out) | exact HB.out)⟩
set_option maxHeartbeats 8000000 in
set_option maxRecDepth 100000 in
theorem implCase_yes (k : Nat) (a0_0 : Int) (a0_1 : ByteArray) (a0_2 : Int) (A0_3 : Option Addr) (c0_3 : Nat) (l0_3 : List (S33)) (A0_4 : Option Addr) (c0_4 : Nat) (l0_4 : List (S68)) (A0_5 : Option Addr) (c0_5 : Nat) (l0_5 : List (S53)) (i3 i4 i5 : List It) (w : World) (hi : AtL w (rows3 A0_3 l0_3.length c0_3 i3 A0_4 l0_4.length c0_4 i4 A0_5 l0_5.length c0_5 i5)) (h3 : RepEs l0_3 i3) (h4 : RepDs l0_4 i4) (h5 : RepAs l0_5 i5) (hn : impl_isCase.f a0_0 a0_1 a0_2 l0_3 l0_4 l0_5 = some true) (hl : l0_3.length = 1 ∧ l0_5.length = 2) (h0 : uE k (rd_T33 l0_3 0).f3 (rd_T33 l0_3 0).f4 (rd_T33 l0_3 0).f5 = some ()) (h1 : uE k (rd_T53 l0_5 0).f2.f3 (rd_T53 l0_5 0).f2.f4 (rd_T53 l0_5 0).f2.f5 = some ()) (h2 : uE k (rd_T53 l0_5 1).f2.f3 (rd_T53 l0_5 1).f2.f4 (rd_T53 l0_5 1).f2.f5 = some ()) :
  Calls Try.prog 20 #[.agg #[.int .i64 a0_0, .string a0_1, .int .i64 a0_2, .slice A0_3 l0_3.length c0_3, .slice A0_4 l0_4.length c0_4, .slice A0_5 l0_5.length c0_5]] w fun e w' => ∃ (A3 : Option Addr) (c3 : Nat) (i3 : List It) (A4 : Option Addr) (c4 : Nat) (i4 : List It) (A5 : Option Addr) (c5 : Nat) (i5 : List It), e = .returned (.tuple #[.agg #[.int .i64 8, .string (⟨#[]⟩ : ByteArray), .int .i64 0, .slice A3 3 c3, .slice A4 0 c4, .slice A5 0 c5], .bool true]) ∧ CopE w.heap.size w' [(rd_T33 l0_3 0), (rd_T53 l0_5 0).f2, (rd_T53 l0_5 1).f2] [] [] A3 c3 i3 A4 c4 i4 A5 c5 i5 ∧ Below w.heap.size w w' := by
 have hu33 := Try.underlying33
 have hu53 := Try.underlying53
 have ha := rows_arg hi h3 h4 h5
 have har_ := hi
 simp only [AtL] at har_
 have c4b0 : decide (0 < (l0_3.length : Int)) = true := decide_eq_true (by have := hl; omega)
 have c4b1 : decide (0 < l0_3.length) = true := decide_eq_true (by have := hl; omega)
 have c6b0 : decide (0 < (l0_5.length : Int)) = true := decide_eq_true (by have := hl; omega)
 have c6b1 : decide (0 < l0_5.length) = true := decide_eq_true (by have := hl; omega)
 have c8b0 : decide (1 < (l0_5.length : Int)) = true := decide_eq_true (by have := hl; omega)
 have c8b1 : decide (1 < l0_5.length) = true := decide_eq_true (by have := hl; omega)
 have qi0 : (0 < l0_3.length) = True := eq_true (by have := hl; omega)
 have qi1 : (0 < l0_5.length) = True := eq_true (by have := hl; omega)
 have qi2 : (1 < l0_5.length) = True := eq_true (by have := hl; omega)
 have q0 : ((0 : Int) < (l0_3.length : Int)) = True := eq_true (by have := hl; omega)
 have q1 : ((0 : Int) < (l0_5.length : Int)) = True := eq_true (by have := hl; omega)
 have q2 : ((1 : Int) < (l0_5.length : Int)) = True := eq_true (by have := hl; omega)
 obtain ⟨g, h, Z03, z03, y03, Z04, z04, y04, Z05, z05, y05, Z13, z13, y13, Z14, z14, y14, Z15, z15, y15, Z23, z23, y23, Z24, z24, y24, Z25, z25, y25, ⟨rfl, rfl⟩, ⟨hg0, hg1, hg2⟩, ⟨hr0, hr1, hr2⟩, ⟨ha0, ha1, ha2⟩, hsub⟩ := pieces har_.1 har_.2.2.1 h3 h5 hl.1 hl.2
 have HA := Aside0.mk ha
 have HN := Aside0.mk hn
 have HU0 := Aside0.mk h0
 have HU1 := Aside0.mk h1
 have HU2 := Aside0.mk h2
 have GC0 := Aside0.mk hg0
 have GC1 := Aside0.mk hg1
 have GC2 := Aside0.mk hg2
 have GA0 := Aside0.mk (el_arg hr0 ha0)
 have GA1 := Aside0.mk (el_arg hr1 ha1)
 have GA2 := Aside0.mk (el_arg hr2 ha2)
 have HB := Aside0.mk (Below.refl w.heap.size w)
 clear hi h3 h4 h5 hn hl h0 h1 h2 ha har_ hg0 hg1 hg2 hr0 hr1 hr2 ha0 ha1 ha2 hsub
 go_enter Try.func20, Try.ntmps20
 try go_wp2_with (first | ((with_reducible refine gate_dst (N := 1) rfl ?_); refine box_event ?hg (N := 1) ?hd (cs := #[.int .i64 a0_0, .string a0_1, .int .i64 a0_2, .slice (some ⟨g, 0, none⟩) l0_3.length c0_3, .slice A0_4 l0_4.length c0_4, .slice (some ⟨h, 0, none⟩) l0_5.length c0_5]) (t := 33) ?hr ?_; (case hd => rfl); (case hg => rfl); (case hr => first | (go_simp; done) | (go_simp; rfl)); intro gb1 hg w3 hbox hb; have hx_ := bel_of (w := w) hb HB.out; have nb_ := Aside0.mk (below_step hx_ hb); have ge_ := Aside0.mk (box_ge hx_ hg); clear HB  ; have HB := nb_; have BK1 := Aside0.mk hbox; have GE1 := ge_; clear nb_ ge_ hx_ hb hbox hg  ) | ((with_reducible refine gate_dst (N := 2) rfl ?_); refine box_event ?hg (N := 2) ?hd (cs := #[.int .i64 0, .string (⟨#[]⟩ : ByteArray), .int .i64 0, .slice none 0 0, .slice none 0 0, .slice none 0 0]) (t := 33) ?hr ?_; (case hd => rfl); (case hg => rfl); (case hr => first | (go_simp; done) | (go_simp; rfl)); intro gb2 hg w4 hbox hb; have hx_ := bel_of (w := w) hb (by repeat (first | (with_reducible first | exact HB.out | apply below_alloc | apply pw_below_drewN | apply below_drew1 | refine below_set ?_ GE1.out) | exact HB.out)); have n1_ := Aside0.mk (blk_below (g := gb1) BK1.out hb); have m1_ := Aside0.mk (box_lt (g' := gb1) BK1.out hg); have k1_ := Aside0.mk (box_gt (g' := gb1) BK1.out hg); have nb_ := Aside0.mk (below_step hx_ hb); have ge_ := Aside0.mk (box_ge hx_ hg); clear HB BK1 ; have BK1 := n1_; have NB1_2 := m1_; have NB2_1 := k1_; have HB := nb_; have BK2 := Aside0.mk hbox; have GE2 := ge_; clear nb_ ge_ hx_ hb hbox hg n1_ m1_ k1_ ; obtain ⟨hc5_0, hc5_1, hc5_2, hc5_3, hc5_4, hc5_5, hf5_0, hf5_1, hf5_2, hf5_3, hf5_4, hf5_5⟩ := cells6 BK1.out; have hnb6 := NB1_2.out; have hnc6 := NB2_1.out) | ((with_reducible refine gate_callee (f := 45) rfl ?_); refine goesL_ (some 5) rfl rfl Try.func45 (by kernel_rfl) rfl #[.agg #[.int .i64 a0_0, .string a0_1, .int .i64 a0_2, .slice (some ⟨g, 0, none⟩) l0_3.length c0_3, .slice A0_4 l0_4.length c0_4, .slice (some ⟨h, 0, none⟩) l0_5.length c0_5]] rfl (by (try simp only [List.map_toArray, List.map_cons, List.map_nil, List.append_toArray, List.cons_append, List.nil_append]); first | done | rfl) ?_; refine calls_bel (w0 := w) (by repeat (first | (with_reducible first | exact HB.out | apply below_alloc | apply pw_below_drewN | apply below_drew1 | refine below_set ?_ GE1.out | refine below_set ?_ GE2.out) | exact HB.out)) (fun hx_ => ?_); (with_reducible refine (impl_isCase.calls _ _ _ _ _ _ _ _ _ _ _ _ true _ (Kd.C_below HA.out.1.1 hx_) HA.out.1.2 (Kd.C_below HA.out.2.1.1 hx_) HA.out.2.1.2 (Kd.C_below HA.out.2.2.1 hx_) HA.out.2.2.2 HN.out).mono ?_); rintro e w8 ⟨rfl, hb⟩; refine ⟨_, rfl, ?_⟩; have n1_ := Aside0.mk (blk_below (g := gb1) BK1.out hb); have n2_ := Aside0.mk (blk_below (g := gb2) BK2.out hb); have nb_ := Aside0.mk (below_step hx_ hb); clear HB BK1 BK2 hx_ hb; have HB := nb_; have BK1 := n1_; have BK2 := n2_; clear nb_ n1_ n2_; obtain ⟨hc6_0, hc6_1, hc6_2, hc6_3, hc6_4, hc6_5, hf6_0, hf6_1, hf6_2, hf6_3, hf6_4, hf6_5⟩ := cells6 BK1.out))
 have n0_ := Aside0.mk (blk_drew BK1.out)
 have n1_ := Aside0.mk (blk_drew BK2.out)
 have n2_ := Aside0.mk (below_drew1 HB.out)
 clear BK1 BK2 HB
 have BK1 := n0_
 have BK2 := n1_
 have HB := n2_
 clear n0_ n1_ n2_
 refine start_ (n := 21) (S := fun w' => Below w.heap.size w w' ∧ w'.heap[gb1]? = some (.cells #[.int .i64 a0_0, .string a0_1, .int .i64 a0_2, .slice (some ⟨g, 0, none⟩) l0_3.length c0_3, .slice A0_4 l0_4.length c0_4, .slice (some ⟨h, 0, none⟩) l0_5.length c0_5] 33 (0, 0))) (ds := [19]) #[false, false, false, false, false, false, false, false, false, false, false, false, false, false, false, false, false, false, false, false, false] (by kernel_rfl) rfl rfl ⟨HB.out, BK1.out⟩ (fun hHeld => ?_)
 generalize w8.drew = w9 at BK1 BK2 HB hHeld ⊢
 refine pure_ (i := 0) (N := some 9) (v := ?_) (a' := ?_) #[true, false, false, false, false, false, false, false, false, false, false, false, false, false, false, false, false, false, false, false, false] rfl rfl (by kernel_rfl) (fun _ _ _ h => h) (Or.inl ⟨by rfl, ?_⟩) ?_ ?_
 rotate_left
 ·intro w'
  go_simp
  with_reducible rfl
 rotate_left
 ·simp only [Act.put, List.setIfInBounds_toArray, List.set_cons_zero, List.set_cons_succ, i64_w, i32_w]
  rfl
 refine pure_ (i := 5) (N := some 14) (v := ?_) (a' := ?_) #[true, false, false, false, false, true, false, false, false, false, false, false, false, false, false, false, false, false, false, false, false] rfl rfl (by kernel_rfl) (fun _ _ _ h => h) (Or.inl ⟨by rfl, ?_⟩) ?_ ?_
 rotate_left
 ·intro w'
  go_simp
  with_reducible rfl
 rotate_left
 ·simp only [Act.put, List.setIfInBounds_toArray, List.set_cons_zero, List.set_cons_succ, i64_w, i32_w]
  rfl
 refine pure_ (i := 11) (N := some 20) (v := ?_) (a' := ?_) #[true, false, false, false, false, true, false, false, false, false, false, true, false, false, false, false, false, false, false, false, false] rfl rfl (by kernel_rfl) (fun _ _ _ h => h) (Or.inl ⟨by rfl, ?_⟩) ?_ ?_
 rotate_left
 ·intro w'
  go_simp
  with_reducible rfl
 rotate_left
 ·simp only [Act.put, List.setIfInBounds_toArray, List.set_cons_zero, List.set_cons_succ, i64_w, i32_w]
  rfl
 refine take_ (i := 1) (N := some 10) (v := ?_) (a' := ?_) #[true, true, false, false, false, true, false, false, false, false, false, true, false, false, false, false, false, false, false, false, false] rfl rfl (by kernel_rfl) (fun _ _ _ h => h) (Or.inl ⟨by rfl, ?_⟩) hHeld ?_ ?_
 rotate_left
 ·rintro w' ⟨hb_, hk_⟩
  have hc := (blk_cell hk_ 3).trans rfl
  go_simp
  with_reducible rfl
 rotate_left
 ·simp only [Act.put, List.setIfInBounds_toArray, List.set_cons_zero, List.set_cons_succ, i64_w, i32_w]
  rfl
 refine pure_ (i := 2) (N := some 11) (v := ?_) (a' := ?_) #[true, true, true, false, false, true, false, false, false, false, false, true, false, false, false, false, false, false, false, false, false] rfl rfl (by kernel_rfl) (fun _ _ _ h => h) (Or.inl ⟨by rfl, ?_⟩) ?_ ?_
 rotate_left
 ·intro w'
  go_simp
  with_reducible rfl
 rotate_left
 ·simp only [Act.put, List.setIfInBounds_toArray, List.set_cons_zero, List.set_cons_succ, i64_w, i32_w]
  rfl
 refine take_ (i := 3) (N := some 12) (v := ?_) (a' := ?_) #[true, true, true, true, false, true, false, false, false, false, false, true, false, false, false, false, false, false, false, false, false] rfl rfl (by kernel_rfl) (fun _ _ _ h => h) (Or.inl ⟨by rfl, ?_⟩) hHeld ?_ ?_
 rotate_left
 ·rintro w' ⟨hb_, hk_⟩
  obtain ⟨h0_, h1_, h2_, h3_, h4_, h5_⟩ := six_later hb_ GC0.out
  go_simp
  with_reducible rfl
 rotate_left
 ·simp only [Act.put, List.setIfInBounds_toArray, List.set_cons_zero, List.set_cons_succ, i64_w, i32_w]
  rfl
 refine take_ (i := 6) (N := some 15) (v := ?_) (a' := ?_) #[true, true, true, true, false, true, true, false, false, false, false, true, false, false, false, false, false, false, false, false, false] rfl rfl (by kernel_rfl) (fun _ _ _ h => h) (Or.inl ⟨by rfl, ?_⟩) hHeld ?_ ?_
 rotate_left
 ·rintro w' ⟨hb_, hk_⟩
  have hc := (blk_cell hk_ 5).trans rfl
  go_simp
  with_reducible rfl
 rotate_left
 ·simp only [Act.put, List.setIfInBounds_toArray, List.set_cons_zero, List.set_cons_succ, i64_w, i32_w]
  rfl
 refine pure_ (i := 7) (N := some 16) (v := ?_) (a' := ?_) #[true, true, true, true, false, true, true, true, false, false, false, true, false, false, false, false, false, false, false, false, false] rfl rfl (by kernel_rfl) (fun _ _ _ h => h) (Or.inl ⟨by rfl, ?_⟩) ?_ ?_
 rotate_left
 ·intro w'
  go_simp
  with_reducible rfl
 rotate_left
 ·simp only [Act.put, List.setIfInBounds_toArray, List.set_cons_zero, List.set_cons_succ, i64_w, i32_w]
  rfl
 refine pure_ (i := 8) (N := some 17) (v := ?_) (a' := ?_) #[true, true, true, true, false, true, true, true, true, false, false, true, false, false, false, false, false, false, false, false, false] rfl rfl (by kernel_rfl) (fun _ _ _ h => h) (Or.inl ⟨by rfl, ?_⟩) ?_ ?_
 rotate_left
 ·intro w'
  go_simp
  with_reducible rfl
 rotate_left
 ·simp only [Act.put, List.setIfInBounds_toArray, List.set_cons_zero, List.set_cons_succ, i64_w, i32_w]
  rfl
 refine take_ (i := 9) (N := some 18) (v := ?_) (a' := ?_) #[true, true, true, true, false, true, true, true, true, true, false, true, false, false, false, false, false, false, false, false, false] rfl rfl (by kernel_rfl) (fun _ _ _ h => h) (Or.inl ⟨by rfl, ?_⟩) hHeld ?_ ?_
 rotate_left
 ·rintro w' ⟨hb_, hk_⟩
  obtain ⟨h0_, h1_, h2_, h3_, h4_, h5_⟩ := six_later hb_ GC1.out
  go_simp
  with_reducible rfl
 rotate_left
 ·simp only [Act.put, List.setIfInBounds_toArray, List.set_cons_zero, List.set_cons_succ, i64_w, i32_w]
  rfl
 refine take_ (i := 12) (N := some 21) (v := ?_) (a' := ?_) #[true, true, true, true, false, true, true, true, true, true, false, true, true, false, false, false, false, false, false, false, false] rfl rfl (by kernel_rfl) (fun _ _ _ h => h) (Or.inl ⟨by rfl, ?_⟩) hHeld ?_ ?_
 rotate_left
 ·rintro w' ⟨hb_, hk_⟩
  have hc := (blk_cell hk_ 5).trans rfl
  go_simp
  with_reducible rfl
 rotate_left
 ·simp only [Act.put, List.setIfInBounds_toArray, List.set_cons_zero, List.set_cons_succ, i64_w, i32_w]
  rfl
 refine pure_ (i := 13) (N := some 22) (v := ?_) (a' := ?_) #[true, true, true, true, false, true, true, true, true, true, false, true, true, true, false, false, false, false, false, false, false] rfl rfl (by kernel_rfl) (fun _ _ _ h => h) (Or.inl ⟨by rfl, ?_⟩) ?_ ?_
 rotate_left
 ·intro w'
  go_simp
  with_reducible rfl
 rotate_left
 ·simp only [Act.put, List.setIfInBounds_toArray, List.set_cons_zero, List.set_cons_succ, i64_w, i32_w]
  rfl
 refine pure_ (i := 14) (N := some 23) (v := ?_) (a' := ?_) #[true, true, true, true, false, true, true, true, true, true, false, true, true, true, true, false, false, false, false, false, false] rfl rfl (by kernel_rfl) (fun _ _ _ h => h) (Or.inl ⟨by rfl, ?_⟩) ?_ ?_
 rotate_left
 ·intro w'
  go_simp
  with_reducible rfl
 rotate_left
 ·simp only [Act.put, List.setIfInBounds_toArray, List.set_cons_zero, List.set_cons_succ, i64_w, i32_w]
  rfl
 refine take_ (i := 15) (N := some 24) (v := ?_) (a' := ?_) #[true, true, true, true, false, true, true, true, true, true, false, true, true, true, true, true, false, false, false, false, false] rfl rfl (by kernel_rfl) (fun _ _ _ h => h) (Or.inl ⟨by rfl, ?_⟩) hHeld ?_ ?_
 rotate_left
 ·rintro w' ⟨hb_, hk_⟩
  obtain ⟨h0_, h1_, h2_, h3_, h4_, h5_⟩ := six_later hb_ GC2.out
  go_simp
  with_reducible rfl
 rotate_left
 ·simp only [Act.put, List.setIfInBounds_toArray, List.set_cons_zero, List.set_cons_succ, i64_w, i32_w]
  rfl
 refine one_ (i := 4) (N := some 13) #[true, true, true, true, true, true, true, true, true, true, false, true, true, true, true, true, false, false, false, false, false] rfl rfl (by kernel_rfl) (by decide) (fun K hK => ?_)
 refine goes_ Try.func37 (by kernel_rfl) rfl #[.agg #[.int .i64 (rd_T33 l0_3 0).f0, .string (rd_T33 l0_3 0).f1, .int .i64 (rd_T33 l0_3 0).f2, .slice Z03 (rd_T33 l0_3 0).f3.length z03, .slice Z04 (rd_T33 l0_3 0).f4.length z04, .slice Z05 (rd_T33 l0_3 0).f5.length z05]] (by rfl) rfl rfl (by (try simp only [List.map_toArray, List.map_cons, List.map_nil, List.append_toArray, List.cons_append, List.nil_append]); first | done | rfl) ?_
 with_reducible refine ((all k).1 (rd_T33 l0_3 0).f0 (rd_T33 l0_3 0).f1 (rd_T33 l0_3 0).f2 _ _ (rd_T33 l0_3 0).f3 _ _ (rd_T33 l0_3 0).f4 _ _ (rd_T33 l0_3 0).f5 _ ⟨⟨Kd.C_below GA0.out.1.1 HB.out, GA0.out.1.2⟩, ⟨Kd.C_below GA0.out.2.1.1 HB.out, GA0.out.2.1.2⟩, ⟨Kd.C_below GA0.out.2.2.1 HB.out, GA0.out.2.2.2⟩⟩ HU0.out).mono ?_
 rintro e w100 ⟨U03, ud03, yu03, U04, ud04, yu04, U05, ud05, yu05, rfl, hc, hb⟩
 refine ⟨_, rfl, ?_⟩
 have S0_ := Aside0.mk (below_size hb)
 have LB := Aside0.mk (And.intro (below_size HB.out) (And.intro (blk_lt BK1.out) (blk_lt BK2.out)))
 have n1_ := Aside0.mk (blk_below BK1.out hb)
 have n2_ := Aside0.mk (blk_below BK2.out hb)
 have n3_ := Aside0.mk (below_step HB.out hb)
 have K0 := Aside0.mk hc.at_
 have P0 := Aside0.mk hc.part
 have R0 : Aside0 (RepE (rd_T33 l0_3 0) (.i (rd_T33 l0_3 0).f0 :: .s (rd_T33 l0_3 0).f1 :: .i (rd_T33 l0_3 0).f2 :: rows3 U03 (rd_T33 l0_3 0).f3.length ud03 yu03 U04 (rd_T33 l0_3 0).f4.length ud04 yu04 U05 (rd_T33 l0_3 0).f5.length ud05 yu05)) := ⟨RepE.mk hc.r3 hc.r4 hc.r5⟩
 clear hc BK1 BK2 HB hb 
 have BK1 := n1_
 have BK2 := n2_
 have HB := n3_
 clear n1_ n2_ n3_ 
 refine hK.out _ _ ⟨HB.out, BK1.out⟩ (fun hHeld => ?_)
 clear hK K
 refine norm_ (a' := ?_) ?_ ?_
 rotate_left
 ·show Act.put _ (some 13) _ = _
  simp only [Act.put, List.setIfInBounds_toArray, List.set_cons_zero, List.set_cons_succ, i64_w, i32_w]
  rfl
 refine one_ (i := 10) (N := some 19) #[true, true, true, true, true, true, true, true, true, true, true, true, true, true, true, true, false, false, false, false, false] rfl rfl (by kernel_rfl) (by decide) (fun K hK => ?_)
 refine goes_ Try.func37 (by kernel_rfl) rfl #[.agg #[.int .i64 (rd_T53 l0_5 0).f2.f0, .string (rd_T53 l0_5 0).f2.f1, .int .i64 (rd_T53 l0_5 0).f2.f2, .slice Z13 (rd_T53 l0_5 0).f2.f3.length z13, .slice Z14 (rd_T53 l0_5 0).f2.f4.length z14, .slice Z15 (rd_T53 l0_5 0).f2.f5.length z15]] (by rfl) rfl rfl (by (try simp only [List.map_toArray, List.map_cons, List.map_nil, List.append_toArray, List.cons_append, List.nil_append]); first | done | rfl) ?_
 with_reducible refine ((all k).1 (rd_T53 l0_5 0).f2.f0 (rd_T53 l0_5 0).f2.f1 (rd_T53 l0_5 0).f2.f2 _ _ (rd_T53 l0_5 0).f2.f3 _ _ (rd_T53 l0_5 0).f2.f4 _ _ (rd_T53 l0_5 0).f2.f5 _ ⟨⟨Kd.C_below GA1.out.1.1 HB.out, GA1.out.1.2⟩, ⟨Kd.C_below GA1.out.2.1.1 HB.out, GA1.out.2.1.2⟩, ⟨Kd.C_below GA1.out.2.2.1 HB.out, GA1.out.2.2.2⟩⟩ HU1.out).mono ?_
 rintro e w101 ⟨V13, vd13, yv13, V14, vd14, yv14, V15, vd15, yv15, rfl, hc, hb⟩
 refine ⟨_, rfl, ?_⟩
 have S1_ := Aside0.mk (below_size hb)
 have n1_ := Aside0.mk (blk_below BK1.out hb)
 have n2_ := Aside0.mk (blk_below BK2.out hb)
 have n3_ := Aside0.mk (below_step HB.out hb)
 have kK0_ := Aside0.mk (AtL_below K0.out hb)
 have K1 := Aside0.mk hc.at_
 have P1 := Aside0.mk hc.part
 have R1 : Aside0 (RepE (rd_T53 l0_5 0).f2 (.i (rd_T53 l0_5 0).f2.f0 :: .s (rd_T53 l0_5 0).f2.f1 :: .i (rd_T53 l0_5 0).f2.f2 :: rows3 V13 (rd_T53 l0_5 0).f2.f3.length vd13 yv13 V14 (rd_T53 l0_5 0).f2.f4.length vd14 yv14 V15 (rd_T53 l0_5 0).f2.f5.length vd15 yv15)) := ⟨RepE.mk hc.r3 hc.r4 hc.r5⟩
 clear hc BK1 BK2 HB hb K0
 have BK1 := n1_
 have BK2 := n2_
 have HB := n3_
 have K0 := kK0_
 clear n1_ n2_ n3_ kK0_
 refine hK.out _ _ ⟨HB.out, BK1.out⟩ (fun hHeld => ?_)
 clear hK K
 refine norm_ (a' := ?_) ?_ ?_
 rotate_left
 ·show Act.put _ (some 19) _ = _
  simp only [Act.put, List.setIfInBounds_toArray, List.set_cons_zero, List.set_cons_succ, i64_w, i32_w]
  rfl
 refine one_ (i := 16) (N := some 25) #[true, true, true, true, true, true, true, true, true, true, true, true, true, true, true, true, true, false, false, false, false] rfl rfl (by kernel_rfl) (by decide) (fun K hK => ?_)
 refine goes_ Try.func37 (by kernel_rfl) rfl #[.agg #[.int .i64 (rd_T53 l0_5 1).f2.f0, .string (rd_T53 l0_5 1).f2.f1, .int .i64 (rd_T53 l0_5 1).f2.f2, .slice Z23 (rd_T53 l0_5 1).f2.f3.length z23, .slice Z24 (rd_T53 l0_5 1).f2.f4.length z24, .slice Z25 (rd_T53 l0_5 1).f2.f5.length z25]] (by rfl) rfl rfl (by (try simp only [List.map_toArray, List.map_cons, List.map_nil, List.append_toArray, List.cons_append, List.nil_append]); first | done | rfl) ?_
 with_reducible refine ((all k).1 (rd_T53 l0_5 1).f2.f0 (rd_T53 l0_5 1).f2.f1 (rd_T53 l0_5 1).f2.f2 _ _ (rd_T53 l0_5 1).f2.f3 _ _ (rd_T53 l0_5 1).f2.f4 _ _ (rd_T53 l0_5 1).f2.f5 _ ⟨⟨Kd.C_below GA2.out.1.1 HB.out, GA2.out.1.2⟩, ⟨Kd.C_below GA2.out.2.1.1 HB.out, GA2.out.2.1.2⟩, ⟨Kd.C_below GA2.out.2.2.1 HB.out, GA2.out.2.2.2⟩⟩ HU2.out).mono ?_
 rintro e w102 ⟨X23, xd23, yx23, X24, xd24, yx24, X25, xd25, yx25, rfl, hc, hb⟩
 refine ⟨_, rfl, ?_⟩
 have S2_ := Aside0.mk (below_size hb)
 have n1_ := Aside0.mk (blk_below BK1.out hb)
 have n2_ := Aside0.mk (blk_below BK2.out hb)
 have n3_ := Aside0.mk (below_step HB.out hb)
 have kK0_ := Aside0.mk (AtL_below K0.out hb)
 have kK1_ := Aside0.mk (AtL_below K1.out hb)
 have K2 := Aside0.mk hc.at_
 have P2 := Aside0.mk hc.part
 have R2 : Aside0 (RepE (rd_T53 l0_5 1).f2 (.i (rd_T53 l0_5 1).f2.f0 :: .s (rd_T53 l0_5 1).f2.f1 :: .i (rd_T53 l0_5 1).f2.f2 :: rows3 X23 (rd_T53 l0_5 1).f2.f3.length xd23 yx23 X24 (rd_T53 l0_5 1).f2.f4.length xd24 yx24 X25 (rd_T53 l0_5 1).f2.f5.length xd25 yx25)) := ⟨RepE.mk hc.r3 hc.r4 hc.r5⟩
 clear hc BK1 BK2 HB hb K0 K1
 have BK1 := n1_
 have BK2 := n2_
 have HB := n3_
 have K0 := kK0_
 have K1 := kK1_
 clear n1_ n2_ n3_ kK0_ kK1_
 refine hK.out _ _ ⟨HB.out, BK1.out⟩ (fun hHeld => ?_)
 clear hK K
 refine norm_ (a' := ?_) ?_ ?_
 rotate_left
 ·show Act.put _ (some 25) _ = _
  simp only [Act.put, List.setIfInBounds_toArray, List.set_cons_zero, List.set_cons_succ, i64_w, i32_w]
  rfl
 refine one_ (i := 17) (N := some 26) #[true, true, true, true, true, true, true, true, true, true, true, true, true, true, true, true, true, true, false, false, false] rfl rfl (by kernel_rfl) (by decide) (fun K hK => ?_)
 refine lit_step (e := 33) (sz := 6) (n := 3) (items := (.i (rd_T33 l0_3 0).f0 :: .s (rd_T33 l0_3 0).f1 :: .i (rd_T33 l0_3 0).f2 :: rows3 U03 (rd_T33 l0_3 0).f3.length ud03 yu03 U04 (rd_T33 l0_3 0).f4.length ud04 yu04 U05 (rd_T33 l0_3 0).f5.length ud05 yu05) ++ ((.i (rd_T53 l0_5 0).f2.f0 :: .s (rd_T53 l0_5 0).f2.f1 :: .i (rd_T53 l0_5 0).f2.f2 :: rows3 V13 (rd_T53 l0_5 0).f2.f3.length vd13 yv13 V14 (rd_T53 l0_5 0).f2.f4.length vd14 yv14 V15 (rd_T53 l0_5 0).f2.f5.length vd15 yv15) ++ (.i (rd_T53 l0_5 1).f2.f0 :: .s (rd_T53 l0_5 1).f2.f1 :: .i (rd_T53 l0_5 1).f2.f2 :: rows3 X23 (rd_T53 l0_5 1).f2.f3.length xd23 yx23 X24 (rd_T53 l0_5 1).f2.f4.length xd24 yx24 X25 (rd_T53 l0_5 1).f2.f5.length xd25 yx25))) [.int .i64 (rd_T33 l0_3 0).f0, .string (rd_T33 l0_3 0).f1, .int .i64 (rd_T33 l0_3 0).f2, .slice U03 (rd_T33 l0_3 0).f3.length ud03, .slice U04 (rd_T33 l0_3 0).f4.length ud04, .slice U05 (rd_T33 l0_3 0).f5.length ud05, .int .i64 (rd_T53 l0_5 0).f2.f0, .string (rd_T53 l0_5 0).f2.f1, .int .i64 (rd_T53 l0_5 0).f2.f2, .slice V13 (rd_T53 l0_5 0).f2.f3.length vd13, .slice V14 (rd_T53 l0_5 0).f2.f4.length vd14, .slice V15 (rd_T53 l0_5 0).f2.f5.length vd15, .int .i64 (rd_T53 l0_5 1).f2.f0, .string (rd_T53 l0_5 1).f2.f1, .int .i64 (rd_T53 l0_5 1).f2.f2, .slice X23 (rd_T53 l0_5 1).f2.f3.length xd23, .slice X24 (rd_T53 l0_5 1).f2.f4.length xd24, .slice X25 (rd_T53 l0_5 1).f2.f5.length xd25] (by rfl) (by rfl) ?hr (by rfl) ?ha (by simp) (by omega) ?_
 (case hr => first | (go_simp; done) | (go_simp; rfl))
 (case ha => have q0_ := K0.out; have q1_ := K1.out; have q2_ := K2.out; rw [AtL_app, AtL_app]; simp only [AtL, It.At, true_and] at q0_ q1_ q2_ ⊢; exact ⟨q0_, q1_, q2_⟩)
 intro b26 w103 e26 hA hb
 have E26 := Aside0.mk e26
 have F26 := Aside0.mk (show b26 < w103.heap.size from (AtL_blk _ hA b26 (by simp [blksL, It.blks, Value.ownBlock])).1)
 have n1_ := Aside0.mk (blk_below BK1.out hb)
 have n2_ := Aside0.mk (blk_below BK2.out hb)
 have n3_ := Aside0.mk (below_step HB.out hb)
 have K26 := Aside0.mk hA
 clear hA e26 BK1 BK2 HB hb K0 K1 K2
 have BK1 := n1_
 have BK2 := n2_
 have HB := n3_
 clear n1_ n2_ n3_
 refine hK.out _ _ ⟨HB.out, BK1.out⟩ (fun hHeld => ?_)
 clear hK K
 refine norm_ (a' := ?_) ?_ ?_
 rotate_left
 ·show Act.put _ (some 26) _ = _
  simp only [Act.put, List.setIfInBounds_toArray, List.set_cons_zero, List.set_cons_succ, i64_w, i32_w]
  rfl
 refine pure_ (i := 18) (N := some 27) (v := ?_) (a' := ?_) #[true, true, true, true, true, true, true, true, true, true, true, true, true, true, true, true, true, true, true, false, false] rfl rfl (by kernel_rfl) (fun _ _ _ h => h) (Or.inl ⟨by rfl, ?_⟩) ?_ ?_
 rotate_left
 ·intro w'
  go_simp
  with_reducible rfl
 rotate_left
 ·simp only [Act.put, List.setIfInBounds_toArray, List.set_cons_zero, List.set_cons_succ, i64_w, i32_w]
  rfl
 refine last_ (i := 19) (N := none) #[true, true, true, true, true, true, true, true, true, true, true, true, true, true, true, true, true, true, true, true, false] rfl rfl (by kernel_rfl) (by decide) (fun K hK => ?_)
 have hs0 : w103.cell? ⟨gb2, 0, none⟩ = some (.int .i64 0) := (blk_cell BK2.out 0).trans rfl
 have hf0 := blk_frozen BK2.out 0
 have hs1 : w103.cell? ⟨gb2, 1, none⟩ = some (.string (⟨#[]⟩ : ByteArray)) := (blk_cell BK2.out 1).trans rfl
 have hf1 := blk_frozen BK2.out 1
 have hs2 : w103.cell? ⟨gb2, 2, none⟩ = some (.int .i64 0) := (blk_cell BK2.out 2).trans rfl
 have hf2 := blk_frozen BK2.out 2
 have hs3 : w103.cell? ⟨gb2, 3, none⟩ = some (.slice none 0 0) := (blk_cell BK2.out 3).trans rfl
 have hf3 := blk_frozen BK2.out 3
 have hs4 : w103.cell? ⟨gb2, 4, none⟩ = some (.slice none 0 0) := (blk_cell BK2.out 4).trans rfl
 have hf4 := blk_frozen BK2.out 4
 have hs5 : w103.cell? ⟨gb2, 5, none⟩ = some (.slice none 0 0) := (blk_cell BK2.out 5).trans rfl
 have hf5 := blk_frozen BK2.out 5
 refine skip_ (w1 := ?_) (by rfl) rfl ?_ ?_
 rotate_left
 ·go_simp
  rfl
 refine hK.out _ _ ?_
 clear hK K
 refine pure_ (i := 20) (N := some 3) (v := ?_) (a' := ?_) #[true, true, true, true, true, true, true, true, true, true, true, true, true, true, true, true, true, true, true, true, true] rfl rfl (by kernel_rfl) (fun _ _ _ h => h) (Or.inl ⟨by rfl, ?_⟩) ?_ ?_
 rotate_left
 ·intro w'
  go_simp
  with_reducible rfl
 rotate_left
 ·simp only [Act.put, List.setIfInBounds_toArray, List.set_cons_zero, List.set_cons_succ, i64_w, i32_w]
  rfl
 refine done_ (by kernel_rfl) ?_
 try go_wp2
 refine bodyPost_ret (results_ct rfl _ _ gb2 33 #[.int .i64 8, .string (⟨#[]⟩ : ByteArray), .int .i64 0, .slice (some ⟨b26, 0, none⟩) 3 3, .slice none 0 0, .slice none 0 0] (0, 0) _ rfl ((put_6_5 (put_6_4 (put_6_3 (put_6_2 (put_6_1 (put_6_0 BK2.out))))))) Try.underlying33 rfl (by kernel_rfl)) rfl ?_
 have hbl_ : blksL [.r 33 6 (.slice (some ⟨b26, 0, none⟩) 3 3) 3 ((.i (rd_T33 l0_3 0).f0 :: .s (rd_T33 l0_3 0).f1 :: .i (rd_T33 l0_3 0).f2 :: rows3 U03 (rd_T33 l0_3 0).f3.length ud03 yu03 U04 (rd_T33 l0_3 0).f4.length ud04 yu04 U05 (rd_T33 l0_3 0).f5.length ud05 yu05) ++ ((.i (rd_T53 l0_5 0).f2.f0 :: .s (rd_T53 l0_5 0).f2.f1 :: .i (rd_T53 l0_5 0).f2.f2 :: rows3 V13 (rd_T53 l0_5 0).f2.f3.length vd13 yv13 V14 (rd_T53 l0_5 0).f2.f4.length vd14 yv14 V15 (rd_T53 l0_5 0).f2.f5.length vd15 yv15) ++ (.i (rd_T53 l0_5 1).f2.f0 :: .s (rd_T53 l0_5 1).f2.f1 :: .i (rd_T53 l0_5 1).f2.f2 :: rows3 X23 (rd_T53 l0_5 1).f2.f3.length xd23 yx23 X24 (rd_T53 l0_5 1).f2.f4.length xd24 yx24 X25 (rd_T53 l0_5 1).f2.f5.length xd25 yx25)))] = b26 :: (blksL (rows3 U03 (rd_T33 l0_3 0).f3.length ud03 yu03 U04 (rd_T33 l0_3 0).f4.length ud04 yu04 U05 (rd_T33 l0_3 0).f5.length ud05 yu05) ++ (blksL (rows3 V13 (rd_T53 l0_5 0).f2.f3.length vd13 yv13 V14 (rd_T53 l0_5 0).f2.f4.length vd14 yv14 V15 (rd_T53 l0_5 0).f2.f5.length vd15 yv15) ++ blksL (rows3 X23 (rd_T53 l0_5 1).f2.f3.length xd23 yx23 X24 (rd_T53 l0_5 1).f2.f4.length xd24 yx24 X25 (rd_T53 l0_5 1).f2.f5.length xd25 yx25))) := by simp [blksL, It.blks, Value.ownBlock, blksL_app, List.append_assoc]
 have hnd_ : (blksL [.r 33 6 (.slice (some ⟨b26, 0, none⟩) 3 3) 3 ((.i (rd_T33 l0_3 0).f0 :: .s (rd_T33 l0_3 0).f1 :: .i (rd_T33 l0_3 0).f2 :: rows3 U03 (rd_T33 l0_3 0).f3.length ud03 yu03 U04 (rd_T33 l0_3 0).f4.length ud04 yu04 U05 (rd_T33 l0_3 0).f5.length ud05 yu05) ++ ((.i (rd_T53 l0_5 0).f2.f0 :: .s (rd_T53 l0_5 0).f2.f1 :: .i (rd_T53 l0_5 0).f2.f2 :: rows3 V13 (rd_T53 l0_5 0).f2.f3.length vd13 yv13 V14 (rd_T53 l0_5 0).f2.f4.length vd14 yv14 V15 (rd_T53 l0_5 0).f2.f5.length vd15 yv15) ++ (.i (rd_T53 l0_5 1).f2.f0 :: .s (rd_T53 l0_5 1).f2.f1 :: .i (rd_T53 l0_5 1).f2.f2 :: rows3 X23 (rd_T53 l0_5 1).f2.f3.length xd23 yx23 X24 (rd_T53 l0_5 1).f2.f4.length xd24 yx24 X25 (rd_T53 l0_5 1).f2.f5.length xd25 yx25)))]).Nodup := by
  rw [hbl_]
  have q0_ := S0_.out; have q1_ := S1_.out; have q2_ := S2_.out; have q3_ := E26.out; have q4_ := F26.out; have l1_ := LB.out
  refine List.nodup_cons.2 ⟨fun hx => ?_, List.nodup_append.2 ⟨P0.out.nd, List.nodup_append.2 ⟨P1.out.nd, P2.out.nd, fun x hx y hy => (by have := P1.out.lt x hx; have := P2.out.ge y hy; omega)⟩, fun x hx y hy => ?_⟩⟩
  · rcases List.mem_append.1 hx with hx | hx
    · have := P0.out.lt _ hx; omega
    · rcases List.mem_append.1 hx with hx | hx
      · have := P1.out.lt _ hx; omega
      · have := P2.out.lt _ hx; omega
  · have := P0.out.lt x hx
    rcases List.mem_append.1 hy with hy | hy
    · have := P1.out.ge y hy; omega
    · have := P2.out.ge y hy; omega
 have hge_ : ∀ b ∈ blksL [.r 33 6 (.slice (some ⟨b26, 0, none⟩) 3 3) 3 ((.i (rd_T33 l0_3 0).f0 :: .s (rd_T33 l0_3 0).f1 :: .i (rd_T33 l0_3 0).f2 :: rows3 U03 (rd_T33 l0_3 0).f3.length ud03 yu03 U04 (rd_T33 l0_3 0).f4.length ud04 yu04 U05 (rd_T33 l0_3 0).f5.length ud05 yu05) ++ ((.i (rd_T53 l0_5 0).f2.f0 :: .s (rd_T53 l0_5 0).f2.f1 :: .i (rd_T53 l0_5 0).f2.f2 :: rows3 V13 (rd_T53 l0_5 0).f2.f3.length vd13 yv13 V14 (rd_T53 l0_5 0).f2.f4.length vd14 yv14 V15 (rd_T53 l0_5 0).f2.f5.length vd15 yv15) ++ (.i (rd_T53 l0_5 1).f2.f0 :: .s (rd_T53 l0_5 1).f2.f1 :: .i (rd_T53 l0_5 1).f2.f2 :: rows3 X23 (rd_T53 l0_5 1).f2.f3.length xd23 yx23 X24 (rd_T53 l0_5 1).f2.f4.length xd24 yx24 X25 (rd_T53 l0_5 1).f2.f5.length xd25 yx25)))], w.heap.size ≤ b ∧ gb2 < b := by
  intro b hb
  rw [hbl_] at hb
  have q0_ := S0_.out; have q1_ := S1_.out; have q2_ := S2_.out; have q3_ := E26.out; have q4_ := F26.out; have l1_ := LB.out
  simp only [List.mem_append, List.mem_cons] at hb
  rcases hb with rfl | hb | hb | hb
  · omega
  · have := P0.out.ge b hb; omega
  · have := P1.out.ge b hb; omega
  · have := P2.out.ge b hb; omega
 have hat_ := (AtL_set (g := gb2) (AtL_set (g := gb2) (AtL_set (g := gb2) (AtL_set (g := gb2) (AtL_set (g := gb2) (AtL_set (g := gb2) K26.out (fun b hb => by have := hge_ b hb; omega) 0 (.int .i64 8)) (fun b hb => by have := hge_ b hb; omega) 1 (.string (⟨#[]⟩ : ByteArray))) (fun b hb => by have := hge_ b hb; omega) 2 (.int .i64 0)) (fun b hb => by have := hge_ b hb; omega) 3 (.slice (some ⟨b26, 0, none⟩) 3 3)) (fun b hb => by have := hge_ b hb; omega) 4 (.slice none 0 0)) (fun b hb => by have := hge_ b hb; omega) 5 (.slice none 0 0))
 exact ⟨some ⟨b26, 0, none⟩, 3, _, none, 0, [], none, 0, [], rfl, ⟨by simp only [AtL, and_true] at hat_ ⊢; exact ⟨hat_, z_row _ 68 9 (by simp), z_row _ 53 8 (by simp)⟩, ⟨by have h_ := hnd_; simp only [blksL, It.blks, Value.ownBlock, Option.toList, List.append_nil, List.nil_append] at h_ ⊢; exact h_, fun b hb => (hge_ b (by simp only [blksL, It.blks, Value.ownBlock, Option.toList, List.append_nil, List.nil_append] at hb ⊢; exact hb)).1, fun b hb => (AtL_blk _ hat_ b (by simp only [blksL, It.blks, Value.ownBlock, Option.toList, List.append_nil, List.nil_append] at hb ⊢; exact hb)).1⟩, (by have h_ := RepEs.cons R0.out (.cons R1.out (.cons R2.out .nil)); simpa only [List.append_nil] using h_), .nil, .nil⟩, by repeat (first | (with_reducible first | exact HB.out | apply below_alloc | apply pw_below_drewN | apply below_drew1 | refine below_set ?_ GE2.out) | exact HB.out)⟩
end Go.Proofs.Ytpndcfibjjkgcaa.MyItc

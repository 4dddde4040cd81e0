/- The law's walk: whatever is drawn, it tells true. Conditions: the code can be read; the library's variable MaxLen holds some int. -/
import Derived.Test.YtlbcaadflcjpeaaGreatDoorMyVaD
import Derived.Test.YtlbcaadflcjpeaaGreatDoorPureLin
set_option linter.unusedVariables false
set_option linter.unusedSimpArgs false
namespace Go.Proofs.YtlbcaadflcjpeaaGreatDoor.Va
open Go.RowKit Go.Proofs.YtlbcaadflcjpeaaGreatDoor.PSpo Go.Proofs.YtlbcaadflcjpeaaGreatDoorW.PrintWords Go.Proofs.YtlbcaadflcjpeaaGreatDoorW.PrintLast Go.Proofs.YtlbcaadflcjpeaaGreatDoorW.PrintMore
attribute [local go_sem] max2_int min2_int max_two min_two max_three min_three max_four min_four
attribute [local go_sem high] eqA30

theorem same_self (l : List S30) (hl : l.length ≤ 6000) : ∀ (d i : Nat), i + d = l.length → Pure.Ev (fun k => laws_sameToks.l0 k l l (i : Int)) true := by
  intro d
  induction d with
  | zero =>
    intro i hi
    refine Pure.Ev.succ ?_
    simp only [laws_sameToks.l0]
    exact Pure.Ev.neg (by omega) (Pure.Ev.const _)
  | succ d ih =>
    intro i hi
    refine Pure.Ev.succ ?_
    simp only [laws_sameToks.l0, Pure.wrap_succ (by omega : i < 9223372036854775807)]
    exact Pure.Ev.pos (by omega) (Pure.Ev.pos (by omega) (Pure.Ev.pos (by omega) (Pure.Ev.neg (by simp) (ih (i + 1) (by omega)))))

theorem below_again {u W : World} (_h : Below u.heap.size u W) : Below W.heap.size W W := Below.refl _ _
theorem below_to {b : Nat} {u W W' : World} (h : W' = W) (k : Below b u W) : Below b u W' := h ▸ k
theorem round_less {i k n : Nat} (h : i + k = n) (hi : (i : Int) < (n : Int)) : n - (i + 1) < k := by omega
theorem round_next {i k n : Nat} (h : i + k = n) (hi : (i : Int) < (n : Int)) : i + 1 + (n - (i + 1)) = n := by omega
theorem not_less {i n : Nat} (h : ¬ (i : Int) < (n : Int)) : decide (i < n) = false := decide_eq_false (by omega)
theorem is_less {i n : Nat} (h : (i : Int) < (n : Int)) : decide (i < n) = true := decide_eq_true (by omega)

/-- What the walk asks of a spot. -/
structure SpotF (nm line : ByteArray) (a : Nat) (c : Int) (i : Nat) : Prop where
  wa : wrap64 (c - 1) = (a : Int)
  wb : wrap64 ((a : Int) + (nm.size : Int)) = (a : Int) + (nm.size : Int)
  wi : wrap64 ((i : Int) + 1) = ((i + 1 : Nat) : Int)
  q1 : decide ((line.size : Int) < (a : Int) + (nm.size : Int)) = false
  q2 : decide ((0 : Int) ≤ (a : Int)) = true
  q3 : decide ((a : Int) ≤ (a : Int) + (nm.size : Int)) = true
  q4 : decide ((a : Int) + (nm.size : Int) ≤ (line.size : Int)) = true
  q5 : ((line.extract (a : Int).toNat ((a : Int) + (nm.size : Int)).toNat).toList != nm.toList) = false
  q6 : ((line.extract a (a + nm.size)).toList == nm.toList) = true
  q7 : ((0 : Int) ≤ (a : Int) + (nm.size : Int) ∧ (a : Int) + (nm.size : Int) ≤ (line.size : Int)) = True

/-- One number of rounds for all. -/
theorem spots_all (s name : ByteArray) (hs : s.size ≤ 2343750000) : ∃ (k : Nat) (L : List S30), L.length ≤ 6000 ∧ impl_Spots.f k s name = some L ∧ spec_Spots.f k s name = some L ∧ laws_sameToks.f k L L = some true ∧
    ∀ i : Nat, i < L.length → ∃ (line : ByteArray) (a : Nat), impl_LineOf.f s (rd_T30 L (i : Int)).f2 = some line ∧ SpotF name line a (rd_T30 L (i : Int)).f3 i := by
  obtain ⟨R, h1, h2, -, ⟨k1, h3⟩, ⟨k2, h4⟩, -, -⟩ := Pure.spots_both s name (by omega)
  have hf : (R.1.filter (Pure.keep name)).length ≤ 6000 := Nat.le_trans (List.length_filter_le _ _) h1
  obtain ⟨k3, h5⟩ := same_self _ hf (R.1.filter (Pure.keep name)).length 0 (by omega)
  refine ⟨max k1 (max k2 k3), R.1.filter (Pure.keep name), hf, h3 _ (by omega), h4 _ (by omega), ?_, fun i hi => ?_⟩
  · unfold laws_sameToks.f
    rw [if_pos rfl]
    exact h5 _ (by omega)
  · rw [Pure.rd30 _ i hi]
    have hm := List.getElem_mem hi
    rw [List.mem_filter] at hm
    obtain ⟨hm, hk⟩ := hm
    generalize (R.1.filter (Pure.keep name))[i] = t at hm hk
    unfold Pure.keep at hk
    simp only [Bool.and_eq_true, decide_eq_true_eq, beq_iff_eq] at hk
    obtain ⟨line, g1, g2, g3, g4, g5, g6⟩ := Pure.spot_at s name (by omega) t (h2 _ hm) (by have := hk.1; omega) hk.2
    obtain ⟨a, ha⟩ : ∃ a : Nat, t.f3 - 1 = (a : Int) := ⟨(t.f3 - 1).toNat, by omega⟩
    rw [ha] at g5 g6
    have e : ((a : Int) + (name.size : Int)).toNat = a + name.size := by omega
    have g7 := g6
    rw [Int.toNat_natCast, e] at g7
    exact ⟨line, a, g1, by rw [Pure.wrap_id (by omega) (by omega)]; exact ha, Pure.wrap_id (by omega) (by omega), Pure.wrap_succ (by omega), decide_eq_false (by omega), decide_eq_true (by omega), decide_eq_true (by omega), decide_eq_true (by omega), by rw [g6]; simp, by rw [g7]; simp, eq_true ⟨by omega, by omega⟩⟩

theorem def_all (s name : ByteArray) (hs : s.size ≤ 2343750000) : ∃ (k : Nat) (r1 : Int) (r2 : ByteArray) (r3 r4 : Int) (r5 : Bool), impl_DefSpot.f k s name = some (r1, r2, r3, r4, r5) ∧ spec_DefSpot.f k s name = some (r1, r2, r3, r4, r5) := by
  obtain ⟨R, -, -, -, -, -, ⟨k1, h3⟩, ⟨k2, h4⟩⟩ := Pure.spots_both s name (by omega)
  exact ⟨max k1 k2, _, _, _, _, _, h3 _ (by omega), h4 _ (by omega)⟩

theorem line_all (s : ByteArray) (n : Int) (hs : s.size ≤ 2343750000) : ∃ (k : Nat) (r1 r2 : ByteArray), spec_LineOf.f k s n = some r1 ∧ impl_LineOf.f s n = some r2 ∧ r2.toList = r1.toList := by
  obtain ⟨r1, r2, ⟨k, h1⟩, h2, h3⟩ := Pure.line_both s n (by omega)
  exact ⟨k, r1, r2, h1 k (Nat.le_refl _), h2, h3⟩

theorem turned_all (l : List S30) (old new : ByteArray) (h1 : l.length ≤ 6000) (h2 : ∀ t ∈ l, t.f1.size ≤ 1500 ∧ (t.f0 ≠ 6 → 1 ≤ t.f1.size)) (hn : 1 ≤ new.size) (hn8 : new.size ≤ 8) : ∃ (k : Nat) (r1 r2 : ByteArray), spec_Turned.f k l old new = some r1 ∧ impl_Turned.f k l old new = some r2 ∧ r2.toList = r1.toList := by
  obtain ⟨r1, r2, ⟨k1, h3⟩, ⟨k2, h4⟩, h5⟩ := Pure.turned_both l old new ⟨h1, h2⟩ hn hn8
  exact ⟨max k1 k2, r1, r2, h3 _ (by omega), h4 _ (by omega), h5⟩

set_option maxHeartbeats 8000000 in
set_option maxRecDepth 100000 in
theorem law_calls (mx : Int) (A0 : Option Addr) (c0 : Nat) (l0 : List Int) (w : World) (hr0 : Kd.C (Kd.int .u8) w A0 l0.length l0) (hc0 : l0.length ≤ c0) (hmx : w.cell? ⟨0, 0, none⟩ = some (.int .i64 mx)) :
    Calls Tryz.prog 3 #[.slice A0 l0.length c0] w fun e w' => e = .returned (.bool true) ∧ Below w.heap.size w w' := by
  have HB := Aside0.mk (Below.refl w.heap.size w)
  by_cases hl : (l0.length : Int) > 1048576
  · go_enter Tryz.func3, Tryz.ntmps3
    go_wp2_with (first | ((with_reducible refine gate_callee (f := 4) rfl ?_); (try (refine gate_guard (by rfl) ?_; dsimp only)); refine goesL_ (some 21) rfl rfl Tryz.func4 (by kernel_rfl) rfl #[.slice A0 l0.length c0] rfl (by (try simp only [List.map_toArray, List.map_cons, List.map_nil]); first | done | rfl | (simp only [List.length_drop, List.length_take]; rfl)) ?_; (with_reducible refine (laws_big.calls A0 c0 l0 true _ (Kd.C_below hr0 HB.out) hc0 (by unfold laws_big.f; rw [decide_eq_true hl])).mono ?_); rintro e wn ⟨rfl, hd_⟩; refine ⟨_, rfl, ?_⟩; have hb := hd_.below; clear hd_; have n0_ := Aside0.mk (below_step HB.out hb); clear HB; have HB := n0_; clear n0_; clear hb))
    go_ret
    exact ⟨rfl, HB.out⟩
  have hl' : l0.length ≤ 1048576 := by omega
  clear hl
  go_enter Tryz.func3, Tryz.ntmps3
  refine wp_seq_k fun K0 h0 => ?_
  have H0 := Aside0.mk h0
  clear h0
  go_wp2
  refine H0.out _ _ ?_
  clear H0
  refine wp_seq_k fun K1 h1 => ?_
  have H1 := Aside0.mk h1
  clear h1
  go_wp2_with (first | ((with_reducible refine gate_callee (f := 4) rfl ?_); (try (refine gate_guard (by rfl) ?_; dsimp only)); refine goesL_ (some 21) rfl rfl Tryz.func4 (by kernel_rfl) rfl #[.slice A0 l0.length c0] rfl (by (try simp only [List.map_toArray, List.map_cons, List.map_nil]); first | done | rfl | (simp only [List.length_drop, List.length_take]; rfl)) ?_; (with_reducible refine (laws_big.calls A0 c0 l0 false _ (Kd.C_below hr0 HB.out) hc0 (by unfold laws_big.f; rw [decide_eq_false (by omega)])).mono ?_); rintro e wn ⟨rfl, hd_⟩; refine ⟨_, rfl, ?_⟩; have hb := hd_.below; clear hd_; have n0_ := Aside0.mk (below_step HB.out hb); clear HB; have HB := n0_; clear n0_; clear hb))
  refine H1.out _ _ ?_
  clear H1
  refine wp_seq_k fun K2 h2 => ?_
  have H2 := Aside0.mk h2
  clear h2
  go_wp2_with (first | ((with_reducible refine gate_callee (f := 5) rfl ?_); (try (refine gate_guard (by rfl) ?_; dsimp only)); refine goesL_ (some 24) rfl rfl Tryz.func5 (by kernel_rfl) rfl #[.slice A0 l0.length c0] rfl (by (try simp only [List.map_toArray, List.map_cons, List.map_nil]); first | done | rfl | (simp only [List.length_drop, List.length_take]; rfl)) ?_; (with_reducible refine (drawSpots_calls A0 c0 l0 _ (Kd.C_below hr0 HB.out) hc0 hl').mono ?_); rintro e wn ⟨s, nm, rfl, hs, hnm, hb⟩; refine ⟨_, rfl, ?_⟩; have n0_ := Aside0.mk (below_step HB.out hb); clear HB; have HB := n0_; clear n0_; clear hb))
  refine H2.out _ _ ?_
  clear H2
  obtain ⟨k, L, hL, f1, f2, f3, hsp⟩ := spots_all s nm hs
  refine wp_seq_k fun K3 h3 => ?_
  have H3 := Aside0.mk h3
  clear h3
  go_wp2_with (first | ((with_reducible refine gate_callee (f := 6) rfl ?_); (try (refine gate_guard (by rfl) ?_; dsimp only)); refine goesL_ (some 29) rfl rfl Tryz.func6 (by kernel_rfl) rfl #[.string s, .string nm] rfl (by (try simp only [List.map_toArray, List.map_cons, List.map_nil]); first | done | rfl | (simp only [List.length_drop, List.length_take]; rfl)) ?_; (with_reducible refine (impl_Spots.calls k s nm L _ f1).mono ?_); rintro e wn ⟨v5, rfl, hO, hb⟩; refine ⟨_, rfl, ?_⟩; have HBo := HB.out; have n0_ := Aside0.mk (below_step HB.out hb); clear HB; have HB := n0_; clear n0_; clear hb; obtain ⟨A5, c5, rfl, hc5, -⟩ := Kd.R_reads hO; have HO := Aside0.mk (Kd.R_lower hO (below_size HBo)); clear hO))
  clear HBo
  refine H3.out _ _ ?_
  clear H3
  refine wp_seq_k fun K4 h4 => ?_
  have H4 := Aside0.mk h4
  clear h4
  go_wp2
  go_loopg [6] L.length (fun kq v6 w' => ∃ (i : Nat), v6 = .int .i64 (i : Int) ∧ Aside0 (i + kq = L.length) ∧ Aside0 (Kd.R k30 30 w' w.heap.size (fun _ => True) (.slice A5 L.length c5) L) ∧ Aside0 (Below w.heap.size w w'))
  case atStart => exact ⟨0, rfl, ⟨by omega⟩, HO, HB⟩
  case round =>
    clear HO HB
    obtain ⟨i, rfl, HK, HO, HB⟩ := hrel
    by_cases c : (i : Int) < (L.length : Int)
    · have c4 : decide ((i : Int) < (L.length : Int)) = true := decide_eq_true c
      have c5_ := is_less c
      have p : 0 ≤ (i : Int) := Int.natCast_nonneg i
      obtain ⟨line, at_, g1, hwa, hwb, hwi, q1, q2, q3, q4, q5, q6, q7⟩ := hsp i (Int.ofNat_lt.1 c)
      obtain ⟨ad, e_, hx0, hx1, hx2, hx3⟩ := at_T30 (Kd.R_reads' HO.out).2.2 (i : Int) p c
      cases e_
      simp only [Int.toNat_natCast] at hx0 hx1 hx2 hx3
      have G1 := Aside0.mk g1
      have p1 : 0 ≤ (i : Int) := p
      have p2 : (i : Int) < (L.length : Int) := c
      clear g1 c
      replace p1 := eq_true p1
      replace p2 := eq_true p2
      go_wp2_with (first | ((with_reducible refine gate_callee (f := 7) rfl ?_); (try (refine gate_guard (by rfl) ?_; dsimp only)); refine goesL_ (some 42) rfl rfl Tryz.func7 (by kernel_rfl) rfl #[.string s, .int .i64 (rd_T30 L (i : Int)).f2] rfl (by (try simp only [List.map_toArray, List.map_cons, List.map_nil]); first | done | rfl | (simp only [List.length_drop, List.length_take]; rfl)) ?_; (with_reducible refine (impl_LineOf.calls s _ line _ mx (pw_cell_below HB.out hmx) G1.out).mono ?_); rintro e wn ⟨rfl, hb⟩; refine ⟨_, rfl, ?_⟩; have n0_ := Aside0.mk (below_step HB.out hb); have k0_ := Aside0.mk (Kd.R_below HO.out hb); clear HB; clear HO; have HO := k0_; clear k0_; have HB := n0_; clear n0_; clear hb; clear hx0 hx1 hx2 hx3; obtain ⟨ad2_, e2_, hx0, hx1, hx2, hx3⟩ := at_T30 (Kd.R_reads' HO.out).2.2 (i : Int) (Int.natCast_nonneg i) (of_eq_true p2); cases e2_; simp only [Int.toNat_natCast] at hx0 hx1 hx2 hx3))
      go_roundg (L.length - (i + 1))
      case measure => exact round_less HK.out (of_eq_true p2)
      case rel => exact ⟨i + 1, by rw [hwi], ⟨round_next HK.out (of_eq_true p2)⟩, HO, HB⟩
    · have c4 : decide ((i : Int) < (L.length : Int)) = false := decide_eq_false c
      have c5_ := not_less c
      clear c
      go_wp2
      refine H4.out _ _ ?_
      clear H4
      have HR0 := Aside0.mk (Kd.C_below hr0 HB.out)
      have HM := Aside0.mk (pw_cell_below HB.out hmx)
      have HW := Aside0.mk HB.out
      have HC5 := Aside0.mk (Kd.R_reads' HO.out).2.2
      have qb_ := Aside0.mk (below_again HB.out)
      clear HB HO
      have HB := qb_
      clear qb_ HK c4 c5_ hsp f1
      refine wp_seq_k fun K5 h5 => ?_
      have H5 := Aside0.mk h5
      clear h5
      go_wp2_with (first | ((with_reducible refine gate_callee (f := 8) rfl ?_); (try (refine gate_guard (by rfl) ?_; dsimp only)); refine goesL_ (some 69) rfl rfl Tryz.func8 (by kernel_rfl) rfl #[.slice A0 l0.length c0] rfl (by (try simp only [List.map_toArray, List.map_cons, List.map_nil]); first | done | rfl | (simp only [List.length_drop, List.length_take]; rfl)) ?_; (with_reducible refine (drawDefSpot_calls A0 c0 l0 _ (Kd.C_below HR0.out HB.out) hc0 hl').mono ?_); rintro e wn ⟨a, b, rfl, ha, hb1, hb⟩; refine ⟨_, rfl, ?_⟩; have n0_ := Aside0.mk (below_step HB.out hb); clear HB; have HB := n0_; clear n0_; clear hb))
      refine H5.out _ _ ?_
      clear H5
      have q0_ := Aside0.mk (Kd.C_below HR0.out HB.out)
      have q1_ := Aside0.mk (pw_cell_below HB.out HM.out)
      have q2_ := Aside0.mk (below_step HW.out HB.out)
      have q3_ := Aside0.mk (Kd.C_below HC5.out HB.out)
      have qb_ := Aside0.mk (below_again HB.out)
      clear HB HR0 HM HW HC5
      have HR0 := q0_
      have HM := q1_
      have HW := q2_
      have HC5 := q3_
      have HB := qb_
      clear qb_ q0_ q1_ q2_ q3_
      obtain ⟨k2, d1, d2, d3, d4, d5, e1, e2⟩ := def_all a b ha
      have E1 := Aside0.mk e1
      have E2 := Aside0.mk e2
      clear e1 e2
      refine wp_seq_k fun K6 h6 => ?_
      have H6 := Aside0.mk h6
      clear h6
      go_wp2_with (first | ((with_reducible refine gate_callee (f := 9) rfl ?_); (try (refine gate_guard (by rfl) ?_; dsimp only)); refine goesL_ (some 75) rfl rfl Tryz.func9 (by kernel_rfl) rfl #[.string a, .string b] rfl (by (try simp only [List.map_toArray, List.map_cons, List.map_nil]); first | done | rfl | (simp only [List.length_drop, List.length_take]; rfl)) ?_; (with_reducible refine (impl_DefSpot.calls k2 a b d1 d2 d3 d4 d5 _ E1.out).mono ?_); rintro e wn ⟨rfl, hb⟩; refine ⟨_, rfl, ?_⟩; have n0_ := Aside0.mk (below_step HB.out hb); clear HB; have HB := n0_; clear n0_; clear hb) | ((with_reducible refine gate_dst (N := 11) rfl ?_); refine box_event ?hg (N := 11) ?hd (cs := #[.int .i64 0, .string (⟨#[]⟩ : ByteArray), .int .i64 0, .int .i64 0]) (t := 30) ?hr ?_; (case hd => rfl); (case hg => rfl); (case hr => first | (go_simp; done) | (go_simp; rfl)); intro g11 hg wb hbox hb; have n0_ := Aside0.mk (below_step HB.out hb); have n1_ := Aside0.mk hbox; have n2_ := Aside0.mk (box_ge HB.out hg); clear HB; have HB := n0_; have B11 := n1_; have G11 := n2_; clear n0_ n1_ n2_; clear hb hbox hg; obtain ⟨q0_, q1_, q2_, q3_, r0_, r1_, r2_, r3_⟩ := cells4 B11.out) | ((with_reducible refine gate_store (t := 30) (p := 11) rfl ?_); refine store_event (t := 30) (p := 11) (v := ?vo_11) (w1 := (((wb.setCell ⟨g11, 0, none⟩ (.int .i64 d1)).setCell ⟨g11, 1, none⟩ (.string d2)).setCell ⟨g11, 2, none⟩ (.int .i64 d3)).setCell ⟨g11, 3, none⟩ (.int .i64 d4)) ?hg ?ho ?hn ?hr ?_; (case ho => rfl); (case hg => rfl); (case hn => rfl); (case hr => first | (go_simp; done) | (go_simp; rfl)); intro wc hw; have n1_ : Aside0 (wc.heap[g11]? = some (.cells #[.int .i64 d1, .string d2, .int .i64 d3, .int .i64 d4] 30 (0, 0))) := ⟨(by rw [hw]; exact (put_4_3 (put_4_2 (put_4_1 (put_4_0 B11.out)))))⟩; have n2_ := Aside0.mk (below_to hw (below_set (below_set (below_set (below_set HB.out G11.out) G11.out) G11.out) G11.out)); clear hw; clear B11 HB; have B11 := n1_; have HB := n2_; clear n1_ n2_; clear q0_ q1_ q2_ q3_ r0_ r1_ r2_ r3_))
      refine H6.out _ _ ?_
      clear H6
      have q0_ := Aside0.mk (Kd.C_below HR0.out HB.out)
      have q1_ := Aside0.mk (pw_cell_below HB.out HM.out)
      have q2_ := Aside0.mk (below_step HW.out HB.out)
      have q3_ := Aside0.mk (Kd.C_below HC5.out HB.out)
      have qb_ := Aside0.mk (below_again HB.out)
      clear HB HR0 HM HW HC5
      have HR0 := q0_
      have HM := q1_
      have HW := q2_
      have HC5 := q3_
      have HB := qb_
      clear qb_ q0_ q1_ q2_ q3_
      refine wp_seq_k fun K7 h7 => ?_
      have H7 := Aside0.mk h7
      clear h7
      go_wp2_with (first | ((with_reducible refine gate_callee (f := 10) rfl ?_); (try (refine gate_guard (by rfl) ?_; dsimp only)); refine goesL_ (some 81) rfl rfl Tryz.func10 (by kernel_rfl) rfl #[.string a, .string b] rfl (by (try simp only [List.map_toArray, List.map_cons, List.map_nil]); first | done | rfl | (simp only [List.length_drop, List.length_take]; rfl)) ?_; (with_reducible refine (spec_DefSpot.calls k2 a b d1 d2 d3 d4 d5 _ E2.out).mono ?_); rintro e wn ⟨rfl, hb⟩; refine ⟨_, rfl, ?_⟩; have n0_ := Aside0.mk (below_step HB.out hb); clear HB; have HB := n0_; clear n0_; clear hb) | ((with_reducible refine gate_dst (N := 13) rfl ?_); refine box_event ?hg (N := 13) ?hd (cs := #[.int .i64 0, .string (⟨#[]⟩ : ByteArray), .int .i64 0, .int .i64 0]) (t := 30) ?hr ?_; (case hd => rfl); (case hg => rfl); (case hr => first | (go_simp; done) | (go_simp; rfl)); intro g13 hg wb hbox hb; have n0_ := Aside0.mk (below_step HB.out hb); have n1_ := Aside0.mk hbox; have n2_ := Aside0.mk (box_ge HB.out hg); clear HB; have HB := n0_; have B13 := n1_; have G13 := n2_; clear n0_ n1_ n2_; clear hb hbox hg; obtain ⟨q0_, q1_, q2_, q3_, r0_, r1_, r2_, r3_⟩ := cells4 B13.out) | ((with_reducible refine gate_store (t := 30) (p := 13) rfl ?_); refine store_event (t := 30) (p := 13) (v := ?vo_13) (w1 := (((wb.setCell ⟨g13, 0, none⟩ (.int .i64 d1)).setCell ⟨g13, 1, none⟩ (.string d2)).setCell ⟨g13, 2, none⟩ (.int .i64 d3)).setCell ⟨g13, 3, none⟩ (.int .i64 d4)) ?hg ?ho ?hn ?hr ?_; (case ho => rfl); (case hg => rfl); (case hn => rfl); (case hr => first | (go_simp; done) | (go_simp; rfl)); intro wc hw; have n1_ : Aside0 (wc.heap[g13]? = some (.cells #[.int .i64 d1, .string d2, .int .i64 d3, .int .i64 d4] 30 (0, 0))) := ⟨(by rw [hw]; exact (put_4_3 (put_4_2 (put_4_1 (put_4_0 B13.out)))))⟩; have n2_ := Aside0.mk (below_to hw (below_set (below_set (below_set (below_set HB.out G13.out) G13.out) G13.out) G13.out)); clear hw; clear B13 HB; have B13 := n1_; have HB := n2_; clear n1_ n2_; clear q0_ q1_ q2_ q3_ r0_ r1_ r2_ r3_))
      refine H7.out _ _ ?_
      clear H7
      have q0_ := Aside0.mk (Kd.C_below HR0.out HB.out)
      have q1_ := Aside0.mk (pw_cell_below HB.out HM.out)
      have q2_ := Aside0.mk (below_step HW.out HB.out)
      have q3_ := Aside0.mk (Kd.C_below HC5.out HB.out)
      have q4_ := Aside0.mk (blk_below B11.out HB.out)
      have qb_ := Aside0.mk (below_again HB.out)
      clear HB HR0 HM HW HC5 B11
      have HR0 := q0_
      have HM := q1_
      have HW := q2_
      have HC5 := q3_
      have B11 := q4_
      have HB := qb_
      clear qb_ q0_ q1_ q2_ q3_ q4_
      refine wp_seq_k fun K8 h8 => ?_
      have H8 := Aside0.mk h8
      clear h8
      go_wp2_with (first | ((with_reducible refine gate_callee (f := 11) rfl ?_); (try (refine gate_guard (by rfl) ?_; dsimp only)); refine goesL_ (some 86) rfl rfl Tryz.func11 (by kernel_rfl) rfl #[.slice A0 l0.length c0] rfl (by (try simp only [List.map_toArray, List.map_cons, List.map_nil]); first | done | rfl | (simp only [List.length_drop, List.length_take]; rfl)) ?_; (with_reducible refine (drawLineOf_calls A0 c0 l0 _ (Kd.C_below HR0.out HB.out) hc0 hl').mono ?_); rintro e wn ⟨cl, n, rfl, hcl, hn_, hb⟩; refine ⟨_, rfl, ?_⟩; have n0_ := Aside0.mk (below_step HB.out hb); clear HB; have HB := n0_; clear n0_; clear hb))
      refine H8.out _ _ ?_
      clear H8
      have q0_ := Aside0.mk (Kd.C_below HR0.out HB.out)
      have q1_ := Aside0.mk (pw_cell_below HB.out HM.out)
      have q2_ := Aside0.mk (below_step HW.out HB.out)
      have q3_ := Aside0.mk (Kd.C_below HC5.out HB.out)
      have q4_ := Aside0.mk (blk_below B11.out HB.out)
      have q5_ := Aside0.mk (blk_below B13.out HB.out)
      have qb_ := Aside0.mk (below_again HB.out)
      clear HB HR0 HM HW HC5 B11 B13
      have HR0 := q0_
      have HM := q1_
      have HW := q2_
      have HC5 := q3_
      have B11 := q4_
      have B13 := q5_
      have HB := qb_
      clear qb_ q0_ q1_ q2_ q3_ q4_ q5_
      obtain ⟨k3, t1, t2, e3, e4, e5⟩ := line_all cl n hcl
      have E3 := Aside0.mk e3
      have E4 := Aside0.mk e4
      have e5' : (t2.toList == t1.toList) = true := beq_iff_eq.mpr e5
      clear e3 e4 e5 hn_
      refine wp_seq_k fun K9 h9 => ?_
      have H9 := Aside0.mk h9
      clear h9
      go_wp2_with (first | ((with_reducible refine gate_callee (f := 12) rfl ?_); (try (refine gate_guard (by rfl) ?_; dsimp only)); refine goesL_ (some 91) rfl rfl Tryz.func12 (by kernel_rfl) rfl #[.slice A0 l0.length c0] rfl (by (try simp only [List.map_toArray, List.map_cons, List.map_nil]); first | done | rfl | (simp only [List.length_drop, List.length_take]; rfl)) ?_; (with_reducible refine (drawTurned_calls A0 c0 l0 _ (Kd.C_below HR0.out HB.out) hc0 hl').mono ?_); rintro e wn ⟨A17, c17, l17, od, nw, rfl, h171, h172, h173, hT, hod, hnw, hnw1, hb⟩; refine ⟨_, rfl, ?_⟩; have n0_ := Aside0.mk (below_step HB.out hb); clear HB; have HB := n0_; clear n0_; clear hb; have HT := Aside0.mk hT; clear hT))
      refine H9.out _ _ ?_
      clear H9
      have q0_ := Aside0.mk (Kd.C_below HR0.out HB.out)
      have q1_ := Aside0.mk (pw_cell_below HB.out HM.out)
      have q2_ := Aside0.mk (below_step HW.out HB.out)
      have q3_ := Aside0.mk (Kd.C_below HC5.out HB.out)
      have q4_ := Aside0.mk (blk_below B11.out HB.out)
      have q5_ := Aside0.mk (blk_below B13.out HB.out)
      have qb_ := Aside0.mk (below_again HB.out)
      clear HB HR0 HM HW HC5 B11 B13
      have HR0 := q0_
      have HM := q1_
      have HW := q2_
      have HC5 := q3_
      have B11 := q4_
      have B13 := q5_
      have HB := qb_
      clear qb_ q0_ q1_ q2_ q3_ q4_ q5_
      obtain ⟨k4, x1, x2, e6, e7, e8⟩ := turned_all l17 od nw h172 h173 hnw1 hnw
      have E6 := Aside0.mk e6
      have E7 := Aside0.mk e7
      have e8' : (x2.toList == x1.toList) = true := beq_iff_eq.mpr e8
      clear e6 e7 e8 h172 h173
      go_wp2_with (first | ((with_reducible refine gate_callee (f := 14) rfl ?_); (try (refine gate_guard (by rfl) ?_; dsimp only)); refine goesL_ (some 98) rfl rfl Tryz.func14 (by kernel_rfl) rfl #[.string s, .string nm] rfl (by (try simp only [List.map_toArray, List.map_cons, List.map_nil]); first | done | rfl | (simp only [List.length_drop, List.length_take]; rfl)) ?_; (with_reducible refine (spec_Spots.calls k s nm L _ f2).mono ?_); rintro e wn ⟨v98, rfl, hO, hb⟩; refine ⟨_, rfl, ?_⟩; have n0_ := Aside0.mk (below_step HB.out hb); clear HB; have HB := n0_; clear n0_; clear hb; obtain ⟨A98, c98, rfl, hc98, hC98⟩ := Kd.R_reads hO; have HC98 := Aside0.mk hC98; clear hO hC98) | ((with_reducible refine gate_callee (f := 13) rfl ?_); (try (refine gate_guard (by rfl) ?_; dsimp only)); refine goesL_ (some 99) rfl rfl Tryz.func13 (by kernel_rfl) rfl #[.slice A5 L.length c5, .slice A98 L.length c98] rfl (by (try simp only [List.map_toArray, List.map_cons, List.map_nil]); first | done | rfl | (simp only [List.length_drop, List.length_take]; rfl)) ?_; (with_reducible refine (laws_sameToks.calls k A5 c5 L A98 c98 L true _ (Kd.C_below HC5.out HB.out) hc5 HC98.out hc98 f3).mono ?_); rintro e wn ⟨rfl, hd_⟩; refine ⟨_, rfl, ?_⟩; have hb := hd_.below; clear hd_; have n0_ := Aside0.mk (below_step HB.out hb); clear HB; have HB := n0_; clear n0_; clear hb; obtain ⟨q0_, q1_, q2_, q3_, r0_, r1_, r2_, r3_⟩ := cells4 (blk_below B11.out HB.out); obtain ⟨s0_, s1_, s2_, s3_, t0_, t1_, t2_, t3_⟩ := cells4 (blk_below B13.out HB.out)) | ((with_reducible refine gate_callee (f := 7) rfl ?_); (try (refine gate_guard (by rfl) ?_; dsimp only)); refine goesL_ (some 113) rfl rfl Tryz.func7 (by kernel_rfl) rfl #[.string cl, .int .i64 n] rfl (by (try simp only [List.map_toArray, List.map_cons, List.map_nil]); first | done | rfl | (simp only [List.length_drop, List.length_take]; rfl)) ?_; (with_reducible refine (impl_LineOf.calls cl n t2 _ mx (pw_cell_below HB.out HM.out) E4.out).mono ?_); rintro e wn ⟨rfl, hb⟩; refine ⟨_, rfl, ?_⟩; have n0_ := Aside0.mk (below_step HB.out hb); clear HB; have HB := n0_; clear n0_; clear hb) | ((with_reducible refine gate_callee (f := 15) rfl ?_); (try (refine gate_guard (by rfl) ?_; dsimp only)); refine goesL_ (some 116) rfl rfl Tryz.func15 (by kernel_rfl) rfl #[.string cl, .int .i64 n] rfl (by (try simp only [List.map_toArray, List.map_cons, List.map_nil]); first | done | rfl | (simp only [List.length_drop, List.length_take]; rfl)) ?_; (with_reducible refine (spec_LineOf.calls k3 cl n t1 _ E3.out).mono ?_); rintro e wn ⟨rfl, hd_⟩; refine ⟨_, rfl, ?_⟩; have hb := hd_.below; clear hd_; have n0_ := Aside0.mk (below_step HB.out hb); clear HB; have HB := n0_; clear n0_; clear hb) | ((with_reducible refine gate_callee (f := 16) rfl ?_); (try (refine gate_guard (by rfl) ?_; dsimp only)); refine goesL_ (some 123) rfl rfl Tryz.func16 (by kernel_rfl) rfl #[.slice A17 l17.length c17, .string od, .string nw] rfl (by (try simp only [List.map_toArray, List.map_cons, List.map_nil]); first | done | rfl | (simp only [List.length_drop, List.length_take]; rfl)) ?_; (with_reducible refine (impl_Turned.calls k4 A17 c17 l17 od nw x2 _ (Kd.C_below HT.out HB.out) h171 E7.out).mono ?_); rintro e wn ⟨rfl, hb⟩; refine ⟨_, rfl, ?_⟩; have n0_ := Aside0.mk (below_step HB.out hb); clear HB; have HB := n0_; clear n0_; clear hb) | ((with_reducible refine gate_callee (f := 17) rfl ?_); (try (refine gate_guard (by rfl) ?_; dsimp only)); refine goesL_ (some 127) rfl rfl Tryz.func17 (by kernel_rfl) rfl #[.slice A17 l17.length c17, .string od, .string nw] rfl (by (try simp only [List.map_toArray, List.map_cons, List.map_nil]); first | done | rfl | (simp only [List.length_drop, List.length_take]; rfl)) ?_; (with_reducible refine (spec_Turned.calls k4 A17 c17 l17 od nw x1 _ (Kd.C_below HT.out HB.out) h171 E6.out).mono ?_); rintro e wn ⟨rfl, hb⟩; refine ⟨_, rfl, ?_⟩; have n0_ := Aside0.mk (below_step HB.out hb); clear HB; have HB := n0_; clear n0_; clear hb))
      go_ret
      exact ⟨rfl, below_step HW.out HB.out⟩
end Go.Proofs.YtlbcaadflcjpeaaGreatDoor.Va

/- The walks of the functions that look whether the marks are there: where they are, the count comes back. No condition. -/
import Derived.Test.YtpndcfibjjkgcaaMyItn
namespace Go.Proofs.Ytpndcfibjjkgcaa.MyItc
open Go Go.RowKit Go.Proofs.YtpndcfibjjkgcaaW.PrintWords Go.Proofs.YtpndcfibjjkgcaaW.PrintLast Go.Proofs.YtpndcfibjjkgcaaW.PrintMore Go.Proofs.Ytpndcfibjjkgcaa.PIfg
attribute [local go_sem] max2_int min2_int max_two min_two max_three min_three max_four min_four
set_option linter.unusedVariables false
set_option linter.unusedSimpArgs false
set_option maxHeartbeats 8000000 in
set_option maxRecDepth 100000 in
theorem stepHd59 (m : Nat) : HdC 59 9 1 RepSs m := by
 intro v n l L k w hr hn hmax hrep hsz hk0 hk
 obtain ⟨A, c, rfl, hcap, hlen, hg⟩ := hr.slice_
 have hu33 := Try.underlying33
 have hu68 := Try.underlying68
 have hu53 := Try.underlying53
 have HM := Aside0.mk hsz
 have HG := Aside0.mk hg
 have HN := Aside0.mk hmax
 have R0 := Aside0.mk hr
 have I0 := Aside0.mk (And.intro hn (And.intro hrep (And.intro hk0 hk)))
 clear hr hn hmax hrep hsz hk0 hk hcap hlen hg
 go_enter Try.func59, Try.ntmps59
 go_wp2
 go_loopg [1, 5] (n + 1) (fun kq v1 v5 w' => ∃ (kk x5 : Int) (i : Nat) (pre post : List It) (l' : List ByteArray), v1 = .int .i64 kk ∧ v5 = .int .i64 x5 ∧ Aside0 (kq ≤ n + 1) ∧ Aside0 (l'.length < kq ∧ x5 = (i : Int) ∧ i + l'.length = n ∧ pre.length = i * 1 ∧ RepSs l' post ∧ (mkL mt L k).1 = pre ++ (mkL mt post kk).1 ∧ (mkL mt L k).2 = (mkL mt post kk).2 ∧ 0 ≤ kk ∧ kk + szL post ≤ 9223372036854775807 ∧ szL post ≤ szL L) ∧ Aside0 (Below w.heap.size w w'))
 case atStart => exact ⟨k, 0, 0, [], L, l, rfl, rfl, ⟨Nat.le_refl _⟩, ⟨by have := I0.out.1; omega, rfl, by have := I0.out.1; omega, by simp, I0.out.2.1, rfl, rfl, I0.out.2.2.1, I0.out.2.2.2, Nat.le_refl _⟩, ⟨Below.refl _ _⟩⟩
 case round =>
  obtain ⟨kk, x5, i, pre, post, l', rfl, rfl, HQ0, HI, HB0⟩ := hrel
  obtain ⟨h0_, h1, h2, h4, h5, h8, h8', h9, h10, h11⟩ := HI.out
  have hq := HQ0.out
  have hb0 := HB0.out
  clear HI HQ0 I0 HB0
  cases gk with
  | zero => exact absurd h0_ (Nat.not_lt_zero _)
  | succ k1 =>
  cases l' with
  | nil =>
   have c6b0 : decide (x5 < (n : Int)) = false := decide_eq_false (by rw [h1]; simp only [List.length_nil] at h2; omega)
   obtain rfl : post = [] := by simpa [RepSs] using h5
   simp only [mkL] at h8'
   have HF := Aside0.mk h8'
   have HB := Aside0.mk hb0
   clear h0_ h1 h2 h4 h5 h8 h8' h9 h10 h11 hq hb0
   go_wp2
   go_ret
   exact ⟨by first | rfl | (rw [HF.out]; done) | (simp [HF.out]; done), HB.out⟩
  | cons x l2 =>
   obtain ⟨post2, rfl⟩ : ∃ p, post = (.s x) :: p := ⟨l2.map It.s, by simpa [RepSs] using h5⟩
   have h5' : RepSs l2 post2 := by simpa [RepSs] using h5
   have hc6 : x5 < (n : Int) := by rw [h1]; simp only [List.length_cons] at h2; omega
   have hc7 : 0 ≤ x5 := by omega
   have c6b0 : decide (x5 < (n : Int)) = true := decide_eq_true hc6
   have c7b0 : decide (0 ≤ x5) = true := decide_eq_true hc7
   obtain ⟨g, rfl⟩ := HG.out (by omega)
   have hp_ : pre.length = x5.toNat * 1 := by rw [h1, Int.toNat_natCast]; exact h4
   have hrow : RowSt w 9 1 (.slice (some ⟨g, 0, none⟩) n c) n (pre ++ ((.s (mt (kk))) :: (mkL mt post2 (wrap64 (kk + 1))).1)) := by
    have h_ := R0.out
    rw [h8] at h_
    simpa only [mkL, mkI, List.cons_append, List.nil_append, List.append_assoc] using h_
   have bd0 : (0 : Int) ≤ kk ∧ kk ≤ kk := ⟨h9, Int.le_refl _⟩
   have htot : kk + 1 + (szL post2 : Int) ≤ 9223372036854775807 := by have h_ := h10; simp only [szL_app, szL, szI, List.cons_append, List.nil_append, Int.natCast_add] at h_; omega
   have bd1 : (0 : Int) ≤ wrap64 (kk + 1) ∧ wrap64 (kk + 1) ≤ kk + 1 := by rw [wrap_up bd0.1 (by omega)]; omega
   have hx0_ := (RowSt.cell (pre := pre) (x := .s (mt (kk))) (post := (mkL mt post2 (wrap64 (kk + 1))).1) (by simpa only [List.append_assoc, List.cons_append, List.nil_append] using hrow) (x5.toNat) (by (try simp only [List.length_append, List.length_cons, List.length_nil]); omega)).1
   simp only [It.val] at hx0_
   have ci0 : ((mt (kk)).toList != (mt (kk)).toList) = false := bne_self_eq_false _
   have KM0 := Aside0.mk (show (kk : Int) ≤ 9223372036854775807 from by omega)
   have HX0 := Aside0.mk hx0_
   have HJ := Aside0.mk (And.intro h1 (And.intro h2 (And.intro h8 (And.intro h8' (And.intro bd1 (And.intro htot (And.intro h11 (And.intro hp_ h5'))))))))
   have HQ := Aside0.mk h0_
   have QM := Aside0.mk hq
   have HB := Aside0.mk hb0
   clear h0_ h1 h2 h4 h8 h8' h9 h10 h11 hq hp_ hrow htot hb0 bd0 bd1
   replace hx0_ := lc_ HB.out HX0.out
   replace hc6 := eq_true hc6
   replace hc7 := eq_true hc7
   try go_wp2
   have n0_ := Aside0.mk (below_drew1 HB.out)
   clear HB
   have HB := n0_
   clear n0_
   refine start_ (n := 7) (S := fun w' => Below w.heap.size w w') (ds := []) #[false, false, false, false, false, false, false] (by kernel_rfl) rfl rfl HB.out (fun hHeld => ?_)
   generalize wr.drew = w31 at HB hHeld ⊢
   refine pure_ (i := 0) (N := some 12) (v := ?_) (a' := ?_) #[true, false, false, false, false, false, false] rfl rfl (by kernel_rfl) (fun _ _ _ h => h) (Or.inl ⟨by rfl, ?_⟩) ?_ ?_
   rotate_left
   ·intro w'
    go_simp
    with_reducible rfl
   rotate_left
   ·simp only [Act.put, List.setIfInBounds_toArray, List.set_cons_zero, List.set_cons_succ, i64_w, i32_w]
    rfl
   refine pure_ (i := 1) (N := some 13) (v := ?_) (a' := ?_) #[true, true, false, false, false, false, false] rfl rfl (by kernel_rfl) (fun _ _ _ h => h) (Or.inl ⟨by rfl, ?_⟩) ?_ ?_
   rotate_left
   ·intro w'
    go_simp
    with_reducible rfl
   rotate_left
   ·simp only [Act.put, List.setIfInBounds_toArray, List.set_cons_zero, List.set_cons_succ, i64_w, i32_w]
    rfl
   refine pure_ (i := 2) (N := some 14) (v := ?_) (a' := ?_) #[true, true, true, false, false, false, false] rfl rfl (by kernel_rfl) (fun _ _ _ h => h) (Or.inl ⟨by rfl, ?_⟩) ?_ ?_
   rotate_left
   ·intro w'
    go_simp
    with_reducible rfl
   rotate_left
   ·simp only [Act.put, List.setIfInBounds_toArray, List.set_cons_zero, List.set_cons_succ, i64_w, i32_w]
    rfl
   refine pure_ (i := 4) (N := some 16) (v := ?_) (a' := ?_) #[true, true, true, false, true, false, false] rfl rfl (by kernel_rfl) (fun _ _ _ h => h) (Or.inl ⟨by rfl, ?_⟩) ?_ ?_
   rotate_left
   ·intro w'
    go_simp
    with_reducible rfl
   rotate_left
   ·simp only [Act.put, List.setIfInBounds_toArray, List.set_cons_zero, List.set_cons_succ, i64_w, i32_w]
    rfl
   refine take_ (i := 3) (N := some 15) (v := ?_) (a' := ?_) #[true, true, true, true, true, false, false] rfl rfl (by kernel_rfl) (fun _ _ _ h => h) (Or.inl ⟨by rfl, ?_⟩) hHeld ?_ ?_
   rotate_left
   ·intro w' hb_
    have hy_ := lc_ hb_ HX0.out
    go_simp
    with_reducible rfl
   rotate_left
   ·simp only [Act.put, List.setIfInBounds_toArray, List.set_cons_zero, List.set_cons_succ, i64_w, i32_w]
    rfl
   refine one_ (i := 5) (N := some 17) #[true, true, true, true, true, true, false] rfl rfl (by kernel_rfl) (by decide) (fun K hK => ?_)
   refine goes_ Try.func57 (by kernel_rfl) rfl #[.int .i64 (kk)] (by rfl) rfl rfl (by (try simp only [List.map_toArray, List.map_cons, List.map_nil, List.append_toArray, List.cons_append, List.nil_append]); first | done | rfl) ?_
   with_reducible refine (markText_calls (kk) KM0.out _).mono ?_
   rintro e_ w32 ⟨rfl, hb⟩
   refine ⟨_, rfl, ?_⟩
   have n0_ := Aside0.mk (below_step HB.out hb)
   clear HB hb
   have HB := n0_
   clear n0_
   refine hK.out _ _ HB.out (fun hHeld => ?_)
   clear hK K
   refine norm_ (a' := ?_) ?_ ?_
   rotate_left
   ·show Act.put _ (some 17) _ = _
    simp only [Act.put, List.setIfInBounds_toArray, List.set_cons_zero, List.set_cons_succ, i64_w, i32_w]
    rfl
   refine pure_ (i := 6) (N := some 18) (v := ?_) (a' := ?_) #[true, true, true, true, true, true, true] rfl rfl (by kernel_rfl) (fun _ _ _ h => h) (Or.inl ⟨by rfl, ?_⟩) ?_ ?_
   rotate_left
   ·intro w'
    go_simp
    with_reducible rfl
   rotate_left
   ·simp only [Act.put, List.setIfInBounds_toArray, List.set_cons_zero, List.set_cons_succ, i64_w, i32_w]
    rfl
   refine done_ (by kernel_rfl) ?_
   try go_wp2
   go_roundg k1
   case measure => have := HQ.out; have := QM.out; omega
   case rel => exact ⟨_, wrap64 (x5 + 1), i + 1, (pre ++ [.s (mt (kk))]), post2, l2, rfl, rfl, ⟨by have := QM.out; omega⟩, ⟨by
    obtain ⟨h1, h2, h8, h8', hbd, htot, h11, hp_, h5'⟩ := HJ.out
    have hn2 := HN.out
    simp only [List.length_cons] at h2
    refine ⟨by have := HQ.out; simp only [List.length_cons] at this; omega, by rw [h1]; unfold wrap64; omega, by omega, ?_, h5', ?_, ?_, hbd.1, by omega, ?_⟩
    · simp only [List.length_append, List.length_cons, List.length_nil]
      rw [h1, Int.toNat_natCast] at hp_
      omega
    · rw [h8]
      simp only [mkL, mkI, List.append_assoc, List.cons_append, List.nil_append]
    · rw [h8']
      simp only [mkL, mkI, List.cons_append, List.nil_append]
    · simp only [szL_app, szL, szI, List.cons_append, List.nil_append] at h11
      omega⟩, ⟨HB.out⟩⟩

set_option maxHeartbeats 8000000 in
set_option maxRecDepth 100000 in
theorem stepHd41 (m : Nat) (ih41 : ∀ m', m' < m → HdC 41 33 6 RepEs m') (ih42 : ∀ m', m' < m → HdC 42 68 9 RepDs m') (ih43 : ∀ m', m' < m → HdC 43 53 8 RepAs m') : HdC 41 33 6 RepEs m := by
 intro v n l L k w hr hn hmax hrep hsz hk0 hk
 obtain ⟨A, c, rfl, hcap, hlen, hg⟩ := hr.slice_
 have hu33 := Try.underlying33
 have hu68 := Try.underlying68
 have hu53 := Try.underlying53
 have HM := Aside0.mk hsz
 have HG := Aside0.mk hg
 have HN := Aside0.mk hmax
 have R0 := Aside0.mk hr
 have I0 := Aside0.mk (And.intro hn (And.intro hrep (And.intro hk0 hk)))
 clear hr hn hmax hrep hsz hk0 hk hcap hlen hg
 go_enter Try.func41, Try.ntmps41
 go_wp2
 go_loopg [1, 5] (n + 1) (fun kq v1 v5 w' => ∃ (kk x5 : Int) (i : Nat) (pre post : List It) (l' : List S33), v1 = .int .i64 kk ∧ v5 = .int .i64 x5 ∧ Aside0 (kq ≤ n + 1) ∧ Aside0 (l'.length < kq ∧ x5 = (i : Int) ∧ i + l'.length = n ∧ pre.length = i * 6 ∧ RepEs l' post ∧ (mkL mt L k).1 = pre ++ (mkL mt post kk).1 ∧ (mkL mt L k).2 = (mkL mt post kk).2 ∧ 0 ≤ kk ∧ kk + szL post ≤ 9223372036854775807 ∧ szL post ≤ szL L) ∧ Aside0 (Below w.heap.size w w'))
 case atStart => exact ⟨k, 0, 0, [], L, l, rfl, rfl, ⟨Nat.le_refl _⟩, ⟨by have := I0.out.1; omega, rfl, by have := I0.out.1; omega, by simp, I0.out.2.1, rfl, rfl, I0.out.2.2.1, I0.out.2.2.2, Nat.le_refl _⟩, ⟨Below.refl _ _⟩⟩
 case round =>
  obtain ⟨kk, x5, i, pre, post, l', rfl, rfl, HQ0, HI, HB0⟩ := hrel
  obtain ⟨h0_, h1, h2, h4, h5, h8, h8', h9, h10, h11⟩ := HI.out
  have hq := HQ0.out
  have hb0 := HB0.out
  clear HI HQ0 I0 HB0
  cases gk with
  | zero => exact absurd h0_ (Nat.not_lt_zero _)
  | succ k1 =>
  cases l' with
  | nil =>
   have c6b0 : decide (x5 < (n : Int)) = false := decide_eq_false (by rw [h1]; simp only [List.length_nil] at h2; omega)
   obtain rfl : post = [] := by cases h5; rfl
   simp only [mkL] at h8'
   have HF := Aside0.mk h8'
   have HB := Aside0.mk hb0
   clear h0_ h1 h2 h4 h5 h8 h8' h9 h10 h11 hq hb0
   go_wp2
   go_ret
   exact ⟨by first | rfl | (rw [HF.out]; done) | (simp [HF.out]; done), HB.out⟩
  | cons x l2 =>
   cases h5 with
   | cons h0 h5' =>
   rename_i i_ post2
   cases h0 with
   | mk g3 g4 g5 =>
   rename_i v3 v4 v5 i3 i4 i5
   have hc6 : x5 < (n : Int) := by rw [h1]; simp only [List.length_cons] at h2; omega
   have hc7 : 0 ≤ x5 := by omega
   have c6b0 : decide (x5 < (n : Int)) = true := decide_eq_true hc6
   have c7b0 : decide (0 ≤ x5) = true := decide_eq_true hc7
   obtain ⟨g, rfl⟩ := HG.out (by omega)
   have hp_ : pre.length = x5.toNat * 6 := by rw [h1, Int.toNat_natCast]; exact h4
   have hrow : RowSt w 33 6 (.slice (some ⟨g, 0, none⟩) n c) n (pre ++ ((.i (kk)) :: (.s (mt (wrap64 (kk + 1)))) :: (.i (wrap64 (wrap64 (kk + 1) + 1))) :: (.r 33 6 v3 x.f3.length (mkL mt i3 (wrap64 (wrap64 (wrap64 (kk + 1) + 1) + 1))).1) :: (.r 68 9 v4 x.f4.length (mkL mt i4 ((mkL mt i3 (wrap64 (wrap64 (wrap64 (kk + 1) + 1) + 1))).2)).1) :: (.r 53 8 v5 x.f5.length (mkL mt i5 ((mkL mt i4 ((mkL mt i3 (wrap64 (wrap64 (wrap64 (kk + 1) + 1) + 1))).2)).2)).1) :: (mkL mt post2 ((mkL mt i5 ((mkL mt i4 ((mkL mt i3 (wrap64 (wrap64 (wrap64 (kk + 1) + 1) + 1))).2)).2)).2)).1)) := by
    have h_ := R0.out
    rw [h8] at h_
    simpa only [mkL, mkI, List.cons_append, List.nil_append, List.append_assoc] using h_
   have bd0 : (0 : Int) ≤ kk ∧ kk ≤ kk := ⟨h9, Int.le_refl _⟩
   have htot : kk + 1 + 1 + 1 + (1 + (szL i3 : Int)) + (1 + (szL i4 : Int)) + (1 + (szL i5 : Int)) + (szL post2 : Int) ≤ 9223372036854775807 := by have h_ := h10; simp only [szL_app, szL, szI, List.cons_append, List.nil_append, Int.natCast_add] at h_; omega
   have bd1 : (0 : Int) ≤ wrap64 (kk + 1) ∧ wrap64 (kk + 1) ≤ kk + 1 := by rw [wrap_up bd0.1 (by omega)]; omega
   have bd2 : (0 : Int) ≤ wrap64 (wrap64 (kk + 1) + 1) ∧ wrap64 (wrap64 (kk + 1) + 1) ≤ kk + 1 + 1 := by rw [wrap_up bd1.1 (by omega)]; omega
   have bd3 : (0 : Int) ≤ wrap64 (wrap64 (wrap64 (kk + 1) + 1) + 1) ∧ wrap64 (wrap64 (wrap64 (kk + 1) + 1) + 1) ≤ kk + 1 + 1 + 1 := by rw [wrap_up bd2.1 (by omega)]; omega
   have bd4 : (0 : Int) ≤ (mkL mt i3 (wrap64 (wrap64 (wrap64 (kk + 1) + 1) + 1))).2 ∧ (mkL mt i3 (wrap64 (wrap64 (wrap64 (kk + 1) + 1) + 1))).2 ≤ kk + 1 + 1 + 1 + (1 + (szL i3 : Int)) := by have h_ := mkL_le (mt := mt) i3 (wrap64 (wrap64 (wrap64 (kk + 1) + 1) + 1)) bd3.1 (by omega); omega
   have bd5 : (0 : Int) ≤ (mkL mt i4 ((mkL mt i3 (wrap64 (wrap64 (wrap64 (kk + 1) + 1) + 1))).2)).2 ∧ (mkL mt i4 ((mkL mt i3 (wrap64 (wrap64 (wrap64 (kk + 1) + 1) + 1))).2)).2 ≤ kk + 1 + 1 + 1 + (1 + (szL i3 : Int)) + (1 + (szL i4 : Int)) := by have h_ := mkL_le (mt := mt) i4 ((mkL mt i3 (wrap64 (wrap64 (wrap64 (kk + 1) + 1) + 1))).2) bd4.1 (by omega); omega
   have bd6 : (0 : Int) ≤ (mkL mt i5 ((mkL mt i4 ((mkL mt i3 (wrap64 (wrap64 (wrap64 (kk + 1) + 1) + 1))).2)).2)).2 ∧ (mkL mt i5 ((mkL mt i4 ((mkL mt i3 (wrap64 (wrap64 (wrap64 (kk + 1) + 1) + 1))).2)).2)).2 ≤ kk + 1 + 1 + 1 + (1 + (szL i3 : Int)) + (1 + (szL i4 : Int)) + (1 + (szL i5 : Int)) := by have h_ := mkL_le (mt := mt) i5 ((mkL mt i4 ((mkL mt i3 (wrap64 (wrap64 (wrap64 (kk + 1) + 1) + 1))).2)).2) bd5.1 (by omega); omega
   have hs3 := RowSt.sub (pre := (pre ++ [.i (kk), .s (mt (wrap64 (kk + 1))), .i (wrap64 (wrap64 (kk + 1) + 1))])) (e' := 33) (sz' := 6) (v' := v3) (n' := x.f3.length) (i' := (mkL mt i3 (wrap64 (wrap64 (wrap64 (kk + 1) + 1) + 1))).1) (post := (.r 68 9 v4 x.f4.length (mkL mt i4 ((mkL mt i3 (wrap64 (wrap64 (wrap64 (kk + 1) + 1) + 1))).2)).1) :: (.r 53 8 v5 x.f5.length (mkL mt i5 ((mkL mt i4 ((mkL mt i3 (wrap64 (wrap64 (wrap64 (kk + 1) + 1) + 1))).2)).2)).1) :: (mkL mt post2 ((mkL mt i5 ((mkL mt i4 ((mkL mt i3 (wrap64 (wrap64 (wrap64 (kk + 1) + 1) + 1))).2)).2)).2)).1) (by simpa only [List.append_assoc, List.cons_append, List.nil_append] using hrow)
   obtain ⟨A3, c3, rfl, _, _, _⟩ := hs3.slice_
   have HS3 := Aside0.mk hs3
   clear hs3
   have HR3 : Aside0 (RepEs _ i3) := ⟨g3⟩
   have cn3 : decide (((mkL mt i3 (wrap64 (wrap64 (wrap64 (kk + 1) + 1) + 1))).2 : Int) < 0) = false := decide_eq_false (by have := bd4.1; omega)
   have BD3 := Aside0.mk (show (0 : Int) ≤ wrap64 (wrap64 (wrap64 (kk + 1) + 1) + 1) ∧ wrap64 (wrap64 (wrap64 (kk + 1) + 1) + 1) + (szL i3 : Int) ≤ 9223372036854775807 from ⟨bd3.1, by omega⟩)
   have SZ3 : Aside0 (szL i3 < m) := ⟨by have h_ := h11; have h2_ := HM.out; simp only [szL_app, szL, szI, List.cons_append, List.nil_append] at h_; omega⟩
   have hs4 := RowSt.sub (pre := (pre ++ [.i (kk), .s (mt (wrap64 (kk + 1))), .i (wrap64 (wrap64 (kk + 1) + 1)), .r 33 6 (.slice A3 x.f3.length c3) x.f3.length (mkL mt i3 (wrap64 (wrap64 (wrap64 (kk + 1) + 1) + 1))).1])) (e' := 68) (sz' := 9) (v' := v4) (n' := x.f4.length) (i' := (mkL mt i4 ((mkL mt i3 (wrap64 (wrap64 (wrap64 (kk + 1) + 1) + 1))).2)).1) (post := (.r 53 8 v5 x.f5.length (mkL mt i5 ((mkL mt i4 ((mkL mt i3 (wrap64 (wrap64 (wrap64 (kk + 1) + 1) + 1))).2)).2)).1) :: (mkL mt post2 ((mkL mt i5 ((mkL mt i4 ((mkL mt i3 (wrap64 (wrap64 (wrap64 (kk + 1) + 1) + 1))).2)).2)).2)).1) (by simpa only [List.append_assoc, List.cons_append, List.nil_append] using hrow)
   obtain ⟨A4, c4, rfl, _, _, _⟩ := hs4.slice_
   have HS4 := Aside0.mk hs4
   clear hs4
   have HR4 : Aside0 (RepDs _ i4) := ⟨g4⟩
   have cn4 : decide (((mkL mt i4 ((mkL mt i3 (wrap64 (wrap64 (wrap64 (kk + 1) + 1) + 1))).2)).2 : Int) < 0) = false := decide_eq_false (by have := bd5.1; omega)
   have BD4 := Aside0.mk (show (0 : Int) ≤ (mkL mt i3 (wrap64 (wrap64 (wrap64 (kk + 1) + 1) + 1))).2 ∧ (mkL mt i3 (wrap64 (wrap64 (wrap64 (kk + 1) + 1) + 1))).2 + (szL i4 : Int) ≤ 9223372036854775807 from ⟨bd4.1, by omega⟩)
   have SZ4 : Aside0 (szL i4 < m) := ⟨by have h_ := h11; have h2_ := HM.out; simp only [szL_app, szL, szI, List.cons_append, List.nil_append] at h_; omega⟩
   have hs5 := RowSt.sub (pre := (pre ++ [.i (kk), .s (mt (wrap64 (kk + 1))), .i (wrap64 (wrap64 (kk + 1) + 1)), .r 33 6 (.slice A3 x.f3.length c3) x.f3.length (mkL mt i3 (wrap64 (wrap64 (wrap64 (kk + 1) + 1) + 1))).1, .r 68 9 (.slice A4 x.f4.length c4) x.f4.length (mkL mt i4 ((mkL mt i3 (wrap64 (wrap64 (wrap64 (kk + 1) + 1) + 1))).2)).1])) (e' := 53) (sz' := 8) (v' := v5) (n' := x.f5.length) (i' := (mkL mt i5 ((mkL mt i4 ((mkL mt i3 (wrap64 (wrap64 (wrap64 (kk + 1) + 1) + 1))).2)).2)).1) (post := (mkL mt post2 ((mkL mt i5 ((mkL mt i4 ((mkL mt i3 (wrap64 (wrap64 (wrap64 (kk + 1) + 1) + 1))).2)).2)).2)).1) (by simpa only [List.append_assoc, List.cons_append, List.nil_append] using hrow)
   obtain ⟨A5, c5, rfl, _, _, _⟩ := hs5.slice_
   have HS5 := Aside0.mk hs5
   clear hs5
   have HR5 : Aside0 (RepAs _ i5) := ⟨g5⟩
   have cn5 : decide (((mkL mt i5 ((mkL mt i4 ((mkL mt i3 (wrap64 (wrap64 (wrap64 (kk + 1) + 1) + 1))).2)).2)).2 : Int) < 0) = false := decide_eq_false (by have := bd6.1; omega)
   have BD5 := Aside0.mk (show (0 : Int) ≤ (mkL mt i4 ((mkL mt i3 (wrap64 (wrap64 (wrap64 (kk + 1) + 1) + 1))).2)).2 ∧ (mkL mt i4 ((mkL mt i3 (wrap64 (wrap64 (wrap64 (kk + 1) + 1) + 1))).2)).2 + (szL i5 : Int) ≤ 9223372036854775807 from ⟨bd5.1, by omega⟩)
   have SZ5 : Aside0 (szL i5 < m) := ⟨by have h_ := h11; have h2_ := HM.out; simp only [szL_app, szL, szI, List.cons_append, List.nil_append] at h_; omega⟩
   have hx0_ := (RowSt.cell (pre := pre) (x := .i (kk)) (post := (.s (mt (wrap64 (kk + 1)))) :: (.i (wrap64 (wrap64 (kk + 1) + 1))) :: (.r 33 6 (.slice A3 x.f3.length c3) x.f3.length (mkL mt i3 (wrap64 (wrap64 (wrap64 (kk + 1) + 1) + 1))).1) :: (.r 68 9 (.slice A4 x.f4.length c4) x.f4.length (mkL mt i4 ((mkL mt i3 (wrap64 (wrap64 (wrap64 (kk + 1) + 1) + 1))).2)).1) :: (.r 53 8 (.slice A5 x.f5.length c5) x.f5.length (mkL mt i5 ((mkL mt i4 ((mkL mt i3 (wrap64 (wrap64 (wrap64 (kk + 1) + 1) + 1))).2)).2)).1) :: (mkL mt post2 ((mkL mt i5 ((mkL mt i4 ((mkL mt i3 (wrap64 (wrap64 (wrap64 (kk + 1) + 1) + 1))).2)).2)).2)).1) (by simpa only [List.append_assoc, List.cons_append, List.nil_append] using hrow) (x5.toNat * 6) (by (try simp only [List.length_append, List.length_cons, List.length_nil]); omega)).1
   simp only [It.val] at hx0_
   have ci0 : ((kk : Int) != kk) = false := bne_self_eq_false _
   have HX0 := Aside0.mk hx0_
   have hx1_ := (RowSt.cell (pre := (pre ++ [.i (kk)])) (x := .s (mt (wrap64 (kk + 1)))) (post := (.i (wrap64 (wrap64 (kk + 1) + 1))) :: (.r 33 6 (.slice A3 x.f3.length c3) x.f3.length (mkL mt i3 (wrap64 (wrap64 (wrap64 (kk + 1) + 1) + 1))).1) :: (.r 68 9 (.slice A4 x.f4.length c4) x.f4.length (mkL mt i4 ((mkL mt i3 (wrap64 (wrap64 (wrap64 (kk + 1) + 1) + 1))).2)).1) :: (.r 53 8 (.slice A5 x.f5.length c5) x.f5.length (mkL mt i5 ((mkL mt i4 ((mkL mt i3 (wrap64 (wrap64 (wrap64 (kk + 1) + 1) + 1))).2)).2)).1) :: (mkL mt post2 ((mkL mt i5 ((mkL mt i4 ((mkL mt i3 (wrap64 (wrap64 (wrap64 (kk + 1) + 1) + 1))).2)).2)).2)).1) (by simpa only [List.append_assoc, List.cons_append, List.nil_append] using hrow) (x5.toNat * 6 + 1) (by (try simp only [List.length_append, List.length_cons, List.length_nil]); omega)).1
   simp only [It.val] at hx1_
   have ci1 : ((mt (wrap64 (kk + 1))).toList != (mt (wrap64 (kk + 1))).toList) = false := bne_self_eq_false _
   have KM1 := Aside0.mk (show (wrap64 (kk + 1) : Int) ≤ 9223372036854775807 from by omega)
   have HX1 := Aside0.mk hx1_
   have hx2_ := (RowSt.cell (pre := (pre ++ [.i (kk), .s (mt (wrap64 (kk + 1)))])) (x := .i (wrap64 (wrap64 (kk + 1) + 1))) (post := (.r 33 6 (.slice A3 x.f3.length c3) x.f3.length (mkL mt i3 (wrap64 (wrap64 (wrap64 (kk + 1) + 1) + 1))).1) :: (.r 68 9 (.slice A4 x.f4.length c4) x.f4.length (mkL mt i4 ((mkL mt i3 (wrap64 (wrap64 (wrap64 (kk + 1) + 1) + 1))).2)).1) :: (.r 53 8 (.slice A5 x.f5.length c5) x.f5.length (mkL mt i5 ((mkL mt i4 ((mkL mt i3 (wrap64 (wrap64 (wrap64 (kk + 1) + 1) + 1))).2)).2)).1) :: (mkL mt post2 ((mkL mt i5 ((mkL mt i4 ((mkL mt i3 (wrap64 (wrap64 (wrap64 (kk + 1) + 1) + 1))).2)).2)).2)).1) (by simpa only [List.append_assoc, List.cons_append, List.nil_append] using hrow) (x5.toNat * 6 + 2) (by (try simp only [List.length_append, List.length_cons, List.length_nil]); omega)).1
   simp only [It.val] at hx2_
   have ci2 : ((wrap64 (wrap64 (kk + 1) + 1) : Int) != wrap64 (wrap64 (kk + 1) + 1)) = false := bne_self_eq_false _
   have HX2 := Aside0.mk hx2_
   have hx3_ := (RowSt.cell (pre := (pre ++ [.i (kk), .s (mt (wrap64 (kk + 1))), .i (wrap64 (wrap64 (kk + 1) + 1))])) (x := .r 33 6 (.slice A3 x.f3.length c3) x.f3.length (mkL mt i3 (wrap64 (wrap64 (wrap64 (kk + 1) + 1) + 1))).1) (post := (.r 68 9 (.slice A4 x.f4.length c4) x.f4.length (mkL mt i4 ((mkL mt i3 (wrap64 (wrap64 (wrap64 (kk + 1) + 1) + 1))).2)).1) :: (.r 53 8 (.slice A5 x.f5.length c5) x.f5.length (mkL mt i5 ((mkL mt i4 ((mkL mt i3 (wrap64 (wrap64 (wrap64 (kk + 1) + 1) + 1))).2)).2)).1) :: (mkL mt post2 ((mkL mt i5 ((mkL mt i4 ((mkL mt i3 (wrap64 (wrap64 (wrap64 (kk + 1) + 1) + 1))).2)).2)).2)).1) (by simpa only [List.append_assoc, List.cons_append, List.nil_append] using hrow) (x5.toNat * 6 + 3) (by (try simp only [List.length_append, List.length_cons, List.length_nil]); omega)).1
   simp only [It.val] at hx3_
   have HX3 := Aside0.mk hx3_
   have hx4_ := (RowSt.cell (pre := (pre ++ [.i (kk), .s (mt (wrap64 (kk + 1))), .i (wrap64 (wrap64 (kk + 1) + 1)), .r 33 6 (.slice A3 x.f3.length c3) x.f3.length (mkL mt i3 (wrap64 (wrap64 (wrap64 (kk + 1) + 1) + 1))).1])) (x := .r 68 9 (.slice A4 x.f4.length c4) x.f4.length (mkL mt i4 ((mkL mt i3 (wrap64 (wrap64 (wrap64 (kk + 1) + 1) + 1))).2)).1) (post := (.r 53 8 (.slice A5 x.f5.length c5) x.f5.length (mkL mt i5 ((mkL mt i4 ((mkL mt i3 (wrap64 (wrap64 (wrap64 (kk + 1) + 1) + 1))).2)).2)).1) :: (mkL mt post2 ((mkL mt i5 ((mkL mt i4 ((mkL mt i3 (wrap64 (wrap64 (wrap64 (kk + 1) + 1) + 1))).2)).2)).2)).1) (by simpa only [List.append_assoc, List.cons_append, List.nil_append] using hrow) (x5.toNat * 6 + 4) (by (try simp only [List.length_append, List.length_cons, List.length_nil]); omega)).1
   simp only [It.val] at hx4_
   have HX4 := Aside0.mk hx4_
   have hx5_ := (RowSt.cell (pre := (pre ++ [.i (kk), .s (mt (wrap64 (kk + 1))), .i (wrap64 (wrap64 (kk + 1) + 1)), .r 33 6 (.slice A3 x.f3.length c3) x.f3.length (mkL mt i3 (wrap64 (wrap64 (wrap64 (kk + 1) + 1) + 1))).1, .r 68 9 (.slice A4 x.f4.length c4) x.f4.length (mkL mt i4 ((mkL mt i3 (wrap64 (wrap64 (wrap64 (kk + 1) + 1) + 1))).2)).1])) (x := .r 53 8 (.slice A5 x.f5.length c5) x.f5.length (mkL mt i5 ((mkL mt i4 ((mkL mt i3 (wrap64 (wrap64 (wrap64 (kk + 1) + 1) + 1))).2)).2)).1) (post := (mkL mt post2 ((mkL mt i5 ((mkL mt i4 ((mkL mt i3 (wrap64 (wrap64 (wrap64 (kk + 1) + 1) + 1))).2)).2)).2)).1) (by simpa only [List.append_assoc, List.cons_append, List.nil_append] using hrow) (x5.toNat * 6 + 5) (by (try simp only [List.length_append, List.length_cons, List.length_nil]); omega)).1
   simp only [It.val] at hx5_
   have HX5 := Aside0.mk hx5_
   have HJ := Aside0.mk (And.intro h1 (And.intro h2 (And.intro h8 (And.intro h8' (And.intro bd6 (And.intro htot (And.intro h11 (And.intro hp_ h5'))))))))
   have HQ := Aside0.mk h0_
   have QM := Aside0.mk hq
   have HB := Aside0.mk hb0
   clear h0_ h1 h2 h4 h8 h8' h9 h10 h11 hq hp_ hrow htot hb0 bd0 bd1 bd2 bd3 bd4 bd5 bd6
   replace hx0_ := lc_ HB.out HX0.out
   replace hx1_ := lc_ HB.out HX1.out
   replace hx2_ := lc_ HB.out HX2.out
   replace hx3_ := lc_ HB.out HX3.out
   replace hx4_ := lc_ HB.out HX4.out
   replace hx5_ := lc_ HB.out HX5.out
   replace hc6 := eq_true hc6
   replace hc7 := eq_true hc7
   try go_wp2
   have n0_ := Aside0.mk (below_drew1 HB.out)
   clear HB
   have HB := n0_
   clear n0_
   refine start_ (n := 8) (S := fun w' => Below w.heap.size w w') (ds := []) #[false, false, false, false, false, false, false, false] (by kernel_rfl) rfl rfl HB.out (fun hHeld => ?_)
   generalize wr.drew = w31 at HB hHeld ⊢
   refine pure_ (i := 0) (N := some 21) (v := ?_) (a' := ?_) #[true, false, false, false, false, false, false, false] rfl rfl (by kernel_rfl) (fun _ _ _ h => h) (Or.inl ⟨by rfl, ?_⟩) ?_ ?_
   rotate_left
   ·intro w'
    go_simp
    with_reducible rfl
   rotate_left
   ·simp only [Act.put, List.setIfInBounds_toArray, List.set_cons_zero, List.set_cons_succ, i64_w, i32_w]
    rfl
   refine pure_ (i := 1) (N := some 22) (v := ?_) (a' := ?_) #[true, true, false, false, false, false, false, false] rfl rfl (by kernel_rfl) (fun _ _ _ h => h) (Or.inl ⟨by rfl, ?_⟩) ?_ ?_
   rotate_left
   ·intro w'
    go_simp
    with_reducible rfl
   rotate_left
   ·simp only [Act.put, List.setIfInBounds_toArray, List.set_cons_zero, List.set_cons_succ, i64_w, i32_w]
    rfl
   refine pure_ (i := 2) (N := some 23) (v := ?_) (a' := ?_) #[true, true, true, false, false, false, false, false] rfl rfl (by kernel_rfl) (fun _ _ _ h => h) (Or.inl ⟨by rfl, ?_⟩) ?_ ?_
   rotate_left
   ·intro w'
    go_simp
    with_reducible rfl
   rotate_left
   ·simp only [Act.put, List.setIfInBounds_toArray, List.set_cons_zero, List.set_cons_succ, i64_w, i32_w]
    rfl
   refine pure_ (i := 3) (N := some 24) (v := ?_) (a' := ?_) #[true, true, true, true, false, false, false, false] rfl rfl (by kernel_rfl) (fun _ _ _ h => h) (Or.inl ⟨by rfl, ?_⟩) ?_ ?_
   rotate_left
   ·intro w'
    go_simp
    with_reducible rfl
   rotate_left
   ·simp only [Act.put, List.setIfInBounds_toArray, List.set_cons_zero, List.set_cons_succ, i64_w, i32_w]
    rfl
   refine pure_ (i := 5) (N := some 26) (v := ?_) (a' := ?_) #[true, true, true, true, false, true, false, false] rfl rfl (by kernel_rfl) (fun _ _ _ h => h) (Or.inl ⟨by rfl, ?_⟩) ?_ ?_
   rotate_left
   ·intro w'
    go_simp
    with_reducible rfl
   rotate_left
   ·simp only [Act.put, List.setIfInBounds_toArray, List.set_cons_zero, List.set_cons_succ, i64_w, i32_w]
    rfl
   refine take_ (i := 4) (N := some 25) (v := ?_) (a' := ?_) #[true, true, true, true, true, true, false, false] rfl rfl (by kernel_rfl) (fun _ _ _ h => h) (Or.inl ⟨by rfl, ?_⟩) hHeld ?_ ?_
   rotate_left
   ·intro w' hb_
    have hy_ := lc_ hb_ HX1.out
    go_simp
    with_reducible rfl
   rotate_left
   ·simp only [Act.put, List.setIfInBounds_toArray, List.set_cons_zero, List.set_cons_succ, i64_w, i32_w]
    rfl
   refine one_ (i := 6) (N := some 27) #[true, true, true, true, true, true, true, false] rfl rfl (by kernel_rfl) (by decide) (fun K hK => ?_)
   refine goes_ Try.func57 (by kernel_rfl) rfl #[.int .i64 (wrap64 (kk + 1))] (by rfl) rfl rfl (by (try simp only [List.map_toArray, List.map_cons, List.map_nil, List.append_toArray, List.cons_append, List.nil_append]); first | done | rfl) ?_
   with_reducible refine (markText_calls (wrap64 (kk + 1)) KM1.out _).mono ?_
   rintro e_ w32 ⟨rfl, hb⟩
   refine ⟨_, rfl, ?_⟩
   have n0_ := Aside0.mk (below_step HB.out hb)
   clear HB hb
   have HB := n0_
   clear n0_
   refine hK.out _ _ HB.out (fun hHeld => ?_)
   clear hK K
   refine norm_ (a' := ?_) ?_ ?_
   rotate_left
   ·show Act.put _ (some 27) _ = _
    simp only [Act.put, List.setIfInBounds_toArray, List.set_cons_zero, List.set_cons_succ, i64_w, i32_w]
    rfl
   refine pure_ (i := 7) (N := some 28) (v := ?_) (a' := ?_) #[true, true, true, true, true, true, true, true] rfl rfl (by kernel_rfl) (fun _ _ _ h => h) (Or.inl ⟨by rfl, ?_⟩) ?_ ?_
   rotate_left
   ·intro w'
    go_simp
    with_reducible rfl
   rotate_left
   ·simp only [Act.put, List.setIfInBounds_toArray, List.set_cons_zero, List.set_cons_succ, i64_w, i32_w]
    rfl
   refine done_ (by kernel_rfl) ?_
   have hx2_ := lc_ HB.out HX2.out
   have hx3_ := lc_ HB.out HX3.out
   have hx4_ := lc_ HB.out HX4.out
   have hx5_ := lc_ HB.out HX5.out
   try go_wp2_with (first | ((with_reducible refine gate_dst (N := 46) rfl ?_); (with_reducible refine gate_callee (f := 41) rfl ?_); refine goesL_ (some 46) rfl rfl Try.func41 (by kernel_rfl) rfl #[.slice A3 x.f3.length c3, .int .i64 (wrap64 (wrap64 (wrap64 (kk + 1) + 1) + 1))] rfl (by (try simp only [List.map_toArray, List.map_cons, List.map_nil, List.append_toArray, List.cons_append, List.nil_append]); first | done | rfl) ?_; refine calls_bel (w0 := w) (by repeat (first | (with_reducible first | exact HB.out | apply below_alloc | apply pw_below_drewN | apply below_drew1) | exact HB.out)) (fun hx_ => ?_); refine (ih41 _ SZ3.out _ _ _ i3 (wrap64 (wrap64 (wrap64 (kk + 1) + 1) + 1)) _ (HS3.out.below hx_) rfl (HS3.out.n_le) HR3.out (Nat.le_refl _) BD3.out.1 BD3.out.2).mono ?_; rintro e_ w33 ⟨rfl, hb⟩; refine ⟨_, rfl, ?_⟩; have n0_ := Aside0.mk (below_step hx_ hb); clear HB hx_ hb; have HB := n0_; clear n0_; have hx4_ := lc_ HB.out HX4.out; have hx5_ := lc_ HB.out HX5.out) | ((with_reducible refine gate_dst (N := 55) rfl ?_); (with_reducible refine gate_callee (f := 42) rfl ?_); refine goesL_ (some 55) rfl rfl Try.func42 (by kernel_rfl) rfl #[.slice A4 x.f4.length c4, .int .i64 ((mkL mt i3 (wrap64 (wrap64 (wrap64 (kk + 1) + 1) + 1))).2)] rfl (by (try simp only [List.map_toArray, List.map_cons, List.map_nil, List.append_toArray, List.cons_append, List.nil_append]); first | done | rfl) ?_; refine calls_bel (w0 := w) (by repeat (first | (with_reducible first | exact HB.out | apply below_alloc | apply pw_below_drewN | apply below_drew1) | exact HB.out)) (fun hx_ => ?_); refine (ih42 _ SZ4.out _ _ _ i4 ((mkL mt i3 (wrap64 (wrap64 (wrap64 (kk + 1) + 1) + 1))).2) _ (HS4.out.below hx_) rfl (HS4.out.n_le) HR4.out (Nat.le_refl _) BD4.out.1 BD4.out.2).mono ?_; rintro e_ w34 ⟨rfl, hb⟩; refine ⟨_, rfl, ?_⟩; have n0_ := Aside0.mk (below_step hx_ hb); clear HB hx_ hb; have HB := n0_; clear n0_; have hx5_ := lc_ HB.out HX5.out) | ((with_reducible refine gate_dst (N := 64) rfl ?_); (with_reducible refine gate_callee (f := 43) rfl ?_); refine goesL_ (some 64) rfl rfl Try.func43 (by kernel_rfl) rfl #[.slice A5 x.f5.length c5, .int .i64 ((mkL mt i4 ((mkL mt i3 (wrap64 (wrap64 (wrap64 (kk + 1) + 1) + 1))).2)).2)] rfl (by (try simp only [List.map_toArray, List.map_cons, List.map_nil, List.append_toArray, List.cons_append, List.nil_append]); first | done | rfl) ?_; refine calls_bel (w0 := w) (by repeat (first | (with_reducible first | exact HB.out | apply below_alloc | apply pw_below_drewN | apply below_drew1) | exact HB.out)) (fun hx_ => ?_); refine (ih43 _ SZ5.out _ _ _ i5 ((mkL mt i4 ((mkL mt i3 (wrap64 (wrap64 (wrap64 (kk + 1) + 1) + 1))).2)).2) _ (HS5.out.below hx_) rfl (HS5.out.n_le) HR5.out (Nat.le_refl _) BD5.out.1 BD5.out.2).mono ?_; rintro e_ w35 ⟨rfl, hb⟩; refine ⟨_, rfl, ?_⟩; have n0_ := Aside0.mk (below_step hx_ hb); clear HB hx_ hb; have HB := n0_; clear n0_))
   go_roundg k1
   case measure => have := HQ.out; have := QM.out; omega
   case rel => exact ⟨_, wrap64 (x5 + 1), i + 1, (pre ++ [.i (kk), .s (mt (wrap64 (kk + 1))), .i (wrap64 (wrap64 (kk + 1) + 1)), .r 33 6 (.slice A3 x.f3.length c3) x.f3.length (mkL mt i3 (wrap64 (wrap64 (wrap64 (kk + 1) + 1) + 1))).1, .r 68 9 (.slice A4 x.f4.length c4) x.f4.length (mkL mt i4 ((mkL mt i3 (wrap64 (wrap64 (wrap64 (kk + 1) + 1) + 1))).2)).1, .r 53 8 (.slice A5 x.f5.length c5) x.f5.length (mkL mt i5 ((mkL mt i4 ((mkL mt i3 (wrap64 (wrap64 (wrap64 (kk + 1) + 1) + 1))).2)).2)).1]), post2, l2, rfl, rfl, ⟨by have := QM.out; omega⟩, ⟨by
    obtain ⟨h1, h2, h8, h8', hbd, htot, h11, hp_, h5'⟩ := HJ.out
    have hn2 := HN.out
    simp only [List.length_cons] at h2
    refine ⟨by have := HQ.out; simp only [List.length_cons] at this; omega, by rw [h1]; unfold wrap64; omega, by omega, ?_, h5', ?_, ?_, hbd.1, by omega, ?_⟩
    · simp only [List.length_append, List.length_cons, List.length_nil]
      rw [h1, Int.toNat_natCast] at hp_
      omega
    · rw [h8]
      simp only [mkL, mkI, List.append_assoc, List.cons_append, List.nil_append]
    · rw [h8']
      simp only [mkL, mkI, List.cons_append, List.nil_append]
    · simp only [szL_app, szL, szI, List.cons_append, List.nil_append] at h11
      omega⟩, ⟨HB.out⟩⟩

set_option maxHeartbeats 8000000 in
set_option maxRecDepth 100000 in
theorem stepHd43 (m : Nat) (ih41 : ∀ m', m' < m → HdC 41 33 6 RepEs m') (ih42 : ∀ m', m' < m → HdC 42 68 9 RepDs m') (ih43 : ∀ m', m' < m → HdC 43 53 8 RepAs m') : HdC 43 53 8 RepAs m := by
 intro v n l L k w hr hn hmax hrep hsz hk0 hk
 obtain ⟨A, c, rfl, hcap, hlen, hg⟩ := hr.slice_
 have hu33 := Try.underlying33
 have hu68 := Try.underlying68
 have hu53 := Try.underlying53
 have HM := Aside0.mk hsz
 have HG := Aside0.mk hg
 have HN := Aside0.mk hmax
 have R0 := Aside0.mk hr
 have I0 := Aside0.mk (And.intro hn (And.intro hrep (And.intro hk0 hk)))
 clear hr hn hmax hrep hsz hk0 hk hcap hlen hg
 go_enter Try.func43, Try.ntmps43
 go_wp2
 go_loopg [1, 5] (n + 1) (fun kq v1 v5 w' => ∃ (kk x5 : Int) (i : Nat) (pre post : List It) (l' : List S53), v1 = .int .i64 kk ∧ v5 = .int .i64 x5 ∧ Aside0 (kq ≤ n + 1) ∧ Aside0 (l'.length < kq ∧ x5 = (i : Int) ∧ i + l'.length = n ∧ pre.length = i * 8 ∧ RepAs l' post ∧ (mkL mt L k).1 = pre ++ (mkL mt post kk).1 ∧ (mkL mt L k).2 = (mkL mt post kk).2 ∧ 0 ≤ kk ∧ kk + szL post ≤ 9223372036854775807 ∧ szL post ≤ szL L) ∧ Aside0 (Below w.heap.size w w'))
 case atStart => exact ⟨k, 0, 0, [], L, l, rfl, rfl, ⟨Nat.le_refl _⟩, ⟨by have := I0.out.1; omega, rfl, by have := I0.out.1; omega, by simp, I0.out.2.1, rfl, rfl, I0.out.2.2.1, I0.out.2.2.2, Nat.le_refl _⟩, ⟨Below.refl _ _⟩⟩
 case round =>
  obtain ⟨kk, x5, i, pre, post, l', rfl, rfl, HQ0, HI, HB0⟩ := hrel
  obtain ⟨h0_, h1, h2, h4, h5, h8, h8', h9, h10, h11⟩ := HI.out
  have hq := HQ0.out
  have hb0 := HB0.out
  clear HI HQ0 I0 HB0
  cases gk with
  | zero => exact absurd h0_ (Nat.not_lt_zero _)
  | succ k1 =>
  cases l' with
  | nil =>
   have c6b0 : decide (x5 < (n : Int)) = false := decide_eq_false (by rw [h1]; simp only [List.length_nil] at h2; omega)
   obtain rfl : post = [] := by cases h5; rfl
   simp only [mkL] at h8'
   have HF := Aside0.mk h8'
   have HB := Aside0.mk hb0
   clear h0_ h1 h2 h4 h5 h8 h8' h9 h10 h11 hq hb0
   go_wp2
   go_ret
   exact ⟨by first | rfl | (rw [HF.out]; done) | (simp [HF.out]; done), HB.out⟩
  | cons x l2 =>
   cases h5 with
   | cons h0 h5' =>
   rename_i i_ post2
   cases h0 with
   | mk hE =>
   rename_i v1 iE
   cases hE with
   | mk g5 g6 g7 =>
   rename_i v5 v6 v7 i5 i6 i7
   have hc6 : x5 < (n : Int) := by rw [h1]; simp only [List.length_cons] at h2; omega
   have hc7 : 0 ≤ x5 := by omega
   have c6b0 : decide (x5 < (n : Int)) = true := decide_eq_true hc6
   have c7b0 : decide (0 ≤ x5) = true := decide_eq_true hc7
   obtain ⟨g, rfl⟩ := HG.out (by omega)
   have hp_ : pre.length = x5.toNat * 8 := by rw [h1, Int.toNat_natCast]; exact h4
   have hrow : RowSt w 53 8 (.slice (some ⟨g, 0, none⟩) n c) n (pre ++ ((.s (mt (kk))) :: (.r 9 1 v1 x.f1.length (mkL mt (x.f1.map It.s) (wrap64 (kk + 1))).1) :: (.i ((mkL mt (x.f1.map It.s) (wrap64 (kk + 1))).2)) :: (.s (mt (wrap64 ((mkL mt (x.f1.map It.s) (wrap64 (kk + 1))).2 + 1)))) :: (.i (wrap64 (wrap64 ((mkL mt (x.f1.map It.s) (wrap64 (kk + 1))).2 + 1) + 1))) :: (.r 33 6 v5 x.f2.f3.length (mkL mt i5 (wrap64 (wrap64 (wrap64 ((mkL mt (x.f1.map It.s) (wrap64 (kk + 1))).2 + 1) + 1) + 1))).1) :: (.r 68 9 v6 x.f2.f4.length (mkL mt i6 ((mkL mt i5 (wrap64 (wrap64 (wrap64 ((mkL mt (x.f1.map It.s) (wrap64 (kk + 1))).2 + 1) + 1) + 1))).2)).1) :: (.r 53 8 v7 x.f2.f5.length (mkL mt i7 ((mkL mt i6 ((mkL mt i5 (wrap64 (wrap64 (wrap64 ((mkL mt (x.f1.map It.s) (wrap64 (kk + 1))).2 + 1) + 1) + 1))).2)).2)).1) :: (mkL mt post2 ((mkL mt i7 ((mkL mt i6 ((mkL mt i5 (wrap64 (wrap64 (wrap64 ((mkL mt (x.f1.map It.s) (wrap64 (kk + 1))).2 + 1) + 1) + 1))).2)).2)).2)).1)) := by
    have h_ := R0.out
    rw [h8] at h_
    simpa only [mkL, mkI, List.cons_append, List.nil_append, List.append_assoc] using h_
   have bd0 : (0 : Int) ≤ kk ∧ kk ≤ kk := ⟨h9, Int.le_refl _⟩
   have htot : kk + 1 + (1 + (szL (x.f1.map It.s) : Int)) + 1 + 1 + 1 + (1 + (szL i5 : Int)) + (1 + (szL i6 : Int)) + (1 + (szL i7 : Int)) + (szL post2 : Int) ≤ 9223372036854775807 := by have h_ := h10; simp only [szL_app, szL, szI, List.cons_append, List.nil_append, Int.natCast_add] at h_; omega
   have bd1 : (0 : Int) ≤ wrap64 (kk + 1) ∧ wrap64 (kk + 1) ≤ kk + 1 := by rw [wrap_up bd0.1 (by omega)]; omega
   have bd2 : (0 : Int) ≤ (mkL mt (x.f1.map It.s) (wrap64 (kk + 1))).2 ∧ (mkL mt (x.f1.map It.s) (wrap64 (kk + 1))).2 ≤ kk + 1 + (1 + (szL (x.f1.map It.s) : Int)) := by have h_ := mkL_le (mt := mt) (x.f1.map It.s) (wrap64 (kk + 1)) bd1.1 (by omega); omega
   have bd3 : (0 : Int) ≤ wrap64 ((mkL mt (x.f1.map It.s) (wrap64 (kk + 1))).2 + 1) ∧ wrap64 ((mkL mt (x.f1.map It.s) (wrap64 (kk + 1))).2 + 1) ≤ kk + 1 + (1 + (szL (x.f1.map It.s) : Int)) + 1 := by rw [wrap_up bd2.1 (by omega)]; omega
   have bd4 : (0 : Int) ≤ wrap64 (wrap64 ((mkL mt (x.f1.map It.s) (wrap64 (kk + 1))).2 + 1) + 1) ∧ wrap64 (wrap64 ((mkL mt (x.f1.map It.s) (wrap64 (kk + 1))).2 + 1) + 1) ≤ kk + 1 + (1 + (szL (x.f1.map It.s) : Int)) + 1 + 1 := by rw [wrap_up bd3.1 (by omega)]; omega
   have bd5 : (0 : Int) ≤ wrap64 (wrap64 (wrap64 ((mkL mt (x.f1.map It.s) (wrap64 (kk + 1))).2 + 1) + 1) + 1) ∧ wrap64 (wrap64 (wrap64 ((mkL mt (x.f1.map It.s) (wrap64 (kk + 1))).2 + 1) + 1) + 1) ≤ kk + 1 + (1 + (szL (x.f1.map It.s) : Int)) + 1 + 1 + 1 := by rw [wrap_up bd4.1 (by omega)]; omega
   have bd6 : (0 : Int) ≤ (mkL mt i5 (wrap64 (wrap64 (wrap64 ((mkL mt (x.f1.map It.s) (wrap64 (kk + 1))).2 + 1) + 1) + 1))).2 ∧ (mkL mt i5 (wrap64 (wrap64 (wrap64 ((mkL mt (x.f1.map It.s) (wrap64 (kk + 1))).2 + 1) + 1) + 1))).2 ≤ kk + 1 + (1 + (szL (x.f1.map It.s) : Int)) + 1 + 1 + 1 + (1 + (szL i5 : Int)) := by have h_ := mkL_le (mt := mt) i5 (wrap64 (wrap64 (wrap64 ((mkL mt (x.f1.map It.s) (wrap64 (kk + 1))).2 + 1) + 1) + 1)) bd5.1 (by omega); omega
   have bd7 : (0 : Int) ≤ (mkL mt i6 ((mkL mt i5 (wrap64 (wrap64 (wrap64 ((mkL mt (x.f1.map It.s) (wrap64 (kk + 1))).2 + 1) + 1) + 1))).2)).2 ∧ (mkL mt i6 ((mkL mt i5 (wrap64 (wrap64 (wrap64 ((mkL mt (x.f1.map It.s) (wrap64 (kk + 1))).2 + 1) + 1) + 1))).2)).2 ≤ kk + 1 + (1 + (szL (x.f1.map It.s) : Int)) + 1 + 1 + 1 + (1 + (szL i5 : Int)) + (1 + (szL i6 : Int)) := by have h_ := mkL_le (mt := mt) i6 ((mkL mt i5 (wrap64 (wrap64 (wrap64 ((mkL mt (x.f1.map It.s) (wrap64 (kk + 1))).2 + 1) + 1) + 1))).2) bd6.1 (by omega); omega
   have bd8 : (0 : Int) ≤ (mkL mt i7 ((mkL mt i6 ((mkL mt i5 (wrap64 (wrap64 (wrap64 ((mkL mt (x.f1.map It.s) (wrap64 (kk + 1))).2 + 1) + 1) + 1))).2)).2)).2 ∧ (mkL mt i7 ((mkL mt i6 ((mkL mt i5 (wrap64 (wrap64 (wrap64 ((mkL mt (x.f1.map It.s) (wrap64 (kk + 1))).2 + 1) + 1) + 1))).2)).2)).2 ≤ kk + 1 + (1 + (szL (x.f1.map It.s) : Int)) + 1 + 1 + 1 + (1 + (szL i5 : Int)) + (1 + (szL i6 : Int)) + (1 + (szL i7 : Int)) := by have h_ := mkL_le (mt := mt) i7 ((mkL mt i6 ((mkL mt i5 (wrap64 (wrap64 (wrap64 ((mkL mt (x.f1.map It.s) (wrap64 (kk + 1))).2 + 1) + 1) + 1))).2)).2) bd7.1 (by omega); omega
   have hs1 := RowSt.sub (pre := (pre ++ [.s (mt (kk))])) (e' := 9) (sz' := 1) (v' := v1) (n' := x.f1.length) (i' := (mkL mt (x.f1.map It.s) (wrap64 (kk + 1))).1) (post := (.i ((mkL mt (x.f1.map It.s) (wrap64 (kk + 1))).2)) :: (.s (mt (wrap64 ((mkL mt (x.f1.map It.s) (wrap64 (kk + 1))).2 + 1)))) :: (.i (wrap64 (wrap64 ((mkL mt (x.f1.map It.s) (wrap64 (kk + 1))).2 + 1) + 1))) :: (.r 33 6 v5 x.f2.f3.length (mkL mt i5 (wrap64 (wrap64 (wrap64 ((mkL mt (x.f1.map It.s) (wrap64 (kk + 1))).2 + 1) + 1) + 1))).1) :: (.r 68 9 v6 x.f2.f4.length (mkL mt i6 ((mkL mt i5 (wrap64 (wrap64 (wrap64 ((mkL mt (x.f1.map It.s) (wrap64 (kk + 1))).2 + 1) + 1) + 1))).2)).1) :: (.r 53 8 v7 x.f2.f5.length (mkL mt i7 ((mkL mt i6 ((mkL mt i5 (wrap64 (wrap64 (wrap64 ((mkL mt (x.f1.map It.s) (wrap64 (kk + 1))).2 + 1) + 1) + 1))).2)).2)).1) :: (mkL mt post2 ((mkL mt i7 ((mkL mt i6 ((mkL mt i5 (wrap64 (wrap64 (wrap64 ((mkL mt (x.f1.map It.s) (wrap64 (kk + 1))).2 + 1) + 1) + 1))).2)).2)).2)).1) (by simpa only [List.append_assoc, List.cons_append, List.nil_append] using hrow)
   obtain ⟨A1, c1, rfl, _, _, _⟩ := hs1.slice_
   have HS1 := Aside0.mk hs1
   clear hs1
   have HR1 : Aside0 (RepSs _ (x.f1.map It.s)) := ⟨rfl⟩
   have cn1 : decide (((mkL mt (x.f1.map It.s) (wrap64 (kk + 1))).2 : Int) < 0) = false := decide_eq_false (by have := bd2.1; omega)
   have BD1 := Aside0.mk (show (0 : Int) ≤ wrap64 (kk + 1) ∧ wrap64 (kk + 1) + (szL (x.f1.map It.s) : Int) ≤ 9223372036854775807 from ⟨bd1.1, by omega⟩)
   have hs5 := RowSt.sub (pre := (pre ++ [.s (mt (kk)), .r 9 1 (.slice A1 x.f1.length c1) x.f1.length (mkL mt (x.f1.map It.s) (wrap64 (kk + 1))).1, .i ((mkL mt (x.f1.map It.s) (wrap64 (kk + 1))).2), .s (mt (wrap64 ((mkL mt (x.f1.map It.s) (wrap64 (kk + 1))).2 + 1))), .i (wrap64 (wrap64 ((mkL mt (x.f1.map It.s) (wrap64 (kk + 1))).2 + 1) + 1))])) (e' := 33) (sz' := 6) (v' := v5) (n' := x.f2.f3.length) (i' := (mkL mt i5 (wrap64 (wrap64 (wrap64 ((mkL mt (x.f1.map It.s) (wrap64 (kk + 1))).2 + 1) + 1) + 1))).1) (post := (.r 68 9 v6 x.f2.f4.length (mkL mt i6 ((mkL mt i5 (wrap64 (wrap64 (wrap64 ((mkL mt (x.f1.map It.s) (wrap64 (kk + 1))).2 + 1) + 1) + 1))).2)).1) :: (.r 53 8 v7 x.f2.f5.length (mkL mt i7 ((mkL mt i6 ((mkL mt i5 (wrap64 (wrap64 (wrap64 ((mkL mt (x.f1.map It.s) (wrap64 (kk + 1))).2 + 1) + 1) + 1))).2)).2)).1) :: (mkL mt post2 ((mkL mt i7 ((mkL mt i6 ((mkL mt i5 (wrap64 (wrap64 (wrap64 ((mkL mt (x.f1.map It.s) (wrap64 (kk + 1))).2 + 1) + 1) + 1))).2)).2)).2)).1) (by simpa only [List.append_assoc, List.cons_append, List.nil_append] using hrow)
   obtain ⟨A5, c5, rfl, _, _, _⟩ := hs5.slice_
   have HS5 := Aside0.mk hs5
   clear hs5
   have HR5 : Aside0 (RepEs _ i5) := ⟨g5⟩
   have cn5 : decide (((mkL mt i5 (wrap64 (wrap64 (wrap64 ((mkL mt (x.f1.map It.s) (wrap64 (kk + 1))).2 + 1) + 1) + 1))).2 : Int) < 0) = false := decide_eq_false (by have := bd6.1; omega)
   have BD5 := Aside0.mk (show (0 : Int) ≤ wrap64 (wrap64 (wrap64 ((mkL mt (x.f1.map It.s) (wrap64 (kk + 1))).2 + 1) + 1) + 1) ∧ wrap64 (wrap64 (wrap64 ((mkL mt (x.f1.map It.s) (wrap64 (kk + 1))).2 + 1) + 1) + 1) + (szL i5 : Int) ≤ 9223372036854775807 from ⟨bd5.1, by omega⟩)
   have SZ5 : Aside0 (szL i5 < m) := ⟨by have h_ := h11; have h2_ := HM.out; simp only [szL_app, szL, szI, List.cons_append, List.nil_append] at h_; omega⟩
   have hs6 := RowSt.sub (pre := (pre ++ [.s (mt (kk)), .r 9 1 (.slice A1 x.f1.length c1) x.f1.length (mkL mt (x.f1.map It.s) (wrap64 (kk + 1))).1, .i ((mkL mt (x.f1.map It.s) (wrap64 (kk + 1))).2), .s (mt (wrap64 ((mkL mt (x.f1.map It.s) (wrap64 (kk + 1))).2 + 1))), .i (wrap64 (wrap64 ((mkL mt (x.f1.map It.s) (wrap64 (kk + 1))).2 + 1) + 1)), .r 33 6 (.slice A5 x.f2.f3.length c5) x.f2.f3.length (mkL mt i5 (wrap64 (wrap64 (wrap64 ((mkL mt (x.f1.map It.s) (wrap64 (kk + 1))).2 + 1) + 1) + 1))).1])) (e' := 68) (sz' := 9) (v' := v6) (n' := x.f2.f4.length) (i' := (mkL mt i6 ((mkL mt i5 (wrap64 (wrap64 (wrap64 ((mkL mt (x.f1.map It.s) (wrap64 (kk + 1))).2 + 1) + 1) + 1))).2)).1) (post := (.r 53 8 v7 x.f2.f5.length (mkL mt i7 ((mkL mt i6 ((mkL mt i5 (wrap64 (wrap64 (wrap64 ((mkL mt (x.f1.map It.s) (wrap64 (kk + 1))).2 + 1) + 1) + 1))).2)).2)).1) :: (mkL mt post2 ((mkL mt i7 ((mkL mt i6 ((mkL mt i5 (wrap64 (wrap64 (wrap64 ((mkL mt (x.f1.map It.s) (wrap64 (kk + 1))).2 + 1) + 1) + 1))).2)).2)).2)).1) (by simpa only [List.append_assoc, List.cons_append, List.nil_append] using hrow)
   obtain ⟨A6, c6, rfl, _, _, _⟩ := hs6.slice_
   have HS6 := Aside0.mk hs6
   clear hs6
   have HR6 : Aside0 (RepDs _ i6) := ⟨g6⟩
   have cn6 : decide (((mkL mt i6 ((mkL mt i5 (wrap64 (wrap64 (wrap64 ((mkL mt (x.f1.map It.s) (wrap64 (kk + 1))).2 + 1) + 1) + 1))).2)).2 : Int) < 0) = false := decide_eq_false (by have := bd7.1; omega)
   have BD6 := Aside0.mk (show (0 : Int) ≤ (mkL mt i5 (wrap64 (wrap64 (wrap64 ((mkL mt (x.f1.map It.s) (wrap64 (kk + 1))).2 + 1) + 1) + 1))).2 ∧ (mkL mt i5 (wrap64 (wrap64 (wrap64 ((mkL mt (x.f1.map It.s) (wrap64 (kk + 1))).2 + 1) + 1) + 1))).2 + (szL i6 : Int) ≤ 9223372036854775807 from ⟨bd6.1, by omega⟩)
   have SZ6 : Aside0 (szL i6 < m) := ⟨by have h_ := h11; have h2_ := HM.out; simp only [szL_app, szL, szI, List.cons_append, List.nil_append] at h_; omega⟩
   have hs7 := RowSt.sub (pre := (pre ++ [.s (mt (kk)), .r 9 1 (.slice A1 x.f1.length c1) x.f1.length (mkL mt (x.f1.map It.s) (wrap64 (kk + 1))).1, .i ((mkL mt (x.f1.map It.s) (wrap64 (kk + 1))).2), .s (mt (wrap64 ((mkL mt (x.f1.map It.s) (wrap64 (kk + 1))).2 + 1))), .i (wrap64 (wrap64 ((mkL mt (x.f1.map It.s) (wrap64 (kk + 1))).2 + 1) + 1)), .r 33 6 (.slice A5 x.f2.f3.length c5) x.f2.f3.length (mkL mt i5 (wrap64 (wrap64 (wrap64 ((mkL mt (x.f1.map It.s) (wrap64 (kk + 1))).2 + 1) + 1) + 1))).1, .r 68 9 (.slice A6 x.f2.f4.length c6) x.f2.f4.length (mkL mt i6 ((mkL mt i5 (wrap64 (wrap64 (wrap64 ((mkL mt (x.f1.map It.s) (wrap64 (kk + 1))).2 + 1) + 1) + 1))).2)).1])) (e' := 53) (sz' := 8) (v' := v7) (n' := x.f2.f5.length) (i' := (mkL mt i7 ((mkL mt i6 ((mkL mt i5 (wrap64 (wrap64 (wrap64 ((mkL mt (x.f1.map It.s) (wrap64 (kk + 1))).2 + 1) + 1) + 1))).2)).2)).1) (post := (mkL mt post2 ((mkL mt i7 ((mkL mt i6 ((mkL mt i5 (wrap64 (wrap64 (wrap64 ((mkL mt (x.f1.map It.s) (wrap64 (kk + 1))).2 + 1) + 1) + 1))).2)).2)).2)).1) (by simpa only [List.append_assoc, List.cons_append, List.nil_append] using hrow)
   obtain ⟨A7, c7, rfl, _, _, _⟩ := hs7.slice_
   have HS7 := Aside0.mk hs7
   clear hs7
   have HR7 : Aside0 (RepAs _ i7) := ⟨g7⟩
   have cn7 : decide (((mkL mt i7 ((mkL mt i6 ((mkL mt i5 (wrap64 (wrap64 (wrap64 ((mkL mt (x.f1.map It.s) (wrap64 (kk + 1))).2 + 1) + 1) + 1))).2)).2)).2 : Int) < 0) = false := decide_eq_false (by have := bd8.1; omega)
   have BD7 := Aside0.mk (show (0 : Int) ≤ (mkL mt i6 ((mkL mt i5 (wrap64 (wrap64 (wrap64 ((mkL mt (x.f1.map It.s) (wrap64 (kk + 1))).2 + 1) + 1) + 1))).2)).2 ∧ (mkL mt i6 ((mkL mt i5 (wrap64 (wrap64 (wrap64 ((mkL mt (x.f1.map It.s) (wrap64 (kk + 1))).2 + 1) + 1) + 1))).2)).2 + (szL i7 : Int) ≤ 9223372036854775807 from ⟨bd7.1, by omega⟩)
   have SZ7 : Aside0 (szL i7 < m) := ⟨by have h_ := h11; have h2_ := HM.out; simp only [szL_app, szL, szI, List.cons_append, List.nil_append] at h_; omega⟩
   have hx0_ := (RowSt.cell (pre := pre) (x := .s (mt (kk))) (post := (.r 9 1 (.slice A1 x.f1.length c1) x.f1.length (mkL mt (x.f1.map It.s) (wrap64 (kk + 1))).1) :: (.i ((mkL mt (x.f1.map It.s) (wrap64 (kk + 1))).2)) :: (.s (mt (wrap64 ((mkL mt (x.f1.map It.s) (wrap64 (kk + 1))).2 + 1)))) :: (.i (wrap64 (wrap64 ((mkL mt (x.f1.map It.s) (wrap64 (kk + 1))).2 + 1) + 1))) :: (.r 33 6 (.slice A5 x.f2.f3.length c5) x.f2.f3.length (mkL mt i5 (wrap64 (wrap64 (wrap64 ((mkL mt (x.f1.map It.s) (wrap64 (kk + 1))).2 + 1) + 1) + 1))).1) :: (.r 68 9 (.slice A6 x.f2.f4.length c6) x.f2.f4.length (mkL mt i6 ((mkL mt i5 (wrap64 (wrap64 (wrap64 ((mkL mt (x.f1.map It.s) (wrap64 (kk + 1))).2 + 1) + 1) + 1))).2)).1) :: (.r 53 8 (.slice A7 x.f2.f5.length c7) x.f2.f5.length (mkL mt i7 ((mkL mt i6 ((mkL mt i5 (wrap64 (wrap64 (wrap64 ((mkL mt (x.f1.map It.s) (wrap64 (kk + 1))).2 + 1) + 1) + 1))).2)).2)).1) :: (mkL mt post2 ((mkL mt i7 ((mkL mt i6 ((mkL mt i5 (wrap64 (wrap64 (wrap64 ((mkL mt (x.f1.map It.s) (wrap64 (kk + 1))).2 + 1) + 1) + 1))).2)).2)).2)).1) (by simpa only [List.append_assoc, List.cons_append, List.nil_append] using hrow) (x5.toNat * 8) (by (try simp only [List.length_append, List.length_cons, List.length_nil]); omega)).1
   simp only [It.val] at hx0_
   have ci0 : ((mt (kk)).toList != (mt (kk)).toList) = false := bne_self_eq_false _
   have KM0 := Aside0.mk (show (kk : Int) ≤ 9223372036854775807 from by omega)
   have HX0 := Aside0.mk hx0_
   have hx1_ := (RowSt.cell (pre := (pre ++ [.s (mt (kk))])) (x := .r 9 1 (.slice A1 x.f1.length c1) x.f1.length (mkL mt (x.f1.map It.s) (wrap64 (kk + 1))).1) (post := (.i ((mkL mt (x.f1.map It.s) (wrap64 (kk + 1))).2)) :: (.s (mt (wrap64 ((mkL mt (x.f1.map It.s) (wrap64 (kk + 1))).2 + 1)))) :: (.i (wrap64 (wrap64 ((mkL mt (x.f1.map It.s) (wrap64 (kk + 1))).2 + 1) + 1))) :: (.r 33 6 (.slice A5 x.f2.f3.length c5) x.f2.f3.length (mkL mt i5 (wrap64 (wrap64 (wrap64 ((mkL mt (x.f1.map It.s) (wrap64 (kk + 1))).2 + 1) + 1) + 1))).1) :: (.r 68 9 (.slice A6 x.f2.f4.length c6) x.f2.f4.length (mkL mt i6 ((mkL mt i5 (wrap64 (wrap64 (wrap64 ((mkL mt (x.f1.map It.s) (wrap64 (kk + 1))).2 + 1) + 1) + 1))).2)).1) :: (.r 53 8 (.slice A7 x.f2.f5.length c7) x.f2.f5.length (mkL mt i7 ((mkL mt i6 ((mkL mt i5 (wrap64 (wrap64 (wrap64 ((mkL mt (x.f1.map It.s) (wrap64 (kk + 1))).2 + 1) + 1) + 1))).2)).2)).1) :: (mkL mt post2 ((mkL mt i7 ((mkL mt i6 ((mkL mt i5 (wrap64 (wrap64 (wrap64 ((mkL mt (x.f1.map It.s) (wrap64 (kk + 1))).2 + 1) + 1) + 1))).2)).2)).2)).1) (by simpa only [List.append_assoc, List.cons_append, List.nil_append] using hrow) (x5.toNat * 8 + 1) (by (try simp only [List.length_append, List.length_cons, List.length_nil]); omega)).1
   simp only [It.val] at hx1_
   have HX1 := Aside0.mk hx1_
   have hx2_ := (RowSt.cell (pre := (pre ++ [.s (mt (kk)), .r 9 1 (.slice A1 x.f1.length c1) x.f1.length (mkL mt (x.f1.map It.s) (wrap64 (kk + 1))).1])) (x := .i ((mkL mt (x.f1.map It.s) (wrap64 (kk + 1))).2)) (post := (.s (mt (wrap64 ((mkL mt (x.f1.map It.s) (wrap64 (kk + 1))).2 + 1)))) :: (.i (wrap64 (wrap64 ((mkL mt (x.f1.map It.s) (wrap64 (kk + 1))).2 + 1) + 1))) :: (.r 33 6 (.slice A5 x.f2.f3.length c5) x.f2.f3.length (mkL mt i5 (wrap64 (wrap64 (wrap64 ((mkL mt (x.f1.map It.s) (wrap64 (kk + 1))).2 + 1) + 1) + 1))).1) :: (.r 68 9 (.slice A6 x.f2.f4.length c6) x.f2.f4.length (mkL mt i6 ((mkL mt i5 (wrap64 (wrap64 (wrap64 ((mkL mt (x.f1.map It.s) (wrap64 (kk + 1))).2 + 1) + 1) + 1))).2)).1) :: (.r 53 8 (.slice A7 x.f2.f5.length c7) x.f2.f5.length (mkL mt i7 ((mkL mt i6 ((mkL mt i5 (wrap64 (wrap64 (wrap64 ((mkL mt (x.f1.map It.s) (wrap64 (kk + 1))).2 + 1) + 1) + 1))).2)).2)).1) :: (mkL mt post2 ((mkL mt i7 ((mkL mt i6 ((mkL mt i5 (wrap64 (wrap64 (wrap64 ((mkL mt (x.f1.map It.s) (wrap64 (kk + 1))).2 + 1) + 1) + 1))).2)).2)).2)).1) (by simpa only [List.append_assoc, List.cons_append, List.nil_append] using hrow) (x5.toNat * 8 + 2) (by (try simp only [List.length_append, List.length_cons, List.length_nil]); omega)).1
   simp only [It.val] at hx2_
   have ci2 : (((mkL mt (x.f1.map It.s) (wrap64 (kk + 1))).2 : Int) != (mkL mt (x.f1.map It.s) (wrap64 (kk + 1))).2) = false := bne_self_eq_false _
   have HX2 := Aside0.mk hx2_
   have hx3_ := (RowSt.cell (pre := (pre ++ [.s (mt (kk)), .r 9 1 (.slice A1 x.f1.length c1) x.f1.length (mkL mt (x.f1.map It.s) (wrap64 (kk + 1))).1, .i ((mkL mt (x.f1.map It.s) (wrap64 (kk + 1))).2)])) (x := .s (mt (wrap64 ((mkL mt (x.f1.map It.s) (wrap64 (kk + 1))).2 + 1)))) (post := (.i (wrap64 (wrap64 ((mkL mt (x.f1.map It.s) (wrap64 (kk + 1))).2 + 1) + 1))) :: (.r 33 6 (.slice A5 x.f2.f3.length c5) x.f2.f3.length (mkL mt i5 (wrap64 (wrap64 (wrap64 ((mkL mt (x.f1.map It.s) (wrap64 (kk + 1))).2 + 1) + 1) + 1))).1) :: (.r 68 9 (.slice A6 x.f2.f4.length c6) x.f2.f4.length (mkL mt i6 ((mkL mt i5 (wrap64 (wrap64 (wrap64 ((mkL mt (x.f1.map It.s) (wrap64 (kk + 1))).2 + 1) + 1) + 1))).2)).1) :: (.r 53 8 (.slice A7 x.f2.f5.length c7) x.f2.f5.length (mkL mt i7 ((mkL mt i6 ((mkL mt i5 (wrap64 (wrap64 (wrap64 ((mkL mt (x.f1.map It.s) (wrap64 (kk + 1))).2 + 1) + 1) + 1))).2)).2)).1) :: (mkL mt post2 ((mkL mt i7 ((mkL mt i6 ((mkL mt i5 (wrap64 (wrap64 (wrap64 ((mkL mt (x.f1.map It.s) (wrap64 (kk + 1))).2 + 1) + 1) + 1))).2)).2)).2)).1) (by simpa only [List.append_assoc, List.cons_append, List.nil_append] using hrow) (x5.toNat * 8 + 3) (by (try simp only [List.length_append, List.length_cons, List.length_nil]); omega)).1
   simp only [It.val] at hx3_
   have ci3 : ((mt (wrap64 ((mkL mt (x.f1.map It.s) (wrap64 (kk + 1))).2 + 1))).toList != (mt (wrap64 ((mkL mt (x.f1.map It.s) (wrap64 (kk + 1))).2 + 1))).toList) = false := bne_self_eq_false _
   have KM3 := Aside0.mk (show (wrap64 ((mkL mt (x.f1.map It.s) (wrap64 (kk + 1))).2 + 1) : Int) ≤ 9223372036854775807 from by omega)
   have HX3 := Aside0.mk hx3_
   have hx4_ := (RowSt.cell (pre := (pre ++ [.s (mt (kk)), .r 9 1 (.slice A1 x.f1.length c1) x.f1.length (mkL mt (x.f1.map It.s) (wrap64 (kk + 1))).1, .i ((mkL mt (x.f1.map It.s) (wrap64 (kk + 1))).2), .s (mt (wrap64 ((mkL mt (x.f1.map It.s) (wrap64 (kk + 1))).2 + 1)))])) (x := .i (wrap64 (wrap64 ((mkL mt (x.f1.map It.s) (wrap64 (kk + 1))).2 + 1) + 1))) (post := (.r 33 6 (.slice A5 x.f2.f3.length c5) x.f2.f3.length (mkL mt i5 (wrap64 (wrap64 (wrap64 ((mkL mt (x.f1.map It.s) (wrap64 (kk + 1))).2 + 1) + 1) + 1))).1) :: (.r 68 9 (.slice A6 x.f2.f4.length c6) x.f2.f4.length (mkL mt i6 ((mkL mt i5 (wrap64 (wrap64 (wrap64 ((mkL mt (x.f1.map It.s) (wrap64 (kk + 1))).2 + 1) + 1) + 1))).2)).1) :: (.r 53 8 (.slice A7 x.f2.f5.length c7) x.f2.f5.length (mkL mt i7 ((mkL mt i6 ((mkL mt i5 (wrap64 (wrap64 (wrap64 ((mkL mt (x.f1.map It.s) (wrap64 (kk + 1))).2 + 1) + 1) + 1))).2)).2)).1) :: (mkL mt post2 ((mkL mt i7 ((mkL mt i6 ((mkL mt i5 (wrap64 (wrap64 (wrap64 ((mkL mt (x.f1.map It.s) (wrap64 (kk + 1))).2 + 1) + 1) + 1))).2)).2)).2)).1) (by simpa only [List.append_assoc, List.cons_append, List.nil_append] using hrow) (x5.toNat * 8 + 4) (by (try simp only [List.length_append, List.length_cons, List.length_nil]); omega)).1
   simp only [It.val] at hx4_
   have ci4 : ((wrap64 (wrap64 ((mkL mt (x.f1.map It.s) (wrap64 (kk + 1))).2 + 1) + 1) : Int) != wrap64 (wrap64 ((mkL mt (x.f1.map It.s) (wrap64 (kk + 1))).2 + 1) + 1)) = false := bne_self_eq_false _
   have HX4 := Aside0.mk hx4_
   have hx5_ := (RowSt.cell (pre := (pre ++ [.s (mt (kk)), .r 9 1 (.slice A1 x.f1.length c1) x.f1.length (mkL mt (x.f1.map It.s) (wrap64 (kk + 1))).1, .i ((mkL mt (x.f1.map It.s) (wrap64 (kk + 1))).2), .s (mt (wrap64 ((mkL mt (x.f1.map It.s) (wrap64 (kk + 1))).2 + 1))), .i (wrap64 (wrap64 ((mkL mt (x.f1.map It.s) (wrap64 (kk + 1))).2 + 1) + 1))])) (x := .r 33 6 (.slice A5 x.f2.f3.length c5) x.f2.f3.length (mkL mt i5 (wrap64 (wrap64 (wrap64 ((mkL mt (x.f1.map It.s) (wrap64 (kk + 1))).2 + 1) + 1) + 1))).1) (post := (.r 68 9 (.slice A6 x.f2.f4.length c6) x.f2.f4.length (mkL mt i6 ((mkL mt i5 (wrap64 (wrap64 (wrap64 ((mkL mt (x.f1.map It.s) (wrap64 (kk + 1))).2 + 1) + 1) + 1))).2)).1) :: (.r 53 8 (.slice A7 x.f2.f5.length c7) x.f2.f5.length (mkL mt i7 ((mkL mt i6 ((mkL mt i5 (wrap64 (wrap64 (wrap64 ((mkL mt (x.f1.map It.s) (wrap64 (kk + 1))).2 + 1) + 1) + 1))).2)).2)).1) :: (mkL mt post2 ((mkL mt i7 ((mkL mt i6 ((mkL mt i5 (wrap64 (wrap64 (wrap64 ((mkL mt (x.f1.map It.s) (wrap64 (kk + 1))).2 + 1) + 1) + 1))).2)).2)).2)).1) (by simpa only [List.append_assoc, List.cons_append, List.nil_append] using hrow) (x5.toNat * 8 + 5) (by (try simp only [List.length_append, List.length_cons, List.length_nil]); omega)).1
   simp only [It.val] at hx5_
   have HX5 := Aside0.mk hx5_
   have hx6_ := (RowSt.cell (pre := (pre ++ [.s (mt (kk)), .r 9 1 (.slice A1 x.f1.length c1) x.f1.length (mkL mt (x.f1.map It.s) (wrap64 (kk + 1))).1, .i ((mkL mt (x.f1.map It.s) (wrap64 (kk + 1))).2), .s (mt (wrap64 ((mkL mt (x.f1.map It.s) (wrap64 (kk + 1))).2 + 1))), .i (wrap64 (wrap64 ((mkL mt (x.f1.map It.s) (wrap64 (kk + 1))).2 + 1) + 1)), .r 33 6 (.slice A5 x.f2.f3.length c5) x.f2.f3.length (mkL mt i5 (wrap64 (wrap64 (wrap64 ((mkL mt (x.f1.map It.s) (wrap64 (kk + 1))).2 + 1) + 1) + 1))).1])) (x := .r 68 9 (.slice A6 x.f2.f4.length c6) x.f2.f4.length (mkL mt i6 ((mkL mt i5 (wrap64 (wrap64 (wrap64 ((mkL mt (x.f1.map It.s) (wrap64 (kk + 1))).2 + 1) + 1) + 1))).2)).1) (post := (.r 53 8 (.slice A7 x.f2.f5.length c7) x.f2.f5.length (mkL mt i7 ((mkL mt i6 ((mkL mt i5 (wrap64 (wrap64 (wrap64 ((mkL mt (x.f1.map It.s) (wrap64 (kk + 1))).2 + 1) + 1) + 1))).2)).2)).1) :: (mkL mt post2 ((mkL mt i7 ((mkL mt i6 ((mkL mt i5 (wrap64 (wrap64 (wrap64 ((mkL mt (x.f1.map It.s) (wrap64 (kk + 1))).2 + 1) + 1) + 1))).2)).2)).2)).1) (by simpa only [List.append_assoc, List.cons_append, List.nil_append] using hrow) (x5.toNat * 8 + 6) (by (try simp only [List.length_append, List.length_cons, List.length_nil]); omega)).1
   simp only [It.val] at hx6_
   have HX6 := Aside0.mk hx6_
   have hx7_ := (RowSt.cell (pre := (pre ++ [.s (mt (kk)), .r 9 1 (.slice A1 x.f1.length c1) x.f1.length (mkL mt (x.f1.map It.s) (wrap64 (kk + 1))).1, .i ((mkL mt (x.f1.map It.s) (wrap64 (kk + 1))).2), .s (mt (wrap64 ((mkL mt (x.f1.map It.s) (wrap64 (kk + 1))).2 + 1))), .i (wrap64 (wrap64 ((mkL mt (x.f1.map It.s) (wrap64 (kk + 1))).2 + 1) + 1)), .r 33 6 (.slice A5 x.f2.f3.length c5) x.f2.f3.length (mkL mt i5 (wrap64 (wrap64 (wrap64 ((mkL mt (x.f1.map It.s) (wrap64 (kk + 1))).2 + 1) + 1) + 1))).1, .r 68 9 (.slice A6 x.f2.f4.length c6) x.f2.f4.length (mkL mt i6 ((mkL mt i5 (wrap64 (wrap64 (wrap64 ((mkL mt (x.f1.map It.s) (wrap64 (kk + 1))).2 + 1) + 1) + 1))).2)).1])) (x := .r 53 8 (.slice A7 x.f2.f5.length c7) x.f2.f5.length (mkL mt i7 ((mkL mt i6 ((mkL mt i5 (wrap64 (wrap64 (wrap64 ((mkL mt (x.f1.map It.s) (wrap64 (kk + 1))).2 + 1) + 1) + 1))).2)).2)).1) (post := (mkL mt post2 ((mkL mt i7 ((mkL mt i6 ((mkL mt i5 (wrap64 (wrap64 (wrap64 ((mkL mt (x.f1.map It.s) (wrap64 (kk + 1))).2 + 1) + 1) + 1))).2)).2)).2)).1) (by simpa only [List.append_assoc, List.cons_append, List.nil_append] using hrow) (x5.toNat * 8 + 7) (by (try simp only [List.length_append, List.length_cons, List.length_nil]); omega)).1
   simp only [It.val] at hx7_
   have HX7 := Aside0.mk hx7_
   have HJ := Aside0.mk (And.intro h1 (And.intro h2 (And.intro h8 (And.intro h8' (And.intro bd8 (And.intro htot (And.intro h11 (And.intro hp_ h5'))))))))
   have HQ := Aside0.mk h0_
   have QM := Aside0.mk hq
   have HB := Aside0.mk hb0
   clear h0_ h1 h2 h4 h8 h8' h9 h10 h11 hq hp_ hrow htot hb0 bd0 bd1 bd2 bd3 bd4 bd5 bd6 bd7 bd8
   replace hx0_ := lc_ HB.out HX0.out
   replace hx1_ := lc_ HB.out HX1.out
   replace hx2_ := lc_ HB.out HX2.out
   replace hx3_ := lc_ HB.out HX3.out
   replace hx4_ := lc_ HB.out HX4.out
   replace hx5_ := lc_ HB.out HX5.out
   replace hx6_ := lc_ HB.out HX6.out
   replace hx7_ := lc_ HB.out HX7.out
   replace hc6 := eq_true hc6
   replace hc7 := eq_true hc7
   try go_wp2
   have n0_ := Aside0.mk (below_drew1 HB.out)
   clear HB
   have HB := n0_
   clear n0_
   refine start_ (n := 8) (S := fun w' => Below w.heap.size w w') (ds := []) #[false, false, false, false, false, false, false, false] (by kernel_rfl) rfl rfl HB.out (fun hHeld => ?_)
   generalize wr.drew = w31 at HB hHeld ⊢
   refine pure_ (i := 0) (N := some 12) (v := ?_) (a' := ?_) #[true, false, false, false, false, false, false, false] rfl rfl (by kernel_rfl) (fun _ _ _ h => h) (Or.inl ⟨by rfl, ?_⟩) ?_ ?_
   rotate_left
   ·intro w'
    go_simp
    with_reducible rfl
   rotate_left
   ·simp only [Act.put, List.setIfInBounds_toArray, List.set_cons_zero, List.set_cons_succ, i64_w, i32_w]
    rfl
   refine pure_ (i := 1) (N := some 13) (v := ?_) (a' := ?_) #[true, true, false, false, false, false, false, false] rfl rfl (by kernel_rfl) (fun _ _ _ h => h) (Or.inl ⟨by rfl, ?_⟩) ?_ ?_
   rotate_left
   ·intro w'
    go_simp
    with_reducible rfl
   rotate_left
   ·simp only [Act.put, List.setIfInBounds_toArray, List.set_cons_zero, List.set_cons_succ, i64_w, i32_w]
    rfl
   refine pure_ (i := 2) (N := some 14) (v := ?_) (a' := ?_) #[true, true, true, false, false, false, false, false] rfl rfl (by kernel_rfl) (fun _ _ _ h => h) (Or.inl ⟨by rfl, ?_⟩) ?_ ?_
   rotate_left
   ·intro w'
    go_simp
    with_reducible rfl
   rotate_left
   ·simp only [Act.put, List.setIfInBounds_toArray, List.set_cons_zero, List.set_cons_succ, i64_w, i32_w]
    rfl
   refine pure_ (i := 3) (N := some 15) (v := ?_) (a' := ?_) #[true, true, true, true, false, false, false, false] rfl rfl (by kernel_rfl) (fun _ _ _ h => h) (Or.inl ⟨by rfl, ?_⟩) ?_ ?_
   rotate_left
   ·intro w'
    go_simp
    with_reducible rfl
   rotate_left
   ·simp only [Act.put, List.setIfInBounds_toArray, List.set_cons_zero, List.set_cons_succ, i64_w, i32_w]
    rfl
   refine pure_ (i := 5) (N := some 17) (v := ?_) (a' := ?_) #[true, true, true, true, false, true, false, false] rfl rfl (by kernel_rfl) (fun _ _ _ h => h) (Or.inl ⟨by rfl, ?_⟩) ?_ ?_
   rotate_left
   ·intro w'
    go_simp
    with_reducible rfl
   rotate_left
   ·simp only [Act.put, List.setIfInBounds_toArray, List.set_cons_zero, List.set_cons_succ, i64_w, i32_w]
    rfl
   refine take_ (i := 4) (N := some 16) (v := ?_) (a' := ?_) #[true, true, true, true, true, true, false, false] rfl rfl (by kernel_rfl) (fun _ _ _ h => h) (Or.inl ⟨by rfl, ?_⟩) hHeld ?_ ?_
   rotate_left
   ·intro w' hb_
    have hy_ := lc_ hb_ HX0.out
    go_simp
    with_reducible rfl
   rotate_left
   ·simp only [Act.put, List.setIfInBounds_toArray, List.set_cons_zero, List.set_cons_succ, i64_w, i32_w]
    rfl
   refine one_ (i := 6) (N := some 18) #[true, true, true, true, true, true, true, false] rfl rfl (by kernel_rfl) (by decide) (fun K hK => ?_)
   refine goes_ Try.func57 (by kernel_rfl) rfl #[.int .i64 (kk)] (by rfl) rfl rfl (by (try simp only [List.map_toArray, List.map_cons, List.map_nil, List.append_toArray, List.cons_append, List.nil_append]); first | done | rfl) ?_
   with_reducible refine (markText_calls (kk) KM0.out _).mono ?_
   rintro e_ w32 ⟨rfl, hb⟩
   refine ⟨_, rfl, ?_⟩
   have n0_ := Aside0.mk (below_step HB.out hb)
   clear HB hb
   have HB := n0_
   clear n0_
   refine hK.out _ _ HB.out (fun hHeld => ?_)
   clear hK K
   refine norm_ (a' := ?_) ?_ ?_
   rotate_left
   ·show Act.put _ (some 18) _ = _
    simp only [Act.put, List.setIfInBounds_toArray, List.set_cons_zero, List.set_cons_succ, i64_w, i32_w]
    rfl
   refine pure_ (i := 7) (N := some 19) (v := ?_) (a' := ?_) #[true, true, true, true, true, true, true, true] rfl rfl (by kernel_rfl) (fun _ _ _ h => h) (Or.inl ⟨by rfl, ?_⟩) ?_ ?_
   rotate_left
   ·intro w'
    go_simp
    with_reducible rfl
   rotate_left
   ·simp only [Act.put, List.setIfInBounds_toArray, List.set_cons_zero, List.set_cons_succ, i64_w, i32_w]
    rfl
   refine done_ (by kernel_rfl) ?_
   have hx1_ := lc_ HB.out HX1.out
   have hx2_ := lc_ HB.out HX2.out
   have hx3_ := lc_ HB.out HX3.out
   have hx4_ := lc_ HB.out HX4.out
   have hx5_ := lc_ HB.out HX5.out
   have hx6_ := lc_ HB.out HX6.out
   have hx7_ := lc_ HB.out HX7.out
   try go_wp2_with (first | ((with_reducible refine gate_dst (N := 28) rfl ?_); (with_reducible refine gate_callee (f := 59) rfl ?_); refine goesL_ (some 28) rfl rfl Try.func59 (by kernel_rfl) rfl #[.slice A1 x.f1.length c1, .int .i64 (wrap64 (kk + 1))] rfl (by (try simp only [List.map_toArray, List.map_cons, List.map_nil, List.append_toArray, List.cons_append, List.nil_append]); first | done | rfl) ?_; refine calls_bel (w0 := w) (by repeat (first | (with_reducible first | exact HB.out | apply below_alloc | apply pw_below_drewN | apply below_drew1) | exact HB.out)) (fun hx_ => ?_); refine (stepHd59 _ _ _ _ (x.f1.map It.s) (wrap64 (kk + 1)) _ (HS1.out.below hx_) rfl (HS1.out.n_le) HR1.out (Nat.le_refl _) BD1.out.1 BD1.out.2).mono ?_; rintro e_ w33 ⟨rfl, hb⟩; refine ⟨_, rfl, ?_⟩; have n0_ := Aside0.mk (below_step hx_ hb); clear HB hx_ hb; have HB := n0_; clear n0_; have hx2_ := lc_ HB.out HX2.out; have hx3_ := lc_ HB.out HX3.out; have hx4_ := lc_ HB.out HX4.out; have hx5_ := lc_ HB.out HX5.out; have hx6_ := lc_ HB.out HX6.out; have hx7_ := lc_ HB.out HX7.out))
   have n0_ := Aside0.mk (below_drew1 HB.out)
   clear HB
   have HB := n0_
   clear n0_
   refine start_ (n := 9) (S := fun w' => Below w.heap.size w w') (ds := []) #[false, false, false, false, false, false, false, false, false] (by kernel_rfl) rfl rfl HB.out (fun hHeld => ?_)
   generalize w33.drew = w34 at HB hHeld ⊢
   refine pure_ (i := 0) (N := some 41) (v := ?_) (a' := ?_) #[true, false, false, false, false, false, false, false, false] rfl rfl (by kernel_rfl) (fun _ _ _ h => h) (Or.inl ⟨by rfl, ?_⟩) ?_ ?_
   rotate_left
   ·intro w'
    go_simp
    with_reducible rfl
   rotate_left
   ·simp only [Act.put, List.setIfInBounds_toArray, List.set_cons_zero, List.set_cons_succ, i64_w, i32_w]
    rfl
   refine pure_ (i := 1) (N := some 42) (v := ?_) (a' := ?_) #[true, true, false, false, false, false, false, false, false] rfl rfl (by kernel_rfl) (fun _ _ _ h => h) (Or.inl ⟨by rfl, ?_⟩) ?_ ?_
   rotate_left
   ·intro w'
    go_simp
    with_reducible rfl
   rotate_left
   ·simp only [Act.put, List.setIfInBounds_toArray, List.set_cons_zero, List.set_cons_succ, i64_w, i32_w]
    rfl
   refine pure_ (i := 2) (N := some 43) (v := ?_) (a' := ?_) #[true, true, true, false, false, false, false, false, false] rfl rfl (by kernel_rfl) (fun _ _ _ h => h) (Or.inl ⟨by rfl, ?_⟩) ?_ ?_
   rotate_left
   ·intro w'
    go_simp
    with_reducible rfl
   rotate_left
   ·simp only [Act.put, List.setIfInBounds_toArray, List.set_cons_zero, List.set_cons_succ, i64_w, i32_w]
    rfl
   refine pure_ (i := 3) (N := some 44) (v := ?_) (a' := ?_) #[true, true, true, true, false, false, false, false, false] rfl rfl (by kernel_rfl) (fun _ _ _ h => h) (Or.inl ⟨by rfl, ?_⟩) ?_ ?_
   rotate_left
   ·intro w'
    go_simp
    with_reducible rfl
   rotate_left
   ·simp only [Act.put, List.setIfInBounds_toArray, List.set_cons_zero, List.set_cons_succ, i64_w, i32_w]
    rfl
   refine pure_ (i := 4) (N := some 45) (v := ?_) (a' := ?_) #[true, true, true, true, true, false, false, false, false] rfl rfl (by kernel_rfl) (fun _ _ _ h => h) (Or.inl ⟨by rfl, ?_⟩) ?_ ?_
   rotate_left
   ·intro w'
    go_simp
    with_reducible rfl
   rotate_left
   ·simp only [Act.put, List.setIfInBounds_toArray, List.set_cons_zero, List.set_cons_succ, i64_w, i32_w]
    rfl
   refine pure_ (i := 6) (N := some 47) (v := ?_) (a' := ?_) #[true, true, true, true, true, false, true, false, false] rfl rfl (by kernel_rfl) (fun _ _ _ h => h) (Or.inl ⟨by rfl, ?_⟩) ?_ ?_
   rotate_left
   ·intro w'
    go_simp
    with_reducible rfl
   rotate_left
   ·simp only [Act.put, List.setIfInBounds_toArray, List.set_cons_zero, List.set_cons_succ, i64_w, i32_w]
    rfl
   refine take_ (i := 5) (N := some 46) (v := ?_) (a' := ?_) #[true, true, true, true, true, true, true, false, false] rfl rfl (by kernel_rfl) (fun _ _ _ h => h) (Or.inl ⟨by rfl, ?_⟩) hHeld ?_ ?_
   rotate_left
   ·intro w' hb_
    have hy_ := lc_ hb_ HX3.out
    go_simp
    with_reducible rfl
   rotate_left
   ·simp only [Act.put, List.setIfInBounds_toArray, List.set_cons_zero, List.set_cons_succ, i64_w, i32_w]
    rfl
   refine one_ (i := 7) (N := some 48) #[true, true, true, true, true, true, true, true, false] rfl rfl (by kernel_rfl) (by decide) (fun K hK => ?_)
   refine goes_ Try.func57 (by kernel_rfl) rfl #[.int .i64 (wrap64 ((mkL mt (x.f1.map It.s) (wrap64 (kk + 1))).2 + 1))] (by rfl) rfl rfl (by (try simp only [List.map_toArray, List.map_cons, List.map_nil, List.append_toArray, List.cons_append, List.nil_append]); first | done | rfl) ?_
   with_reducible refine (markText_calls (wrap64 ((mkL mt (x.f1.map It.s) (wrap64 (kk + 1))).2 + 1)) KM3.out _).mono ?_
   rintro e_ w35 ⟨rfl, hb⟩
   refine ⟨_, rfl, ?_⟩
   have n0_ := Aside0.mk (below_step HB.out hb)
   clear HB hb
   have HB := n0_
   clear n0_
   refine hK.out _ _ HB.out (fun hHeld => ?_)
   clear hK K
   refine norm_ (a' := ?_) ?_ ?_
   rotate_left
   ·show Act.put _ (some 48) _ = _
    simp only [Act.put, List.setIfInBounds_toArray, List.set_cons_zero, List.set_cons_succ, i64_w, i32_w]
    rfl
   refine pure_ (i := 8) (N := some 49) (v := ?_) (a' := ?_) #[true, true, true, true, true, true, true, true, true] rfl rfl (by kernel_rfl) (fun _ _ _ h => h) (Or.inl ⟨by rfl, ?_⟩) ?_ ?_
   rotate_left
   ·intro w'
    go_simp
    with_reducible rfl
   rotate_left
   ·simp only [Act.put, List.setIfInBounds_toArray, List.set_cons_zero, List.set_cons_succ, i64_w, i32_w]
    rfl
   refine done_ (by kernel_rfl) ?_
   have hx4_ := lc_ HB.out HX4.out
   have hx5_ := lc_ HB.out HX5.out
   have hx6_ := lc_ HB.out HX6.out
   have hx7_ := lc_ HB.out HX7.out
   try go_wp2_with (first | ((with_reducible refine gate_dst (N := 69) rfl ?_); (with_reducible refine gate_callee (f := 41) rfl ?_); refine goesL_ (some 69) rfl rfl Try.func41 (by kernel_rfl) rfl #[.slice A5 x.f2.f3.length c5, .int .i64 (wrap64 (wrap64 (wrap64 ((mkL mt (x.f1.map It.s) (wrap64 (kk + 1))).2 + 1) + 1) + 1))] rfl (by (try simp only [List.map_toArray, List.map_cons, List.map_nil, List.append_toArray, List.cons_append, List.nil_append]); first | done | rfl) ?_; refine calls_bel (w0 := w) (by repeat (first | (with_reducible first | exact HB.out | apply below_alloc | apply pw_below_drewN | apply below_drew1) | exact HB.out)) (fun hx_ => ?_); refine (ih41 _ SZ5.out _ _ _ i5 (wrap64 (wrap64 (wrap64 ((mkL mt (x.f1.map It.s) (wrap64 (kk + 1))).2 + 1) + 1) + 1)) _ (HS5.out.below hx_) rfl (HS5.out.n_le) HR5.out (Nat.le_refl _) BD5.out.1 BD5.out.2).mono ?_; rintro e_ w36 ⟨rfl, hb⟩; refine ⟨_, rfl, ?_⟩; have n0_ := Aside0.mk (below_step hx_ hb); clear HB hx_ hb; have HB := n0_; clear n0_; have hx6_ := lc_ HB.out HX6.out; have hx7_ := lc_ HB.out HX7.out) | ((with_reducible refine gate_dst (N := 79) rfl ?_); (with_reducible refine gate_callee (f := 42) rfl ?_); refine goesL_ (some 79) rfl rfl Try.func42 (by kernel_rfl) rfl #[.slice A6 x.f2.f4.length c6, .int .i64 ((mkL mt i5 (wrap64 (wrap64 (wrap64 ((mkL mt (x.f1.map It.s) (wrap64 (kk + 1))).2 + 1) + 1) + 1))).2)] rfl (by (try simp only [List.map_toArray, List.map_cons, List.map_nil, List.append_toArray, List.cons_append, List.nil_append]); first | done | rfl) ?_; refine calls_bel (w0 := w) (by repeat (first | (with_reducible first | exact HB.out | apply below_alloc | apply pw_below_drewN | apply below_drew1) | exact HB.out)) (fun hx_ => ?_); refine (ih42 _ SZ6.out _ _ _ i6 ((mkL mt i5 (wrap64 (wrap64 (wrap64 ((mkL mt (x.f1.map It.s) (wrap64 (kk + 1))).2 + 1) + 1) + 1))).2) _ (HS6.out.below hx_) rfl (HS6.out.n_le) HR6.out (Nat.le_refl _) BD6.out.1 BD6.out.2).mono ?_; rintro e_ w37 ⟨rfl, hb⟩; refine ⟨_, rfl, ?_⟩; have n0_ := Aside0.mk (below_step hx_ hb); clear HB hx_ hb; have HB := n0_; clear n0_; have hx7_ := lc_ HB.out HX7.out) | ((with_reducible refine gate_dst (N := 89) rfl ?_); (with_reducible refine gate_callee (f := 43) rfl ?_); refine goesL_ (some 89) rfl rfl Try.func43 (by kernel_rfl) rfl #[.slice A7 x.f2.f5.length c7, .int .i64 ((mkL mt i6 ((mkL mt i5 (wrap64 (wrap64 (wrap64 ((mkL mt (x.f1.map It.s) (wrap64 (kk + 1))).2 + 1) + 1) + 1))).2)).2)] rfl (by (try simp only [List.map_toArray, List.map_cons, List.map_nil, List.append_toArray, List.cons_append, List.nil_append]); first | done | rfl) ?_; refine calls_bel (w0 := w) (by repeat (first | (with_reducible first | exact HB.out | apply below_alloc | apply pw_below_drewN | apply below_drew1) | exact HB.out)) (fun hx_ => ?_); refine (ih43 _ SZ7.out _ _ _ i7 ((mkL mt i6 ((mkL mt i5 (wrap64 (wrap64 (wrap64 ((mkL mt (x.f1.map It.s) (wrap64 (kk + 1))).2 + 1) + 1) + 1))).2)).2) _ (HS7.out.below hx_) rfl (HS7.out.n_le) HR7.out (Nat.le_refl _) BD7.out.1 BD7.out.2).mono ?_; rintro e_ w38 ⟨rfl, hb⟩; refine ⟨_, rfl, ?_⟩; have n0_ := Aside0.mk (below_step hx_ hb); clear HB hx_ hb; have HB := n0_; clear n0_))
   go_roundg k1
   case measure => have := HQ.out; have := QM.out; omega
   case rel => exact ⟨_, wrap64 (x5 + 1), i + 1, (pre ++ [.s (mt (kk)), .r 9 1 (.slice A1 x.f1.length c1) x.f1.length (mkL mt (x.f1.map It.s) (wrap64 (kk + 1))).1, .i ((mkL mt (x.f1.map It.s) (wrap64 (kk + 1))).2), .s (mt (wrap64 ((mkL mt (x.f1.map It.s) (wrap64 (kk + 1))).2 + 1))), .i (wrap64 (wrap64 ((mkL mt (x.f1.map It.s) (wrap64 (kk + 1))).2 + 1) + 1)), .r 33 6 (.slice A5 x.f2.f3.length c5) x.f2.f3.length (mkL mt i5 (wrap64 (wrap64 (wrap64 ((mkL mt (x.f1.map It.s) (wrap64 (kk + 1))).2 + 1) + 1) + 1))).1, .r 68 9 (.slice A6 x.f2.f4.length c6) x.f2.f4.length (mkL mt i6 ((mkL mt i5 (wrap64 (wrap64 (wrap64 ((mkL mt (x.f1.map It.s) (wrap64 (kk + 1))).2 + 1) + 1) + 1))).2)).1, .r 53 8 (.slice A7 x.f2.f5.length c7) x.f2.f5.length (mkL mt i7 ((mkL mt i6 ((mkL mt i5 (wrap64 (wrap64 (wrap64 ((mkL mt (x.f1.map It.s) (wrap64 (kk + 1))).2 + 1) + 1) + 1))).2)).2)).1]), post2, l2, rfl, rfl, ⟨by have := QM.out; omega⟩, ⟨by
    obtain ⟨h1, h2, h8, h8', hbd, htot, h11, hp_, h5'⟩ := HJ.out
    have hn2 := HN.out
    simp only [List.length_cons] at h2
    refine ⟨by have := HQ.out; simp only [List.length_cons] at this; omega, by rw [h1]; unfold wrap64; omega, by omega, ?_, h5', ?_, ?_, hbd.1, by omega, ?_⟩
    · simp only [List.length_append, List.length_cons, List.length_nil]
      rw [h1, Int.toNat_natCast] at hp_
      omega
    · rw [h8]
      simp only [mkL, mkI, List.append_assoc, List.cons_append, List.nil_append]
    · rw [h8']
      simp only [mkL, mkI, List.cons_append, List.nil_append]
    · simp only [szL_app, szL, szI, List.cons_append, List.nil_append] at h11
      omega⟩, ⟨HB.out⟩⟩

set_option maxHeartbeats 8000000 in
set_option maxRecDepth 100000 in
theorem stepHd42 (m : Nat) (ih41 : ∀ m', m' < m → HdC 41 33 6 RepEs m') (ih42 : ∀ m', m' < m → HdC 42 68 9 RepDs m') (ih43 : ∀ m', m' < m → HdC 43 53 8 RepAs m') : HdC 42 68 9 RepDs m := by
 intro v n l L k w hr hn hmax hrep hsz hk0 hk
 obtain ⟨A, c, rfl, hcap, hlen, hg⟩ := hr.slice_
 have hu33 := Try.underlying33
 have hu68 := Try.underlying68
 have hu53 := Try.underlying53
 have HM := Aside0.mk hsz
 have HG := Aside0.mk hg
 have HN := Aside0.mk hmax
 have R0 := Aside0.mk hr
 have I0 := Aside0.mk (And.intro hn (And.intro hrep (And.intro hk0 hk)))
 clear hr hn hmax hrep hsz hk0 hk hcap hlen hg
 go_enter Try.func42, Try.ntmps42
 go_wp2
 go_loopg [1, 5] (n + 1) (fun kq v1 v5 w' => ∃ (kk x5 : Int) (i : Nat) (pre post : List It) (l' : List S68), v1 = .int .i64 kk ∧ v5 = .int .i64 x5 ∧ Aside0 (kq ≤ n + 1) ∧ Aside0 (l'.length < kq ∧ x5 = (i : Int) ∧ i + l'.length = n ∧ pre.length = i * 9 ∧ RepDs l' post ∧ (mkL mt L k).1 = pre ++ (mkL mt post kk).1 ∧ (mkL mt L k).2 = (mkL mt post kk).2 ∧ 0 ≤ kk ∧ kk + szL post ≤ 9223372036854775807 ∧ szL post ≤ szL L) ∧ Aside0 (Below w.heap.size w w'))
 case atStart => exact ⟨k, 0, 0, [], L, l, rfl, rfl, ⟨Nat.le_refl _⟩, ⟨by have := I0.out.1; omega, rfl, by have := I0.out.1; omega, by simp, I0.out.2.1, rfl, rfl, I0.out.2.2.1, I0.out.2.2.2, Nat.le_refl _⟩, ⟨Below.refl _ _⟩⟩
 case round =>
  obtain ⟨kk, x5, i, pre, post, l', rfl, rfl, HQ0, HI, HB0⟩ := hrel
  obtain ⟨h0_, h1, h2, h4, h5, h8, h8', h9, h10, h11⟩ := HI.out
  have hq := HQ0.out
  have hb0 := HB0.out
  clear HI HQ0 I0 HB0
  cases gk with
  | zero => exact absurd h0_ (Nat.not_lt_zero _)
  | succ k1 =>
  cases l' with
  | nil =>
   have c6b0 : decide (x5 < (n : Int)) = false := decide_eq_false (by rw [h1]; simp only [List.length_nil] at h2; omega)
   obtain rfl : post = [] := by cases h5; rfl
   simp only [mkL] at h8'
   have HF := Aside0.mk h8'
   have HB := Aside0.mk hb0
   clear h0_ h1 h2 h4 h5 h8 h8' h9 h10 h11 hq hb0
   go_wp2
   go_ret
   exact ⟨by first | rfl | (rw [HF.out]; done) | (simp [HF.out]; done), HB.out⟩
  | cons x l2 =>
   cases h5 with
   | cons h0 h5' =>
   rename_i i_ post2
   cases h0 with
   | mk hE g8 =>
   rename_i v1 v8 iE i8
   cases hE with
   | mk g5 g6 g7 =>
   rename_i v5 v6 v7 i5 i6 i7
   have hc6 : x5 < (n : Int) := by rw [h1]; simp only [List.length_cons] at h2; omega
   have hc7 : 0 ≤ x5 := by omega
   have c6b0 : decide (x5 < (n : Int)) = true := decide_eq_true hc6
   have c7b0 : decide (0 ≤ x5) = true := decide_eq_true hc7
   obtain ⟨g, rfl⟩ := HG.out (by omega)
   have hp_ : pre.length = x5.toNat * 9 := by rw [h1, Int.toNat_natCast]; exact h4
   have hrow : RowSt w 68 9 (.slice (some ⟨g, 0, none⟩) n c) n (pre ++ ((.s (mt (kk))) :: (.r 9 1 v1 x.f1.length (mkL mt (x.f1.map It.s) (wrap64 (kk + 1))).1) :: (.i ((mkL mt (x.f1.map It.s) (wrap64 (kk + 1))).2)) :: (.s (mt (wrap64 ((mkL mt (x.f1.map It.s) (wrap64 (kk + 1))).2 + 1)))) :: (.i (wrap64 (wrap64 ((mkL mt (x.f1.map It.s) (wrap64 (kk + 1))).2 + 1) + 1))) :: (.r 33 6 v5 x.f2.f3.length (mkL mt i5 (wrap64 (wrap64 (wrap64 ((mkL mt (x.f1.map It.s) (wrap64 (kk + 1))).2 + 1) + 1) + 1))).1) :: (.r 68 9 v6 x.f2.f4.length (mkL mt i6 ((mkL mt i5 (wrap64 (wrap64 (wrap64 ((mkL mt (x.f1.map It.s) (wrap64 (kk + 1))).2 + 1) + 1) + 1))).2)).1) :: (.r 53 8 v7 x.f2.f5.length (mkL mt i7 ((mkL mt i6 ((mkL mt i5 (wrap64 (wrap64 (wrap64 ((mkL mt (x.f1.map It.s) (wrap64 (kk + 1))).2 + 1) + 1) + 1))).2)).2)).1) :: (.r 68 9 v8 x.f3.length (mkL mt i8 ((mkL mt i7 ((mkL mt i6 ((mkL mt i5 (wrap64 (wrap64 (wrap64 ((mkL mt (x.f1.map It.s) (wrap64 (kk + 1))).2 + 1) + 1) + 1))).2)).2)).2)).1) :: (mkL mt post2 ((mkL mt i8 ((mkL mt i7 ((mkL mt i6 ((mkL mt i5 (wrap64 (wrap64 (wrap64 ((mkL mt (x.f1.map It.s) (wrap64 (kk + 1))).2 + 1) + 1) + 1))).2)).2)).2)).2)).1)) := by
    have h_ := R0.out
    rw [h8] at h_
    simpa only [mkL, mkI, List.cons_append, List.nil_append, List.append_assoc] using h_
   have bd0 : (0 : Int) ≤ kk ∧ kk ≤ kk := ⟨h9, Int.le_refl _⟩
   have htot : kk + 1 + (1 + (szL (x.f1.map It.s) : Int)) + 1 + 1 + 1 + (1 + (szL i5 : Int)) + (1 + (szL i6 : Int)) + (1 + (szL i7 : Int)) + (1 + (szL i8 : Int)) + (szL post2 : Int) ≤ 9223372036854775807 := by have h_ := h10; simp only [szL_app, szL, szI, List.cons_append, List.nil_append, Int.natCast_add] at h_; omega
   have bd1 : (0 : Int) ≤ wrap64 (kk + 1) ∧ wrap64 (kk + 1) ≤ kk + 1 := by rw [wrap_up bd0.1 (by omega)]; omega
   have bd2 : (0 : Int) ≤ (mkL mt (x.f1.map It.s) (wrap64 (kk + 1))).2 ∧ (mkL mt (x.f1.map It.s) (wrap64 (kk + 1))).2 ≤ kk + 1 + (1 + (szL (x.f1.map It.s) : Int)) := by have h_ := mkL_le (mt := mt) (x.f1.map It.s) (wrap64 (kk + 1)) bd1.1 (by omega); omega
   have bd3 : (0 : Int) ≤ wrap64 ((mkL mt (x.f1.map It.s) (wrap64 (kk + 1))).2 + 1) ∧ wrap64 ((mkL mt (x.f1.map It.s) (wrap64 (kk + 1))).2 + 1) ≤ kk + 1 + (1 + (szL (x.f1.map It.s) : Int)) + 1 := by rw [wrap_up bd2.1 (by omega)]; omega
   have bd4 : (0 : Int) ≤ wrap64 (wrap64 ((mkL mt (x.f1.map It.s) (wrap64 (kk + 1))).2 + 1) + 1) ∧ wrap64 (wrap64 ((mkL mt (x.f1.map It.s) (wrap64 (kk + 1))).2 + 1) + 1) ≤ kk + 1 + (1 + (szL (x.f1.map It.s) : Int)) + 1 + 1 := by rw [wrap_up bd3.1 (by omega)]; omega
   have bd5 : (0 : Int) ≤ wrap64 (wrap64 (wrap64 ((mkL mt (x.f1.map It.s) (wrap64 (kk + 1))).2 + 1) + 1) + 1) ∧ wrap64 (wrap64 (wrap64 ((mkL mt (x.f1.map It.s) (wrap64 (kk + 1))).2 + 1) + 1) + 1) ≤ kk + 1 + (1 + (szL (x.f1.map It.s) : Int)) + 1 + 1 + 1 := by rw [wrap_up bd4.1 (by omega)]; omega
   have bd6 : (0 : Int) ≤ (mkL mt i5 (wrap64 (wrap64 (wrap64 ((mkL mt (x.f1.map It.s) (wrap64 (kk + 1))).2 + 1) + 1) + 1))).2 ∧ (mkL mt i5 (wrap64 (wrap64 (wrap64 ((mkL mt (x.f1.map It.s) (wrap64 (kk + 1))).2 + 1) + 1) + 1))).2 ≤ kk + 1 + (1 + (szL (x.f1.map It.s) : Int)) + 1 + 1 + 1 + (1 + (szL i5 : Int)) := by have h_ := mkL_le (mt := mt) i5 (wrap64 (wrap64 (wrap64 ((mkL mt (x.f1.map It.s) (wrap64 (kk + 1))).2 + 1) + 1) + 1)) bd5.1 (by omega); omega
   have bd7 : (0 : Int) ≤ (mkL mt i6 ((mkL mt i5 (wrap64 (wrap64 (wrap64 ((mkL mt (x.f1.map It.s) (wrap64 (kk + 1))).2 + 1) + 1) + 1))).2)).2 ∧ (mkL mt i6 ((mkL mt i5 (wrap64 (wrap64 (wrap64 ((mkL mt (x.f1.map It.s) (wrap64 (kk + 1))).2 + 1) + 1) + 1))).2)).2 ≤ kk + 1 + (1 + (szL (x.f1.map It.s) : Int)) + 1 + 1 + 1 + (1 + (szL i5 : Int)) + (1 + (szL i6 : Int)) := by have h_ := mkL_le (mt := mt) i6 ((mkL mt i5 (wrap64 (wrap64 (wrap64 ((mkL mt (x.f1.map It.s) (wrap64 (kk + 1))).2 + 1) + 1) + 1))).2) bd6.1 (by omega); omega
   have bd8 : (0 : Int) ≤ (mkL mt i7 ((mkL mt i6 ((mkL mt i5 (wrap64 (wrap64 (wrap64 ((mkL mt (x.f1.map It.s) (wrap64 (kk + 1))).2 + 1) + 1) + 1))).2)).2)).2 ∧ (mkL mt i7 ((mkL mt i6 ((mkL mt i5 (wrap64 (wrap64 (wrap64 ((mkL mt (x.f1.map It.s) (wrap64 (kk + 1))).2 + 1) + 1) + 1))).2)).2)).2 ≤ kk + 1 + (1 + (szL (x.f1.map It.s) : Int)) + 1 + 1 + 1 + (1 + (szL i5 : Int)) + (1 + (szL i6 : Int)) + (1 + (szL i7 : Int)) := by have h_ := mkL_le (mt := mt) i7 ((mkL mt i6 ((mkL mt i5 (wrap64 (wrap64 (wrap64 ((mkL mt (x.f1.map It.s) (wrap64 (kk + 1))).2 + 1) + 1) + 1))).2)).2) bd7.1 (by omega); omega
   have bd9 : (0 : Int) ≤ (mkL mt i8 ((mkL mt i7 ((mkL mt i6 ((mkL mt i5 (wrap64 (wrap64 (wrap64 ((mkL mt (x.f1.map It.s) (wrap64 (kk + 1))).2 + 1) + 1) + 1))).2)).2)).2)).2 ∧ (mkL mt i8 ((mkL mt i7 ((mkL mt i6 ((mkL mt i5 (wrap64 (wrap64 (wrap64 ((mkL mt (x.f1.map It.s) (wrap64 (kk + 1))).2 + 1) + 1) + 1))).2)).2)).2)).2 ≤ kk + 1 + (1 + (szL (x.f1.map It.s) : Int)) + 1 + 1 + 1 + (1 + (szL i5 : Int)) + (1 + (szL i6 : Int)) + (1 + (szL i7 : Int)) + (1 + (szL i8 : Int)) := by have h_ := mkL_le (mt := mt) i8 ((mkL mt i7 ((mkL mt i6 ((mkL mt i5 (wrap64 (wrap64 (wrap64 ((mkL mt (x.f1.map It.s) (wrap64 (kk + 1))).2 + 1) + 1) + 1))).2)).2)).2) bd8.1 (by omega); omega
   have hs1 := RowSt.sub (pre := (pre ++ [.s (mt (kk))])) (e' := 9) (sz' := 1) (v' := v1) (n' := x.f1.length) (i' := (mkL mt (x.f1.map It.s) (wrap64 (kk + 1))).1) (post := (.i ((mkL mt (x.f1.map It.s) (wrap64 (kk + 1))).2)) :: (.s (mt (wrap64 ((mkL mt (x.f1.map It.s) (wrap64 (kk + 1))).2 + 1)))) :: (.i (wrap64 (wrap64 ((mkL mt (x.f1.map It.s) (wrap64 (kk + 1))).2 + 1) + 1))) :: (.r 33 6 v5 x.f2.f3.length (mkL mt i5 (wrap64 (wrap64 (wrap64 ((mkL mt (x.f1.map It.s) (wrap64 (kk + 1))).2 + 1) + 1) + 1))).1) :: (.r 68 9 v6 x.f2.f4.length (mkL mt i6 ((mkL mt i5 (wrap64 (wrap64 (wrap64 ((mkL mt (x.f1.map It.s) (wrap64 (kk + 1))).2 + 1) + 1) + 1))).2)).1) :: (.r 53 8 v7 x.f2.f5.length (mkL mt i7 ((mkL mt i6 ((mkL mt i5 (wrap64 (wrap64 (wrap64 ((mkL mt (x.f1.map It.s) (wrap64 (kk + 1))).2 + 1) + 1) + 1))).2)).2)).1) :: (.r 68 9 v8 x.f3.length (mkL mt i8 ((mkL mt i7 ((mkL mt i6 ((mkL mt i5 (wrap64 (wrap64 (wrap64 ((mkL mt (x.f1.map It.s) (wrap64 (kk + 1))).2 + 1) + 1) + 1))).2)).2)).2)).1) :: (mkL mt post2 ((mkL mt i8 ((mkL mt i7 ((mkL mt i6 ((mkL mt i5 (wrap64 (wrap64 (wrap64 ((mkL mt (x.f1.map It.s) (wrap64 (kk + 1))).2 + 1) + 1) + 1))).2)).2)).2)).2)).1) (by simpa only [List.append_assoc, List.cons_append, List.nil_append] using hrow)
   obtain ⟨A1, c1, rfl, _, _, _⟩ := hs1.slice_
   have HS1 := Aside0.mk hs1
   clear hs1
   have HR1 : Aside0 (RepSs _ (x.f1.map It.s)) := ⟨rfl⟩
   have cn1 : decide (((mkL mt (x.f1.map It.s) (wrap64 (kk + 1))).2 : Int) < 0) = false := decide_eq_false (by have := bd2.1; omega)
   have BD1 := Aside0.mk (show (0 : Int) ≤ wrap64 (kk + 1) ∧ wrap64 (kk + 1) + (szL (x.f1.map It.s) : Int) ≤ 9223372036854775807 from ⟨bd1.1, by omega⟩)
   have hs5 := RowSt.sub (pre := (pre ++ [.s (mt (kk)), .r 9 1 (.slice A1 x.f1.length c1) x.f1.length (mkL mt (x.f1.map It.s) (wrap64 (kk + 1))).1, .i ((mkL mt (x.f1.map It.s) (wrap64 (kk + 1))).2), .s (mt (wrap64 ((mkL mt (x.f1.map It.s) (wrap64 (kk + 1))).2 + 1))), .i (wrap64 (wrap64 ((mkL mt (x.f1.map It.s) (wrap64 (kk + 1))).2 + 1) + 1))])) (e' := 33) (sz' := 6) (v' := v5) (n' := x.f2.f3.length) (i' := (mkL mt i5 (wrap64 (wrap64 (wrap64 ((mkL mt (x.f1.map It.s) (wrap64 (kk + 1))).2 + 1) + 1) + 1))).1) (post := (.r 68 9 v6 x.f2.f4.length (mkL mt i6 ((mkL mt i5 (wrap64 (wrap64 (wrap64 ((mkL mt (x.f1.map It.s) (wrap64 (kk + 1))).2 + 1) + 1) + 1))).2)).1) :: (.r 53 8 v7 x.f2.f5.length (mkL mt i7 ((mkL mt i6 ((mkL mt i5 (wrap64 (wrap64 (wrap64 ((mkL mt (x.f1.map It.s) (wrap64 (kk + 1))).2 + 1) + 1) + 1))).2)).2)).1) :: (.r 68 9 v8 x.f3.length (mkL mt i8 ((mkL mt i7 ((mkL mt i6 ((mkL mt i5 (wrap64 (wrap64 (wrap64 ((mkL mt (x.f1.map It.s) (wrap64 (kk + 1))).2 + 1) + 1) + 1))).2)).2)).2)).1) :: (mkL mt post2 ((mkL mt i8 ((mkL mt i7 ((mkL mt i6 ((mkL mt i5 (wrap64 (wrap64 (wrap64 ((mkL mt (x.f1.map It.s) (wrap64 (kk + 1))).2 + 1) + 1) + 1))).2)).2)).2)).2)).1) (by simpa only [List.append_assoc, List.cons_append, List.nil_append] using hrow)
   obtain ⟨A5, c5, rfl, _, _, _⟩ := hs5.slice_
   have HS5 := Aside0.mk hs5
   clear hs5
   have HR5 : Aside0 (RepEs _ i5) := ⟨g5⟩
   have cn5 : decide (((mkL mt i5 (wrap64 (wrap64 (wrap64 ((mkL mt (x.f1.map It.s) (wrap64 (kk + 1))).2 + 1) + 1) + 1))).2 : Int) < 0) = false := decide_eq_false (by have := bd6.1; omega)
   have BD5 := Aside0.mk (show (0 : Int) ≤ wrap64 (wrap64 (wrap64 ((mkL mt (x.f1.map It.s) (wrap64 (kk + 1))).2 + 1) + 1) + 1) ∧ wrap64 (wrap64 (wrap64 ((mkL mt (x.f1.map It.s) (wrap64 (kk + 1))).2 + 1) + 1) + 1) + (szL i5 : Int) ≤ 9223372036854775807 from ⟨bd5.1, by omega⟩)
   have SZ5 : Aside0 (szL i5 < m) := ⟨by have h_ := h11; have h2_ := HM.out; simp only [szL_app, szL, szI, List.cons_append, List.nil_append] at h_; omega⟩
   have hs6 := RowSt.sub (pre := (pre ++ [.s (mt (kk)), .r 9 1 (.slice A1 x.f1.length c1) x.f1.length (mkL mt (x.f1.map It.s) (wrap64 (kk + 1))).1, .i ((mkL mt (x.f1.map It.s) (wrap64 (kk + 1))).2), .s (mt (wrap64 ((mkL mt (x.f1.map It.s) (wrap64 (kk + 1))).2 + 1))), .i (wrap64 (wrap64 ((mkL mt (x.f1.map It.s) (wrap64 (kk + 1))).2 + 1) + 1)), .r 33 6 (.slice A5 x.f2.f3.length c5) x.f2.f3.length (mkL mt i5 (wrap64 (wrap64 (wrap64 ((mkL mt (x.f1.map It.s) (wrap64 (kk + 1))).2 + 1) + 1) + 1))).1])) (e' := 68) (sz' := 9) (v' := v6) (n' := x.f2.f4.length) (i' := (mkL mt i6 ((mkL mt i5 (wrap64 (wrap64 (wrap64 ((mkL mt (x.f1.map It.s) (wrap64 (kk + 1))).2 + 1) + 1) + 1))).2)).1) (post := (.r 53 8 v7 x.f2.f5.length (mkL mt i7 ((mkL mt i6 ((mkL mt i5 (wrap64 (wrap64 (wrap64 ((mkL mt (x.f1.map It.s) (wrap64 (kk + 1))).2 + 1) + 1) + 1))).2)).2)).1) :: (.r 68 9 v8 x.f3.length (mkL mt i8 ((mkL mt i7 ((mkL mt i6 ((mkL mt i5 (wrap64 (wrap64 (wrap64 ((mkL mt (x.f1.map It.s) (wrap64 (kk + 1))).2 + 1) + 1) + 1))).2)).2)).2)).1) :: (mkL mt post2 ((mkL mt i8 ((mkL mt i7 ((mkL mt i6 ((mkL mt i5 (wrap64 (wrap64 (wrap64 ((mkL mt (x.f1.map It.s) (wrap64 (kk + 1))).2 + 1) + 1) + 1))).2)).2)).2)).2)).1) (by simpa only [List.append_assoc, List.cons_append, List.nil_append] using hrow)
   obtain ⟨A6, c6, rfl, _, _, _⟩ := hs6.slice_
   have HS6 := Aside0.mk hs6
   clear hs6
   have HR6 : Aside0 (RepDs _ i6) := ⟨g6⟩
   have cn6 : decide (((mkL mt i6 ((mkL mt i5 (wrap64 (wrap64 (wrap64 ((mkL mt (x.f1.map It.s) (wrap64 (kk + 1))).2 + 1) + 1) + 1))).2)).2 : Int) < 0) = false := decide_eq_false (by have := bd7.1; omega)
   have BD6 := Aside0.mk (show (0 : Int) ≤ (mkL mt i5 (wrap64 (wrap64 (wrap64 ((mkL mt (x.f1.map It.s) (wrap64 (kk + 1))).2 + 1) + 1) + 1))).2 ∧ (mkL mt i5 (wrap64 (wrap64 (wrap64 ((mkL mt (x.f1.map It.s) (wrap64 (kk + 1))).2 + 1) + 1) + 1))).2 + (szL i6 : Int) ≤ 9223372036854775807 from ⟨bd6.1, by omega⟩)
   have SZ6 : Aside0 (szL i6 < m) := ⟨by have h_ := h11; have h2_ := HM.out; simp only [szL_app, szL, szI, List.cons_append, List.nil_append] at h_; omega⟩
   have hs7 := RowSt.sub (pre := (pre ++ [.s (mt (kk)), .r 9 1 (.slice A1 x.f1.length c1) x.f1.length (mkL mt (x.f1.map It.s) (wrap64 (kk + 1))).1, .i ((mkL mt (x.f1.map It.s) (wrap64 (kk + 1))).2), .s (mt (wrap64 ((mkL mt (x.f1.map It.s) (wrap64 (kk + 1))).2 + 1))), .i (wrap64 (wrap64 ((mkL mt (x.f1.map It.s) (wrap64 (kk + 1))).2 + 1) + 1)), .r 33 6 (.slice A5 x.f2.f3.length c5) x.f2.f3.length (mkL mt i5 (wrap64 (wrap64 (wrap64 ((mkL mt (x.f1.map It.s) (wrap64 (kk + 1))).2 + 1) + 1) + 1))).1, .r 68 9 (.slice A6 x.f2.f4.length c6) x.f2.f4.length (mkL mt i6 ((mkL mt i5 (wrap64 (wrap64 (wrap64 ((mkL mt (x.f1.map It.s) (wrap64 (kk + 1))).2 + 1) + 1) + 1))).2)).1])) (e' := 53) (sz' := 8) (v' := v7) (n' := x.f2.f5.length) (i' := (mkL mt i7 ((mkL mt i6 ((mkL mt i5 (wrap64 (wrap64 (wrap64 ((mkL mt (x.f1.map It.s) (wrap64 (kk + 1))).2 + 1) + 1) + 1))).2)).2)).1) (post := (.r 68 9 v8 x.f3.length (mkL mt i8 ((mkL mt i7 ((mkL mt i6 ((mkL mt i5 (wrap64 (wrap64 (wrap64 ((mkL mt (x.f1.map It.s) (wrap64 (kk + 1))).2 + 1) + 1) + 1))).2)).2)).2)).1) :: (mkL mt post2 ((mkL mt i8 ((mkL mt i7 ((mkL mt i6 ((mkL mt i5 (wrap64 (wrap64 (wrap64 ((mkL mt (x.f1.map It.s) (wrap64 (kk + 1))).2 + 1) + 1) + 1))).2)).2)).2)).2)).1) (by simpa only [List.append_assoc, List.cons_append, List.nil_append] using hrow)
   obtain ⟨A7, c7, rfl, _, _, _⟩ := hs7.slice_
   have HS7 := Aside0.mk hs7
   clear hs7
   have HR7 : Aside0 (RepAs _ i7) := ⟨g7⟩
   have cn7 : decide (((mkL mt i7 ((mkL mt i6 ((mkL mt i5 (wrap64 (wrap64 (wrap64 ((mkL mt (x.f1.map It.s) (wrap64 (kk + 1))).2 + 1) + 1) + 1))).2)).2)).2 : Int) < 0) = false := decide_eq_false (by have := bd8.1; omega)
   have BD7 := Aside0.mk (show (0 : Int) ≤ (mkL mt i6 ((mkL mt i5 (wrap64 (wrap64 (wrap64 ((mkL mt (x.f1.map It.s) (wrap64 (kk + 1))).2 + 1) + 1) + 1))).2)).2 ∧ (mkL mt i6 ((mkL mt i5 (wrap64 (wrap64 (wrap64 ((mkL mt (x.f1.map It.s) (wrap64 (kk + 1))).2 + 1) + 1) + 1))).2)).2 + (szL i7 : Int) ≤ 9223372036854775807 from ⟨bd7.1, by omega⟩)
   have SZ7 : Aside0 (szL i7 < m) := ⟨by have h_ := h11; have h2_ := HM.out; simp only [szL_app, szL, szI, List.cons_append, List.nil_append] at h_; omega⟩
   have hs8 := RowSt.sub (pre := (pre ++ [.s (mt (kk)), .r 9 1 (.slice A1 x.f1.length c1) x.f1.length (mkL mt (x.f1.map It.s) (wrap64 (kk + 1))).1, .i ((mkL mt (x.f1.map It.s) (wrap64 (kk + 1))).2), .s (mt (wrap64 ((mkL mt (x.f1.map It.s) (wrap64 (kk + 1))).2 + 1))), .i (wrap64 (wrap64 ((mkL mt (x.f1.map It.s) (wrap64 (kk + 1))).2 + 1) + 1)), .r 33 6 (.slice A5 x.f2.f3.length c5) x.f2.f3.length (mkL mt i5 (wrap64 (wrap64 (wrap64 ((mkL mt (x.f1.map It.s) (wrap64 (kk + 1))).2 + 1) + 1) + 1))).1, .r 68 9 (.slice A6 x.f2.f4.length c6) x.f2.f4.length (mkL mt i6 ((mkL mt i5 (wrap64 (wrap64 (wrap64 ((mkL mt (x.f1.map It.s) (wrap64 (kk + 1))).2 + 1) + 1) + 1))).2)).1, .r 53 8 (.slice A7 x.f2.f5.length c7) x.f2.f5.length (mkL mt i7 ((mkL mt i6 ((mkL mt i5 (wrap64 (wrap64 (wrap64 ((mkL mt (x.f1.map It.s) (wrap64 (kk + 1))).2 + 1) + 1) + 1))).2)).2)).1])) (e' := 68) (sz' := 9) (v' := v8) (n' := x.f3.length) (i' := (mkL mt i8 ((mkL mt i7 ((mkL mt i6 ((mkL mt i5 (wrap64 (wrap64 (wrap64 ((mkL mt (x.f1.map It.s) (wrap64 (kk + 1))).2 + 1) + 1) + 1))).2)).2)).2)).1) (post := (mkL mt post2 ((mkL mt i8 ((mkL mt i7 ((mkL mt i6 ((mkL mt i5 (wrap64 (wrap64 (wrap64 ((mkL mt (x.f1.map It.s) (wrap64 (kk + 1))).2 + 1) + 1) + 1))).2)).2)).2)).2)).1) (by simpa only [List.append_assoc, List.cons_append, List.nil_append] using hrow)
   obtain ⟨A8, c8, rfl, _, _, _⟩ := hs8.slice_
   have HS8 := Aside0.mk hs8
   clear hs8
   have HR8 : Aside0 (RepDs _ i8) := ⟨g8⟩
   have cn8 : decide (((mkL mt i8 ((mkL mt i7 ((mkL mt i6 ((mkL mt i5 (wrap64 (wrap64 (wrap64 ((mkL mt (x.f1.map It.s) (wrap64 (kk + 1))).2 + 1) + 1) + 1))).2)).2)).2)).2 : Int) < 0) = false := decide_eq_false (by have := bd9.1; omega)
   have BD8 := Aside0.mk (show (0 : Int) ≤ (mkL mt i7 ((mkL mt i6 ((mkL mt i5 (wrap64 (wrap64 (wrap64 ((mkL mt (x.f1.map It.s) (wrap64 (kk + 1))).2 + 1) + 1) + 1))).2)).2)).2 ∧ (mkL mt i7 ((mkL mt i6 ((mkL mt i5 (wrap64 (wrap64 (wrap64 ((mkL mt (x.f1.map It.s) (wrap64 (kk + 1))).2 + 1) + 1) + 1))).2)).2)).2 + (szL i8 : Int) ≤ 9223372036854775807 from ⟨bd8.1, by omega⟩)
   have SZ8 : Aside0 (szL i8 < m) := ⟨by have h_ := h11; have h2_ := HM.out; simp only [szL_app, szL, szI, List.cons_append, List.nil_append] at h_; omega⟩
   have hx0_ := (RowSt.cell (pre := pre) (x := .s (mt (kk))) (post := (.r 9 1 (.slice A1 x.f1.length c1) x.f1.length (mkL mt (x.f1.map It.s) (wrap64 (kk + 1))).1) :: (.i ((mkL mt (x.f1.map It.s) (wrap64 (kk + 1))).2)) :: (.s (mt (wrap64 ((mkL mt (x.f1.map It.s) (wrap64 (kk + 1))).2 + 1)))) :: (.i (wrap64 (wrap64 ((mkL mt (x.f1.map It.s) (wrap64 (kk + 1))).2 + 1) + 1))) :: (.r 33 6 (.slice A5 x.f2.f3.length c5) x.f2.f3.length (mkL mt i5 (wrap64 (wrap64 (wrap64 ((mkL mt (x.f1.map It.s) (wrap64 (kk + 1))).2 + 1) + 1) + 1))).1) :: (.r 68 9 (.slice A6 x.f2.f4.length c6) x.f2.f4.length (mkL mt i6 ((mkL mt i5 (wrap64 (wrap64 (wrap64 ((mkL mt (x.f1.map It.s) (wrap64 (kk + 1))).2 + 1) + 1) + 1))).2)).1) :: (.r 53 8 (.slice A7 x.f2.f5.length c7) x.f2.f5.length (mkL mt i7 ((mkL mt i6 ((mkL mt i5 (wrap64 (wrap64 (wrap64 ((mkL mt (x.f1.map It.s) (wrap64 (kk + 1))).2 + 1) + 1) + 1))).2)).2)).1) :: (.r 68 9 (.slice A8 x.f3.length c8) x.f3.length (mkL mt i8 ((mkL mt i7 ((mkL mt i6 ((mkL mt i5 (wrap64 (wrap64 (wrap64 ((mkL mt (x.f1.map It.s) (wrap64 (kk + 1))).2 + 1) + 1) + 1))).2)).2)).2)).1) :: (mkL mt post2 ((mkL mt i8 ((mkL mt i7 ((mkL mt i6 ((mkL mt i5 (wrap64 (wrap64 (wrap64 ((mkL mt (x.f1.map It.s) (wrap64 (kk + 1))).2 + 1) + 1) + 1))).2)).2)).2)).2)).1) (by simpa only [List.append_assoc, List.cons_append, List.nil_append] using hrow) (x5.toNat * 9) (by (try simp only [List.length_append, List.length_cons, List.length_nil]); omega)).1
   simp only [It.val] at hx0_
   have ci0 : ((mt (kk)).toList != (mt (kk)).toList) = false := bne_self_eq_false _
   have KM0 := Aside0.mk (show (kk : Int) ≤ 9223372036854775807 from by omega)
   have HX0 := Aside0.mk hx0_
   have hx1_ := (RowSt.cell (pre := (pre ++ [.s (mt (kk))])) (x := .r 9 1 (.slice A1 x.f1.length c1) x.f1.length (mkL mt (x.f1.map It.s) (wrap64 (kk + 1))).1) (post := (.i ((mkL mt (x.f1.map It.s) (wrap64 (kk + 1))).2)) :: (.s (mt (wrap64 ((mkL mt (x.f1.map It.s) (wrap64 (kk + 1))).2 + 1)))) :: (.i (wrap64 (wrap64 ((mkL mt (x.f1.map It.s) (wrap64 (kk + 1))).2 + 1) + 1))) :: (.r 33 6 (.slice A5 x.f2.f3.length c5) x.f2.f3.length (mkL mt i5 (wrap64 (wrap64 (wrap64 ((mkL mt (x.f1.map It.s) (wrap64 (kk + 1))).2 + 1) + 1) + 1))).1) :: (.r 68 9 (.slice A6 x.f2.f4.length c6) x.f2.f4.length (mkL mt i6 ((mkL mt i5 (wrap64 (wrap64 (wrap64 ((mkL mt (x.f1.map It.s) (wrap64 (kk + 1))).2 + 1) + 1) + 1))).2)).1) :: (.r 53 8 (.slice A7 x.f2.f5.length c7) x.f2.f5.length (mkL mt i7 ((mkL mt i6 ((mkL mt i5 (wrap64 (wrap64 (wrap64 ((mkL mt (x.f1.map It.s) (wrap64 (kk + 1))).2 + 1) + 1) + 1))).2)).2)).1) :: (.r 68 9 (.slice A8 x.f3.length c8) x.f3.length (mkL mt i8 ((mkL mt i7 ((mkL mt i6 ((mkL mt i5 (wrap64 (wrap64 (wrap64 ((mkL mt (x.f1.map It.s) (wrap64 (kk + 1))).2 + 1) + 1) + 1))).2)).2)).2)).1) :: (mkL mt post2 ((mkL mt i8 ((mkL mt i7 ((mkL mt i6 ((mkL mt i5 (wrap64 (wrap64 (wrap64 ((mkL mt (x.f1.map It.s) (wrap64 (kk + 1))).2 + 1) + 1) + 1))).2)).2)).2)).2)).1) (by simpa only [List.append_assoc, List.cons_append, List.nil_append] using hrow) (x5.toNat * 9 + 1) (by (try simp only [List.length_append, List.length_cons, List.length_nil]); omega)).1
   simp only [It.val] at hx1_
   have HX1 := Aside0.mk hx1_
   have hx2_ := (RowSt.cell (pre := (pre ++ [.s (mt (kk)), .r 9 1 (.slice A1 x.f1.length c1) x.f1.length (mkL mt (x.f1.map It.s) (wrap64 (kk + 1))).1])) (x := .i ((mkL mt (x.f1.map It.s) (wrap64 (kk + 1))).2)) (post := (.s (mt (wrap64 ((mkL mt (x.f1.map It.s) (wrap64 (kk + 1))).2 + 1)))) :: (.i (wrap64 (wrap64 ((mkL mt (x.f1.map It.s) (wrap64 (kk + 1))).2 + 1) + 1))) :: (.r 33 6 (.slice A5 x.f2.f3.length c5) x.f2.f3.length (mkL mt i5 (wrap64 (wrap64 (wrap64 ((mkL mt (x.f1.map It.s) (wrap64 (kk + 1))).2 + 1) + 1) + 1))).1) :: (.r 68 9 (.slice A6 x.f2.f4.length c6) x.f2.f4.length (mkL mt i6 ((mkL mt i5 (wrap64 (wrap64 (wrap64 ((mkL mt (x.f1.map It.s) (wrap64 (kk + 1))).2 + 1) + 1) + 1))).2)).1) :: (.r 53 8 (.slice A7 x.f2.f5.length c7) x.f2.f5.length (mkL mt i7 ((mkL mt i6 ((mkL mt i5 (wrap64 (wrap64 (wrap64 ((mkL mt (x.f1.map It.s) (wrap64 (kk + 1))).2 + 1) + 1) + 1))).2)).2)).1) :: (.r 68 9 (.slice A8 x.f3.length c8) x.f3.length (mkL mt i8 ((mkL mt i7 ((mkL mt i6 ((mkL mt i5 (wrap64 (wrap64 (wrap64 ((mkL mt (x.f1.map It.s) (wrap64 (kk + 1))).2 + 1) + 1) + 1))).2)).2)).2)).1) :: (mkL mt post2 ((mkL mt i8 ((mkL mt i7 ((mkL mt i6 ((mkL mt i5 (wrap64 (wrap64 (wrap64 ((mkL mt (x.f1.map It.s) (wrap64 (kk + 1))).2 + 1) + 1) + 1))).2)).2)).2)).2)).1) (by simpa only [List.append_assoc, List.cons_append, List.nil_append] using hrow) (x5.toNat * 9 + 2) (by (try simp only [List.length_append, List.length_cons, List.length_nil]); omega)).1
   simp only [It.val] at hx2_
   have ci2 : (((mkL mt (x.f1.map It.s) (wrap64 (kk + 1))).2 : Int) != (mkL mt (x.f1.map It.s) (wrap64 (kk + 1))).2) = false := bne_self_eq_false _
   have HX2 := Aside0.mk hx2_
   have hx3_ := (RowSt.cell (pre := (pre ++ [.s (mt (kk)), .r 9 1 (.slice A1 x.f1.length c1) x.f1.length (mkL mt (x.f1.map It.s) (wrap64 (kk + 1))).1, .i ((mkL mt (x.f1.map It.s) (wrap64 (kk + 1))).2)])) (x := .s (mt (wrap64 ((mkL mt (x.f1.map It.s) (wrap64 (kk + 1))).2 + 1)))) (post := (.i (wrap64 (wrap64 ((mkL mt (x.f1.map It.s) (wrap64 (kk + 1))).2 + 1) + 1))) :: (.r 33 6 (.slice A5 x.f2.f3.length c5) x.f2.f3.length (mkL mt i5 (wrap64 (wrap64 (wrap64 ((mkL mt (x.f1.map It.s) (wrap64 (kk + 1))).2 + 1) + 1) + 1))).1) :: (.r 68 9 (.slice A6 x.f2.f4.length c6) x.f2.f4.length (mkL mt i6 ((mkL mt i5 (wrap64 (wrap64 (wrap64 ((mkL mt (x.f1.map It.s) (wrap64 (kk + 1))).2 + 1) + 1) + 1))).2)).1) :: (.r 53 8 (.slice A7 x.f2.f5.length c7) x.f2.f5.length (mkL mt i7 ((mkL mt i6 ((mkL mt i5 (wrap64 (wrap64 (wrap64 ((mkL mt (x.f1.map It.s) (wrap64 (kk + 1))).2 + 1) + 1) + 1))).2)).2)).1) :: (.r 68 9 (.slice A8 x.f3.length c8) x.f3.length (mkL mt i8 ((mkL mt i7 ((mkL mt i6 ((mkL mt i5 (wrap64 (wrap64 (wrap64 ((mkL mt (x.f1.map It.s) (wrap64 (kk + 1))).2 + 1) + 1) + 1))).2)).2)).2)).1) :: (mkL mt post2 ((mkL mt i8 ((mkL mt i7 ((mkL mt i6 ((mkL mt i5 (wrap64 (wrap64 (wrap64 ((mkL mt (x.f1.map It.s) (wrap64 (kk + 1))).2 + 1) + 1) + 1))).2)).2)).2)).2)).1) (by simpa only [List.append_assoc, List.cons_append, List.nil_append] using hrow) (x5.toNat * 9 + 3) (by (try simp only [List.length_append, List.length_cons, List.length_nil]); omega)).1
   simp only [It.val] at hx3_
   have ci3 : ((mt (wrap64 ((mkL mt (x.f1.map It.s) (wrap64 (kk + 1))).2 + 1))).toList != (mt (wrap64 ((mkL mt (x.f1.map It.s) (wrap64 (kk + 1))).2 + 1))).toList) = false := bne_self_eq_false _
   have KM3 := Aside0.mk (show (wrap64 ((mkL mt (x.f1.map It.s) (wrap64 (kk + 1))).2 + 1) : Int) ≤ 9223372036854775807 from by omega)
   have HX3 := Aside0.mk hx3_
   have hx4_ := (RowSt.cell (pre := (pre ++ [.s (mt (kk)), .r 9 1 (.slice A1 x.f1.length c1) x.f1.length (mkL mt (x.f1.map It.s) (wrap64 (kk + 1))).1, .i ((mkL mt (x.f1.map It.s) (wrap64 (kk + 1))).2), .s (mt (wrap64 ((mkL mt (x.f1.map It.s) (wrap64 (kk + 1))).2 + 1)))])) (x := .i (wrap64 (wrap64 ((mkL mt (x.f1.map It.s) (wrap64 (kk + 1))).2 + 1) + 1))) (post := (.r 33 6 (.slice A5 x.f2.f3.length c5) x.f2.f3.length (mkL mt i5 (wrap64 (wrap64 (wrap64 ((mkL mt (x.f1.map It.s) (wrap64 (kk + 1))).2 + 1) + 1) + 1))).1) :: (.r 68 9 (.slice A6 x.f2.f4.length c6) x.f2.f4.length (mkL mt i6 ((mkL mt i5 (wrap64 (wrap64 (wrap64 ((mkL mt (x.f1.map It.s) (wrap64 (kk + 1))).2 + 1) + 1) + 1))).2)).1) :: (.r 53 8 (.slice A7 x.f2.f5.length c7) x.f2.f5.length (mkL mt i7 ((mkL mt i6 ((mkL mt i5 (wrap64 (wrap64 (wrap64 ((mkL mt (x.f1.map It.s) (wrap64 (kk + 1))).2 + 1) + 1) + 1))).2)).2)).1) :: (.r 68 9 (.slice A8 x.f3.length c8) x.f3.length (mkL mt i8 ((mkL mt i7 ((mkL mt i6 ((mkL mt i5 (wrap64 (wrap64 (wrap64 ((mkL mt (x.f1.map It.s) (wrap64 (kk + 1))).2 + 1) + 1) + 1))).2)).2)).2)).1) :: (mkL mt post2 ((mkL mt i8 ((mkL mt i7 ((mkL mt i6 ((mkL mt i5 (wrap64 (wrap64 (wrap64 ((mkL mt (x.f1.map It.s) (wrap64 (kk + 1))).2 + 1) + 1) + 1))).2)).2)).2)).2)).1) (by simpa only [List.append_assoc, List.cons_append, List.nil_append] using hrow) (x5.toNat * 9 + 4) (by (try simp only [List.length_append, List.length_cons, List.length_nil]); omega)).1
   simp only [It.val] at hx4_
   have ci4 : ((wrap64 (wrap64 ((mkL mt (x.f1.map It.s) (wrap64 (kk + 1))).2 + 1) + 1) : Int) != wrap64 (wrap64 ((mkL mt (x.f1.map It.s) (wrap64 (kk + 1))).2 + 1) + 1)) = false := bne_self_eq_false _
   have HX4 := Aside0.mk hx4_
   have hx5_ := (RowSt.cell (pre := (pre ++ [.s (mt (kk)), .r 9 1 (.slice A1 x.f1.length c1) x.f1.length (mkL mt (x.f1.map It.s) (wrap64 (kk + 1))).1, .i ((mkL mt (x.f1.map It.s) (wrap64 (kk + 1))).2), .s (mt (wrap64 ((mkL mt (x.f1.map It.s) (wrap64 (kk + 1))).2 + 1))), .i (wrap64 (wrap64 ((mkL mt (x.f1.map It.s) (wrap64 (kk + 1))).2 + 1) + 1))])) (x := .r 33 6 (.slice A5 x.f2.f3.length c5) x.f2.f3.length (mkL mt i5 (wrap64 (wrap64 (wrap64 ((mkL mt (x.f1.map It.s) (wrap64 (kk + 1))).2 + 1) + 1) + 1))).1) (post := (.r 68 9 (.slice A6 x.f2.f4.length c6) x.f2.f4.length (mkL mt i6 ((mkL mt i5 (wrap64 (wrap64 (wrap64 ((mkL mt (x.f1.map It.s) (wrap64 (kk + 1))).2 + 1) + 1) + 1))).2)).1) :: (.r 53 8 (.slice A7 x.f2.f5.length c7) x.f2.f5.length (mkL mt i7 ((mkL mt i6 ((mkL mt i5 (wrap64 (wrap64 (wrap64 ((mkL mt (x.f1.map It.s) (wrap64 (kk + 1))).2 + 1) + 1) + 1))).2)).2)).1) :: (.r 68 9 (.slice A8 x.f3.length c8) x.f3.length (mkL mt i8 ((mkL mt i7 ((mkL mt i6 ((mkL mt i5 (wrap64 (wrap64 (wrap64 ((mkL mt (x.f1.map It.s) (wrap64 (kk + 1))).2 + 1) + 1) + 1))).2)).2)).2)).1) :: (mkL mt post2 ((mkL mt i8 ((mkL mt i7 ((mkL mt i6 ((mkL mt i5 (wrap64 (wrap64 (wrap64 ((mkL mt (x.f1.map It.s) (wrap64 (kk + 1))).2 + 1) + 1) + 1))).2)).2)).2)).2)).1) (by simpa only [List.append_assoc, List.cons_append, List.nil_append] using hrow) (x5.toNat * 9 + 5) (by (try simp only [List.length_append, List.length_cons, List.length_nil]); omega)).1
   simp only [It.val] at hx5_
   have HX5 := Aside0.mk hx5_
   have hx6_ := (RowSt.cell (pre := (pre ++ [.s (mt (kk)), .r 9 1 (.slice A1 x.f1.length c1) x.f1.length (mkL mt (x.f1.map It.s) (wrap64 (kk + 1))).1, .i ((mkL mt (x.f1.map It.s) (wrap64 (kk + 1))).2), .s (mt (wrap64 ((mkL mt (x.f1.map It.s) (wrap64 (kk + 1))).2 + 1))), .i (wrap64 (wrap64 ((mkL mt (x.f1.map It.s) (wrap64 (kk + 1))).2 + 1) + 1)), .r 33 6 (.slice A5 x.f2.f3.length c5) x.f2.f3.length (mkL mt i5 (wrap64 (wrap64 (wrap64 ((mkL mt (x.f1.map It.s) (wrap64 (kk + 1))).2 + 1) + 1) + 1))).1])) (x := .r 68 9 (.slice A6 x.f2.f4.length c6) x.f2.f4.length (mkL mt i6 ((mkL mt i5 (wrap64 (wrap64 (wrap64 ((mkL mt (x.f1.map It.s) (wrap64 (kk + 1))).2 + 1) + 1) + 1))).2)).1) (post := (.r 53 8 (.slice A7 x.f2.f5.length c7) x.f2.f5.length (mkL mt i7 ((mkL mt i6 ((mkL mt i5 (wrap64 (wrap64 (wrap64 ((mkL mt (x.f1.map It.s) (wrap64 (kk + 1))).2 + 1) + 1) + 1))).2)).2)).1) :: (.r 68 9 (.slice A8 x.f3.length c8) x.f3.length (mkL mt i8 ((mkL mt i7 ((mkL mt i6 ((mkL mt i5 (wrap64 (wrap64 (wrap64 ((mkL mt (x.f1.map It.s) (wrap64 (kk + 1))).2 + 1) + 1) + 1))).2)).2)).2)).1) :: (mkL mt post2 ((mkL mt i8 ((mkL mt i7 ((mkL mt i6 ((mkL mt i5 (wrap64 (wrap64 (wrap64 ((mkL mt (x.f1.map It.s) (wrap64 (kk + 1))).2 + 1) + 1) + 1))).2)).2)).2)).2)).1) (by simpa only [List.append_assoc, List.cons_append, List.nil_append] using hrow) (x5.toNat * 9 + 6) (by (try simp only [List.length_append, List.length_cons, List.length_nil]); omega)).1
   simp only [It.val] at hx6_
   have HX6 := Aside0.mk hx6_
   have hx7_ := (RowSt.cell (pre := (pre ++ [.s (mt (kk)), .r 9 1 (.slice A1 x.f1.length c1) x.f1.length (mkL mt (x.f1.map It.s) (wrap64 (kk + 1))).1, .i ((mkL mt (x.f1.map It.s) (wrap64 (kk + 1))).2), .s (mt (wrap64 ((mkL mt (x.f1.map It.s) (wrap64 (kk + 1))).2 + 1))), .i (wrap64 (wrap64 ((mkL mt (x.f1.map It.s) (wrap64 (kk + 1))).2 + 1) + 1)), .r 33 6 (.slice A5 x.f2.f3.length c5) x.f2.f3.length (mkL mt i5 (wrap64 (wrap64 (wrap64 ((mkL mt (x.f1.map It.s) (wrap64 (kk + 1))).2 + 1) + 1) + 1))).1, .r 68 9 (.slice A6 x.f2.f4.length c6) x.f2.f4.length (mkL mt i6 ((mkL mt i5 (wrap64 (wrap64 (wrap64 ((mkL mt (x.f1.map It.s) (wrap64 (kk + 1))).2 + 1) + 1) + 1))).2)).1])) (x := .r 53 8 (.slice A7 x.f2.f5.length c7) x.f2.f5.length (mkL mt i7 ((mkL mt i6 ((mkL mt i5 (wrap64 (wrap64 (wrap64 ((mkL mt (x.f1.map It.s) (wrap64 (kk + 1))).2 + 1) + 1) + 1))).2)).2)).1) (post := (.r 68 9 (.slice A8 x.f3.length c8) x.f3.length (mkL mt i8 ((mkL mt i7 ((mkL mt i6 ((mkL mt i5 (wrap64 (wrap64 (wrap64 ((mkL mt (x.f1.map It.s) (wrap64 (kk + 1))).2 + 1) + 1) + 1))).2)).2)).2)).1) :: (mkL mt post2 ((mkL mt i8 ((mkL mt i7 ((mkL mt i6 ((mkL mt i5 (wrap64 (wrap64 (wrap64 ((mkL mt (x.f1.map It.s) (wrap64 (kk + 1))).2 + 1) + 1) + 1))).2)).2)).2)).2)).1) (by simpa only [List.append_assoc, List.cons_append, List.nil_append] using hrow) (x5.toNat * 9 + 7) (by (try simp only [List.length_append, List.length_cons, List.length_nil]); omega)).1
   simp only [It.val] at hx7_
   have HX7 := Aside0.mk hx7_
   have hx8_ := (RowSt.cell (pre := (pre ++ [.s (mt (kk)), .r 9 1 (.slice A1 x.f1.length c1) x.f1.length (mkL mt (x.f1.map It.s) (wrap64 (kk + 1))).1, .i ((mkL mt (x.f1.map It.s) (wrap64 (kk + 1))).2), .s (mt (wrap64 ((mkL mt (x.f1.map It.s) (wrap64 (kk + 1))).2 + 1))), .i (wrap64 (wrap64 ((mkL mt (x.f1.map It.s) (wrap64 (kk + 1))).2 + 1) + 1)), .r 33 6 (.slice A5 x.f2.f3.length c5) x.f2.f3.length (mkL mt i5 (wrap64 (wrap64 (wrap64 ((mkL mt (x.f1.map It.s) (wrap64 (kk + 1))).2 + 1) + 1) + 1))).1, .r 68 9 (.slice A6 x.f2.f4.length c6) x.f2.f4.length (mkL mt i6 ((mkL mt i5 (wrap64 (wrap64 (wrap64 ((mkL mt (x.f1.map It.s) (wrap64 (kk + 1))).2 + 1) + 1) + 1))).2)).1, .r 53 8 (.slice A7 x.f2.f5.length c7) x.f2.f5.length (mkL mt i7 ((mkL mt i6 ((mkL mt i5 (wrap64 (wrap64 (wrap64 ((mkL mt (x.f1.map It.s) (wrap64 (kk + 1))).2 + 1) + 1) + 1))).2)).2)).1])) (x := .r 68 9 (.slice A8 x.f3.length c8) x.f3.length (mkL mt i8 ((mkL mt i7 ((mkL mt i6 ((mkL mt i5 (wrap64 (wrap64 (wrap64 ((mkL mt (x.f1.map It.s) (wrap64 (kk + 1))).2 + 1) + 1) + 1))).2)).2)).2)).1) (post := (mkL mt post2 ((mkL mt i8 ((mkL mt i7 ((mkL mt i6 ((mkL mt i5 (wrap64 (wrap64 (wrap64 ((mkL mt (x.f1.map It.s) (wrap64 (kk + 1))).2 + 1) + 1) + 1))).2)).2)).2)).2)).1) (by simpa only [List.append_assoc, List.cons_append, List.nil_append] using hrow) (x5.toNat * 9 + 8) (by (try simp only [List.length_append, List.length_cons, List.length_nil]); omega)).1
   simp only [It.val] at hx8_
   have HX8 := Aside0.mk hx8_
   have HJ := Aside0.mk (And.intro h1 (And.intro h2 (And.intro h8 (And.intro h8' (And.intro bd9 (And.intro htot (And.intro h11 (And.intro hp_ h5'))))))))
   have HQ := Aside0.mk h0_
   have QM := Aside0.mk hq
   have HB := Aside0.mk hb0
   clear h0_ h1 h2 h4 h8 h8' h9 h10 h11 hq hp_ hrow htot hb0 bd0 bd1 bd2 bd3 bd4 bd5 bd6 bd7 bd8 bd9
   replace hx0_ := lc_ HB.out HX0.out
   replace hx1_ := lc_ HB.out HX1.out
   replace hx2_ := lc_ HB.out HX2.out
   replace hx3_ := lc_ HB.out HX3.out
   replace hx4_ := lc_ HB.out HX4.out
   replace hx5_ := lc_ HB.out HX5.out
   replace hx6_ := lc_ HB.out HX6.out
   replace hx7_ := lc_ HB.out HX7.out
   replace hx8_ := lc_ HB.out HX8.out
   replace hc6 := eq_true hc6
   replace hc7 := eq_true hc7
   try go_wp2
   have n0_ := Aside0.mk (below_drew1 HB.out)
   clear HB
   have HB := n0_
   clear n0_
   refine start_ (n := 8) (S := fun w' => Below w.heap.size w w') (ds := []) #[false, false, false, false, false, false, false, false] (by kernel_rfl) rfl rfl HB.out (fun hHeld => ?_)
   generalize wr.drew = w31 at HB hHeld ⊢
   refine pure_ (i := 0) (N := some 12) (v := ?_) (a' := ?_) #[true, false, false, false, false, false, false, false] rfl rfl (by kernel_rfl) (fun _ _ _ h => h) (Or.inl ⟨by rfl, ?_⟩) ?_ ?_
   rotate_left
   ·intro w'
    go_simp
    with_reducible rfl
   rotate_left
   ·simp only [Act.put, List.setIfInBounds_toArray, List.set_cons_zero, List.set_cons_succ, i64_w, i32_w]
    rfl
   refine pure_ (i := 1) (N := some 13) (v := ?_) (a' := ?_) #[true, true, false, false, false, false, false, false] rfl rfl (by kernel_rfl) (fun _ _ _ h => h) (Or.inl ⟨by rfl, ?_⟩) ?_ ?_
   rotate_left
   ·intro w'
    go_simp
    with_reducible rfl
   rotate_left
   ·simp only [Act.put, List.setIfInBounds_toArray, List.set_cons_zero, List.set_cons_succ, i64_w, i32_w]
    rfl
   refine pure_ (i := 2) (N := some 14) (v := ?_) (a' := ?_) #[true, true, true, false, false, false, false, false] rfl rfl (by kernel_rfl) (fun _ _ _ h => h) (Or.inl ⟨by rfl, ?_⟩) ?_ ?_
   rotate_left
   ·intro w'
    go_simp
    with_reducible rfl
   rotate_left
   ·simp only [Act.put, List.setIfInBounds_toArray, List.set_cons_zero, List.set_cons_succ, i64_w, i32_w]
    rfl
   refine pure_ (i := 3) (N := some 15) (v := ?_) (a' := ?_) #[true, true, true, true, false, false, false, false] rfl rfl (by kernel_rfl) (fun _ _ _ h => h) (Or.inl ⟨by rfl, ?_⟩) ?_ ?_
   rotate_left
   ·intro w'
    go_simp
    with_reducible rfl
   rotate_left
   ·simp only [Act.put, List.setIfInBounds_toArray, List.set_cons_zero, List.set_cons_succ, i64_w, i32_w]
    rfl
   refine pure_ (i := 5) (N := some 17) (v := ?_) (a' := ?_) #[true, true, true, true, false, true, false, false] rfl rfl (by kernel_rfl) (fun _ _ _ h => h) (Or.inl ⟨by rfl, ?_⟩) ?_ ?_
   rotate_left
   ·intro w'
    go_simp
    with_reducible rfl
   rotate_left
   ·simp only [Act.put, List.setIfInBounds_toArray, List.set_cons_zero, List.set_cons_succ, i64_w, i32_w]
    rfl
   refine take_ (i := 4) (N := some 16) (v := ?_) (a' := ?_) #[true, true, true, true, true, true, false, false] rfl rfl (by kernel_rfl) (fun _ _ _ h => h) (Or.inl ⟨by rfl, ?_⟩) hHeld ?_ ?_
   rotate_left
   ·intro w' hb_
    have hy_ := lc_ hb_ HX0.out
    go_simp
    with_reducible rfl
   rotate_left
   ·simp only [Act.put, List.setIfInBounds_toArray, List.set_cons_zero, List.set_cons_succ, i64_w, i32_w]
    rfl
   refine one_ (i := 6) (N := some 18) #[true, true, true, true, true, true, true, false] rfl rfl (by kernel_rfl) (by decide) (fun K hK => ?_)
   refine goes_ Try.func57 (by kernel_rfl) rfl #[.int .i64 (kk)] (by rfl) rfl rfl (by (try simp only [List.map_toArray, List.map_cons, List.map_nil, List.append_toArray, List.cons_append, List.nil_append]); first | done | rfl) ?_
   with_reducible refine (markText_calls (kk) KM0.out _).mono ?_
   rintro e_ w32 ⟨rfl, hb⟩
   refine ⟨_, rfl, ?_⟩
   have n0_ := Aside0.mk (below_step HB.out hb)
   clear HB hb
   have HB := n0_
   clear n0_
   refine hK.out _ _ HB.out (fun hHeld => ?_)
   clear hK K
   refine norm_ (a' := ?_) ?_ ?_
   rotate_left
   ·show Act.put _ (some 18) _ = _
    simp only [Act.put, List.setIfInBounds_toArray, List.set_cons_zero, List.set_cons_succ, i64_w, i32_w]
    rfl
   refine pure_ (i := 7) (N := some 19) (v := ?_) (a' := ?_) #[true, true, true, true, true, true, true, true] rfl rfl (by kernel_rfl) (fun _ _ _ h => h) (Or.inl ⟨by rfl, ?_⟩) ?_ ?_
   rotate_left
   ·intro w'
    go_simp
    with_reducible rfl
   rotate_left
   ·simp only [Act.put, List.setIfInBounds_toArray, List.set_cons_zero, List.set_cons_succ, i64_w, i32_w]
    rfl
   refine done_ (by kernel_rfl) ?_
   have hx1_ := lc_ HB.out HX1.out
   have hx2_ := lc_ HB.out HX2.out
   have hx3_ := lc_ HB.out HX3.out
   have hx4_ := lc_ HB.out HX4.out
   have hx5_ := lc_ HB.out HX5.out
   have hx6_ := lc_ HB.out HX6.out
   have hx7_ := lc_ HB.out HX7.out
   have hx8_ := lc_ HB.out HX8.out
   try go_wp2_with (first | ((with_reducible refine gate_dst (N := 28) rfl ?_); (with_reducible refine gate_callee (f := 59) rfl ?_); refine goesL_ (some 28) rfl rfl Try.func59 (by kernel_rfl) rfl #[.slice A1 x.f1.length c1, .int .i64 (wrap64 (kk + 1))] rfl (by (try simp only [List.map_toArray, List.map_cons, List.map_nil, List.append_toArray, List.cons_append, List.nil_append]); first | done | rfl) ?_; refine calls_bel (w0 := w) (by repeat (first | (with_reducible first | exact HB.out | apply below_alloc | apply pw_below_drewN | apply below_drew1) | exact HB.out)) (fun hx_ => ?_); refine (stepHd59 _ _ _ _ (x.f1.map It.s) (wrap64 (kk + 1)) _ (HS1.out.below hx_) rfl (HS1.out.n_le) HR1.out (Nat.le_refl _) BD1.out.1 BD1.out.2).mono ?_; rintro e_ w33 ⟨rfl, hb⟩; refine ⟨_, rfl, ?_⟩; have n0_ := Aside0.mk (below_step hx_ hb); clear HB hx_ hb; have HB := n0_; clear n0_; have hx2_ := lc_ HB.out HX2.out; have hx3_ := lc_ HB.out HX3.out; have hx4_ := lc_ HB.out HX4.out; have hx5_ := lc_ HB.out HX5.out; have hx6_ := lc_ HB.out HX6.out; have hx7_ := lc_ HB.out HX7.out; have hx8_ := lc_ HB.out HX8.out))
   have n0_ := Aside0.mk (below_drew1 HB.out)
   clear HB
   have HB := n0_
   clear n0_
   refine start_ (n := 9) (S := fun w' => Below w.heap.size w w') (ds := []) #[false, false, false, false, false, false, false, false, false] (by kernel_rfl) rfl rfl HB.out (fun hHeld => ?_)
   generalize w33.drew = w34 at HB hHeld ⊢
   refine pure_ (i := 0) (N := some 41) (v := ?_) (a' := ?_) #[true, false, false, false, false, false, false, false, false] rfl rfl (by kernel_rfl) (fun _ _ _ h => h) (Or.inl ⟨by rfl, ?_⟩) ?_ ?_
   rotate_left
   ·intro w'
    go_simp
    with_reducible rfl
   rotate_left
   ·simp only [Act.put, List.setIfInBounds_toArray, List.set_cons_zero, List.set_cons_succ, i64_w, i32_w]
    rfl
   refine pure_ (i := 1) (N := some 42) (v := ?_) (a' := ?_) #[true, true, false, false, false, false, false, false, false] rfl rfl (by kernel_rfl) (fun _ _ _ h => h) (Or.inl ⟨by rfl, ?_⟩) ?_ ?_
   rotate_left
   ·intro w'
    go_simp
    with_reducible rfl
   rotate_left
   ·simp only [Act.put, List.setIfInBounds_toArray, List.set_cons_zero, List.set_cons_succ, i64_w, i32_w]
    rfl
   refine pure_ (i := 2) (N := some 43) (v := ?_) (a' := ?_) #[true, true, true, false, false, false, false, false, false] rfl rfl (by kernel_rfl) (fun _ _ _ h => h) (Or.inl ⟨by rfl, ?_⟩) ?_ ?_
   rotate_left
   ·intro w'
    go_simp
    with_reducible rfl
   rotate_left
   ·simp only [Act.put, List.setIfInBounds_toArray, List.set_cons_zero, List.set_cons_succ, i64_w, i32_w]
    rfl
   refine pure_ (i := 3) (N := some 44) (v := ?_) (a' := ?_) #[true, true, true, true, false, false, false, false, false] rfl rfl (by kernel_rfl) (fun _ _ _ h => h) (Or.inl ⟨by rfl, ?_⟩) ?_ ?_
   rotate_left
   ·intro w'
    go_simp
    with_reducible rfl
   rotate_left
   ·simp only [Act.put, List.setIfInBounds_toArray, List.set_cons_zero, List.set_cons_succ, i64_w, i32_w]
    rfl
   refine pure_ (i := 4) (N := some 45) (v := ?_) (a' := ?_) #[true, true, true, true, true, false, false, false, false] rfl rfl (by kernel_rfl) (fun _ _ _ h => h) (Or.inl ⟨by rfl, ?_⟩) ?_ ?_
   rotate_left
   ·intro w'
    go_simp
    with_reducible rfl
   rotate_left
   ·simp only [Act.put, List.setIfInBounds_toArray, List.set_cons_zero, List.set_cons_succ, i64_w, i32_w]
    rfl
   refine pure_ (i := 6) (N := some 47) (v := ?_) (a' := ?_) #[true, true, true, true, true, false, true, false, false] rfl rfl (by kernel_rfl) (fun _ _ _ h => h) (Or.inl ⟨by rfl, ?_⟩) ?_ ?_
   rotate_left
   ·intro w'
    go_simp
    with_reducible rfl
   rotate_left
   ·simp only [Act.put, List.setIfInBounds_toArray, List.set_cons_zero, List.set_cons_succ, i64_w, i32_w]
    rfl
   refine take_ (i := 5) (N := some 46) (v := ?_) (a' := ?_) #[true, true, true, true, true, true, true, false, false] rfl rfl (by kernel_rfl) (fun _ _ _ h => h) (Or.inl ⟨by rfl, ?_⟩) hHeld ?_ ?_
   rotate_left
   ·intro w' hb_
    have hy_ := lc_ hb_ HX3.out
    go_simp
    with_reducible rfl
   rotate_left
   ·simp only [Act.put, List.setIfInBounds_toArray, List.set_cons_zero, List.set_cons_succ, i64_w, i32_w]
    rfl
   refine one_ (i := 7) (N := some 48) #[true, true, true, true, true, true, true, true, false] rfl rfl (by kernel_rfl) (by decide) (fun K hK => ?_)
   refine goes_ Try.func57 (by kernel_rfl) rfl #[.int .i64 (wrap64 ((mkL mt (x.f1.map It.s) (wrap64 (kk + 1))).2 + 1))] (by rfl) rfl rfl (by (try simp only [List.map_toArray, List.map_cons, List.map_nil, List.append_toArray, List.cons_append, List.nil_append]); first | done | rfl) ?_
   with_reducible refine (markText_calls (wrap64 ((mkL mt (x.f1.map It.s) (wrap64 (kk + 1))).2 + 1)) KM3.out _).mono ?_
   rintro e_ w35 ⟨rfl, hb⟩
   refine ⟨_, rfl, ?_⟩
   have n0_ := Aside0.mk (below_step HB.out hb)
   clear HB hb
   have HB := n0_
   clear n0_
   refine hK.out _ _ HB.out (fun hHeld => ?_)
   clear hK K
   refine norm_ (a' := ?_) ?_ ?_
   rotate_left
   ·show Act.put _ (some 48) _ = _
    simp only [Act.put, List.setIfInBounds_toArray, List.set_cons_zero, List.set_cons_succ, i64_w, i32_w]
    rfl
   refine pure_ (i := 8) (N := some 49) (v := ?_) (a' := ?_) #[true, true, true, true, true, true, true, true, true] rfl rfl (by kernel_rfl) (fun _ _ _ h => h) (Or.inl ⟨by rfl, ?_⟩) ?_ ?_
   rotate_left
   ·intro w'
    go_simp
    with_reducible rfl
   rotate_left
   ·simp only [Act.put, List.setIfInBounds_toArray, List.set_cons_zero, List.set_cons_succ, i64_w, i32_w]
    rfl
   refine done_ (by kernel_rfl) ?_
   have hx4_ := lc_ HB.out HX4.out
   have hx5_ := lc_ HB.out HX5.out
   have hx6_ := lc_ HB.out HX6.out
   have hx7_ := lc_ HB.out HX7.out
   have hx8_ := lc_ HB.out HX8.out
   try go_wp2_with (first | ((with_reducible refine gate_dst (N := 69) rfl ?_); (with_reducible refine gate_callee (f := 41) rfl ?_); refine goesL_ (some 69) rfl rfl Try.func41 (by kernel_rfl) rfl #[.slice A5 x.f2.f3.length c5, .int .i64 (wrap64 (wrap64 (wrap64 ((mkL mt (x.f1.map It.s) (wrap64 (kk + 1))).2 + 1) + 1) + 1))] rfl (by (try simp only [List.map_toArray, List.map_cons, List.map_nil, List.append_toArray, List.cons_append, List.nil_append]); first | done | rfl) ?_; refine calls_bel (w0 := w) (by repeat (first | (with_reducible first | exact HB.out | apply below_alloc | apply pw_below_drewN | apply below_drew1) | exact HB.out)) (fun hx_ => ?_); refine (ih41 _ SZ5.out _ _ _ i5 (wrap64 (wrap64 (wrap64 ((mkL mt (x.f1.map It.s) (wrap64 (kk + 1))).2 + 1) + 1) + 1)) _ (HS5.out.below hx_) rfl (HS5.out.n_le) HR5.out (Nat.le_refl _) BD5.out.1 BD5.out.2).mono ?_; rintro e_ w36 ⟨rfl, hb⟩; refine ⟨_, rfl, ?_⟩; have n0_ := Aside0.mk (below_step hx_ hb); clear HB hx_ hb; have HB := n0_; clear n0_; have hx6_ := lc_ HB.out HX6.out; have hx7_ := lc_ HB.out HX7.out; have hx8_ := lc_ HB.out HX8.out) | ((with_reducible refine gate_dst (N := 79) rfl ?_); (with_reducible refine gate_callee (f := 42) rfl ?_); refine goesL_ (some 79) rfl rfl Try.func42 (by kernel_rfl) rfl #[.slice A6 x.f2.f4.length c6, .int .i64 ((mkL mt i5 (wrap64 (wrap64 (wrap64 ((mkL mt (x.f1.map It.s) (wrap64 (kk + 1))).2 + 1) + 1) + 1))).2)] rfl (by (try simp only [List.map_toArray, List.map_cons, List.map_nil, List.append_toArray, List.cons_append, List.nil_append]); first | done | rfl) ?_; refine calls_bel (w0 := w) (by repeat (first | (with_reducible first | exact HB.out | apply below_alloc | apply pw_below_drewN | apply below_drew1) | exact HB.out)) (fun hx_ => ?_); refine (ih42 _ SZ6.out _ _ _ i6 ((mkL mt i5 (wrap64 (wrap64 (wrap64 ((mkL mt (x.f1.map It.s) (wrap64 (kk + 1))).2 + 1) + 1) + 1))).2) _ (HS6.out.below hx_) rfl (HS6.out.n_le) HR6.out (Nat.le_refl _) BD6.out.1 BD6.out.2).mono ?_; rintro e_ w37 ⟨rfl, hb⟩; refine ⟨_, rfl, ?_⟩; have n0_ := Aside0.mk (below_step hx_ hb); clear HB hx_ hb; have HB := n0_; clear n0_; have hx7_ := lc_ HB.out HX7.out; have hx8_ := lc_ HB.out HX8.out) | ((with_reducible refine gate_dst (N := 89) rfl ?_); (with_reducible refine gate_callee (f := 43) rfl ?_); refine goesL_ (some 89) rfl rfl Try.func43 (by kernel_rfl) rfl #[.slice A7 x.f2.f5.length c7, .int .i64 ((mkL mt i6 ((mkL mt i5 (wrap64 (wrap64 (wrap64 ((mkL mt (x.f1.map It.s) (wrap64 (kk + 1))).2 + 1) + 1) + 1))).2)).2)] rfl (by (try simp only [List.map_toArray, List.map_cons, List.map_nil, List.append_toArray, List.cons_append, List.nil_append]); first | done | rfl) ?_; refine calls_bel (w0 := w) (by repeat (first | (with_reducible first | exact HB.out | apply below_alloc | apply pw_below_drewN | apply below_drew1) | exact HB.out)) (fun hx_ => ?_); refine (ih43 _ SZ7.out _ _ _ i7 ((mkL mt i6 ((mkL mt i5 (wrap64 (wrap64 (wrap64 ((mkL mt (x.f1.map It.s) (wrap64 (kk + 1))).2 + 1) + 1) + 1))).2)).2) _ (HS7.out.below hx_) rfl (HS7.out.n_le) HR7.out (Nat.le_refl _) BD7.out.1 BD7.out.2).mono ?_; rintro e_ w38 ⟨rfl, hb⟩; refine ⟨_, rfl, ?_⟩; have n0_ := Aside0.mk (below_step hx_ hb); clear HB hx_ hb; have HB := n0_; clear n0_; have hx8_ := lc_ HB.out HX8.out) | ((with_reducible refine gate_dst (N := 98) rfl ?_); (with_reducible refine gate_callee (f := 42) rfl ?_); refine goesL_ (some 98) rfl rfl Try.func42 (by kernel_rfl) rfl #[.slice A8 x.f3.length c8, .int .i64 ((mkL mt i7 ((mkL mt i6 ((mkL mt i5 (wrap64 (wrap64 (wrap64 ((mkL mt (x.f1.map It.s) (wrap64 (kk + 1))).2 + 1) + 1) + 1))).2)).2)).2)] rfl (by (try simp only [List.map_toArray, List.map_cons, List.map_nil, List.append_toArray, List.cons_append, List.nil_append]); first | done | rfl) ?_; refine calls_bel (w0 := w) (by repeat (first | (with_reducible first | exact HB.out | apply below_alloc | apply pw_below_drewN | apply below_drew1) | exact HB.out)) (fun hx_ => ?_); refine (ih42 _ SZ8.out _ _ _ i8 ((mkL mt i7 ((mkL mt i6 ((mkL mt i5 (wrap64 (wrap64 (wrap64 ((mkL mt (x.f1.map It.s) (wrap64 (kk + 1))).2 + 1) + 1) + 1))).2)).2)).2) _ (HS8.out.below hx_) rfl (HS8.out.n_le) HR8.out (Nat.le_refl _) BD8.out.1 BD8.out.2).mono ?_; rintro e_ w39 ⟨rfl, hb⟩; refine ⟨_, rfl, ?_⟩; have n0_ := Aside0.mk (below_step hx_ hb); clear HB hx_ hb; have HB := n0_; clear n0_))
   go_roundg k1
   case measure => have := HQ.out; have := QM.out; omega
   case rel => exact ⟨_, wrap64 (x5 + 1), i + 1, (pre ++ [.s (mt (kk)), .r 9 1 (.slice A1 x.f1.length c1) x.f1.length (mkL mt (x.f1.map It.s) (wrap64 (kk + 1))).1, .i ((mkL mt (x.f1.map It.s) (wrap64 (kk + 1))).2), .s (mt (wrap64 ((mkL mt (x.f1.map It.s) (wrap64 (kk + 1))).2 + 1))), .i (wrap64 (wrap64 ((mkL mt (x.f1.map It.s) (wrap64 (kk + 1))).2 + 1) + 1)), .r 33 6 (.slice A5 x.f2.f3.length c5) x.f2.f3.length (mkL mt i5 (wrap64 (wrap64 (wrap64 ((mkL mt (x.f1.map It.s) (wrap64 (kk + 1))).2 + 1) + 1) + 1))).1, .r 68 9 (.slice A6 x.f2.f4.length c6) x.f2.f4.length (mkL mt i6 ((mkL mt i5 (wrap64 (wrap64 (wrap64 ((mkL mt (x.f1.map It.s) (wrap64 (kk + 1))).2 + 1) + 1) + 1))).2)).1, .r 53 8 (.slice A7 x.f2.f5.length c7) x.f2.f5.length (mkL mt i7 ((mkL mt i6 ((mkL mt i5 (wrap64 (wrap64 (wrap64 ((mkL mt (x.f1.map It.s) (wrap64 (kk + 1))).2 + 1) + 1) + 1))).2)).2)).1, .r 68 9 (.slice A8 x.f3.length c8) x.f3.length (mkL mt i8 ((mkL mt i7 ((mkL mt i6 ((mkL mt i5 (wrap64 (wrap64 (wrap64 ((mkL mt (x.f1.map It.s) (wrap64 (kk + 1))).2 + 1) + 1) + 1))).2)).2)).2)).1]), post2, l2, rfl, rfl, ⟨by have := QM.out; omega⟩, ⟨by
    obtain ⟨h1, h2, h8, h8', hbd, htot, h11, hp_, h5'⟩ := HJ.out
    have hn2 := HN.out
    simp only [List.length_cons] at h2
    refine ⟨by have := HQ.out; simp only [List.length_cons] at this; omega, by rw [h1]; unfold wrap64; omega, by omega, ?_, h5', ?_, ?_, hbd.1, by omega, ?_⟩
    · simp only [List.length_append, List.length_cons, List.length_nil]
      rw [h1, Int.toNat_natCast] at hp_
      omega
    · rw [h8]
      simp only [mkL, mkI, List.append_assoc, List.cons_append, List.nil_append]
    · rw [h8']
      simp only [mkL, mkI, List.cons_append, List.nil_append]
    · simp only [szL_app, szL, szI, List.cons_append, List.nil_append] at h11
      omega⟩, ⟨HB.out⟩⟩

theorem allHd (m : Nat) : HdC 41 33 6 RepEs m ∧ HdC 42 68 9 RepDs m ∧ HdC 43 53 8 RepAs m := by
  induction m using Nat.strongRecOn with
  | _ m ih => exact ⟨stepHd41 m (fun a h => (ih a h).1) (fun a h => (ih a h).2.1) (fun a h => (ih a h).2.2), stepHd42 m (fun a h => (ih a h).1) (fun a h => (ih a h).2.1) (fun a h => (ih a h).2.2), stepHd43 m (fun a h => (ih a h).1) (fun a h => (ih a h).2.1) (fun a h => (ih a h).2.2)⟩
end Go.Proofs.Ytpndcfibjjkgcaa.MyItc

/- Elements of a made row: where they lie, what they lead to. No condition. -/
import Derived.Test.YtpndcfibjjkgcaaMyFo
import Derived.Test.YtpndcfibjjkgcaaMyItv
namespace Go.Proofs.Ytpndcfibjjkgcaa.MyItc
open Go Go.RowKit Go.Proofs.YtpndcfibjjkgcaaW.PrintWords Go.Proofs.YtpndcfibjjkgcaaW.PrintLast Go.Proofs.YtpndcfibjjkgcaaW.PrintMore Go.Proofs.Ytpndcfibjjkgcaa.PIfg
attribute [local go_sem] max2_int min2_int max_two min_two max_three min_three max_four min_four
set_option linter.unusedVariables false
set_option linter.unusedSimpArgs false
section
variable {P : Program} {ops : Array Oper} {o : Oper} {a : Act} {Q : Exit → Act → World → Prop} {Kc : Act → World → Prop}
/-- A block that is made in a region whose order is open. -/
theorem box_step {W : World} {cs : Array Value} {t : TypeId} (hw : Region.wanted o (yielded ops a.tmps) = true)
    (hrun : (execOp a.eval o).run P W = .ok (.value (.pointer (some ⟨W.heap.size, 0, none⟩))) (W.alloc (.cells cs t (0, 0))))
    (h : ∀ g w1, g = W.heap.size → w1.heap[g]? = some (.cells cs t (0, 0)) → Below W.heap.size W w1 → Kc (a.put o.dst (.pointer (some ⟨g, 0, none⟩))) w1) :
    if Region.wanted o (yielded ops a.tmps) = true then Oper.wp P o a W Kc Q else Kc (a.put o.dst undef) W :=
  event_step hw hrun (h _ _ rfl (blk_new W _) (below_alloc (Below.refl _ _) _))
end
/-- Six cells of w's, at a later world. -/
theorem six_later {w w' : World} (hb : Below w.heap.size w w') {p0 p1 p2 p3 p4 p5 : Addr} {v0 v1 v2 v3 v4 v5 : Value} (h : w.cell? p0 = some v0 ∧ w.cell? p1 = some v1 ∧ w.cell? p2 = some v2 ∧ w.cell? p3 = some v3 ∧ w.cell? p4 = some v4 ∧ w.cell? p5 = some v5) :
    w'.cell? p0 = some v0 ∧ w'.cell? p1 = some v1 ∧ w'.cell? p2 = some v2 ∧ w'.cell? p3 = some v3 ∧ w'.cell? p4 = some v4 ∧ w'.cell? p5 = some v5 :=
  ⟨lc_ hb h.1, lc_ hb h.2.1, lc_ hb h.2.2.1, lc_ hb h.2.2.2.1, lc_ hb h.2.2.2.2.1, lc_ hb h.2.2.2.2.2⟩
theorem own_cell {w : World} {e sz n g c : Nat} {L : List It} (h : (It.r e sz (.slice (some ⟨g, 0, none⟩) n c) n L).At w) (j : Nat) (x : It) (hj : L[j]? = some x) : w.cell? ⟨g, j, none⟩ = some x.val := by
  simp only [It.At] at h
  rcases h.2.1.2 with ⟨hv, _⟩ | ⟨g', cap, cur, hv, _, hb, h3, h4, h5, h6⟩
  · cases hv
  · injection hv with hv
    injection hv with hv
    injection hv with hv
    subst hv
    have hi : (L.map It.val)[j]? = some x.val := by simp [hj]
    rw [← h6, List.getElem?_take] at hi
    split at hi
    · have hc : cur[j]? = some x.val := by simpa using hi
      simp [World.cell?, hb, hc]
    · cases hi
theorem row_slice {w : World} {e sz n : Nat} {v : Value} {L : List It} (h : (It.r e sz v n L).At w) : ∃ A c, v = .slice A n c ∧ (0 < n → ∃ g, A = some ⟨g, 0, none⟩) := by
  simp only [It.At] at h
  rcases h.2.1.2 with ⟨rfl, rfl⟩ | ⟨g, cap, cur, rfl, _⟩
  · exact ⟨none, 0, rfl, fun h => absurd h (Nat.lt_irrefl 0)⟩
  · exact ⟨_, cap, rfl, fun _ => ⟨g, rfl⟩⟩
theorem repE_len : ∀ {x : S33} {i : List It}, RepE x i → i.length = 6
  | _, _, .mk _ _ _ => rfl
theorem repEs_at : ∀ {l : List S33} {i : List It}, RepEs l i → ∀ j (hj : j < l.length), ∃ pre it post : List It, i = pre ++ (it ++ post) ∧ pre.length = 6 * j ∧ RepE l[j] it
  | _, _, .nil, j, hj => absurd hj (Nat.not_lt_zero _)
  | _, _, .cons (i := i) (j := k) h hs, 0, hj => ⟨[], i, k, rfl, rfl, h⟩
  | _, _, .cons (i := i) (j := k) h hs, j + 1, hj => by
    obtain ⟨pre, it, post, rfl, hl, hr⟩ := repEs_at hs j (by simpa using hj)
    exact ⟨i ++ pre, it, post, by rw [List.append_assoc], by rw [List.length_append, repE_len h, hl]; omega, by simpa using hr⟩
/-- An element of a row: its six cells, and the rows that it leads to. -/
structure ElAt (w : World) (g o : Nat) (i : List It) (x : S33) (A3 : Option Addr) (c3 : Nat) (i3 : List It) (A4 : Option Addr) (c4 : Nat) (i4 : List It) (A5 : Option Addr) (c5 : Nat) (i5 : List It) : Prop where
  cells : w.cell? ⟨g, o, none⟩ = some (.int .i64 x.f0) ∧ w.cell? ⟨g, o + 1, none⟩ = some (.string x.f1) ∧ w.cell? ⟨g, o + 2, none⟩ = some (.int .i64 x.f2) ∧ w.cell? ⟨g, o + 3, none⟩ = some (.slice A3 x.f3.length c3) ∧ w.cell? ⟨g, o + 4, none⟩ = some (.slice A4 x.f4.length c4) ∧ w.cell? ⟨g, o + 5, none⟩ = some (.slice A5 x.f5.length c5)
  at_ : AtL w (rows3 A3 x.f3.length c3 i3 A4 x.f4.length c4 i4 A5 x.f5.length c5 i5)
  r3 : RepEs x.f3 i3
  r4 : RepDs x.f4 i4
  r5 : RepAs x.f5 i5
  sub : ∀ b ∈ blksL (rows3 A3 x.f3.length c3 i3 A4 x.f4.length c4 i4 A5 x.f5.length c5 i5), b ∈ blksL i
  nd : (blksL i).Nodup → (blksL (rows3 A3 x.f3.length c3 i3 A4 x.f4.length c4 i4 A5 x.f5.length c5 i5)).Nodup
theorem el_of {w : World} {l : List S33} {g c : Nat} {i : List It} (ha : (It.r 33 6 (.slice (some ⟨g, 0, none⟩) l.length c) l.length i).At w) (hr : RepEs l i) (j : Nat) (hj : j < l.length) : ∃ (A3 : Option Addr) (c3 : Nat) (i3 : List It) (A4 : Option Addr) (c4 : Nat) (i4 : List It) (A5 : Option Addr) (c5 : Nat) (i5 : List It), ElAt w g (6 * j) i (rd_T33 l (j : Int)) A3 c3 i3 A4 c4 i4 A5 c5 i5 := by
  obtain ⟨pre, it, post, hi, hl, hE⟩ := repEs_at hr j hj
  have hrd : rd_T33 l (j : Int) = l[j] := rdE_at l _ j rfl hj
  rw [← hrd] at hE
  generalize rd_T33 l (j : Int) = x at hE ⊢
  have hA : AtL w it := by
    have := ha
    simp only [It.At] at this
    have h2 := this.2.2
    rw [hi, AtL_app, AtL_app] at h2
    exact h2.2.1
  cases hE with
  | mk h3 h4 h5 =>
    rename_i v3 v4 v5 i3 i4 i5
    have hq : ∀ q x, q < 6 → (([.i _, .s _, .i _, .r 33 6 v3 _ i3, .r 68 9 v4 _ i4, .r 53 8 v5 _ i5] : List It))[q]? = some x → i[6 * j + q]? = some x := fun q x hq6 hx => by
      rw [hi, List.getElem?_append_right (by omega), List.getElem?_append_left (by simp; omega), hl]
      rwa [show 6 * j + q - 6 * j = q from by omega]
    have hA' := hA
    simp only [AtL, and_true] at hA'
    obtain ⟨A3, c3, rfl, _⟩ := row_slice hA'.2.2.2.1
    obtain ⟨A4, c4, rfl, _⟩ := row_slice hA'.2.2.2.2.1
    obtain ⟨A5, c5, rfl, _⟩ := row_slice hA'.2.2.2.2.2
    refine ⟨A3, c3, i3, A4, c4, i4, A5, c5, i5, ⟨own_cell ha (6 * j) _ (hq 0 _ (by omega) rfl), own_cell ha (6 * j + 1) _ (hq 1 _ (by omega) rfl), own_cell ha (6 * j + 2) _ (hq 2 _ (by omega) rfl), own_cell ha (6 * j + 3) _ (hq 3 _ (by omega) rfl), own_cell ha (6 * j + 4) _ (hq 4 _ (by omega) rfl), own_cell ha (6 * j + 5) _ (hq 5 _ (by omega) rfl)⟩, ?_, h3, h4, h5, fun b hb => ?_, fun hn => ?_⟩
    · simp only [AtL, and_true]
      exact hA'.2.2.2
    · rw [hi, blksL_app, blksL_app]
      refine List.mem_append_right _ (List.mem_append_left _ ?_)
      simpa only [blksL, It.blks, List.nil_append] using hb
    · rw [hi, blksL_app, blksL_app] at hn
      have h1 := (List.nodup_append.1 (List.nodup_append.1 hn).2.1).1
      simpa only [blksL, It.blks, List.nil_append] using h1
set_option maxHeartbeats 8000000 in
set_option maxRecDepth 100000 in
theorem isIf_calls (a0_0 : Int) (a0_1 : ByteArray) (a0_2 : Int) (A0_3 : Option Addr) (c0_3 : Nat) (l0_3 : List (S33)) (A0_4 : Option Addr) (c0_4 : Nat) (l0_4 : List (S68)) (A0_5 : Option Addr) (c0_5 : Nat) (l0_5 : List (S53)) (w : World) :
  Calls Try.prog 36 #[.agg #[.int .i64 a0_0, .string a0_1, .int .i64 a0_2, .slice A0_3 l0_3.length c0_3, .slice A0_4 l0_4.length c0_4, .slice A0_5 l0_5.length c0_5]] w fun e w' => e = .returned (.bool (decide (a0_0 = 8 ∧ l0_3.length = 3))) ∧ Below w.heap.size w w' := by
 have hu33 := Try.underlying33
 have HB := Aside0.mk (Below.refl w.heap.size w)
 by_cases c2 : a0_0 = 8
 · have c2b0 : (a0_0 == 8) = true := beq_iff_eq.mpr c2
   have e3 : (((l0_3.length : Int) == 3) : Bool) = decide (a0_0 = 8 ∧ l0_3.length = 3) := by
    rw [Bool.eq_iff_iff, beq_iff_eq, decide_eq_true_iff]
    omega
   clear c2
   rw [← e3]
   clear e3
   go_enter Try.func36, Try.ntmps36
   go_wp2_with (first | ((with_reducible refine gate_dst (N := 1) rfl ?_); (try (refine gate_guard (by rfl) ?_; dsimp only)); refine box_event ?hg (N := 1) ?hd (cs := #[.int .i64 a0_0, .string a0_1, .int .i64 a0_2, .slice A0_3 l0_3.length c0_3, .slice A0_4 l0_4.length c0_4, .slice A0_5 l0_5.length c0_5]) (t := 33) ?hr ?_; (case hd => rfl); (case hg => rfl); (case hr => first | (go_simp; done) | (go_simp; rfl)); intro gb1 hg w3 hbox hb; have hx_ := bel_of (w := w) hb (by repeat (first | (with_reducible first | exact HB.out | apply below_alloc | apply pw_below_drewN | apply below_drew1) | exact HB.out)); have nb_ := Aside0.mk (below_step hx_ hb); have ge_ := Aside0.mk (box_ge hx_ hg); clear HB  ; have HB := nb_; have BK1 := Aside0.mk hbox; have GE1 := ge_; clear nb_ ge_ hx_ hb hbox hg  ; obtain ⟨hc5_0, hc5_1, hc5_2, hc5_3, hc5_4, hc5_5, hf5_0, hf5_1, hf5_2, hf5_3, hf5_4, hf5_5⟩ := cells6 BK1.out))
   go_ret
   exact ⟨by first | rfl | (simp; done) | (simp [*]; done), by repeat (first | (with_reducible first | exact HB.out | apply below_alloc | apply pw_below_drewN | apply below_drew1 | refine below_set ?_ GE1.out) | exact HB.out)⟩
 · have c2b0 : (a0_0 == 8) = false := beq_eq_false_iff_ne.mpr c2
   have e3 : decide (a0_0 = 8 ∧ l0_3.length = 3) = false := by simp [c2]
   clear c2
   rw [e3]
   clear e3
   go_enter Try.func36, Try.ntmps36
   go_wp2_with (first | ((with_reducible refine gate_dst (N := 1) rfl ?_); (try (refine gate_guard (by rfl) ?_; dsimp only)); refine box_event ?hg (N := 1) ?hd (cs := #[.int .i64 a0_0, .string a0_1, .int .i64 a0_2, .slice A0_3 l0_3.length c0_3, .slice A0_4 l0_4.length c0_4, .slice A0_5 l0_5.length c0_5]) (t := 33) ?hr ?_; (case hd => rfl); (case hg => rfl); (case hr => first | (go_simp; done) | (go_simp; rfl)); intro gb1 hg w3 hbox hb; have hx_ := bel_of (w := w) hb (by repeat (first | (with_reducible first | exact HB.out | apply below_alloc | apply pw_below_drewN | apply below_drew1) | exact HB.out)); have nb_ := Aside0.mk (below_step hx_ hb); have ge_ := Aside0.mk (box_ge hx_ hg); clear HB  ; have HB := nb_; have BK1 := Aside0.mk hbox; have GE1 := ge_; clear nb_ ge_ hx_ hb hbox hg  ; obtain ⟨hc5_0, hc5_1, hc5_2, hc5_3, hc5_4, hc5_5, hf5_0, hf5_1, hf5_2, hf5_3, hf5_4, hf5_5⟩ := cells6 BK1.out))
   go_ret
   exact ⟨by first | rfl | (simp; done) | (simp [*]; done), by repeat (first | (with_reducible first | exact HB.out | apply below_alloc | apply pw_below_drewN | apply below_drew1 | refine below_set ?_ GE1.out) | exact HB.out)⟩
end Go.Proofs.Ytpndcfibjjkgcaa.MyItc

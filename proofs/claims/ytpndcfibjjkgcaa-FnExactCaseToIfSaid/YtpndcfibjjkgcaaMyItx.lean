/- What the printed kinds say of a made value, as items; the given copying as items. No condition. -/
import Derived.Test.YtpndcfibjjkgcaaPIfgs9
import Derived.Test.YtpndcfibjjkgcaaPureItc
import Derived.Test.YtpndcfibjjkgcaaMyItv
namespace Go.Proofs.Ytpndcfibjjkgcaa.MyItc
open Go Go.RowKit Go.Proofs.YtpndcfibjjkgcaaW.PrintWords Go.Proofs.YtpndcfibjjkgcaaW.PrintLast Go.Proofs.YtpndcfibjjkgcaaW.PrintMore Go.Proofs.Ytpndcfibjjkgcaa.PIfg
set_option linter.unusedVariables false
section
variable {α : Type} {d : Kd α} {w : World} {base : Nat} {RepX : α → List It → Prop} {Rep : List α → List It → Prop}
theorem reps_its (hn : Rep [] []) (hc : ∀ {x i l j}, RepX x i → Rep l j → Rep (x :: l) (i ++ j)) {ok : Nat → Prop} : ∀ {l : List α} {inner : List Value}, Reps (d.M w base ok) d.sz l inner → (∀ x ∈ l, ∀ ok cs, d.M w base ok x cs → ∃ i : List It, cs = i.map It.val ∧ AtL w i ∧ RepX x i ∧ ∀ b ∈ blksL i, base ≤ b) →
    ∃ i : List It, inner = i.map It.val ∧ AtL w i ∧ Rep l i ∧ ∀ b ∈ blksL i, base ≤ b
  | [], inner, h, _ => by
    have : inner = [] := List.eq_nil_of_length_eq_zero (by simpa using h.1)
    subst this
    exact ⟨[], rfl, by simp [AtL], hn, by simp [blksL]⟩
  | x :: l, inner, h, hP => by
    have hx := h.2 0 x rfl
    simp only [Nat.zero_mul, List.drop_zero] at hx
    have hxs : Reps (d.M w base ok) d.sz l (inner.drop d.sz) := by
      refine ⟨by rw [List.length_drop, h.1, List.length_cons, Nat.add_mul]; omega, fun j p hj => ?_⟩
      have := h.2 (j + 1) p (by simpa using hj)
      rw [List.drop_drop]
      rwa [show d.sz + j * d.sz = (j + 1) * d.sz by rw [Nat.add_mul]; omega]
    obtain ⟨i, e1, a1, r1, g1⟩ := hP x List.mem_cons_self ok _ hx
    obtain ⟨j, e2, a2, r2, g2⟩ := reps_its hn hc hxs (fun y hy => hP y (List.mem_cons_of_mem _ hy))
    refine ⟨i ++ j, ?_, (AtL_app _ _).2 ⟨a1, a2⟩, hc r1 r2, fun b hb => ?_⟩
    · rw [List.map_append, ← e1, ← e2, List.take_append_drop]
    · rw [blksL_app] at hb
      rcases List.mem_append.1 hb with hb | hb
      · exact g1 b hb
      · exact g2 b hb
theorem row_its (hn : Rep [] []) (hc : ∀ {x i l j}, RepX x i → Rep l j → Rep (x :: l) (i ++ j)) {e sz : Nat} (hs : d.sz = sz) (he : e = 9 ∨ e = 33 ∨ e = 53 ∨ e = 68) {ok : Nat → Prop} {v : Value} {l : List α} (h : d.R e w base ok v l) (hP : ∀ x ∈ l, ∀ ok cs, d.M w base ok x cs → ∃ i : List It, cs = i.map It.val ∧ AtL w i ∧ RepX x i ∧ ∀ b ∈ blksL i, base ≤ b) :
    ∃ i : List It, (It.r e sz v l.length i).At w ∧ Rep l i ∧ ∀ b ∈ (It.r e sz v l.length i).blks, base ≤ b := by
  obtain ⟨h0, inner, ho, hr⟩ := h
  obtain ⟨i, rfl, a1, r1, g1⟩ := reps_its hn hc hr hP
  subst hs
  refine ⟨i, by simp only [It.At]; exact ⟨he, own_weaken ho (Nat.zero_le _), a1⟩, r1, fun b hb => ?_⟩
  simp only [It.blks] at hb
  rcases List.mem_append.1 hb with hb | hb
  · exact own_base ho b (by simpa using hb)
  · exact g1 b hb
end
abbrev Its {α : Type} (w : World) (base : Nat) (d : Kd α) (S : α → Prop) (R : α → List It → Prop) : Prop := ∀ x, S x → ∀ ok cs, d.M w base ok x cs → ∃ i : List It, cs = i.map It.val ∧ AtL w i ∧ R x i ∧ ∀ b ∈ blksL i, base ≤ b
theorem its_all (w : World) (base : Nat) : ∀ n, Its w base k33 (SqE n) RepE ∧ Its w base k68 (SqD n) RepD ∧ Its w base k53 (SqA n) RepA
  | 0 => ⟨fun _ h => by simp [SqE] at h, fun _ h => by simp [SqD] at h, fun _ h => by simp [SqA] at h⟩
  | n + 1 => by
    refine ⟨fun x h ok cs hM => ?_, fun x h ok cs hM => ?_, fun x h ok cs hM => ?_⟩
    · simp only [SqE] at h
      obtain ⟨v3, v4, v5, rfl, g3, g4, g5⟩ := k33_openM hM
      obtain ⟨i3, a3, r3, b3⟩ := row_its (Rep := RepEs) (sz := 6) .nil .cons rfl (by simp) g3 (fun y hy => (its_all w base n).1 y (h.1.2 y hy))
      obtain ⟨i4, a4, r4, b4⟩ := row_its (Rep := RepDs) (sz := 9) .nil .cons rfl (by simp) g4 (fun y hy => (its_all w base n).2.1 y (h.2.1.2 y hy))
      obtain ⟨i5, a5, r5, b5⟩ := row_its (Rep := RepAs) (sz := 8) .nil .cons rfl (by simp) g5 (fun y hy => (its_all w base n).2.2 y (h.2.2.2 y hy))
      refine ⟨_, ?_, ?_, RepE.mk (v3 := v3) (v4 := v4) (v5 := v5) r3 r4 r5, ?_⟩
      · rfl
      · simp only [AtL, and_true]
        exact ⟨by simp only [It.At], by simp only [It.At], by simp only [It.At], a3, a4, a5⟩
      · intro b hb
        simp only [blksL, List.append_nil, List.mem_append] at hb
        rcases hb with hb | hb | hb | hb | hb | hb
        · simp [It.blks] at hb
        · simp [It.blks] at hb
        · simp [It.blks] at hb
        · exact b3 b hb
        · exact b4 b hb
        · exact b5 b hb
    · cases n with
      | zero => simp only [SqD, SqE] at h; exact absurd h.2.1 id
      | succ n =>
        obtain ⟨v1, v3, v4, v5, v8, rfl, g1, g3, g4, g5, g8⟩ := k68_openM hM
        simp only [SqD] at h
        have hE := h.2.1
        simp only [SqE] at hE
        have hs := str_row g1
        have h1 : (It.r 9 1 v1 x.f1.length (x.f1.map It.s)).At w := by have := hs.1; simp only [AtL, and_true] at this; exact this
        obtain ⟨i3, a3, r3, b3⟩ := row_its (Rep := RepEs) (sz := 6) .nil .cons rfl (by simp) g3 (fun y hy => (its_all w base n).1 y (hE.1.2 y hy))
        obtain ⟨i4, a4, r4, b4⟩ := row_its (Rep := RepDs) (sz := 9) .nil .cons rfl (by simp) g4 (fun y hy => (its_all w base n).2.1 y (hE.2.1.2 y hy))
        obtain ⟨i5, a5, r5, b5⟩ := row_its (Rep := RepAs) (sz := 8) .nil .cons rfl (by simp) g5 (fun y hy => (its_all w base n).2.2 y (hE.2.2.2 y hy))
        obtain ⟨i8, a8, r8, b8⟩ := row_its (Rep := RepDs) (sz := 9) .nil .cons rfl (by simp) g8 (fun y hy => (its_all w base (n + 1)).2.1 y (h.2.2.2 y hy))
        refine ⟨_, ?_, ?_, RepD.mk (v1 := v1) (v8 := v8) (RepE.mk (v3 := v3) (v4 := v4) (v5 := v5) r3 r4 r5) r8, ?_⟩
        · rfl
        · simp only [List.cons_append, List.nil_append, AtL, and_true]
          exact ⟨by simp only [It.At], h1, by simp only [It.At], by simp only [It.At], by simp only [It.At], a3, a4, a5, a8⟩
        · intro b hb
          simp only [List.cons_append, List.nil_append, blksL, List.append_nil, List.mem_append] at hb
          rcases hb with hb | hb | hb | hb | hb | hb | hb | hb | hb
          · simp [It.blks] at hb
          · exact hs.2.ge b (by simpa only [blksL, List.append_nil] using hb)
          · simp [It.blks] at hb
          · simp [It.blks] at hb
          · simp [It.blks] at hb
          · exact b3 b hb
          · exact b4 b hb
          · exact b5 b hb
          · exact b8 b hb
    · cases n with
      | zero => simp only [SqA, SqE] at h; exact absurd h.2 id
      | succ n =>
        obtain ⟨v1, v3, v4, v5, rfl, g1, g3, g4, g5⟩ := k53_openM hM
        simp only [SqA] at h
        have hE := h.2
        simp only [SqE] at hE
        have hs := str_row g1
        have h1 : (It.r 9 1 v1 x.f1.length (x.f1.map It.s)).At w := by have := hs.1; simp only [AtL, and_true] at this; exact this
        obtain ⟨i3, a3, r3, b3⟩ := row_its (Rep := RepEs) (sz := 6) .nil .cons rfl (by simp) g3 (fun y hy => (its_all w base n).1 y (hE.1.2 y hy))
        obtain ⟨i4, a4, r4, b4⟩ := row_its (Rep := RepDs) (sz := 9) .nil .cons rfl (by simp) g4 (fun y hy => (its_all w base n).2.1 y (hE.2.1.2 y hy))
        obtain ⟨i5, a5, r5, b5⟩ := row_its (Rep := RepAs) (sz := 8) .nil .cons rfl (by simp) g5 (fun y hy => (its_all w base n).2.2 y (hE.2.2.2 y hy))
        refine ⟨_, ?_, ?_, RepA.mk (v1 := v1) (RepE.mk (v3 := v3) (v4 := v4) (v5 := v5) r3 r4 r5), ?_⟩
        · rfl
        · simp only [AtL, and_true]
          exact ⟨by simp only [It.At], h1, by simp only [It.At], by simp only [It.At], by simp only [It.At], a3, a4, a5⟩
        · intro b hb
          simp only [blksL, List.append_nil, List.mem_append] at hb
          rcases hb with hb | hb | hb | hb | hb | hb | hb | hb
          · simp [It.blks] at hb
          · exact hs.2.ge b (by simpa only [blksL, List.append_nil] using hb)
          · simp [It.blks] at hb
          · simp [It.blks] at hb
          · simp [It.blks] at hb
          · exact b3 b hb
          · exact b4 b hb
          · exact b5 b hb
/-- A value whose rows were made from lo on; they need not lie apart. -/
structure MadE (lo : Nat) (w : World) (l3 : List S33) (l4 : List S68) (l5 : List S53) (A3 : Option Addr) (c3 : Nat) (i3 : List It) (A4 : Option Addr) (c4 : Nat) (i4 : List It) (A5 : Option Addr) (c5 : Nat) (i5 : List It) : Prop where
  at_ : AtL w (rows3 A3 l3.length c3 i3 A4 l4.length c4 i4 A5 l5.length c5 i5)
  ge : ∀ b ∈ blksL (rows3 A3 l3.length c3 i3 A4 l4.length c4 i4 A5 l5.length c5 i5), lo ≤ b
  r3 : RepEs l3 i3
  r4 : RepDs l4 i4
  r5 : RepAs l5 i5
theorem l3Copy_calls (n : Nat) (a0_0 : Int) (a0_1 : ByteArray) (a0_2 : Int) (A0_3 : Option Addr) (c0_3 : Nat) (l0_3 : List S33) (A0_4 : Option Addr) (c0_4 : Nat) (l0_4 : List S68) (A0_5 : Option Addr) (c0_5 : Nat) (l0_5 : List S53) (w : World) (ha : ArgE w A0_3 c0_3 l0_3 A0_4 c0_4 l0_4 A0_5 c0_5 l0_5) (hq : LE n l0_3 ∧ LD n l0_4 ∧ LA n l0_5) :
    Calls Try.prog 35 #[.agg #[.int .i64 a0_0, .string a0_1, .int .i64 a0_2, .slice A0_3 l0_3.length c0_3, .slice A0_4 l0_4.length c0_4, .slice A0_5 l0_5.length c0_5]] w fun e w' => ∃ (A3 : Option Addr) (c3 : Nat) (i3 : List It) (A4 : Option Addr) (c4 : Nat) (i4 : List It) (A5 : Option Addr) (c5 : Nat) (i5 : List It), e = .returned (.agg #[.int .i64 a0_0, .string a0_1, .int .i64 a0_2, .slice A3 l0_3.length c3, .slice A4 l0_4.length c4, .slice A5 l0_5.length c5]) ∧ MadE w.heap.size w' l0_3 l0_4 l0_5 A3 c3 i3 A4 c4 i4 A5 c5 i5 ∧ Below w.heap.size w w' := by
  obtain ⟨K, hK⟩ := (cp_all (n + 1)).1 ⟨a0_0, a0_1, a0_2, l0_3, l0_4, l0_5⟩ (by simp only [SqE]; exact hq)
  refine (spec_l3Copy.calls K a0_0 a0_1 a0_2 A0_3 c0_3 l0_3 A0_4 c0_4 l0_4 A0_5 c0_5 l0_5 _ _ _ _ _ _ w ha.1.1 ha.1.2 ha.2.1.1 ha.2.1.2 ha.2.2.1 ha.2.2.2 (hK K (Nat.le_refl _))).mono ?_
  rintro e w' ⟨v3, v4, v5, rfl, g3, g4, g5, hb⟩
  obtain ⟨i3, a3, r3, b3⟩ := row_its (Rep := RepEs) (sz := 6) .nil .cons rfl (by simp) g3 (fun y hy => (its_all w' w.heap.size n).1 y (hq.1.2 y hy))
  obtain ⟨i4, a4, r4, b4⟩ := row_its (Rep := RepDs) (sz := 9) .nil .cons rfl (by simp) g4 (fun y hy => (its_all w' w.heap.size n).2.1 y (hq.2.1.2 y hy))
  obtain ⟨i5, a5, r5, b5⟩ := row_its (Rep := RepAs) (sz := 8) .nil .cons rfl (by simp) g5 (fun y hy => (its_all w' w.heap.size n).2.2 y (hq.2.2.2 y hy))
  obtain ⟨A3, c3, rfl⟩ := Kd.R_slice g3
  obtain ⟨A4, c4, rfl⟩ := Kd.R_slice g4
  obtain ⟨A5, c5, rfl⟩ := Kd.R_slice g5
  refine ⟨A3, c3, i3, A4, c4, i4, A5, c5, i5, rfl, ⟨by simp only [AtL, and_true]; exact ⟨a3, a4, a5⟩, fun b hb => ?_, r3, r4, r5⟩, hb⟩
  simp only [blksL, List.append_nil, List.mem_append] at hb
  rcases hb with hb | hb | hb
  · exact b3 b hb
  · exact b4 b hb
  · exact b5 b hb
end Go.Proofs.Ytpndcfibjjkgcaa.MyItc

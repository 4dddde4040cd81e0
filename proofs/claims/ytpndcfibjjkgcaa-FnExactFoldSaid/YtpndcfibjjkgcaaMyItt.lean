/- What the laws' own copies come to, as items: the contracts of the functions that turn a law's argument into the program's type. No condition. -/
import Derived.Test.YtpndcfibjjkgcaaPIfgx2
import Derived.Test.YtpndcfibjjkgcaaMyItc
namespace Go.Proofs.Ytpndcfibjjkgcaa.MyItc
open Go Go.RowKit Go.Proofs.YtpndcfibjjkgcaaW.PrintWords Go.Proofs.YtpndcfibjjkgcaaW.PrintLast Go.Proofs.YtpndcfibjjkgcaaW.PrintMore Go.Proofs.Ytpndcfibjjkgcaa.PIfg
set_option linter.unusedVariables false
set_option linter.unusedSimpArgs false
/-- Rows that were made from lo on, and lie apart. -/
structure Grow (lo : Nat) (Q : List It) (w : World) : Prop where
  at_ : AtL w Q
  part : Part lo w.heap.size Q
  le : lo ≤ w.heap.size
section
variable {lo lo' : Nat} {Q R : List It} {w w1 : World}
theorem Grow.below (h : Grow lo Q w) (hb : Below w.heap.size w w1) : Grow lo Q w1 := ⟨AtL_below h.at_ hb, h.part.wide (Nat.le_refl _) hb.size, Nat.le_trans h.le hb.size⟩
theorem Grow.alloc (h : Grow lo Q w) (o : Obj) : Grow lo Q (w.alloc o) := h.below (below_alloc (Below.refl _ _) o)
theorem Grow.drew (h : Grow lo Q w) : Grow lo Q w.drew := h.below (below_drew (Below.refl _ _))
theorem Grow.drewN (h : Grow lo Q w) (m : Nat) : Grow lo Q (w.drewN m) := h.below (pw_below_drewN (Below.refl _ _) m)
theorem Grow.set {g : Nat} (h : Grow lo Q w) (hg : g < lo) (j : Nat) (u : Value) : Grow lo Q (w.setCell ⟨g, j, none⟩ u) :=
  have e : (w.setCell ⟨g, j, none⟩ u).heap.size = w.heap.size := by simp [World.setCell]
  ⟨AtL_set h.at_ (fun b hb => by have := h.part.ge b hb; omega) j u, by rw [e]; exact h.part, by rw [e]; exact h.le⟩
theorem Grow.nil (w : World) : Grow w.heap.size [] w := ⟨by simp [AtL], Part.nil _ _, Nat.le_refl _⟩
theorem Grow.add (h : Grow lo Q w) (hb : Below w.heap.size w w1) (ha : AtL w1 R) (hp : Part w.heap.size w1.heap.size R) : Grow lo (Q ++ R) w1 :=
  ⟨(AtL_app _ _).2 ⟨AtL_below h.at_ hb, ha⟩, h.part.join hp h.le hb.size, Nat.le_trans h.le hb.size⟩
theorem Grow.first (hb : Below w.heap.size w w1) (ha : AtL w1 R) (hp : Part w.heap.size w1.heap.size R) : Grow w.heap.size R w1 := ⟨ha, hp, hb.size⟩
theorem Grow.low (h : Grow lo Q w) (hl : lo' ≤ lo) : Grow lo' Q w := ⟨h.at_, h.part.wide hl (Nat.le_refl _), Nat.le_trans hl h.le⟩
end
/-- A copied row. -/
structure CopR {α : Type} (e sz : Nat) (Rep : List α → List It → Prop) (lo : Nat) (w : World) (l : List α) (A : Option Addr) (c : Nat) (i : List It) : Prop where
  at_ : AtL w [.r e sz (.slice A l.length c) l.length i]
  part : Part lo w.heap.size [.r e sz (.slice A l.length c) l.length i]
  rep : Rep l i
abbrev row1 (A1 : Option Addr) (c1 : Nat) (l : List ByteArray) : List It := [.r 9 1 (.slice A1 l.length c1) l.length (l.map It.s)]
abbrev BackS {α : Type} (e_ sz : Nat) (Rep : List α → List It → Prop) (r : List α) (w : World) (e : Ending) (w' : World) : Prop := ∃ (A1 : Option Addr) (c1 : Nat) (i1 : List It), e = .returned (.slice A1 r.length c1) ∧ CopR e_ sz Rep w.heap.size w' r A1 c1 i1 ∧ Below w.heap.size w w'
abbrev TEs (m_ : Nat) : Prop := ∀ (A0 : Option Addr) (c0 : Nat) (l0 : List (S26)) (r : List (S33)) (w : World) (hr0 : Kd.C k26 w A0 l0.length l0) (hc0 : l0.length ≤ c0) (h : laws_toExpS.f m_ l0 = some r), Calls Try.prog 26 #[.slice A0 l0.length c0] w (BackS 33 6 RepEs r w)
abbrev TDs (m_ : Nat) : Prop := ∀ (A0 : Option Addr) (c0 : Nat) (l0 : List (S63)) (r : List (S68)) (w : World) (hr0 : Kd.C k63 w A0 l0.length l0) (hc0 : l0.length ≤ c0) (h : laws_toDecS.f m_ l0 = some r), Calls Try.prog 27 #[.slice A0 l0.length c0] w (BackS 68 9 RepDs r w)
abbrev TAs (m_ : Nat) : Prop := ∀ (A0 : Option Addr) (c0 : Nat) (l0 : List (S66)) (r : List (S53)) (w : World) (hr0 : Kd.C k66 w A0 l0.length l0) (hc0 : l0.length ≤ c0) (h : laws_toAltS.f m_ l0 = some r), Calls Try.prog 28 #[.slice A0 l0.length c0] w (BackS 53 8 RepAs r w)
abbrev TE (m_ : Nat) : Prop := ∀ (a0_0 : Int) (a0_1 : ByteArray) (a0_2 : Int) (A0_3 : Option Addr) (c0_3 : Nat) (l0_3 : List (S26)) (A0_4 : Option Addr) (c0_4 : Nat) (l0_4 : List (S63)) (A0_5 : Option Addr) (c0_5 : Nat) (l0_5 : List (S66)) (r1 : Int) (r2 : ByteArray) (r3 : Int) (r4 : List (S33)) (r5 : List (S68)) (r6 : List (S53)) (w : World) (hr0_3 : Kd.C k26 w A0_3 l0_3.length l0_3) (hc0_3 : l0_3.length ≤ c0_3) (hr0_4 : Kd.C k63 w A0_4 l0_4.length l0_4) (hc0_4 : l0_4.length ≤ c0_4) (hr0_5 : Kd.C k66 w A0_5 l0_5.length l0_5) (hc0_5 : l0_5.length ≤ c0_5) (h : laws_toExp.f m_ a0_0 a0_1 a0_2 l0_3 l0_4 l0_5 = some (r1, r2, r3, r4, r5, r6)),
  Calls Try.prog 10 #[.agg #[.int .i64 a0_0, .string a0_1, .int .i64 a0_2, .slice A0_3 l0_3.length c0_3, .slice A0_4 l0_4.length c0_4, .slice A0_5 l0_5.length c0_5]] w (BackE w.heap.size r1 r2 r3 r4 r5 r6 w)
abbrev TD (m_ : Nat) : Prop := ∀ (a0_0 : ByteArray) (A0_1 : Option Addr) (c0_1 : Nat) (l0_1 : List ByteArray) (a0_2 : Int) (a0_3 : ByteArray) (a0_4 : Int) (A0_5 : Option Addr) (c0_5 : Nat) (l0_5 : List (S26)) (A0_6 : Option Addr) (c0_6 : Nat) (l0_6 : List (S63)) (A0_7 : Option Addr) (c0_7 : Nat) (l0_7 : List (S66)) (A0_8 : Option Addr) (c0_8 : Nat) (l0_8 : List (S63)) (r1 : ByteArray) (r2 : List ByteArray) (r3 : Int) (r4 : ByteArray) (r5 : Int) (r6 : List (S33)) (r7 : List (S68)) (r8 : List (S53)) (r9 : List (S68)) (w : World) (hr0_1 : Kd.C Kd.string w A0_1 l0_1.length l0_1) (hc0_1 : l0_1.length ≤ c0_1) (hr0_5 : Kd.C k26 w A0_5 l0_5.length l0_5) (hc0_5 : l0_5.length ≤ c0_5) (hr0_6 : Kd.C k63 w A0_6 l0_6.length l0_6) (hc0_6 : l0_6.length ≤ c0_6) (hr0_7 : Kd.C k66 w A0_7 l0_7.length l0_7) (hc0_7 : l0_7.length ≤ c0_7) (hr0_8 : Kd.C k63 w A0_8 l0_8.length l0_8) (hc0_8 : l0_8.length ≤ c0_8) (h : laws_toDec.f m_ a0_0 l0_1 a0_2 a0_3 a0_4 l0_5 l0_6 l0_7 l0_8 = some (r1, r2, r3, r4, r5, r6, r7, r8, r9)),
  Calls Try.prog 51 #[.agg #[.string a0_0, .slice A0_1 l0_1.length c0_1, .int .i64 a0_2, .string a0_3, .int .i64 a0_4, .slice A0_5 l0_5.length c0_5, .slice A0_6 l0_6.length c0_6, .slice A0_7 l0_7.length c0_7, .slice A0_8 l0_8.length c0_8]] w fun e w' => ∃ (A1 : Option Addr) (c1 : Nat) (A3 : Option Addr) (c3 : Nat) (i3 : List It) (A4 : Option Addr) (c4 : Nat) (i4 : List It) (A5 : Option Addr) (c5 : Nat) (i5 : List It) (A8 : Option Addr) (c8 : Nat) (i8 : List It), e = .returned (.agg #[.string r1, .slice A1 r2.length c1, .int .i64 r3, .string r4, .int .i64 r5, .slice A3 r6.length c3, .slice A4 r7.length c4, .slice A5 r8.length c5, .slice A8 r9.length c8]) ∧ Grow w.heap.size (row1 A1 c1 r2 ++ rows3 A3 r6.length c3 i3 A4 r7.length c4 i4 A5 r8.length c5 i5 ++ [.r 68 9 (.slice A8 r9.length c8) r9.length i8]) w' ∧ (RepEs r6 i3 ∧ RepDs r7 i4 ∧ RepAs r8 i5 ∧ RepDs r9 i8) ∧ Below w.heap.size w w'
abbrev TA (m_ : Nat) : Prop := ∀ (a0_0 : ByteArray) (A0_1 : Option Addr) (c0_1 : Nat) (l0_1 : List ByteArray) (a0_2 : Int) (a0_3 : ByteArray) (a0_4 : Int) (A0_5 : Option Addr) (c0_5 : Nat) (l0_5 : List (S26)) (A0_6 : Option Addr) (c0_6 : Nat) (l0_6 : List (S63)) (A0_7 : Option Addr) (c0_7 : Nat) (l0_7 : List (S66)) (r1 : ByteArray) (r2 : List ByteArray) (r3 : Int) (r4 : ByteArray) (r5 : Int) (r6 : List (S33)) (r7 : List (S68)) (r8 : List (S53)) (w : World) (hr0_1 : Kd.C Kd.string w A0_1 l0_1.length l0_1) (hc0_1 : l0_1.length ≤ c0_1) (hr0_5 : Kd.C k26 w A0_5 l0_5.length l0_5) (hc0_5 : l0_5.length ≤ c0_5) (hr0_6 : Kd.C k63 w A0_6 l0_6.length l0_6) (hc0_6 : l0_6.length ≤ c0_6) (hr0_7 : Kd.C k66 w A0_7 l0_7.length l0_7) (hc0_7 : l0_7.length ≤ c0_7) (h : laws_toAlt.f m_ a0_0 l0_1 a0_2 a0_3 a0_4 l0_5 l0_6 l0_7 = some (r1, r2, r3, r4, r5, r6, r7, r8)),
  Calls Try.prog 52 #[.agg #[.string a0_0, .slice A0_1 l0_1.length c0_1, .int .i64 a0_2, .string a0_3, .int .i64 a0_4, .slice A0_5 l0_5.length c0_5, .slice A0_6 l0_6.length c0_6, .slice A0_7 l0_7.length c0_7]] w fun e w' => ∃ (A1 : Option Addr) (c1 : Nat) (A3 : Option Addr) (c3 : Nat) (i3 : List It) (A4 : Option Addr) (c4 : Nat) (i4 : List It) (A5 : Option Addr) (c5 : Nat) (i5 : List It), e = .returned (.agg #[.string r1, .slice A1 r2.length c1, .int .i64 r3, .string r4, .int .i64 r5, .slice A3 r6.length c3, .slice A4 r7.length c4, .slice A5 r8.length c5]) ∧ Grow w.heap.size (row1 A1 c1 r2 ++ rows3 A3 r6.length c3 i3 A4 r7.length c4 i4 A5 r8.length c5 i5) w' ∧ (RepEs r6 i3 ∧ RepDs r7 i4 ∧ RepAs r8 i5) ∧ Below w.heap.size w w'
end Go.Proofs.Ytpndcfibjjkgcaa.MyItc
namespace Go.Proofs.Ytpndcfibjjkgcaa.MyItc
open Go Go.RowKit Go.Proofs.YtpndcfibjjkgcaaW.PrintWords Go.Proofs.Ytpndcfibjjkgcaa.PIfg
theorem set_at {α : Type} (X : List α) (m i : Nat) (z el : α) (hi : X.length = i) : (X ++ List.replicate (m + 1) z).set i el = (X ++ [el]) ++ List.replicate m z := by
  subst hi
  rw [List.replicate_succ, List.set_append_right _ _ (Nat.le_refl _), Nat.sub_self, List.set_cons_zero, List.append_assoc]
  rfl
theorem get_at {α : Type} (X : List α) (m i : Nat) (z d : α) (hi : X.length = i) : (X ++ List.replicate (m + 1) z).getD i d = z := by
  subst hi
  rw [List.getD_eq_getElem?_getD, List.getElem?_append_right (Nat.le_refl _), Nat.sub_self]
  rfl
abbrev zIE : List It := [.i 0, .s ⟨#[]⟩, .i 0, .r 33 6 (.slice none 0 0) 0 [], .r 68 9 (.slice none 0 0) 0 [], .r 53 8 (.slice none 0 0) 0 []]
abbrev zIA : List It := .s ⟨#[]⟩ :: .r 9 1 (.slice none 0 0) 0 [] :: zIE
abbrev zID : List It := .s ⟨#[]⟩ :: .r 9 1 (.slice none 0 0) 0 [] :: (zIE ++ [.r 68 9 (.slice none 0 0) 0 []])
theorem z_row (w : World) (e sz : Nat) (he : e = 9 ∨ e = 33 ∨ e = 53 ∨ e = 68) : (It.r e sz (.slice none 0 0) 0 []).At w := by
  simp only [It.At, AtL, and_true]
  exact ⟨he, by simp, .inl ⟨rfl, rfl⟩⟩
theorem z_M {w : World} {base : Nat} {ok : Nat → Prop} : (Kd.it 6).M w base ok zIE (zIE.map It.val) ∧ (Kd.it 8).M w base ok zIA (zIA.map It.val) ∧ (Kd.it 9).M w base ok zID (zID.map It.val) := by
  have h9 := z_row w 9 1 (by simp)
  have h33 := z_row w 33 6 (by simp)
  have h68 := z_row w 68 9 (by simp)
  have h53 := z_row w 53 8 (by simp)
  refine ⟨⟨rfl, rfl, ?_, by simp [blksL, It.blks, Value.ownBlock]⟩, ⟨rfl, rfl, ?_, by simp [blksL, It.blks, Value.ownBlock]⟩, ⟨rfl, rfl, ?_, by simp [blksL, It.blks, Value.ownBlock]⟩⟩
  · simp only [AtL]
    exact ⟨by simp only [It.At], by simp only [It.At], by simp only [It.At], h33, h68, h53, trivial⟩
  · simp only [AtL]
    exact ⟨by simp only [It.At], h9, by simp only [It.At], by simp only [It.At], by simp only [It.At], h33, h68, h53, trivial⟩
  · simp only [List.cons_append, List.nil_append, AtL]
    exact ⟨by simp only [It.At], h9, by simp only [It.At], by simp only [It.At], by simp only [It.At], h33, h68, h53, h68, trivial⟩
theorem take_set {α : Type} (y : List α) (i : Nat) (x : α) (h : i < y.length) : (y.set i x).take (i + 1) = y.take i ++ [x] := by
  rw [List.take_succ_eq_append_getElem (by simpa using h), List.take_set_of_le (Nat.le_refl _), List.getElem_set_self]
theorem r_lt {α : Type} {d : Kd α} {e : Nat} {w w1 : World} {base : Nat} {ok : Nat → Prop} {v : Value} {xs : List α} (h : d.R e w base ok v xs) (_hb : Below w.heap.size w w1) : ∀ k, v.ownBlock = some k → k < w.heap.size := Kd.R_lt h
theorem x_lt {n e : Nat} {w w1 : World} {base : Nat} {ok : Nat → Prop} {v : Value} {xs : List (List It)} (h : (Kd.it n).R e w base ok v xs) (he : e = 9 ∨ e = 33 ∨ e = 53 ∨ e = 68) (_hb : Below w.heap.size w w1) : ∀ b ∈ blksL xs.flatten, b < w.heap.size := fun b hb =>
  (AtL_blk _ (Kd.it_row h he).1 b (by simp only [blksL, It.blks, List.append_nil]; exact List.mem_append_right _ hb)).1
end Go.Proofs.Ytpndcfibjjkgcaa.MyItc

/- A slice that is written out, as items; the elements of a slice of three that came in. No condition. -/
import Derived.Test.YtpndcfibjjkgcaaMyItt
import Derived.Test.YtpndcfibjjkgcaaMyItcE
import Derived.Test.YtpndcfibjjkgcaaWRepsOne
namespace Go.Proofs.Ytpndcfibjjkgcaa.MyItc
open Go Go.RowKit Go.Proofs.YtpndcfibjjkgcaaW.PrintWords Go.Proofs.YtpndcfibjjkgcaaW.PrintLast Go.Proofs.YtpndcfibjjkgcaaW.PrintMore Go.Proofs.Ytpndcfibjjkgcaa.PIfg
set_option linter.unusedVariables false
set_option linter.unusedSimpArgs false
theorem lit_at {W : World} {e sz n : Nat} {items : List It} (hl : items.length = n * sz) (hA : AtL W items) (he : e = 9 ∨ e = 33 ∨ e = 53 ∨ e = 68) (hn : n ≤ 9223372036854775807) :
    AtL (W.alloc (.cells (items.map It.val).toArray e (0, 0))) [.r e sz (.slice (some ⟨W.heap.size, 0, none⟩) n n) n items] := by
  simp only [AtL, It.At, and_true]
  refine ⟨he, ?_, AtL_below hA (below_alloc (Below.refl _ _) _)⟩
  have h2 := World.ownsRow_lit (base := 0) (e := e) (size := sz) W (items.map It.val).toArray n (Nat.zero_le _) (by simpa [maxLen] using hn) (by simpa using hl)
  simpa using h2
section
variable {P : Program} {ops : Array Oper} {o : Oper} {a : Act} {Q : Exit → Act → World → Prop} {Kc : Act → World → Prop}
theorem lit_step {W : World} {e sz n : Nat} {items : List It} (inner : List Value) (hi : inner = items.map It.val) (hw : Region.wanted o (yielded ops a.tmps) = true)
    (hrun : (execOp a.eval o).run P W = .ok (.value (.slice (some ⟨W.heap.size, 0, none⟩) n n)) (W.alloc (.cells inner.toArray e)))
    (hl : items.length = n * sz) (hA : AtL W items) (he : e = 9 ∨ e = 33 ∨ e = 53 ∨ e = 68) (hn : n ≤ 9223372036854775807)
    (h : ∀ b w1, b = W.heap.size → AtL w1 [.r e sz (.slice (some ⟨b, 0, none⟩) n n) n items] → Below W.heap.size W w1 → Kc (a.put o.dst (.slice (some ⟨b, 0, none⟩) n n)) w1) :
    if Region.wanted o (yielded ops a.tmps) = true then Oper.wp P o a W Kc Q else Kc (a.put o.dst undef) W := by
  subst hi
  exact event_step hw hrun (h _ _ rfl (lit_at hl hA he hn) (below_alloc (Below.refl _ _) _))
end
theorem at3_0 {w : World} {A : Option Addr} {n : Nat} {xs : List S33} (h : Kd.C k33 w A n xs) (h1 : (0 : Int) < n) : ∃ ad A3 c3 A4 c4 A5 c5, A = some ad ∧ (w.cell? ad = some (.int .i64 (rd_T33 xs 0).f0) ∧ w.cell? ⟨ad.block, ad.off + 1, none⟩ = some (.string (rd_T33 xs 0).f1) ∧ w.cell? ⟨ad.block, ad.off + 2, none⟩ = some (.int .i64 (rd_T33 xs 0).f2) ∧ w.cell? ⟨ad.block, ad.off + 3, none⟩ = some (.slice A3 (rd_T33 xs 0).f3.length c3) ∧ w.cell? ⟨ad.block, ad.off + 4, none⟩ = some (.slice A4 (rd_T33 xs 0).f4.length c4) ∧ w.cell? ⟨ad.block, ad.off + 5, none⟩ = some (.slice A5 (rd_T33 xs 0).f5.length c5)) ∧ ArgE w A3 c3 (rd_T33 xs 0).f3 A4 c4 (rd_T33 xs 0).f4 A5 c5 (rd_T33 xs 0).f5 := by
  obtain ⟨ad, A3, c3, A4, c4, A5, c5, e, h0, h1, h2, h3, h4, h5, l3, g3, l4, g4, l5, g5⟩ := at_T33 h 0 (by omega) h1
  simp only [show ((0 : Int)).toNat = 0 from rfl, Nat.zero_mul, Addr.add_zero'] at h0 h1 h2 h3 h4 h5
  exact ⟨ad, A3, c3, A4, c4, A5, c5, e, ⟨h0, h1, h2, h3, h4, h5⟩, ⟨⟨g3, l3⟩, ⟨g4, l4⟩, ⟨g5, l5⟩⟩⟩
theorem at3_1 {w : World} {A : Option Addr} {n : Nat} {xs : List S33} (h : Kd.C k33 w A n xs) (h1 : (1 : Int) < n) : ∃ ad A3 c3 A4 c4 A5 c5, A = some ad ∧ (w.cell? ⟨ad.block, ad.off + 6, none⟩ = some (.int .i64 (rd_T33 xs 1).f0) ∧ w.cell? ⟨ad.block, ad.off + 6 + 1, none⟩ = some (.string (rd_T33 xs 1).f1) ∧ w.cell? ⟨ad.block, ad.off + 6 + 2, none⟩ = some (.int .i64 (rd_T33 xs 1).f2) ∧ w.cell? ⟨ad.block, ad.off + 6 + 3, none⟩ = some (.slice A3 (rd_T33 xs 1).f3.length c3) ∧ w.cell? ⟨ad.block, ad.off + 6 + 4, none⟩ = some (.slice A4 (rd_T33 xs 1).f4.length c4) ∧ w.cell? ⟨ad.block, ad.off + 6 + 5, none⟩ = some (.slice A5 (rd_T33 xs 1).f5.length c5)) ∧ ArgE w A3 c3 (rd_T33 xs 1).f3 A4 c4 (rd_T33 xs 1).f4 A5 c5 (rd_T33 xs 1).f5 := by
  obtain ⟨ad, A3, c3, A4, c4, A5, c5, e, h0, h1, h2, h3, h4, h5, l3, g3, l4, g4, l5, g5⟩ := at_T33 h 1 (by omega) h1
  simp only [show (1 : Int).toNat = 1 from rfl, Nat.reduceMul, Nat.reduceEqDiff, Go.Addr.add, ↓reduceIte] at h0 h1 h2 h3 h4 h5
  exact ⟨ad, A3, c3, A4, c4, A5, c5, e, ⟨h0, h1, h2, h3, h4, h5⟩, ⟨⟨g3, l3⟩, ⟨g4, l4⟩, ⟨g5, l5⟩⟩⟩
theorem at3_2 {w : World} {A : Option Addr} {n : Nat} {xs : List S33} (h : Kd.C k33 w A n xs) (h1 : (2 : Int) < n) : ∃ ad A3 c3 A4 c4 A5 c5, A = some ad ∧ (w.cell? ⟨ad.block, ad.off + 12, none⟩ = some (.int .i64 (rd_T33 xs 2).f0) ∧ w.cell? ⟨ad.block, ad.off + 12 + 1, none⟩ = some (.string (rd_T33 xs 2).f1) ∧ w.cell? ⟨ad.block, ad.off + 12 + 2, none⟩ = some (.int .i64 (rd_T33 xs 2).f2) ∧ w.cell? ⟨ad.block, ad.off + 12 + 3, none⟩ = some (.slice A3 (rd_T33 xs 2).f3.length c3) ∧ w.cell? ⟨ad.block, ad.off + 12 + 4, none⟩ = some (.slice A4 (rd_T33 xs 2).f4.length c4) ∧ w.cell? ⟨ad.block, ad.off + 12 + 5, none⟩ = some (.slice A5 (rd_T33 xs 2).f5.length c5)) ∧ ArgE w A3 c3 (rd_T33 xs 2).f3 A4 c4 (rd_T33 xs 2).f4 A5 c5 (rd_T33 xs 2).f5 := by
  obtain ⟨ad, A3, c3, A4, c4, A5, c5, e, h0, h1, h2, h3, h4, h5, l3, g3, l4, g4, l5, g5⟩ := at_T33 h 2 (by omega) h1
  simp only [show (2 : Int).toNat = 2 from rfl, Nat.reduceMul, Nat.reduceEqDiff, Go.Addr.add, ↓reduceIte] at h0 h1 h2 h3 h4 h5
  exact ⟨ad, A3, c3, A4, c4, A5, c5, e, ⟨h0, h1, h2, h3, h4, h5⟩, ⟨⟨g3, l3⟩, ⟨g4, l4⟩, ⟨g5, l5⟩⟩⟩
/-- Six cells of w's, at a later world. -/
theorem six_later {w w' : World} (hb : Below w.heap.size w w') {p0 p1 p2 p3 p4 p5 : Addr} {v0 v1 v2 v3 v4 v5 : Value} (h : w.cell? p0 = some v0 ∧ w.cell? p1 = some v1 ∧ w.cell? p2 = some v2 ∧ w.cell? p3 = some v3 ∧ w.cell? p4 = some v4 ∧ w.cell? p5 = some v5) :
    w'.cell? p0 = some v0 ∧ w'.cell? p1 = some v1 ∧ w'.cell? p2 = some v2 ∧ w'.cell? p3 = some v3 ∧ w'.cell? p4 = some v4 ∧ w'.cell? p5 = some v5 :=
  have f : ∀ {p : Addr} {v : Value}, w.cell? p = some v → w'.cell? p = some v := fun h => (hb.cell (World.block_lt_of_cell? w _ h)).trans h
  ⟨f h.1, f h.2.1, f h.2.2.1, f h.2.2.2.1, f h.2.2.2.2.1, f h.2.2.2.2.2⟩
theorem nd5 {a b : Nat} {X Y Z : List Nat} (hX : X.Nodup) (hY : Y.Nodup) (hZ : Z.Nodup) (h1 : ∀ x ∈ X, x ≠ a) (h2 : ∀ x ∈ X, x ≠ b) (h3 : ∀ x ∈ Y, x ≠ a) (h4 : ∀ x ∈ Y, x ≠ b) (h5 : ∀ x ∈ Z, x ≠ a) (h6 : ∀ x ∈ Z, x ≠ b) (h7 : a ≠ b) (h8 : ∀ x ∈ X, ∀ y ∈ Y, x ≠ y) (h9 : ∀ x ∈ X, ∀ y ∈ Z, x ≠ y) (h10 : ∀ x ∈ Y, ∀ y ∈ Z, x ≠ y) : ((a :: X) ++ (b :: (Y ++ Z))).Nodup := by
  refine List.nodup_append.2 ⟨List.nodup_cons.2 ⟨fun h => h1 a h rfl, hX⟩, List.nodup_cons.2 ⟨fun h => ?_, List.nodup_append.2 ⟨hY, hZ, fun x hx y hy => h10 x hx y hy⟩⟩, fun x hx y hy => ?_⟩
  · rcases List.mem_append.1 h with h | h
    · exact h4 b h rfl
    · exact h6 b h rfl
  · rcases List.mem_cons.1 hx with rfl | hx <;> rcases List.mem_cons.1 hy with rfl | hy
    · exact h7
    · rcases List.mem_append.1 hy with hy | hy
      · exact (h3 y hy).symm
      · exact (h5 y hy).symm
    · exact h2 x hx
    · rcases List.mem_append.1 hy with hy | hy
      · exact h8 x hx y hy
      · exact h9 x hx y hy
end Go.Proofs.Ytpndcfibjjkgcaa.MyItc

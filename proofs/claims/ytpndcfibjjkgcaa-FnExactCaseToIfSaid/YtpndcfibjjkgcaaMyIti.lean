/- A slice that is written out, as items; the elements of a slice of three that came in. No condition. -/
import Derived.Test.YtpndcfibjjkgcaaMyItt
import Derived.Test.YtpndcfibjjkgcaaMyItcE
import Derived.Test.YtpndcfibjjkgcaaWRepsOne
namespace Go.Proofs.Ytpndcfibjjkgcaa.MyItc
open Go Go.RowKit Go.Proofs.YtpndcfibjjkgcaaW.PrintWords Go.Proofs.YtpndcfibjjkgcaaW.PrintLast Go.Proofs.YtpndcfibjjkgcaaW.PrintMore Go.Proofs.Ytpndcfibjjkgcaa.PIfg
set_option linter.unusedVariables false
set_option linter.unusedSimpArgs false
theorem lit_at {W : World} {e sz n : Nat} {items : List It} (hl : items.length = n * sz) (hA : AtL W items) (he : e = 9 ∨ e = 33 ∨ e = 53 ∨ e = 68) (hn : n ≤ 9223372036854775807) :
    AtL (W.alloc (.cells (items.map It.val).toArray e (0, 0))) [.r e sz (.slice (some ⟨W.heap.size, 0, none⟩) n n) n items] := by
  simp only [AtL, It.At, and_true]
  refine ⟨he, ?_, AtL_below hA (below_alloc (Below.refl _ _) _)⟩
  have h2 := World.ownsRow_lit (base := 0) (e := e) (size := sz) W (items.map It.val).toArray n (Nat.zero_le _) (by simpa [maxLen] using hn) (by simpa using hl)
  simpa using h2
section
variable {P : Program} {ops : Array Oper} {o : Oper} {a : Act} {Q : Exit → Act → World → Prop} {Kc : Act → World → Prop}
theorem lit_step {W : World} {e sz n : Nat} {items : List It} (inner : List Value) (hi : inner = items.map It.val) (hw : Region.wanted o (yielded ops a.tmps) = true)
    (hrun : (execOp a.eval o).run P W = .ok (.value (.slice (some ⟨W.heap.size, 0, none⟩) n n)) (W.alloc (.cells inner.toArray e)))
    (hl : items.length = n * sz) (hA : AtL W items) (he : e = 9 ∨ e = 33 ∨ e = 53 ∨ e = 68) (hn : n ≤ 9223372036854775807)
    (h : ∀ b w1, b = W.heap.size → AtL w1 [.r e sz (.slice (some ⟨b, 0, none⟩) n n) n items] → Below W.heap.size W w1 → Kc (a.put o.dst (.slice (some ⟨b, 0, none⟩) n n)) w1) :
    if Region.wanted o (yielded ops a.tmps) = true then Oper.wp P o a W Kc Q else Kc (a.put o.dst undef) W := by
  subst hi
  exact event_step hw hrun (h _ _ rfl (lit_at hl hA he hn) (below_alloc (Below.refl _ _) _))
end
/-- Six cells of w's, at a later world. -/
theorem six_later {w w' : World} (hb : Below w.heap.size w w') {p0 p1 p2 p3 p4 p5 : Addr} {v0 v1 v2 v3 v4 v5 : Value} (h : w.cell? p0 = some v0 ∧ w.cell? p1 = some v1 ∧ w.cell? p2 = some v2 ∧ w.cell? p3 = some v3 ∧ w.cell? p4 = some v4 ∧ w.cell? p5 = some v5) :
    w'.cell? p0 = some v0 ∧ w'.cell? p1 = some v1 ∧ w'.cell? p2 = some v2 ∧ w'.cell? p3 = some v3 ∧ w'.cell? p4 = some v4 ∧ w'.cell? p5 = some v5 :=
  have f : ∀ {p : Addr} {v : Value}, w.cell? p = some v → w'.cell? p = some v := fun h => (hb.cell (World.block_lt_of_cell? w _ h)).trans h
  ⟨f h.1, f h.2.1, f h.2.2.1, f h.2.2.2.1, f h.2.2.2.2.1, f h.2.2.2.2.2⟩
end Go.Proofs.Ytpndcfibjjkgcaa.MyItc

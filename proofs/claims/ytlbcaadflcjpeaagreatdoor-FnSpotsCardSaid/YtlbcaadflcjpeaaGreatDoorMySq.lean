/- Small lemmas on what is held along a walk: all cells of a block at once, what a call keeps, what a new block is. No condition. -/
import Derived.Test.YtlbcaadflcjpeaaGreatDoorWMore
import Derived.Test.YtlbcaadflcjpeaaGreatDoorWLast
namespace Go.Proofs.YtlbcaadflcjpeaaGreatDoorW.PrintWords
open Go Go.RowKit
theorem cells4 {w : World} {g : Nat} {t : TypeId} {c0 c1 c2 c3 : Value} (h : w.heap[g]? = some (.cells #[c0, c1, c2, c3] t (0, 0))) : w.cell? ⟨g, 0, none⟩ = some c0 ∧ w.cell? ⟨g, 1, none⟩ = some c1 ∧ w.cell? ⟨g, 2, none⟩ = some c2 ∧ w.cell? ⟨g, 3, none⟩ = some c3 ∧ w.frozen? ⟨g, 0, none⟩ = false ∧ w.frozen? ⟨g, 1, none⟩ = false ∧ w.frozen? ⟨g, 2, none⟩ = false ∧ w.frozen? ⟨g, 3, none⟩ = false := ⟨(blk_cell h 0).trans rfl, (blk_cell h 1).trans rfl, (blk_cell h 2).trans rfl, (blk_cell h 3).trans rfl, blk_frozen h 0, blk_frozen h 1, blk_frozen h 2, blk_frozen h 3⟩
theorem put_4_0 {w : World} {g : Nat} {t : TypeId} {c0 c1 c2 c3 u : Value} (h : w.heap[g]? = some (.cells #[c0, c1, c2, c3] t (0, 0))) : (w.setCell ⟨g, 0, none⟩ u).heap[g]? = some (.cells #[u, c1, c2, c3] t (0, 0)) := blk_put h 0 u rfl
theorem put_4_1 {w : World} {g : Nat} {t : TypeId} {c0 c1 c2 c3 u : Value} (h : w.heap[g]? = some (.cells #[c0, c1, c2, c3] t (0, 0))) : (w.setCell ⟨g, 1, none⟩ u).heap[g]? = some (.cells #[c0, u, c2, c3] t (0, 0)) := blk_put h 1 u rfl
theorem put_4_2 {w : World} {g : Nat} {t : TypeId} {c0 c1 c2 c3 u : Value} (h : w.heap[g]? = some (.cells #[c0, c1, c2, c3] t (0, 0))) : (w.setCell ⟨g, 2, none⟩ u).heap[g]? = some (.cells #[c0, c1, u, c3] t (0, 0)) := blk_put h 2 u rfl
theorem put_4_3 {w : World} {g : Nat} {t : TypeId} {c0 c1 c2 c3 u : Value} (h : w.heap[g]? = some (.cells #[c0, c1, c2, c3] t (0, 0))) : (w.setCell ⟨g, 3, none⟩ u).heap[g]? = some (.cells #[c0, c1, c2, u] t (0, 0)) := blk_put h 3 u rfl
theorem Kd.R_st {α : Type} {d : Kd α} {e g i : Nat} {w : World} {base : Nat} {ok : Nat → Prop} {v u : Value} {xs : List α} (h : d.R e w base (fun k => ok k ∧ k ≠ g) v xs) : d.R e (w.setCell ⟨g, i, none⟩ u) base (fun k => ok k ∧ k ≠ g) v xs := Kd.R_far h (fun _ hk => hk.2) u
theorem Kd.R_out {α : Type} {d : Kd α} {e g : Nat} {w : World} {base : Nat} {ok : Nat → Prop} {v : Value} {xs : List α} (h : d.R e w base (fun k => ok k ∧ k ≠ g) v xs) : d.R e w base ok v xs := Kd.R_mono h (fun _ hk => hk.1)
theorem bel_of {w W w1 : World} (_hb : Below W.heap.size W w1) (h : Below w.heap.size w W) : Below w.heap.size w W := h
theorem box_ge {w W : World} {g : Nat} (h : Below w.heap.size w W) (hg : g = W.heap.size) : w.heap.size ≤ g := by rw [hg]; exact h.size
theorem box_lt {W : World} {g g' : Nat} {o : Obj} (h : W.heap[g']? = some o) (hg : g = W.heap.size) : g' ≠ g := by rw [hg]; exact Nat.ne_of_lt (blk_lt h)
theorem box_gt {W : World} {g g' : Nat} {o : Obj} (h : W.heap[g']? = some o) (hg : g = W.heap.size) : g ≠ g' := by rw [hg]; exact Nat.ne_of_gt (blk_lt h)
end Go.Proofs.YtlbcaadflcjpeaaGreatDoorW.PrintWords

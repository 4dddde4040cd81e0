/- Values that were made, as items: numbers, texts, rows of items; where each row lies; what stays when other blocks are written. No condition. -/
import Derived.Test.YtpndcfibjjkgcaaWMore
import Derived.Test.YtpndcfibjjkgcaaWLast
namespace Go.Proofs.YtpndcfibjjkgcaaW.PrintWords
open Go Go.RowKit
set_option linter.unusedVariables false
/-- A number, a text, a row (its element's type and size, the slice, how many, the items of all elements in their order). -/
inductive It where
  | i (n : Int)
  | s (b : ByteArray)
  | r (e sz : Nat) (v : Value) (n : Nat) (xs : List It)
def It.val : It → Value
  | .i n => .int .i64 n
  | .s b => .string b
  | .r _ _ v _ _ => v
mutual
def It.blks : It → List Nat
  | .i _ => []
  | .s _ => []
  | .r _ _ v _ xs => v.ownBlock.toList ++ blksL xs
def blksL : List It → List Nat
  | [] => []
  | x :: l => x.blks ++ blksL l
end
mutual
def It.At (w : World) : It → Prop
  | .i _ => True
  | .s _ => True
  | .r e sz v n xs => (e = 9 ∨ e = 33 ∨ e = 53 ∨ e = 68) ∧ w.ownsRow 0 e sz v n (xs.map It.val) ∧ AtL w xs
def AtL (w : World) : List It → Prop
  | [] => True
  | x :: l => x.At w ∧ AtL w l
end
mutual
theorem It.At_move {w w1 : World} : ∀ x : It, x.At w → (∀ b ∈ x.blks, w1.heap[b]? = w.heap[b]?) → x.At w1
  | .i _, _, _ => by simp only [It.At]
  | .s _, _, _ => by simp only [It.At]
  | .r e sz v n xs, h, hm => by
    simp only [It.At, It.blks] at h hm ⊢
    refine ⟨h.1, own_move h.2.1 (fun k hk => hm k ?_), AtL_move xs h.2.2 (fun b hb => hm b (List.mem_append_right _ hb))⟩
    rw [hk]
    exact List.mem_append_left _ (by simp)
theorem AtL_move {w w1 : World} : ∀ l : List It, AtL w l → (∀ b ∈ blksL l, w1.heap[b]? = w.heap[b]?) → AtL w1 l
  | [], _, _ => by simp only [AtL]
  | x :: l, h, hm => by
    simp only [AtL, blksL] at h hm ⊢
    exact ⟨It.At_move x h.1 (fun b hb => hm b (List.mem_append_left _ hb)), AtL_move l h.2 (fun b hb => hm b (List.mem_append_right _ hb))⟩
end
mutual
theorem It.At_blk {w : World} : ∀ x : It, x.At w → ∀ b ∈ x.blks, b < w.heap.size ∧ ∃ q, q ∈ [9, 33, 53, 68] ∧ ∃ cells, w.heap[b]? = some (.cells cells q (0, 0))
  | .i _, _, b, hb => by simp [It.blks] at hb
  | .s _, _, b, hb => by simp [It.blks] at hb
  | .r e sz v n xs, h, b, hb => by
    simp only [It.At, It.blks] at h hb
    rcases List.mem_append.1 hb with hb | hb
    · have hv : v.ownBlock = some b := by simpa using hb
      obtain ⟨cells, hc⟩ := own_typed h.2.1 b hv
      refine ⟨own_lt h.2.1 b hv, e, ?_, cells, hc⟩
      rcases h.1 with rfl | rfl | rfl | rfl <;> simp
    · exact AtL_blk xs h.2.2 b hb
theorem AtL_blk {w : World} : ∀ l : List It, AtL w l → ∀ b ∈ blksL l, b < w.heap.size ∧ ∃ q, q ∈ [9, 33, 53, 68] ∧ ∃ cells, w.heap[b]? = some (.cells cells q (0, 0))
  | [], _, b, hb => by simp [blksL] at hb
  | x :: l, h, b, hb => by
    simp only [AtL, blksL] at h hb
    rcases List.mem_append.1 hb with hb | hb
    · exact It.At_blk x h.1 b hb
    · exact AtL_blk l h.2 b hb
end
theorem AtL_below {w w1 : World} {l : List It} (h : AtL w l) (hb : Below w.heap.size w w1) : AtL w1 l := AtL_move l h (fun b hb' => hb.block b (AtL_blk l h b hb').1)
theorem AtL_app {w : World} : ∀ l m : List It, AtL w (l ++ m) ↔ AtL w l ∧ AtL w m
  | [], m => by simp [AtL]
  | x :: l, m => by simp only [List.cons_append, AtL, AtL_app l m, and_assoc]
theorem blksL_app : ∀ l m : List It, blksL (l ++ m) = blksL l ++ blksL m
  | [], m => by simp [blksL]
  | x :: l, m => by simp only [List.cons_append, blksL, blksL_app l m, List.append_assoc]
theorem At_one {w : World} : ∀ x : It, x.At w → x.val.oneCell' = true
  | .i _, _ => rfl
  | .s _, _ => rfl
  | .r e sz v n xs, h => by
    simp only [It.At] at h
    rcases h.2.1.2 with ⟨rfl, _⟩ | ⟨g, cap, cur, rfl, _⟩ <;> rfl
theorem AtL_one {w : World} : ∀ l : List It, AtL w l → ∀ u ∈ l.map It.val, u.oneCell' = true
  | [], _, u, hu => by simp at hu
  | x :: l, h, u, hu => by
    simp only [AtL] at h
    rcases List.mem_cons.1 hu with rfl | hu
    · exact At_one x h.1
    · exact AtL_one l h.2 u hu
namespace Kd
/-- Items, so many cells. -/
def it (n : Nat) : Kd (List It) where
  sz := n
  E := [9, 33, 53, 68]
  K := fun w x cs => x.length = n ∧ cs = x.map It.val ∧ AtL w x
  M := fun w base ok x cs => x.length = n ∧ cs = x.map It.val ∧ AtL w x ∧ ∀ b ∈ blksL x, ok b ∧ base ≤ b
  K_len := fun h => by rw [h.2.1, List.length_map, h.1]
  K_one := fun h => by rw [h.2.1]; exact AtL_one _ h.2.2
  K_below := fun hb h => ⟨h.1, h.2.1, AtL_below h.2.2 hb⟩
  K_of_M := fun h => ⟨h.1, h.2.1, h.2.2.1⟩
  M_mono := fun hok h => ⟨h.1, h.2.1, h.2.2.1, fun b hb => ⟨hok b (h.2.2.2 b hb).1, (h.2.2.2 b hb).2⟩⟩
  M_bound := fun h => ⟨h.1, h.2.1, h.2.2.1, fun b hb => ⟨⟨(h.2.2.2 b hb).1, (h.2.2.2 b hb).2, AtL_blk _ h.2.2.1 b hb⟩, (h.2.2.2 b hb).2⟩⟩
  M_move := fun hm h => ⟨h.1, h.2.1, AtL_move _ h.2.2.1 (fun b hb => hm b (h.2.2.2 b hb).1), h.2.2.2⟩
  M_lower := fun hb h => ⟨h.1, h.2.1, h.2.2.1, fun b hb' => ⟨(h.2.2.2 b hb').1, Nat.le_trans hb (h.2.2.2 b hb').2⟩⟩
theorem reps_it {w : World} {base : Nat} {ok : Nat → Prop} {n : Nat} : ∀ {xs : List (List It)} {inner : List Value}, Reps ((it n).M w base ok) n xs inner → inner = xs.flatten.map It.val ∧ AtL w xs.flatten ∧ ∀ b ∈ blksL xs.flatten, ok b ∧ base ≤ b
  | [], inner, h => by
    have : inner = [] := List.eq_nil_of_length_eq_zero (by simpa using h.1)
    subst this
    simp [AtL, blksL]
  | x :: xs, inner, h => by
    have hx := h.2 0 x rfl
    simp only [Nat.zero_mul, List.drop_zero] at hx
    have hxs : Reps ((it n).M w base ok) n xs (inner.drop n) := by
      refine ⟨by rw [List.length_drop, h.1, List.length_cons, Nat.add_mul]; omega, fun j p hj => ?_⟩
      have := h.2 (j + 1) p (by simpa using hj)
      rw [List.drop_drop]
      rwa [show n + j * n = (j + 1) * n by rw [Nat.add_mul]; omega]
    obtain ⟨h1, h2, h3⟩ := reps_it hxs
    have e : inner = inner.take n ++ inner.drop n := (List.take_append_drop n inner).symm
    refine ⟨?_, ?_, ?_⟩
    · rw [e, hx.2.1, h1, List.flatten_cons, List.map_append]
    · rw [List.flatten_cons, AtL_app]
      exact ⟨hx.2.2.1, h2⟩
    · intro b hb
      rw [List.flatten_cons, blksL_app] at hb
      rcases List.mem_append.1 hb with hb | hb
      · exact hx.2.2.2 b hb
      · exact h3 b hb
/-- A row of items that was made, as an item. -/
theorem it_row {n e : Nat} {w : World} {base : Nat} {ok : Nat → Prop} {v : Value} {xs : List (List It)} (h : (it n).R e w base ok v xs) (he : e = 9 ∨ e = 33 ∨ e = 53 ∨ e = 68) :
    AtL w [.r e n v xs.length xs.flatten] ∧ (∀ b ∈ blksL [.r e n v xs.length xs.flatten], ok b ∧ base ≤ b) ∧ ((blksL xs.flatten).Nodup → (blksL [.r e n v xs.length xs.flatten]).Nodup) := by
  obtain ⟨h0, inner, ho, hr⟩ := h
  obtain ⟨h1, h2, h3⟩ := reps_it hr
  subst h1
  simp only [AtL, It.At, blksL, It.blks, List.append_nil, and_true]
  refine ⟨⟨he, own_weaken ho (Nat.zero_le _), h2⟩, fun b hb => ?_, fun hn => ?_⟩
  · rcases List.mem_append.1 hb with hb | hb
    · have hv : v.ownBlock = some b := by simpa using hb
      exact ⟨h0 b hv, own_base ho b hv⟩
    · exact ⟨(h3 b hb).1.1, (h3 b hb).2⟩
  · refine List.nodup_append.2 ⟨?_, hn, fun a ha b hb hab => ?_⟩
    · cases v.ownBlock <;> simp
    · subst hab
      have hv : v.ownBlock = some a := by simpa using ha
      exact (h3 a hb).1.2 hv.symm
end Kd
end Go.Proofs.YtpndcfibjjkgcaaW.PrintWords

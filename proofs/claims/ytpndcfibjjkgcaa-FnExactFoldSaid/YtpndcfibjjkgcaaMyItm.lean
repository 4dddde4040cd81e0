/- Items that are marked, in plain Lean and in the heap: what marking comes to; one item after the other is written. No condition. -/
import Derived.Test.YtpndcfibjjkgcaaMyItt
namespace Go.Proofs.Ytpndcfibjjkgcaa.MyItc
open Go Go.RowKit Go.Proofs.YtpndcfibjjkgcaaW.PrintWords Go.Proofs.YtpndcfibjjkgcaaW.PrintLast Go.Proofs.YtpndcfibjjkgcaaW.PrintMore Go.Proofs.Ytpndcfibjjkgcaa.PIfg
set_option linter.unusedVariables false
set_option linter.unusedSimpArgs false
section
variable (mt : Int → ByteArray)
mutual
def mkI : It → Int → It × Int
  | .i _, k => (.i k, wrap64 (k + 1))
  | .s _, k => (.s (mt k), wrap64 (k + 1))
  | .r e sz v n xs, k => (.r e sz v n (mkL xs k).1, (mkL xs k).2)
def mkL : List It → Int → List It × Int
  | [], k => ([], k)
  | x :: l, k => ((mkI x k).1 :: (mkL l (mkI x k).2).1, (mkL l (mkI x k).2).2)
end
end
mutual
def szI : It → Nat
  | .i _ => 1
  | .s _ => 1
  | .r _ _ _ _ xs => 1 + szL xs
def szL : List It → Nat
  | [] => 0
  | x :: l => szI x + szL l
end
section
variable {mt : Int → ByteArray}
mutual
theorem mkI_blks : ∀ (x : It) (k : Int), (mkI mt x k).1.blks = x.blks ∧ szI (mkI mt x k).1 = szI x
  | .i _, k => ⟨by simp only [mkI, It.blks], by simp only [mkI, szI]⟩
  | .s _, k => ⟨by simp only [mkI, It.blks], by simp only [mkI, szI]⟩
  | .r e sz v n xs, k =>
    have h := mkL_blks xs k
    ⟨by simp only [mkI, It.blks, h.1], by simp only [mkI, szI, h.2]⟩
theorem mkL_blks : ∀ (l : List It) (k : Int), blksL (mkL mt l k).1 = blksL l ∧ szL (mkL mt l k).1 = szL l
  | [], k => ⟨by simp only [mkL, blksL], by simp only [mkL, szL]⟩
  | x :: l, k =>
    have h1 := mkI_blks x k
    have h2 := mkL_blks l (mkI mt x k).2
    ⟨by simp only [mkL, blksL, h1.1, h2.1], by simp only [mkL, szL, h1.2, h2.2]⟩
end
theorem wrap_up {k : Int} (h0 : 0 ≤ k) (h1 : k + 1 ≤ 9223372036854775807) : wrap64 (k + 1) = k + 1 := by unfold wrap64; omega
mutual
theorem mkI_le : ∀ (x : It) (k : Int), 0 ≤ k → k + szI x ≤ 9223372036854775807 → k ≤ (mkI mt x k).2 ∧ (mkI mt x k).2 ≤ k + szI x
  | .i _, k, h0, h1 => by
    simp only [szI] at h1
    simp only [mkI, szI]
    rw [wrap_up h0 (by omega)]
    omega
  | .s _, k, h0, h1 => by
    simp only [szI] at h1
    simp only [mkI, szI]
    rw [wrap_up h0 (by omega)]
    omega
  | .r e sz v n xs, k, h0, h1 => by
    simp only [szI] at h1
    have h := mkL_le xs k h0 (by omega)
    simp only [mkI, szI]
    omega
theorem mkL_le : ∀ (l : List It) (k : Int), 0 ≤ k → k + szL l ≤ 9223372036854775807 → k ≤ (mkL mt l k).2 ∧ (mkL mt l k).2 ≤ k + szL l
  | [], k, h0, h1 => by simp only [mkL, szL]; omega
  | x :: l, k, h0, h1 => by
    simp only [szL] at h1
    have h2 := mkI_le x k h0 (by omega)
    have h3 := mkL_le l (mkI mt x k).2 (by omega) (by omega)
    simp only [mkL, szL]
    omega
end
theorem szL_app : ∀ (l m : List It), szL (l ++ m) = szL l + szL m
  | [], m => by simp [szL]
  | x :: l, m => by simp only [List.cons_append, szL, szL_app l m, Nat.add_assoc]
end
/-- All is as it was but for blocks in B. -/
structure Keeps (B : List Nat) (w w1 : World) : Prop where
  os : w1.os = w.os
  tape : w1.tape = w.tape
  output : w1.output = w.output
  size : w.heap.size ≤ w1.heap.size
  block : ∀ k, k < w.heap.size → k ∉ B → w1.heap[k]? = w.heap[k]?
section
variable {B C : List Nat} {w w1 w2 : World}
theorem Keeps.refl (B : List Nat) (w : World) : Keeps B w w := ⟨rfl, rfl, rfl, Nat.le_refl _, fun _ _ _ => rfl⟩
theorem Keeps.below (h : Keeps B w w1) (hb : Below w1.heap.size w1 w2) : Keeps B w w2 := ⟨hb.os.trans h.os, hb.tape.trans h.tape, hb.output.trans h.output, Nat.le_trans h.size hb.size, fun k hk hn => (hb.block k (Nat.lt_of_lt_of_le hk h.size)).trans (h.block k hk hn)⟩
theorem Keeps.trans (h : Keeps B w w1) (k : Keeps C w1 w2) (hs : ∀ b ∈ C, b ∈ B) : Keeps B w w2 := ⟨k.os.trans h.os, k.tape.trans h.tape, k.output.trans h.output, Nat.le_trans h.size k.size, fun j hj hn => (k.block j (Nat.lt_of_lt_of_le hj h.size) (fun hc => hn (hs j hc))).trans (h.block j hj hn)⟩
theorem Keeps.set (h : Keeps B w w1) {g : Nat} (hg : g ∈ B) (j : Nat) (u : Value) : Keeps B w (w1.setCell ⟨g, j, none⟩ u) := ⟨h.os, h.tape, h.output, Nat.le_trans h.size (Nat.le_of_eq (by simp [World.setCell])), fun k hk hn => (Below.heap_setCell _ _ _ _ (fun e => hn (by rw [e]; exact hg))).trans (h.block k hk hn)⟩
theorem Keeps.toBelow (h : Keeps B w w1) {lo : Nat} (hl : lo ≤ w.heap.size) (hb : ∀ b ∈ B, lo ≤ b) : Below lo w w1 := ⟨h.os, h.tape, h.output, h.size, fun k hk => h.block k (Nat.lt_of_lt_of_le hk hl) (fun hc => by have := hb k hc; omega)⟩
theorem AtL_keeps {l : List It} (h : AtL w l) (hk : Keeps B w w1) (hn : ∀ b ∈ blksL l, b ∉ B) : AtL w1 l := AtL_move l h (fun b hb => hk.block b (AtL_blk l h b hb).1 (hn b hb))
end
/-- A row of items that lie apart. -/
structure RowSt (w : World) (e sz : Nat) (v : Value) (n : Nat) (L : List It) : Prop where
  at_ : AtL w [.r e sz v n L]
  nd : (blksL [.r e sz v n L]).Nodup
section
variable {w w1 : World} {e sz n : Nat} {v : Value} {L : List It}
theorem RowSt.own (h : RowSt w e sz v n L) : w.ownsRow 0 e sz v n (L.map It.val) := by
  have := h.at_
  simp only [AtL, It.At] at this
  exact this.1.2.1
theorem RowSt.below (h : RowSt w e sz v n L) (hb : Below w.heap.size w w1) : RowSt w1 e sz v n L := ⟨AtL_below h.at_ hb, h.nd⟩
theorem RowSt.slice_ (h : RowSt w e sz v n L) : ∃ A c, v = .slice A n c ∧ n ≤ c ∧ L.length = n * sz ∧ (0 < n → ∃ g, A = some ⟨g, 0, none⟩) := by
  have ho := h.own
  have hl : L.length = n * sz := by simpa using ho.1
  rcases ho.2 with ⟨rfl, rfl⟩ | ⟨g, cap, cur, rfl, _, _, h3, _⟩
  · exact ⟨none, 0, rfl, Nat.le_refl _, hl, fun h => absurd h (Nat.lt_irrefl 0)⟩
  · exact ⟨_, cap, rfl, h3, hl, fun _ => ⟨g, rfl⟩⟩
/-- What a cell of the row holds. -/
theorem RowSt.cell {g c : Nat} {pre post : List It} {x : It} (h : RowSt w e sz (.slice (some ⟨g, 0, none⟩) n c) n (pre ++ x :: post)) (j : Nat) (hj : j = pre.length) : w.cell? ⟨g, j, none⟩ = some x.val ∧ w.frozen? ⟨g, j, none⟩ = false := by
  subst hj
  have ho := h.own
  rcases ho.2 with ⟨hv, _⟩ | ⟨g', cap, cur, hv, _, hb, h3, h4, h5, h6⟩
  · cases hv
  · injection hv with hv
    injection hv with hv
    injection hv with hv
    subst hv
    have hi : ((pre ++ x :: post).map It.val)[pre.length]? = some x.val := by simp
    rw [← h6, List.getElem?_take] at hi
    split at hi
    · have hc : cur[pre.length]? = some x.val := by simpa using hi
      exact ⟨by simp [World.cell?, hb, hc], by simp [World.frozen?, hb]⟩
    · cases hi
end
section
variable {w w1 : World} {e sz n : Nat} {v : Value} {pre post : List It} {x y : It}
theorem nd_out {L : List It} (h : (blksL [.r e sz v n L]).Nodup) : (∀ b, v.ownBlock = some b → b ∉ blksL L) ∧ (blksL L).Nodup := by
  simp only [blksL, It.blks, List.append_nil] at h
  have h2 := List.nodup_append.1 h
  exact ⟨fun b hb hm => h2.2.2 b (by simp [hb]) b hm rfl, h2.2.1⟩
theorem at_out {L : List It} (h : AtL w [.r e sz v n L]) : (e = 9 ∨ e = 33 ∨ e = 53 ∨ e = 68) ∧ AtL w L := by
  simp only [AtL, It.At, and_true] at h
  exact ⟨h.1, h.2.2⟩
theorem RowSt.next (h : RowSt w e sz v n (pre ++ y :: post)) : RowSt w e sz v n ((pre ++ [y]) ++ post) := by rwa [List.append_assoc]
/-- A cell is written: the item is another. -/
theorem RowSt.put {g c : Nat} (h : RowSt w e sz (.slice (some ⟨g, 0, none⟩) n c) n (pre ++ x :: post)) (hx : x.blks = []) (hy : y.blks = []) (ha : ∀ w, y.At w) (j : Nat) (hj : j = pre.length) (u : Value) (hu : u = y.val) :
    RowSt (w.setCell ⟨g, j, none⟩ u) e sz (.slice (some ⟨g, 0, none⟩) n c) n (pre ++ y :: post) := by
  subst hj
  subst hu
  have hA := at_out h.at_
  have hN := nd_out h.nd
  have hg : g ∉ blksL (pre ++ x :: post) := hN.1 g rfl
  have e1 : blksL (pre ++ y :: post) = blksL (pre ++ x :: post) := by simp only [blksL_app, blksL, hx, hy]
  refine ⟨?_, by have := h.nd; simp only [blksL, It.blks] at this ⊢; rw [e1]; exact this⟩
  simp only [AtL, It.At, and_true]
  refine ⟨hA.1, ?_, ?_⟩
  · have ho := h.own
    rcases ho.2 with ⟨hv, _⟩ | ⟨g', cap, cur, hv, hb0, hb, h3, h4, h5, h6⟩
    · cases hv
    · injection hv with hv1 hv2 hv3
      injection hv1 with hv1
      injection hv1 with hv1
      subst hv1
      refine ⟨by have := ho.1; simpa using this, .inr ⟨g, cap, cur.setIfInBounds pre.length y.val, by rw [hv3], hb0, blk_put hb _ _ rfl, h3, h4, by simpa using h5, ?_⟩⟩
      rw [Array.toList_setIfInBounds, List.take_set, h6]
      simp
  · have h2 := hA.2
    rw [AtL_app] at h2 ⊢
    simp only [AtL] at h2 ⊢
    rw [blksL_app] at hg
    simp only [blksL, List.mem_append, not_or] at hg
    exact ⟨AtL_set (g := g) h2.1 (fun b hb e => hg.1 (by rw [← e]; exact hb)) _ _, ha _, AtL_set (g := g) h2.2.2 (fun b hb e => hg.2.2 (by rw [← e]; exact hb)) _ _⟩
variable {e' sz' n' : Nat} {v' : Value} {i' i'' : List It}
theorem RowSt.sub (h : RowSt w e sz v n (pre ++ .r e' sz' v' n' i' :: post)) : RowSt w e' sz' v' n' i' := by
  have hA := (at_out h.at_).2
  have hN := (nd_out h.nd).2
  rw [AtL_app] at hA
  rw [blksL_app] at hN
  simp only [AtL] at hA
  simp only [blksL] at hN
  refine ⟨by simp only [AtL, and_true]; exact hA.2.1, ?_⟩
  have := (List.nodup_append.1 (List.nodup_append.1 hN).2.1).1
  simpa only [blksL, List.append_nil] using this
theorem RowSt.child (h : RowSt w e sz v n (pre ++ .r e' sz' v' n' i' :: post)) (hc : RowSt w1 e' sz' v' n' i'') (hk : Keeps (blksL [.r e' sz' v' n' i']) w w1) (hb : blksL i'' = blksL i') : RowSt w1 e sz v n (pre ++ .r e' sz' v' n' i'' :: post) := by
  have hA := at_out h.at_
  have hN := nd_out h.nd
  have e1 : blksL (pre ++ .r e' sz' v' n' i'' :: post) = blksL (pre ++ .r e' sz' v' n' i' :: post) := by simp only [blksL_app, blksL, It.blks, hb]
  have hN2 := hN.2
  rw [blksL_app] at hN2
  simp only [blksL] at hN2
  have hn1 := List.nodup_append.1 hN2
  have hn2 := List.nodup_append.1 hn1.2.1
  refine ⟨?_, by have := h.nd; simp only [blksL, It.blks] at this ⊢; rw [e1]; exact this⟩
  simp only [AtL, It.At, and_true]
  refine ⟨hA.1, ?_, ?_⟩
  · have ho := h.own
    have e2 : (pre ++ It.r e' sz' v' n' i'' :: post).map It.val = (pre ++ It.r e' sz' v' n' i' :: post).map It.val := by simp [It.val]
    rw [e2]
    refine own_move ho (fun k hk' => hk.block k (own_lt ho k hk') (fun hm => hN.1 k hk' ?_))
    rw [blksL_app]
    simp only [blksL, List.append_nil] at hm ⊢
    exact List.mem_append_right _ (List.mem_append_left _ hm)
  · have h2 := hA.2
    rw [AtL_app] at h2 ⊢
    simp only [AtL] at h2 ⊢
    have hcat := hc.at_
    simp only [AtL, and_true] at hcat
    refine ⟨AtL_keeps h2.1 hk (fun b hb1 hb2 => ?_), hcat, AtL_keeps h2.2.2 hk (fun b hb1 hb2 => ?_)⟩
    · simp only [blksL, List.append_nil] at hb2
      exact hn1.2.2 b hb1 b (List.mem_append_left _ hb2) rfl
    · simp only [blksL, List.append_nil] at hb2
      exact hn2.2.2 b hb2 b hb1 rfl
end
end Go.Proofs.Ytpndcfibjjkgcaa.MyItc

/- The text that is a number's mark; what the marking functions' contracts say. No condition. -/
import Derived.Test.YtpndcfibjjkgcaaPIfgm
import Derived.Test.YtpndcfibjjkgcaaMyItm
namespace Go.Proofs.Ytpndcfibjjkgcaa.MyItc
open Go Go.RowKit Go.Proofs.YtpndcfibjjkgcaaW.PrintWords Go.Proofs.YtpndcfibjjkgcaaW.PrintLast Go.Proofs.YtpndcfibjjkgcaaW.PrintMore Go.Proofs.Ytpndcfibjjkgcaa.PIfg
set_option linter.unusedVariables false
set_option linter.unusedSimpArgs false
theorem str1 (n : Int) : (strOfNums [n]).size = 1 := by simp [strOfNums, ByteArray.size]
theorem mark_l0 : ∀ (m : Nat) (x : Int) (s : ByteArray), x < (10 : Int) ^ m → x ≤ 9223372036854775807 → s.size + m ≤ 1000 → ∃ r, laws_markText.l0 (m + 1) x s = some r
  | 0, x, s, h0, h1, h2 => by
    simp only [Int.pow_zero] at h0
    simp only [laws_markText.l0]
    rw [if_neg (by omega), if_pos (by omega)]
    exact ⟨_, rfl⟩
  | m + 1, x, s, h0, h1, h2 => by
    rw [laws_markText.l0]
    by_cases hx : x > 0
    · rw [if_pos hx, Option.bind_some, if_pos (by rw [str1]; omega)]
      have hd : wrap64 (Int.tdiv x 10) = x / 10 := by
        rw [Int.tdiv_eq_ediv_of_nonneg (by omega)]
        unfold wrap64
        omega
      rw [hd]
      rw [Int.pow_succ] at h0
      exact mark_l0 m (x / 10) _ (by omega) (by omega) (by rw [ByteArray.size_append, str1]; omega)
    · rw [if_neg hx, if_pos (by omega)]
      exact ⟨_, rfl⟩
def mt (k : Int) : ByteArray := (laws_markText.f 25 k).getD ⟨#[]⟩
theorem mt_ok (k : Int) (h : k ≤ 9223372036854775807) : laws_markText.f 25 k = some (mt k) := by
  have : ∃ r, laws_markText.f 25 k = some r := by
    unfold laws_markText.f
    by_cases hk : k ≤ 0
    · rw [if_pos hk]
      exact ⟨_, rfl⟩
    · rw [if_neg hk]
      exact mark_l0 24 k _ (by rw [show (10 : Int) ^ 24 = 1000000000000000000000000 from by decide]; omega) h (by simp [ByteArray.size])
  obtain ⟨r, hr⟩ := this
  rw [mt, hr]
  rfl
theorem markText_calls (k : Int) (h : k ≤ 9223372036854775807) (w : World) : Calls Try.prog 57 #[.int .i64 k] w fun e w' => e = .returned (.string (mt k)) ∧ Below w.heap.size w w' := laws_markText.calls 25 k (mt k) w (mt_ok k h)
theorem wrap_hi (x : Int) : wrap64 x ≤ 9223372036854775807 := by unfold wrap64; omega
mutual
theorem mkI_hi : ∀ (x : It) (k : Int), k ≤ 9223372036854775807 → (mkI mt x k).2 ≤ 9223372036854775807
  | .i _, k, h => by simp only [mkI]; exact wrap_hi _
  | .s _, k, h => by simp only [mkI]; exact wrap_hi _
  | .r e sz v n xs, k, h => by simp only [mkI]; exact mkL_hi xs k h
theorem mkL_hi : ∀ (l : List It) (k : Int), k ≤ 9223372036854775807 → (mkL mt l k).2 ≤ 9223372036854775807
  | [], k, h => by simp only [mkL]; exact h
  | x :: l, k, h => by simp only [mkL]; exact mkL_hi l _ (mkI_hi x k h)
end
/-- What a marking function does. -/
def MkC {α : Type} (fn : FuncId) (e_ sz : Nat) (Rep : List α → List It → Prop) (m : Nat) : Prop := ∀ (v : Value) (n : Nat) (l : List α) (L : List It) (k : Int) (w : World), RowSt w e_ sz v n L → l.length = n → n ≤ 9223372036854775807 → Rep l L → szL L ≤ m → k ≤ 9223372036854775807 →
  Calls Try.prog fn #[v, .int .i64 k] w fun e w' => e = .returned (.int .i64 (mkL mt L k).2) ∧ RowSt w' e_ sz v n (mkL mt L k).1 ∧ Keeps (blksL [.r e_ sz v n L]) w w'
/-- What a function does that looks whether the marks are there. -/
def HdC {α : Type} (fn : FuncId) (e_ sz : Nat) (Rep : List α → List It → Prop) (m : Nat) : Prop := ∀ (v : Value) (n : Nat) (l : List α) (L : List It) (k : Int) (w : World), RowSt w e_ sz v n (mkL mt L k).1 → l.length = n → n ≤ 9223372036854775807 → Rep l L → szL L ≤ m → 0 ≤ k → k + szL L ≤ 9223372036854775807 →
  Calls Try.prog fn #[v, .int .i64 k] w fun e w' => e = .returned (.int .i64 (mkL mt L k).2) ∧ Below w.heap.size w w'
def RepSs (l : List ByteArray) (L : List It) : Prop := L = l.map It.s
theorem sub_mem {P R : List It} {x : It} {L : List It} {b : Nat} (h : blksL (P ++ x :: R) = blksL L) {B : List Nat} (hB : ∀ b ∈ blksL L, b ∈ B) (hb : b ∈ blksL [x]) : b ∈ B := by
  refine hB b (h ▸ ?_)
  rw [blksL_app]
  simp only [blksL, List.append_nil] at hb ⊢
  exact List.mem_append_right _ (List.mem_append_left _ hb)
theorem own_mem {e sz n c g : Nat} {L : List It} : g ∈ blksL [.r e sz (.slice (some ⟨g, 0, none⟩) n c) n L] ∧ ∀ b ∈ blksL L, b ∈ blksL [.r e sz (.slice (some ⟨g, 0, none⟩) n c) n L] := by
  simp only [blksL, It.blks, List.append_nil]
  exact ⟨List.mem_append_left _ (by simp [Value.ownBlock]), fun b hb => List.mem_append_right _ hb⟩
end Go.Proofs.Ytpndcfibjjkgcaa.MyItc
namespace Go.Proofs.Ytpndcfibjjkgcaa.MyItc
open Go Go.RowKit Go.Proofs.YtpndcfibjjkgcaaW.PrintWords
theorem RowSt.n_le {w : World} {e sz n : Nat} {v : Value} {L : List It} (h : RowSt w e sz v n L) : n ≤ 9223372036854775807 := by
  rcases h.own.2 with ⟨_, rfl⟩ | ⟨g, cap, cur, _, _, _, h3, h4, _⟩
  · omega
  · unfold maxLen at h4
    omega
end Go.Proofs.Ytpndcfibjjkgcaa.MyItc

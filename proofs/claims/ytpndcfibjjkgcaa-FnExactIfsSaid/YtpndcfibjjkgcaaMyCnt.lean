/- What is counted through a function value: the world at a call of the counting literal, what it changes (the number's cell, and nothing else that was there), the functions it computes, and the contracts of the four functions that call each other. No condition. -/
import Derived.Test.YtpndcfibjjkgcaaPIfgx0
import Derived.Test.YtpndcfibjjkgcaaMyClone
import Derived.Test.YtpndcfibjjkgcaaMyFnc
namespace Go.Proofs.YtpndcfibjjkgcaaW.PrintWords
open Go Go.RowKit
namespace Kd
/-- Cells of which nothing is said but how many they are. -/
def opq (n : Nat) : Kd Unit where
  sz := n
  E := []
  K := fun _ _ cs => cs.length = n ∧ ∀ u ∈ cs, u.oneCell' = true
  M := fun _ _ _ _ cs => cs.length = n ∧ ∀ u ∈ cs, u.oneCell' = true
  K_len := fun h => h.1
  K_one := fun h => h.2
  K_below := fun _ h => h
  K_of_M := fun h => h
  M_mono := fun _ h => h
  M_bound := fun h => h
  M_move := fun _ h => h
  M_lower := fun _ h => h
/-- Something was done that left all blocks but one alone, and that one lies lower. -/
theorem R_past {α : Type} {d : Kd α} {e : Nat} {w w1 : World} {base : Nat} {ok : Nat → Prop} {v : Value} {xs : List α} {g : Nat} (h : d.R e w base ok v xs) (hg : g < base) (hm : ∀ k, k ≠ g → k < w.heap.size → w1.heap[k]? = w.heap[k]?) : d.R e w1 base ok v xs :=
  R_mono (R_move (R_bound h) (fun k hk => hm k (by have := hk.2.1; omega) hk.2.2.1)) (fun _ hk => hk.1)
theorem R_past' {α : Type} {d : Kd α} {e : Nat} {w w1 : World} {base base' : Nat} {ok : Nat → Prop} {v : Value} {xs : List α} {g : Nat} (h : d.R e w base ok v xs) (hs : base' = base) (hg : g < base) (hm : ∀ k, k ≠ g → k < w.heap.size → w1.heap[k]? = w.heap[k]?) : d.R e w1 base' ok v xs := by
  subst hs
  exact R_past h hg hm
end Kd
theorem blk_past {w w1 : World} {g a b : Nat} {o : Obj} (h : w.heap[a]? = some o) (hg : g < b) (ha : b ≤ a) (hm : ∀ k, k ≠ g → k < w.heap.size → w1.heap[k]? = w.heap[k]?) : w1.heap[a]? = some o := (hm a (by omega) (blk_lt h)).trans h
end Go.Proofs.YtpndcfibjjkgcaaW.PrintWords
namespace Go.Proofs.Ytpndcfibjjkgcaa.MyCnt
open Go Go.RowKit Go.Proofs.YtpndcfibjjkgcaaW.PrintWords Go.Proofs.YtpndcfibjjkgcaaW.PrintLast Go.Proofs.YtpndcfibjjkgcaaW.PrintMore Go.Proofs.Ytpndcfibjjkgcaa.PIfg Go.Proofs.Ytpndcfibjjkgcaa.MyClone
set_option linter.unusedVariables false
set_option linter.unusedSimpArgs false
/-- The literal: it holds where the number stands, and where the question stands. -/
abbrev FV (g p : Nat) : Value := .func (.func 55) #[] #[.pointer (some ⟨g, 0, none⟩), .pointer (some ⟨p, 0, none⟩)]
/-- w is wS but for the number (at g); what lies below w0 is as it was at w0. -/
structure Cnt (w0 wS w : World) (g p : Nat) (n : Int) : Prop where
  below : Below w0.heap.size w0 w
  lg : w0.heap.size ≤ g
  lp : w0.heap.size ≤ p
  ne : p ≠ g
  hg : w.heap[g]? = some (.cells #[.int .i64 n] 3 (0, 0))
  hp : w.heap[p]? = some (.cells #[.func (.func 34) #[] #[]] 28 (0, 0))
  size : w.heap.size = wS.heap.size
  but : ∀ k, k ≠ g → w.heap[k]? = wS.heap[k]?
section
variable {w0 wS w wN w2 w3 : World} {g p : Nat} {n m : Int}
theorem Cnt.lt (h : Cnt w0 wS w g p n) : g < w.heap.size := blk_lt h.hg
theorem Cnt.under (h : Cnt w0 wS w g p n) (hb : Below w.heap.size w wN) : Below w0.heap.size w0 wN := h.below.trans (hb.mono h.below.size)
theorem Cnt.begin_ (h : Cnt w0 wS w g p n) (hb : Below w.heap.size w wN) : Cnt w0 wN wN g p n :=
  ⟨h.under hb, h.lg, h.lp, h.ne, (hb.block g (blk_lt h.hg)).trans h.hg, (hb.block p (blk_lt h.hp)).trans h.hp, rfl, fun _ _ => rfl⟩
theorem Cnt.step (h : Cnt w0 wS w g p n) (hb : Below w.heap.size w wN) (h2 : Cnt w0 wN w2 g p m) (h3 : Below w2.heap.size w2 w3) :
    ∃ w' : World, w'.heap.size = w.heap.size ∧ Cnt w0 wS w' g p m ∧ Below w'.heap.size w' w3 ∧ (∀ k, k ≠ g → k < wN.heap.size → w3.heap[k]? = wN.heap[k]?) := by
  have hs : (w.setCell ⟨g, 0, none⟩ (.int .i64 m)).heap.size = w.heap.size := by simp [World.setCell]
  have hG : (w.setCell ⟨g, 0, none⟩ (.int .i64 m)).heap[g]? = some (.cells #[.int .i64 m] 3 (0, 0)) := blk_put h.hg 0 _ rfl
  have hk : ∀ k, k ≠ g → (w.setCell ⟨g, 0, none⟩ (.int .i64 m)).heap[k]? = w.heap[k]? := fun k hk => Below.heap_setCell _ _ _ _ hk
  have hB : Below w0.heap.size w0 (w.setCell ⟨g, 0, none⟩ (.int .i64 m)) := h.below.setCell h.lg _
  have hm : ∀ k, k ≠ g → k < wN.heap.size → w3.heap[k]? = wN.heap[k]? := fun k hk hl => (h3.block k (by rw [h2.size]; exact hl)).trans (h2.but k hk)
  refine ⟨w.setCell ⟨g, 0, none⟩ (.int .i64 m), hs, ⟨hB, h.lg, h.lp, h.ne, hG, (hk p h.ne).trans h.hp, hs.trans h.size, fun k hn => (hk k hn).trans (h.but k hn)⟩, ⟨?_, ?_, ?_, ?_, ?_⟩, hm⟩
  · rw [h3.os, h2.below.os, hB.os]
  · rw [h3.tape, h2.below.tape, hB.tape]
  · rw [h3.output, h2.below.output, hB.output]
  · rw [hs]
    exact Nat.le_trans hb.size (by rw [← h2.size]; exact h3.size)
  · intro k hl
    rw [hs] at hl
    by_cases he : k = g
    · subst he
      exact ((h3.block k (blk_lt h2.hg)).trans h2.hg).trans hG.symm
    · exact ((hm k he (Nat.lt_of_lt_of_le hl hb.size)).trans (hb.block k hl)).trans (hk k he).symm
end
mutual
def cE : Nat → Int → List S33 → List S68 → List S53 → Option Int
 | 0, _, _, _, _ => none
 | k + 1, a0, l3, l4, l5 => if a0 = 8 then cM k l3 l4 l5 1 else cM k l3 l4 l5 0
def cL : Nat → Int → List S33 → List S68 → List S53 → Int → Option Int
 | 0, _, _, _, _, _ => none
 | k + 1, a0, l3, l4, l5, n => (cE k a0 l3 l4 l5).bind fun m => some (wrap64 (n + m))
def cM : Nat → List S33 → List S68 → List S53 → Int → Option Int
 | 0, _, _, _, _ => none
 | k + 1, l3, l4, l5, n => cM0 k l3 l4 l5 0 [] n
def cM0 : Nat → List S33 → List S68 → List S53 → Int → List Unit → Int → Option Int
 | 0, _, _, _, _, _, _ => none
 | k + 1, l3, l4, l5, x, us, n => if x < (l3.length : Int) then (if 0 ≤ x then (if x < (l3.length : Int) then ((cL k (rd_T33 l3 x).f0 (rd_T33 l3 x).f3 (rd_T33 l3 x).f4 (rd_T33 l3 x).f5 n).bind fun m => (if us.length < 1353245080339 then cM0 k l3 l4 l5 (wrap64 (x + 1)) (us ++ [()]) m else none)) else none) else none) else ((cD k l4 n).bind fun m => cM1 k l5 0 [] m)
def cM1 : Nat → List S53 → Int → List Unit → Int → Option Int
 | 0, _, _, _, _ => none
 | k + 1, l5, x, us, n => if x < (l5.length : Int) then (if 0 ≤ x then (if x < (l5.length : Int) then ((slices_Clone.f (rd_T53 l5 x).f1).bind fun t => ((cL k (rd_T53 l5 x).f2.f0 (rd_T53 l5 x).f2.f3 (rd_T53 l5 x).f2.f4 (rd_T53 l5 x).f2.f5 n).bind fun m => (if us.length < 977343669134 then cM1 k l5 (wrap64 (x + 1)) (us ++ [()]) m else none))) else none) else none) else some n
def cD : Nat → List S68 → Int → Option Int
 | 0, _, _ => none
 | k + 1, l, n => cD0 k l 0 [] n
def cD0 : Nat → List S68 → Int → List Unit → Int → Option Int
 | 0, _, _, _, _ => none
 | k + 1, l, x, us, n => if x < (l.length : Int) then (if 0 ≤ x then (if x < (l.length : Int) then ((slices_Clone.f (rd_T68 l x).f1).bind fun t => ((cL k (rd_T68 l x).f2.f0 (rd_T68 l x).f2.f3 (rd_T68 l x).f2.f4 (rd_T68 l x).f2.f5 n).bind fun m => ((cD k (rd_T68 l x).f3 m).bind fun m2 => (if us.length < 837723144972 then cD0 k l (wrap64 (x + 1)) (us ++ [()]) m2 else none)))) else none) else none) else some n
end
abbrev AtE (m_ : Nat) : Prop := ∀ (a0_0 : Int) (a0_1 : ByteArray) (a0_2 : Int) (A0_3 : Option Addr) (c0_3 : Nat) (l0_3 : List (S33)) (A0_4 : Option Addr) (c0_4 : Nat) (l0_4 : List (S68)) (A0_5 : Option Addr) (c0_5 : Nat) (l0_5 : List (S53)) (r : Int) (w : World) (hr0_3 : Kd.C k33 w A0_3 l0_3.length l0_3) (hc0_3 : l0_3.length ≤ c0_3) (hr0_4 : Kd.C k68 w A0_4 l0_4.length l0_4) (hc0_4 : l0_4.length ≤ c0_4) (hr0_5 : Kd.C k53 w A0_5 l0_5.length l0_5) (hc0_5 : l0_5.length ≤ c0_5) (h : cE m_ a0_0 l0_3 l0_4 l0_5 = some r),
  Calls Try.prog 33 #[.agg #[.int .i64 a0_0, .string a0_1, .int .i64 a0_2, .slice A0_3 l0_3.length c0_3, .slice A0_4 l0_4.length c0_4, .slice A0_5 l0_5.length c0_5], .func (.func 34) #[] #[]] w fun e w' => e = .returned (.int .i64 r) ∧ Below w.heap.size w w'
abbrev AtL (m_ : Nat) : Prop := ∀ (a0_0 : Int) (a0_1 : ByteArray) (a0_2 : Int) (A0_3 : Option Addr) (c0_3 : Nat) (l0_3 : List (S33)) (A0_4 : Option Addr) (c0_4 : Nat) (l0_4 : List (S68)) (A0_5 : Option Addr) (c0_5 : Nat) (l0_5 : List (S53)) (n r : Int) (w0 w : World) (g p : Nat) (hw : Cnt w0 w w g p n) (hr0_3 : Kd.C k33 w0 A0_3 l0_3.length l0_3) (hc0_3 : l0_3.length ≤ c0_3) (hr0_4 : Kd.C k68 w0 A0_4 l0_4.length l0_4) (hc0_4 : l0_4.length ≤ c0_4) (hr0_5 : Kd.C k53 w0 A0_5 l0_5.length l0_5) (hc0_5 : l0_5.length ≤ c0_5) (h : cL m_ a0_0 l0_3 l0_4 l0_5 n = some r),
  Calls Try.prog 55 #[.agg #[.int .i64 a0_0, .string a0_1, .int .i64 a0_2, .slice A0_3 l0_3.length c0_3, .slice A0_4 l0_4.length c0_4, .slice A0_5 l0_5.length c0_5], .pointer (some ⟨g, 0, none⟩), .pointer (some ⟨p, 0, none⟩)] w fun e w' => ∃ w2 : World, e = .returned (.agg #[.int .i64 a0_0, .string a0_1, .int .i64 a0_2, .slice A0_3 l0_3.length c0_3, .slice A0_4 l0_4.length c0_4, .slice A0_5 l0_5.length c0_5]) ∧ Cnt w0 w w2 g p r ∧ Below w2.heap.size w2 w'
abbrev AtM (m_ : Nat) : Prop := ∀ (a0_0 : Int) (a0_1 : ByteArray) (a0_2 : Int) (A0_3 : Option Addr) (c0_3 : Nat) (l0_3 : List (S33)) (A0_4 : Option Addr) (c0_4 : Nat) (l0_4 : List (S68)) (A0_5 : Option Addr) (c0_5 : Nat) (l0_5 : List (S53)) (n r : Int) (w0 w : World) (g p : Nat) (hw : Cnt w0 w w g p n) (hr0_3 : Kd.C k33 w0 A0_3 l0_3.length l0_3) (hc0_3 : l0_3.length ≤ c0_3) (hr0_4 : Kd.C k68 w0 A0_4 l0_4.length l0_4) (hc0_4 : l0_4.length ≤ c0_4) (hr0_5 : Kd.C k53 w0 A0_5 l0_5.length l0_5) (hc0_5 : l0_5.length ≤ c0_5) (h : cM m_ l0_3 l0_4 l0_5 n = some r),
  Calls Try.prog 48 #[.agg #[.int .i64 a0_0, .string a0_1, .int .i64 a0_2, .slice A0_3 l0_3.length c0_3, .slice A0_4 l0_4.length c0_4, .slice A0_5 l0_5.length c0_5], FV g p] w fun e w' => ∃ (v : Value) (w2 : World), e = .returned v ∧ Cnt w0 w w2 g p r ∧ Below w2.heap.size w2 w'
abbrev AtD (m_ : Nat) : Prop := ∀ (A0 : Option Addr) (c0 : Nat) (l0 : List (S68)) (n r : Int) (w0 w : World) (g p : Nat) (hw : Cnt w0 w w g p n) (hr0 : Kd.C k68 w0 A0 l0.length l0) (hc0 : l0.length ≤ c0) (h : cD m_ l0 n = some r),
  Calls Try.prog 65 #[.slice A0 l0.length c0, FV g p] w fun e w' => ∃ (A1 : Option Addr) (n1 c1 : Nat) (w2 : World), e = .returned (.slice A1 n1 c1) ∧ Cnt w0 w w2 g p r ∧ Below w2.heap.size w2 w'
end Go.Proofs.Ytpndcfibjjkgcaa.MyCnt
namespace Go.Proofs.Ytpndcfibjjkgcaa.MyCnt
open Go Go.RowKit Go.Proofs.YtpndcfibjjkgcaaW.PrintWords
theorem Cnt.set {w0 wS w : World} {g p : Nat} {n : Int} (h : Cnt w0 wS w g p n) (m : Int) : Cnt w0 wS (w.setCell ⟨g, 0, none⟩ (.int .i64 m)) g p m :=
  ⟨h.below.setCell h.lg _, h.lg, h.lp, h.ne, blk_put h.hg 0 _ rfl, (Below.heap_setCell _ _ _ _ h.ne).trans h.hp, (show _ = w.heap.size by simp [World.setCell]).trans h.size, fun k hk => (Below.heap_setCell _ _ _ _ hk).trans (h.but k hk)⟩
end Go.Proofs.Ytpndcfibjjkgcaa.MyCnt

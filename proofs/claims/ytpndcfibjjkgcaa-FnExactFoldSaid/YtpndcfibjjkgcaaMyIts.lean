/- What the comparing functions' contracts say, where both sides read alike. No condition. -/
import Derived.Test.YtpndcfibjjkgcaaPureBaseJ
import Derived.Test.YtpndcfibjjkgcaaMyItt
namespace Go.Proofs.Ytpndcfibjjkgcaa.MyItc
open Go Go.RowKit Go.Proofs.YtpndcfibjjkgcaaW.PrintWords Go.Proofs.YtpndcfibjjkgcaaW.PrintLast Go.Proofs.YtpndcfibjjkgcaaW.PrintMore Go.Proofs.Ytpndcfibjjkgcaa.PIfg
set_option linter.unusedVariables false
abbrev LE (n : Nat) (l : List S33) : Prop := l.length ≤ 1048576 ∧ ∀ y ∈ l, SqE n y
abbrev LD (n : Nat) (l : List S68) : Prop := l.length ≤ 1048576 ∧ ∀ y ∈ l, SqD n y
abbrev LA (n : Nat) (l : List S53) : Prop := l.length ≤ 1048576 ∧ ∀ y ∈ l, SqA n y
theorem rd33_mem (l : List S33) (x : Int) (i : Nat) (h : x = i) (hi : i < l.length) : rd_T33 l x ∈ l := by rw [h, rd33 l i hi]; exact List.getElem_mem hi
theorem rd68_mem (l : List S68) (x : Int) (i : Nat) (h : x = i) (hi : i < l.length) : rd_T68 l x ∈ l := by rw [h, rd68 l i hi]; exact List.getElem_mem hi
theorem rd53_mem (l : List S53) (x : Int) (i : Nat) (h : x = i) (hi : i < l.length) : rd_T53 l x ∈ l := by rw [h, rd53 l i hi]; exact List.getElem_mem hi
/-- A row reads so. -/
abbrev Rd {α : Type} (d : Kd α) (w : World) (A : Option Addr) (c : Nat) (l : List α) : Prop := Kd.C d w A l.length l ∧ l.length ≤ c
abbrev True_ (w : World) (e : Ending) (w' : World) : Prop := e = .returned (.bool true) ∧ Below w.heap.size w w'
abbrev QSs : Prop := ∀ (A0 : Option Addr) (c0 : Nat) (A1 : Option Addr) (c1 : Nat) (l : List ByteArray) (w : World), Kd.C Kd.string w A0 l.length l → Kd.C Kd.string w A1 l.length l → l.length ≤ 1048576 → Calls Try.prog 69 #[.slice A0 l.length c0, .slice A1 l.length c1] w (True_ w)
abbrev QEs (n : Nat) : Prop := ∀ (A0 : Option Addr) (c0 : Nat) (A1 : Option Addr) (c1 : Nat) (l : List S33) (w : World), Kd.C k33 w A0 l.length l → l.length ≤ c0 → Kd.C k33 w A1 l.length l → l.length ≤ c1 → LE n l → Calls Try.prog 29 #[.slice A0 l.length c0, .slice A1 l.length c1] w (True_ w)
abbrev QDs (n : Nat) : Prop := ∀ (A0 : Option Addr) (c0 : Nat) (A1 : Option Addr) (c1 : Nat) (l : List S68) (w : World), Kd.C k68 w A0 l.length l → l.length ≤ c0 → Kd.C k68 w A1 l.length l → l.length ≤ c1 → LD n l → Calls Try.prog 30 #[.slice A0 l.length c0, .slice A1 l.length c1] w (True_ w)
abbrev QAs (n : Nat) : Prop := ∀ (A0 : Option Addr) (c0 : Nat) (A1 : Option Addr) (c1 : Nat) (l : List S53) (w : World), Kd.C k53 w A0 l.length l → l.length ≤ c0 → Kd.C k53 w A1 l.length l → l.length ≤ c1 → LA n l → Calls Try.prog 31 #[.slice A0 l.length c0, .slice A1 l.length c1] w (True_ w)
abbrev QE (n : Nat) : Prop := ∀ (y : S33) (A3 : Option Addr) (c3 : Nat) (A4 : Option Addr) (c4 : Nat) (A5 : Option Addr) (c5 : Nat) (B3 : Option Addr) (d3 : Nat) (B4 : Option Addr) (d4 : Nat) (B5 : Option Addr) (d5 : Nat) (w : World),
  Rd k33 w A3 c3 y.f3 ∧ Rd k68 w A4 c4 y.f4 ∧ Rd k53 w A5 c5 y.f5 → Rd k33 w B3 d3 y.f3 ∧ Rd k68 w B4 d4 y.f4 ∧ Rd k53 w B5 d5 y.f5 → LE n y.f3 ∧ LD n y.f4 ∧ LA n y.f5 →
  Calls Try.prog 12 #[.agg #[.int .i64 y.f0, .string y.f1, .int .i64 y.f2, .slice A3 y.f3.length c3, .slice A4 y.f4.length c4, .slice A5 y.f5.length c5], .agg #[.int .i64 y.f0, .string y.f1, .int .i64 y.f2, .slice B3 y.f3.length d3, .slice B4 y.f4.length d4, .slice B5 y.f5.length d5]] w (True_ w)
abbrev QD (n : Nat) : Prop := ∀ (y : S68) (A1 : Option Addr) (c1 : Nat) (A5 : Option Addr) (c5 : Nat) (A6 : Option Addr) (c6 : Nat) (A7 : Option Addr) (c7 : Nat) (A8 : Option Addr) (c8 : Nat) (B1 : Option Addr) (d1 : Nat) (B5 : Option Addr) (d5 : Nat) (B6 : Option Addr) (d6 : Nat) (B7 : Option Addr) (d7 : Nat) (B8 : Option Addr) (d8 : Nat) (w : World),
  Rd Kd.string w A1 c1 y.f1 ∧ Rd k33 w A5 c5 y.f2.f3 ∧ Rd k68 w A6 c6 y.f2.f4 ∧ Rd k53 w A7 c7 y.f2.f5 ∧ Rd k68 w A8 c8 y.f3 → Rd Kd.string w B1 d1 y.f1 ∧ Rd k33 w B5 d5 y.f2.f3 ∧ Rd k68 w B6 d6 y.f2.f4 ∧ Rd k53 w B7 d7 y.f2.f5 ∧ Rd k68 w B8 d8 y.f3 → y.f1.length ≤ 1048576 ∧ SqE n y.f2 ∧ LD n y.f3 →
  Calls Try.prog 53 #[.agg #[.string y.f0, .slice A1 y.f1.length c1, .int .i64 y.f2.f0, .string y.f2.f1, .int .i64 y.f2.f2, .slice A5 y.f2.f3.length c5, .slice A6 y.f2.f4.length c6, .slice A7 y.f2.f5.length c7, .slice A8 y.f3.length c8], .agg #[.string y.f0, .slice B1 y.f1.length d1, .int .i64 y.f2.f0, .string y.f2.f1, .int .i64 y.f2.f2, .slice B5 y.f2.f3.length d5, .slice B6 y.f2.f4.length d6, .slice B7 y.f2.f5.length d7, .slice B8 y.f3.length d8]] w (True_ w)
abbrev QA (n : Nat) : Prop := ∀ (y : S53) (A1 : Option Addr) (c1 : Nat) (A5 : Option Addr) (c5 : Nat) (A6 : Option Addr) (c6 : Nat) (A7 : Option Addr) (c7 : Nat) (B1 : Option Addr) (d1 : Nat) (B5 : Option Addr) (d5 : Nat) (B6 : Option Addr) (d6 : Nat) (B7 : Option Addr) (d7 : Nat) (w : World),
  Rd Kd.string w A1 c1 y.f1 ∧ Rd k33 w A5 c5 y.f2.f3 ∧ Rd k68 w A6 c6 y.f2.f4 ∧ Rd k53 w A7 c7 y.f2.f5 → Rd Kd.string w B1 d1 y.f1 ∧ Rd k33 w B5 d5 y.f2.f3 ∧ Rd k68 w B6 d6 y.f2.f4 ∧ Rd k53 w B7 d7 y.f2.f5 → y.f1.length ≤ 1048576 ∧ SqE n y.f2 →
  Calls Try.prog 54 #[.agg #[.string y.f0, .slice A1 y.f1.length c1, .int .i64 y.f2.f0, .string y.f2.f1, .int .i64 y.f2.f2, .slice A5 y.f2.f3.length c5, .slice A6 y.f2.f4.length c6, .slice A7 y.f2.f5.length c7], .agg #[.string y.f0, .slice B1 y.f1.length d1, .int .i64 y.f2.f0, .string y.f2.f1, .int .i64 y.f2.f2, .slice B5 y.f2.f3.length d5, .slice B6 y.f2.f4.length d6, .slice B7 y.f2.f5.length d7]] w (True_ w)
theorem QE_of {n : Nat} (ih : ∀ m, m < n → QE m) (y : S33) (hs : SqE n y) (A3 : Option Addr) (c3 : Nat) (A4 : Option Addr) (c4 : Nat) (A5 : Option Addr) (c5 : Nat) (B3 : Option Addr) (d3 : Nat) (B4 : Option Addr) (d4 : Nat) (B5 : Option Addr) (d5 : Nat) (w : World)
  (hl : Rd k33 w A3 c3 y.f3 ∧ Rd k68 w A4 c4 y.f4 ∧ Rd k53 w A5 c5 y.f5) (hr : Rd k33 w B3 d3 y.f3 ∧ Rd k68 w B4 d4 y.f4 ∧ Rd k53 w B5 d5 y.f5) :
  Calls Try.prog 12 #[.agg #[.int .i64 y.f0, .string y.f1, .int .i64 y.f2, .slice A3 y.f3.length c3, .slice A4 y.f4.length c4, .slice A5 y.f5.length c5], .agg #[.int .i64 y.f0, .string y.f1, .int .i64 y.f2, .slice B3 y.f3.length d3, .slice B4 y.f4.length d4, .slice B5 y.f5.length d5]] w (True_ w) := by
  cases n with
  | zero => simp [SqE] at hs
  | succ n =>
    simp only [SqE] at hs
    exact ih n (Nat.lt_succ_self n) y A3 c3 A4 c4 A5 c5 B3 d3 B4 d4 B5 d5 w hl hr hs
theorem QD_of {n : Nat} (ih : ∀ m, m < n → QD m) (y : S68) (hs : SqD n y) (A1 : Option Addr) (c1 : Nat) (A5 : Option Addr) (c5 : Nat) (A6 : Option Addr) (c6 : Nat) (A7 : Option Addr) (c7 : Nat) (A8 : Option Addr) (c8 : Nat) (B1 : Option Addr) (d1 : Nat) (B5 : Option Addr) (d5 : Nat) (B6 : Option Addr) (d6 : Nat) (B7 : Option Addr) (d7 : Nat) (B8 : Option Addr) (d8 : Nat) (w : World)
  (hl : Rd Kd.string w A1 c1 y.f1 ∧ Rd k33 w A5 c5 y.f2.f3 ∧ Rd k68 w A6 c6 y.f2.f4 ∧ Rd k53 w A7 c7 y.f2.f5 ∧ Rd k68 w A8 c8 y.f3) (hr : Rd Kd.string w B1 d1 y.f1 ∧ Rd k33 w B5 d5 y.f2.f3 ∧ Rd k68 w B6 d6 y.f2.f4 ∧ Rd k53 w B7 d7 y.f2.f5 ∧ Rd k68 w B8 d8 y.f3) :
  Calls Try.prog 53 #[.agg #[.string y.f0, .slice A1 y.f1.length c1, .int .i64 y.f2.f0, .string y.f2.f1, .int .i64 y.f2.f2, .slice A5 y.f2.f3.length c5, .slice A6 y.f2.f4.length c6, .slice A7 y.f2.f5.length c7, .slice A8 y.f3.length c8], .agg #[.string y.f0, .slice B1 y.f1.length d1, .int .i64 y.f2.f0, .string y.f2.f1, .int .i64 y.f2.f2, .slice B5 y.f2.f3.length d5, .slice B6 y.f2.f4.length d6, .slice B7 y.f2.f5.length d7, .slice B8 y.f3.length d8]] w (True_ w) := by
  cases n with
  | zero => simp [SqD] at hs
  | succ n =>
    simp only [SqD] at hs
    exact ih n (Nat.lt_succ_self n) y A1 c1 A5 c5 A6 c6 A7 c7 A8 c8 B1 d1 B5 d5 B6 d6 B7 d7 B8 d8 w hl hr hs
theorem QA_of {n : Nat} (ih : ∀ m, m < n → QA m) (y : S53) (hs : SqA n y) (A1 : Option Addr) (c1 : Nat) (A5 : Option Addr) (c5 : Nat) (A6 : Option Addr) (c6 : Nat) (A7 : Option Addr) (c7 : Nat) (B1 : Option Addr) (d1 : Nat) (B5 : Option Addr) (d5 : Nat) (B6 : Option Addr) (d6 : Nat) (B7 : Option Addr) (d7 : Nat) (w : World)
  (hl : Rd Kd.string w A1 c1 y.f1 ∧ Rd k33 w A5 c5 y.f2.f3 ∧ Rd k68 w A6 c6 y.f2.f4 ∧ Rd k53 w A7 c7 y.f2.f5) (hr : Rd Kd.string w B1 d1 y.f1 ∧ Rd k33 w B5 d5 y.f2.f3 ∧ Rd k68 w B6 d6 y.f2.f4 ∧ Rd k53 w B7 d7 y.f2.f5) :
  Calls Try.prog 54 #[.agg #[.string y.f0, .slice A1 y.f1.length c1, .int .i64 y.f2.f0, .string y.f2.f1, .int .i64 y.f2.f2, .slice A5 y.f2.f3.length c5, .slice A6 y.f2.f4.length c6, .slice A7 y.f2.f5.length c7], .agg #[.string y.f0, .slice B1 y.f1.length d1, .int .i64 y.f2.f0, .string y.f2.f1, .int .i64 y.f2.f2, .slice B5 y.f2.f3.length d5, .slice B6 y.f2.f4.length d6, .slice B7 y.f2.f5.length d7]] w (True_ w) := by
  cases n with
  | zero => simp [SqA] at hs
  | succ n =>
    simp only [SqA] at hs
    exact ih n (Nat.lt_succ_self n) y A1 c1 A5 c5 A6 c6 A7 c7 B1 d1 B5 d5 B6 d6 B7 d7 w hl hr hs
end Go.Proofs.Ytpndcfibjjkgcaa.MyItc

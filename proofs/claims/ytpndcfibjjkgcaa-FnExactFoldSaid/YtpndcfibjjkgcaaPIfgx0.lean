/- The functions that the law goes through, each with a contract: written by a program of this session over the kit's print. No condition. -/
import Derived.Test.YtpndcfibjjkgcaaProg
import Derived.Below
import Derived.Deep.Draws
import Derived.Deep.AppendLies
import Derived.Maps.AppendAt
import Derived.OwnWalk
import Derived.Laws.BytesArg
import Derived.Laws.MakeOwn
import Derived.Laws.OwnMore
import Derived.Deep.OwnRows
import Derived.Tactics
import Derived.Lib.ConvBytes
import Derived.Laws.Slices
import Derived.WalkKit
import Derived.KernelRfl
import Derived.RowKit3
import Derived.Deep.LoopGhost
import Derived.Deep.QuietTactic
import Derived.BigQuiet
import Derived.WideLaws
import Derived.Deep.DeepCutAuto
import Derived.Deep.CutBlock
import Derived.Deep.RegionHeld3
import Derived.Laws.Rows
import Derived.Lib.AppendStr
import Derived.ArgAppend
import Derived.Laws.IdiomCopy
import Derived.OrdersHeld
import Derived.Laws.BitsLemmas
import Derived.RowKit
import Derived.Test.YtpndcfibjjkgcaaMyFam
import Derived.Test.YtpndcfibjjkgcaaMySq
import Derived.Test.YtpndcfibjjkgcaaWWords
import Derived.Test.YtpndcfibjjkgcaaWLast
import Derived.Test.YtpndcfibjjkgcaaWTab
import Derived.Test.YtpndcfibjjkgcaaWQPut
import Derived.Test.YtpndcfibjjkgcaaWApart
import Derived.Test.YtpndcfibjjkgcaaWArr
import Derived.Test.YtpndcfibjjkgcaaWZeros
import Derived.Test.YtpndcfibjjkgcaaWFoot
import Derived.Test.YtpndcfibjjkgcaaWKept
import Derived.Test.YtpndcfibjjkgcaaWShare
import Derived.Test.YtpndcfibjjkgcaaWN
import Derived.Test.YtpndcfibjjkgcaaWNEv
import Derived.Test.YtpndcfibjjkgcaaWMore
namespace Go.Proofs.Ytpndcfibjjkgcaa.PIfg
open Go.RowKit Go.Proofs.YtpndcfibjjkgcaaW.PrintWords Go.Proofs.YtpndcfibjjkgcaaW.PrintLast Go.Proofs.YtpndcfibjjkgcaaW.PrintMore
attribute [local go_sem] max2_int min2_int max_two min_two max_three min_three max_four min_four   -- for this text's walks alone
set_option linter.unusedVariables false
set_option linter.unusedSimpArgs false



def errW : Option Int → Value
  | none => .nilIface
  | some c => .iface 0 (.int .i64 c)
theorem errW_none : errW none = .nilIface := rfl
theorem errW_some (c : Int) : errW (some c) = .iface 0 (.int .i64 c) := rfl

theorem info9 : (Try.prog.info? 9).map (fun i => (i.zero, i.size, i.bytes)) = some (some (.string ⟨#[]⟩), 1, 16) := by kernel_rfl
theorem info33 : (Try.prog.info? 33).map (fun i => (i.zero, i.size, i.bytes)) = some (some (.agg #[(.int .i64 0), (.string ⟨#[]⟩), (.int .i64 0), (.slice none 0 0), (.slice none 0 0), (.slice none 0 0)]), 6, 104) := by kernel_rfl
theorem info53 : (Try.prog.info? 53).map (fun i => (i.zero, i.size, i.bytes)) = some (some (.agg #[(.string ⟨#[]⟩), (.slice none 0 0), (.int .i64 0), (.string ⟨#[]⟩), (.int .i64 0), (.slice none 0 0), (.slice none 0 0), (.slice none 0 0)]), 8, 144) := by kernel_rfl
theorem info68 : (Try.prog.info? 68).map (fun i => (i.zero, i.size, i.bytes)) = some (some (.agg #[(.string ⟨#[]⟩), (.slice none 0 0), (.int .i64 0), (.string ⟨#[]⟩), (.int .i64 0), (.slice none 0 0), (.slice none 0 0), (.slice none 0 0), (.slice none 0 0)]), 9, 168) := by kernel_rfl
-- the values' own types
/-! #### struct types nested in each other: 26, 63, 66 -/
mutual
structure S26 where
  f0 : Int
  f1 : ByteArray
  f2 : Int
  f3 : (List S26)
  f4 : (List S63)
  f5 : (List S66)
structure S63 where
  f0 : ByteArray
  f1 : (List ByteArray)
  f2 : S26
  f3 : (List S63)
structure S66 where
  f0 : ByteArray
  f1 : (List ByteArray)
  f2 : S26
end
def z26 : S26 := ⟨(0 : Int), (⟨#[]⟩ : ByteArray), (0 : Int), ([] : List S26), ([] : List S63), ([] : List S66)⟩
def z63 : S63 := ⟨(⟨#[]⟩ : ByteArray), ([] : List ByteArray), z26, ([] : List S63)⟩
def z66 : S66 := ⟨(⟨#[]⟩ : ByteArray), ([] : List ByteArray), z26⟩
def F26_ty : Fin 3 → Type
  | 0 => S26
  | 1 => S63
  | 2 => S66
def F26_26 (d : ∀ i, Kd (F26_ty i)) : Kd S26 := Kd.iso (Kd.pair (Kd.int .i64) (Kd.pair Kd.string (Kd.pair (Kd.int .i64) (Kd.pair (Kd.slice 26 (d 0 : Kd S26)) (Kd.pair (Kd.slice 63 (d 1 : Kd S63)) (Kd.slice 66 (d 2 : Kd S66))))))) (fun x : S26 => (x.f0, x.f1, x.f2, x.f3, x.f4, x.f5))
def F26_63 (d : ∀ i, Kd (F26_ty i)) : Kd S63 := Kd.iso (Kd.pair Kd.string (Kd.pair (Kd.slice 9 Kd.string) (Kd.pair (d 0 : Kd S26) (Kd.slice 63 (d 1 : Kd S63))))) (fun x : S63 => (x.f0, x.f1, x.f2, x.f3))
def F26_66 (d : ∀ i, Kd (F26_ty i)) : Kd S66 := Kd.iso (Kd.pair Kd.string (Kd.pair (Kd.slice 9 Kd.string) (d 0 : Kd S26))) (fun x : S66 => (x.f0, x.f1, x.f2))
def F26 (d : ∀ i, Kd (F26_ty i)) : ∀ i, Kd (F26_ty i)
  | 0 => F26_26 d
  | 1 => F26_63 d
  | 2 => F26_66 d
def F26_sz : Fin 3 → Nat
  | 0 => 6
  | 1 => 9
  | 2 => 8
theorem monoF26 : ∀ i, Kd.MonoF (fun d => F26 d i)
  | 0 => Kd.monoF_iso _ (Kd.monoF_pair (Kd.monoF_const _) (Kd.monoF_pair (Kd.monoF_const _) (Kd.monoF_pair (Kd.monoF_const _) (Kd.monoF_pair (Kd.monoF_slice 26 (Kd.monoF_at 0)) (Kd.monoF_pair (Kd.monoF_slice 63 (Kd.monoF_at 1)) (Kd.monoF_slice 66 (Kd.monoF_at 2)))))))
  | 1 => Kd.monoF_iso _ (Kd.monoF_pair (Kd.monoF_const _) (Kd.monoF_pair (Kd.monoF_const _) (Kd.monoF_pair (Kd.monoF_at 0) (Kd.monoF_slice 63 (Kd.monoF_at 1)))))
  | 2 => Kd.monoF_iso _ (Kd.monoF_pair (Kd.monoF_const _) (Kd.monoF_pair (Kd.monoF_const _) (Kd.monoF_at 0)))
theorem subF26 : ∀ i, Kd.SubF (fun d => F26 d i) [9, 26, 63, 66]
  | 0 => Kd.subF_iso _ (Kd.subF_pair (Kd.subF_const _ (by decide)) (Kd.subF_pair (Kd.subF_const _ (by decide)) (Kd.subF_pair (Kd.subF_const _ (by decide)) (Kd.subF_pair (Kd.subF_slice 26 (by decide) (Kd.subF_at 0)) (Kd.subF_pair (Kd.subF_slice 63 (by decide) (Kd.subF_at 1)) (Kd.subF_slice 66 (by decide) (Kd.subF_at 2)))))))
  | 1 => Kd.subF_iso _ (Kd.subF_pair (Kd.subF_const _ (by decide)) (Kd.subF_pair (Kd.subF_const _ (by decide)) (Kd.subF_pair (Kd.subF_at 0) (Kd.subF_slice 63 (by decide) (Kd.subF_at 1)))))
  | 2 => Kd.subF_iso _ (Kd.subF_pair (Kd.subF_const _ (by decide)) (Kd.subF_pair (Kd.subF_const _ (by decide)) (Kd.subF_at 0)))
theorem sizeF26 : ∀ (d : ∀ i, Kd (F26_ty i)), (∀ i, (d i).sz = F26_sz i) → ∀ i, (F26 d i).sz = F26_sz i
  | d, h, 0 => rfl
  | d, h, 1 => by
    show ((Kd.pair Kd.string (Kd.pair (Kd.slice 9 Kd.string) (Kd.pair (d 0 : Kd S26) (Kd.slice 63 (d 1 : Kd S63)))))).sz = 9
    simp only [Kd.pair, Kd.slice, h]
    rfl
  | d, h, 2 => by
    show ((Kd.pair Kd.string (Kd.pair (Kd.slice 9 Kd.string) (d 0 : Kd S26)))).sz = 8
    simp only [Kd.pair, Kd.slice, h]
    rfl
def kF26 : ∀ i, Kd (F26_ty i) := Kd.fixF F26 F26_sz [9, 26, 63, 66] (Kd.uptoF_sz sizeF26) (Kd.uptoF_E subF26)
def k26 : Kd S26 := kF26 0
def k63 : Kd S63 := kF26 1
def k66 : Kd S66 := kF26 2
theorem k26_open {w : World} {x : S26} {cs : List Value} (h : k26.K w x cs) : ∃ A3 c3 A4 c4 A5 c5, cs = [.int .i64 x.f0, .string x.f1, .int .i64 x.f2, .slice A3 x.f3.length c3, .slice A4 x.f4.length c4, .slice A5 x.f5.length c5] ∧ x.f3.length ≤ c3 ∧ k26.C w A3 x.f3.length x.f3 ∧ x.f4.length ≤ c4 ∧ k63.C w A4 x.f4.length x.f4 ∧ x.f5.length ≤ c5 ∧ k66.C w A5 x.f5.length x.f5 := by
  obtain ⟨n, h⟩ := h
  cases n with
  | zero => exact h.elim
  | succ n =>
    obtain ⟨_, _, rfl, rfl, _, _, rfl, rfl, _, _, rfl, rfl, _, _, rfl, ⟨A3, c3, rfl, l3, g3⟩, _, _, rfl, ⟨A4, c4, rfl, l4, g4⟩, ⟨A5, c5, rfl, l5, g5⟩⟩ := h
    exact ⟨A3, c3, A4, c4, A5, c5, rfl, l3, Kd.fixF_C (hs := Kd.uptoF_sz sizeF26) (hE := Kd.uptoF_E subF26) (i := 0) g3, l4, Kd.fixF_C (hs := Kd.uptoF_sz sizeF26) (hE := Kd.uptoF_E subF26) (i := 1) g4, l5, Kd.fixF_C (hs := Kd.uptoF_sz sizeF26) (hE := Kd.uptoF_E subF26) (i := 2) g5⟩
theorem k26_mk (w : World) (x : S26) {A3 : Option Addr} {c3 : Nat} (l3 : x.f3.length ≤ c3) (g3 : k26.C w A3 x.f3.length x.f3) {A4 : Option Addr} {c4 : Nat} (l4 : x.f4.length ≤ c4) (g4 : k63.C w A4 x.f4.length x.f4) {A5 : Option Addr} {c5 : Nat} (l5 : x.f5.length ≤ c5) (g5 : k66.C w A5 x.f5.length x.f5) : k26.K w x [.int .i64 x.f0, .string x.f1, .int .i64 x.f2, .slice A3 x.f3.length c3, .slice A4 x.f4.length c4, .slice A5 x.f5.length c5] := by
  obtain ⟨n3, q3⟩ := Kd.fixF_C_back (hs := Kd.uptoF_sz sizeF26) (hE := Kd.uptoF_E subF26) (i := 0) monoF26 g3
  obtain ⟨n4, q4⟩ := Kd.fixF_C_back (hs := Kd.uptoF_sz sizeF26) (hE := Kd.uptoF_E subF26) (i := 1) monoF26 g4
  obtain ⟨n5, q5⟩ := Kd.fixF_C_back (hs := Kd.uptoF_sz sizeF26) (hE := Kd.uptoF_E subF26) (i := 2) monoF26 g5
  have r3 := Kd.uptoF_C_le monoF26 (Kd.uptoF_sz sizeF26) (show n3 ≤ (max n3 (max n4 n5)) by omega) q3
  have r4 := Kd.uptoF_C_le monoF26 (Kd.uptoF_sz sizeF26) (show n4 ≤ (max n3 (max n4 n5)) by omega) q4
  have r5 := Kd.uptoF_C_le monoF26 (Kd.uptoF_sz sizeF26) (show n5 ≤ (max n3 (max n4 n5)) by omega) q5
  exact ⟨(max n3 (max n4 n5)) + 1, ⟨[.int .i64 x.f0], [.string x.f1, .int .i64 x.f2, .slice A3 x.f3.length c3, .slice A4 x.f4.length c4, .slice A5 x.f5.length c5], rfl, rfl, ⟨[.string x.f1], [.int .i64 x.f2, .slice A3 x.f3.length c3, .slice A4 x.f4.length c4, .slice A5 x.f5.length c5], rfl, rfl, ⟨[.int .i64 x.f2], [.slice A3 x.f3.length c3, .slice A4 x.f4.length c4, .slice A5 x.f5.length c5], rfl, rfl, ⟨[.slice A3 x.f3.length c3], [.slice A4 x.f4.length c4, .slice A5 x.f5.length c5], rfl, ⟨A3, c3, rfl, l3, r3⟩, ⟨[.slice A4 x.f4.length c4], [.slice A5 x.f5.length c5], rfl, ⟨A4, c4, rfl, l4, r4⟩, ⟨A5, c5, rfl, l5, r5⟩⟩⟩⟩⟩⟩⟩
def rd_T26 (xs : List S26) (i : Int) : S26 := xs.getD i.toNat z26
theorem at_T26 {w : World} {A : Option Addr} {n : Nat} {xs : List S26} (h : Kd.C k26 w A n xs) (i : Int) (h0 : 0 ≤ i) (h1 : i < n) : ∃ ad A3 c3 A4 c4 A5 c5, A = some ad ∧ w.cell? (ad.add (i.toNat * 6)) = some (.int .i64 (rd_T26 xs i).f0) ∧ w.cell? ⟨(ad.add (i.toNat * 6)).block, (ad.add (i.toNat * 6)).off + 1, none⟩ = some (.string (rd_T26 xs i).f1) ∧ w.cell? ⟨(ad.add (i.toNat * 6)).block, (ad.add (i.toNat * 6)).off + 2, none⟩ = some (.int .i64 (rd_T26 xs i).f2) ∧ w.cell? ⟨(ad.add (i.toNat * 6)).block, (ad.add (i.toNat * 6)).off + 3, none⟩ = some (.slice A3 (rd_T26 xs i).f3.length c3) ∧ w.cell? ⟨(ad.add (i.toNat * 6)).block, (ad.add (i.toNat * 6)).off + 4, none⟩ = some (.slice A4 (rd_T26 xs i).f4.length c4) ∧ w.cell? ⟨(ad.add (i.toNat * 6)).block, (ad.add (i.toNat * 6)).off + 5, none⟩ = some (.slice A5 (rd_T26 xs i).f5.length c5) ∧ (rd_T26 xs i).f3.length ≤ c3 ∧ k26.C w A3 (rd_T26 xs i).f3.length (rd_T26 xs i).f3 ∧ (rd_T26 xs i).f4.length ≤ c4 ∧ k63.C w A4 (rd_T26 xs i).f4.length (rd_T26 xs i).f4 ∧ (rd_T26 xs i).f5.length ≤ c5 ∧ k66.C w A5 (rd_T26 xs i).f5.length (rd_T26 xs i).f5 := by
  obtain ⟨ad, c, e, _, hK, hc0⟩ := Kd.C_get h z26 i h0 h1
  have hc : ∀ j u, c[j]? = some u → w.cell? (ad.add (i.toNat * 6 + j)) = some u := hc0
  obtain ⟨A3, c3, A4, c4, A5, c5, rfl, l3, g3, l4, g4, l5, g5⟩ := k26_open hK
  exact ⟨ad, A3, c3, A4, c4, A5, c5, e, hc 0 _ rfl, by rw [← add_field _ _ 1 (by omega)]; exact hc 1 _ rfl, by rw [← add_field _ _ 2 (by omega)]; exact hc 2 _ rfl, by rw [← add_field _ _ 3 (by omega)]; exact hc 3 _ rfl, by rw [← add_field _ _ 4 (by omega)]; exact hc 4 _ rfl, by rw [← add_field _ _ 5 (by omega)]; exact hc 5 _ rfl, l3, g3, l4, g4, l5, g5⟩

theorem k63_open {w : World} {x : S63} {cs : List Value} (h : k63.K w x cs) : ∃ A1 c1 A5 c5 A6 c6 A7 c7 A8 c8, cs = [.string x.f0, .slice A1 x.f1.length c1, .int .i64 x.f2.f0, .string x.f2.f1, .int .i64 x.f2.f2, .slice A5 x.f2.f3.length c5, .slice A6 x.f2.f4.length c6, .slice A7 x.f2.f5.length c7, .slice A8 x.f3.length c8] ∧ x.f1.length ≤ c1 ∧ Kd.string.C w A1 x.f1.length x.f1 ∧ x.f2.f3.length ≤ c5 ∧ k26.C w A5 x.f2.f3.length x.f2.f3 ∧ x.f2.f4.length ≤ c6 ∧ k63.C w A6 x.f2.f4.length x.f2.f4 ∧ x.f2.f5.length ≤ c7 ∧ k66.C w A7 x.f2.f5.length x.f2.f5 ∧ x.f3.length ≤ c8 ∧ k63.C w A8 x.f3.length x.f3 := by
  obtain ⟨n, h⟩ := h
  cases n with
  | zero => exact h.elim
  | succ n =>
    obtain ⟨_, _, rfl, rfl, _, _, rfl, ⟨A1, c1, rfl, l1, g1⟩, _, _, rfl, s2, ⟨A8, c8, rfl, l8, g8⟩⟩ := h
    obtain ⟨A5, c5, A6, c6, A7, c7, rfl, l5, g5, l6, g6, l7, g7⟩ := k26_open ⟨n, s2⟩
    exact ⟨A1, c1, A5, c5, A6, c6, A7, c7, A8, c8, rfl, l1, g1, l5, g5, l6, g6, l7, g7, l8, Kd.fixF_C (hs := Kd.uptoF_sz sizeF26) (hE := Kd.uptoF_E subF26) (i := 1) g8⟩
theorem k63_mk (w : World) (x : S63) {A1 : Option Addr} {c1 : Nat} (l1 : x.f1.length ≤ c1) (g1 : Kd.string.C w A1 x.f1.length x.f1) {A5 : Option Addr} {c5 : Nat} (l5 : x.f2.f3.length ≤ c5) (g5 : k26.C w A5 x.f2.f3.length x.f2.f3) {A6 : Option Addr} {c6 : Nat} (l6 : x.f2.f4.length ≤ c6) (g6 : k63.C w A6 x.f2.f4.length x.f2.f4) {A7 : Option Addr} {c7 : Nat} (l7 : x.f2.f5.length ≤ c7) (g7 : k66.C w A7 x.f2.f5.length x.f2.f5) {A8 : Option Addr} {c8 : Nat} (l8 : x.f3.length ≤ c8) (g8 : k63.C w A8 x.f3.length x.f3) : k63.K w x [.string x.f0, .slice A1 x.f1.length c1, .int .i64 x.f2.f0, .string x.f2.f1, .int .i64 x.f2.f2, .slice A5 x.f2.f3.length c5, .slice A6 x.f2.f4.length c6, .slice A7 x.f2.f5.length c7, .slice A8 x.f3.length c8] := by
  obtain ⟨n2, q2⟩ : k26.K w x.f2 [.int .i64 x.f2.f0, .string x.f2.f1, .int .i64 x.f2.f2, .slice A5 x.f2.f3.length c5, .slice A6 x.f2.f4.length c6, .slice A7 x.f2.f5.length c7] := k26_mk w x.f2 l5 g5 l6 g6 l7 g7
  obtain ⟨n8, q8⟩ := Kd.fixF_C_back (hs := Kd.uptoF_sz sizeF26) (hE := Kd.uptoF_E subF26) (i := 1) monoF26 g8
  have r2 := Kd.uptoF_K_le monoF26 (Kd.uptoF_sz sizeF26) (show n2 ≤ (max n2 n8) by omega) q2
  have r8 := Kd.uptoF_C_le monoF26 (Kd.uptoF_sz sizeF26) (show n8 ≤ (max n2 n8) by omega) q8
  exact ⟨(max n2 n8) + 1, ⟨[.string x.f0], [.slice A1 x.f1.length c1, .int .i64 x.f2.f0, .string x.f2.f1, .int .i64 x.f2.f2, .slice A5 x.f2.f3.length c5, .slice A6 x.f2.f4.length c6, .slice A7 x.f2.f5.length c7, .slice A8 x.f3.length c8], rfl, rfl, ⟨[.slice A1 x.f1.length c1], [.int .i64 x.f2.f0, .string x.f2.f1, .int .i64 x.f2.f2, .slice A5 x.f2.f3.length c5, .slice A6 x.f2.f4.length c6, .slice A7 x.f2.f5.length c7, .slice A8 x.f3.length c8], rfl, ⟨A1, c1, rfl, l1, g1⟩, ⟨[.int .i64 x.f2.f0, .string x.f2.f1, .int .i64 x.f2.f2, .slice A5 x.f2.f3.length c5, .slice A6 x.f2.f4.length c6, .slice A7 x.f2.f5.length c7], [.slice A8 x.f3.length c8], rfl, r2, ⟨A8, c8, rfl, l8, r8⟩⟩⟩⟩⟩
def rd_T63 (xs : List S63) (i : Int) : S63 := xs.getD i.toNat z63
theorem at_T63 {w : World} {A : Option Addr} {n : Nat} {xs : List S63} (h : Kd.C k63 w A n xs) (i : Int) (h0 : 0 ≤ i) (h1 : i < n) : ∃ ad A1 c1 A5 c5 A6 c6 A7 c7 A8 c8, A = some ad ∧ w.cell? (ad.add (i.toNat * 9)) = some (.string (rd_T63 xs i).f0) ∧ w.cell? ⟨(ad.add (i.toNat * 9)).block, (ad.add (i.toNat * 9)).off + 1, none⟩ = some (.slice A1 (rd_T63 xs i).f1.length c1) ∧ w.cell? ⟨(ad.add (i.toNat * 9)).block, (ad.add (i.toNat * 9)).off + 2, none⟩ = some (.int .i64 (rd_T63 xs i).f2.f0) ∧ w.cell? ⟨(ad.add (i.toNat * 9)).block, (ad.add (i.toNat * 9)).off + 3, none⟩ = some (.string (rd_T63 xs i).f2.f1) ∧ w.cell? ⟨(ad.add (i.toNat * 9)).block, (ad.add (i.toNat * 9)).off + 4, none⟩ = some (.int .i64 (rd_T63 xs i).f2.f2) ∧ w.cell? ⟨(ad.add (i.toNat * 9)).block, (ad.add (i.toNat * 9)).off + 5, none⟩ = some (.slice A5 (rd_T63 xs i).f2.f3.length c5) ∧ w.cell? ⟨(ad.add (i.toNat * 9)).block, (ad.add (i.toNat * 9)).off + 6, none⟩ = some (.slice A6 (rd_T63 xs i).f2.f4.length c6) ∧ w.cell? ⟨(ad.add (i.toNat * 9)).block, (ad.add (i.toNat * 9)).off + 7, none⟩ = some (.slice A7 (rd_T63 xs i).f2.f5.length c7) ∧ w.cell? ⟨(ad.add (i.toNat * 9)).block, (ad.add (i.toNat * 9)).off + 8, none⟩ = some (.slice A8 (rd_T63 xs i).f3.length c8) ∧ (rd_T63 xs i).f1.length ≤ c1 ∧ Kd.string.C w A1 (rd_T63 xs i).f1.length (rd_T63 xs i).f1 ∧ (rd_T63 xs i).f2.f3.length ≤ c5 ∧ k26.C w A5 (rd_T63 xs i).f2.f3.length (rd_T63 xs i).f2.f3 ∧ (rd_T63 xs i).f2.f4.length ≤ c6 ∧ k63.C w A6 (rd_T63 xs i).f2.f4.length (rd_T63 xs i).f2.f4 ∧ (rd_T63 xs i).f2.f5.length ≤ c7 ∧ k66.C w A7 (rd_T63 xs i).f2.f5.length (rd_T63 xs i).f2.f5 ∧ (rd_T63 xs i).f3.length ≤ c8 ∧ k63.C w A8 (rd_T63 xs i).f3.length (rd_T63 xs i).f3 := by
  obtain ⟨ad, c, e, _, hK, hc0⟩ := Kd.C_get h z63 i h0 h1
  have hc : ∀ j u, c[j]? = some u → w.cell? (ad.add (i.toNat * 9 + j)) = some u := hc0
  obtain ⟨A1, c1, A5, c5, A6, c6, A7, c7, A8, c8, rfl, l1, g1, l5, g5, l6, g6, l7, g7, l8, g8⟩ := k63_open hK
  exact ⟨ad, A1, c1, A5, c5, A6, c6, A7, c7, A8, c8, e, hc 0 _ rfl, by rw [← add_field _ _ 1 (by omega)]; exact hc 1 _ rfl, by rw [← add_field _ _ 2 (by omega)]; exact hc 2 _ rfl, by rw [← add_field _ _ 3 (by omega)]; exact hc 3 _ rfl, by rw [← add_field _ _ 4 (by omega)]; exact hc 4 _ rfl, by rw [← add_field _ _ 5 (by omega)]; exact hc 5 _ rfl, by rw [← add_field _ _ 6 (by omega)]; exact hc 6 _ rfl, by rw [← add_field _ _ 7 (by omega)]; exact hc 7 _ rfl, by rw [← add_field _ _ 8 (by omega)]; exact hc 8 _ rfl, l1, g1, l5, g5, l6, g6, l7, g7, l8, g8⟩

theorem k66_open {w : World} {x : S66} {cs : List Value} (h : k66.K w x cs) : ∃ A1 c1 A5 c5 A6 c6 A7 c7, cs = [.string x.f0, .slice A1 x.f1.length c1, .int .i64 x.f2.f0, .string x.f2.f1, .int .i64 x.f2.f2, .slice A5 x.f2.f3.length c5, .slice A6 x.f2.f4.length c6, .slice A7 x.f2.f5.length c7] ∧ x.f1.length ≤ c1 ∧ Kd.string.C w A1 x.f1.length x.f1 ∧ x.f2.f3.length ≤ c5 ∧ k26.C w A5 x.f2.f3.length x.f2.f3 ∧ x.f2.f4.length ≤ c6 ∧ k63.C w A6 x.f2.f4.length x.f2.f4 ∧ x.f2.f5.length ≤ c7 ∧ k66.C w A7 x.f2.f5.length x.f2.f5 := by
  obtain ⟨n, h⟩ := h
  cases n with
  | zero => exact h.elim
  | succ n =>
    obtain ⟨_, _, rfl, rfl, _, _, rfl, ⟨A1, c1, rfl, l1, g1⟩, s2⟩ := h
    obtain ⟨A5, c5, A6, c6, A7, c7, rfl, l5, g5, l6, g6, l7, g7⟩ := k26_open ⟨n, s2⟩
    exact ⟨A1, c1, A5, c5, A6, c6, A7, c7, rfl, l1, g1, l5, g5, l6, g6, l7, g7⟩
theorem k66_mk (w : World) (x : S66) {A1 : Option Addr} {c1 : Nat} (l1 : x.f1.length ≤ c1) (g1 : Kd.string.C w A1 x.f1.length x.f1) {A5 : Option Addr} {c5 : Nat} (l5 : x.f2.f3.length ≤ c5) (g5 : k26.C w A5 x.f2.f3.length x.f2.f3) {A6 : Option Addr} {c6 : Nat} (l6 : x.f2.f4.length ≤ c6) (g6 : k63.C w A6 x.f2.f4.length x.f2.f4) {A7 : Option Addr} {c7 : Nat} (l7 : x.f2.f5.length ≤ c7) (g7 : k66.C w A7 x.f2.f5.length x.f2.f5) : k66.K w x [.string x.f0, .slice A1 x.f1.length c1, .int .i64 x.f2.f0, .string x.f2.f1, .int .i64 x.f2.f2, .slice A5 x.f2.f3.length c5, .slice A6 x.f2.f4.length c6, .slice A7 x.f2.f5.length c7] := by
  obtain ⟨n2, q2⟩ : k26.K w x.f2 [.int .i64 x.f2.f0, .string x.f2.f1, .int .i64 x.f2.f2, .slice A5 x.f2.f3.length c5, .slice A6 x.f2.f4.length c6, .slice A7 x.f2.f5.length c7] := k26_mk w x.f2 l5 g5 l6 g6 l7 g7
  have r2 := Kd.uptoF_K_le monoF26 (Kd.uptoF_sz sizeF26) (show n2 ≤ n2 by omega) q2
  exact ⟨n2 + 1, ⟨[.string x.f0], [.slice A1 x.f1.length c1, .int .i64 x.f2.f0, .string x.f2.f1, .int .i64 x.f2.f2, .slice A5 x.f2.f3.length c5, .slice A6 x.f2.f4.length c6, .slice A7 x.f2.f5.length c7], rfl, rfl, ⟨[.slice A1 x.f1.length c1], [.int .i64 x.f2.f0, .string x.f2.f1, .int .i64 x.f2.f2, .slice A5 x.f2.f3.length c5, .slice A6 x.f2.f4.length c6, .slice A7 x.f2.f5.length c7], rfl, ⟨A1, c1, rfl, l1, g1⟩, r2⟩⟩⟩
def rd_T66 (xs : List S66) (i : Int) : S66 := xs.getD i.toNat z66
theorem at_T66 {w : World} {A : Option Addr} {n : Nat} {xs : List S66} (h : Kd.C k66 w A n xs) (i : Int) (h0 : 0 ≤ i) (h1 : i < n) : ∃ ad A1 c1 A5 c5 A6 c6 A7 c7, A = some ad ∧ w.cell? (ad.add (i.toNat * 8)) = some (.string (rd_T66 xs i).f0) ∧ w.cell? ⟨(ad.add (i.toNat * 8)).block, (ad.add (i.toNat * 8)).off + 1, none⟩ = some (.slice A1 (rd_T66 xs i).f1.length c1) ∧ w.cell? ⟨(ad.add (i.toNat * 8)).block, (ad.add (i.toNat * 8)).off + 2, none⟩ = some (.int .i64 (rd_T66 xs i).f2.f0) ∧ w.cell? ⟨(ad.add (i.toNat * 8)).block, (ad.add (i.toNat * 8)).off + 3, none⟩ = some (.string (rd_T66 xs i).f2.f1) ∧ w.cell? ⟨(ad.add (i.toNat * 8)).block, (ad.add (i.toNat * 8)).off + 4, none⟩ = some (.int .i64 (rd_T66 xs i).f2.f2) ∧ w.cell? ⟨(ad.add (i.toNat * 8)).block, (ad.add (i.toNat * 8)).off + 5, none⟩ = some (.slice A5 (rd_T66 xs i).f2.f3.length c5) ∧ w.cell? ⟨(ad.add (i.toNat * 8)).block, (ad.add (i.toNat * 8)).off + 6, none⟩ = some (.slice A6 (rd_T66 xs i).f2.f4.length c6) ∧ w.cell? ⟨(ad.add (i.toNat * 8)).block, (ad.add (i.toNat * 8)).off + 7, none⟩ = some (.slice A7 (rd_T66 xs i).f2.f5.length c7) ∧ (rd_T66 xs i).f1.length ≤ c1 ∧ Kd.string.C w A1 (rd_T66 xs i).f1.length (rd_T66 xs i).f1 ∧ (rd_T66 xs i).f2.f3.length ≤ c5 ∧ k26.C w A5 (rd_T66 xs i).f2.f3.length (rd_T66 xs i).f2.f3 ∧ (rd_T66 xs i).f2.f4.length ≤ c6 ∧ k63.C w A6 (rd_T66 xs i).f2.f4.length (rd_T66 xs i).f2.f4 ∧ (rd_T66 xs i).f2.f5.length ≤ c7 ∧ k66.C w A7 (rd_T66 xs i).f2.f5.length (rd_T66 xs i).f2.f5 := by
  obtain ⟨ad, c, e, _, hK, hc0⟩ := Kd.C_get h z66 i h0 h1
  have hc : ∀ j u, c[j]? = some u → w.cell? (ad.add (i.toNat * 8 + j)) = some u := hc0
  obtain ⟨A1, c1, A5, c5, A6, c6, A7, c7, rfl, l1, g1, l5, g5, l6, g6, l7, g7⟩ := k66_open hK
  exact ⟨ad, A1, c1, A5, c5, A6, c6, A7, c7, e, hc 0 _ rfl, by rw [← add_field _ _ 1 (by omega)]; exact hc 1 _ rfl, by rw [← add_field _ _ 2 (by omega)]; exact hc 2 _ rfl, by rw [← add_field _ _ 3 (by omega)]; exact hc 3 _ rfl, by rw [← add_field _ _ 4 (by omega)]; exact hc 4 _ rfl, by rw [← add_field _ _ 5 (by omega)]; exact hc 5 _ rfl, by rw [← add_field _ _ 6 (by omega)]; exact hc 6 _ rfl, by rw [← add_field _ _ 7 (by omega)]; exact hc 7 _ rfl, l1, g1, l5, g5, l6, g6, l7, g7⟩

/-! #### struct types nested in each other: 33, 53, 68 -/
mutual
structure S33 where
  f0 : Int
  f1 : ByteArray
  f2 : Int
  f3 : (List S33)
  f4 : (List S68)
  f5 : (List S53)
structure S53 where
  f0 : ByteArray
  f1 : (List ByteArray)
  f2 : S33
structure S68 where
  f0 : ByteArray
  f1 : (List ByteArray)
  f2 : S33
  f3 : (List S68)
end
def z33 : S33 := ⟨(0 : Int), (⟨#[]⟩ : ByteArray), (0 : Int), ([] : List S33), ([] : List S68), ([] : List S53)⟩
def z53 : S53 := ⟨(⟨#[]⟩ : ByteArray), ([] : List ByteArray), z33⟩
def z68 : S68 := ⟨(⟨#[]⟩ : ByteArray), ([] : List ByteArray), z33, ([] : List S68)⟩
def F33_ty : Fin 3 → Type
  | 0 => S33
  | 1 => S53
  | 2 => S68
def F33_33 (d : ∀ i, Kd (F33_ty i)) : Kd S33 := Kd.iso (Kd.pair (Kd.int .i64) (Kd.pair Kd.string (Kd.pair (Kd.int .i64) (Kd.pair (Kd.slice 33 (d 0 : Kd S33)) (Kd.pair (Kd.slice 68 (d 2 : Kd S68)) (Kd.slice 53 (d 1 : Kd S53))))))) (fun x : S33 => (x.f0, x.f1, x.f2, x.f3, x.f4, x.f5))
def F33_53 (d : ∀ i, Kd (F33_ty i)) : Kd S53 := Kd.iso (Kd.pair Kd.string (Kd.pair (Kd.slice 9 Kd.string) (d 0 : Kd S33))) (fun x : S53 => (x.f0, x.f1, x.f2))
def F33_68 (d : ∀ i, Kd (F33_ty i)) : Kd S68 := Kd.iso (Kd.pair Kd.string (Kd.pair (Kd.slice 9 Kd.string) (Kd.pair (d 0 : Kd S33) (Kd.slice 68 (d 2 : Kd S68))))) (fun x : S68 => (x.f0, x.f1, x.f2, x.f3))
def F33 (d : ∀ i, Kd (F33_ty i)) : ∀ i, Kd (F33_ty i)
  | 0 => F33_33 d
  | 1 => F33_53 d
  | 2 => F33_68 d
def F33_sz : Fin 3 → Nat
  | 0 => 6
  | 1 => 8
  | 2 => 9
theorem monoF33 : ∀ i, Kd.MonoF (fun d => F33 d i)
  | 0 => Kd.monoF_iso _ (Kd.monoF_pair (Kd.monoF_const _) (Kd.monoF_pair (Kd.monoF_const _) (Kd.monoF_pair (Kd.monoF_const _) (Kd.monoF_pair (Kd.monoF_slice 33 (Kd.monoF_at 0)) (Kd.monoF_pair (Kd.monoF_slice 68 (Kd.monoF_at 2)) (Kd.monoF_slice 53 (Kd.monoF_at 1)))))))
  | 1 => Kd.monoF_iso _ (Kd.monoF_pair (Kd.monoF_const _) (Kd.monoF_pair (Kd.monoF_const _) (Kd.monoF_at 0)))
  | 2 => Kd.monoF_iso _ (Kd.monoF_pair (Kd.monoF_const _) (Kd.monoF_pair (Kd.monoF_const _) (Kd.monoF_pair (Kd.monoF_at 0) (Kd.monoF_slice 68 (Kd.monoF_at 2)))))
theorem subF33 : ∀ i, Kd.SubF (fun d => F33 d i) [9, 33, 53, 68]
  | 0 => Kd.subF_iso _ (Kd.subF_pair (Kd.subF_const _ (by decide)) (Kd.subF_pair (Kd.subF_const _ (by decide)) (Kd.subF_pair (Kd.subF_const _ (by decide)) (Kd.subF_pair (Kd.subF_slice 33 (by decide) (Kd.subF_at 0)) (Kd.subF_pair (Kd.subF_slice 68 (by decide) (Kd.subF_at 2)) (Kd.subF_slice 53 (by decide) (Kd.subF_at 1)))))))
  | 1 => Kd.subF_iso _ (Kd.subF_pair (Kd.subF_const _ (by decide)) (Kd.subF_pair (Kd.subF_const _ (by decide)) (Kd.subF_at 0)))
  | 2 => Kd.subF_iso _ (Kd.subF_pair (Kd.subF_const _ (by decide)) (Kd.subF_pair (Kd.subF_const _ (by decide)) (Kd.subF_pair (Kd.subF_at 0) (Kd.subF_slice 68 (by decide) (Kd.subF_at 2)))))
theorem sizeF33 : ∀ (d : ∀ i, Kd (F33_ty i)), (∀ i, (d i).sz = F33_sz i) → ∀ i, (F33 d i).sz = F33_sz i
  | d, h, 0 => rfl
  | d, h, 1 => by
    show ((Kd.pair Kd.string (Kd.pair (Kd.slice 9 Kd.string) (d 0 : Kd S33)))).sz = 8
    simp only [Kd.pair, Kd.slice, h]
    rfl
  | d, h, 2 => by
    show ((Kd.pair Kd.string (Kd.pair (Kd.slice 9 Kd.string) (Kd.pair (d 0 : Kd S33) (Kd.slice 68 (d 2 : Kd S68)))))).sz = 9
    simp only [Kd.pair, Kd.slice, h]
    rfl
def kF33 : ∀ i, Kd (F33_ty i) := Kd.fixF F33 F33_sz [9, 33, 53, 68] (Kd.uptoF_sz sizeF33) (Kd.uptoF_E subF33)
def k33 : Kd S33 := kF33 0
def k53 : Kd S53 := kF33 1
def k68 : Kd S68 := kF33 2
theorem k33_open {w : World} {x : S33} {cs : List Value} (h : k33.K w x cs) : ∃ A3 c3 A4 c4 A5 c5, cs = [.int .i64 x.f0, .string x.f1, .int .i64 x.f2, .slice A3 x.f3.length c3, .slice A4 x.f4.length c4, .slice A5 x.f5.length c5] ∧ x.f3.length ≤ c3 ∧ k33.C w A3 x.f3.length x.f3 ∧ x.f4.length ≤ c4 ∧ k68.C w A4 x.f4.length x.f4 ∧ x.f5.length ≤ c5 ∧ k53.C w A5 x.f5.length x.f5 := by
  obtain ⟨n, h⟩ := h
  cases n with
  | zero => exact h.elim
  | succ n =>
    obtain ⟨_, _, rfl, rfl, _, _, rfl, rfl, _, _, rfl, rfl, _, _, rfl, ⟨A3, c3, rfl, l3, g3⟩, _, _, rfl, ⟨A4, c4, rfl, l4, g4⟩, ⟨A5, c5, rfl, l5, g5⟩⟩ := h
    exact ⟨A3, c3, A4, c4, A5, c5, rfl, l3, Kd.fixF_C (hs := Kd.uptoF_sz sizeF33) (hE := Kd.uptoF_E subF33) (i := 0) g3, l4, Kd.fixF_C (hs := Kd.uptoF_sz sizeF33) (hE := Kd.uptoF_E subF33) (i := 2) g4, l5, Kd.fixF_C (hs := Kd.uptoF_sz sizeF33) (hE := Kd.uptoF_E subF33) (i := 1) g5⟩
theorem k33_mk (w : World) (x : S33) {A3 : Option Addr} {c3 : Nat} (l3 : x.f3.length ≤ c3) (g3 : k33.C w A3 x.f3.length x.f3) {A4 : Option Addr} {c4 : Nat} (l4 : x.f4.length ≤ c4) (g4 : k68.C w A4 x.f4.length x.f4) {A5 : Option Addr} {c5 : Nat} (l5 : x.f5.length ≤ c5) (g5 : k53.C w A5 x.f5.length x.f5) : k33.K w x [.int .i64 x.f0, .string x.f1, .int .i64 x.f2, .slice A3 x.f3.length c3, .slice A4 x.f4.length c4, .slice A5 x.f5.length c5] := by
  obtain ⟨n3, q3⟩ := Kd.fixF_C_back (hs := Kd.uptoF_sz sizeF33) (hE := Kd.uptoF_E subF33) (i := 0) monoF33 g3
  obtain ⟨n4, q4⟩ := Kd.fixF_C_back (hs := Kd.uptoF_sz sizeF33) (hE := Kd.uptoF_E subF33) (i := 2) monoF33 g4
  obtain ⟨n5, q5⟩ := Kd.fixF_C_back (hs := Kd.uptoF_sz sizeF33) (hE := Kd.uptoF_E subF33) (i := 1) monoF33 g5
  have r3 := Kd.uptoF_C_le monoF33 (Kd.uptoF_sz sizeF33) (show n3 ≤ (max n3 (max n4 n5)) by omega) q3
  have r4 := Kd.uptoF_C_le monoF33 (Kd.uptoF_sz sizeF33) (show n4 ≤ (max n3 (max n4 n5)) by omega) q4
  have r5 := Kd.uptoF_C_le monoF33 (Kd.uptoF_sz sizeF33) (show n5 ≤ (max n3 (max n4 n5)) by omega) q5
  exact ⟨(max n3 (max n4 n5)) + 1, ⟨[.int .i64 x.f0], [.string x.f1, .int .i64 x.f2, .slice A3 x.f3.length c3, .slice A4 x.f4.length c4, .slice A5 x.f5.length c5], rfl, rfl, ⟨[.string x.f1], [.int .i64 x.f2, .slice A3 x.f3.length c3, .slice A4 x.f4.length c4, .slice A5 x.f5.length c5], rfl, rfl, ⟨[.int .i64 x.f2], [.slice A3 x.f3.length c3, .slice A4 x.f4.length c4, .slice A5 x.f5.length c5], rfl, rfl, ⟨[.slice A3 x.f3.length c3], [.slice A4 x.f4.length c4, .slice A5 x.f5.length c5], rfl, ⟨A3, c3, rfl, l3, r3⟩, ⟨[.slice A4 x.f4.length c4], [.slice A5 x.f5.length c5], rfl, ⟨A4, c4, rfl, l4, r4⟩, ⟨A5, c5, rfl, l5, r5⟩⟩⟩⟩⟩⟩⟩
def rd_T33 (xs : List S33) (i : Int) : S33 := xs.getD i.toNat z33
theorem at_T33 {w : World} {A : Option Addr} {n : Nat} {xs : List S33} (h : Kd.C k33 w A n xs) (i : Int) (h0 : 0 ≤ i) (h1 : i < n) : ∃ ad A3 c3 A4 c4 A5 c5, A = some ad ∧ w.cell? (ad.add (i.toNat * 6)) = some (.int .i64 (rd_T33 xs i).f0) ∧ w.cell? ⟨(ad.add (i.toNat * 6)).block, (ad.add (i.toNat * 6)).off + 1, none⟩ = some (.string (rd_T33 xs i).f1) ∧ w.cell? ⟨(ad.add (i.toNat * 6)).block, (ad.add (i.toNat * 6)).off + 2, none⟩ = some (.int .i64 (rd_T33 xs i).f2) ∧ w.cell? ⟨(ad.add (i.toNat * 6)).block, (ad.add (i.toNat * 6)).off + 3, none⟩ = some (.slice A3 (rd_T33 xs i).f3.length c3) ∧ w.cell? ⟨(ad.add (i.toNat * 6)).block, (ad.add (i.toNat * 6)).off + 4, none⟩ = some (.slice A4 (rd_T33 xs i).f4.length c4) ∧ w.cell? ⟨(ad.add (i.toNat * 6)).block, (ad.add (i.toNat * 6)).off + 5, none⟩ = some (.slice A5 (rd_T33 xs i).f5.length c5) ∧ (rd_T33 xs i).f3.length ≤ c3 ∧ k33.C w A3 (rd_T33 xs i).f3.length (rd_T33 xs i).f3 ∧ (rd_T33 xs i).f4.length ≤ c4 ∧ k68.C w A4 (rd_T33 xs i).f4.length (rd_T33 xs i).f4 ∧ (rd_T33 xs i).f5.length ≤ c5 ∧ k53.C w A5 (rd_T33 xs i).f5.length (rd_T33 xs i).f5 := by
  obtain ⟨ad, c, e, _, hK, hc0⟩ := Kd.C_get h z33 i h0 h1
  have hc : ∀ j u, c[j]? = some u → w.cell? (ad.add (i.toNat * 6 + j)) = some u := hc0
  obtain ⟨A3, c3, A4, c4, A5, c5, rfl, l3, g3, l4, g4, l5, g5⟩ := k33_open hK
  exact ⟨ad, A3, c3, A4, c4, A5, c5, e, hc 0 _ rfl, by rw [← add_field _ _ 1 (by omega)]; exact hc 1 _ rfl, by rw [← add_field _ _ 2 (by omega)]; exact hc 2 _ rfl, by rw [← add_field _ _ 3 (by omega)]; exact hc 3 _ rfl, by rw [← add_field _ _ 4 (by omega)]; exact hc 4 _ rfl, by rw [← add_field _ _ 5 (by omega)]; exact hc 5 _ rfl, l3, g3, l4, g4, l5, g5⟩

theorem k53_open {w : World} {x : S53} {cs : List Value} (h : k53.K w x cs) : ∃ A1 c1 A5 c5 A6 c6 A7 c7, cs = [.string x.f0, .slice A1 x.f1.length c1, .int .i64 x.f2.f0, .string x.f2.f1, .int .i64 x.f2.f2, .slice A5 x.f2.f3.length c5, .slice A6 x.f2.f4.length c6, .slice A7 x.f2.f5.length c7] ∧ x.f1.length ≤ c1 ∧ Kd.string.C w A1 x.f1.length x.f1 ∧ x.f2.f3.length ≤ c5 ∧ k33.C w A5 x.f2.f3.length x.f2.f3 ∧ x.f2.f4.length ≤ c6 ∧ k68.C w A6 x.f2.f4.length x.f2.f4 ∧ x.f2.f5.length ≤ c7 ∧ k53.C w A7 x.f2.f5.length x.f2.f5 := by
  obtain ⟨n, h⟩ := h
  cases n with
  | zero => exact h.elim
  | succ n =>
    obtain ⟨_, _, rfl, rfl, _, _, rfl, ⟨A1, c1, rfl, l1, g1⟩, s2⟩ := h
    obtain ⟨A5, c5, A6, c6, A7, c7, rfl, l5, g5, l6, g6, l7, g7⟩ := k33_open ⟨n, s2⟩
    exact ⟨A1, c1, A5, c5, A6, c6, A7, c7, rfl, l1, g1, l5, g5, l6, g6, l7, g7⟩
theorem k53_mk (w : World) (x : S53) {A1 : Option Addr} {c1 : Nat} (l1 : x.f1.length ≤ c1) (g1 : Kd.string.C w A1 x.f1.length x.f1) {A5 : Option Addr} {c5 : Nat} (l5 : x.f2.f3.length ≤ c5) (g5 : k33.C w A5 x.f2.f3.length x.f2.f3) {A6 : Option Addr} {c6 : Nat} (l6 : x.f2.f4.length ≤ c6) (g6 : k68.C w A6 x.f2.f4.length x.f2.f4) {A7 : Option Addr} {c7 : Nat} (l7 : x.f2.f5.length ≤ c7) (g7 : k53.C w A7 x.f2.f5.length x.f2.f5) : k53.K w x [.string x.f0, .slice A1 x.f1.length c1, .int .i64 x.f2.f0, .string x.f2.f1, .int .i64 x.f2.f2, .slice A5 x.f2.f3.length c5, .slice A6 x.f2.f4.length c6, .slice A7 x.f2.f5.length c7] := by
  obtain ⟨n2, q2⟩ : k33.K w x.f2 [.int .i64 x.f2.f0, .string x.f2.f1, .int .i64 x.f2.f2, .slice A5 x.f2.f3.length c5, .slice A6 x.f2.f4.length c6, .slice A7 x.f2.f5.length c7] := k33_mk w x.f2 l5 g5 l6 g6 l7 g7
  have r2 := Kd.uptoF_K_le monoF33 (Kd.uptoF_sz sizeF33) (show n2 ≤ n2 by omega) q2
  exact ⟨n2 + 1, ⟨[.string x.f0], [.slice A1 x.f1.length c1, .int .i64 x.f2.f0, .string x.f2.f1, .int .i64 x.f2.f2, .slice A5 x.f2.f3.length c5, .slice A6 x.f2.f4.length c6, .slice A7 x.f2.f5.length c7], rfl, rfl, ⟨[.slice A1 x.f1.length c1], [.int .i64 x.f2.f0, .string x.f2.f1, .int .i64 x.f2.f2, .slice A5 x.f2.f3.length c5, .slice A6 x.f2.f4.length c6, .slice A7 x.f2.f5.length c7], rfl, ⟨A1, c1, rfl, l1, g1⟩, r2⟩⟩⟩
def rd_T53 (xs : List S53) (i : Int) : S53 := xs.getD i.toNat z53
theorem at_T53 {w : World} {A : Option Addr} {n : Nat} {xs : List S53} (h : Kd.C k53 w A n xs) (i : Int) (h0 : 0 ≤ i) (h1 : i < n) : ∃ ad A1 c1 A5 c5 A6 c6 A7 c7, A = some ad ∧ w.cell? (ad.add (i.toNat * 8)) = some (.string (rd_T53 xs i).f0) ∧ w.cell? ⟨(ad.add (i.toNat * 8)).block, (ad.add (i.toNat * 8)).off + 1, none⟩ = some (.slice A1 (rd_T53 xs i).f1.length c1) ∧ w.cell? ⟨(ad.add (i.toNat * 8)).block, (ad.add (i.toNat * 8)).off + 2, none⟩ = some (.int .i64 (rd_T53 xs i).f2.f0) ∧ w.cell? ⟨(ad.add (i.toNat * 8)).block, (ad.add (i.toNat * 8)).off + 3, none⟩ = some (.string (rd_T53 xs i).f2.f1) ∧ w.cell? ⟨(ad.add (i.toNat * 8)).block, (ad.add (i.toNat * 8)).off + 4, none⟩ = some (.int .i64 (rd_T53 xs i).f2.f2) ∧ w.cell? ⟨(ad.add (i.toNat * 8)).block, (ad.add (i.toNat * 8)).off + 5, none⟩ = some (.slice A5 (rd_T53 xs i).f2.f3.length c5) ∧ w.cell? ⟨(ad.add (i.toNat * 8)).block, (ad.add (i.toNat * 8)).off + 6, none⟩ = some (.slice A6 (rd_T53 xs i).f2.f4.length c6) ∧ w.cell? ⟨(ad.add (i.toNat * 8)).block, (ad.add (i.toNat * 8)).off + 7, none⟩ = some (.slice A7 (rd_T53 xs i).f2.f5.length c7) ∧ (rd_T53 xs i).f1.length ≤ c1 ∧ Kd.string.C w A1 (rd_T53 xs i).f1.length (rd_T53 xs i).f1 ∧ (rd_T53 xs i).f2.f3.length ≤ c5 ∧ k33.C w A5 (rd_T53 xs i).f2.f3.length (rd_T53 xs i).f2.f3 ∧ (rd_T53 xs i).f2.f4.length ≤ c6 ∧ k68.C w A6 (rd_T53 xs i).f2.f4.length (rd_T53 xs i).f2.f4 ∧ (rd_T53 xs i).f2.f5.length ≤ c7 ∧ k53.C w A7 (rd_T53 xs i).f2.f5.length (rd_T53 xs i).f2.f5 := by
  obtain ⟨ad, c, e, _, hK, hc0⟩ := Kd.C_get h z53 i h0 h1
  have hc : ∀ j u, c[j]? = some u → w.cell? (ad.add (i.toNat * 8 + j)) = some u := hc0
  obtain ⟨A1, c1, A5, c5, A6, c6, A7, c7, rfl, l1, g1, l5, g5, l6, g6, l7, g7⟩ := k53_open hK
  exact ⟨ad, A1, c1, A5, c5, A6, c6, A7, c7, e, hc 0 _ rfl, by rw [← add_field _ _ 1 (by omega)]; exact hc 1 _ rfl, by rw [← add_field _ _ 2 (by omega)]; exact hc 2 _ rfl, by rw [← add_field _ _ 3 (by omega)]; exact hc 3 _ rfl, by rw [← add_field _ _ 4 (by omega)]; exact hc 4 _ rfl, by rw [← add_field _ _ 5 (by omega)]; exact hc 5 _ rfl, by rw [← add_field _ _ 6 (by omega)]; exact hc 6 _ rfl, by rw [← add_field _ _ 7 (by omega)]; exact hc 7 _ rfl, l1, g1, l5, g5, l6, g6, l7, g7⟩

theorem k68_open {w : World} {x : S68} {cs : List Value} (h : k68.K w x cs) : ∃ A1 c1 A5 c5 A6 c6 A7 c7 A8 c8, cs = [.string x.f0, .slice A1 x.f1.length c1, .int .i64 x.f2.f0, .string x.f2.f1, .int .i64 x.f2.f2, .slice A5 x.f2.f3.length c5, .slice A6 x.f2.f4.length c6, .slice A7 x.f2.f5.length c7, .slice A8 x.f3.length c8] ∧ x.f1.length ≤ c1 ∧ Kd.string.C w A1 x.f1.length x.f1 ∧ x.f2.f3.length ≤ c5 ∧ k33.C w A5 x.f2.f3.length x.f2.f3 ∧ x.f2.f4.length ≤ c6 ∧ k68.C w A6 x.f2.f4.length x.f2.f4 ∧ x.f2.f5.length ≤ c7 ∧ k53.C w A7 x.f2.f5.length x.f2.f5 ∧ x.f3.length ≤ c8 ∧ k68.C w A8 x.f3.length x.f3 := by
  obtain ⟨n, h⟩ := h
  cases n with
  | zero => exact h.elim
  | succ n =>
    obtain ⟨_, _, rfl, rfl, _, _, rfl, ⟨A1, c1, rfl, l1, g1⟩, _, _, rfl, s2, ⟨A8, c8, rfl, l8, g8⟩⟩ := h
    obtain ⟨A5, c5, A6, c6, A7, c7, rfl, l5, g5, l6, g6, l7, g7⟩ := k33_open ⟨n, s2⟩
    exact ⟨A1, c1, A5, c5, A6, c6, A7, c7, A8, c8, rfl, l1, g1, l5, g5, l6, g6, l7, g7, l8, Kd.fixF_C (hs := Kd.uptoF_sz sizeF33) (hE := Kd.uptoF_E subF33) (i := 2) g8⟩
theorem k68_mk (w : World) (x : S68) {A1 : Option Addr} {c1 : Nat} (l1 : x.f1.length ≤ c1) (g1 : Kd.string.C w A1 x.f1.length x.f1) {A5 : Option Addr} {c5 : Nat} (l5 : x.f2.f3.length ≤ c5) (g5 : k33.C w A5 x.f2.f3.length x.f2.f3) {A6 : Option Addr} {c6 : Nat} (l6 : x.f2.f4.length ≤ c6) (g6 : k68.C w A6 x.f2.f4.length x.f2.f4) {A7 : Option Addr} {c7 : Nat} (l7 : x.f2.f5.length ≤ c7) (g7 : k53.C w A7 x.f2.f5.length x.f2.f5) {A8 : Option Addr} {c8 : Nat} (l8 : x.f3.length ≤ c8) (g8 : k68.C w A8 x.f3.length x.f3) : k68.K w x [.string x.f0, .slice A1 x.f1.length c1, .int .i64 x.f2.f0, .string x.f2.f1, .int .i64 x.f2.f2, .slice A5 x.f2.f3.length c5, .slice A6 x.f2.f4.length c6, .slice A7 x.f2.f5.length c7, .slice A8 x.f3.length c8] := by
  obtain ⟨n2, q2⟩ : k33.K w x.f2 [.int .i64 x.f2.f0, .string x.f2.f1, .int .i64 x.f2.f2, .slice A5 x.f2.f3.length c5, .slice A6 x.f2.f4.length c6, .slice A7 x.f2.f5.length c7] := k33_mk w x.f2 l5 g5 l6 g6 l7 g7
  obtain ⟨n8, q8⟩ := Kd.fixF_C_back (hs := Kd.uptoF_sz sizeF33) (hE := Kd.uptoF_E subF33) (i := 2) monoF33 g8
  have r2 := Kd.uptoF_K_le monoF33 (Kd.uptoF_sz sizeF33) (show n2 ≤ (max n2 n8) by omega) q2
  have r8 := Kd.uptoF_C_le monoF33 (Kd.uptoF_sz sizeF33) (show n8 ≤ (max n2 n8) by omega) q8
  exact ⟨(max n2 n8) + 1, ⟨[.string x.f0], [.slice A1 x.f1.length c1, .int .i64 x.f2.f0, .string x.f2.f1, .int .i64 x.f2.f2, .slice A5 x.f2.f3.length c5, .slice A6 x.f2.f4.length c6, .slice A7 x.f2.f5.length c7, .slice A8 x.f3.length c8], rfl, rfl, ⟨[.slice A1 x.f1.length c1], [.int .i64 x.f2.f0, .string x.f2.f1, .int .i64 x.f2.f2, .slice A5 x.f2.f3.length c5, .slice A6 x.f2.f4.length c6, .slice A7 x.f2.f5.length c7, .slice A8 x.f3.length c8], rfl, ⟨A1, c1, rfl, l1, g1⟩, ⟨[.int .i64 x.f2.f0, .string x.f2.f1, .int .i64 x.f2.f2, .slice A5 x.f2.f3.length c5, .slice A6 x.f2.f4.length c6, .slice A7 x.f2.f5.length c7], [.slice A8 x.f3.length c8], rfl, r2, ⟨A8, c8, rfl, l8, r8⟩⟩⟩⟩⟩
def rd_T68 (xs : List S68) (i : Int) : S68 := xs.getD i.toNat z68
theorem at_T68 {w : World} {A : Option Addr} {n : Nat} {xs : List S68} (h : Kd.C k68 w A n xs) (i : Int) (h0 : 0 ≤ i) (h1 : i < n) : ∃ ad A1 c1 A5 c5 A6 c6 A7 c7 A8 c8, A = some ad ∧ w.cell? (ad.add (i.toNat * 9)) = some (.string (rd_T68 xs i).f0) ∧ w.cell? ⟨(ad.add (i.toNat * 9)).block, (ad.add (i.toNat * 9)).off + 1, none⟩ = some (.slice A1 (rd_T68 xs i).f1.length c1) ∧ w.cell? ⟨(ad.add (i.toNat * 9)).block, (ad.add (i.toNat * 9)).off + 2, none⟩ = some (.int .i64 (rd_T68 xs i).f2.f0) ∧ w.cell? ⟨(ad.add (i.toNat * 9)).block, (ad.add (i.toNat * 9)).off + 3, none⟩ = some (.string (rd_T68 xs i).f2.f1) ∧ w.cell? ⟨(ad.add (i.toNat * 9)).block, (ad.add (i.toNat * 9)).off + 4, none⟩ = some (.int .i64 (rd_T68 xs i).f2.f2) ∧ w.cell? ⟨(ad.add (i.toNat * 9)).block, (ad.add (i.toNat * 9)).off + 5, none⟩ = some (.slice A5 (rd_T68 xs i).f2.f3.length c5) ∧ w.cell? ⟨(ad.add (i.toNat * 9)).block, (ad.add (i.toNat * 9)).off + 6, none⟩ = some (.slice A6 (rd_T68 xs i).f2.f4.length c6) ∧ w.cell? ⟨(ad.add (i.toNat * 9)).block, (ad.add (i.toNat * 9)).off + 7, none⟩ = some (.slice A7 (rd_T68 xs i).f2.f5.length c7) ∧ w.cell? ⟨(ad.add (i.toNat * 9)).block, (ad.add (i.toNat * 9)).off + 8, none⟩ = some (.slice A8 (rd_T68 xs i).f3.length c8) ∧ (rd_T68 xs i).f1.length ≤ c1 ∧ Kd.string.C w A1 (rd_T68 xs i).f1.length (rd_T68 xs i).f1 ∧ (rd_T68 xs i).f2.f3.length ≤ c5 ∧ k33.C w A5 (rd_T68 xs i).f2.f3.length (rd_T68 xs i).f2.f3 ∧ (rd_T68 xs i).f2.f4.length ≤ c6 ∧ k68.C w A6 (rd_T68 xs i).f2.f4.length (rd_T68 xs i).f2.f4 ∧ (rd_T68 xs i).f2.f5.length ≤ c7 ∧ k53.C w A7 (rd_T68 xs i).f2.f5.length (rd_T68 xs i).f2.f5 ∧ (rd_T68 xs i).f3.length ≤ c8 ∧ k68.C w A8 (rd_T68 xs i).f3.length (rd_T68 xs i).f3 := by
  obtain ⟨ad, c, e, _, hK, hc0⟩ := Kd.C_get h z68 i h0 h1
  have hc : ∀ j u, c[j]? = some u → w.cell? (ad.add (i.toNat * 9 + j)) = some u := hc0
  obtain ⟨A1, c1, A5, c5, A6, c6, A7, c7, A8, c8, rfl, l1, g1, l5, g5, l6, g6, l7, g7, l8, g8⟩ := k68_open hK
  exact ⟨ad, A1, c1, A5, c5, A6, c6, A7, c7, A8, c8, e, hc 0 _ rfl, by rw [← add_field _ _ 1 (by omega)]; exact hc 1 _ rfl, by rw [← add_field _ _ 2 (by omega)]; exact hc 2 _ rfl, by rw [← add_field _ _ 3 (by omega)]; exact hc 3 _ rfl, by rw [← add_field _ _ 4 (by omega)]; exact hc 4 _ rfl, by rw [← add_field _ _ 5 (by omega)]; exact hc 5 _ rfl, by rw [← add_field _ _ 6 (by omega)]; exact hc 6 _ rfl, by rw [← add_field _ _ 7 (by omega)]; exact hc 7 _ rfl, by rw [← add_field _ _ 8 (by omega)]; exact hc 8 _ rfl, l1, g1, l5, g5, l6, g6, l7, g7, l8, g8⟩

end Go.Proofs.Ytpndcfibjjkgcaa.PIfg

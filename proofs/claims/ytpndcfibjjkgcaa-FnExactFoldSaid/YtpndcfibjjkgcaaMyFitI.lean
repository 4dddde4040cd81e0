/- Opening an argument whose type is nested in itself (an expression): what reads as data of the type is of the family's kind, its lists, strings and numbers of their size. No condition. -/
import Derived.Test.YtpndcfibjjkgcaaPIfgx0
import Derived.Test.YtpndcfibjjkgcaaMyOpen
namespace Go.Proofs.Ytpndcfibjjkgcaa.PIfg
open Go Go.Proofs.Ytpndcfibjjkgcaa.MyOpen Go.Proofs.YtpndcfibjjkgcaaW.PrintWords
mutual
def FitE : Nat → S26 → Prop
  | 0, _ => False
  | n + 1, x => IntFit .i64 x.f0 ∧ StrFit x.f1 ∧ IntFit .i64 x.f2 ∧ AllFit (FitE n) x.f3 ∧ AllFit (FitD n) x.f4 ∧ AllFit (FitA n) x.f5
def FitD : Nat → S63 → Prop
  | 0, _ => False
  | n + 1, x => StrFit x.f0 ∧ AllFit StrFit x.f1 ∧ FitE n x.f2 ∧ AllFit (FitD n) x.f3
def FitA : Nat → S66 → Prop
  | 0, _ => False
  | n + 1, x => StrFit x.f0 ∧ AllFit StrFit x.f1 ∧ FitE n x.f2
end
theorem allFit_imp {α : Type} {Q R : α → Prop} (h : ∀ x, Q x → R x) {l : List α} (hl : AllFit Q l) : AllFit R l := ⟨hl.1, fun x hx => h x (hl.2 x hx)⟩
theorem fit_up : ∀ n, (∀ x, FitE n x → FitE (n + 1) x) ∧ (∀ x, FitD n x → FitD (n + 1) x) ∧ (∀ x, FitA n x → FitA (n + 1) x)
  | 0 => ⟨fun _ h => by simp [FitE] at h, fun _ h => by simp [FitD] at h, fun _ h => by simp [FitA] at h⟩
  | n + 1 => by
    obtain ⟨h1, h2, h3⟩ := fit_up n
    refine ⟨fun x h => ?_, fun x h => ?_, fun x h => ?_⟩
    · simp only [FitE] at h ⊢
      obtain ⟨a, b, c, d, e, f⟩ := h
      exact ⟨a, b, c, allFit_imp h1 d, allFit_imp h2 e, allFit_imp h3 f⟩
    · simp only [FitD] at h ⊢
      obtain ⟨a, b, c, d⟩ := h
      exact ⟨a, b, h1 _ c, allFit_imp h2 d⟩
    · simp only [FitA] at h ⊢
      obtain ⟨a, b, c⟩ := h
      exact ⟨a, b, h1 _ c⟩
section
variable {H : Type} {enc : TypeId × Value → H} {w : World}
theorem opensAt_zero {α : Type} {P : Program} {t : TypeId} {k : Kd α} {Q : α → Prop} : OpensAt enc P w 0 t k Q := by intro cs x h; simp [DataW.trod] at h
theorem opensAt_imp {α : Type} {P : Program} {n : Nat} {t : TypeId} {k : Kd α} {Q R : α → Prop} (hqr : ∀ x, Q x → R x) (h : OpensAt enc P w n t k Q) : OpensAt enc P w n t k R := by
  intro cs x hx
  obtain ⟨a, ha, hq⟩ := h cs x hx
  exact ⟨a, ha, hqr a hq⟩
/-- The three types at one fuel. -/
def Open3 (enc : TypeId × Value → H) (w : World) (n : Nat) : Prop := OpensAt enc Try.prog w n 26 k26 (FitE n) ∧ OpensAt enc Try.prog w n 63 k63 (FitD n) ∧ OpensAt enc Try.prog w n 66 k66 (FitA n)
theorem sl26 {n : Nat} (h : ∀ m, m < n → Open3 enc w m) : OpensAt enc Try.prog w n 22 (Kd.slice 26 k26) (AllFit (FitE n)) := by
  cases n with
  | zero => exact opensAt_zero
  | succ n => exact opensAt_imp (fun l hl => allFit_imp (fit_up n).1 hl) (opensAt_slice Try.underlying22 (by kernel_rfl) (h n (by omega)).1)
theorem sl63 {n : Nat} (h : ∀ m, m < n → Open3 enc w m) : OpensAt enc Try.prog w n 23 (Kd.slice 63 k63) (AllFit (FitD n)) := by
  cases n with
  | zero => exact opensAt_zero
  | succ n => exact opensAt_imp (fun l hl => allFit_imp (fit_up n).2.1 hl) (opensAt_slice Try.underlying23 (by kernel_rfl) (h n (by omega)).2.1)
theorem sl66 {n : Nat} (h : ∀ m, m < n → Open3 enc w m) : OpensAt enc Try.prog w n 24 (Kd.slice 66 k66) (AllFit (FitA n)) := by
  cases n with
  | zero => exact opensAt_zero
  | succ n => exact opensAt_imp (fun l hl => allFit_imp (fit_up n).2.2 hl) (opensAt_slice Try.underlying24 (by kernel_rfl) (h n (by omega)).2.2)
theorem open26 {n : Nat} (h : ∀ m, m < n + 1 → Open3 enc w m) : OpensAt enc Try.prog w (n + 1) 26 k26 (FitE (n + 1)) := by
  intro cs x hx
  have hn : ∀ m, m < n → Open3 enc w m := fun m hm => h m (by omega)
  obtain ⟨⟨a0, a1, a2, a3, a4, a5⟩, hK, q0, q1, q2, q3, q4, q5⟩ := opensAt_struct Try.underlying26 (by kernel_rfl) (rest_cons rfl (by kernel_rfl) (opens_int Try.underlying3 n) (rest_cons rfl (by kernel_rfl) (opens_string Try.underlying9 n) (rest_cons rfl (by kernel_rfl) (opens_int Try.underlying3 n) (rest_cons rfl (by kernel_rfl) (sl26 hn) (rest_cons rfl (by kernel_rfl) (sl63 hn) (rest_last rfl (by kernel_rfl) (sl66 hn))))))) cs x hx
  obtain ⟨_, _, rfl, rfl, _, _, rfl, rfl, _, _, rfl, rfl, _, _, rfl, ⟨A3, c3, rfl, l3, g3⟩, _, _, rfl, ⟨A4, c4, rfl, l4, g4⟩, ⟨A5, c5, rfl, l5, g5⟩⟩ := hK
  exact ⟨⟨a0, a1, a2, a3, a4, a5⟩, k26_mk w _ l3 g3 l4 g4 l5 g5, q0, q1, q2, q3, q4, q5⟩
theorem open63 {n : Nat} (h : ∀ m, m < n + 1 → Open3 enc w m) : OpensAt enc Try.prog w (n + 1) 63 k63 (FitD (n + 1)) := by
  intro cs x hx
  have hn : ∀ m, m < n → Open3 enc w m := fun m hm => h m (by omega)
  obtain ⟨⟨a0, a1, a2, a3⟩, hK, q0, q1, q2, q3⟩ := opensAt_struct Try.underlying63 (by kernel_rfl) (rest_cons rfl (by kernel_rfl) (opens_string Try.underlying9 n) (rest_cons rfl (by kernel_rfl) (opens_slice Try.underlying51 (by kernel_rfl) (opens_string Try.underlying9) n) (rest_cons rfl (by kernel_rfl) (h n (by omega)).1 (rest_last rfl (by kernel_rfl) (sl63 hn))))) cs x hx
  obtain ⟨_, _, rfl, rfl, _, _, rfl, ⟨A1, c1, rfl, l1, g1⟩, _, _, rfl, hE, ⟨A8, c8, rfl, l8, g8⟩⟩ := hK
  obtain ⟨A5, c5, A6, c6, A7, c7, rfl, l5, g5, l6, g6, l7, g7⟩ := k26_open hE
  exact ⟨⟨a0, a1, a2, a3⟩, k63_mk w ⟨a0, a1, a2, a3⟩ l1 g1 l5 g5 l6 g6 l7 g7 l8 g8, q0, q1, q2, q3⟩
theorem open66 {n : Nat} (h : ∀ m, m < n + 1 → Open3 enc w m) : OpensAt enc Try.prog w (n + 1) 66 k66 (FitA (n + 1)) := by
  intro cs x hx
  obtain ⟨⟨a0, a1, a2⟩, hK, q0, q1, q2⟩ := opensAt_struct Try.underlying66 (by kernel_rfl) (rest_cons rfl (by kernel_rfl) (opens_string Try.underlying9 n) (rest_cons rfl (by kernel_rfl) (opens_slice Try.underlying51 (by kernel_rfl) (opens_string Try.underlying9) n) (rest_last rfl (by kernel_rfl) (h n (by omega)).1))) cs x hx
  obtain ⟨_, _, rfl, rfl, _, _, rfl, ⟨A1, c1, rfl, l1, g1⟩, hE⟩ := hK
  obtain ⟨A5, c5, A6, c6, A7, c7, rfl, l5, g5, l6, g6, l7, g7⟩ := k26_open hE
  exact ⟨⟨a0, a1, a2⟩, k66_mk w ⟨a0, a1, a2⟩ l1 g1 l5 g5 l6 g6 l7 g7, q0, q1, q2⟩
theorem open3 (n : Nat) : Open3 enc w n := by
  induction n using Nat.strongRecOn with
  | _ n ih =>
    cases n with
    | zero => exact ⟨opensAt_zero, opensAt_zero, opensAt_zero⟩
    | succ n => exact ⟨open26 ih, open63 ih, open66 ih⟩
theorem opens26 : Opens enc Try.prog w 26 k26 (fun x => ∃ n, FitE n x) := fun n => opensAt_imp (fun _ h => ⟨n, h⟩) (open3 n).1
end
end Go.Proofs.Ytpndcfibjjkgcaa.PIfg

/- In plain Lean: the given copying comes to what came in; the program's has enough rounds. No condition. -/
import Derived.Test.YtpndcfibjjkgcaaPIfgs6
import Derived.Test.YtpndcfibjjkgcaaMyIts
namespace Go.Proofs.Ytpndcfibjjkgcaa.PIfg
open Go Go.RowKit Go.Proofs.Ytpndcfibjjkgcaa.MyClone
open Go.Proofs.YtpndcfibjjkgcaaW.PrintWords Go.Proofs.Ytpndcfibjjkgcaa.MyItc
set_option linter.unusedVariables false
theorem app_gen {α β : Type} (l : List α) (L : Nat → Nat → Option β) (r : β) (hstep : ∀ i, i < l.length → Ev (fun k => L k (i + 1)) r → Ev (fun k => L k i) r) (hend : Ev (fun k => L k l.length) r) : ∀ d i : Nat, i + d = l.length → Ev (fun k => L k i) r
  | 0, i, h => by obtain rfl : i = l.length := by omega
                  exact hend
  | d + 1, i, h => hstep i (by omega) (app_gen l L r hstep hend d (i + 1) (by omega))
def CpE (n : Nat) : Prop := ∀ x : S33, SqE n x → Ev (fun k => spec_l3Copy.f k x.f0 x.f1 x.f2 x.f3 x.f4 x.f5) (x.f0, x.f1, x.f2, x.f3, x.f4, x.f5)
def CpD (n : Nat) : Prop := ∀ l : List S68, LD n l → Ev (fun k => spec_l3CopyDecs.f k l) l
theorem ld_zero {l : List S68} (h : LD 0 l) : l = [] := by
  cases l with
  | nil => rfl
  | cons x l => exact absurd (h.2 x List.mem_cons_self) (by simp [SqD])
theorem cpD_step {n : Nat} (hE : CpE n) (hD : CpD n) : CpD (n + 1) := by
  intro l h
  refine Ev.succ ?_
  simp only [spec_l3CopyDecs.f]
  have := app_gen l (fun k i => spec_l3CopyDecs.l0 k l (l.take i) (i : Int)) l (fun i hi hr => ?_) ?_ l.length 0 (by omega)
  · simpa using this
  · refine Ev.succ ?_
    have hs := h.2 _ (List.getElem_mem hi)
    have hlen := h.1
    simp only [SqD] at hs
    simp only [spec_l3CopyDecs.l0, rd68 _ i hi, wrap_succ (by omega : i < 9223372036854775807), Option.bind_some, List.length_nil, List.nil_append]
    refine Ev.pos (by omega) (Ev.pos (by omega) (Ev.pos (by omega) (Ev.bind (hE _ hs.2.1) (Ev.bind (hD _ hs.2.2) (Ev.pos (by rw [List.length_take]; omega) ?_)))))
    rw [eta68, ← take_snoc l i hi]
    exact hr
  · refine Ev.succ ?_
    simp only [spec_l3CopyDecs.l0, List.take_length]
    exact Ev.neg (by omega) (Ev.const _)
theorem cp_all : ∀ n, CpE n ∧ CpD n
  | 0 => ⟨fun _ h => by simp [SqE] at h, fun l h => by
      obtain rfl := ld_zero h
      refine Ev.succ ?_
      simp only [spec_l3CopyDecs.f]
      refine Ev.succ ?_
      simp only [spec_l3CopyDecs.l0]
      exact Ev.neg (by simp) (Ev.const _)⟩
  | n + 1 => by
    obtain ⟨hE, hD⟩ := cp_all n
    refine ⟨fun x h => ?_, cpD_step hE hD⟩
    simp only [SqE] at h
    obtain ⟨h3, h4, h5⟩ := h
    refine Ev.succ ?_
    simp only [spec_l3Copy.f]
    refine Ev.bind (hD _ h4) ?_
    have h3l := h3.1
    have h5l := h5.1
    have e5 := app_gen x.f5 (fun k i => spec_l3Copy.l1 k (i : Int) x.f0 x.f1 x.f2 x.f3 x.f4 x.f5 x.f0 x.f1 x.f2 x.f3 x.f4 (x.f5.take i)) (x.f0, x.f1, x.f2, x.f3, x.f4, x.f5) (fun i hi hr => ?_) ?_ x.f5.length 0 (by omega)
    · have e3 := app_gen x.f3 (fun k i => spec_l3Copy.l0 k (i : Int) x.f0 x.f1 x.f2 x.f3 x.f4 x.f5 x.f0 x.f1 x.f2 (x.f3.take i) x.f4) (x.f0, x.f1, x.f2, x.f3, x.f4, x.f5) (fun i hi hr => ?_) ?_ x.f3.length 0 (by omega)
      · simpa using e3
      · refine Ev.succ ?_
        simp only [spec_l3Copy.l0, rd33 _ i hi, wrap_succ (by omega : i < 9223372036854775807)]
        refine Ev.pos (by omega) (Ev.pos (by omega) (Ev.bind (hE _ (h3.2 _ (List.getElem_mem hi))) (Ev.pos (by rw [List.length_take]; omega) ?_)))
        rw [eta33, ← take_snoc x.f3 i hi]
        exact hr
      · refine Ev.succ ?_
        simp only [spec_l3Copy.l0, List.take_length]
        refine Ev.neg (by omega) ?_
        simpa using e5
    · refine Ev.succ ?_
      have hs := h5.2 _ (List.getElem_mem hi)
      simp only [spec_l3Copy.l1, rd53 _ i hi, wrap_succ (by omega : i < 9223372036854775807), Option.bind_some, List.length_nil, List.nil_append]
      cases n with
      | zero => exact absurd hs (by simp [SqA])
      | succ n =>
        simp only [SqA] at hs
        refine Ev.pos (by omega) (Ev.pos (by omega) (Ev.pos (by omega) (Ev.bind ((cp_all n).1 _ hs.2) (Ev.pos (by rw [List.length_take]; omega) ?_))))
        rw [eta53, ← take_snoc x.f5 i hi]
        exact hr
    · refine Ev.succ ?_
      simp only [spec_l3Copy.l1, List.take_length]
      exact Ev.neg (by omega) (Ev.const _)
/-! #### the program's copying -/
theorem clone_ev (l : List ByteArray) (h : l.length ≤ 1048576) : Ev (fun _ => slices_Clone.f l) l := ⟨0, fun _ _ => by unfold slices_Clone.f; rw [if_pos (by omega)]⟩
def UcE (n : Nat) : Prop := ∀ x : S33, SqE n x → Ev (fun k => uE k x.f3 x.f4 x.f5) ()
def UcD (n : Nat) : Prop := ∀ l : List S68, LD n l → Ev (fun k => uD k l) ()
theorem u_all : ∀ n, UcE n ∧ UcD n
  | 0 => ⟨fun _ h => by simp [SqE] at h, fun l h => by
      obtain rfl := ld_zero h
      refine Ev.succ ?_
      simp only [uD]
      refine Ev.succ ?_
      simp only [uD0]
      exact Ev.neg (by simp) (Ev.const _)⟩
  | n + 1 => by
    obtain ⟨hE, hD⟩ := u_all n
    refine ⟨fun x h => ?_, fun l h => ?_⟩
    · simp only [SqE] at h
      obtain ⟨h3, h4, h5⟩ := h
      have h3l := h3.1
      have h5l := h5.1
      have e5 := app_gen x.f5 (fun k i => uM1 k x.f5 (i : Int) i) () (fun i hi hr => ?_) ?_ x.f5.length 0 (by omega)
      · have e3 := app_gen x.f3 (fun k i => uM0 k x.f3 x.f4 x.f5 (i : Int) i) () (fun i hi hr => ?_) ?_ x.f3.length 0 (by omega)
        · refine Ev.succ ?_
          simp only [uE]
          refine Ev.succ ?_
          simp only [uM]
          exact e3
        · refine Ev.succ ?_
          simp only [uM0, rd33 _ i hi, wrap_succ (by omega : i < 9223372036854775807)]
          exact Ev.pos (by omega) (Ev.pos (by omega) (Ev.pos (by omega) (Ev.bind (hE _ (h3.2 _ (List.getElem_mem hi))) (Ev.pos (by omega) hr))))
        · refine Ev.succ ?_
          simp only [uM0]
          exact Ev.neg (by omega) (Ev.bind (hD _ h4) e5)
      · refine Ev.succ ?_
        have hs := h5.2 _ (List.getElem_mem hi)
        simp only [uM1, rd53 _ i hi, wrap_succ (by omega : i < 9223372036854775807)]
        cases n with
        | zero => exact absurd hs (by simp [SqA])
        | succ n =>
          simp only [SqA] at hs
          exact Ev.pos (by omega) (Ev.pos (by omega) (Ev.pos (by omega) (Ev.bind (clone_ev _ hs.1) (Ev.bind ((u_all n).1 _ hs.2) (Ev.pos (by omega) hr)))))
      · refine Ev.succ ?_
        simp only [uM1]
        exact Ev.neg (by omega) (Ev.const _)
    · refine Ev.succ ?_
      simp only [uD]
      have hl := h.1
      refine app_gen l (fun k i => uD0 k l (i : Int) i) () (fun i hi hr => ?_) ?_ l.length 0 (by omega)
      · refine Ev.succ ?_
        have hs := h.2 _ (List.getElem_mem hi)
        simp only [SqD] at hs
        simp only [uD0, rd68 _ i hi, wrap_succ (by omega : i < 9223372036854775807)]
        exact Ev.pos (by omega) (Ev.pos (by omega) (Ev.pos (by omega) (Ev.bind (clone_ev _ hs.1) (Ev.bind (hE _ hs.2.1) (Ev.bind (hD _ hs.2.2) (Ev.pos (by omega) hr))))))
      · refine Ev.succ ?_
        simp only [uD0]
        exact Ev.neg (by omega) (Ev.const _)
end Go.Proofs.Ytpndcfibjjkgcaa.PIfg

/- FnExactIfs in plain Lean: for enough rounds it answers true. Both countings come to the sum over the whole expression, as a 64-bit number. No condition. -/
import Derived.Test.YtpndcfibjjkgcaaPIfgx8
import Derived.Test.YtpndcfibjjkgcaaPureBaseI
namespace Go.Proofs.Ytpndcfibjjkgcaa.PIfg
open Go Go.RowKit Go.Proofs.Ytpndcfibjjkgcaa.MyOpen Go.Proofs.YtpndcfibjjkgcaaW.PrintWords Go.Proofs.Ytpndcfibjjkgcaa.MyCnt Go.Proofs.Ytpndcfibjjkgcaa.MyClone
set_option linter.unusedVariables false
def sumOf {α : Type} (c : α → Int) : List α → Int
  | [] => 0
  | x :: l => c x + sumOf c l
mutual
def nE : Nat → S33 → Int
  | 0, _ => 0
  | n + 1, x => (if x.f0 = 8 then 1 else 0) + sumOf (nE n) x.f3 + sumOf (nD n) x.f4 + sumOf (nA n) x.f5
def nD : Nat → S68 → Int
  | 0, _ => 0
  | n + 1, x => nE n x.f2 + sumOf (nD n) x.f3
def nA : Nat → S53 → Int
  | 0, _ => 0
  | n + 1, x => nE n x.f2
end
theorem wrap_add (x y : Int) : wrap64 (wrap64 x + wrap64 y) = wrap64 (x + y) := by unfold wrap64; omega
theorem wrap_add3 (x y z : Int) : wrap64 (wrap64 (wrap64 x + wrap64 y) + wrap64 z) = wrap64 (x + (y + z)) := by unfold wrap64; omega
theorem wrap_1 : wrap64 1 = 1 := by unfold wrap64; omega
theorem wrap_0 : wrap64 0 = 0 := by unfold wrap64; omega
/-- A loop that adds up: what one round does, and what comes behind the last. -/
theorem loop_gen {α : Type} (l : List α) (c : α → Int) (L : Nat → Int → Nat → Option Int) (R : Int → Int)
    (hstep : ∀ (i : Nat) (h : i < l.length) (y r : Int), Ev (fun k => L k (wrap64 (y + c l[i])) (i + 1)) r → Ev (fun k => L k (wrap64 y) i) r)
    (hend : ∀ y, Ev (fun k => L k (wrap64 y) l.length) (wrap64 (R y))) : ∀ (d i : Nat) (y : Int), i + d = l.length → Ev (fun k => L k (wrap64 y) i) (wrap64 (R (y + sumOf c (l.drop i)))) := by
  intro d
  induction d with
  | zero =>
    intro i y hi
    obtain rfl : i = l.length := by omega
    rw [List.drop_length]
    simpa [sumOf] using hend y
  | succ d ih =>
    intro i y hi
    have hb : i < l.length := by omega
    rw [List.drop_eq_getElem_cons hb, sumOf, ← Int.add_assoc]
    exact hstep i hb y _ (ih (i + 1) _ (by omega))
/-! #### the given counting -/
def SpE (n : Nat) : Prop := ∀ x : S33, SqE n x → Ev (fun k => spec_Ifs.f k x.f0 x.f1 x.f2 x.f3 x.f4 x.f5) (wrap64 (nE n x))
def SpD (n : Nat) : Prop := ∀ l : List S68, (l.length ≤ 1048576 ∧ ∀ y ∈ l, SqD n y) → Ev (fun k => spec_l21Decs.f k l) (wrap64 (sumOf (nD n) l))
theorem sp_all : ∀ n, SpE n ∧ SpD n
  | 0 => ⟨fun _ h => by simp [SqE] at h, fun l h => by
      obtain rfl : l = [] := by
        cases l with
        | nil => rfl
        | cons x l => exact absurd (h.2 x List.mem_cons_self) (by simp [SqD])
      refine Ev.succ ?_
      simp only [spec_l21Decs.f]
      refine Ev.succ ?_
      simp only [spec_l21Decs.l0]
      refine Ev.neg (by simp) ?_
      simp only [sumOf, wrap_0]
      exact Ev.const _⟩
  | n + 1 => by
    obtain ⟨hE, hD⟩ := sp_all n
    refine ⟨fun x h => ?_, fun l h => ?_⟩
    · simp only [SqE] at h
      obtain ⟨h3, h4, h5⟩ := h
      have hl1 : ∀ y : Int, Ev (fun k => spec_Ifs.l1 k (wrap64 y) 0 x.f0 x.f1 x.f2 x.f3 x.f4 x.f5) (wrap64 (y + sumOf (nA n) x.f5 + sumOf (nD n) x.f4)) := by
        intro y
        refine loop_gen x.f5 (nA n) (fun k a i => spec_Ifs.l1 k a (i : Int) x.f0 x.f1 x.f2 x.f3 x.f4 x.f5) (fun y => y + sumOf (nD n) x.f4) (fun i hi y r hr => ?_) (fun y => ?_) x.f5.length 0 y (by omega)
        · refine Ev.succ ?_
          simp only [spec_Ifs.l1, rd53 _ i hi, wrap_succ (by omega : i < 9223372036854775807)]
          have hs := h5.2 _ (List.getElem_mem hi)
          cases n with
          | zero => exact absurd hs (by simp [SqA])
          | succ n =>
            simp only [SqA] at hs
            refine Ev.pos (by omega) (Ev.pos (by omega) (Ev.bind (a := wrap64 (nA (n + 1) x.f5[i])) ?_ ?_))
            · simp only [nA]
              exact (sp_all n).1 _ hs.2
            · rw [wrap_add]
              exact hr
        · refine Ev.succ ?_
          simp only [spec_Ifs.l1]
          refine Ev.neg (by omega) (Ev.bind (hD _ h4) ?_)
          rw [wrap_add]
          exact Ev.const _
      have hl0 : ∀ y : Int, Ev (fun k => spec_Ifs.l0 k (wrap64 y) 0 x.f0 x.f1 x.f2 x.f3 x.f4 x.f5) (wrap64 (y + sumOf (nE n) x.f3 + sumOf (nA n) x.f5 + sumOf (nD n) x.f4)) := by
        intro y
        refine loop_gen x.f3 (nE n) (fun k a i => spec_Ifs.l0 k a (i : Int) x.f0 x.f1 x.f2 x.f3 x.f4 x.f5) (fun y => y + sumOf (nA n) x.f5 + sumOf (nD n) x.f4) (fun i hi y r hr => ?_) (fun y => ?_) x.f3.length 0 y (by omega)
        · refine Ev.succ ?_
          simp only [spec_Ifs.l0, rd33 _ i hi, wrap_succ (by omega : i < 9223372036854775807)]
          refine Ev.pos (by omega) (Ev.pos (by omega) (Ev.bind (hE _ (h3.2 _ (List.getElem_mem hi))) ?_))
          rw [wrap_add]
          exact hr
        · refine Ev.succ ?_
          simp only [spec_Ifs.l0]
          exact Ev.neg (by omega) (hl1 y)
      refine Ev.succ ?_
      simp only [spec_Ifs.f, nE]
      by_cases c : x.f0 = 8
      · refine Ev.pos c (Ev.succ ?_)
        simp only [spec_Ifs.j0]
        rw [if_pos c]
        have := hl0 1
        rw [wrap_1] at this
        rw [show (1 : Int) + sumOf (nE n) x.f3 + sumOf (nD n) x.f4 + sumOf (nA n) x.f5 = 1 + sumOf (nE n) x.f3 + sumOf (nA n) x.f5 + sumOf (nD n) x.f4 by omega]
        exact this
      · refine Ev.neg c (Ev.succ ?_)
        simp only [spec_Ifs.j0]
        rw [if_neg c]
        have := hl0 0
        rw [wrap_0] at this
        rw [show (0 : Int) + sumOf (nE n) x.f3 + sumOf (nD n) x.f4 + sumOf (nA n) x.f5 = 0 + sumOf (nE n) x.f3 + sumOf (nA n) x.f5 + sumOf (nD n) x.f4 by omega]
        exact this
    · refine Ev.succ ?_
      simp only [spec_l21Decs.f]
      have := loop_gen l (nD (n + 1)) (fun k a i => spec_l21Decs.l0 k l a (i : Int)) (fun y => y) (fun i hi y r hr => ?_) (fun y => ?_) l.length 0 0 (by omega)
      · rw [List.drop_zero, Int.zero_add, wrap_0] at this
        exact this
      · refine Ev.succ ?_
        simp only [spec_l21Decs.l0, rd68 _ i hi, wrap_succ (by omega : i < 9223372036854775807)]
        have hs := h.2 _ (List.getElem_mem hi)
        simp only [SqD] at hs
        refine Ev.pos (by omega) (Ev.pos (by omega) (Ev.bind (hE _ hs.2.1) (Ev.bind (hD _ hs.2.2) ?_)))
        rw [wrap_add3]
        simp only [nD] at hr
        exact hr
      · refine Ev.succ ?_
        simp only [spec_l21Decs.l0]
        exact Ev.neg (by omega) (Ev.const _)
/-! #### the program's -/
def CnE (n : Nat) : Prop := ∀ x : S33, SqE n x → Ev (fun k => cE k x.f0 x.f3 x.f4 x.f5) (wrap64 (nE n x))
def CnD (n : Nat) : Prop := ∀ l : List S68, (l.length ≤ 1048576 ∧ ∀ y ∈ l, SqD n y) → ∀ y, Ev (fun k => cD k l (wrap64 y)) (wrap64 (y + sumOf (nD n) l))
theorem cL_of {n : Nat} (hE : CnE n) (x : S33) (hx : SqE n x) (y : Int) : Ev (fun k => cL k x.f0 x.f3 x.f4 x.f5 (wrap64 y)) (wrap64 (y + nE n x)) := by
  refine Ev.succ ?_
  simp only [cL]
  refine Ev.bind (hE x hx) ?_
  rw [wrap_add]
  exact Ev.const _
theorem clone_ev (l : List ByteArray) (h : l.length ≤ 1048576) : Ev (fun _ => slices_Clone.f l) l := ⟨0, fun _ _ => by unfold slices_Clone.f; rw [if_pos (by omega)]⟩
theorem rep_snoc (i : Nat) : List.replicate i () ++ [()] = List.replicate (i + 1) () := List.replicate_succ'.symm
theorem cn_all : ∀ n, CnE n ∧ CnD n
  | 0 => ⟨fun _ h => by simp [SqE] at h, fun l h y => by
      obtain rfl : l = [] := by
        cases l with
        | nil => rfl
        | cons x l => exact absurd (h.2 x List.mem_cons_self) (by simp [SqD])
      refine Ev.succ ?_
      simp only [cD]
      refine Ev.succ ?_
      simp only [cD0, sumOf, Int.add_zero]
      exact Ev.neg (by simp) (Ev.const _)⟩
  | n + 1 => by
    obtain ⟨hE, hD⟩ := cn_all n
    refine ⟨fun x h => ?_, fun l h y => ?_⟩
    · simp only [SqE] at h
      obtain ⟨h3, h4, h5⟩ := h
      have hl1 : ∀ y : Int, Ev (fun k => cM1 k x.f5 0 [] (wrap64 y)) (wrap64 (y + sumOf (nA n) x.f5)) := by
        intro y
        refine loop_gen x.f5 (nA n) (fun k a i => cM1 k x.f5 (i : Int) (List.replicate i ()) a) (fun y => y) (fun i hi y r hr => ?_) (fun y => ?_) x.f5.length 0 y (by omega)
        · refine Ev.succ ?_
          simp only [cM1, rd53 _ i hi, wrap_succ (by omega : i < 9223372036854775807)]
          have hs := h5.2 _ (List.getElem_mem hi)
          cases n with
          | zero => exact absurd hs (by simp [SqA])
          | succ n =>
            simp only [SqA] at hs
            refine Ev.pos (by omega) (Ev.pos (by omega) (Ev.pos (by omega) (Ev.bind (clone_ev _ hs.1) (Ev.bind (a := wrap64 (y + nA (n + 1) x.f5[i])) ?_ (Ev.pos (by rw [List.length_replicate]; omega) ?_)))))
            · simp only [nA]
              exact cL_of (cn_all n).1 _ hs.2 y
            · rw [rep_snoc]
              exact hr
        · refine Ev.succ ?_
          simp only [cM1]
          exact Ev.neg (by omega) (Ev.const _)
      have hl0 : ∀ y : Int, Ev (fun k => cM0 k x.f3 x.f4 x.f5 0 [] (wrap64 y)) (wrap64 (y + sumOf (nE n) x.f3 + sumOf (nD n) x.f4 + sumOf (nA n) x.f5)) := by
        intro y
        refine loop_gen x.f3 (nE n) (fun k a i => cM0 k x.f3 x.f4 x.f5 (i : Int) (List.replicate i ()) a) (fun y => y + sumOf (nD n) x.f4 + sumOf (nA n) x.f5) (fun i hi y r hr => ?_) (fun y => ?_) x.f3.length 0 y (by omega)
        · refine Ev.succ ?_
          simp only [cM0, rd33 _ i hi, wrap_succ (by omega : i < 9223372036854775807)]
          refine Ev.pos (by omega) (Ev.pos (by omega) (Ev.pos (by omega) (Ev.bind (cL_of hE _ (h3.2 _ (List.getElem_mem hi)) y) (Ev.pos (by rw [List.length_replicate]; omega) ?_))))
          rw [rep_snoc]
          exact hr
        · refine Ev.succ ?_
          simp only [cM0]
          exact Ev.neg (by omega) (Ev.bind (hD _ h4 y) (hl1 _))
      refine Ev.succ ?_
      simp only [cE, nE]
      by_cases c : x.f0 = 8
      · refine Ev.pos c (Ev.succ ?_)
        simp only [cM]
        rw [if_pos c]
        have := hl0 1
        rw [wrap_1] at this
        exact this
      · refine Ev.neg c (Ev.succ ?_)
        simp only [cM]
        rw [if_neg c]
        have := hl0 0
        rw [wrap_0] at this
        exact this
    · refine Ev.succ ?_
      simp only [cD]
      have := loop_gen l (nD (n + 1)) (fun k a i => cD0 k l (i : Int) (List.replicate i ()) a) (fun y => y) (fun i hi y r hr => ?_) (fun y => ?_) l.length 0 y (by omega)
      · rw [List.drop_zero] at this
        exact this
      · refine Ev.succ ?_
        simp only [cD0, rd68 _ i hi, wrap_succ (by omega : i < 9223372036854775807)]
        have hs := h.2 _ (List.getElem_mem hi)
        simp only [SqD] at hs
        refine Ev.pos (by omega) (Ev.pos (by omega) (Ev.pos (by omega) (Ev.bind (clone_ev _ hs.1) (Ev.bind (cL_of hE _ hs.2.1 y) (Ev.bind (hD _ hs.2.2 _) (Ev.pos (by rw [List.length_replicate]; omega) ?_))))))
        rw [rep_snoc, Int.add_assoc]
        simp only [nD] at hr
        exact hr
      · refine Ev.succ ?_
        simp only [cD0]
        exact Ev.neg (by omega) (Ev.const _)
theorem law_Ifs (x : S26) (hx : ∃ n, FitE n x) : Ev (fun k => laws_FnExactIfs.f k x.f0 x.f1 x.f2 x.f3 x.f4 x.f5) true := by
  obtain ⟨n, hn⟩ := hx
  obtain ⟨r, hr, _, _, hS⟩ := (sz_all n).1 x hn 1048576 (by omega) (by omega)
  simp only [laws_FnExactIfs.f]
  refine Ev.bind hr ?_
  by_cases h : r < 0
  · exact Ev.pos h (Ev.const _)
  · refine Ev.neg h ?_
    have hs := hS (by omega)
    have ht := (to_all n).1 x hs
    have hq := (sq_all n).1 x hs
    have he := (eq_all n).1 _ hq
    exact Ev.bind ht (Ev.bind ((sp_all n).1 _ hq) (Ev.bind ht (Ev.bind (f := fun k t => if t = _ then _ else _) ((cn_all n).1 _ hq) (Ev.pos (by trivial) (Ev.bind ht (Ev.bind he (Ev.pos (by trivial) (Ev.const _))))))))
end Go.Proofs.Ytpndcfibjjkgcaa.PIfg
namespace Go.Proofs.Ytpndcfibjjkgcaa.Pure
open Go.Proofs.Ytpndcfibjjkgcaa.PIfg
theorem FnExactIfs (x : S26) (hx : ∃ n, FitE n x) : ∃ k, laws_FnExactIfs.f k x.f0 x.f1 x.f2 x.f3 x.f4 x.f5 = some true := by
  obtain ⟨K, h⟩ := law_Ifs x hx
  exact ⟨K, h K (Nat.le_refl _)⟩
end Go.Proofs.Ytpndcfibjjkgcaa.Pure

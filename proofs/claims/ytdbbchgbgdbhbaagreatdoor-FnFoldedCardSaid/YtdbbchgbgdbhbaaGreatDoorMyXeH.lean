/- The law, called on any code, tells true and leaves what stood there. Condition: the code can be read. -/
import Derived.Test.YtdbbchgbgdbhbaaGreatDoorMyXeG
import Derived.Test.YtdbbchgbgdbhbaaGreatDoorMyXeK0
import Derived.Test.YtdbbchgbgdbhbaaGreatDoorMyXeK1
set_option linter.unusedVariables false
set_option linter.unusedSimpArgs false
namespace Go.Proofs.YtdbbchgbgdbhbaaGreatDoor.Xe
open Go Go.RowKit Go.Proofs.YtdbbchgbgdbhbaaGreatDoor.PSpo Go.Proofs.YtdbbchgbgdbhbaaGreatDoor.PAt Go.Proofs.YtdbbchgbgdbhbaaGreatDoorW.PrintWords Go.Proofs.YtdbbchgbgdbhbaaGreatDoorW.PrintLast
open Go.Proofs.YtdbbchgbgdbhbaaGreatDoor.Pure (bs Ev Num OpL dg textL tokL)

/-- What the exact run tells is so. -/
theorem run_calls {γ : Gs} {cx : Cx} {bs : Base} {W : World} {x : Value} (H : CxOk Tryz.prog γ cx) (HB : BaseOk Tryz.prog γ (gh W) bs) (hx : γ.x 0 = x) (h : isTrue (callF Tryz.prog cx bs 60 3 [.c (.x 0)] .e 0) = true) :
    Calls Tryz.prog 3 #[x] W fun e w' => e = .returned (.bool true) ∧ Below W.heap.size W w' := by
  cases hc : callF Tryz.prog cx bs 60 3 [.c (.x 0)] .e 0 with
  | none => rw [hc] at h; simp [isTrue] at h
  | some ans =>
    rw [hc] at h
    simp only [isTrue] at h
    split at h
    · rename_i hv
      have hn : ∀ id, (Tr.e : Hp).get id = none := fun id => rfl
      have W0 : WOk γ (gh W) (fun _ => none) (Tr.e : Hp).get W := ⟨Below.refl _ _, Nat.le_refl _, fun id blk h => (by rw [hn] at h; cases h), fun id id' b b' bk sz sz' h => (by rw [hn] at h; cases h)⟩
      have := (callF_ok H HB 60).calls 3 [.c (.x 0)] .e 0 ans hc (fun _ => none) W [x] W0 (fun id _ => hn id) (fun _ _ _ => rfl) (VL.cons (VV.c_iff.2 (by simp only [CV]; exact hx.symm)) VL.nil)
      refine this.mono fun e w' he => ?_
      obtain ⟨y, β', rfl, h1, -, h3⟩ := he
      rw [hv] at h3
      have h3 := VV.c_iff.1 h3
      simp only [CV] at h3
      subst h3
      exact ⟨rfl, h1.j⟩
    · cases h

def bigBase : Base := fun f args nx =>
  match f with
  | 4 => match args with | [.c (.x 0)] => some (.c (.b true), []) | _ => none
  | _ => none

theorem run_big : isTrue (callF Tryz.prog (theCx 0 []) bigBase 60 3 [.c (.x 0)] .e 0) = true := by kernel_rfl

section
variable {l0 : List Int} {A0 : Option Addr} {c0 : Nat} {w0 : World}

theorem big_calls (hr : Kd.C (Kd.int .u8) w0 A0 l0.length l0) (hc0 : l0.length ≤ c0) (hbig : ¬ l0.length ≤ 1048576) : Calls Tryz.prog 3 #[.slice A0 l0.length c0] w0 fun e w' => e = .returned (.bool true) ∧ Below w0.heap.size w0 w' := by
  let γ : Gs := { i := fun _ => 0, s := fun _ => bs [], x := fun _ => .slice A0 l0.length c0, small := fun _ => by rw [Pure.bs_size]; simp, one := fun _ => ⟨rfl, rfl⟩ }
  have H : CxOk Tryz.prog γ (theCx 0 []) := by
    refine cx_ok types_chk fns_chk mixed (fun o a b r h => ?_) (fun a n h => ?_)
    · simp only [theCx, List.append_nil, List.mem_cons, List.not_mem_nil, or_false, Prod.mk.injEq] at h
      have hA : EA.ev γ = 0 := rfl
      have hB : EB.ev γ = 0 := rfl
      rcases h with ⟨rfl, rfl, rfl, rfl⟩ | ⟨rfl, rfl, rfl, rfl⟩ | ⟨rfl, rfl, rfl, rfl⟩ | ⟨rfl, rfl, rfl, rfl⟩ <;> simp only [litCmp, hA, hB, IE.ev] <;> decide
    · simp only [theCx, List.mem_cons, List.not_mem_nil, or_false, Prod.mk.injEq] at h
      obtain ⟨rfl, rfl⟩ := h
      rfl
  refine run_calls (γ := γ) (bs := bigBase) H ⟨fun f args nx v l h => ?_, fun f args nx v l h hp β w xs W hs hf hx => ?_⟩ rfl run_big
  · unfold bigBase at h
    split at h
    · exact ⟨_, Tryz.func4, by kernel_rfl⟩
    · cases h
  · have hJ : Below w0.heap.size w0 w := W.j
    unfold bigBase at h
    split at h
    · split at h
      · cases h
        match xs, hx with
        | [p], hx =>
          have hp := VV.c_iff.1 hx.cons_inv.1
          simp only [CV] at hp
          subst hp
          refine (laws_big.calls A0 c0 l0 true w (Kd.C_below hr hJ) hc0 (by unfold laws_big.f; rw [decide_eq_true (by omega)])).mono fun e w' he => ⟨.bool true, β, he.1, W.below he.2.below, Mv.below he.2.below, VV.c_iff.2 (by simp [CV])⟩
        | [], hx => simp only [VL] at hx
        | _ :: _ :: _, hx => have := hx.length; simp at this
      · cases h
    · cases h


/-- The numbers' facts. -/
theorem cx_facts (hl : l0.length ≤ 1048576) (hw : ∀ x ∈ l0, (Lit.int .u8 x).wf = true) {op : List UInt8} {k : Int} (hk : (atV l0 4).tmod 5 = k) {fs : List (BinOp × IE × IE × Bool)} (hfs : ∀ o a b r, (o, a, b, r) ∈ fs → litCmp o (a.ev (theGs l0 A0 c0 op)) (b.ev (theGs l0 A0 c0 op)) = some r) : CxOk Tryz.prog (theGs l0 A0 c0 op) (theCx k fs) := by
  have hV := va_lt hl hw
  have hA := EA_ev (A0 := A0) (c0 := c0) (op := op) hl hw
  have hB := EB_ev (A0 := A0) (c0 := c0) (op := op) hl hw
  refine cx_ok types_chk fns_chk mixed (fun o a b r h => ?_) (fun a n h => ?_)
  · simp only [theCx, List.mem_append] at h
    rcases h with h | h
    · simp only [List.mem_cons, List.not_mem_nil, or_false, Prod.mk.injEq] at h
      have l0' : ∀ (γ : Gs) (n : Int), IE.ev γ (.lit n) = n := fun _ _ => rfl
      rcases h with ⟨rfl, rfl, rfl, rfl⟩ | ⟨rfl, rfl, rfl, rfl⟩ | ⟨rfl, rfl, rfl, rfl⟩ | ⟨rfl, rfl, rfl, rfl⟩ <;> simp only [litCmp, hA, hB, l0'] <;> exact congrArg some (decide_eq_true (by omega))
    · exact hfs o a b r h
  · simp only [theCx, List.mem_cons, List.not_mem_nil, or_false, Prod.mk.injEq] at h
    obtain ⟨rfl, rfl⟩ := h
    exact hk

theorem one_calls (hl : l0.length ≤ 1048576) (hw : ∀ x ∈ l0, (Lit.int .u8 x).wf = true) (hr : Kd.C (Kd.int .u8) w0 A0 l0.length l0) (hc0 : l0.length ≤ c0) {op : List Nat} (hop : OpL (opB op)) {k : Int} (hk : (atV l0 4).tmod 5 = k) {fs : List (BinOp × IE × IE × Bool)} (hrun : lawRun Tryz.prog k op fs = true)
    (hfs : ∀ o a b r, (o, a, b, r) ∈ fs → litCmp o (a.ev (theGs l0 A0 c0 (opB op))) (b.ev (theGs l0 A0 c0 (opB op))) = some r) : Calls Tryz.prog 3 #[.slice A0 l0.length c0] w0 fun e w' => e = .returned (.bool true) ∧ Below w0.heap.size w0 w' :=
  run_calls (cx_facts hl hw hk hfs) (base_ok hl hw hr hc0 hop) rfl hrun

theorem wrap_of {n : Int} (h1 : -9223372036854775808 ≤ n) (h2 : n ≤ 9223372036854775807) : IntKind.i64.wrap n = n := by
  simp [IntKind.wrap, IntKind.signed, IntKind.bits]
  omega

theorem small_calls (hl : l0.length ≤ 1048576) (hw : ∀ x ∈ l0, (Lit.int .u8 x).wf = true) (hr : Kd.C (Kd.int .u8) w0 A0 l0.length l0) (hc0 : l0.length ≤ c0) : Calls Tryz.prog 3 #[.slice A0 l0.length c0] w0 fun e w' => e = .returned (.bool true) ∧ Below w0.heap.size w0 w' := by
  have hV := va_lt hl hw
  have h4 := at_range l0 hl hw 4 (by decide)
  have hm : (atV l0 4).tmod 5 = 0 ∨ (atV l0 4).tmod 5 = 1 ∨ (atV l0 4).tmod 5 = 2 ∨ (atV l0 4).tmod 5 = 3 ∨ (atV l0 4).tmod 5 = 4 := by
    rw [Int.tmod_eq_emod_of_nonneg h4.1]
    omega
  have ev : ∀ (op : List UInt8) (o : BinOp), (ER o).ev (theGs l0 A0 c0 op) = (IE.ev (theGs l0 A0 c0 op) (.ar o .i64 EA EB)).tmod 1000000 := fun _ _ => rfl
  have one : ∀ {o : BinOp} {a b : IE} {r : Bool} {γ : Gs}, litCmp o (a.ev γ) (b.ev γ) = some r → ∀ o' a' b' r', (o', a', b', r') ∈ [(o, a, b, r)] → litCmp o' (a'.ev γ) (b'.ev γ) = some r' := fun h o' a' b' r' hm => by
    simp only [List.mem_cons, List.not_mem_nil, or_false, Prod.mk.injEq] at hm
    obtain ⟨rfl, rfl, rfl, rfl⟩ := hm
    exact h
  have zero : ∀ γ : Gs, IE.ev γ (.lit 0) = 0 := fun _ => rfl
  rcases hm with hk | hk | hk | hk | hk
  · refine one_calls hl hw hr hc0 (op := [43]) (.inl rfl) hk run_add (one ?_)
    rw [ev, zero]
    have e : IE.ev (theGs l0 A0 c0 (opB [43])) (.ar .add .i64 EA EB) = IntKind.i64.wrap (EA.ev (theGs l0 A0 c0 (opB [43])) + EB.ev (theGs l0 A0 c0 (opB [43]))) := rfl
    rw [e, EA_ev hl hw, EB_ev hl hw, wrap_of (by omega) (by omega), Int.tmod_eq_emod_of_nonneg (by omega)]
    simp only [litCmp]
    exact congrArg some (decide_eq_true (by omega))
  · by_cases hs : 0 ≤ (ER .sub).ev (theGs l0 A0 c0 (opB [45]))
    · refine one_calls hl hw hr hc0 (op := [45]) (.inr (.inl rfl)) hk run_sub0 (one ?_)
      rw [zero]
      simp only [litCmp]
      exact congrArg some (decide_eq_true hs)
    · refine one_calls hl hw hr hc0 (op := [45]) (.inr (.inl rfl)) hk run_sub1 (fun o a b r h => ?_)
      simp only [List.mem_cons, List.not_mem_nil, or_false, Prod.mk.injEq] at h
      rcases h with ⟨rfl, rfl, rfl, rfl⟩ | ⟨rfl, rfl, rfl, rfl⟩
      · rw [zero]
        simp only [litCmp]
        exact congrArg some (decide_eq_false hs)
      · rw [zero]
        simp only [litCmp]
        exact congrArg some (decide_eq_true (by omega))
  · refine one_calls hl hw hr hc0 (op := [42]) (.inr (.inr (.inl rfl))) hk run_mul (one ?_)
    rw [ev, zero]
    have e : IE.ev (theGs l0 A0 c0 (opB [42])) (.ar .mul .i64 EA EB) = IntKind.i64.wrap (EA.ev (theGs l0 A0 c0 (opB [42])) * EB.ev (theGs l0 A0 c0 (opB [42]))) := rfl
    have hmul : va l0 * vb l0 ≤ 76500 * 2805 := Nat.mul_le_mul hV.1 hV.2.1
    have hmi : (va l0 : Int) * (vb l0 : Int) = ((va l0 * vb l0 : Nat) : Int) := by simp
    rw [e, EA_ev hl hw, EB_ev hl hw, hmi, wrap_of (by omega) (by omega), Int.tmod_eq_emod_of_nonneg (by omega)]
    simp only [litCmp]
    exact congrArg some (decide_eq_true (by omega))
  · by_cases he : va l0 = vb l0
    · refine one_calls hl hw hr hc0 (op := [61, 61]) (.inr (.inr (.inr (.inl rfl)))) hk run_eq1 (one ?_)
      rw [EA_ev hl hw, EB_ev hl hw, he]
      simp only [litCmp]
      rw [eqZ_self]
    · refine one_calls hl hw hr hc0 (op := [61, 61]) (.inr (.inr (.inr (.inl rfl)))) hk run_eq0 (one ?_)
      rw [EA_ev hl hw, EB_ev hl hw]
      simp only [litCmp]
      congr 1
      cases hq : eqZ (va l0 : Int) (vb l0 : Int) with
      | true => exact absurd (by have := eqZ_iff.1 hq; omega) he
      | false => rfl
  · by_cases he : va l0 < vb l0
    · refine one_calls hl hw hr hc0 (op := [60]) (.inr (.inr (.inr (.inr rfl)))) hk run_lt1 (one ?_)
      rw [EA_ev hl hw, EB_ev hl hw]
      simp only [litCmp]
      exact congrArg some (decide_eq_true (by omega))
    · refine one_calls hl hw hr hc0 (op := [60]) (.inr (.inr (.inr (.inr rfl)))) hk run_lt0 (one ?_)
      rw [EA_ev hl hw, EB_ev hl hw]
      simp only [litCmp]
      exact congrArg some (decide_eq_false (by omega))
end

/-- The law. -/
theorem law_calls (A0 : Option Addr) (c0 : Nat) (l0 : List Int) (w : World) (hr : Kd.C (Kd.int .u8) w A0 l0.length l0) (hc0 : l0.length ≤ c0) (hw : ∀ x ∈ l0, (Lit.int .u8 x).wf = true) :
    Calls Tryz.prog 3 #[.slice A0 l0.length c0] w fun e w' => e = .returned (.bool true) ∧ Below w.heap.size w w' := by
  by_cases hl : l0.length ≤ 1048576
  · exact small_calls hl hw hr hc0
  · exact big_calls hr hc0 hl
end Go.Proofs.YtdbbchgbgdbhbaaGreatDoor.Xe

/- What the exact run's values mean; more names, no less. No condition. -/
import Derived.Test.YtdbbchgbgdbhbaaGreatDoorMyXe
import Derived.Room.AppendUpon
import Derived.Great.BuildSlice
import Derived.Laws.Rows
import Derived.Laws.CopyRow
import Derived.Orders
import Derived.Laws.Strings
import Derived.Laws.BytesString
set_option linter.unusedVariables false
set_option linter.unusedSimpArgs false
namespace Go.Proofs.YtdbbchgbgdbhbaaGreatDoor.Xe
open Go

/-- The ghosts. -/
structure Gs where
  i : Nat → Int
  s : Nat → ByteArray
  x : Nat → Value
  small : ∀ n, (s n).size ≤ 100
  one : ∀ n, (x n).oneCell' = true ∧ (x n).cells = #[x n]

def IE.ev (γ : Gs) : IE → Int
  | .lit n => n
  | .g i => γ.i i
  | .ar op k a b =>
    match op with
    | .add => k.wrap (a.ev γ + b.ev γ)
    | .sub => k.wrap (a.ev γ - b.ev γ)
    | .mul => k.wrap (a.ev γ * b.ev γ)
    | .rem => (a.ev γ).tmod (b.ev γ)
    | _ => 0

def litS (l : List Nat) : ByteArray := ⟨(l.map UInt8.ofNat).toArray⟩

def SE.ev (γ : Gs) : SE → ByteArray
  | .lit l => litS l
  | .g i => γ.s i
  | .cat a b => a.ev γ ++ b.ev γ

/-- Names: which block, how many cells it has. -/
abbrev Bm := Nat → Option (Nat × Nat)

def Ble (β β' : Bm) : Prop := ∀ id x, β id = some x → β' id = some x

theorem Ble.refl (β : Bm) : Ble β β := fun _ _ h => h
theorem Ble.trans {β β' β'' : Bm} (h : Ble β β') (h' : Ble β' β'') : Ble β β'' := fun id x hx => h' id x (h id x hx)

mutual
def CV (γ : Gs) (β : Bm) : C → Value → Prop
  | .i k e, v => v = .int k (e.ev γ)
  | .b b, v => v = .bool b
  | .s e, v => v = .string (e.ev γ)
  | .nilS, v => v = .slice none 0 0
  | .sl id off n w, v => ∃ bk sz cap, β id = some (bk, sz) ∧ v = .slice (some ⟨bk, off, none⟩) n cap ∧ n ≤ cap ∧ off + cap * w = sz
  | .nilP, v => v = .pointer none
  | .p id off, v => ∃ bk sz, β id = some (bk, sz) ∧ v = .pointer (some ⟨bk, off, none⟩)
  | .nilI, v => v = .nilIface
  | .nilF, v => v = .nilFunc
  | .f f cs, v => ∃ caps : Array Value, v = .func (.func f) #[] caps ∧ CL γ β cs caps.toList
  | .x i, v => v = γ.x i
  | .u, _ => False
def CL (γ : Gs) (β : Bm) : List C → List Value → Prop
  | [], [] => True
  | c :: cs, v :: vs => CV γ β c v ∧ CL γ β cs vs
  | _, _ => False
end

mutual
def VV (γ : Gs) (β : Bm) : V → Value → Prop
  | .c x, v => CV γ β x v
  | .agg l, v => ∃ cells : Array Value, v = .agg cells ∧ CL γ β l cells.toList
  | .tup l, v => ∃ vs : Array Value, v = .tuple vs ∧ VL γ β l vs.toList
  | .u, _ => True
def VL (γ : Gs) (β : Bm) : List V → List Value → Prop
  | [], [] => True
  | c :: cs, v :: vs => VV γ β c v ∧ VL γ β cs vs
  | _, _ => False
end

section
variable {γ : Gs} {β β' : Bm}

mutual
theorem CV.up (h : Ble β β') : ∀ {c : C} {v : Value}, CV γ β c v → CV γ β' c v
  | .i k e, _, hv => by simpa only [CV] using hv
  | .b b, _, hv => by simpa only [CV] using hv
  | .s e, _, hv => by simpa only [CV] using hv
  | .nilS, _, hv => by simpa only [CV] using hv
  | .nilP, _, hv => by simpa only [CV] using hv
  | .nilI, _, hv => by simpa only [CV] using hv
  | .nilF, _, hv => by simpa only [CV] using hv
  | .x i, _, hv => by simpa only [CV] using hv
  | .u, _, hv => by simp only [CV] at hv
  | .sl id off n w, _, hv => by
    simp only [CV] at hv ⊢
    obtain ⟨bk, sz, cap, h1, h2⟩ := hv
    exact ⟨bk, sz, cap, h _ _ h1, h2⟩
  | .p id off, _, hv => by
    simp only [CV] at hv ⊢
    obtain ⟨bk, sz, h1, h2⟩ := hv
    exact ⟨bk, sz, h _ _ h1, h2⟩
  | .f f cs, _, hv => by
    simp only [CV] at hv ⊢
    obtain ⟨caps, h1, h2⟩ := hv
    exact ⟨caps, h1, CL.up h h2⟩
theorem CL.up (h : Ble β β') : ∀ {cs : List C} {l : List Value}, CL γ β cs l → CL γ β' cs l
  | [], [], _ => by simp only [CL]
  | [], _ :: _, hv => by simp only [CL] at hv
  | _ :: _, [], hv => by simp only [CL] at hv
  | _ :: _, _ :: _, hv => by
    simp only [CL] at hv ⊢
    exact ⟨CV.up h hv.1, CL.up h hv.2⟩
end

mutual
theorem VV.up (h : Ble β β') : ∀ {c : V} {v : Value}, VV γ β c v → VV γ β' c v
  | .c x, _, hv => by simp only [VV] at hv ⊢; exact hv.up h
  | .agg l, _, hv => by
    simp only [VV] at hv ⊢
    obtain ⟨c, e, hv⟩ := hv
    exact ⟨c, e, hv.up h⟩
  | .tup l, _, hv => by
    simp only [VV] at hv ⊢
    obtain ⟨c, e, hv⟩ := hv
    exact ⟨c, e, VL.up h hv⟩
  | .u, _, _ => by simp only [VV]
theorem VL.up (h : Ble β β') : ∀ {cs : List V} {l : List Value}, VL γ β cs l → VL γ β' cs l
  | [], [], _ => by simp only [VL]
  | [], _ :: _, hv => by simp only [VL] at hv
  | _ :: _, [], hv => by simp only [VL] at hv
  | _ :: _, _ :: _, hv => by
    simp only [VL] at hv ⊢
    exact ⟨VV.up h hv.1, VL.up h hv.2⟩
end

theorem VV.c_iff {x : C} {v : Value} : VV γ β (.c x) v ↔ CV γ β x v := by simp only [VV]
theorem VV.agg_iff {l : List C} {v : Value} : VV γ β (.agg l) v ↔ ∃ cells : Array Value, v = .agg cells ∧ CL γ β l cells.toList := by simp only [VV]
theorem VV.tup_iff {l : List V} {v : Value} : VV γ β (.tup l) v ↔ ∃ vs : Array Value, v = .tuple vs ∧ VL γ β l vs.toList := by simp only [VV]
theorem VV.u (v : Value) : VV γ β .u v := by simp only [VV]
theorem CL.nil : CL γ β [] [] := by simp only [CL]
theorem CL.cons {c : C} {cs : List C} {v : Value} {vs : List Value} (h : CV γ β c v) (h' : CL γ β cs vs) : CL γ β (c :: cs) (v :: vs) := by simp only [CL]; exact ⟨h, h'⟩
theorem CL.cons_inv {c : C} {cs : List C} {v : Value} {vs : List Value} (h : CL γ β (c :: cs) (v :: vs)) : CV γ β c v ∧ CL γ β cs vs := by simpa only [CL] using h
theorem VL.nil : VL γ β [] [] := by simp only [VL]
theorem VL.cons {c : V} {cs : List V} {v : Value} {vs : List Value} (h : VV γ β c v) (h' : VL γ β cs vs) : VL γ β (c :: cs) (v :: vs) := by simp only [VL]; exact ⟨h, h'⟩
theorem VL.cons_inv {c : V} {cs : List V} {v : Value} {vs : List Value} (h : VL γ β (c :: cs) (v :: vs)) : VV γ β c v ∧ VL γ β cs vs := by simpa only [VL] using h

theorem CL.length : ∀ {cs : List C} {l : List Value}, CL γ β cs l → l.length = cs.length
  | [], [], _ => rfl
  | [], _ :: _, h => by simp only [CL] at h
  | _ :: _, [], h => by simp only [CL] at h
  | _ :: _, _ :: _, h => by simp [CL.length h.cons_inv.2]

theorem VL.length : ∀ {cs : List V} {l : List Value}, VL γ β cs l → l.length = cs.length
  | [], [], _ => rfl
  | [], _ :: _, h => by simp only [VL] at h
  | _ :: _, [], h => by simp only [VL] at h
  | _ :: _, _ :: _, h => by simp [VL.length h.cons_inv.2]

theorem CL.append : ∀ {a : List C} {x : List Value} {b : List C} {y : List Value}, CL γ β a x → CL γ β b y → CL γ β (a ++ b) (x ++ y)
  | [], [], _, _, _, h => h
  | [], _ :: _, _, _, h, _ => by simp only [CL] at h
  | _ :: _, [], _, _, h, _ => by simp only [CL] at h
  | _ :: _, _ :: _, _, _, h, h' => CL.cons h.cons_inv.1 (CL.append h.cons_inv.2 h')

theorem VL.append : ∀ {a : List V} {x : List Value} {b : List V} {y : List Value}, VL γ β a x → VL γ β b y → VL γ β (a ++ b) (x ++ y)
  | [], [], _, _, _, h => h
  | [], _ :: _, _, _, h, _ => by simp only [VL] at h
  | _ :: _, [], _, _, h, _ => by simp only [VL] at h
  | _ :: _, _ :: _, _, _, h, h' => VL.cons h.cons_inv.1 (VL.append h.cons_inv.2 h')

theorem VL.ofC : ∀ {a : List C} {x : List Value}, CL γ β a x → VL γ β (a.map .c) x
  | [], [], _ => VL.nil
  | [], _ :: _, h => by simp only [CL] at h
  | _ :: _, [], h => by simp only [CL] at h
  | _ :: _, _ :: _, h => VL.cons (VV.c_iff.2 h.cons_inv.1) (VL.ofC h.cons_inv.2)

theorem CL.take : ∀ {n : Nat} {a : List C} {x : List Value}, CL γ β a x → CL γ β (a.take n) (x.take n)
  | 0, _, _, _ => by simp [CL]
  | n + 1, [], [], h => h
  | n + 1, [], _ :: _, h => by simp only [CL] at h
  | n + 1, _ :: _, [], h => by simp only [CL] at h
  | n + 1, _ :: _, _ :: _, h => CL.cons h.cons_inv.1 (CL.take h.cons_inv.2)

theorem CL.drop : ∀ {n : Nat} {a : List C} {x : List Value}, CL γ β a x → CL γ β (a.drop n) (x.drop n)
  | 0, _, _, h => h
  | n + 1, [], [], h => h
  | n + 1, [], _ :: _, h => by simp only [CL] at h
  | n + 1, _ :: _, [], h => by simp only [CL] at h
  | n + 1, _ :: _, _ :: _, h => by simpa using CL.drop (n := n) h.cons_inv.2

theorem CL.at : ∀ {a : List C} {x : List Value}, CL γ β a x → ∀ {j : Nat} {c : C}, a[j]? = some c → ∃ v, x[j]? = some v ∧ CV γ β c v
  | [], _, _, _, _, h => by simp at h
  | _ :: _, [], h, _, _, _ => by simp only [CL] at h
  | _ :: _, v :: _, h, 0, c, hc => by
    simp only [List.getElem?_cons_zero, Option.some.injEq] at hc
    subst hc
    exact ⟨v, rfl, h.cons_inv.1⟩
  | _ :: _, _ :: _, h, j + 1, c, hc => by simpa using CL.at h.cons_inv.2 (by simpa using hc)

theorem VL.at : ∀ {a : List V} {x : List Value}, VL γ β a x → ∀ {j : Nat} {c : V}, a[j]? = some c → ∃ v, x[j]? = some v ∧ VV γ β c v
  | [], _, _, _, _, h => by simp at h
  | _ :: _, [], h, _, _, _ => by simp only [VL] at h
  | _ :: _, v :: _, h, 0, c, hc => by
    simp only [List.getElem?_cons_zero, Option.some.injEq] at hc
    subst hc
    exact ⟨v, rfl, h.cons_inv.1⟩
  | _ :: _, _ :: _, h, j + 1, c, hc => by simpa using VL.at h.cons_inv.2 (by simpa using hc)

/-- A cell that is known is one cell. -/
theorem CV.cells : ∀ {c : C} {v : Value}, CV γ β c v → v.cells = #[v] ∧ v.oneCell' = true := by
  intro c v h
  cases c <;> simp only [CV] at h
  · subst h; exact ⟨rfl, rfl⟩
  · subst h; exact ⟨rfl, rfl⟩
  · subst h; exact ⟨rfl, rfl⟩
  · subst h; exact ⟨rfl, rfl⟩
  · obtain ⟨_, _, _, _, rfl, _⟩ := h; exact ⟨rfl, rfl⟩
  · subst h; exact ⟨rfl, rfl⟩
  · obtain ⟨_, _, _, rfl⟩ := h; exact ⟨rfl, rfl⟩
  · subst h; exact ⟨rfl, rfl⟩
  · subst h; exact ⟨rfl, rfl⟩
  · obtain ⟨_, rfl, _⟩ := h; exact ⟨rfl, rfl⟩
  · subst h; exact ⟨(γ.one _).2, (γ.one _).1⟩

theorem CL.oneCell : ∀ {cs : List C} {l : List Value}, CL γ β cs l → ∀ v ∈ l, v.oneCell' = true
  | [], [], _, _, hv => by cases hv
  | [], _ :: _, h, _, _ => by simp only [CL] at h
  | _ :: _, [], h, _, _ => by simp only [CL] at h
  | _ :: _, _ :: _, h, v, hv => by
    rcases List.mem_cons.1 hv with rfl | hv
    · exact h.cons_inv.1.cells.2
    · exact h.cons_inv.2.oneCell v hv
end
end Go.Proofs.YtdbbchgbgdbhbaaGreatDoor.Xe

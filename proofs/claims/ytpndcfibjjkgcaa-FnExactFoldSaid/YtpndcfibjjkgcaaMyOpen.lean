/- Opening arguments: what reads as data of a type (a string, a number, a slice, a struct of several fields) is of the kind that the printed contracts ask, and its strings and numbers are of their size. No condition. -/
import Derived.Test.YtpndcfibjjkgcaaWWords
import Derived.DataElems
import Derived.DataReads
import Derived.Deep.Slices
import Derived.Deep.Strs
import Derived.Lib.SmallJoins
import Derived.WideShapes
import Derived.Carry
namespace Go.Proofs.Ytpndcfibjjkgcaa.MyOpen
open Go Go.Proofs.YtpndcfibjjkgcaaW.PrintWords
section
variable {H : Type} {enc : TypeId × Value → H} {P : Program} {w : World}

/-- What reads at this type, with so much fuel, is of this kind, and is so. -/
def OpensAt {α : Type} (enc : TypeId × Value → H) (P : Program) (w : World) (n : Nat) (t : TypeId) (k : Kd α) (Q : α → Prop) : Prop :=
  ∀ cs x, DataW.trod enc P w 0 (fun _ => true) true n t cs = some x → ∃ a, k.K w a cs ∧ Q a
def Opens {α : Type} (enc : TypeId × Value → H) (P : Program) (w : World) (t : TypeId) (k : Kd α) (Q : α → Prop) : Prop := ∀ n, OpensAt enc P w n t k Q

def StrFit (s : ByteArray) : Prop := s.size ≤ 9223372036854775807
def IntFit (k : IntKind) (n : Int) : Prop := (Lit.int k n).wf = true
def AllFit {α : Type} (Q : α → Prop) (l : List α) : Prop := l.length ≤ 9223372036854775807 ∧ ∀ x ∈ l, Q x
def BothFit {α β : Type} (Q : α → Prop) (R : β → Prop) (x : α × β) : Prop := Q x.1 ∧ R x.2

theorem opens_string {t : TypeId} (ht : P.underlying t = some .string) : Opens enc P w t Kd.string StrFit := by
  intro n cs x h
  cases n with
  | zero => simp [DataW.trod] at h
  | succ n =>
    obtain ⟨s, rfl, hs⟩ := DataW.trod_string ht h
    refine ⟨s, rfl, ?_⟩
    unfold DataW.trod at h
    rw [ht] at h
    simp only at h
    split at h
    · rename_i hm
      simpa [StrFit, maxLen] using hm
    · cases h
theorem opens_int {t : TypeId} {k : IntKind} (ht : P.underlying t = some (.int k)) : Opens enc P w t (Kd.int k) (IntFit k) := by
  intro n cs x h
  obtain ⟨s, rfl, _, hw⟩ := DataW.trod_int ht h
  exact ⟨s, rfl, hw⟩
theorem mapM_range {f : Nat → Option Value} {n : Nat} {cs : List Value} (h : (List.range n).mapM f = some cs) : cs.length = n ∧ ∀ i, i < n → f i = cs[i]? := by
  refine ⟨by simpa using mapM_some_length h, fun i hi => ?_⟩
  exact mapM_some_get h i i (by simp [hi])

theorem choose_list {α : Type} {Q : Nat → α → Prop} : ∀ n, (∀ i, i < n → ∃ a, Q i a) → ∃ l : List α, l.length = n ∧ ∀ i a, l[i]? = some a → Q i a
  | 0, _ => ⟨[], rfl, fun i a h => by simp at h⟩
  | n + 1, h => by
    obtain ⟨l, hl, hq⟩ := choose_list n (fun i hi => h i (by omega))
    obtain ⟨a, ha⟩ := h n (by omega)
    refine ⟨l ++ [a], by simp [hl], fun i b hb => ?_⟩
    by_cases hi : i < n
    · rw [List.getElem?_append_left (by omega)] at hb
      exact hq i b hb
    · rw [List.getElem?_append_right (by omega), hl] at hb
      have : i - n = 0 := by
        have := (List.getElem?_eq_some_iff.1 hb).1
        simp at this
        omega
      rw [this] at hb
      simp at hb
      have e : i = n := by omega
      subst e hb
      exact ha

theorem opensAt_slice {α : Type} {t e : TypeId} {k : Kd α} {Q : α → Prop} {n : Nat} (ht : P.underlying t = some (.slice e)) (hsz : P.cellsOf e = k.sz) (hk : OpensAt enc P w n e k Q) : OpensAt enc P w (n + 1) t (Kd.slice e k) (AllFit Q) := by
  intro cs x h
  rcases DataW.trod_slice ht h with ⟨rfl, _⟩ | ⟨a, len, cap, elems, rest, n', hn, rfl, rfl, hb, hl, hm, hlen, hel, _⟩
  · exact ⟨[], ⟨none, 0, rfl, Nat.le_refl _, rfl, by simp, fun h => absurd h (by simp)⟩, by simp, fun x h => by simp at h⟩
  · obtain rfl : n' = n := by omega
    have hex : ∀ i, i < len → ∃ y, (∃ c, c.length = k.sz ∧ k.K w y c ∧ ∀ j u, c[j]? = some u → w.cell? (a.add (i * k.sz + j)) = some u) ∧ Q y := by
      intro i hi
      have h1 := hel i hi
      rw [List.getElem?_eq_getElem (by omega)] at h1
      obtain ⟨c, hc, ht⟩ := Option.bind_eq_some_iff.1 h1
      obtain ⟨y, hy, hQ⟩ := hk c _ ht
      unfold World.cells? at hc
      rw [if_pos (Nat.zero_le _)] at hc
      obtain ⟨hcl, hcc⟩ := mapM_range hc
      refine ⟨y, ⟨c, by rw [hcl, hsz], hy, fun j u hu => ?_⟩, hQ⟩
      have hj : j < P.cellsOf e := by
        have := (List.getElem?_eq_some_iff.1 hu).1
        omega
      have := hcc j hj
      rw [Addr.add_add, hsz, hu] at this
      exact this
    obtain ⟨l, hll, hq⟩ := choose_list len hex
    refine ⟨l, ⟨some a, cap, by rw [hll], by omega, ?_⟩, by rw [hll]; simp only [maxLen] at hm; omega, fun x hx => ?_⟩
    · refine ⟨rfl, by rw [hll]; simp only [maxLen] at hm; omega, fun _ => ⟨a, rfl, fun j p hp => ?_⟩⟩
      obtain ⟨c, h1, h2, h3⟩ := (hq j p hp).1
      exact ⟨c, h1, h2, h3⟩
    · obtain ⟨i, hi⟩ := List.getElem?_of_mem hx
      exact (hq i x hi).2
theorem opens_slice {α : Type} {t e : TypeId} {k : Kd α} {Q : α → Prop} (ht : P.underlying t = some (.slice e)) (hsz : P.cellsOf e = k.sz) (hk : Opens enc P w e k Q) : Opens enc P w t (Kd.slice e k) (AllFit Q) := by
  intro n
  cases n with
  | zero => intro cs x h; simp [DataW.trod] at h
  | succ n => exact opensAt_slice ht hsz (hk n)

/-- One field ahead of what is left (a struct's cells from an offset on). -/
def RestAt {α : Type} (enc : TypeId × Value → H) (P : Program) (w : World) (n : Nat) (fs : List Field) (off : Nat) (k : Kd α) (Q : α → Prop) : Prop :=
  ∀ cs : List Value, (∀ (i : Nat) (f : Field), fs[i]? = some f → ∃ x, DataW.trod enc P w 0 (fun _ => true) true n f.type ((cs.drop f.offset).take (P.cellsOf f.type)) = some x) →
    cs.length = off + k.sz → ∃ a, k.K w a (cs.drop off) ∧ Q a
theorem rest_last {α : Type} {f : Field} {k : Kd α} {Q : α → Prop} {n off : Nat} (ho : f.offset = off) (hs : P.cellsOf f.type = k.sz) (hk : OpensAt enc P w n f.type k Q) : RestAt enc P w n [f] off k Q := by
  intro cs hf hl
  obtain ⟨x, hx⟩ := hf 0 f rfl
  obtain ⟨a, ha, hq⟩ := hk _ _ hx
  rw [ho, List.take_of_length_le (by simp; omega)] at ha
  exact ⟨a, ha, hq⟩
theorem rest_cons {α β : Type} {f : Field} {fs : List Field} {k : Kd α} {k' : Kd β} {Q : α → Prop} {Q' : β → Prop} {n off : Nat} (ho : f.offset = off) (hs : P.cellsOf f.type = k.sz) (hk : OpensAt enc P w n f.type k Q)
    (hr : RestAt enc P w n fs (off + k.sz) k' Q') : RestAt enc P w n (f :: fs) off (Kd.pair k k') (BothFit Q Q') := by
  intro cs hf hl
  obtain ⟨x, hx⟩ := hf 0 f rfl
  obtain ⟨a, ha, hq⟩ := hk _ _ hx
  obtain ⟨b, hb, hq'⟩ := hr cs (fun i g hg => hf (i + 1) g hg) (by rw [hl]; show _ = _; simp [Kd.pair]; omega)
  refine ⟨(a, b), ⟨_, _, ?_, ha, hb⟩, hq, hq'⟩
  rw [ho, hs, ← List.drop_drop, List.take_append_drop]
theorem opensAt_struct {α : Type} {t : TypeId} {fs : Array Field} {k : Kd α} {Q : α → Prop} {n : Nat} (ht : P.underlying t = some (.struct fs)) (hs : P.cellsOf t = k.sz) (hr : RestAt enc P w n fs.toList 0 k Q) : OpensAt enc P w (n + 1) t k Q := by
  intro cs x h
  obtain ⟨xs, n', hn, rfl, hl, hlen, hf⟩ := DataW.trod_struct ht h
  obtain rfl : n' = n := by omega
  have := hr cs (fun i f hi => by
    have hi' : fs[i]? = some f := by simpa using hi
    have h1 := hf i f hi'
    have : i < xs.length := by
      rw [hlen]
      exact (Array.getElem?_eq_some_iff.1 hi').1
    rw [List.getElem?_eq_getElem this] at h1
    exact ⟨_, h1⟩) (by rw [hl, hs]; omega)
  simpa using this
/-- A parameter's value of struct type: its cells. -/
theorem agg_of {r : Reach} {b0 : Nat} {α : Type} {t : TypeId} {fs : Array Field} {k : Kd α} {Q : α → Prop} {v : Value} {d : DataW H} {p : List MemPlace} (ht : P.underlying t = some (.struct fs))
    (hv : Value.okWide P w r b0 t v) (h : DataW.Trod enc P w 0 (fun _ => true) true t v d p) (hk : Opens enc P w t k Q) : ∃ cs a, v = .agg cs ∧ k.K w a cs.toList ∧ Q a := by
  obtain ⟨cs, rfl, hsz⟩ := WideShapes.okWide_struct ht hv
  obtain ⟨fuel, hf⟩ := h
  obtain ⟨a, ha, hq⟩ := hk fuel _ _ hf
  exact ⟨cs, a, rfl, ha, hq⟩
theorem lt_of {t : TypeId} {v : Value} {d : DataW H} {p : List MemPlace} (h : DataW.Trod enc P w 0 (fun _ => true) true t v d p) : ∀ x ∈ p, x.block < w.heap.size := by
  obtain ⟨m, hm⟩ := h
  exact DataW.trod_lt m _ _ _ hm
end
end Go.Proofs.Ytpndcfibjjkgcaa.MyOpen

/- What the helpers of the laws compute, in plain Lean: sizes ('sz..'), copies ('to..') of expressions, for enough rounds. No condition. -/
import Derived.Test.YtpndcfibjjkgcaaPIfgx2
import Derived.Test.YtpndcfibjjkgcaaMyFitI
namespace Go.Proofs.Ytpndcfibjjkgcaa.PIfg
open Go Go.RowKit Go.Proofs.Ytpndcfibjjkgcaa.MyOpen Go.Proofs.YtpndcfibjjkgcaaW.PrintWords
set_option linter.unusedVariables false
theorem rdOf_at (l : List ByteArray) (i : Nat) (h : i < l.length) : rdOf ByteArray.empty l (i : Int) = l[i] := by
  unfold rdOf
  rw [Int.toNat_natCast, List.getD_eq_getElem?_getD, List.getElem?_eq_getElem h]
  rfl
theorem wrap_succ {i : Nat} (h : i < 9223372036854775807) : wrap64 ((i : Int) + 1) = ((i + 1 : Nat) : Int) := by
  unfold wrap64; omega
/-- How much is left behind a list of texts, or less than nothing. -/
theorem sz_loop (l : List ByteArray) (hl : l.length ≤ 9223372036854775807) (hs : ∀ s ∈ l, StrFit s) : ∀ (d k i : Nat) (x : Int), i + d = l.length → d < k → 0 ≤ x → x ≤ 1048576 →
    ∃ r, laws_szStringS.l0 k l x (i : Int) = some r ∧ -1 ≤ r ∧ r ≤ x := by
  intro d
  induction d with
  | zero =>
    intro k i x hi hk h0 h1
    obtain ⟨k, rfl⟩ : ∃ m, k = m + 1 := ⟨k - 1, by omega⟩
    refine ⟨x, ?_, by omega, by omega⟩
    simp only [laws_szStringS.l0]
    rw [if_neg (by omega)]
  | succ d ih =>
    intro k i x hi hk h0 h1
    obtain ⟨k, rfl⟩ : ∃ m, k = m + 1 := ⟨k - 1, by omega⟩
    have hb : i < l.length := by omega
    simp only [laws_szStringS.l0]
    rw [if_pos (by omega), if_pos (by omega), rdOf_at l i hb]
    have hsz := hs l[i] (List.getElem_mem hb)
    unfold StrFit at hsz
    have e : wrap64 (x - (l[i].size : Int)) = x - (l[i].size : Int) := by unfold wrap64; omega
    rw [e, wrap_succ (by omega)]
    by_cases h2 : x - (l[i].size : Int) < 0
    · rw [if_pos h2]
      exact ⟨-1, rfl, by omega, by omega⟩
    · rw [if_neg h2]
      obtain ⟨r, hr, h3, h4⟩ := ih k (i + 1) _ (by omega) (by omega) (by omega : 0 ≤ x - (l[i].size : Int)) (by omega)
      exact ⟨r, hr, h3, by omega⟩
theorem sz_strs (l : List ByteArray) (hl : AllFit StrFit l) (k : Nat) (x : Int) (hk : l.length < k) (h0 : 0 ≤ x) (h1 : x ≤ 1048576) :
    ∃ r, laws_szStringS.f k l x = some r ∧ -1 ≤ r ∧ r ≤ x ∧ (0 ≤ r → (l.length : Int) + r ≤ x) := by
  unfold laws_szStringS.f
  have e : wrap64 (x - (l.length : Int)) = x - (l.length : Int) := by have := hl.1; unfold wrap64; omega
  rw [e]
  by_cases h2 : x - (l.length : Int) < 0
  · rw [if_pos h2]
    exact ⟨-1, rfl, by omega, by omega, by omega⟩
  · rw [if_neg h2]
    obtain ⟨r, hr, h3, h4⟩ := sz_loop l hl.1 hl.2 l.length k 0 (x - (l.length : Int)) (by omega) hk (by omega) (by omega)
    exact ⟨r, hr, h3, by omega, by omega⟩
theorem to_loop (l : List ByteArray) (hl : l.length ≤ 1048576) : ∀ (d k i : Nat) (y : List ByteArray), i + d = l.length → d < k → y.length = l.length → (∀ j, j < i → y[j]? = l[j]?) →
    laws_toStringS.l0 k l y (i : Int) = some l := by
  intro d
  induction d with
  | zero =>
    intro k i y hi hk hy hj
    obtain ⟨k, rfl⟩ : ∃ m, k = m + 1 := ⟨k - 1, by omega⟩
    simp only [laws_toStringS.l0]
    rw [if_neg (by omega)]
    congr 1
    apply List.ext_getElem?
    intro j
    by_cases h : j < i
    · exact hj j h
    · rw [List.getElem?_eq_none (by omega), List.getElem?_eq_none (by omega)]
  | succ d ih =>
    intro k i y hi hk hy hj
    obtain ⟨k, rfl⟩ : ∃ m, k = m + 1 := ⟨k - 1, by omega⟩
    have hb : i < l.length := by omega
    simp only [laws_toStringS.l0]
    rw [if_pos (by omega), if_pos (by omega), if_pos (by omega), rdOf_at l i hb, wrap_succ (by omega), Int.toNat_natCast]
    refine ih k (i + 1) _ (by omega) (by omega) (by simpa using hy) (fun j h => ?_)
    by_cases e : j = i
    · subst e
      rw [List.getElem?_set_self (by omega), List.getElem?_eq_getElem hb]
    · rw [List.getElem?_set_ne (by omega)]
      exact hj j (by omega)
theorem to_strs (l : List ByteArray) (hl : l.length ≤ 1048576) (k : Nat) (hk : l.length < k) : laws_toStringS.f k l = some l := by
  unfold laws_toStringS.f
  rw [if_pos (by omega), if_pos (by omega)]
  exact to_loop l hl l.length k 0 _ (by omega) hk (by simp) (fun j h => by omega)
/-- With enough rounds: this result. -/
def Ev {α : Type} (g : Nat → Option α) (r : α) : Prop := ∃ K, ∀ k, K ≤ k → g k = some r
theorem Ev.const {α : Type} (r : α) : Ev (fun _ => some r) r := ⟨0, fun _ _ => rfl⟩
theorem Ev.succ {α : Type} {g : Nat → Option α} {r : α} (h : Ev (fun k => g (k + 1)) r) : Ev g r := by
  obtain ⟨K, h⟩ := h
  exact ⟨K + 1, fun k hk => by obtain ⟨m, rfl⟩ : ∃ m, k = m + 1 := ⟨k - 1, by omega⟩; exact h m (by omega)⟩
theorem Ev.bind {α β : Type} {g : Nat → Option α} {f : Nat → α → Option β} {a : α} {r : β} (h : Ev g a) (hf : Ev (fun k => f k a) r) : Ev (fun k => (g k).bind (f k)) r := by
  obtain ⟨K, h⟩ := h
  obtain ⟨L, hf⟩ := hf
  exact ⟨max K L, fun k hk => by show (g k).bind (f k) = some r; rw [h k (by omega)]; exact hf k (by omega)⟩
theorem Ev.pos {α : Type} {c : Prop} [Decidable c] {a b : Nat → Option α} {r : α} (hc : c) (h : Ev a r) : Ev (fun k => if c then a k else b k) r := by
  simpa only [if_pos hc] using h
theorem Ev.neg {α : Type} {c : Prop} [Decidable c] {a b : Nat → Option α} {r : α} (hc : ¬ c) (h : Ev b r) : Ev (fun k => if c then a k else b k) r := by
  simpa only [if_neg hc] using h
theorem Ev.of {α : Type} {g : Nat → Option α} {r : α} (K : Nat) (h : ∀ k, K < k → g k = some r) : Ev g r := ⟨K + 1, fun k hk => h k (by omega)⟩
theorem wrap_le {x y : Int} (h0 : 0 ≤ x) (h1 : x ≤ 9223372036854775807) (h2 : 0 ≤ y) (h3 : y ≤ 9223372036854775807) : wrap64 (x - y) = x - y := by unfold wrap64; omega

theorem rd26 (l : List S26) (i : Nat) (h : i < l.length) : rd_T26 l (i : Int) = l[i] := by
  unfold rd_T26; rw [Int.toNat_natCast, List.getD_eq_getElem?_getD, List.getElem?_eq_getElem h]; rfl
theorem rd63 (l : List S63) (i : Nat) (h : i < l.length) : rd_T63 l (i : Int) = l[i] := by
  unfold rd_T63; rw [Int.toNat_natCast, List.getD_eq_getElem?_getD, List.getElem?_eq_getElem h]; rfl
theorem rd66 (l : List S66) (i : Nat) (h : i < l.length) : rd_T66 l (i : Int) = l[i] := by
  unfold rd_T66; rw [Int.toNat_natCast, List.getD_eq_getElem?_getD, List.getElem?_eq_getElem h]; rfl
theorem rd33 (l : List S33) (i : Nat) (h : i < l.length) : rd_T33 l (i : Int) = l[i] := by
  unfold rd_T33; rw [Int.toNat_natCast, List.getD_eq_getElem?_getD, List.getElem?_eq_getElem h]; rfl
theorem rd68 (l : List S68) (i : Nat) (h : i < l.length) : rd_T68 l (i : Int) = l[i] := by
  unfold rd_T68; rw [Int.toNat_natCast, List.getD_eq_getElem?_getD, List.getElem?_eq_getElem h]; rfl
theorem rd53 (l : List S53) (i : Nat) (h : i < l.length) : rd_T53 l (i : Int) = l[i] := by
  unfold rd_T53; rw [Int.toNat_natCast, List.getD_eq_getElem?_getD, List.getElem?_eq_getElem h]; rfl

/-! #### sizes -/
mutual
def SmE : Nat → S26 → Prop
  | 0, _ => False
  | n + 1, x => (x.f3.length ≤ 1048576 ∧ ∀ y ∈ x.f3, SmE n y) ∧ (x.f4.length ≤ 1048576 ∧ ∀ y ∈ x.f4, SmD n y) ∧ (x.f5.length ≤ 1048576 ∧ ∀ y ∈ x.f5, SmA n y)
def SmD : Nat → S63 → Prop
  | 0, _ => False
  | n + 1, x => x.f1.length ≤ 1048576 ∧ SmE n x.f2 ∧ (x.f3.length ≤ 1048576 ∧ ∀ y ∈ x.f3, SmD n y)
def SmA : Nat → S66 → Prop
  | 0, _ => False
  | n + 1, x => x.f1.length ≤ 1048576 ∧ SmE n x.f2
end
def sumN {α : Type} (c : α → Nat) : List α → Nat
  | [] => 0
  | x :: l => c x + sumN c l
/-- How much a value costs: its rows' elements. -/
abbrev rowN {α : Type} (c : α → Nat) (l : List α) : Nat := l.length + sumN c l
mutual
def coE : Nat → S26 → Nat
  | 0, _ => 0
  | n + 1, x => rowN (coE n) x.f3 + (rowN (coD n) x.f4 + rowN (coA n) x.f5)
def coD : Nat → S63 → Nat
  | 0, _ => 0
  | n + 1, x => x.f1.length + (coE n x.f2 + rowN (coD n) x.f3)
def coA : Nat → S66 → Nat
  | 0, _ => 0
  | n + 1, x => x.f1.length + coE n x.f2
end
/-- What a size function tells: what is left, or -1; and if something is left, the value is small, and its cost was taken off. -/
def Tells (g : Nat → Option Int) (a : Int) (S : Prop) (C : Nat) : Prop := ∃ r, Ev g r ∧ -1 ≤ r ∧ r ≤ a ∧ (0 ≤ r → S ∧ r + (C : Int) ≤ a)
theorem sz_gen {α : Type} {rd : List α → Int → α} {F : Nat → α → Int → Option Int} {L : Nat → List α → Int → Int → Option Int} {S : α → Prop} {c : α → Nat} (hrd : ∀ (l : List α) (i : Nat) (h : i < l.length), rd l (i : Int) = l[i])
    (hL : ∀ k x0 x1 x5, L (k + 1) x0 x1 x5 = if x5 < (x0.length : Int) then (if 0 ≤ x5 then ((F k (rd x0 x5) x1).bind fun t => (if t < 0 then (some (-1)) else (L k x0 t (wrap64 (x5 + 1))))) else (none)) else (some x1))
    (l : List α) (hlen : l.length ≤ 9223372036854775807) (hF : ∀ x ∈ l, ∀ a, 0 ≤ a → a ≤ 1048576 → Tells (fun k => F k x a) a (S x) (c x)) :
    ∀ (d i : Nat) (a : Int), i + d = l.length → 0 ≤ a → a ≤ 1048576 → Tells (fun k => L k l a (i : Int)) a (∀ j, i ≤ j → (h : j < l.length) → S l[j]) (sumN c (l.drop i)) := by
  intro d
  induction d with
  | zero =>
    intro i a hi h0 h1
    refine ⟨a, Ev.succ ?_, by omega, by omega, fun _ => ⟨fun j h2 h3 => by omega, ?_⟩⟩
    · simp only [hL]
      exact Ev.neg (by omega) (Ev.const _)
    · rw [List.drop_of_length_le (by omega), sumN]
      omega
  | succ d ih =>
    intro i a hi h0 h1
    have hb : i < l.length := by omega
    obtain ⟨r, hr, h2, h3, h4⟩ := hF l[i] (List.getElem_mem hb) a h0 h1
    by_cases hn : r < 0
    · refine ⟨-1, Ev.succ ?_, by omega, by omega, fun h => by omega⟩
      simp only [hL, hrd l i hb]
      exact Ev.pos (by omega) (Ev.pos (by omega) (Ev.bind hr (Ev.pos hn (Ev.const _))))
    · obtain ⟨s, hs, h5, h6, h7⟩ := ih (i + 1) r (by omega) (by omega) (by omega)
      refine ⟨s, Ev.succ ?_, h5, by omega, fun h => ⟨fun j h8 h9 => ?_, ?_⟩⟩
      · simp only [hL, hrd l i hb, wrap_succ (by omega : i < 9223372036854775807)]
        exact Ev.pos (by omega) (Ev.pos (by omega) (Ev.bind hr (Ev.neg hn hs)))
      · rcases Nat.eq_or_lt_of_le h8 with rfl | h10
        · exact (h4 (by omega)).1
        · exact (h7 h).1 j (by omega) h9
      · rw [List.drop_eq_getElem_cons hb, sumN]
        have e1 := (h4 (by omega)).2
        have e2 := (h7 h).2
        omega
theorem szS_gen {α : Type} {rd : List α → Int → α} {F : Nat → α → Int → Option Int} {L : Nat → List α → Int → Int → Option Int} {G : Nat → List α → Int → Option Int} {S : α → Prop} {c : α → Nat} (hrd : ∀ (l : List α) (i : Nat) (h : i < l.length), rd l (i : Int) = l[i])
    (hL : ∀ k x0 x1 x5, L (k + 1) x0 x1 x5 = if x5 < (x0.length : Int) then (if 0 ≤ x5 then ((F k (rd x0 x5) x1).bind fun t => (if t < 0 then (some (-1)) else (L k x0 t (wrap64 (x5 + 1))))) else (none)) else (some x1))
    (hG : ∀ k l a, G (k + 1) l a = if (wrap64 (a - (l.length : Int))) < 0 then (some (-1)) else (L k l (wrap64 (a - (l.length : Int))) 0))
    (l : List α) (hlen : l.length ≤ 9223372036854775807) (hF : ∀ x ∈ l, ∀ a, 0 ≤ a → a ≤ 1048576 → Tells (fun k => F k x a) a (S x) (c x)) (a : Int) (h0 : 0 ≤ a) (h1 : a ≤ 1048576) :
    Tells (fun k => G k l a) a (l.length ≤ 1048576 ∧ ∀ x ∈ l, S x) (rowN c l) := by
  have e : wrap64 (a - (l.length : Int)) = a - (l.length : Int) := wrap_le h0 (by omega) (by omega) (by omega)
  by_cases hn : a - (l.length : Int) < 0
  · refine ⟨-1, Ev.succ ?_, by omega, by omega, fun h => by omega⟩
    simp only [hG, e]
    exact Ev.pos hn (Ev.const _)
  · obtain ⟨r, hr, h2, h3, h4⟩ := sz_gen hrd hL l hlen hF l.length 0 (a - (l.length : Int)) (by omega) (by omega) (by omega)
    refine ⟨r, Ev.succ ?_, by omega, by omega, fun h => ⟨⟨by omega, fun x hx => ?_⟩, by have := (h4 h).2; rw [List.drop_zero] at this; unfold rowN; omega⟩⟩
    · simp only [hG, e]
      exact Ev.neg hn hr
    · obtain ⟨i, hi, rfl⟩ := List.getElem_of_mem hx
      exact (h4 h).1 i (by omega) hi
theorem szT (l : List ByteArray) (hl : AllFit StrFit l) (a : Int) (h0 : 0 ≤ a) (h1 : a ≤ 1048576) : Tells (fun k => laws_szStringS.f k l a) a (l.length ≤ 1048576) l.length := by
  have h := fun k hk => sz_strs l hl k a hk h0 h1
  obtain ⟨r, hr, h2, h3, h4⟩ := h (l.length + 1) (by omega)
  refine ⟨r, Ev.of l.length (fun k hk => ?_), h2, h3, fun h => by have := h4 h; omega⟩
  have hm : ∀ d, laws_szStringS.f (l.length + 1 + d) l a = some r := by
    intro d
    induction d with
    | zero => exact hr
    | succ d ih => exact laws_szStringS.mono _ _ _ _ ih
  have := hm (k - (l.length + 1))
  rwa [show l.length + 1 + (k - (l.length + 1)) = k by omega] at this
theorem tells_bind {g : Nat → Option Int} {f : Nat → Int → Option Int} {a : Int} {S T : Prop} {C D : Nat} (h : Tells g a S C) (hf : ∀ r, 0 ≤ r → r ≤ a → Tells (fun k => f k r) r T D) : Tells (fun k => (g k).bind fun t => (if t < 0 then (some (-1)) else f k t)) a (S ∧ T) (C + D) := by
  obtain ⟨r, hr, h1, h2, h3⟩ := h
  by_cases hn : r < 0
  · exact ⟨-1, Ev.bind hr (Ev.pos hn (Ev.const _)), by omega, by omega, fun h => by omega⟩
  · obtain ⟨s, hs, h4, h5, h6⟩ := hf r (by omega) h2
    exact ⟨s, Ev.bind hr (Ev.neg hn hs), h4, by omega, fun h => ⟨⟨(h3 (by omega)).1, (h6 h).1⟩, by have := (h3 (by omega)).2; have := (h6 h).2; omega⟩⟩
theorem tells_last {g : Nat → Option Int} {a : Int} {S : Prop} {C : Nat} (h : Tells g a S C) : Tells (fun k => (g k).bind fun t => (if t < 0 then (some (-1)) else (some t))) a S C := by
  obtain ⟨r, hr, h1, h2, h3⟩ := h
  by_cases hn : r < 0
  · exact ⟨-1, Ev.bind hr (Ev.pos hn (Ev.const _)), by omega, by omega, fun h => by omega⟩
  · exact ⟨r, Ev.bind hr (Ev.neg hn (Ev.const _)), h1, h2, h3⟩
theorem tells_str {g : Nat → Option Int} {x : Int} {s : ByteArray} (hs : StrFit s) {S : Prop} {C : Nat} (h0 : 0 ≤ x) (h1 : x ≤ 1048576) (h : 0 ≤ x - (s.size : Int) → Tells g (x - (s.size : Int)) S C) : Tells (fun k => if (wrap64 (x - (s.size : Int))) < 0 then (some (-1)) else g k) x S C := by
  unfold StrFit at hs
  have e : wrap64 (x - (s.size : Int)) = x - (s.size : Int) := wrap_le h0 (by omega) (by omega) (by omega)
  simp only [e]
  by_cases hn : x - (s.size : Int) < 0
  · exact ⟨-1, Ev.pos hn (Ev.const _), by omega, by omega, fun h => by omega⟩
  · obtain ⟨r, hr, h2, h3, h4⟩ := h (by omega)
    exact ⟨r, Ev.neg hn hr, h2, by omega, fun h => ⟨(h4 h).1, by have := (h4 h).2; omega⟩⟩
theorem tells_imp {g : Nat → Option Int} {a : Int} {S T : Prop} {C D : Nat} (h : S → T) (hC : C = D) : Tells g a S C → Tells g a T D := fun ⟨r, h1, h2, h3, h4⟩ => ⟨r, h1, h2, h3, fun h5 => ⟨h (h4 h5).1, hC ▸ (h4 h5).2⟩⟩
theorem tells_succ {g : Nat → Option Int} {a : Int} {S : Prop} {C : Nat} (h : Tells (fun k => g (k + 1)) a S C) : Tells g a S C := by
  obtain ⟨r, h1, h2⟩ := h
  exact ⟨r, Ev.succ h1, h2⟩
def SzE (n : Nat) : Prop := ∀ x : S26, FitE n x → ∀ a, 0 ≤ a → a ≤ 1048576 → Tells (fun k => laws_szExp.f k x.f0 x.f1 x.f2 x.f3 x.f4 x.f5 a) a (SmE n x) (coE n x)
def SzD (n : Nat) : Prop := ∀ x : S63, FitD n x → ∀ a, 0 ≤ a → a ≤ 1048576 → Tells (fun k => laws_szDec.f k x.f0 x.f1 x.f2.f0 x.f2.f1 x.f2.f2 x.f2.f3 x.f2.f4 x.f2.f5 x.f3 a) a (SmD n x) (coD n x)
def SzA (n : Nat) : Prop := ∀ x : S66, FitA n x → ∀ a, 0 ≤ a → a ≤ 1048576 → Tells (fun k => laws_szAlt.f k x.f0 x.f1 x.f2.f0 x.f2.f1 x.f2.f2 x.f2.f3 x.f2.f4 x.f2.f5 a) a (SmA n x) (coA n x)
theorem szES {n : Nat} (h : SzE n) (l : List S26) (hl : AllFit (FitE n) l) (a : Int) (h0 : 0 ≤ a) (h1 : a ≤ 1048576) : Tells (fun k => laws_szExpS.f k l a) a (l.length ≤ 1048576 ∧ ∀ x ∈ l, SmE n x) (rowN (coE n) l) :=
  szS_gen (F := fun k x a => laws_szExp.f k x.f0 x.f1 x.f2 x.f3 x.f4 x.f5 a) (L := laws_szExpS.l0) rd26 (fun _ _ _ _ => by rw [laws_szExpS.l0]) (fun _ _ _ => by rw [laws_szExpS.f]) l hl.1 (fun x hx => h x (hl.2 x hx)) a h0 h1
theorem szDS {n : Nat} (h : SzD n) (l : List S63) (hl : AllFit (FitD n) l) (a : Int) (h0 : 0 ≤ a) (h1 : a ≤ 1048576) : Tells (fun k => laws_szDecS.f k l a) a (l.length ≤ 1048576 ∧ ∀ x ∈ l, SmD n x) (rowN (coD n) l) :=
  szS_gen (F := fun k x a => laws_szDec.f k x.f0 x.f1 x.f2.f0 x.f2.f1 x.f2.f2 x.f2.f3 x.f2.f4 x.f2.f5 x.f3 a) (L := laws_szDecS.l0) rd63 (fun _ _ _ _ => by rw [laws_szDecS.l0]) (fun _ _ _ => by rw [laws_szDecS.f]) l hl.1 (fun x hx => h x (hl.2 x hx)) a h0 h1
theorem szAS {n : Nat} (h : SzA n) (l : List S66) (hl : AllFit (FitA n) l) (a : Int) (h0 : 0 ≤ a) (h1 : a ≤ 1048576) : Tells (fun k => laws_szAltS.f k l a) a (l.length ≤ 1048576 ∧ ∀ x ∈ l, SmA n x) (rowN (coA n) l) :=
  szS_gen (F := fun k x a => laws_szAlt.f k x.f0 x.f1 x.f2.f0 x.f2.f1 x.f2.f2 x.f2.f3 x.f2.f4 x.f2.f5 a) (L := laws_szAltS.l0) rd66 (fun _ _ _ _ => by rw [laws_szAltS.l0]) (fun _ _ _ => by rw [laws_szAltS.f]) l hl.1 (fun x hx => h x (hl.2 x hx)) a h0 h1
theorem sz_all : ∀ n, SzE n ∧ SzD n ∧ SzA n
  | 0 => ⟨fun _ h => by simp [FitE] at h, fun _ h => by simp [FitD] at h, fun _ h => by simp [FitA] at h⟩
  | n + 1 => by
    obtain ⟨hE, hD, hA⟩ := sz_all n
    refine ⟨fun x h a h0 h1 => ?_, fun x h a h0 h1 => ?_, fun x h a h0 h1 => ?_⟩
    · simp only [FitE] at h
      obtain ⟨q0, q1, q2, q3, q4, q5⟩ := h
      refine tells_succ ?_
      simp only [laws_szExp.f]
      refine tells_str q1 h0 h1 (fun h2 => ?_)
      rw [wrap_le h0 (by omega) (by omega) (by have := q1; unfold StrFit at this; omega)]
      refine tells_imp (T := SmE (n + 1) x) (fun h => by simp only [SmE]; exact h) (by simp only [coE]) (tells_bind (szES hE _ q3 _ h2 (by omega)) (fun r h3 h4 => tells_bind (szDS hD _ q4 _ h3 (by omega)) (fun r h5 h6 => tells_last (szAS hA _ q5 _ h5 (by omega)))))
    · simp only [FitD] at h
      obtain ⟨q0, q1, q2, q3⟩ := h
      refine tells_succ ?_
      simp only [laws_szDec.f]
      refine tells_str q0 h0 h1 (fun h2 => ?_)
      rw [wrap_le h0 (by omega) (by omega) (by have := q0; unfold StrFit at this; omega)]
      refine tells_imp (T := SmD (n + 1) x) (fun h => by simp only [SmD]; exact h) (by simp only [coD]) (tells_bind (szT _ q1 _ h2 (by omega)) (fun r h3 h4 => tells_bind (hE _ q2 _ h3 (by omega)) (fun r h5 h6 => tells_last (szDS hD _ q3 _ h5 (by omega)))))
    · simp only [FitA] at h
      obtain ⟨q0, q1, q2⟩ := h
      refine tells_succ ?_
      simp only [laws_szAlt.f]
      refine tells_str q0 h0 h1 (fun h2 => ?_)
      rw [wrap_le h0 (by omega) (by omega) (by have := q0; unfold StrFit at this; omega)]
      refine tells_imp (T := SmA (n + 1) x) (fun h => by simp only [SmA]; exact h) (by simp only [coA]) (tells_bind (szT _ q1 _ h2 (by omega)) (fun r h3 h4 => tells_last (hE _ q2 _ h3 (by omega))))

/-! #### copies -/
mutual
def cvE : Nat → S26 → S33
  | 0, _ => z33
  | n + 1, x => ⟨x.f0, x.f1, x.f2, x.f3.map (cvE n), x.f4.map (cvD n), x.f5.map (cvA n)⟩
def cvD : Nat → S63 → S68
  | 0, _ => z68
  | n + 1, x => ⟨x.f0, x.f1, cvE n x.f2, x.f3.map (cvD n)⟩
def cvA : Nat → S66 → S53
  | 0, _ => z53
  | n + 1, x => ⟨x.f0, x.f1, cvE n x.f2⟩
end
theorem eta33 (y : S33) : (⟨y.f0, y.f1, y.f2, y.f3, y.f4, y.f5⟩ : S33) = y := by cases y; rfl
theorem eta68 (y : S68) : (⟨y.f0, y.f1, ⟨y.f2.f0, y.f2.f1, y.f2.f2, y.f2.f3, y.f2.f4, y.f2.f5⟩, y.f3⟩ : S68) = y := by rw [eta33]; cases y; rfl
theorem eta53 (y : S53) : (⟨y.f0, y.f1, ⟨y.f2.f0, y.f2.f1, y.f2.f2, y.f2.f3, y.f2.f4, y.f2.f5⟩⟩ : S53) = y := by rw [eta33]; cases y; rfl
theorem to_gen {α β γ : Type} {rd : List α → Int → α} {F : Nat → α → Option γ} {mk : γ → β} {c : α → γ} {c' : α → β} (hc : ∀ x, mk (c x) = c' x) {L : Nat → List α → List β → Int → Option (List β)} (hrd : ∀ (l : List α) (i : Nat) (h : i < l.length), rd l (i : Int) = l[i])
    (hL : ∀ k x0 x3 x4, L (k + 1) x0 x3 x4 = if x4 < (x0.length : Int) then (if 0 ≤ x4 then ((F k (rd x0 x4)).bind fun b => (if x4 < (x3.length : Int) then (L k x0 (x3.set (x4 : Int).toNat (mk b)) (wrap64 (x4 + 1))) else (none))) else (none)) else (some x3))
    (l : List α) (hlen : l.length ≤ 1048576) (hF : ∀ x ∈ l, Ev (fun k => F k x) (c x)) :
    ∀ (d i : Nat) (y : List β), i + d = l.length → y.length = l.length → (∀ j, j < i → y[j]? = (l.map c')[j]?) → Ev (fun k => L k l y (i : Int)) (l.map c') := by
  intro d
  induction d with
  | zero =>
    intro i y hi hy hj
    refine Ev.succ ?_
    simp only [hL]
    refine Ev.neg (by omega) ?_
    have : y = l.map c' := by
      apply List.ext_getElem?
      intro j
      by_cases h : j < i
      · exact hj j h
      · rw [List.getElem?_eq_none (by omega), List.getElem?_eq_none (by simp; omega)]
    rw [this]
    exact Ev.const _
  | succ d ih =>
    intro i y hi hy hj
    have hb : i < l.length := by omega
    refine Ev.succ ?_
    simp only [hL, hrd l i hb, wrap_succ (by omega : i < 9223372036854775807), Int.toNat_natCast]
    refine Ev.pos (by omega) (Ev.pos (by omega) (Ev.bind (hF _ (List.getElem_mem hb)) (Ev.pos (by omega) (ih (i + 1) _ (by omega) (by simpa using hy) (fun j h => ?_)))))
    by_cases e : j = i
    · subst e
      rw [List.getElem?_set_self (by omega), List.getElem?_map, List.getElem?_eq_getElem hb, hc]
      rfl
    · rw [List.getElem?_set_ne (by omega)]
      exact hj j (by omega)
def ToE (n : Nat) : Prop := ∀ x : S26, SmE n x → Ev (fun k => laws_toExp.f k x.f0 x.f1 x.f2 x.f3 x.f4 x.f5) ((cvE n x).f0, (cvE n x).f1, (cvE n x).f2, (cvE n x).f3, (cvE n x).f4, (cvE n x).f5)
def ToD (n : Nat) : Prop := ∀ x : S63, SmD n x → Ev (fun k => laws_toDec.f k x.f0 x.f1 x.f2.f0 x.f2.f1 x.f2.f2 x.f2.f3 x.f2.f4 x.f2.f5 x.f3) ((cvD n x).f0, (cvD n x).f1, (cvD n x).f2.f0, (cvD n x).f2.f1, (cvD n x).f2.f2, (cvD n x).f2.f3, (cvD n x).f2.f4, (cvD n x).f2.f5, (cvD n x).f3)
def ToA (n : Nat) : Prop := ∀ x : S66, SmA n x → Ev (fun k => laws_toAlt.f k x.f0 x.f1 x.f2.f0 x.f2.f1 x.f2.f2 x.f2.f3 x.f2.f4 x.f2.f5) ((cvA n x).f0, (cvA n x).f1, (cvA n x).f2.f0, (cvA n x).f2.f1, (cvA n x).f2.f2, (cvA n x).f2.f3, (cvA n x).f2.f4, (cvA n x).f2.f5)
theorem toES {n : Nat} (h : ToE n) (l : List S26) (hl : l.length ≤ 1048576 ∧ ∀ x ∈ l, SmE n x) : Ev (fun k => laws_toExpS.f k l) (l.map (cvE n)) := by
  refine Ev.succ ?_
  simp only [laws_toExpS.f]
  exact Ev.pos (by omega) (Ev.pos (by omega) (to_gen (hc := fun _ => eta33 _) (F := fun k x => laws_toExp.f k x.f0 x.f1 x.f2 x.f3 x.f4 x.f5) (mk := fun b => (⟨b.1, b.2.1, b.2.2.1, b.2.2.2.1, b.2.2.2.2.1, b.2.2.2.2.2⟩ : S33)) (L := laws_toExpS.l0) (c := fun x => ((cvE n x).f0, (cvE n x).f1, (cvE n x).f2, (cvE n x).f3, (cvE n x).f4, (cvE n x).f5)) rd26 (fun _ _ _ _ => by rw [laws_toExpS.l0]) l hl.1 (fun x hx => h x (hl.2 x hx)) l.length 0 (List.replicate ((l.length : Int) : Int).toNat z33) (by omega) (by simp) (fun j hj => by omega)))
theorem toDS {n : Nat} (h : ToD n) (l : List S63) (hl : l.length ≤ 1048576 ∧ ∀ x ∈ l, SmD n x) : Ev (fun k => laws_toDecS.f k l) (l.map (cvD n)) := by
  refine Ev.succ ?_
  simp only [laws_toDecS.f]
  exact Ev.pos (by omega) (Ev.pos (by omega) (to_gen (hc := fun _ => eta68 _) (F := fun k x => laws_toDec.f k x.f0 x.f1 x.f2.f0 x.f2.f1 x.f2.f2 x.f2.f3 x.f2.f4 x.f2.f5 x.f3) (mk := fun b => (⟨b.1, b.2.1, (⟨b.2.2.1, b.2.2.2.1, b.2.2.2.2.1, b.2.2.2.2.2.1, b.2.2.2.2.2.2.1, b.2.2.2.2.2.2.2.1⟩ : S33), b.2.2.2.2.2.2.2.2⟩ : S68)) (L := laws_toDecS.l0) (c := fun x => ((cvD n x).f0, (cvD n x).f1, (cvD n x).f2.f0, (cvD n x).f2.f1, (cvD n x).f2.f2, (cvD n x).f2.f3, (cvD n x).f2.f4, (cvD n x).f2.f5, (cvD n x).f3)) rd63 (fun _ _ _ _ => by rw [laws_toDecS.l0]) l hl.1 (fun x hx => h x (hl.2 x hx)) l.length 0 (List.replicate ((l.length : Int) : Int).toNat z68) (by omega) (by simp) (fun j hj => by omega)))
theorem toAS {n : Nat} (h : ToA n) (l : List S66) (hl : l.length ≤ 1048576 ∧ ∀ x ∈ l, SmA n x) : Ev (fun k => laws_toAltS.f k l) (l.map (cvA n)) := by
  refine Ev.succ ?_
  simp only [laws_toAltS.f]
  exact Ev.pos (by omega) (Ev.pos (by omega) (to_gen (hc := fun _ => eta53 _) (F := fun k x => laws_toAlt.f k x.f0 x.f1 x.f2.f0 x.f2.f1 x.f2.f2 x.f2.f3 x.f2.f4 x.f2.f5) (mk := fun b => (⟨b.1, b.2.1, (⟨b.2.2.1, b.2.2.2.1, b.2.2.2.2.1, b.2.2.2.2.2.1, b.2.2.2.2.2.2.1, b.2.2.2.2.2.2.2⟩ : S33)⟩ : S53)) (L := laws_toAltS.l0) (c := fun x => ((cvA n x).f0, (cvA n x).f1, (cvA n x).f2.f0, (cvA n x).f2.f1, (cvA n x).f2.f2, (cvA n x).f2.f3, (cvA n x).f2.f4, (cvA n x).f2.f5)) rd66 (fun _ _ _ _ => by rw [laws_toAltS.l0]) l hl.1 (fun x hx => h x (hl.2 x hx)) l.length 0 (List.replicate ((l.length : Int) : Int).toNat z53) (by omega) (by simp) (fun j hj => by omega)))
theorem toT (l : List ByteArray) (hl : l.length ≤ 1048576) : Ev (fun k => laws_toStringS.f k l) l := Ev.of l.length (fun k hk => to_strs l hl k hk)
theorem to_all : ∀ n, ToE n ∧ ToD n ∧ ToA n
  | 0 => ⟨fun _ h => by simp [SmE] at h, fun _ h => by simp [SmD] at h, fun _ h => by simp [SmA] at h⟩
  | n + 1 => by
    obtain ⟨hE, hD, hA⟩ := to_all n
    refine ⟨fun x h => ?_, fun x h => ?_, fun x h => ?_⟩
    · simp only [SmE] at h
      refine Ev.succ ?_
      simp only [laws_toExp.f, cvE]
      exact Ev.bind (toES hE _ h.1) (Ev.bind (toDS hD _ h.2.1) (Ev.bind (toAS hA _ h.2.2) (Ev.const _)))
    · simp only [SmD] at h
      refine Ev.succ ?_
      simp only [laws_toDec.f, cvD]
      exact Ev.bind (toT _ h.1) (Ev.bind (hE _ h.2.1) (Ev.bind (toDS hD _ h.2.2) (Ev.const _)))
    · simp only [SmA] at h
      refine Ev.succ ?_
      simp only [laws_toAlt.f, cvA]
      exact Ev.bind (toT _ h.1) (Ev.bind (hE _ h.2) (Ev.const _))

/-! #### equality -/
mutual
def SqE : Nat → S33 → Prop
  | 0, _ => False
  | n + 1, x => (x.f3.length ≤ 1048576 ∧ ∀ y ∈ x.f3, SqE n y) ∧ (x.f4.length ≤ 1048576 ∧ ∀ y ∈ x.f4, SqD n y) ∧ (x.f5.length ≤ 1048576 ∧ ∀ y ∈ x.f5, SqA n y)
def SqD : Nat → S68 → Prop
  | 0, _ => False
  | n + 1, x => x.f1.length ≤ 1048576 ∧ SqE n x.f2 ∧ (x.f3.length ≤ 1048576 ∧ ∀ y ∈ x.f3, SqD n y)
def SqA : Nat → S53 → Prop
  | 0, _ => False
  | n + 1, x => x.f1.length ≤ 1048576 ∧ SqE n x.f2
end
theorem all_map {α β : Type} {f : α → β} {Q : α → Prop} {R : β → Prop} (h : ∀ x, Q x → R (f x)) {l : List α} (hl : l.length ≤ 1048576 ∧ ∀ x ∈ l, Q x) : (l.map f).length ≤ 1048576 ∧ ∀ y ∈ l.map f, R y :=
  ⟨by simpa using hl.1, fun y hy => by obtain ⟨x, hx, rfl⟩ := List.mem_map.1 hy; exact h x (hl.2 x hx)⟩
theorem sq_all : ∀ n, (∀ x, SmE n x → SqE n (cvE n x)) ∧ (∀ x, SmD n x → SqD n (cvD n x)) ∧ (∀ x, SmA n x → SqA n (cvA n x))
  | 0 => ⟨fun _ h => by simp [SmE] at h, fun _ h => by simp [SmD] at h, fun _ h => by simp [SmA] at h⟩
  | n + 1 => by
    obtain ⟨hE, hD, hA⟩ := sq_all n
    refine ⟨fun x h => ?_, fun x h => ?_, fun x h => ?_⟩
    · simp only [SmE] at h
      simp only [cvE, SqE]
      exact ⟨all_map hE h.1, all_map hD h.2.1, all_map hA h.2.2⟩
    · simp only [SmD] at h
      simp only [cvD, SqD]
      exact ⟨h.1, hE _ h.2.1, all_map hD h.2.2⟩
    · simp only [SmA] at h
      simp only [cvA, SqA]
      exact ⟨h.1, hE _ h.2⟩
end Go.Proofs.Ytpndcfibjjkgcaa.PIfg

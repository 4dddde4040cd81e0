/- FnHists in plain Lean: the histories that are drawn hold at most six texts on each side; forth undoes back. No condition. -/
import Derived.Test.YtfgeinfkffmcbaaPHistsx6
namespace Go.Proofs.Ytfgeinfkffmcbaa.Pure
open Go Go.RowKit Go.Proofs.Ytfgeinfkffmcbaa.PHists Go.Proofs.Ytfgeinfkffmcbaa.MyClone Go.Proofs.YtfgeinfkffmcbaaW.PrintWords Go.Proofs.YtfgeinfkffmcbaaW.PrintLast
set_option linter.unusedVariables false
set_option linter.unusedSimpArgs false
/-- With enough rounds: this result. -/
def Ev {α : Type} (g : Nat → Option α) (r : α) : Prop := ∃ K, ∀ k, K ≤ k → g k = some r
theorem Ev.const {α : Type} (r : α) : Ev (fun _ => some r) r := ⟨0, fun _ _ => rfl⟩
theorem Ev.all {α : Type} {g : Option α} {r : α} (h : g = some r) : Ev (fun _ => g) r := ⟨0, fun _ _ => h⟩
theorem Ev.succ {α : Type} {g : Nat → Option α} {r : α} (h : Ev (fun k => g (k + 1)) r) : Ev g r := by
  obtain ⟨K, h⟩ := h
  exact ⟨K + 1, fun k hk => by obtain ⟨m, rfl⟩ : ∃ m, k = m + 1 := ⟨k - 1, by omega⟩; exact h m (by omega)⟩
theorem Ev.bind {α β : Type} {g : Nat → Option α} {f : Nat → α → Option β} {a : α} {r : β} (h : Ev g a) (hf : Ev (fun k => f k a) r) : Ev (fun k => (g k).bind (f k)) r := by
  obtain ⟨K, h⟩ := h
  obtain ⟨L, hf⟩ := hf
  exact ⟨max K L, fun k hk => by show (g k).bind (f k) = some r; rw [h k (by omega)]; exact hf k (by omega)⟩
theorem Ev.pos {α : Type} {c : Prop} [Decidable c] {a b : Nat → Option α} {r : α} (hc : c) (h : Ev a r) : Ev (fun k => if c then a k else b k) r := by
  simpa only [if_pos hc] using h
theorem Ev.neg {α : Type} {c : Prop} [Decidable c] {a b : Nat → Option α} {r : α} (hc : ¬ c) (h : Ev b r) : Ev (fun k => if c then a k else b k) r := by
  simpa only [if_neg hc] using h
theorem wrap_succ {i : Nat} (h : i < 9223372036854775807) : wrap64 ((i : Int) + 1) = ((i + 1 : Nat) : Int) := by
  unfold wrap64; omega
theorem wrap_id {x : Int} (h0 : -9223372036854775808 ≤ x) (h1 : x ≤ 9223372036854775807) : wrap64 x = x := by unfold wrap64; omega
theorem rdOf_at (l : List ByteArray) (i : Nat) (h : i < l.length) : rdOf ByteArray.empty l (i : Int) = l[i] := by
  unfold rdOf
  rw [Int.toNat_natCast, List.getD_eq_getElem?_getD, List.getElem?_eq_getElem h]
  rfl
theorem and255 (x : Int) : 0 ≤ bits .and .i64 x 255 ∧ bits .and .i64 x 255 ≤ 255 := by
  have h : (BitVec.ofInt (IntKind.bits .i64) x &&& BitVec.ofInt (IntKind.bits .i64) 255).toNat ≤ 255 := by
    rw [BitVec.toNat_and]
    exact Nat.le_trans Nat.and_le_right (by decide)
  show 0 ≤ IntKind.wrap .i64 ((BitVec.ofInt (IntKind.bits .i64) x &&& BitVec.ofInt (IntKind.bits .i64) 255).toNat : Int) ∧ IntKind.wrap .i64 ((BitVec.ofInt (IntKind.bits .i64) x &&& BitVec.ofInt (IntKind.bits .i64) 255).toNat : Int) ≤ 255
  generalize (BitVec.ofInt (IntKind.bits .i64) x &&& BitVec.ofInt (IntKind.bits .i64) 255).toNat = m at h
  simp only [IntKind.wrap, IntKind.bits, IntKind.signed]
  simp
  omega

/-! #### what is drawn -/
theorem new_loop (l : List Int) : ∀ (d i : Nat) (h : Int), i + d = 4000 → ∃ h', Ev (fun k => spec_l1New.l0 k l h (i : Int)) (l, 0, h') := by
  intro d
  induction d with
  | zero =>
    intro i h hi
    refine ⟨h, Ev.succ ?_⟩
    simp only [spec_l1New.l0]
    by_cases c : (i : Int) < (l.length : Int)
    · exact Ev.pos c (Ev.neg (by omega) (Ev.const _))
    · exact Ev.neg c (Ev.const _)
  | succ d ih =>
    intro i h hi
    by_cases c : (i : Int) < (l.length : Int)
    · obtain ⟨h', hh⟩ := ih (i + 1) (Go.bits .and .i64 (wrap64 ((wrap64 ((wrap64 (h * 137)) + (wrap64 (rd l (i : Int))))) + 11)) 1073741823) (by omega)
      refine ⟨h', Ev.succ ?_⟩
      simp only [spec_l1New.l0, wrap_succ (by omega : i < 9223372036854775807)]
      exact Ev.pos c (Ev.pos (by omega) (Ev.pos (by omega) hh))
    · refine ⟨h, Ev.succ ?_⟩
      simp only [spec_l1New.l0]
      exact Ev.neg c (Ev.const _)
theorem new_ok (l : List Int) : ∃ h', Ev (fun k => spec_l1New.f k l) (l, 0, h') := new_loop l 4000 0 _ (by omega)
/-- Where a cursor stands. -/
def At (l : List Int) (i : Int) : Prop := 0 ≤ i ∧ i ≤ 1048576
theorem byte_ok (l : List Int) (hl : l.length ≤ 1048576) (i h : Int) (hi : At l i) : ∃ b i' h', spec_l1Byte.f l i h = some (b, i', h') ∧ 0 ≤ b ∧ b ≤ 255 ∧ At l i' := by
  unfold spec_l1Byte.f
  by_cases c : i < (l.length : Int)
  · rw [if_pos c, if_pos hi.1]
    exact ⟨_, _, _, rfl, (and255 _).1, (and255 _).2, by rw [wrap_id (by have := hi.1; omega) (by omega)]; exact ⟨by have := hi.1; omega, by omega⟩⟩
  · rw [if_neg c]
    exact ⟨_, _, _, rfl, (and255 _).1, (and255 _).2, hi⟩
theorem below_ok (l : List Int) (hl : l.length ≤ 1048576) (i h n : Int) (hi : At l i) (h0 : 0 < n) (h1 : n ≤ 256) : ∃ b i' h', spec_l1Below.f l i h n = some (b, i', h') ∧ 0 ≤ b ∧ b < n ∧ At l i' := by
  unfold spec_l1Below.f
  rw [if_neg (by omega), if_pos h1]
  obtain ⟨b, i', h', e, hb0, hb1, hi'⟩ := byte_ok l hl i h hi
  rw [e]
  refine ⟨Int.tmod b n, i', h', ?_, Int.tmod_nonneg _ hb0, Int.tmod_lt_of_pos _ h0, hi'⟩
  show (if n = 0 then none else some (Int.tmod b n, i', h')) = _
  rw [if_neg (by omega)]
theorem str_ok (l : List Int) (hl : l.length ≤ 1048576) (i h : Int) (q : List ByteArray) (hi : At l i) (h0 : 0 < q.length) (h1 : q.length ≤ 256) : ∃ s i' h', spec_l1Str.f l i h q = some (s, i', h') ∧ At l i' := by
  unfold spec_l1Str.f
  obtain ⟨b, i', h', e, hb0, hb1, hi'⟩ := below_ok l hl i h (q.length : Int) hi (by omega) (by omega)
  rw [e]
  refine ⟨rdOf ByteArray.empty q b, i', h', ?_, hi'⟩
  show (if 0 ≤ b then (if b < (q.length : Int) then some (rdOf ByteArray.empty q b, i', h') else none) else none) = _
  rw [if_pos hb0, if_pos hb1]
theorem copy_eq (p : List ByteArray) (t : ByteArray) (n : List ByteArray) (hp : p.length ≤ 6) (hn : n.length ≤ 6) : spec_l26Copy.f p t n = some (p, t, n) := by
  simp only [spec_l26Copy.f, Option.bind_some, List.length_nil, List.nil_append]
  rw [if_pos (by omega), if_pos (by omega)]
/-- The last six. -/
def six (l : List ByteArray) : List ByteArray := if l.length > 6 then l.drop 1 else l
theorem put_eq (p : List ByteArray) (t : ByteArray) (hp : p.length ≤ 6) : spec_l26Put.f p t = some (six (p ++ [t])) := by
  simp only [spec_l26Put.f, Option.bind_some, List.length_nil, List.nil_append]
  rw [if_pos (by omega), if_pos (by omega)]
  unfold six
  by_cases c : (p ++ [t]).length > 6
  · rw [if_pos (by omega), if_pos c, if_pos (by omega), if_pos (by simp; omega)]
  · rw [if_neg (by omega), if_neg c]
theorem six_le (p : List ByteArray) (t : ByteArray) (hp : p.length ≤ 6) : (six (p ++ [t])).length ≤ 6 := by
  unfold six
  split
  · simp; omega
  · omega
theorem six_pos (p : List ByteArray) (t : ByteArray) (hp : p.length ≤ 6) : 0 < (six (p ++ [t])).length := by
  unfold six
  split
  · rename_i h; simp at h ⊢; omega
  · simp
/-- A history that is right. -/
def Six (p n : List ByteArray) : Prop := p.length ≤ 6 ∧ n.length ≤ 6
theorem sback_ok (p : List ByteArray) (t : ByteArray) (n : List ByteArray) (h : Six p n) : ∃ p' t' n' b, spec_Back.f p t n = some (p', t', n', b) ∧ Six p' n' := by
  obtain ⟨hp, hn⟩ := h
  unfold spec_Back.f
  by_cases c : (p.length : Int) = 0
  · rw [if_pos c, copy_eq p t n hp hn]
    exact ⟨_, _, _, _, rfl, hp, hn⟩
  · rw [if_neg c]
    have e : wrap64 ((p.length : Int) - 1) = ((p.length - 1 : Nat) : Int) := by rw [wrap_id (by omega) (by omega)]; omega
    simp only [Option.bind_some, List.length_nil, List.nil_append, e, Int.toNat_natCast]
    rw [if_pos (by simp; omega)]
    by_cases c2 : ((([t] ++ n).length : Nat) : Int) > 6
    · have e2 : wrap64 (((([t] ++ n).length : Nat) : Int) - 1) = (((([t] ++ n).length) - 1 : Nat) : Int) := by rw [wrap_id (by omega) (by simp; omega)]; simp
      rw [if_pos c2, e2, if_pos (by omega), if_pos (by omega), Int.toNat_natCast, if_pos (by simp; omega), if_pos (by omega), if_pos (by omega), if_pos (by simp; omega), if_pos (by omega)]
      exact ⟨_, _, _, _, rfl, by simp; omega, by simp; omega⟩
    · rw [if_neg c2, if_pos (by omega), if_pos (by omega), if_pos (by simp; omega), if_pos (by omega)]
      exact ⟨_, _, _, _, rfl, by simp; omega, by omega⟩
theorem sforth_ok (p : List ByteArray) (t : ByteArray) (n : List ByteArray) (h : Six p n) : ∃ p' t' n' b, spec_Forth.f p t n = some (p', t', n', b) ∧ Six p' n' := by
  obtain ⟨hp, hn⟩ := h
  unfold spec_Forth.f
  by_cases c : (n.length : Int) = 0
  · rw [if_pos c, copy_eq p t n hp hn]
    exact ⟨_, _, _, _, rfl, hp, hn⟩
  · rw [if_neg c, put_eq p t hp]
    simp only [Option.bind_some, List.length_nil, List.nil_append]
    rw [if_pos (by omega), if_pos (by omega), if_pos (by simp; omega)]
    exact ⟨_, _, _, _, rfl, six_le p t hp, by simp; omega⟩
theorem spush_ok (p : List ByteArray) (t : ByteArray) (n : List ByteArray) (s : ByteArray) (h : Six p n) : ∃ p' t' n', spec_Push.f p t n s = some (p', t', n') ∧ Six p' n' := by
  unfold spec_Push.f
  rw [put_eq p t h.1]
  exact ⟨_, _, _, rfl, six_le p t h.1, by simp⟩
theorem draw_loop (l : List Int) (hl : l.length ≤ 1048576) : ∀ (d : Nat) (i h : Int) (p : List ByteArray) (t : ByteArray) (n : List ByteArray), d ≤ 100 → At l i → Six p n →
    ∃ p' t' n' i' h', Ev (fun k => spec_l26Draw.l0 k (d : Int) l i h p t n) (p', t', n', i', h') ∧ Six p' n' ∧ At l i' := by
  intro d
  induction d with
  | zero =>
    intro i h p t n _ hi hs
    refine ⟨p, t, n, i, h, Ev.succ ?_, hs, hi⟩
    simp only [spec_l26Draw.l0]
    exact Ev.neg (by omega) (Ev.const _)
  | succ d ih =>
    intro i h p t n hd hi hs
    have e : wrap64 (((d + 1 : Nat) : Int) - 1) = (d : Int) := by rw [wrap_id (by omega) (by omega)]; omega
    obtain ⟨b, i1, h1, e1, hb0, hb1, hi1⟩ := below_ok l hl i h 4 hi (by omega) (by omega)
    by_cases c : b = 0
    · obtain ⟨p1, t1, n1, b1, e2, hs1⟩ := sback_ok p t n hs
      obtain ⟨p', t', n', i', h', hev, hs', hi'⟩ := ih i1 h1 p1 t1 n1 (by omega) hi1 hs1
      refine ⟨p', t', n', i', h', Ev.succ ?_, hs', hi'⟩
      simp only [spec_l26Draw.l0, e]
      exact Ev.pos (by omega) (Ev.bind (Ev.all e1) (Ev.pos c (Ev.bind (Ev.all e2) hev)))
    · by_cases c2 : b = 1
      · obtain ⟨p1, t1, n1, b1, e2, hs1⟩ := sforth_ok p t n hs
        obtain ⟨p', t', n', i', h', hev, hs', hi'⟩ := ih i1 h1 p1 t1 n1 (by omega) hi1 hs1
        refine ⟨p', t', n', i', h', Ev.succ ?_, hs', hi'⟩
        simp only [spec_l26Draw.l0, e]
        exact Ev.pos (by omega) (Ev.bind (Ev.all e1) (Ev.neg c (Ev.pos c2 (Ev.bind (Ev.all e2) hev))))
      · obtain ⟨s, i2, h2, e2, hi2⟩ := str_ok l hl i1 h1 [(⟨#[97]⟩ : ByteArray), (⟨#[98]⟩ : ByteArray), (⟨#[99]⟩ : ByteArray), (⟨#[100]⟩ : ByteArray)] hi1 (by simp) (by simp)
        obtain ⟨p1, t1, n1, e3, hs1⟩ := spush_ok p t n s hs
        obtain ⟨p', t', n', i', h', hev, hs', hi'⟩ := ih i2 h2 p1 t1 n1 (by omega) hi2 hs1
        refine ⟨p', t', n', i', h', Ev.succ ?_, hs', hi'⟩
        simp only [spec_l26Draw.l0, e]
        exact Ev.pos (by omega) (Ev.bind (Ev.all e1) (Ev.neg c (Ev.neg c2 (Ev.bind (Ev.all e2) (Ev.bind (Ev.all e3) hev)))))
theorem drawn_ok (l : List Int) (hl : l.length ≤ 1048576) : ∃ p t n s, Ev (fun k => spec_DrawHist.f k l) (p, t, n, s) ∧ Six p n := by
  obtain ⟨h0, e0⟩ := new_ok l
  obtain ⟨b, i1, h1, e1, hb0, hb1, hi1⟩ := below_ok l hl 0 h0 14 ⟨by omega, by omega⟩ (by omega) (by omega)
  obtain ⟨p, t, n, i2, h2, e2, hs, hi2⟩ := draw_loop l hl b.toNat i1 h1 [] ⟨#[48]⟩ [] (by omega) hi1 ⟨by simp, by simp⟩
  rw [Int.toNat_of_nonneg hb0] at e2
  obtain ⟨s, i3, h3, e3, hi3⟩ := str_ok l hl i2 h2 [(⟨#[110, 101, 119]⟩ : ByteArray), (⟨#[97]⟩ : ByteArray)] hi2 (by simp) (by simp)
  refine ⟨p, t, n, s, ?_, hs⟩
  have e4 : Ev (fun k => spec_l26Draw.f k l 0 h0) (p, t, n, i2, h2) := by
    simp only [spec_l26Draw.f]
    exact Ev.bind (Ev.all rfl) (Ev.bind (Ev.all e1) e2)
  simp only [spec_DrawHist.f]
  exact Ev.bind e0 (Ev.bind e4 (Ev.bind (Ev.all e3) (Ev.const _)))

/-! #### the histories themselves -/
theorem clone_eq (l : List ByteArray) (h : l.length ≤ 7) : slices_Clone.f l = some l := by
  unfold slices_Clone.f
  rw [if_pos (by omega)]
theorem last_eq (l : List ByteArray) (h : l.length ≤ 7) : impl_last.f l = some (six l) := by
  unfold impl_last.f six
  have e : wrap64 ((l.length : Int) - 6) = (l.length : Int) - 6 := wrap_id (by omega) (by omega)
  rw [e]
  by_cases c : l.length > 6
  · have e1 : mx 0 ((l.length : Int) - 6) = 1 := by unfold mx; split <;> omega
    rw [e1, if_pos (by omega), if_pos (by omega), if_pos c]
    rfl
  · have e1 : mx 0 ((l.length : Int) - 6) = 0 := by unfold mx; split <;> omega
    rw [e1, if_pos (by omega), if_pos (by omega), if_neg c]
    rfl
theorem push_eq (p : List ByteArray) (t : ByteArray) (n : List ByteArray) (s : ByteArray) (hp : p.length ≤ 6) : impl_Push.f p t n s = some (six (p ++ [t]), s, []) := by
  simp only [impl_Push.f, clone_eq p (by omega), Option.bind_some]
  rw [if_pos (by simp; omega), last_eq _ (by simp; omega)]
  rfl
theorem cloned_eq (p : List ByteArray) (t : ByteArray) (n : List ByteArray) (h : Six p n) : impl_cloneHist.f p t n = some (p, t, n) := by
  simp only [impl_cloneHist.f, clone_eq p (by have := h.1; omega), clone_eq n (by have := h.2; omega), Option.bind_some]
theorem back_nil (t : ByteArray) (n : List ByteArray) (h : n.length ≤ 6) : impl_Back.f [] t n = some ([], t, n, false) := by
  simp only [impl_Back.f, cloned_eq [] t n ⟨by simp, h⟩, Option.bind_some]
  rw [if_pos (by simp)]
theorem back_eq (q : List ByteArray) (a t : ByteArray) (n : List ByteArray) (hq : q.length ≤ 5) (hn : n.length ≤ 6) : impl_Back.f (q ++ [a]) t n = some (q, a, ([t] ++ n).take 6, true) := by
  have e : wrap64 (((q ++ [a]).length : Int) - 1) = (q.length : Int) := by rw [wrap_id (by simp; try omega) (by simp; try omega)]; simp
  simp only [impl_Back.f, cloned_eq (q ++ [a]) t n ⟨by simp; omega, hn⟩, Option.bind_some, e, Int.toNat_natCast]
  rw [if_neg (by simp; try omega), if_pos (by omega), if_pos (by simp; try omega), if_pos (by simp; try omega), if_pos (by simp; try omega)]
  have e2 : 0 ≤ mn ((([t] ++ n).length : Nat) : Int) 6 := by unfold mn; split <;> omega
  have e3 : mn ((([t] ++ n).length : Nat) : Int) 6 ≤ ((([t] ++ n).length : Nat) : Int) := by unfold mn; split <;> omega
  rw [if_pos e2, if_pos e3]
  have e4 : ([t] ++ n).take (mn ((([t] ++ n).length : Nat) : Int) 6).toNat = ([t] ++ n).take 6 := by
    by_cases c : ([t] ++ n).length ≤ 6
    · have : mn ((([t] ++ n).length : Nat) : Int) 6 = ((([t] ++ n).length : Nat) : Int) := by unfold mn; split <;> omega
      rw [this, Int.toNat_natCast, List.take_length, List.take_of_length_le c]
    · have : mn ((([t] ++ n).length : Nat) : Int) 6 = 6 := by unfold mn; split <;> omega
      rw [this]
      rfl
  have e5 : rdOf ByteArray.empty (q ++ [a]) (q.length : Int) = a := by rw [rdOf_at _ _ (by simp)]; simp
  rw [e4, e5, List.take_left]
theorem forth_nil (p : List ByteArray) (t : ByteArray) (hp : p.length ≤ 6) : impl_Forth.f p t [] = some (p, t, [], false) := by
  simp only [impl_Forth.f, cloned_eq p t [] ⟨hp, by simp⟩, Option.bind_some]
  rw [if_pos (by simp)]
theorem forth_eq (p : List ByteArray) (t a : ByteArray) (n : List ByteArray) (hp : p.length ≤ 6) (hn : n.length ≤ 5) : impl_Forth.f p t (a :: n) = some (six (p ++ [t]), a, n, true) := by
  simp only [impl_Forth.f, cloned_eq p t (a :: n) ⟨hp, by simp; omega⟩, Option.bind_some]
  rw [if_neg (by simp; try omega), if_pos (by simp; try omega), if_pos (by simp; try omega), if_pos (by omega), last_eq _ (by simp; omega)]
  rfl
theorem six_small (l : List ByteArray) (h : l.length ≤ 6) : six l = l := by unfold six; rw [if_neg (by omega)]
theorem six_last (p : List ByteArray) (t : ByteArray) (hp : p.length ≤ 6) : ∃ q, six (p ++ [t]) = q ++ [t] ∧ q.length ≤ 5 := by
  unfold six
  by_cases c : (p ++ [t]).length > 6
  · rw [if_pos c]
    simp at c
    refine ⟨p.drop 1, ?_, by simp; omega⟩
    rw [List.drop_append_of_le_length (by omega)]
  · rw [if_neg c]
    simp at c
    exact ⟨p, rfl, by omega⟩
theorem same_loop (l : List ByteArray) (hl : l.length ≤ 6) : ∀ (d i : Nat), i + d = l.length → Ev (fun k => laws_sameTexts.l0 k l l (i : Int)) true := by
  intro d
  induction d with
  | zero =>
    intro i hi
    refine Ev.succ ?_
    simp only [laws_sameTexts.l0]
    exact Ev.neg (by omega) (Ev.const _)
  | succ d ih =>
    intro i hi
    refine Ev.succ ?_
    simp only [laws_sameTexts.l0, wrap_succ (by omega : i < 9223372036854775807)]
    exact Ev.pos (by omega) (Ev.pos (by omega) (Ev.pos (by omega) (Ev.pos (by trivial) (ih (i + 1) (by omega)))))
theorem same_eq (l : List ByteArray) (hl : l.length ≤ 6) : Ev (fun k => laws_sameTexts.f k l l) true := by
  simp only [laws_sameTexts.f]
  exact Ev.pos (by trivial) (same_loop l hl l.length 0 (by omega))
theorem law (l : List Int) : Ev (fun k => laws_FnHists.f k l) true := by
  simp only [laws_FnHists.f]
  refine Ev.bind (a := decide ((l.length : Int) > 1048576)) (Ev.all rfl) ?_
  by_cases c : (l.length : Int) > 1048576
  · exact Ev.pos (decide_eq_true c) (Ev.const _)
  refine Ev.neg (by simpa using c) ?_
  obtain ⟨p, t, n, s, e0, hp, hn⟩ := drawn_ok l (by omega)
  refine Ev.bind e0 ?_
  obtain ⟨q, hq, hq5⟩ := six_last p t hp
  have e1 := push_eq p t n s hp
  rw [hq] at e1
  refine Ev.bind (Ev.all e1) ?_
  have e2 : impl_Back.f (q ++ [t]) s [] = some (q, t, [s], true) := back_eq q t s [] hq5 (by simp)
  refine Ev.bind (Ev.all e2) ?_
  have e3 : impl_Forth.f q t [s] = some (q ++ [t], s, [], true) := by
    rw [forth_eq q t s [] (by omega) (by simp), six_small _ (by simp; omega)]
  refine Ev.bind (Ev.all e3) ?_
  have e4 : impl_Forth.f (q ++ [t]) s [] = some (q ++ [t], s, [], false) := forth_nil _ _ (by simp; omega)
  refine Ev.bind (Ev.all e4) ?_
  have e5 : impl_HistNew.f s = some ([], s, []) := rfl
  refine Ev.bind (Ev.all e5) ?_
  have e6 : impl_Back.f [] s [] = some ([], s, [], false) := back_nil s [] (by simp)
  refine Ev.bind (Ev.all e6) ?_
  have ok1 : impl_HistOk.f (q ++ [t]) s [] = some true := by
    unfold impl_HistOk.f
    rw [if_pos (by simp; omega)]
    rfl
  have ok2 : impl_HistOk.f q t [s] = some true := by
    unfold impl_HistOk.f
    rw [if_pos (by omega)]
    rfl
  have hs1 := same_eq (q ++ [t]) (by simp; omega)
  rcases List.eq_nil_or_concat p with rfl | ⟨p', a, rfl⟩
  · have e7 : impl_Back.f [] t n = some ([], t, n, false) := back_nil t n hn
    refine Ev.bind (Ev.all e7) ?_
    obtain ⟨f1, f2, f3, f4, e8⟩ : ∃ f1 f2 f3 f4, impl_Forth.f [] t n = some (f1, f2, f3, f4) := by
      cases n with
      | nil => exact ⟨_, _, _, _, forth_nil [] t (by simp)⟩
      | cons b n => exact ⟨_, _, _, _, forth_eq [] t b n (by simp) (by simp at hn; omega)⟩
    refine Ev.bind (Ev.all e8) ?_
    refine Ev.pos (by first | rfl | trivial) (Ev.pos (by first | rfl | trivial) (Ev.neg (by simp) (Ev.neg (by simp) (Ev.pos (by first | rfl | trivial) (Ev.pos (by first | rfl | trivial) (Ev.bind (Ev.all ok1) (Ev.pos (by first | rfl | trivial) (Ev.bind (Ev.all ok2) (Ev.pos (by first | rfl | trivial) ?_)))))))))
    refine Ev.succ ?_
    simp only [laws_FnHists.j0]
    exact Ev.neg (by simp) (Ev.pos (by first | rfl | trivial) (Ev.bind hs1 (Ev.pos (by first | rfl | trivial) (Ev.pos (by first | rfl | trivial) (Ev.neg (by simp) (Ev.const _))))))
  · rw [List.concat_eq_append] at *
    have hp5 : p'.length ≤ 5 := by simp at hp; omega
    have e7 : impl_Back.f (p' ++ [a]) t n = some (p', a, ([t] ++ n).take 6, true) := back_eq p' a t n hp5 hn
    refine Ev.bind (Ev.all e7) ?_
    have e8 : impl_Forth.f p' a (([t] ++ n).take 6) = some (p' ++ [a], t, n.take 5, true) := by
      have : ([t] ++ n).take 6 = t :: n.take 5 := rfl
      rw [this, forth_eq p' a t (n.take 5) (by omega) (by simp; omega), six_small _ (by simp; omega)]
    refine Ev.bind (Ev.all e8) ?_
    refine Ev.pos (by first | rfl | trivial) (Ev.pos (by first | rfl | trivial) (Ev.neg (by simp) (Ev.neg (by simp) (Ev.pos (by first | rfl | trivial) (Ev.pos (by first | rfl | trivial) (Ev.bind (Ev.all ok1) (Ev.pos (by first | rfl | trivial) (Ev.bind (Ev.all ok2) (Ev.pos (by first | rfl | trivial) ?_)))))))))
    refine Ev.succ ?_
    simp only [laws_FnHists.j0]
    exact Ev.neg (by simp) (Ev.pos (by first | rfl | trivial) (Ev.bind hs1 (Ev.pos (by first | rfl | trivial) (Ev.pos (by first | rfl | trivial) (Ev.pos (by first | rfl | trivial) (Ev.pos (by first | rfl | trivial) (Ev.pos (by first | rfl | trivial) (Ev.bind (same_eq (p' ++ [a]) hp) (Ev.const _)))))))))
theorem FnHists : laws_FnHists.Pure := by
  intro l _ _ _
  obtain ⟨K, h⟩ := law l
  exact ⟨K, h K (Nat.le_refl _)⟩
end Go.Proofs.Ytfgeinfkffmcbaa.Pure

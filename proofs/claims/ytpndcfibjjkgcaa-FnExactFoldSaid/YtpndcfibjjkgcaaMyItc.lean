/- Copies as items: which items stand for which value; what a copy's contract says. No condition. -/
import Derived.Test.YtpndcfibjjkgcaaPIfgx0
import Derived.Test.YtpndcfibjjkgcaaMyIt
import Derived.Test.YtpndcfibjjkgcaaMyClone
import Derived.Test.YtpndcfibjjkgcaaMyFnc
namespace Go.Proofs.Ytpndcfibjjkgcaa.MyItc
open Go Go.RowKit Go.Proofs.YtpndcfibjjkgcaaW.PrintWords Go.Proofs.YtpndcfibjjkgcaaW.PrintLast Go.Proofs.YtpndcfibjjkgcaaW.PrintMore Go.Proofs.Ytpndcfibjjkgcaa.PIfg Go.Proofs.Ytpndcfibjjkgcaa.MyClone
set_option linter.unusedVariables false
set_option linter.unusedSimpArgs false
mutual
inductive RepE : S33 → List It → Prop where
  | mk {x : S33} {v3 v4 v5 : Value} {i3 i4 i5 : List It} : RepEs x.f3 i3 → RepDs x.f4 i4 → RepAs x.f5 i5 → RepE x [.i x.f0, .s x.f1, .i x.f2, .r 33 6 v3 x.f3.length i3, .r 68 9 v4 x.f4.length i4, .r 53 8 v5 x.f5.length i5]
inductive RepEs : List S33 → List It → Prop where
  | nil : RepEs [] []
  | cons {x : S33} {i : List It} {l : List S33} {j : List It} : RepE x i → RepEs l j → RepEs (x :: l) (i ++ j)
inductive RepD : S68 → List It → Prop where
  | mk {x : S68} {v1 v8 : Value} {iE i8 : List It} : RepE x.f2 iE → RepDs x.f3 i8 → RepD x (.s x.f0 :: .r 9 1 v1 x.f1.length (x.f1.map It.s) :: (iE ++ [.r 68 9 v8 x.f3.length i8]))
inductive RepDs : List S68 → List It → Prop where
  | nil : RepDs [] []
  | cons {x : S68} {i : List It} {l : List S68} {j : List It} : RepD x i → RepDs l j → RepDs (x :: l) (i ++ j)
inductive RepA : S53 → List It → Prop where
  | mk {x : S53} {v1 : Value} {iE : List It} : RepE x.f2 iE → RepA x (.s x.f0 :: .r 9 1 v1 x.f1.length (x.f1.map It.s) :: iE)
inductive RepAs : List S53 → List It → Prop where
  | nil : RepAs [] []
  | cons {x : S53} {i : List It} {l : List S53} {j : List It} : RepA x i → RepAs l j → RepAs (x :: l) (i ++ j)
end
theorem RepEs.snoc : ∀ {l : List S33} {j : List It} {x : S33} {i : List It}, RepEs l j → RepE x i → RepEs (l ++ [x]) (j ++ i)
  | _, _, _, i, .nil, h => by have := RepEs.cons h .nil; rwa [List.append_nil] at this
  | _, _, _, _, .cons h0 h1, h => by rw [List.cons_append, List.append_assoc]; exact .cons h0 (h1.snoc h)
theorem RepDs.snoc : ∀ {l : List S68} {j : List It} {x : S68} {i : List It}, RepDs l j → RepD x i → RepDs (l ++ [x]) (j ++ i)
  | _, _, _, i, .nil, h => by have := RepDs.cons h .nil; rwa [List.append_nil] at this
  | _, _, _, _, .cons h0 h1, h => by rw [List.cons_append, List.append_assoc]; exact .cons h0 (h1.snoc h)
theorem RepAs.snoc : ∀ {l : List S53} {j : List It} {x : S53} {i : List It}, RepAs l j → RepA x i → RepAs (l ++ [x]) (j ++ i)
  | _, _, _, i, .nil, h => by have := RepAs.cons h .nil; rwa [List.append_nil] at this
  | _, _, _, _, .cons h0 h1, h => by rw [List.cons_append, List.append_assoc]; exact .cons h0 (h1.snoc h)
/-- These items' rows lie apart, from lo on and below hi. -/
structure Part (lo hi : Nat) (l : List It) : Prop where
  nd : (blksL l).Nodup
  ge : ∀ b ∈ blksL l, lo ≤ b
  lt : ∀ b ∈ blksL l, b < hi
theorem Part.nil (lo hi : Nat) : Part lo hi [] := ⟨by simp [blksL], by simp [blksL], by simp [blksL]⟩
theorem Part.join {a b c : Nat} {l m : List It} (h : Part a b l) (k : Part b c m) (hab : a ≤ b) (hbc : b ≤ c) : Part a c (l ++ m) := by
  refine ⟨?_, fun x hx => ?_, fun x hx => ?_⟩ <;> rw [blksL_app] at *
  · exact List.nodup_append.2 ⟨h.nd, k.nd, fun x hx y hy e => by have := h.lt x hx; have := k.ge y hy; omega⟩
  · rcases List.mem_append.1 hx with hx | hx
    · exact h.ge x hx
    · exact Nat.le_trans hab (k.ge x hx)
  · rcases List.mem_append.1 hx with hx | hx
    · exact Nat.lt_of_lt_of_le (h.lt x hx) hbc
    · exact k.lt x hx
theorem Part.wide {a b a' b' : Nat} {l : List It} (h : Part a b l) (ha : a' ≤ a) (hb : b ≤ b') : Part a' b' l := ⟨h.nd, fun x hx => Nat.le_trans ha (h.ge x hx), fun x hx => Nat.lt_of_lt_of_le (h.lt x hx) hb⟩
/-- A copy of texts. -/
theorem str_row {w : World} {base : Nat} {ok : Nat → Prop} {v : Value} {l : List ByteArray} (h : Kd.R Kd.string 9 w base ok v l) : AtL w [.r 9 1 v l.length (l.map It.s)] ∧ Part base w.heap.size [.r 9 1 v l.length (l.map It.s)] := by
  have ho := Kd.own_of_R h
  have e : (l.map It.s).map It.val = encs Value.string l := by simp [encs, List.map_map, Function.comp_def, It.val]
  have hb : blksL (l.map It.s) = [] := by
    clear ho e h
    induction l with
    | nil => simp [blksL]
    | cons x l ih => simp [blksL, It.blks, ih]
  have ha : AtL w (l.map It.s) := by
    clear ho e h hb
    induction l with
    | nil => simp [AtL]
    | cons x l ih => simp [AtL, It.At, ih]
  have hA : AtL w [.r 9 1 v l.length (l.map It.s)] := by
    simp only [AtL, It.At, and_true]
    exact ⟨by simp, by rw [e]; exact own_weaken ho (Nat.zero_le _), ha⟩
  refine ⟨hA, ⟨?_, fun b hx => ?_, fun b hx => (AtL_blk _ hA b hx).1⟩⟩
  · simp only [blksL, It.blks, hb, List.append_nil]
    cases v.ownBlock <;> simp
  · simp only [blksL, It.blks, hb, List.append_nil] at hx
    exact own_base ho b (by simpa using hx)
abbrev rows3 (A3 : Option Addr) (n3 c3 : Nat) (i3 : List It) (A4 : Option Addr) (n4 c4 : Nat) (i4 : List It) (A5 : Option Addr) (n5 c5 : Nat) (i5 : List It) : List It := [.r 33 6 (.slice A3 n3 c3) n3 i3, .r 68 9 (.slice A4 n4 c4) n4 i4, .r 53 8 (.slice A5 n5 c5) n5 i5]
/-- What a copy of an expression comes to: its three rows, made from lo on. -/
structure CopE (lo : Nat) (w : World) (l3 : List S33) (l4 : List S68) (l5 : List S53) (A3 : Option Addr) (c3 : Nat) (i3 : List It) (A4 : Option Addr) (c4 : Nat) (i4 : List It) (A5 : Option Addr) (c5 : Nat) (i5 : List It) : Prop where
  at_ : AtL w (rows3 A3 l3.length c3 i3 A4 l4.length c4 i4 A5 l5.length c5 i5)
  part : Part lo w.heap.size (rows3 A3 l3.length c3 i3 A4 l4.length c4 i4 A5 l5.length c5 i5)
  r3 : RepEs l3 i3
  r4 : RepDs l4 i4
  r5 : RepAs l5 i5
structure CopD (lo : Nat) (w : World) (l : List S68) (A : Option Addr) (c : Nat) (i : List It) : Prop where
  at_ : AtL w [.r 68 9 (.slice A l.length c) l.length i]
  part : Part lo w.heap.size [.r 68 9 (.slice A l.length c) l.length i]
  rd : RepDs l i
abbrev ArgE (w : World) (A0_3 : Option Addr) (c0_3 : Nat) (l0_3 : List S33) (A0_4 : Option Addr) (c0_4 : Nat) (l0_4 : List S68) (A0_5 : Option Addr) (c0_5 : Nat) (l0_5 : List S53) : Prop := (Kd.C k33 w A0_3 l0_3.length l0_3 ∧ l0_3.length ≤ c0_3) ∧ (Kd.C k68 w A0_4 l0_4.length l0_4 ∧ l0_4.length ≤ c0_4) ∧ (Kd.C k53 w A0_5 l0_5.length l0_5 ∧ l0_5.length ≤ c0_5)
abbrev BackE (lo : Nat) (a0_0 : Int) (a0_1 : ByteArray) (a0_2 : Int) (l0_3 : List S33) (l0_4 : List S68) (l0_5 : List S53) (w : World) (e : Ending) (w' : World) : Prop := ∃ (A3 : Option Addr) (c3 : Nat) (i3 : List It) (A4 : Option Addr) (c4 : Nat) (i4 : List It) (A5 : Option Addr) (c5 : Nat) (i5 : List It), e = .returned (.agg #[.int .i64 a0_0, .string a0_1, .int .i64 a0_2, .slice A3 l0_3.length c3, .slice A4 l0_4.length c4, .slice A5 l0_5.length c5]) ∧ CopE lo w' l0_3 l0_4 l0_5 A3 c3 i3 A4 c4 i4 A5 c5 i5 ∧ Below w.heap.size w w'
theorem take_snoc {α : Type} (l : List α) (i : Nat) (h : i < l.length) : l.take (i + 1) = l.take i ++ [l[i]] := by rw [List.take_succ_eq_append_getElem h]
end Go.Proofs.Ytpndcfibjjkgcaa.MyItc
namespace Go.Proofs.Ytpndcfibjjkgcaa.MyItc
open Go Go.RowKit Go.Proofs.YtpndcfibjjkgcaaW.PrintWords
theorem AtL_set {w : World} {l : List It} {g : Nat} (h : AtL w l) (hn : ∀ b ∈ blksL l, b ≠ g) (j : Nat) (u : Value) : AtL (w.setCell ⟨g, j, none⟩ u) l := AtL_move l h (fun b hb => Below.heap_setCell _ _ _ _ (hn b hb))
theorem AtL_grown {w w1 : World} {l : List It} {row : Option Nat} (h : AtL w l) (hg : w.grownBy w1 row) (hn : ∀ b ∈ blksL l, some b ≠ row) : AtL w1 l := AtL_move l h (fun b hb => hg.block b (AtL_blk l h b hb).1 (hn b hb))
theorem clone_some {l t : List ByteArray} (h : Go.Proofs.Ytpndcfibjjkgcaa.MyClone.slices_Clone.f l = some t) : t = l := by
  unfold Go.Proofs.Ytpndcfibjjkgcaa.MyClone.slices_Clone.f at h
  split at h
  · exact (Option.some.inj h).symm
  · cases h
theorem rdE_at (l : List Go.Proofs.Ytpndcfibjjkgcaa.PIfg.S33) (x : Int) (j : Nat) (hx : x = (j : Int)) (h : j < l.length) : Go.Proofs.Ytpndcfibjjkgcaa.PIfg.rd_T33 l x = l[j] := by
  rw [hx]; unfold Go.Proofs.Ytpndcfibjjkgcaa.PIfg.rd_T33; rw [Int.toNat_natCast, List.getD_eq_getElem?_getD, List.getElem?_eq_getElem h]; rfl
theorem rdA_at (l : List Go.Proofs.Ytpndcfibjjkgcaa.PIfg.S53) (x : Int) (j : Nat) (hx : x = (j : Int)) (h : j < l.length) : Go.Proofs.Ytpndcfibjjkgcaa.PIfg.rd_T53 l x = l[j] := by
  rw [hx]; unfold Go.Proofs.Ytpndcfibjjkgcaa.PIfg.rd_T53; rw [Int.toNat_natCast, List.getD_eq_getElem?_getD, List.getElem?_eq_getElem h]; rfl
theorem nodup_more {X : List (List It)} {el : List It} {a b : Nat} (h : (blksL X.flatten).Nodup) (hp : Part a b el) (hX : ∀ c ∈ blksL X.flatten, c < a) : (blksL (X ++ [el]).flatten).Nodup := by
  rw [List.flatten_append, blksL_app]
  refine List.nodup_append.2 ⟨h, by simpa [List.flatten_cons] using hp.nd, fun x hx y hy e => ?_⟩
  have h1 := hX x hx
  have h2 := hp.ge y (by simpa [List.flatten_cons] using hy)
  omega
end Go.Proofs.Ytpndcfibjjkgcaa.MyItc
namespace Go.Proofs.Ytpndcfibjjkgcaa.MyItc
open Go Go.RowKit Go.Proofs.YtpndcfibjjkgcaaW.PrintWords
theorem AtL_drew {w : World} {l : List It} (h : AtL w l) : AtL w.drew l := AtL_below h (below_drew (Below.refl _ _))
theorem row_below {n e : Nat} {w w1 : World} {base : Nat} {ok : Nat → Prop} {v : Value} {xs : List (List It)} (h : (Kd.it n).R e w base ok v xs) (hb : Below w.heap.size w w1) (he : e = 9 ∨ e = 33 ∨ e = 53 ∨ e = 68) (hn : (blksL xs.flatten).Nodup) :
    AtL w1 [.r e n v xs.length xs.flatten] ∧ (∀ b ∈ blksL [.r e n v xs.length xs.flatten], ok b) ∧ Part base w.heap.size [.r e n v xs.length xs.flatten] :=
  have hr := Kd.it_row h he
  ⟨AtL_below hr.1 hb, fun b hb => (hr.2.1 b hb).1, hr.2.2 hn, fun b hb => (hr.2.1 b hb).2, fun b hb => (AtL_blk _ hr.1 b hb).1⟩
theorem lt_of_blk {w w1 : World} {g : Nat} {o : Obj} (h : w.heap[g]? = some o) (_hb : Below w.heap.size w w1) : g < w.heap.size := blk_lt h
end Go.Proofs.Ytpndcfibjjkgcaa.MyItc
namespace Go.Proofs.Ytpndcfibjjkgcaa.MyItc
open Go Go.RowKit Go.Proofs.YtpndcfibjjkgcaaW.PrintWords
/-- These items are in place, and the heap is not shorter than this. -/
structure Keep (Q : List It) (mid : Nat) (w : World) : Prop where
  at_ : AtL w Q
  ge : mid ≤ w.heap.size
section
variable {Q : List It} {mid : Nat} {w w1 : World}
theorem Keep.below (h : Keep Q mid w) (hb : Below w.heap.size w w1) : Keep Q mid w1 := ⟨AtL_below h.at_ hb, Nat.le_trans h.ge hb.size⟩
theorem Keep.alloc (h : Keep Q mid w) (o : Obj) : Keep Q mid (w.alloc o) := h.below (below_alloc (Below.refl _ _) o)
theorem Keep.drew (h : Keep Q mid w) : Keep Q mid w.drew := h.below (below_drew (Below.refl _ _))
theorem Keep.drewN (h : Keep Q mid w) (m : Nat) : Keep Q mid (w.drewN m) := h.below (pw_below_drewN (Below.refl _ _) m)
theorem Keep.set {g : Nat} (h : Keep Q mid w) (hn : ∀ b ∈ blksL Q, b ≠ g) (j : Nat) (u : Value) : Keep Q mid (w.setCell ⟨g, j, none⟩ u) := ⟨AtL_set h.at_ hn j u, Nat.le_trans h.ge (Nat.le_of_eq (by simp [World.setCell]))⟩
theorem Keep.grown {row : Option Nat} (h : Keep Q mid w) (hg : w.grownBy w1 row) (hn : ∀ b ∈ blksL Q, some b ≠ row) : Keep Q mid w1 := ⟨AtL_grown h.at_ hg hn, Nat.le_trans h.ge hg.size⟩
theorem Keep.le {g : Nat} (h : Keep Q mid w) (hg : g = w.heap.size) : mid ≤ g := hg ▸ h.ge
end
end Go.Proofs.Ytpndcfibjjkgcaa.MyItc
namespace Go.Proofs.Ytpndcfibjjkgcaa.MyItc
open Go Go.RowKit Go.Proofs.YtpndcfibjjkgcaaW.PrintWords
section
variable {lo lo' : Nat} {w w1 : World} {l3 : List Go.Proofs.Ytpndcfibjjkgcaa.PIfg.S33} {l4 : List Go.Proofs.Ytpndcfibjjkgcaa.PIfg.S68} {l5 : List Go.Proofs.Ytpndcfibjjkgcaa.PIfg.S53} {A3 A4 A5 : Option Addr} {c3 c4 c5 : Nat} {i3 i4 i5 : List It}
theorem CopE.low (h : CopE lo w l3 l4 l5 A3 c3 i3 A4 c4 i4 A5 c5 i5) (hl : lo' ≤ lo) : CopE lo' w l3 l4 l5 A3 c3 i3 A4 c4 i4 A5 c5 i5 := ⟨h.at_, h.part.wide hl (Nat.le_refl _), h.r3, h.r4, h.r5⟩
theorem CopE.below (h : CopE lo w l3 l4 l5 A3 c3 i3 A4 c4 i4 A5 c5 i5) (hb : Below w.heap.size w w1) : CopE lo w1 l3 l4 l5 A3 c3 i3 A4 c4 i4 A5 c5 i5 := ⟨AtL_below h.at_ hb, h.part.wide (Nat.le_refl _) hb.size, h.r3, h.r4, h.r5⟩
theorem CopE.set {g : Nat} (h : CopE lo w l3 l4 l5 A3 c3 i3 A4 c4 i4 A5 c5 i5) (hg : g < lo) (j : Nat) (u : Value) : CopE lo (w.setCell ⟨g, j, none⟩ u) l3 l4 l5 A3 c3 i3 A4 c4 i4 A5 c5 i5 :=
  ⟨AtL_set h.at_ (fun b hb => by have := h.part.ge b hb; omega) j u, h.part.wide (Nat.le_refl _) (Nat.le_of_eq (by simp [World.setCell])), h.r3, h.r4, h.r5⟩
end
end Go.Proofs.Ytpndcfibjjkgcaa.MyItc

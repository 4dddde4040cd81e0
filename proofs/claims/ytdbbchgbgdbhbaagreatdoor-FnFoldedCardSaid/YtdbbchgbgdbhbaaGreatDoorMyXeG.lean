/- What the exact run is told ahead is so: at, big, digits, Lex, Atoi on the law's numbers and text. Conditions: the code can be read and has at most 1048576 bytes. -/
import Derived.Test.YtdbbchgbgdbhbaaGreatDoorMyXeC
import Derived.Test.YtdbbchgbgdbhbaaGreatDoorPureLex
import Derived.Test.YtdbbchgbgdbhbaaGreatDoorShelf
set_option linter.unusedVariables false
set_option linter.unusedSimpArgs false
namespace Go.Proofs.YtdbbchgbgdbhbaaGreatDoor.Xe
open Go Go.RowKit Go.Proofs.YtdbbchgbgdbhbaaGreatDoor.PSpo Go.Proofs.YtdbbchgbgdbhbaaGreatDoor.PAt Go.Proofs.YtdbbchgbgdbhbaaGreatDoorW.PrintWords Go.Proofs.YtdbbchgbgdbhbaaGreatDoorW.PrintLast
open Go.Proofs.YtdbbchgbgdbhbaaGreatDoor.Pure (bs Ev Num OpL dg textL tokL)

/-! ### The world -/
def gh (w0 : World) : Gh where
  b0 := w0.heap.size
  J := fun w => Below w0.heap.size w0 w
  keep := fun w w' hB ho hk => ⟨ho.1.trans hB.os, ho.2.1.trans hB.tape, ho.2.2.trans hB.output, by
    rcases Nat.eq_zero_or_pos w0.heap.size with h | h
    · omega
    · have h1 : w0.heap.size - 1 < w0.heap.size := by omega
      have h2 := (hk _ h1).trans (hB.block _ h1)
      rw [Array.getElem?_eq_getElem h1] at h2
      have := (Array.getElem?_eq_some_iff.1 h2).1
      omega, fun k hk' => (hk k hk').trans (hB.block k hk')⟩

section
variable {γ : Gs} {g : Gh} {β : Bm} {hp : Rd} {nx : Nat} {w w' : World}

theorem WOk.below (W : WOk γ g β hp w) (hB : Below w.heap.size w w') : WOk γ g β hp w' where
  j := g.keep w w' W.j ⟨hB.os, hB.tape, hB.output⟩ fun b hb => hB.block b (Nat.lt_of_lt_of_le hb W.b0)
  b0 := Nat.le_trans W.b0 hB.size
  blk := fun id blk hid => (W.blk id blk hid).up (Ble.refl _) fun bk sz hβ => by
    obtain ⟨bk', sz', e, hlt, -⟩ := (W.blk id blk hid).lt
    rw [hβ] at e
    cases e
    exact hB.block bk hlt
  inj := W.inj

theorem Mv.below (hB : Below w.heap.size w w') : Mv hp nx β w hp nx β w' where
  ext := Ble.refl _
  rng := fun _ _ => rfl
  le := Nat.le_refl _
  size := hB.size
  keep := fun b hb _ => hB.block b hb
  new := fun id blk bk sz h h' => .inr ⟨id, blk, sz, h, h'⟩

/-- A block that a callee has made gets a name. -/
theorem named (W : WOk γ g β hp w) (hB : Below w.heap.size w w') (hf : β nx = none) {b : Nat} {blk : Blk} {cells : Array Value} (hb : w.heap.size ≤ b) (hh : w'.heap[b]? = some (.cells cells blk.elem (0, 0)))
    (hc : CL γ (β.put nx (b, cells.size)) blk.cells (cells.toList.take blk.cells.length)) :
    WOk γ g (β.put nx (b, cells.size)) (upF hp [(nx, some blk)]) w' ∧ Mv hp nx β w (upF hp [(nx, some blk)]) (nx + 1) (β.put nx (b, cells.size)) w' := by
  have hle := Bm.put_ble (x := (b, cells.size)) hf
  have W' := W.below hB
  have old : ∀ id x bk sz, hp id = some x → (β.put nx (b, cells.size)) id = some (bk, sz) → id ≠ nx → β id = some (bk, sz) ∧ bk < w.heap.size := fun id x bk sz hid hβ hne => by
    unfold Bm.put at hβ
    rw [if_neg hne] at hβ
    obtain ⟨bk', sz', e, hlt, -⟩ := (W.blk id x hid).lt
    rw [hβ] at e
    cases e
    exact ⟨hβ, hlt⟩
  refine ⟨⟨W'.j, W'.b0, fun id x hid => ?_, fun id id' x x' bk sz sz' h1 h2 h3 h4 => ?_⟩, ⟨hle, fun id hid => ?_, Nat.le_succ _, hB.size, fun k hk _ => hB.block k hk, fun id x bk sz hid hβ => ?_⟩⟩
  · simp only [upF] at hid
    split at hid
    · rename_i e
      subst e
      cases hid
      exact ⟨b, cells.size, cells, by simp [Bm.put], Nat.le_trans W.b0 hb, hh, rfl, hc⟩
    · exact (W'.blk id x hid).up hle fun _ _ _ => rfl
  · simp only [upF] at h1 h2
    by_cases e : id = nx
    · by_cases e' : id' = nx
      · rw [e, e']
      · rw [if_neg e'] at h2
        have := (old id' x' bk sz' h2 h4 e').2
        rw [e] at h3
        simp only [Bm.put, if_true, Option.some.injEq, Prod.mk.injEq] at h3
        omega
    · rw [if_neg e] at h1
      have o1 := old id x bk sz h1 h3 e
      by_cases e' : id' = nx
      · rw [e'] at h4
        simp only [Bm.put, if_true, Option.some.injEq, Prod.mk.injEq] at h4
        omega
      · rw [if_neg e'] at h2
        exact W.inj id id' x x' bk sz sz' h1 h2 o1.1 (old id' x' bk sz' h2 h4 e').1
  · unfold Bm.put
    rw [if_neg (by omega)]
  · simp only [upF] at hid
    by_cases e : id = nx
    · rw [e] at hβ
      simp only [Bm.put, if_true, Option.some.injEq, Prod.mk.injEq] at hβ
      omega
    · rw [if_neg e] at hid
      exact .inr ⟨id, x, sz, hid, (old id x bk sz hid hβ e).1⟩
end

/-! ### The numbers -/
def atV (l0 : List Int) (i : Nat) : Int := (laws_at.f l0 (i : Int)).getD 0

theorem at_spec (l0 : List Int) (i : Nat) : ∃ r, laws_at.f l0 (i : Int) = some r ∧ (l0.length ≤ 1048576 → (∀ x ∈ l0, (Lit.int .u8 x).wf = true) → i ≤ 100 → 0 ≤ r ∧ r ≤ 255) := by
  unfold laws_at.f
  by_cases h : (i : Int) < (l0.length : Int)
  · rw [if_pos h, if_pos (by omega)]
    refine ⟨_, rfl, fun _ hw _ => ?_⟩
    have hil : i < l0.length := by omega
    have hrd : Go.Proofs.YtdbbchgbgdbhbaaGreatDoorW.PrintWords.rd l0 (i : Int) = l0[i] := by
      unfold Go.Proofs.YtdbbchgbgdbhbaaGreatDoorW.PrintWords.rd
      simp [List.getD_eq_getElem?_getD, List.getElem?_eq_getElem hil]
    have := hw l0[i] (List.getElem_mem _)
    simp [Lit.wf, IntKind.min, IntKind.max, IntKind.signed, IntKind.bits] at this
    rw [hrd, Pure.wrap_id (by omega) (by omega)]
    exact this
  · rw [if_neg h]
    refine ⟨_, rfl, fun hl _ hi => ?_⟩
    rw [Pure.wrap_id (x := (i : Int) * 31) (by omega) (by omega), Pure.wrap_id (x := (l0.length : Int) * 7) (by omega) (by omega), Pure.wrap_id (by omega) (by omega), Int.tmod_eq_emod_of_nonneg (by omega)]
    omega

theorem at_some (l0 : List Int) (i : Nat) : laws_at.f l0 (i : Int) = some (atV l0 i) := by
  obtain ⟨r, h, -⟩ := at_spec l0 i
  unfold atV
  rw [h]
  rfl

theorem at_range (l0 : List Int) (hl : l0.length ≤ 1048576) (hw : ∀ x ∈ l0, (Lit.int .u8 x).wf = true) (i : Nat) (hi : i ≤ 100) : 0 ≤ atV l0 i ∧ atV l0 i ≤ 255 := by
  obtain ⟨r, h, hr⟩ := at_spec l0 i
  unfold atV
  rw [h]
  exact hr hl hw hi

/-- The two numbers of the text. -/
def va (l0 : List Int) : Nat := (atV l0 2 * 300).toNat
def vb (l0 : List Int) : Nat := (atV l0 3 * 11).toNat

def theGs (l0 : List Int) (A0 : Option Addr) (c0 : Nat) (op : List UInt8) : Gs where
  i := fun n => if n = 13 then (((dg 6 (va l0)).length + 9 : Nat) : Int) else if n = 14 then (((dg 6 (va l0)).length + op.length + 10 : Nat) : Int) else atV l0 (n - 20)
  s := fun n => if n = 1 ∧ va l0 < 1000000 then bs (dg 6 (va l0)) else if n = 2 ∧ vb l0 < 1000000 then bs (dg 6 (vb l0)) else bs []
  x := fun _ => .slice A0 l0.length c0
  small := fun n => by
    split
    · rename_i h
      have := (Pure.dg_num _ h.2).le
      rw [Pure.bs_size]
      omega
    · split
      · rename_i h
        have := (Pure.dg_num _ h.2).le
        rw [Pure.bs_size]
        omega
      · rw [Pure.bs_size]; simp
  one := fun _ => ⟨rfl, rfl⟩

section
variable {l0 : List Int} {A0 : Option Addr} {c0 : Nat} {op : List UInt8}

theorem va_lt (hl : l0.length ≤ 1048576) (hw : ∀ x ∈ l0, (Lit.int .u8 x).wf = true) : va l0 ≤ 76500 ∧ vb l0 ≤ 2805 ∧ (va l0 : Int) = atV l0 2 * 300 ∧ (vb l0 : Int) = atV l0 3 * 11 := by
  have h2 := at_range l0 hl hw 2 (by decide)
  have h3 := at_range l0 hl hw 3 (by decide)
  unfold va vb
  omega

theorem EA_ev (hl : l0.length ≤ 1048576) (hw : ∀ x ∈ l0, (Lit.int .u8 x).wf = true) : EA.ev (theGs l0 A0 c0 op) = (va l0 : Int) := by
  have := va_lt hl hw
  have h : EA.ev (theGs l0 A0 c0 op) = IntKind.i64.wrap (atV l0 2 * 300) := rfl
  rw [h, ← this.2.2.1]
  simp [IntKind.wrap, IntKind.signed, IntKind.bits]
  omega

theorem EB_ev (hl : l0.length ≤ 1048576) (hw : ∀ x ∈ l0, (Lit.int .u8 x).wf = true) : EB.ev (theGs l0 A0 c0 op) = (vb l0 : Int) := by
  have := va_lt hl hw
  have h : EB.ev (theGs l0 A0 c0 op) = IntKind.i64.wrap (atV l0 3 * 11) := rfl
  rw [h, ← this.2.2.2]
  simp [IntKind.wrap, IntKind.signed, IntKind.bits]
  omega

theorem s1_eq (hl : l0.length ≤ 1048576) (hw : ∀ x ∈ l0, (Lit.int .u8 x).wf = true) : (theGs l0 A0 c0 op).s 1 = bs (dg 6 (va l0)) ∧ (theGs l0 A0 c0 op).s 2 = bs (dg 6 (vb l0)) := by
  have := va_lt hl hw
  refine ⟨?_, ?_⟩
  · simp only [theGs]
    rw [if_pos ⟨by trivial, by omega⟩]
  · simp only [theGs]
    rw [if_neg (fun h => by omega), if_pos ⟨by trivial, by omega⟩]
end

theorem litS_bs (l : List Nat) : litS l = bs (l.map UInt8.ofNat) := rfl

theorem txt_ev {γ : Gs} {A B : List UInt8} (h1 : γ.s 1 = bs A) (h2 : γ.s 2 = bs B) (op : List Nat) : (txt op).ev γ = bs (textL A (op.map UInt8.ofNat) B) := by
  simp only [txt, SE.ev, litS_bs, h1, h2, Pure.bs_app]
  simp [textL]

theorem atoi_dg (n : Nat) (h : n < 1000000) : Lib.atoi (dg 6 n) = some (n : Int) := by
  have hN := Pure.dg_num n h
  have dec : ∀ (k n acc : Nat), n < 10 ^ k → 0 < k → ∀ r, Lib.decFrom acc (dg k n ++ r) = Lib.decFrom (acc * 10 ^ (dg k n).length + n) r := by
    intro k
    induction k with
    | zero => intro n acc _ h; omega
    | succ k ih =>
      intro n acc hn _ r
      have dv : ∀ m, m < 10 → Lib.digitVal (UInt8.ofNat (48 + m)) = some m := fun m hm => by
        unfold Lib.digitVal
        rw [Pure.u8_dig m hm, if_pos (by omega)]
        congr 1
        omega
      simp only [dg]
      split
      · rename_i h
        simp only [List.singleton_append, Lib.decFrom, dv n h, List.length_singleton, Nat.pow_one]
      · rename_i h
        have hk : 0 < k := by
          rcases Nat.eq_zero_or_pos k with rfl | h'
          · simp at hn; omega
          · exact h'
        have hq : n / 10 < 10 ^ k := by
          rw [Nat.pow_succ] at hn
          exact Nat.div_lt_of_lt_mul (by rw [Nat.mul_comm]; exact hn)
        rw [List.append_assoc, ih (n / 10) acc hq hk]
        simp only [List.singleton_append, Lib.decFrom, dv _ (Nat.mod_lt n (by decide : 0 < 10)), List.length_append, List.length_singleton, Nat.pow_succ]
        congr 1
        rw [Nat.add_mul, ← Nat.mul_assoc]
        omega
  have hd := dec 6 n 0 (by simpa using h) (by decide) []
  rw [List.append_nil] at hd
  simp only [Nat.zero_mul, Nat.zero_add, Lib.decFrom] at hd
  obtain ⟨c, t, hc, h1, h2, h3⟩ := Pure.dig_ne hN
  have h43 : c ≠ 43 := by
    have := hN.dig 0 hN.pos
    simp only [hc, List.getElem_cons_zero] at this
    unfold Pure.isD at this
    have := of_decide_eq_true this
    rintro rfl
    revert this
    decide
  rw [hc] at hd ⊢
  simp only [Lib.atoi]
  rw [if_neg (by simpa using h3), if_neg (by simpa using h43)]
  simp [Lib.decNat, hd]

/-! ### What is told ahead -/
theorem tok_cl {γ : Gs} {β : Bm} (k : Int) (t : SE) (l c : IE) {t' : ByteArray} {l' c' : Int} (h1 : t.ev γ = t') (h2 : l.ev γ = l') (h3 : c.ev γ = c') : CL γ β (tok k t l c) [.int .i64 k, .string t', .int .i64 l', .int .i64 c'] := by
  subst h1 h2 h3
  exact CL.cons (by simp [CV, IE.ev]) (CL.cons (by simp [CV]) (CL.cons (by simp [CV]) (CL.cons (by simp [CV]) CL.nil)))

theorem fours {l : List Value} (h : l.length = 24) : l = (((((l.drop (0 * 4)).take 4 ++ (l.drop (1 * 4)).take 4) ++ (l.drop (2 * 4)).take 4) ++ (l.drop (3 * 4)).take 4) ++ (l.drop (4 * 4)).take 4) ++ (l.drop (5 * 4)).take 4 := by
  have step : ∀ k, l.take (k + 4) = l.take k ++ (l.drop k).take 4 := fun k => by rw [List.take_add]
  have e : l = l.take 24 := (List.take_of_length_le (by omega)).symm
  conv => lhs; rw [e]
  rw [step 20, step 16, step 12, step 8, step 4, show l.take 4 = (l.drop (0 * 4)).take 4 by simp]

def opB (op : List Nat) : List UInt8 := op.map UInt8.ofNat

section
variable {l0 : List Int} {A0 : Option Addr} {c0 : Nat} {op : List Nat} {w0 : World}

theorem base_ok (hl : l0.length ≤ 1048576) (hw : ∀ x ∈ l0, (Lit.int .u8 x).wf = true) (hr : Kd.C (Kd.int .u8) w0 A0 l0.length l0) (hc0 : l0.length ≤ c0) (hop : OpL (opB op)) : BaseOk Tryz.prog (theGs l0 A0 c0 (opB op)) (gh w0) (theBase op) := by
  have hV := va_lt hl hw
  have hA := Pure.dg_num (va l0) (by omega)
  have hB' := Pure.dg_num (vb l0) (by omega)
  obtain ⟨s1, s2⟩ := s1_eq (A0 := A0) (c0 := c0) (op := opB op) hl hw
  have plain : ∀ (f : FuncId) (xs : Array Value) (hp : Hp) (nx : Nat) (β : Bm) (w : World) (v : V) (x : Value), WOk (theGs l0 A0 c0 (opB op)) (gh w0) β hp.get w → VV (theGs l0 A0 c0 (opB op)) β v x →
      Calls Tryz.prog f xs w (fun e w' => e = .returned x ∧ Below w.heap.size w w') →
      Calls Tryz.prog f xs w (fun e w' => ∃ x β', e = .returned x ∧ WOk (theGs l0 A0 c0 (opB op)) (gh w0) β' (made nx hp []).1.get w' ∧ Mv hp.get nx β w (made nx hp []).1.get (made nx hp []).2 β' w' ∧ VV (theGs l0 A0 c0 (opB op)) β' v x) :=
    fun f xs hp nx β w v x W hv hc => hc.mono fun e w' he => ⟨x, β, he.1, W.below he.2, Mv.below he.2, hv⟩
  refine ⟨fun f args nx v l h => ?_, fun f args nx v l h hp β w xs W hs hf hx => ?_⟩
  · unfold theBase at h
    split at h
    · exact ⟨_, Tryz.func5, by kernel_rfl⟩
    · exact ⟨_, Tryz.func4, by kernel_rfl⟩
    · exact ⟨_, Tryz.func7, by kernel_rfl⟩
    · exact ⟨_, Tryz.func25, by kernel_rfl⟩
    · exact ⟨_, Tryz.func192, by kernel_rfl⟩
    · cases h
  · have hJ : Below w0.heap.size w0 w := W.j
    have hC : Kd.C (Kd.int .u8) w A0 l0.length l0 := Kd.C_below hr hJ
    unfold theBase at h
    split at h
    · -- at
      split at h
      · rename_i n
        cases h
        match xs, hx with
        | [p, q], hx =>
          have hp := VV.c_iff.1 hx.cons_inv.1
          have hq := VV.c_iff.1 hx.cons_inv.2.cons_inv.1
          simp only [CV] at hp
          simp only [CV, IE.ev] at hq
          subst hp hq
          refine plain 5 _ _ nx β w _ (.int .i64 (atV l0 n)) W (VV.c_iff.2 ?_) ((laws_at.calls A0 c0 l0 (n : Int) (atV l0 n) w hC hc0 (at_some l0 n)).mono fun e w' he => ⟨he.1, he.2.below⟩)
          simp only [CV, IE.ev]
          show Value.int .i64 (atV l0 n) = .int .i64 (if 20 + n = 13 then _ else if 20 + n = 14 then _ else atV l0 (20 + n - 20))
          rw [if_neg (by omega), if_neg (by omega), Nat.add_sub_cancel_left]
        | [], hx => simp only [VL] at hx
        | [_], hx => simp only [VL] at hx; exact hx.2.elim
        | _ :: _ :: _ :: _, hx => have := hx.length; simp at this
      · cases h
    · -- big
      split at h
      · cases h
        match xs, hx with
        | [p], hx =>
          have hp := VV.c_iff.1 hx.cons_inv.1
          simp only [CV] at hp
          subst hp
          exact plain 4 _ _ nx β w _ (.bool false) W (VV.c_iff.2 (by simp [CV])) ((laws_big.calls A0 c0 l0 false w hC hc0 (by unfold laws_big.f; rw [decide_eq_false (by omega)])).mono fun e w' he => ⟨he.1, he.2.below⟩)
        | [], hx => simp only [VL] at hx
        | _ :: _ :: _, hx => have := hx.length; simp at this
      · cases h
    · -- digits
      split at h
      · rename_i e0
        match xs, hx with
        | [p], hx =>
          have hp := VV.c_iff.1 hx.cons_inv.1
          simp only [CV] at hp
          subst hp
          split at h
          · rename_i he
            have he := IE.eq_sound he
            subst he
            cases h
            rw [EA_ev hl hw]
            exact plain 7 _ _ nx β w _ (.string (bs (dg 6 (va l0)))) W (VV.c_iff.2 (by simp only [CV, SE.ev]; rw [s1])) (laws_digits.calls 6 _ _ w (Pure.dg_f 6 (va l0) (by omega) (by omega) (by decide) (by decide)))
          · split at h
            · rename_i he
              have he := IE.eq_sound he
              subst he
              cases h
              rw [EB_ev hl hw]
              exact plain 7 _ _ nx β w _ (.string (bs (dg 6 (vb l0)))) W (VV.c_iff.2 (by simp only [CV, SE.ev]; rw [s2])) (laws_digits.calls 6 _ _ w (Pure.dg_f 6 (vb l0) (by omega) (by omega) (by decide) (by decide)))
            · cases h
        | [], hx => simp only [VL] at hx
        | _ :: _ :: _, hx => have := hx.length; simp at this
      · cases h
    · -- Lex
      split at h
      · rename_i t
        split at h
        · rename_i he
          have he := SE.eq_sound he
          subst he
          cases h
          match xs, hx with
          | [p], hx =>
            have hp' := VV.c_iff.1 hx.cons_inv.1
            simp only [CV] at hp'
            subst hp'
            rw [txt_ev s1 s2]
            obtain ⟨K, hK⟩ := Pure.lex_text hA hop hB'
            have hfree := hf nx (Nat.le_refl _) (by simp [made])
            refine (impl_Lex.calls K _ _ _ w (hK K (Nat.le_refl _))).mono ?_
            rintro e w' ⟨v0, rfl, hR, hB⟩
            obtain ⟨-, inner, ⟨hil, ho⟩, hrl, hre⟩ := hR
            rcases ho with ⟨rfl, hn⟩ | ⟨b, cap, cur, rfl, hbase, hh, hnc, hcm, hsz, htake⟩
            · exfalso
              have : (tokL (dg 6 (va l0)) (opB op) (dg 6 (vb l0))).length = 6 := rfl
              simp_all
            · have h6 : (tokL (dg 6 (va l0)) (opB op) (dg 6 (vb l0))).length = 6 := rfl
              have hseg : ∀ i x, (tokL (dg 6 (va l0)) (opB op) (dg 6 (vb l0)))[i]? = some x → (inner.drop (i * 4)).take 4 = [.int .i64 x.f0, .string x.f1, .int .i64 x.f2, .int .i64 x.f3] := fun i x hx => k30_openM (hre i x hx)
              have hi24 : inner.length = 24 := by
                have := hil
                rw [h6] at this
                exact this.trans rfl
              have hcl : CL (theGs l0 A0 c0 (opB op)) (β.put nx (b, cur.size)) (toks op) inner := by
                rw [fours hi24, hseg 0 _ rfl, hseg 1 _ rfl, hseg 2 _ rfl, hseg 3 _ rfl, hseg 4 _ rfl, hseg 5 _ rfl]
                exact (((((tok_cl 1 _ _ _ rfl rfl rfl).append (tok_cl 5 _ _ _ rfl rfl rfl)).append (tok_cl 3 (.g 1) _ _ s1 rfl rfl)).append (tok_cl 5 _ _ _ rfl rfl rfl)).append (tok_cl 3 (.g 2) _ _ s2 rfl rfl)).append (tok_cl 6 _ _ _ rfl rfl rfl)
              have hN := named (nx := nx) W hB hfree (b := b) (blk := { elem := 80, cells := toks op }) (cells := cur) hbase hh (by
                have ht : cur.toList.take (toks op).length = inner := by
                  rw [← hcl.length, hi24]
                  have := htake
                  rw [h6] at this
                  exact this
                rw [ht]
                exact hcl)
              refine ⟨_, β.put nx (b, cur.size), rfl, ?_, ?_, ?_⟩
              · have hg : (made nx hp [{ elem := 80, cells := toks op }]).1.get = upF hp.get [(nx, some { elem := 80, cells := toks op })] := by
                  funext i
                  simp only [made, Tr.get_set, upF]
                rw [hg]
                exact hN.1
              · have hg : (made nx hp [{ elem := 80, cells := toks op }]).1.get = upF hp.get [(nx, some { elem := 80, cells := toks op })] := by
                  funext i
                  simp only [made, Tr.get_set, upF]
                rw [hg]
                exact hN.2
              · refine VV.tup_iff.2 ⟨_, rfl, VL.cons (VV.c_iff.2 ?_) (VL.cons (VV.c_iff.2 (by simp [CV])) VL.nil)⟩
                simp only [CV]
                refine ⟨b, cur.size, cap, by simp [Bm.put], ?_, by rw [h6] at hnc; exact hnc, by rw [hsz]; exact Nat.zero_add _⟩
                rw [h6]
          | [], hx => simp only [VL] at hx
          | _ :: _ :: _, hx => have := hx.length; simp at this
        · cases h
      · cases h
    · -- Atoi
      have fin : ∀ (A : List UInt8) (n : Nat), n < 1000000 → A = dg 6 n → ∀ (e : IE), e.ev (theGs l0 A0 c0 (opB op)) = (n : Int) → Calls Tryz.prog 192 #[.string (bs A)] w (fun e' w' => ∃ x β', e' = .returned x ∧ WOk (theGs l0 A0 c0 (opB op)) (gh w0) β' (made nx hp []).1.get w' ∧ Mv hp.get nx β w (made nx hp []).1.get (made nx hp []).2 β' w' ∧ VV (theGs l0 A0 c0 (opB op)) β' (.tup [.c (.i .i64 e), .c .nilI]) x) := by
        intro A n hn hA e he
        subst hA
        have hle := (Pure.dg_num n hn).le
        refine plain 192 _ _ nx β w _ (.tuple #[.int .i64 n, .nilIface]) W (VV.tup_iff.2 ⟨_, rfl, VL.cons (VV.c_iff.2 (by simp only [CV]; rw [he])) (VL.cons (VV.c_iff.2 (by simp [CV])) VL.nil)⟩) ?_
        refine (Tryz.strconv_Atoi (bs (dg 6 n)) n (by rw [Pure.bs_size]; omega) (by rw [Pure.bs_list]; exact atoi_dg n hn) w).mono ?_
        rintro e' w' ⟨rfl, t, rfl⟩
        exact ⟨rfl, bytes_below (Below.refl _ _) (Nat.le_refl _) 5 t⟩
      split at h
      · cases h
        match xs, hx with
        | [p], hx =>
          have hp' := VV.c_iff.1 hx.cons_inv.1
          simp only [CV, SE.ev] at hp'
          rw [s1] at hp'
          subst hp'
          exact fin _ (va l0) (by omega) rfl EA (EA_ev hl hw)
        | [], hx => simp only [VL] at hx
        | _ :: _ :: _, hx => have := hx.length; simp at this
      · cases h
        match xs, hx with
        | [p], hx =>
          have hp' := VV.c_iff.1 hx.cons_inv.1
          simp only [CV, SE.ev] at hp'
          rw [s2] at hp'
          subst hp'
          exact fin _ (vb l0) (by omega) rfl EB (EB_ev hl hw)
        | [], hx => simp only [VL] at hx
        | _ :: _ :: _, hx => have := hx.length; simp at this
      · cases h
    · cases h
end
end Go.Proofs.YtdbbchgbgdbhbaaGreatDoor.Xe

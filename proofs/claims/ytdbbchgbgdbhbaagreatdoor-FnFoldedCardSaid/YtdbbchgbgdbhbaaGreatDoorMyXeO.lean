/- What holds of a world while the exact run goes on; what the program's types are. No condition. -/
import Derived.Test.YtdbbchgbgdbhbaaGreatDoorMyXeS
set_option linter.unusedVariables false
set_option linter.unusedSimpArgs false
namespace Go.Proofs.YtdbbchgbgdbhbaaGreatDoor.Xe
open Go

/-! ### The map -/
namespace Tr
variable {α : Type}

theorem get_node (t : Tr α) (k : Nat) : t.get k = match k with | 0 => t.node.1 | k' + 1 => match k' % 2 with | 0 => t.node.2.1.get (k' / 2) | _ => t.node.2.2.get (k' / 2) := by
  cases t with
  | e => cases k <;> simp [get, node]; split <;> rfl
  | n v l r => cases k <;> rfl

theorem get_setF : ∀ (f : Nat) (t : Tr α) (k : Nat) (x : Option α), k < f → ∀ k', (setF f t k x).get k' = if k' = k then x else t.get k'
  | 0, _, _, _, h, _ => by omega
  | f + 1, t, 0, x, h, k' => by
    rw [get_node t]
    cases k' with
    | zero => simp [setF, get]
    | succ m => rcases Nat.mod_two_eq_zero_or_one m with hm | hm <;> simp [setF, get, hm]
  | f + 1, t, k + 1, x, h, k' => by
    rw [get_node t]
    simp only [setF]
    rcases Nat.mod_two_eq_zero_or_one k with hk | hk
    · rw [hk]
      cases k' with
      | zero => simp [get]
      | succ m =>
        simp only [get]
        rcases Nat.mod_two_eq_zero_or_one m with hm | hm
        · rw [hm]
          simp only [get_setF f _ (k / 2) x (by omega)]
          by_cases e : m = k
          · subst e; simp
          · rw [if_neg (by omega), if_neg (by omega)]
        · rw [hm]
          simp only
          rw [if_neg (by omega)]
    · rw [hk]
      cases k' with
      | zero => simp [get]
      | succ m =>
        simp only [get]
        rcases Nat.mod_two_eq_zero_or_one m with hm | hm
        · rw [hm]
          simp only
          rw [if_neg (by omega)]
        · rw [hm]
          simp only [get_setF f _ (k / 2) x (by omega)]
          by_cases e : m = k
          · subst e; simp
          · rw [if_neg (by omega), if_neg (by omega)]

theorem get_set (t : Tr α) (k : Nat) (x : Option α) (k' : Nat) : (t.set k x).get k' = if k' = k then x else t.get k' := get_setF (k + 1) t k x (Nat.lt_succ_self _) k'
end Tr

/-- A heap behind updates. -/
def upF (rd : Rd) : Upd → Rd
  | [] => rd
  | (id, b) :: r => fun i => if i = id then b else upF rd r i

theorem apply_get (hp : Hp) : ∀ u : Upd, (apply hp u).get = upF hp.get u
  | [] => rfl
  | (id, b) :: r => by
    funext i
    rw [apply, Tr.get_set, upF, apply_get hp r]

/-! ### The program's types -/
structure TyF (P : Program) (t : TypeId) (ti : TI) : Prop where
  info : ∃ i z, P.info? t = some i ∧ i.size = ti.size ∧ i.bytes ≤ 1000 ∧ i.zero = some z ∧ (∀ γ β, CL γ β ti.zero z.cells.toList) ∧ z.cells.size = ti.size
  desc : match ti.desc with
    | .int k => P.underlying t = some (.int k)
    | .bool => P.underlying t = some .bool
    | .string => P.underlying t = some .string
    | .slice e => P.underlying t = some (.slice e)
    | .struct fs => ∃ F, P.underlying t = some (.struct F) ∧ F.toList.map (fun f => (f.offset, f.type)) = fs ∧ ∀ f ∈ F.toList, ∃ i, P.info? f.type = some i
    | .ptr => ∃ e, P.underlying t = some (.pointer e)
    | .func => ∃ p r v, P.underlying t = some (.func p r v)
    | .iface => ∃ m, P.underlying t = some (.interface m)
    | .other => False
  pos : 0 < ti.size
  zl : ti.zero.length = ti.size
  small : ti.size ≤ 1000

/-- Where temporaries are written. -/
def dstOk (n : Nat) : Code → Bool
  | .region _ ops _ => ops.all fun o => match o.dst with | some d => Nat.blt d n | none => true
  | .seq a b => dstOk n a && dstOk n b
  | .cond _ a b => dstOk n a && dstOk n b
  | .block _ c => dstOk n c
  | .loop c => dstOk n c
  | _ => true

structure CxOk (P : Program) (γ : Gs) (cx : Cx) : Prop where
  ty : ∀ t i, cx.ty t = some i → TyF P t i
  ci : ∀ o a b r, (o, a, b, r) ∈ cx.gam.ci → litCmp o (a.ev γ) (b.ev γ) = some r
  vi : ∀ a n, (a, n) ∈ cx.gam.vi → a.ev γ = n
  dst : ∀ (f : FuncId) (fn : Func) (c : Code), P.funcs[f]? = some fn → fn.body = some c → dstOk fn.ntmps c = true
  name : ∀ (f : FuncId) (fn : Func), P.funcs[f]? = some fn → (fn.name == "runtime.NumGoroutine") = false
  mixed : P.follows .mixedOrders = true

section
variable {P : Program} {γ : Gs} {cx : Cx} (H : CxOk P γ cx)

theorem run_sizeOf (H : CxOk P γ cx) {t : TypeId} {i : TI} (h : cx.ty t = some i) (w : World) : (sizeOf t).run P w = .ok i.size w := by
  obtain ⟨x, z, hx, hs, -⟩ := (H.ty t i h).info
  simp [sizeOf, typeInfo, hx, hs]

theorem run_isAgg (H : CxOk P γ cx) {t : TypeId} {i : TI} (h : cx.ty t = some i) (w : World) : (isAgg t).run P w = .ok i.agg w := by
  have hd := (H.ty t i h).desc
  unfold isAgg TI.agg
  cases hi : i.desc with
  | struct fs =>
    simp only [hi] at hd
    obtain ⟨F, hF, -⟩ := hd
    simp [run_underlying hF w]
  | ptr =>
    simp only [hi] at hd
    obtain ⟨F, hF⟩ := hd
    simp [run_underlying hF w]
  | func =>
    simp only [hi] at hd
    obtain ⟨_, _, F, hF⟩ := hd
    simp [run_underlying hF w]
  | iface =>
    simp only [hi] at hd
    obtain ⟨F, hF⟩ := hd
    simp [run_underlying hF w]
  | other => simp only [hi] at hd
  | _ =>
    simp only [hi] at hd
    simp [run_underlying hd w]

theorem ty_slice (H : CxOk P γ cx) {t e : TypeId} {i : TI} (hi : cx.ty t = some i) (hd : i.desc = .slice e) : P.underlying t = some (.slice e) := by
  have hD := (H.ty t i hi).desc
  rwa [hd] at hD

theorem ty_string (H : CxOk P γ cx) {t : TypeId} {i : TI} (hi : cx.ty t = some i) (hd : i.desc = .string) : P.underlying t = some .string := by
  have hD := (H.ty t i hi).desc
  rwa [hd] at hD

theorem ty_int (H : CxOk P γ cx) {t : TypeId} {k : IntKind} {i : TI} (hi : cx.ty t = some i) (hd : i.desc = .int k) : P.underlying t = some (.int k) := by
  have hD := (H.ty t i hi).desc
  rwa [hd] at hD

theorem sliceOf_spec (H : CxOk P γ cx) {t e : TypeId} (h : sliceOf cx t = some e) : P.underlying t = some (.slice e) := by
  unfold sliceOf at h
  simp only [Option.bind_eq_some_iff] at h
  obtain ⟨i, hi, h⟩ := h
  split at h
  · rename_i e' hd
    cases h
    exact ty_slice H hi hd
  · cases h
end

/-! ### Worlds -/
/-- Nothing but the heap is another. -/
def OsEq (w w' : World) : Prop := w'.os = w.os ∧ w'.tape = w.tape ∧ w'.output = w.output

/-- Where the own blocks begin, what holds of the world besides. -/
structure Gh where
  b0 : Nat
  J : World → Prop
  keep : ∀ w w', J w → OsEq w w' → (∀ b, b < b0 → w'.heap[b]? = w.heap[b]?) → J w'

/-- A name's block. -/
def BOk (γ : Gs) (g : Gh) (β : Bm) (w : World) (id : Nat) (blk : Blk) : Prop :=
  ∃ bk sz cells, β id = some (bk, sz) ∧ g.b0 ≤ bk ∧ w.heap[bk]? = some (.cells cells blk.elem (0, 0)) ∧ cells.size = sz ∧ CL γ β blk.cells (cells.toList.take blk.cells.length)

structure WOk (γ : Gs) (g : Gh) (β : Bm) (hp : Rd) (w : World) : Prop where
  j : g.J w
  b0 : g.b0 ≤ w.heap.size
  blk : ∀ id blk, hp id = some blk → BOk γ g β w id blk
  inj : ∀ id id' b b' bk sz sz', hp id = some b → hp id' = some b' → β id = some (bk, sz) → β id' = some (bk, sz') → id = id'

/-- From one world to a later one. -/
structure Mv (hp : Rd) (nx : Nat) (β : Bm) (w : World) (hp' : Rd) (nx' : Nat) (β' : Bm) (w' : World) : Prop where
  ext : Ble β β'
  rng : ∀ id, id < nx ∨ nx' ≤ id → β' id = β id
  le : nx ≤ nx'
  size : w.heap.size ≤ w'.heap.size
  keep : ∀ b, b < w.heap.size → (∀ id blk sz, hp id = some blk → β id ≠ some (b, sz)) → w'.heap[b]? = w.heap[b]?
  new : ∀ id blk bk sz, hp' id = some blk → β' id = some (bk, sz) → w.heap.size ≤ bk ∨ ∃ id0 blk0 sz0, hp id0 = some blk0 ∧ β id0 = some (bk, sz0)

section
variable {γ : Gs} {g : Gh} {β β' β'' : Bm} {hp hp' hp'' : Rd} {nx nx' nx'' : Nat} {w w' w'' : World}

theorem Mv.refl : Mv hp nx β w hp nx β w := ⟨Ble.refl _, fun _ _ => rfl, Nat.le_refl _, Nat.le_refl _, fun _ _ _ => rfl, fun id blk bk sz h h' => .inr ⟨id, blk, sz, h, h'⟩⟩

theorem Mv.trans (h : Mv hp nx β w hp' nx' β' w') (h' : Mv hp' nx' β' w' hp'' nx'' β'' w'') : Mv hp nx β w hp'' nx'' β'' w'' where
  ext := h.ext.trans h'.ext
  rng := fun id hid => by
    have e1 := h.le
    have e2 := h'.le
    rw [h'.rng id (by omega), h.rng id (by omega)]
  le := Nat.le_trans h.le h'.le
  size := Nat.le_trans h.size h'.size
  keep := fun b hb hno => by
    rw [h'.keep b (Nat.lt_of_lt_of_le hb h.size) fun id blk sz hid hβ => ?_, h.keep b hb hno]
    rcases h.new id blk b sz hid hβ with h1 | ⟨id0, blk0, sz0, h1, h2⟩
    · omega
    · exact hno id0 blk0 sz0 h1 h2
  new := fun id blk bk sz hid hβ => by
    rcases h'.new id blk bk sz hid hβ with h1 | ⟨id0, blk0, sz0, h1, h2⟩
    · exact .inl (Nat.le_trans h.size h1)
    · exact h.new id0 blk0 bk sz0 h1 h2

theorem BOk.lt {id : Nat} {blk : Blk} (h : BOk γ g β w id blk) : ∃ bk sz, β id = some (bk, sz) ∧ bk < w.heap.size ∧ g.b0 ≤ bk := by
  obtain ⟨bk, sz, cells, h1, h2, h3, -⟩ := h
  exact ⟨bk, sz, h1, (Array.getElem?_eq_some_iff.1 h3).1, h2⟩

theorem BOk.up {id : Nat} {blk : Blk} (h : BOk γ g β w id blk) (hb : Ble β β') (hw : ∀ bk sz, β id = some (bk, sz) → w'.heap[bk]? = w.heap[bk]?) : BOk γ g β' w' id blk := by
  obtain ⟨bk, sz, cells, h1, h2, h3, h4, h5⟩ := h
  exact ⟨bk, sz, cells, hb _ _ h1, h2, by rw [hw bk sz h1]; exact h3, h4, h5.up hb⟩

/-- The world behind a new block that has no name. -/
theorem WOk.push (h : WOk γ g β hp w) (o : Obj) (hw : w'.heap = w.heap.push o) (ho : OsEq w w') : WOk γ g β hp w' where
  j := g.keep w w' h.j ho fun b hb => by
    have : b < w.heap.size := Nat.lt_of_lt_of_le hb h.b0
    rw [hw, Array.getElem?_push_lt this, Array.getElem?_eq_getElem this]
  b0 := by rw [hw, Array.size_push]; exact Nat.le_succ_of_le h.b0
  blk := fun id blk hid => (h.blk id blk hid).up (Ble.refl _) fun bk sz hβ => by
    obtain ⟨bk', sz', e, hlt, -⟩ := (h.blk id blk hid).lt
    rw [hβ] at e
    cases e
    rw [hw, Array.getElem?_push_lt hlt, Array.getElem?_eq_getElem hlt]
  inj := h.inj

theorem Mv.push (o : Obj) (hw : w'.heap = w.heap.push o) : Mv hp nx β w hp nx β w' where
  ext := Ble.refl _
  rng := fun _ _ => rfl
  le := Nat.le_refl _
  size := by rw [hw, Array.size_push]; omega
  keep := fun b hb _ => by rw [hw, Array.getElem?_push_lt hb, Array.getElem?_eq_getElem hb]
  new := fun id blk bk sz h h' => .inr ⟨id, blk, sz, h, h'⟩

/-- Names that are free. -/
def Free (β : Bm) (nx nx' : Nat) : Prop := ∀ id, nx ≤ id → id < nx' → β id = none

def Bm.put (β : Bm) (id : Nat) (x : Nat × Nat) : Bm := fun i => if i = id then some x else β i

theorem Bm.put_ble {id : Nat} {x : Nat × Nat} (h : β id = none) : Ble β (β.put id x) := fun i y hi => by
  unfold Bm.put
  rw [if_neg (fun e => by rw [e, h] at hi; cases hi)]
  exact hi

/-- A new block under a new name. -/
theorem new_block (h : WOk γ g β hp w) (hf : β nx = none) {cells : Array Value} {blk : Blk} (hw : w'.heap = w.heap.push (.cells cells blk.elem (0, 0))) (ho : OsEq w w')
    (hc : CL γ (β.put nx (w.heap.size, cells.size)) blk.cells (cells.toList.take blk.cells.length)) :
    WOk γ g (β.put nx (w.heap.size, cells.size)) (upF hp [(nx, some blk)]) w' ∧ Mv hp nx β w (upF hp [(nx, some blk)]) (nx + 1) (β.put nx (w.heap.size, cells.size)) w' := by
  have hle := Bm.put_ble (x := (w.heap.size, cells.size)) hf
  have W := h.push _ hw ho
  have old : ∀ id b bk sz, hp id = some b → (β.put nx (w.heap.size, cells.size)) id = some (bk, sz) → id ≠ nx → β id = some (bk, sz) ∧ bk < w.heap.size := fun id b bk sz hid hβ hne => by
    unfold Bm.put at hβ
    rw [if_neg hne] at hβ
    obtain ⟨bk', sz', e, hlt, -⟩ := (h.blk id b hid).lt
    rw [hβ] at e
    cases e
    exact ⟨hβ, hlt⟩
  refine ⟨⟨W.j, W.b0, fun id b hid => ?_, fun id id' b b' bk sz sz' h1 h2 h3 h4 => ?_⟩, ⟨hle, fun id hid => ?_, Nat.le_succ _, by rw [hw, Array.size_push]; omega, fun b hb _ => ?_, fun id b bk sz hid hβ => ?_⟩⟩
  · simp only [upF] at hid
    split at hid
    · rename_i e
      subst e
      cases hid
      exact ⟨w.heap.size, cells.size, cells, by simp [Bm.put], h.b0, by rw [hw]; simp, rfl, hc⟩
    · exact (W.blk id b hid).up hle fun _ _ _ => rfl
  · simp only [upF] at h1 h2
    by_cases e : id = nx
    · by_cases e' : id' = nx
      · rw [e, e']
      · rw [if_neg e'] at h2
        have := (old id' b' bk sz' h2 h4 e').2
        rw [e] at h3
        simp only [Bm.put, if_true, Option.some.injEq, Prod.mk.injEq] at h3
        omega
    · rw [if_neg e] at h1
      have o1 := old id b bk sz h1 h3 e
      by_cases e' : id' = nx
      · rw [e'] at h4
        simp only [Bm.put, if_true, Option.some.injEq, Prod.mk.injEq] at h4
        omega
      · rw [if_neg e'] at h2
        exact h.inj id id' b b' bk sz sz' h1 h2 o1.1 (old id' b' bk sz' h2 h4 e').1
  · unfold Bm.put
    rw [if_neg (by omega)]
  · rw [hw, Array.getElem?_push_lt hb, Array.getElem?_eq_getElem hb]
  · simp only [upF] at hid
    by_cases e : id = nx
    · rw [e] at hβ
      simp only [Bm.put, if_true, Option.some.injEq, Prod.mk.injEq] at hβ
      omega
    · rw [if_neg e] at hid
      have o := old id b bk sz hid hβ e
      exact .inr ⟨id, b, sz, hid, o.1⟩
end

/-! ### Numbers -/
theorem eqZ_iff {a b : Int} : eqZ a b = true ↔ a = b := by
  cases a <;> cases b <;> simp [eqZ] <;> omega

theorem eqZ_self (a : Int) : eqZ a a = true := eqZ_iff.2 rfl

theorem eqN_iff : ∀ {a b : List Nat}, eqN a b = true ↔ a = b
  | [], [] => by simp [eqN]
  | [], _ :: _ => by simp [eqN]
  | _ :: _, [] => by simp [eqN]
  | a :: x, b :: y => by
    simp only [eqN, List.cons.injEq]
    have ih := eqN_iff (a := x) (b := y)
    cases h : Nat.beq a b with
    | true => simp [ih, Nat.eq_of_beq_eq_true h]
    | false => simp [Nat.ne_of_beq_eq_false h]

theorem IE.eq_sound : ∀ {a b : IE}, a.eq b = true → a = b
  | .lit a, .lit b, h => by simp only [IE.eq] at h; rw [eqZ_iff.1 h]
  | .g a, .g b, h => by simp only [IE.eq] at h; rw [Nat.eq_of_beq_eq_true h]
  | .ar o k a b, .ar o' k' a' b', h => by
    simp only [IE.eq, Bool.and_eq_true, beq_iff_eq] at h
    obtain ⟨⟨⟨rfl, rfl⟩, h1⟩, h2⟩ := h
    rw [IE.eq_sound h1, IE.eq_sound h2]
  | .lit _, .g _, h => by simp [IE.eq] at h
  | .lit _, .ar .., h => by simp [IE.eq] at h
  | .g _, .lit _, h => by simp [IE.eq] at h
  | .g _, .ar .., h => by simp [IE.eq] at h
  | .ar .., .lit _, h => by simp [IE.eq] at h
  | .ar .., .g _, h => by simp [IE.eq] at h

theorem SE.eq_sound : ∀ {a b : SE}, a.eq b = true → a = b
  | .lit a, .lit b, h => by simp only [SE.eq] at h; rw [eqN_iff.1 h]
  | .g a, .g b, h => by simp only [SE.eq] at h; rw [Nat.eq_of_beq_eq_true h]
  | .cat a b, .cat a' b', h => by
    simp only [SE.eq, Bool.and_eq_true] at h
    rw [SE.eq_sound h.1, SE.eq_sound h.2]
  | .lit _, .g _, h => by simp [SE.eq] at h
  | .lit _, .cat .., h => by simp [SE.eq] at h
  | .g _, .lit _, h => by simp [SE.eq] at h
  | .g _, .cat .., h => by simp [SE.eq] at h
  | .cat .., .lit _, h => by simp [SE.eq] at h
  | .cat .., .g _, h => by simp [SE.eq] at h

section
variable {P : Program} {γ : Gs} {cx : Cx}

theorem factI_spec {op : BinOp} {a b : IE} {r : Bool} : ∀ {l : List (BinOp × IE × IE × Bool)}, factI op a b l = some r → (op, a, b, r) ∈ l
  | [], h => by simp [factI] at h
  | (o, x, y, q) :: l, h => by
    simp only [factI] at h
    split at h
    · rename_i hc
      simp only [Bool.and_eq_true, beq_iff_eq] at hc
      obtain ⟨⟨rfl, h1⟩, h2⟩ := hc
      cases h
      rw [IE.eq_sound h1, IE.eq_sound h2]
      exact List.mem_cons_self
    · exact List.mem_cons_of_mem _ (factI_spec h)

theorem cmpI_spec (H : CxOk P γ cx) {op : BinOp} {a b : IE} {r : Bool} (h : cmpI cx.gam op a b = some r) : litCmp op (a.ev γ) (b.ev γ) = some r := by
  unfold cmpI at h
  split at h
  · simpa [IE.ev] using h
  · split at h
    · rename_i q hq
      cases h
      exact H.ci _ _ _ _ (factI_spec hq)
    · split at h
      · rename_i he
        have := IE.eq_sound he
        subst this
        split at h <;> simp_all [litCmp, eqZ_self]
      · cases h

theorem valI_ev (a : IE) : ∀ (l : List (IE × Int)), (∀ x n, (x, n) ∈ l → x.ev γ = n) → (valI a l).ev γ = a.ev γ
  | [], _ => rfl
  | (x, n) :: l, h => by
    unfold valI
    split
    · rename_i he
      have := IE.eq_sound he
      subst this
      simp [IE.ev, h _ _ List.mem_cons_self]
    · exact valI_ev a l fun x n hx => h x n (List.mem_cons_of_mem _ hx)

theorem SE.bnd_spec : ∀ e : SE, (e.ev γ).size ≤ e.bnd
  | .lit l => by simp [SE.ev, SE.bnd, litS, ByteArray.size]
  | .g i => γ.small i
  | .cat a b => by
    have h1 := SE.bnd_spec a
    have h2 := SE.bnd_spec b
    simp only [SE.ev, SE.bnd, ByteArray.size_append]
    omega

theorem litS_inj : ∀ {x y : List Nat}, bytesOk x = true → bytesOk y = true → litS x = litS y → x = y := by
  intro x y hx hy h
  have h1 : x.map UInt8.ofNat = y.map UInt8.ofNat := by
    have := congrArg (fun b : ByteArray => b.data.toList) h
    simpa [litS] using this
  have key : ∀ (x y : List Nat), bytesOk x = true → bytesOk y = true → x.map UInt8.ofNat = y.map UInt8.ofNat → x = y := by
    intro x
    induction x with
    | nil => intro y _ _ h; cases y <;> simp_all
    | cons a x ih =>
      intro y hx hy h
      cases y with
      | nil => simp at h
      | cons b y =>
        simp only [bytesOk, List.all_cons, Bool.and_eq_true] at hx hy
        simp only [List.map_cons, List.cons.injEq] at h
        have ha := Nat.le_of_ble_eq_true hx.1
        have hb := Nat.le_of_ble_eq_true hy.1
        have e : a = b := by
          have := congrArg UInt8.toNat h.1
          simpa [UInt8.toNat_ofNat', Nat.mod_eq_of_lt (show a < 256 by omega), Nat.mod_eq_of_lt (show b < 256 by omega)] using this
        rw [e, ih y hx.2 hy.2 h.2]
  exact key x y hx hy h1
end
end Go.Proofs.YtdbbchgbgdbhbaaGreatDoor.Xe

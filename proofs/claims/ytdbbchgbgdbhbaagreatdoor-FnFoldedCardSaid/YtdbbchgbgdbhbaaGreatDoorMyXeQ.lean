/- What the exact run says of an operation that leaves memory as it is, is so. No condition. -/
import Derived.Test.YtdbbchgbgdbhbaaGreatDoorMyXeO
set_option linter.unusedVariables false
set_option linter.unusedSimpArgs false
namespace Go.Proofs.YtdbbchgbgdbhbaaGreatDoor.Xe
open Go

theorem add_lit (b off n : Nat) : (⟨b, off, none⟩ : Addr).add n = ⟨b, off + n, none⟩ := by
  unfold Addr.add
  split <;> simp_all

section
variable {P : Program} {γ : Gs} {cx : Cx} {g : Gh} {β : Bm} {hp : Rd} {nx nx' : Nat} {tm : List (Nat × V)} {w : World} {a : Act} {o : Oper} {v : V} {upd : Upd}

/-- What is known where an operation begins. -/
structure In (γ : Gs) (g : Gh) (β : Bm) (hp : Rd) (tm : List (Nat × V)) (w : World) (a : Act) (o : Oper) : Prop where
  wok : WOk γ g β hp w
  tm : ∀ t ∈ tmpsOf o, VV γ β (lkT tm t) (a.tmps.getD t undef)

theorem mem_tmpsOf {t : Nat} (h : Operand.tmp t ∈ o.op.operands.toList) : t ∈ tmpsOf o := by
  unfold tmpsOf
  exact List.mem_filterMap.2 ⟨_, h, rfl⟩

theorem litS_toNat (s : ByteArray) : litS (s.data.toList.map UInt8.toNat) = s := by
  unfold litS
  have : (s.data.toList.map UInt8.toNat).map UInt8.ofNat = s.data.toList := by
    rw [List.map_map]
    exact (List.map_congr_left fun x _ => by simp).trans (List.map_id _)
  rw [this]

theorem constC_ok {x : Value} {c : C} (h : constC x = some c) : CV γ β c x := by
  unfold constC at h
  split at h <;> first | cases h | skip
  · simp [CV]
  · simp [CV, IE.ev]
  · simp [CV, SE.ev, litS_toNat]
  · simp [CV]
  · simp [CV]
  · simp [CV]
  · simp [CV]

theorem constL_ok : ∀ {l : List Value} {cs : List C}, l.mapM constC = some cs → CL γ β cs l
  | [], cs, h => by
    simp only [List.mapM_nil, Option.pure_def, Option.some.injEq] at h
    subst h
    exact CL.nil
  | x :: l, cs, h => by
    simp only [List.mapM_cons, Option.bind_eq_bind, Option.bind_eq_some_iff, Option.pure_def, Option.some.injEq] at h
    obtain ⟨c, hc, r, hr, rfl⟩ := h
    exact CL.cons (constC_ok hc) (constL_ok hr)

theorem constV_ok (x : Value) : VV γ β (constV x) x := by
  unfold constV
  split
  · rename_i cs
    split
    · rename_i l hl
      exact VV.agg_iff.2 ⟨cs, rfl, constL_ok hl⟩
    · exact VV.u _
  · split
    · rename_i c hc
      exact VV.c_iff.2 (constC_ok hc)
    · exact VV.u _

theorem opV_ok (x : Operand) (h : ∀ t, x = .tmp t → VV γ β (lkT tm t) (a.tmps.getD t undef)) : VV γ β (opV tm x) (a.eval x) := by
  cases x with
  | tmp t => exact h t rfl
  | const v => exact constV_ok v
  | func f => exact VV.c_iff.2 (by simp only [CV]; exact ⟨#[], rfl, CL.nil⟩)
  | global _ => exact VV.u _

theorem In.rho (I : In γ g β hp tm w a o) {x : Operand} (hx : x ∈ o.op.operands.toList) : VV γ β (opV tm x) (a.eval x) :=
  opV_ok x fun t e => I.tm t (mem_tmpsOf (e ▸ hx))

/-- It gives such a value and leaves the world. -/
def Pu (P : Program) (γ : Gs) (β : Bm) (w : World) (a : Act) (o : Oper) (nx : Nat) (v : V) (upd : Upd) (nx' : Nat) : Prop :=
  upd = [] ∧ nx' = nx ∧ ∃ x, (execOp a.eval o).run P w = .ok (.value x) w ∧ VV γ β v x

/-- It comes to such a value in such a world. -/
def Me (P : Program) (γ : Gs) (g : Gh) (β : Bm) (hp : Rd) (w : World) (a : Act) (o : Oper) (nx : Nat) (v : V) (upd : Upd) (nx' : Nat) : Prop :=
  ∃ β' w' x, ((execOp a.eval o).run P w = .ok (.value x) w' ∨ ((execOp a.eval o).run P w = .ok .skip w' ∧ x = undef)) ∧ WOk γ g β' (upF hp upd) w' ∧ Mv hp nx β w (upF hp upd) nx' β' w' ∧ VV γ β' v x

theorem Pu.me (W : WOk γ g β hp w) (h : Pu P γ β w a o nx v upd nx') : Me P γ g β hp w a o nx v upd nx' := by
  obtain ⟨rfl, rfl, x, hr, hv⟩ := h
  exact ⟨β, w, x, .inl hr, W, Mv.refl, hv⟩

theorem Pu.mk {x : Value} (hr : (execOp a.eval o).run P w = .ok (.value x) w) (hv : VV γ β v x) : Pu P γ β w a o nx v [] nx := ⟨rfl, rfl, x, hr, hv⟩

theorem cells_spec {l : List C} {x : Value} (h : cellsOf v = some l) (hv : VV γ β v x) : CL γ β l x.cells.toList := by
  cases v with
  | c c =>
    simp only [cellsOf, Option.some.injEq] at h
    subst h
    have hc := VV.c_iff.1 hv
    rw [hc.cells.1]
    exact CL.cons hc CL.nil
  | agg l' =>
    simp only [cellsOf, Option.some.injEq] at h
    subst h
    obtain ⟨cells, rfl, hv'⟩ := VV.agg_iff.1 hv
    exact hv'
  | _ => simp [cellsOf] at h

theorem cut_spec {off n : Nat} {l r : List C} (h : cut off n l = some r) {x : List Value} (hv : CL γ β l x) : off + n ≤ x.length ∧ CL γ β r ((x.drop off).take n) := by
  unfold cut at h
  split at h
  · rename_i hb
    have hle := Nat.le_of_ble_eq_true hb
    cases h
    exact ⟨by rw [hv.length]; exact hle, hv.drop.take⟩
  · cases h

/-- What is loaded: a value of so many cells. -/
def valOf (agg : Bool) (l : List Value) : Value := if agg then .agg l.toArray else l.headD undef

theorem ofCells_spec {agg : Bool} {l : List C} (h : ofCells agg l = some v) {x : List Value} (hv : CL γ β l x) : VV γ β v (valOf agg x) ∧ (agg = false → x.length = 1) := by
  unfold ofCells at h
  split at h
  · cases h
    exact ⟨VV.agg_iff.2 ⟨_, rfl, by simpa using hv⟩, by simp⟩
  · rename_i c
    cases h
    have := hv.length
    match x, hv with
    | [y], hv => exact ⟨VV.c_iff.2 hv.cons_inv.1, fun _ => rfl⟩
    | [], hv => simp only [CL] at hv
    | _ :: _ :: _, hv => simp at this
  · cases h

theorem run_loadVar (H : CxOk P γ cx) {t : TypeId} {i : TI} (h : cx.ty t = some i) {b off : Nat} {cells : Array Value} {e : TypeId} {fr : Nat × Nat}
    (hb : w.heap[b]? = some (.cells cells e fr)) (hl : off + i.size ≤ cells.toList.length) (h1 : i.agg = false → ((cells.toList.drop off).take i.size).length = 1) :
    (loadVar t ⟨b, off, none⟩).run P w = .ok (valOf i.agg ((cells.toList.drop off).take i.size)) w := by
  have hpos := (H.ty t i h).pos
  have hc : ∀ j, w.cell? ((⟨b, off, none⟩ : Addr).add j) = cells[off + j]? := fun j => by rw [add_lit, cell_of_row w b (off + j) cells e fr hb]
  unfold loadVar
  simp only [Sem.run_bind, run_isAgg H h, Result.andThen_ok]
  cases ha : i.agg with
  | true =>
    have hlc := run_loadCells_list (P := P) w ⟨b, off, none⟩ ((cells.toList.drop off).take i.size) (fun j v hv => by
      rw [hc j]
      rw [List.getElem?_take] at hv
      split at hv
      · simpa using hv
      · cases hv)
    have hlen : ((cells.toList.drop off).take i.size).length = i.size := by simp only [List.length_take, List.length_drop]; omega
    rw [hlen] at hlc
    simp only [if_true, Sem.run_bind, run_sizeOf H h, Result.andThen_ok, hlc, Sem.run_pure, valOf]
  | false =>
    have h0 := hc 0
    simp only [add_lit, Nat.add_zero] at h0
    have hlt : off < cells.size := by simp only [Array.length_toList] at hl; omega
    simp only [Bool.false_eq_true, if_false, run_load, h0, Array.getElem?_eq_getElem hlt, valOf]
    congr 1
    have : (cells.toList.drop off).take i.size = cells.toList[off] :: ((cells.toList.drop (off + 1)).take (i.size - 1)) := by
      rw [List.drop_eq_getElem_cons (by simpa using hlt)]
      obtain ⟨m, hm⟩ : ∃ m, i.size = m + 1 := ⟨i.size - 1, by omega⟩
      rw [hm]
      rfl
    rw [this]
    rfl

theorem cut_take (l : List Value) (k off n : Nat) (h : off + n ≤ k) : ((l.take k).drop off).take n = (l.drop off).take n := by
  apply List.ext_getElem?
  intro j
  simp only [List.getElem?_take, List.getElem?_drop]
  by_cases hj : j < n
  · rw [if_pos hj, if_pos hj, if_pos (by omega)]
  · rw [if_neg hj, if_neg hj]

/-- Cells of a block that has a name. -/
theorem blk_cut (W : WOk γ g β hp w) {id off n : Nat} {b : Blk} {l : List C} (hb : hp id = some b) (hc : cut off n b.cells = some l) :
    ∃ bk sz cells, β id = some (bk, sz) ∧ w.heap[bk]? = some (.cells cells b.elem (0, 0)) ∧ cells.size = sz ∧ off + n ≤ cells.toList.length ∧ off + n ≤ b.cells.length ∧ CL γ β l ((cells.toList.drop off).take n) := by
  obtain ⟨bk, sz, cells, h1, -, h3, h4, h5⟩ := W.blk id b hb
  have hlen := h5.length
  obtain ⟨hl, hcl⟩ := cut_spec hc h5
  rw [List.length_take] at hl hlen
  rw [cut_take _ _ _ _ (by omega)] at hcl
  exact ⟨bk, sz, cells, h1, h3, h4, by omega, by omega, hcl⟩

theorem move_sound (I : In γ g β hp tm w a o) {x : Operand} (ho : o.op = .move x ∨ o.op = .assign x) (h : evalOp cx tm hp nx o = some (.val v upd nx')) : Pu P γ β w a o nx v upd nx' := by
  have hx : x ∈ o.op.operands.toList := by rcases ho with ho | ho <;> simp [ho, Op.operands]
  have h : Out.val (opV tm x) [] nx = .val v upd nx' := by rcases ho with ho | ho <;> simpa [evalOp, ho] using h
  cases h
  refine Pu.mk (x := a.eval x) ?_ (I.rho hx)
  rcases ho with ho | ho <;> simp [execOp, ho]

theorem pick_sound (I : In γ g β hp tm w a o) {c x y : Operand} (ho : o.op = .pick c x y) (h : evalOp cx tm hp nx o = some (.val v upd nx')) : Pu P γ β w a o nx v upd nx' := by
  have hc := I.rho (x := c) (by simp [ho, Op.operands])
  have hx := I.rho (x := x) (by simp [ho, Op.operands])
  have hy := I.rho (x := y) (by simp [ho, Op.operands])
  have hrun : ∀ b, a.eval c = .bool b → (execOp a.eval o).run P w = .ok (.value (if b then a.eval x else a.eval y)) w := fun b hb => by
    simp [execOp, ho, hb, asBool]
  simp only [evalOp, ho] at h
  split at h
  · rename_i hq
    rw [hq] at hc
    cases h
    exact Pu.mk (hrun true (by simpa [VV, CV] using hc)) hx
  · rename_i hq
    rw [hq] at hc
    cases h
    exact Pu.mk (hrun false (by simpa [VV, CV] using hc)) hy
  · cases h

theorem eqGuard_int (op : BinOp) (t : TypeId) (x y : Operand) (k k' : IntKind) (n m : Int) (w : World) : (eqGuard op t x y (.int k n) (.int k' m)).run P w = .ok () w := by
  cases op <;> rfl

theorem eqGuard_str (op : BinOp) (t : TypeId) (x y : Operand) (n m : ByteArray) (w : World) : (eqGuard op t x y (.string n) (.string m)).run P w = .ok () w := by
  cases op <;> rfl

theorem eqGuard_ptr (op : BinOp) (t : TypeId) (x y : Operand) (n m : Option Addr) (w : World) : (eqGuard op t x y (.pointer n) (.pointer m)).run P w = .ok () w := by
  cases op <;> rfl

theorem eqGuard_sl (op : BinOp) (t : TypeId) (x y : Operand) (n m : Option Addr) (a b c d : Nat) (w : World) : (eqGuard op t x y (.slice n a b) (.slice m c d)).run P w = .ok () w := by
  cases op <;> rfl

theorem neg_spec {r : Bool} {op : BinOp} {c : C} (h : neg r op = some c) : (op = .eql ∧ c = .b r) ∨ (op = .neq ∧ c = .b !r) := by
  unfold neg at h
  split at h <;> cases h <;> simp

theorem ptrT_spec (H : CxOk P γ cx) {t : TypeId} (h : ptrT cx t = true) : ∃ e, P.underlying t = some (.pointer e) := by
  unfold ptrT at h
  split at h
  · rename_i i hi
    have hd := (H.ty t i hi).desc
    split at h
    · rename_i hq
      rwa [hq] at hd
    · cases h
  · cases h

theorem slcT_spec (H : CxOk P γ cx) {t : TypeId} (h : slcT cx t = true) : ∃ e, P.underlying t = some (.slice e) := by
  unfold slcT at h
  split at h
  · rename_i i hi
    have hd := (H.ty t i hi).desc
    split at h
    · rename_i e hq
      rw [hq] at hd
      exact ⟨e, hd⟩
    · cases h
  · cases h

theorem eqIn_ptr {t e : TypeId} (d : Nat) (he : P.underlying t = some (.pointer e)) (p : Option Addr) : (Op.equalIn (d + 1) t (.pointer p) (.pointer none)).run P w = .ok p.isNone w := by
  cases p <;> simp [Op.equalIn, run_underlying he]

theorem eq_ptr {t e : TypeId} (he : P.underlying t = some (.pointer e)) (p : Option Addr) (w : World) : (Op.equal t (.pointer p) (.pointer none)).run P w = .ok p.isNone w := eqIn_ptr 9999 he p

theorem eqIn_sl {t e : TypeId} (d : Nat) (he : P.underlying t = some (.slice e)) : (Op.equalIn (d + 1) t (.slice none 0 0) (.slice none 0 0)).run P w = .ok true w := by
  simp [Op.equalIn, run_underlying he]

theorem eq_sl {t e : TypeId} (he : P.underlying t = some (.slice e)) (w : World) : (Op.equal t (.slice none 0 0) (.slice none 0 0)).run P w = .ok true w := eqIn_sl 9999 he

theorem arI_spec (H : CxOk P γ cx) {op : BinOp} {k : IntKind} {a b q : IE} (h : arI cx.gam op k a b = some q) :
    (op = .add ∨ op = .sub ∨ op = .mul ∨ (op = .rem ∧ b.ev γ ≠ 0)) ∧ q.ev γ = IE.ev γ (.ar op k a b) := by
  have hv := valI_ev (γ := γ) (.ar op k a b) cx.gam.vi H.vi
  cases a <;> cases b <;> cases op <;> simp only [arI, reduceCtorEq, Option.some.injEq, Option.ite_none_left_eq_some] at h <;>
    first
    | (subst h; exact ⟨by simp, hv⟩)
    | (subst h; exact ⟨by simp, rfl⟩)
    | (obtain ⟨h0, rfl⟩ := h; exact ⟨by simpa [IE.ev] using h0, hv⟩)

theorem binC_spec (H : CxOk P γ cx) {op : BinOp} {c d r : C} {t : TypeId} (h : binC cx t op c d = some r) {vx vy : Value} (hx : CV γ β c vx) (hy : CV γ β d vy) (x y : Operand) (w : World) :
    ∃ v, (eqGuard op t x y vx vy).run P w = .ok () w ∧ (binOp op t vx vy).run P w = .ok v w ∧ CV γ β r v := by
  unfold binC at h
  split at h
  · rename_i k e k' e'
    simp only [CV] at hx hy
    subst hx hy
    split at h
    · rename_i hk
      have hk : k = k' := by simpa using hk
      subst hk
      split at h
      · rename_i b hb
        cases h
        have hl := cmpI_spec H hb
        refine ⟨.bool b, eqGuard_int .., ?_, by simp [CV]⟩
        cases op <;> simp only [litCmp, Option.some.injEq, reduceCtorEq] at hl <;> subst hl <;> simp [binOp, Op.intCmp]
        · by_cases hq : e.ev γ = e'.ev γ
          · rw [eqZ_iff.2 hq]; simp [hq]
          · have : eqZ (e.ev γ) (e'.ev γ) = false := by
              cases hz : eqZ (e.ev γ) (e'.ev γ) with
              | true => exact absurd (eqZ_iff.1 hz) hq
              | false => rfl
            rw [this]; simp [hq]
        · by_cases hq : e.ev γ = e'.ev γ
          · rw [eqZ_iff.2 hq]; simp [hq]
          · have : eqZ (e.ev γ) (e'.ev γ) = false := by
              cases hz : eqZ (e.ev γ) (e'.ev γ) with
              | true => exact absurd (eqZ_iff.1 hz) hq
              | false => rfl
            rw [this]; simp [hq]
      · simp only [Option.map_eq_some_iff] at h
        obtain ⟨q, hq, rfl⟩ := h
        obtain ⟨hop, hev⟩ := arI_spec H hq
        rcases hop with rfl | rfl | rfl | ⟨rfl, h0⟩
        · exact ⟨_, eqGuard_int .., by simp [binOp, Op.intArith]; rfl, by simp only [CV]; rw [hev]; rfl⟩
        · exact ⟨_, eqGuard_int .., by simp [binOp, Op.intArith]; rfl, by simp only [CV]; rw [hev]; rfl⟩
        · exact ⟨_, eqGuard_int .., by simp [binOp, Op.intArith]; rfl, by simp only [CV]; rw [hev]; rfl⟩
        · exact ⟨_, eqGuard_int .., by simp [binOp, Op.intDiv, h0]; rfl, by simp only [CV]; rw [hev]; rfl⟩
    · cases h
  · rename_i e e'
    simp only [CV] at hx hy
    subst hx hy
    split at h
    · split at h
      · rename_i hb
        cases h
        have h1 := SE.bnd_spec (γ := γ) e
        have h2 := SE.bnd_spec (γ := γ) e'
        have hbig : ¬ ((((e.ev γ).size + (e'.ev γ).size : Nat) : Int) > IntKind.i64.max) := by
          have : (e.ev γ).size + (e'.ev γ).size ≤ 100000 := by omega
          simp only [IntKind.max, IntKind.signed, IntKind.bits] at *
          simp
          omega
        exact ⟨.string (e.ev γ ++ e'.ev γ), eqGuard_str .., by simp only [binOp, Op.stringOp, hbig, if_false, Sem.run_pure], by simp [CV, SE.ev]⟩
      · cases h
    · split at h
      · rename_i l l'
        split at h
        · rename_i hb
          simp only [Bool.and_eq_true] at hb
          have hlist : ((litS l).toList == (litS l').toList) = eqN l l' := by
            by_cases he : l = l'
            · subst he
              rw [eqN_iff.2 rfl]
              simp
            · have h1 : eqN l l' = false := by
                cases hq : eqN l l' with
                | true => exact absurd (eqN_iff.1 hq) he
                | false => rfl
              rw [h1]
              refine beq_eq_false_iff_ne.2 fun e => he (litS_inj hb.1 hb.2 ?_)
              rw [ByteArray.toList_eq, ByteArray.toList_eq] at e
              exact ByteArray.ext (Array.ext' e)
          rcases neg_spec h with ⟨rfl, rfl⟩ | ⟨rfl, rfl⟩
          · exact ⟨_, eqGuard_str .., rfl, by simp only [CV, SE.ev]; rw [hlist]⟩
          · exact ⟨_, eqGuard_str .., rfl, by simp only [CV, SE.ev]; rw [hlist]⟩
        · cases h
      · cases h
  · simp only [CV] at hx hy
    subst hx hy
    split at h
    · rename_i hp
      obtain ⟨e, he⟩ := ptrT_spec H hp
      rcases neg_spec h with ⟨rfl, rfl⟩ | ⟨rfl, rfl⟩
      · exact ⟨_, eqGuard_ptr .., by simp only [binOp, Sem.run_bind, eq_ptr he, Result.andThen_ok, Sem.run_pure]; rfl, by simp [CV]⟩
      · exact ⟨_, eqGuard_ptr .., by simp only [binOp, Sem.run_bind, eq_ptr he, Result.andThen_ok, Sem.run_pure]; rfl, by simp [CV]⟩
    · cases h
  · simp only [CV] at hx hy
    subst hx hy
    split at h
    · rename_i hp
      obtain ⟨e, he⟩ := slcT_spec H hp
      rcases neg_spec h with ⟨rfl, rfl⟩ | ⟨rfl, rfl⟩
      · exact ⟨_, eqGuard_sl .., by simp only [binOp, Sem.run_bind, eq_sl he, Result.andThen_ok, Sem.run_pure]; rfl, by simp [CV]⟩
      · exact ⟨_, eqGuard_sl .., by simp only [binOp, Sem.run_bind, eq_sl he, Result.andThen_ok, Sem.run_pure]; rfl, by simp [CV]⟩
    · cases h
  · simp only [CV] at hx hy
    obtain ⟨bk, sz, -, rfl⟩ := hx
    subst hy
    split at h
    · rename_i hp
      obtain ⟨e, he⟩ := ptrT_spec H hp
      rcases neg_spec h with ⟨rfl, rfl⟩ | ⟨rfl, rfl⟩
      · exact ⟨_, eqGuard_ptr .., by simp only [binOp, Sem.run_bind, eq_ptr he, Result.andThen_ok, Sem.run_pure]; rfl, by simp [CV]⟩
      · exact ⟨_, eqGuard_ptr .., by simp only [binOp, Sem.run_bind, eq_ptr he, Result.andThen_ok, Sem.run_pure]; rfl, by simp [CV]⟩
    · cases h
  · cases h

theorem binOp_sound (H : CxOk P γ cx) (I : In γ g β hp tm w a o) {op : BinOp} {t t' : TypeId} {x y : Operand} (ho : o.op = .binOp op t x y t') (h : evalOp cx tm hp nx o = some (.val v upd nx')) : Pu P γ β w a o nx v upd nx' := by
  have hx := I.rho (x := x) (by simp [ho, Op.operands])
  have hy := I.rho (x := y) (by simp [ho, Op.operands])
  simp only [evalOp, ho] at h
  split at h
  · rename_i c d h1 h2
    rw [h1] at hx
    rw [h2] at hy
    simp only [Option.map_eq_some_iff] at h
    obtain ⟨r, hr, h⟩ := h
    cases h
    obtain ⟨v, hg, hb, hv⟩ := binC_spec H hr (VV.c_iff.1 hx) (VV.c_iff.1 hy) x y w
    exact Pu.mk (by simp [execOp, ho, hg, hb]) (VV.c_iff.2 hv)
  · cases h

theorem not_sound (I : In γ g β hp tm w a o) {t : TypeId} {x : Operand} (ho : o.op = .unOp .not t x) (h : evalOp cx tm hp nx o = some (.val v upd nx')) : Pu P γ β w a o nx v upd nx' := by
  have hx := I.rho (x := x) (by simp [ho, Op.operands])
  simp only [evalOp, ho] at h
  split at h
  · rename_i b h1
    rw [h1] at hx
    cases h
    have hb : a.eval x = .bool b := by simpa [VV, CV] using hx
    exact Pu.mk (x := .bool !b) (by simp [execOp, ho, hb, Op.unary]) (by simp [VV, CV])
  · cases h

theorem load_sound (H : CxOk P γ cx) (I : In γ g β hp tm w a o) {t : TypeId} {x : Operand} (ho : o.op = .load t x) (h : evalOp cx tm hp nx o = some (.val v upd nx')) : Pu P γ β w a o nx v upd nx' := by
  have hx := I.rho (x := x) (by simp [ho, Op.operands])
  simp only [evalOp, ho, Option.bind_eq_some_iff] at h
  obtain ⟨i, hi, h⟩ := h
  split at h
  · rename_i id off hq
    rw [hq] at hx
    simp only [Option.bind_eq_some_iff, Option.map_eq_some_iff] at h
    obtain ⟨b, hb, l, hc, r, hr, h⟩ := h
    cases h
    obtain ⟨bk, sz, cells, h1, h2, -, h4, -, h5⟩ := blk_cut I.wok hb hc
    have hx := VV.c_iff.1 hx
    simp only [CV] at hx
    obtain ⟨bk', sz', e1, e2⟩ := hx
    rw [h1] at e1
    cases e1
    obtain ⟨hv, hl⟩ := ofCells_spec hr h5
    exact Pu.mk (by simp [execOp, ho, e2, Instr.loadAt, Instr.sureAddr, run_loadVar H hi h2 h4 hl]) hv
  · cases h

theorem nilCheck_sound (I : In γ g β hp tm w a o) {x : Operand} (ho : o.op = .nilCheck x) (h : evalOp cx tm hp nx o = some (.val v upd nx')) : Pu P γ β w a o nx v upd nx' := by
  have hx := I.rho (x := x) (by simp [ho, Op.operands])
  simp only [evalOp, ho] at h
  split at h
  · rename_i id off hq
    rw [hq] at hx
    cases h
    have hx' := VV.c_iff.1 hx
    simp only [CV] at hx'
    obtain ⟨bk, sz, e1, e2⟩ := hx'
    exact Pu.mk (by simp [execOp, ho, e2]; rfl) (by rw [← e2]; exact hx)
  · cases h

theorem fieldAddr_sound (H : CxOk P γ cx) (I : In γ g β hp tm w a o) {t : TypeId} {x : Operand} {f : Nat} (ho : o.op = .fieldAddr t x f) (h : evalOp cx tm hp nx o = some (.val v upd nx')) : Pu P γ β w a o nx v upd nx' := by
  have hx := I.rho (x := x) (by simp [ho, Op.operands])
  simp only [evalOp, ho, Option.bind_eq_some_iff] at h
  obtain ⟨i, hi, h⟩ := h
  split at h
  · rename_i fs id off hd hr
    rw [hr] at hx
    simp only [Option.bind_eq_some_iff, Option.map_eq_some_iff] at h
    obtain ⟨q, hf, ti, hq, h⟩ := h
    cases h
    have hx' := VV.c_iff.1 hx
    simp only [CV] at hx'
    obtain ⟨bk, sz, e1, e2⟩ := hx'
    have hD := (H.ty t i hi).desc
    rw [hd] at hD
    obtain ⟨F, hF, rfl, -⟩ := hD
    rw [List.getElem?_map, Option.map_eq_some_iff] at hf
    obtain ⟨fld, hfld, rfl⟩ := hf
    have hfld' : F[f]? = some fld := by simpa using hfld
    have hne : ¬ ti.size = 0 := by have := (H.ty _ _ hq).pos; omega
    refine Pu.mk (x := .pointer (some ⟨bk, off + fld.offset, none⟩)) ?_ (VV.c_iff.2 (by simp only [CV]; exact ⟨bk, sz, e1, rfl⟩))
    simp [execOp, ho, e2, Instr.fieldAt, run_underlying hF w, hfld', Instr.sureAddr, fieldPlace, run_sizeOf H hq, hne, add_lit]
  · cases h

theorem field_sound (H : CxOk P γ cx) (I : In γ g β hp tm w a o) {t : TypeId} {x : Operand} {f : Nat} (ho : o.op = .field t x f) (h : evalOp cx tm hp nx o = some (.val v upd nx')) : Pu P γ β w a o nx v upd nx' := by
  have hx := I.rho (x := x) (by simp [ho, Op.operands])
  simp only [evalOp, ho, Option.bind_eq_some_iff] at h
  obtain ⟨i, hi, h⟩ := h
  split at h
  · rename_i fs l hd hr
    rw [hr] at hx
    simp only [Option.bind_eq_some_iff, Option.map_eq_some_iff] at h
    obtain ⟨q, hf, ti, hq, c, hc, r, hr', h⟩ := h
    cases h
    obtain ⟨cells, e2, hcl⟩ := VV.agg_iff.1 hx
    obtain ⟨hlen, hcl⟩ := cut_spec hc hcl
    obtain ⟨hv, h1⟩ := ofCells_spec hr' hcl
    have hD := (H.ty t i hi).desc
    rw [hd] at hD
    obtain ⟨F, hF, rfl, -⟩ := hD
    rw [List.getElem?_map, Option.map_eq_some_iff] at hf
    obtain ⟨fld, hfld, rfl⟩ := hf
    have hfld' : F[f]? = some fld := by simpa using hfld
    have hpos := (H.ty _ _ hq).pos
    refine Pu.mk (x := valOf ti.agg ((cells.toList.drop fld.offset).take ti.size)) ?_ hv
    have hpart : (part fld.type cells fld.offset).run P w = .ok (valOf ti.agg ((cells.toList.drop fld.offset).take ti.size)) w := by
      unfold part
      simp only [Sem.run_bind, run_isAgg H hq, Result.andThen_ok]
      cases ha : ti.agg with
      | true =>
        simp only [if_true, Sem.run_bind, run_sizeOf H hq, Result.andThen_ok, Sem.run_pure, valOf]
        congr 2
        apply Array.ext'
        simp [List.extract_eq_take_drop]
      | false =>
        simp only [Array.length_toList] at hlen
        have hlt : fld.offset < cells.size := by omega
        simp only [Bool.false_eq_true, if_false, Array.getElem?_eq_getElem hlt, Sem.run_pure, valOf]
        congr 1
        rw [List.drop_eq_getElem_cons (by simpa using hlt)]
        obtain ⟨m, hm⟩ : ∃ m, ti.size = m + 1 := ⟨ti.size - 1, by omega⟩
        rw [hm]
        rfl
    simp [execOp, ho, e2, Instr.field, run_underlying hF w, hfld', asAgg, hpart]
  · cases h

theorem indexAddr_sound (H : CxOk P γ cx) (I : In γ g β hp tm w a o) {t : TypeId} {x ix : Operand} (ho : o.op = .indexAddr t x ix) (h : evalOp cx tm hp nx o = some (.val v upd nx')) : Pu P γ β w a o nx v upd nx' := by
  have hx := I.rho (x := x) (by simp [ho, Op.operands])
  have hix := I.rho (x := ix) (by simp [ho, Op.operands])
  simp only [evalOp, ho, Option.bind_eq_some_iff] at h
  obtain ⟨e, hs, ie, hie, h⟩ := h
  have hu := sliceOf_spec H hs
  split at h
  · rename_i id off n wd k j h1 h2
    rw [h1] at hx
    rw [h2] at hix
    have hx := VV.c_iff.1 hx
    have hix := VV.c_iff.1 hix
    simp only [CV] at hx
    simp only [CV, IE.ev] at hix
    obtain ⟨bk, sz, cap, e1, e2, e3, e4⟩ := hx
    split at h
    · rename_i hc
      obtain ⟨hj, hwd⟩ := hc
      cases h
      have hlt : (j : Int) < (n : Int) := by omega
      have hnj : ¬ n ≤ j := by omega
      refine Pu.mk (x := .pointer (some ⟨bk, off + j * wd, none⟩)) ?_ (VV.c_iff.2 (by simp only [CV]; exact ⟨bk, sz, e1, rfl⟩))
      simp [execOp, ho, e2, hix, Instr.indexAt, asIntOf, run_underlying hu w, hlt, run_sizeOf H hie, add_lit, hwd, hnj, hj]
    · cases h
  · cases h

theorem index_sound (H : CxOk P γ cx) (I : In γ g β hp tm w a o) {t : TypeId} {x ix : Operand} (ho : o.op = .index t x ix) (h : evalOp cx tm hp nx o = some (.val v upd nx')) : Pu P γ β w a o nx v upd nx' := by
  have hx := I.rho (x := x) (by simp [ho, Op.operands])
  have hix := I.rho (x := ix) (by simp [ho, Op.operands])
  simp only [evalOp, ho, Option.bind_eq_some_iff] at h
  obtain ⟨i, hi, h⟩ := h
  split at h
  · rename_i l k j hd h1 h2
    rw [h1] at hx
    rw [h2] at hix
    have hx := VV.c_iff.1 hx
    have hix := VV.c_iff.1 hix
    simp only [CV, SE.ev] at hx
    simp only [CV, IE.ev] at hix
    split at h
    · rename_i hb
      simp only [Option.map_eq_some_iff] at h
      obtain ⟨b, hbj, h⟩ := h
      cases h
      have hb255 : b ≤ 255 := by
        have := List.all_eq_true.1 hb b (List.mem_of_getElem? hbj)
        exact Nat.le_of_ble_eq_true this
      have hget : (litS l)[j]? = some (UInt8.ofNat b) := by
        have hlt : j < l.length := (List.getElem?_eq_some_iff.1 hbj).1
        have hlt' : j < (litS l).size := by simpa [litS, ByteArray.size] using hlt
        rw [getElem?_pos (litS l) j hlt']
        have := (List.getElem?_eq_some_iff.1 hbj).2
        congr 1
        simp [litS, ByteArray.getElem_eq_getElem_data, this]
      refine Pu.mk (x := .int .u8 b) ?_ (VV.c_iff.2 (by simp [CV, IE.ev]))
      have hn : (UInt8.ofNat b).toNat = b := by simp [UInt8.toNat_ofNat', Nat.mod_eq_of_lt (show b < 256 by omega)]
      simp [execOp, ho, hx, hix, Instr.index, asIntOf, run_underlying (ty_string H hi hd) w, hget, -UInt8.toNat_ofNat', hn]
    · cases h
  · cases h

theorem numOf_spec {n m : Nat} (h : numOf n v = some m) {x : Value} (hv : VV γ β v x) : ∃ k, x = .int k m ∧ m ≤ n := by
  unfold numOf at h
  split at h
  · rename_i k m'
    split at h
    · rename_i hle
      cases h
      exact ⟨k, by simpa [VV, CV, IE.ev] using hv, hle⟩
    · cases h
  · cases h

theorem slice_sound (H : CxOk P γ cx) (I : In γ g β hp tm w a o) {t : TypeId} {x hi0 : Operand} (ho : o.op = .slice t x none (some hi0) none) (h : evalOp cx tm hp nx o = some (.val v upd nx')) : Pu P γ β w a o nx v upd nx' := by
  have hx := I.rho (x := x) (by simp [ho, Op.operands])
  have hix := I.rho (x := hi0) (by simp [ho, Op.operands])
  simp only [evalOp, ho, Option.bind_eq_some_iff] at h
  obtain ⟨e, hs, ie, hie, h⟩ := h
  have hu' := sliceOf_spec H hs
  have hu := run_underlying (P := P) hu' w
  have hadd : ∀ q : Addr, q.add 0 = q := fun q => by unfold Addr.add; simp
  split at h
  · rename_i id off n wd h1
    rw [h1] at hx
    have hx := VV.c_iff.1 hx
    simp only [CV] at hx
    obtain ⟨bk, sz, cap, e1, e2, e3, e4⟩ := hx
    simp only [Option.map_eq_some_iff] at h
    obtain ⟨m, hm, h⟩ := h
    cases h
    obtain ⟨k, hk, hle⟩ := numOf_spec hm hix
    have hb : m ≤ cap := by omega
    refine Pu.mk (x := .slice (some ⟨bk, off, none⟩) m cap) ?_ (VV.c_iff.2 (by simp only [CV]; exact ⟨bk, sz, cap, e1, rfl, hb, e4⟩))
    simp [execOp, ho, e2, hk, Instr.sliceAt, Instr.slice, Instr.sliceBounds, Instr.sliceBound, asIntOf, hu, hb, run_sizeOf H hie, hadd]
  · rename_i h1
    rw [h1] at hx
    have hx := VV.c_iff.1 hx
    simp only [CV] at hx
    simp only [Option.map_eq_some_iff] at h
    obtain ⟨m, hm, h⟩ := h
    cases h
    obtain ⟨k, hk, hle⟩ := numOf_spec hm hix
    have hm0 : m = 0 := by omega
    subst hm0
    refine Pu.mk (x := .slice none 0 0) ?_ (VV.c_iff.2 (by simp [CV]))
    simp [execOp, ho, hx, hk, Instr.sliceAt, Instr.slice, Instr.sliceBounds, Instr.sliceBound, asIntOf, hu, run_sizeOf H hie, hadd]
  · cases h

theorem extract_sound (I : In γ g β hp tm w a o) {x : Operand} {j : Nat} (ho : o.op = .extract x j) (h : evalOp cx tm hp nx o = some (.val v upd nx')) : Pu P γ β w a o nx v upd nx' := by
  have hx := I.rho (x := x) (by simp [ho, Op.operands])
  simp only [evalOp, ho] at h
  split at h
  · rename_i l hq
    rw [hq] at hx
    obtain ⟨vs, hv, hl⟩ := VV.tup_iff.1 hx
    simp only [Option.map_eq_some_iff] at h
    obtain ⟨c, hc, h⟩ := h
    cases h
    obtain ⟨y, hy, hcv⟩ := hl.at hc
    have hy' : vs[j]? = some y := by simpa using hy
    exact Pu.mk (x := y) (by simp [execOp, ho, hv, Instr.extract, hy']) hcv
  · cases h

theorem convert_sound (H : CxOk P γ cx) (I : In γ g β hp tm w a o) {t t' : TypeId} {x : Operand} (ho : o.op = .convert t t' x) (h : evalOp cx tm hp nx o = some (.val v upd nx')) : Pu P γ β w a o nx v upd nx' := by
  have hx := I.rho (x := x) (by simp [ho, Op.operands])
  simp only [evalOp, ho] at h
  split at h
  · rename_i k n ia ib h1 hia hib
    rw [h1] at hx
    have hx := VV.c_iff.1 hx
    simp only [CV, IE.ev] at hx
    split at h
    · rename_i k1 k2 hda hdb
      cases h
      exact Pu.mk (by simp [execOp, ho, hx, convert, run_underlying (ty_int H hia hda), run_underlying (ty_int H hib hdb), Conv.intToInt]; rfl) (VV.c_iff.2 (by simp [CV, IE.ev]))
    · cases h
  · cases h

theorem mapM_caps : ∀ {l : List Operand} {cs : List C}, (l.mapM fun x => match opV tm x with | .c c => some c | _ => none) = some cs → (∀ x ∈ l, VV γ β (opV tm x) (a.eval x)) → CL γ β cs (l.map a.eval)
  | [], cs, h, _ => by
    simp only [List.mapM_nil, Option.pure_def, Option.some.injEq] at h
    subst h
    exact CL.nil
  | x :: l, cs, h, hv => by
    simp only [List.mapM_cons, Option.bind_eq_bind, Option.bind_eq_some_iff, Option.pure_def, Option.some.injEq] at h
    obtain ⟨c, hc, r, hr, rfl⟩ := h
    have h0 := hv x List.mem_cons_self
    split at hc
    · rename_i d hd
      cases hc
      rw [hd] at h0
      exact CL.cons (VV.c_iff.1 h0) (mapM_caps hr fun y hy => hv y (List.mem_cons_of_mem _ hy))
    · cases hc

theorem makeFunc_sound (I : In γ g β hp tm w a o) {f : FuncId} {first caps : Array Operand} (ho : o.op = .makeFunc (.func f) first caps) (h : evalOp cx tm hp nx o = some (.val v upd nx')) : Pu P γ β w a o nx v upd nx' := by
  simp only [evalOp, ho] at h
  split at h
  · rename_i h0
    simp only [Option.map_eq_some_iff] at h
    obtain ⟨cs, hcs, h⟩ := h
    cases h
    have hf : first = #[] := Array.eq_empty_of_size_eq_zero h0
    subst hf
    have hl := mapM_caps (γ := γ) (β := β) (a := a) hcs fun x hx => I.rho (by
      simp only [ho, Op.operands, Array.toList_append, List.mem_append]
      exact .inr hx)
    refine Pu.mk (x := .func (.func f) #[] (caps.map a.eval)) ?_ (VV.c_iff.2 (by simp only [CV]; exact ⟨_, rfl, by simpa using hl⟩))
    simp [execOp, ho, Instr.makeFunc]
  · cases h
end
end Go.Proofs.YtdbbchgbgdbhbaaGreatDoor.Xe

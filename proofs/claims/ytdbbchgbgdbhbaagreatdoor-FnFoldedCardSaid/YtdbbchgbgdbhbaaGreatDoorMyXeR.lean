/- What the exact run says of an operation that changes memory is so. No condition. -/
import Derived.Test.YtdbbchgbgdbhbaaGreatDoorMyXeQ
set_option linter.unusedVariables false
set_option linter.unusedSimpArgs false
namespace Go.Proofs.YtdbbchgbgdbhbaaGreatDoor.Xe
open Go

section
variable {P : Program} {γ : Gs} {cx : Cx} {g : Gh} {β : Bm} {hp : Rd} {nx nx' : Nat} {tm : List (Nat × V)} {w w' : World} {a : Act} {o : Oper} {v : V} {upd : Upd}

/-! ### Blocks that are written -/
/-- The old block under its old name, or under a new one (the old one is given up). -/
theorem set_block (W : WOk γ g β hp w) {id : Nat} {b : Blk} (hb : hp id = some b) {bk sz : Nat} (hβ : β id = some (bk, sz)) {β' : Bm} {hp' : Rd} {id' : Nat} {blk : Blk} (hle : Ble β β') (hβ' : β' id' = some (bk, sz))
    (hhp : ∀ i x, hp' i = some x → (i = id' ∧ x = blk) ∨ (i ≠ id ∧ i ≠ id' ∧ hp i = some x)) {old cells : Array Value} (hh : w.heap[bk]? = some (.cells old b.elem (0, 0))) (hel : blk.elem = b.elem) (hsz : cells.size = sz)
    (hc : CL γ β' blk.cells (cells.toList.take blk.cells.length)) (hnx : nx ≤ nx') (hrng : ∀ i, i < nx ∨ nx' ≤ i → β' i = β i) :
    WOk γ g β' hp' (w.setRow bk cells) ∧ Mv hp nx β w hp' nx' β' (w.setRow bk cells) := by
  obtain ⟨bk0, sz0, e0, hlt, hb0⟩ := (W.blk id b hb).lt
  rw [hβ] at e0
  cases e0
  have far : ∀ i x bk' sz', hp i = some x → i ≠ id → β i = some (bk', sz') → bk' ≠ bk := fun i x bk' sz' h1 h2 h3 e => by
    subst e
    exact h2 (W.inj i id x b bk' sz' sz h1 hb h3 hβ)
  have old' : ∀ i x bk' sz', hp i = some x → β' i = some (bk', sz') → β i = some (bk', sz') := fun i x bk' sz' h1 h2 => by
    obtain ⟨bk1, sz1, e1, -⟩ := (W.blk i x h1).lt
    rw [hle _ _ e1] at h2
    rw [e1]
    exact h2
  refine ⟨⟨?_, by simpa using W.b0, fun i x hi => ?_, fun i j x y bk1 s1 s2 hi hj h1 h2 => ?_⟩, ⟨hle, hrng, hnx, by simp, fun c hc hno => setRow_other _ _ _ _ fun e => hno id b sz hb (by rw [e]; exact hβ), fun i x bk1 s1 hi h1 => ?_⟩⟩
  · exact g.keep w _ W.j ⟨rfl, rfl, rfl⟩ fun c hc => setRow_other _ _ _ _ (by omega)
  · rcases hhp i x hi with ⟨rfl, rfl⟩ | ⟨h1, h2, h3⟩
    · exact ⟨bk, sz, cells, hβ', hb0, by rw [setRow_heap _ _ _ _ _ _ hh, hel], hsz, hc⟩
    · exact (W.blk i x h3).up hle fun bk' sz' h4 => setRow_other _ _ _ _ (far i x bk' sz' h3 h1 h4)
  · rcases hhp i x hi with ⟨rfl, rfl⟩ | ⟨i1, i2, i3⟩
    · rcases hhp j y hj with ⟨rfl, rfl⟩ | ⟨j1, j2, j3⟩
      · rfl
      · rw [hβ'] at h1
        cases h1
        exact absurd rfl (far j y bk s2 j3 j1 (old' j y _ _ j3 h2))
    · rcases hhp j y hj with ⟨rfl, rfl⟩ | ⟨j1, j2, j3⟩
      · rw [hβ'] at h2
        cases h2
        exact absurd rfl (far i x bk s1 i3 i1 (old' i x _ _ i3 h1))
      · exact W.inj i j x y bk1 s1 s2 i3 j3 (old' i x _ _ i3 h1) (old' j y _ _ j3 h2)
  · rcases hhp i x hi with ⟨rfl, rfl⟩ | ⟨i1, i2, i3⟩
    · rw [hβ'] at h1
      cases h1
      exact .inr ⟨id, b, sz, hb, hβ⟩
    · exact .inr ⟨i, x, s1, i3, old' i x _ _ i3 h1⟩

theorem over_spec {l x : List C} {off : Nat} {L y : List Value} (hl : CL γ β l L) (hy : CL γ β x y) : CL γ β (over l off x) (L.take off ++ y ++ L.drop (off + y.length)) := by
  unfold over
  rw [hy.length]
  exact (hl.take.append hy).append hl.drop

theorem over_length {l x : List C} {off : Nat} (h : off + x.length ≤ l.length) : (over l off x).length = l.length := by
  unfold over
  simp only [List.length_append, List.length_take, List.length_drop]
  omega

theorem over_take (L y : List Value) (off m : Nat) (h : off + y.length ≤ m) (hm : m ≤ L.length) :
    (L.take off ++ y ++ L.drop (off + y.length)).take m = (L.take m).take off ++ y ++ (L.take m).drop (off + y.length) := by
  have hl : (L.take off ++ y).length = off + y.length := by simp only [List.length_append, List.length_take]; omega
  have hl' : ((L.take m).take off ++ y).length = off + y.length := by simp only [List.length_append, List.length_take]; omega
  have e : (L.take m).take off = L.take off := by rw [List.take_take]; congr 1; omega
  rw [List.take_append, hl, List.take_of_length_le (by omega), e, List.drop_take]

/-! ### New blocks -/
theorem alloc_sound (H : CxOk P γ cx) (I : In γ g β hp tm w a o) {t : TypeId} (ho : o.op = .alloc t) (h : evalOp cx tm hp nx o = some (.val v upd nx')) (hf : Free β nx nx') : Me P γ g β hp w a o nx v upd nx' := by
  simp only [evalOp, ho, Option.map_eq_some_iff] at h
  obtain ⟨i, hi, h⟩ := h
  cases h
  have hT := H.ty t i hi
  obtain ⟨info, z, hinfo, -, -, hz, hzc, hzs⟩ := hT.info
  have N := new_block (w' := { w with heap := w.heap.push (.cells z.cells t) }) (nx := nx) (cells := z.cells) (blk := { elem := t, cells := i.zero }) I.wok (hf nx (Nat.le_refl _) (Nat.lt_succ_self _)) rfl ⟨rfl, rfl, rfl⟩ (by
    rw [List.take_of_length_le (by simp [hT.zl, hzs])]
    exact hzc _ _)
  refine ⟨_, _, .pointer (some ⟨w.heap.size, 0, none⟩), .inl ?_, N.1, N.2, VV.c_iff.2 (by simp only [CV]; exact ⟨w.heap.size, z.cells.size, by simp [Bm.put], rfl⟩)⟩
  simp [execOp, ho, Instr.alloc, zeroValue, typeInfo, hinfo, hz, newVar, newRow]

theorem box_sound (H : CxOk P γ cx) (I : In γ g β hp tm w a o) {t : TypeId} {x : Operand} (ho : o.op = .box t x) (h : evalOp cx tm hp nx o = some (.val v upd nx')) (hf : Free β nx nx') : Me P γ g β hp w a o nx v upd nx' := by
  have hx := I.rho (x := x) (by simp [ho, Op.operands])
  simp only [evalOp, ho, Option.bind_eq_some_iff] at h
  obtain ⟨i, hi, l, hl, h⟩ := h
  split at h
  · rename_i hsz
    cases h
    have hc := cells_spec hl hx
    have hfree := hf nx (Nat.le_refl _) (Nat.lt_succ_self _)
    have N := new_block (w' := { w with heap := w.heap.push (.cells (a.eval x).cells t) }) (nx := nx) (cells := (a.eval x).cells) (blk := { elem := t, cells := l }) I.wok hfree rfl ⟨rfl, rfl, rfl⟩ (by
      rw [List.take_of_length_le (by rw [hc.length]; exact Nat.le_refl _)]
      exact hc.up (Bm.put_ble hfree))
    refine ⟨_, _, .pointer (some ⟨w.heap.size, 0, none⟩), .inl ?_, N.1, N.2, VV.c_iff.2 (by simp only [CV]; exact ⟨w.heap.size, (a.eval x).cells.size, by simp [Bm.put], rfl⟩)⟩
    simp [execOp, ho, Instr.box, newVar, newRow]
  · cases h

theorem store_sound (H : CxOk P γ cx) (I : In γ g β hp tm w a o) {t : TypeId} {x y : Operand} (ho : o.op = .store t x y) (h : evalOp cx tm hp nx o = some (.val v upd nx')) : Me P γ g β hp w a o nx v upd nx' := by
  have hx := I.rho (x := x) (by simp [ho, Op.operands])
  have hy := I.rho (x := y) (by simp [ho, Op.operands])
  simp only [evalOp, ho, Option.bind_eq_some_iff] at h
  obtain ⟨i, hi, h⟩ := h
  split at h
  · rename_i id off hq
    rw [hq] at hx
    simp only [Option.bind_eq_some_iff] at h
    obtain ⟨b, hb, l, hl, h⟩ := h
    split at h
    · rename_i hcond
      obtain ⟨hsz, hfit⟩ := hcond
      cases h
      have hyc := cells_spec hl hy
      have hx := VV.c_iff.1 hx
      simp only [CV] at hx
      obtain ⟨bk', sz', e1, e2⟩ := hx
      obtain ⟨bk, sz, cells, h1, h2, h3, h4, h5⟩ := I.wok.blk id b hb
      rw [h1] at e1
      cases e1
      have hlen := h5.length
      rw [List.length_take] at hlen
      have hyl := hyc.length
      have hysz : (a.eval y).cells.size = i.size := by rw [← Array.length_toList, hyl, hsz]
      have hst := run_storeCells_at (P := P) _ off b.elem (a.eval y).cells.toList 0 cells w h3 (by rw [hyl]; simp only [Array.length_toList] at hlen; omega) hyc.oneCell
      simp only [Nat.add_zero, Array.length_toList, hysz] at hst
      have S := set_block (nx' := nx) (cells := (cells.toList.take off ++ (a.eval y).cells.toList ++ cells.toList.drop (off + (a.eval y).cells.toList.length)).toArray) (β' := β) (hp' := upF hp [(id, some { b with cells := over b.cells off l })]) (id' := id)
        (blk := { b with cells := over b.cells off l }) I.wok hb h1 (Ble.refl _) h1 (fun j z hj => by
          simp only [upF] at hj
          split at hj
          · rename_i e
            cases hj
            exact .inl ⟨e, rfl⟩
          · rename_i e
            exact .inr ⟨e, e, hj⟩) h3 rfl (by
          simp only [List.size_toArray, List.length_append, List.length_take, List.length_drop, Array.length_toList] at hlen hyl ⊢
          omega) (by
          simp only [List.toList_toArray]
          rw [over_length hfit, over_take _ _ _ _ (by omega) (by omega)]
          exact over_spec h5 hyc) (Nat.le_refl _) (fun _ _ => rfl)
      refine ⟨_, _, undef, .inr ⟨?_, rfl⟩, S.1, S.2, VV.u _⟩
      simp [execOp, ho, e2, Instr.storeAt, Instr.sureAddr, storeVar, run_sizeOf H hi, hysz, hst]
    · cases h
  · cases h

/-! ### A struct that is built -/
theorem foldl_set (off : Nat) : ∀ (y : List Value) (k : Nat) (cells : Array Value), off + k + y.length ≤ cells.size →
    ((y.zipIdx k).foldl (fun cs (x : Value × Nat) => cs.setIfInBounds (off + x.2) x.1) cells).toList = cells.toList.take (off + k) ++ y ++ cells.toList.drop (off + k + y.length)
  | [], k, cells, _ => by simp
  | v :: y, k, cells, h => by
    rw [List.zipIdx_cons, List.foldl_cons]
    simp only [List.length_cons] at h
    rw [foldl_set off y (k + 1) _ (by simp only [Array.size_setIfInBounds]; omega)]
    have hlt : off + k < cells.toList.length := by simp; omega
    simp only [Array.toList_setIfInBounds]
    generalize cells.toList = L at hlt
    have e1 : (L.set (off + k) v).take (off + (k + 1)) = L.take (off + k) ++ [v] := by
      rw [← Nat.add_assoc, List.take_add_one, List.take_set_of_le (Nat.le_refl _)]
      simp [hlt]
    have e2 : (L.set (off + k) v).drop (off + (k + 1) + y.length) = L.drop (off + k + (y.length + 1)) := by
      rw [List.drop_set_of_lt (by omega)]
      congr 1
      omega
    rw [e1, e2, List.length_cons]
    simp

theorem mapM_get {α δ : Type} {f : α → Option δ} : ∀ {l : List α} {r : List δ}, l.mapM f = some r → r.length = l.length ∧ ∀ (j : Nat) (x : α), l[j]? = some x → ∃ y, r[j]? = some y ∧ f x = some y
  | [], r, h => by
    simp only [List.mapM_nil, Option.pure_def, Option.some.injEq] at h
    subst h
    exact ⟨rfl, fun j x hx => by simp at hx⟩
  | a :: l, r, h => by
    simp only [List.mapM_cons, Option.bind_eq_bind, Option.bind_eq_some_iff, Option.pure_def, Option.some.injEq] at h
    obtain ⟨y, hy, r', hr, rfl⟩ := h
    obtain ⟨h1, h2⟩ := mapM_get hr
    refine ⟨by simp [h1], fun j x hx => ?_⟩
    cases j with
    | zero =>
      simp only [List.getElem?_cons_zero, Option.some.injEq] at hx
      subst hx
      exact ⟨y, rfl, hy⟩
    | succ j => exact h2 j x (by simpa using hx)

theorem mapM_of {α δ : Type} {f : α → Option δ} {h : α → δ} : ∀ {l : List α}, (∀ x ∈ l, f x = some (h x)) → l.mapM f = some (l.map h)
  | [], _ => rfl
  | a :: l, hh => by
    rw [List.mapM_cons, hh a List.mem_cons_self, mapM_of (l := l) fun x hx => hh x (List.mem_cons_of_mem _ hx)]
    rfl

theorem fill_spec (place : Nat → Option (Nat × Nat)) : ∀ (ps : List (Nat × Value)) (ys : List (Nat × List Value)) (cells : Array Value), ps.length = ys.length →
    (∀ (j : Nat) (p : Nat × Value) (y : Nat × List Value), ps[j]? = some p → ys[j]? = some y → ∃ n, place p.1 = some (y.1, n) ∧ y.2 = p.2.cells.toList ∧ p.2.cells.size = n ∧ y.1 + n ≤ cells.size) →
    ∃ c, Instr.fill place cells ps = some c ∧ c.size = cells.size ∧ c.toList = ys.foldl (fun (l : List Value) (y : Nat × List Value) => l.take y.1 ++ y.2 ++ l.drop (y.1 + y.2.length)) cells.toList
  | [], [], cells, _, _ => ⟨cells, rfl, rfl, rfl⟩
  | [], _ :: _, _, h, _ => by simp at h
  | _ :: _, [], _, h, _ => by simp at h
  | (i, v) :: ps, (off, y) :: ys, cells, hl, hp => by
    obtain ⟨n, h1, h2, h3, h4⟩ := hp 0 _ _ rfl rfl
    simp only at h1 h2 h3 h4
    have hset := foldl_set off v.cells.toList 0 cells (by simp only [Array.length_toList]; omega)
    have hz : (v.cells.zipIdx.foldl (fun cs (x : Value × Nat) => cs.setIfInBounds (off + x.2) x.1) cells) = (v.cells.toList.zipIdx 0).foldl (fun cs (x : Value × Nat) => cs.setIfInBounds (off + x.2) x.1) cells := by
      rw [← Array.foldl_toList]
      simp
    generalize hc' : (v.cells.toList.zipIdx 0).foldl (fun cs (x : Value × Nat) => cs.setIfInBounds (off + x.2) x.1) cells = c' at hset hz
    have hsz : c'.size = cells.size := by
      have := congrArg List.length hset
      simp only [Array.length_toList, List.length_append, List.length_take, List.length_drop] at this
      omega
    obtain ⟨c, hf, hs, hl'⟩ := fill_spec place ps ys c' (by simpa using hl) (fun j p y hj hy => by
      rw [hsz]
      exact hp (j + 1) p y (by simpa using hj) (by simpa using hy))
    refine ⟨c, ?_, by omega, ?_⟩
    · unfold Instr.fill
      simp only [h1]
      rw [if_neg (by simp; omega)]
      exact hz ▸ hf
    · rw [hl', hset, List.foldl_cons, h2]
      simp only [Nat.add_zero]

theorem layAll_spec : ∀ {ps : List (Nat × List C)} {ys : List (Nat × List Value)} {base : List C} {l : List Value},
    CL γ β base l → ps.length = ys.length → (∀ (j : Nat) (p : Nat × List C) (y : Nat × List Value), ps[j]? = some p → ys[j]? = some y → p.1 = y.1 ∧ CL γ β p.2 y.2) →
    CL γ β (ps.foldl (fun cs p => over cs p.1 p.2) base) (ys.foldl (fun (l : List Value) (y : Nat × List Value) => l.take y.1 ++ y.2 ++ l.drop (y.1 + y.2.length)) l)
  | [], [], base, l, h, _, _ => h
  | [], _ :: _, _, _, _, h, _ => by simp at h
  | _ :: _, [], _, _, _, h, _ => by simp at h
  | (off, vs) :: ps, (off', y) :: ys, base, l, h, hl, hp => by
    obtain ⟨he, hy⟩ := hp 0 _ _ rfl rfl
    simp only at he hy
    subst he
    rw [List.foldl_cons, List.foldl_cons]
    exact layAll_spec (over_spec h hy) (by simpa using hl) (fun j p y h1 h2 => hp (j + 1) p y (by simpa using h1) (by simpa using h2))

theorem build_sound (H : CxOk P γ cx) (I : In γ g β hp tm w a o) {t : TypeId} {parts : Array (Nat × Operand)} (ho : o.op = .build t parts) (h : evalOp cx tm hp nx o = some (.val v upd nx')) : Pu P γ β w a o nx v upd nx' := by
  simp only [evalOp, ho, Option.bind_eq_some_iff] at h
  obtain ⟨i, hi, h⟩ := h
  split at h
  · rename_i fs hd
    simp only [Option.map_eq_some_iff] at h
    obtain ⟨ps, hps, h⟩ := h
    cases h
    have hT := H.ty t i hi
    have hD := hT.desc
    rw [hd] at hD
    obtain ⟨F, hF, hFs, hFi⟩ := hD
    obtain ⟨info, z, hinfo, -, -, hz, hzc, hzs⟩ := hT.info
    have hpl : F.toList.mapM (fun f => (P.info? f.type).map fun i => (f.offset, i.size)) = some (F.toList.map fun f => (f.offset, ((P.info? f.type).map (·.size)).getD 0)) := by
      refine mapM_of fun f hf => ?_
      obtain ⟨x, hx⟩ := hFi f hf
      simp [hx]
    obtain ⟨hlen, hget⟩ := mapM_get hps
    have hpart : ∀ (j : Nat) (q : Nat × Operand), parts.toList[j]? = some q → ∃ r : Nat × List C, ps[j]? = some r ∧ CL γ β r.2 (a.eval q.2).cells.toList ∧ ∃ (fld : Field) (ie : TI), F.toList[q.1]? = some fld ∧ r.1 = fld.offset ∧ cx.ty fld.type = some ie ∧ (a.eval q.2).cells.size = ie.size ∧ fld.offset + ie.size ≤ i.zero.length := by
      intro j q hq
      obtain ⟨r, hr, he⟩ := hget j q hq
      simp only [Option.bind_eq_some_iff] at he
      obtain ⟨f, hf, l, hl, ie, hie, he⟩ := he
      split at he
      · rename_i hcond
        cases he
        have hmem : q.2 ∈ o.op.operands.toList := by
          simp only [ho, Op.operands, List.toList_toArray]
          exact List.mem_map.2 ⟨q, List.mem_of_getElem? hq, rfl⟩
        have hcl := cells_spec hl (I.rho hmem)
        rw [← hFs, List.getElem?_map, Option.map_eq_some_iff] at hf
        obtain ⟨fld, hfld, rfl⟩ := hf
        exact ⟨_, hr, hcl, fld, ie, hfld, rfl, hie, by rw [← Array.length_toList, hcl.length, hcond.1], by rw [← hcond.1]; exact hcond.2⟩
      · cases he
    obtain ⟨c, hfill, hcs, hcl⟩ := fill_spec (fun j => (F.toList.map fun f => (f.offset, ((P.info? f.type).map (·.size)).getD 0)).toArray[j]?) (parts.map fun (q : Nat × Operand) => (q.1, a.eval q.2)).toList
      ((parts.toList.zip ps).map fun x => (x.2.1, (a.eval x.1.2).cells.toList)) z.cells (by simp [hlen]) (by
        intro j p y hj hy
        rw [Array.toList_map, List.getElem?_map, Option.map_eq_some_iff] at hj
        obtain ⟨q, hq, rfl⟩ := hj
        obtain ⟨r, hr, hcl, fld, ie, hfld, hro, hie, hsz, hfit⟩ := hpart j q hq
        rw [List.getElem?_map, Option.map_eq_some_iff] at hy
        obtain ⟨x, hx, rfl⟩ := hy
        rw [List.getElem?_zip_eq_some] at hx
        obtain ⟨hx1, hx2⟩ := hx
        rw [hq] at hx1
        rw [hr] at hx2
        have e1 := Option.some.inj hx1
        have e2 := Option.some.inj hx2
        obtain ⟨y', _, hy', hs', _⟩ := (H.ty _ _ hie).info
        refine ⟨ie.size, ?_, ?_, hsz, ?_⟩
        · rw [← e2, hro]
          simp only [List.getElem?_toArray, List.getElem?_map, hfld, Option.map_some]
          simp [hy', hs']
        · rw [← e1]
        · rw [← e2, hro, hzs, ← hT.zl]
          exact hfit)
    have hbuilt : P.built t (parts.map fun (q : Nat × Operand) => (q.1, a.eval q.2)).toList = some c := by
      unfold Program.built
      simp only [hinfo, hF, hz, hpl]
      exact hfill
    refine Pu.mk (x := .agg c) (by simp [execOp, ho, run_build w t _ c hbuilt]) (VV.agg_iff.2 ⟨c, rfl, ?_⟩)
    rw [hcl]
    refine layAll_spec (hzc _ _) (by simp [hlen]) ?_
    intro j p y hj hy
    rw [List.getElem?_map, Option.map_eq_some_iff] at hy
    obtain ⟨x, hx, rfl⟩ := hy
    rw [List.getElem?_zip_eq_some] at hx
    obtain ⟨hx1, hx2⟩ := hx
    obtain ⟨r, hr, hcl, -⟩ := hpart j x.1 hx1
    rw [hj] at hx2 hr
    cases hr
    have e2 := Option.some.inj hx2
    exact ⟨by rw [← e2], hcl⟩
  · cases h

/-! ### A row that is built -/
theorem flat_spec {f : Operand → Option (List C)} {h : Operand → Value} : ∀ {ps : List (Nat × Operand)} {ls : List (List C)}, (ps.mapM fun (q : Nat × Operand) => f q.2) = some ls → (∀ q ∈ ps, ∀ l, f q.2 = some l → CL γ β l (h q.2).cells.toList) →
    CL γ β ls.flatten ((ps.map fun q => h q.2).flatMap fun v => v.cells.toList)
  | [], ls, hm, _ => by
    simp only [List.mapM_nil, Option.pure_def, Option.some.injEq] at hm
    subst hm
    exact CL.nil
  | q :: ps, ls, hm, hv => by
    simp only [List.mapM_cons, Option.bind_eq_bind, Option.bind_eq_some_iff, Option.pure_def, Option.some.injEq] at hm
    obtain ⟨l, hl, r, hr, rfl⟩ := hm
    rw [List.flatten_cons, List.map_cons, List.flatMap_cons]
    exact (hv q List.mem_cons_self l hl).append (flat_spec hr fun y hy => hv y (List.mem_cons_of_mem _ hy))

theorem buildSlice_sound (H : CxOk P γ cx) (I : In γ g β hp tm w a o) {t : TypeId} {len : Nat} {parts : Array (Nat × Operand)} (ho : o.op = .buildSlice t len parts) (h : evalOp cx tm hp nx o = some (.val v upd nx')) (hf : Free β nx nx') :
    Me P γ g β hp w a o nx v upd nx' := by
  simp only [evalOp, ho, Option.bind_eq_some_iff] at h
  obtain ⟨i, hi, h⟩ := h
  split at h
  · rename_i el hd
    simp only [Option.bind_eq_some_iff] at h
    obtain ⟨ie, hie, h⟩ := h
    have hu := ty_slice H hi hd
    have hT := H.ty el ie hie
    obtain ⟨info, z, hinfo, hsize, -, hz, -, hzs⟩ := hT.info
    have hpos := hT.pos
    split at h
    · rename_i hl
      obtain ⟨hidx, hsm⟩ := hl
      simp only [Option.map_eq_some_iff] at h
      obtain ⟨ls, hls, h⟩ := h
      cases h
      have hfree := hf nx (Nat.le_refl _) (Nat.lt_succ_self _)
      have hcell : ∀ q ∈ parts.toList, ∀ l, ((cellsOf (opV tm q.2)).bind fun l => if l.length = ie.size then some l else none) = some l → CL γ β l (a.eval q.2).cells.toList ∧ l.length = ie.size := by
        intro q hq l hl
        simp only [Option.bind_eq_some_iff] at hl
        obtain ⟨l', hl', hl⟩ := hl
        split at hl
        · rename_i hz
          cases hl
          have hmem : q.2 ∈ o.op.operands.toList := by
            simp only [ho, Op.operands, List.toList_toArray]
            exact List.mem_map.2 ⟨q, hq, rfl⟩
          exact ⟨cells_spec hl' (I.rho hmem), hz⟩
        · cases hl
      have hflat := flat_spec (γ := γ) (β := β) (f := fun x => (cellsOf (opV tm x)).bind fun l => if l.length = ie.size then some l else none) (h := a.eval) hls fun q hq l hl => (hcell q hq l hl).1
      let vs := parts.toList.map fun q => a.eval q.2
      have hvl : vs.length = len := by
        have := congrArg List.length hidx
        simpa [vs] using this
      obtain ⟨-, hget⟩ := mapM_get hls
      have hall : ∀ v ∈ vs, v.cells.size = ie.size := fun v hv => by
        obtain ⟨q, hq, rfl⟩ := List.mem_map.1 hv
        obtain ⟨j, hj⟩ := List.getElem?_of_mem hq
        obtain ⟨l, -, hl⟩ := hget j q hj
        obtain ⟨h1, h2⟩ := hcell q hq l hl
        rw [← Array.length_toList, h1.length, h2]
      have hsz : (vs.flatMap fun v => v.cells.toList).length = len * ie.size := by
        rw [← hvl, List.length_flatMap, List.map_congr_left (g := fun _ => ie.size) (fun v hv => by simpa using hall v hv), List.map_const', List.sum_replicate_nat]
      have key : ∀ (w' : World) , w'.heap = w.heap.push (.cells (vs.flatMap fun v => v.cells.toList).toArray el (0, 0)) → OsEq w w' → (execOp a.eval o).run P w = .ok (.value (.slice (some ⟨w.heap.size, 0, none⟩) len len)) w' → Me P γ g β hp w a o nx (.c (.sl nx 0 len ie.size)) [(nx, some { elem := el, cells := ls.flatten })] (nx + 1) := by
        intro w' hw ho' hrun
        have N := new_block (w' := w') (nx := nx) (cells := (vs.flatMap fun v => v.cells.toList).toArray) (blk := { elem := el, cells := ls.flatten }) I.wok hfree hw ho' (by
          rw [List.take_of_length_le (by rw [List.toList_toArray]; exact Nat.le_of_eq hflat.length)]
          exact hflat.up (Bm.put_ble hfree))
        refine ⟨_, _, .slice (some ⟨w.heap.size, 0, none⟩) len len, .inl hrun, N.1, N.2, VV.c_iff.2 (by simp only [CV]; exact ⟨w.heap.size, (vs.flatMap fun v => v.cells.toList).toArray.size, len, by simp [Bm.put], rfl, Nat.le_refl _, by simp only [List.size_toArray, hsz, Nat.zero_add]⟩)⟩
      rcases Nat.eq_zero_or_pos len with h0 | h0
      · subst h0
        have hps : parts.size = 0 := by
          have := congrArg List.length hidx
          simpa using this
        have hp : parts = #[] := Array.eq_empty_of_size_eq_zero hps
        subst hp
        refine key { w with heap := w.heap.push (.cells #[] el) } rfl ⟨rfl, rfl, rfl⟩ ?_
        simp [execOp, ho, Instr.buildSlice, run_underlying hu, sizeOf, typeInfo, hinfo, Instr.fill, newRow]
        rw [show Array.range 0 = #[] from Array.eq_empty_of_size_eq_zero (by simp)]
        simp
      · have hpz : (parts.map fun (q : Nat × Operand) => (q.1, a.eval q.2)).toList = (vs.zipIdx 0).map fun x => (x.2, x.1) := by
          apply List.ext_getElem?
          intro j
          simp only [Array.toList_map, List.getElem?_map, List.getElem?_zipIdx, vs]
          cases hq : parts.toList[j]? with
          | none => simp
          | some q =>
            have : (parts.toList.map (·.1))[j]? = some q.1 := by rw [List.getElem?_map, hq]; rfl
            rw [hidx] at this
            have hj : j < len := by
              have := (List.getElem?_eq_some_iff.1 hq).1
              rw [← hvl]
              simpa [vs] using this
            rw [List.getElem?_range hj] at this
            simp [Option.some.inj this]
        have hbig : len * ie.size ≤ 2000000 := by
          have := Nat.mul_le_mul hsm hT.small
          simp only [small] at this
          omega
        have hfill := Great.fill_whole (s := ie.size) hpos vs ((Array.range (len * ie.size)).map (z.cells[· % z.cells.size]!)) hall (by simp [hvl])
        rw [← hpz] at hfill
        have hrun := run_buildSlice (P := P) w t el len (parts.map fun (q : Nat × Operand) => (q.1, a.eval q.2)) _ info z hu hinfo hz (by rw [hsize]; omega) (by rw [hsize]; exact Nat.ne_of_gt (Nat.mul_pos h0 hpos)) (by rw [hsize]; exact hfill)
        refine key (w.alloc (.cells (vs.flatMap fun v => v.cells.toList).toArray el)) rfl ⟨rfl, rfl, rfl⟩ ?_
        have hex : execOp a.eval o = (do pure (.value (← Instr.buildSlice t len (parts.map fun (q : Nat × Operand) => (q.1, a.eval q.2))))) := by simp only [execOp, ho]
        rw [hex, Sem.run_bind, hrun]
        rfl
    · cases h
  · cases h
end
end Go.Proofs.YtdbbchgbgdbhbaaGreatDoor.Xe

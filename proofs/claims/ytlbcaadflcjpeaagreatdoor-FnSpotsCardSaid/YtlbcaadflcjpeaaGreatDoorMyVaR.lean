/- What the checker says of an operation that changes memory is so. No condition. -/
import Derived.Test.YtlbcaadflcjpeaaGreatDoorMyVaQ
set_option linter.unusedVariables false
set_option linter.unusedSimpArgs false
namespace Go.Proofs.YtlbcaadflcjpeaaGreatDoor.Va
open Go

section
variable {P : Program} {cx : Cx} {g : Gh} {S : HT} {w : World} {β : Nat → Nat} {a : Act} {st : St} {o : Oper} {gd : Option (Nat × Bool)}

/-- It comes to such a value in such a world. -/
def Me (P : Program) (cx : Cx) (g : Gh) (S : HT) (w : World) (β : Nat → Nat) (a : Act) (o : Oper) (av : AV) (e : Eff) : Prop :=
  ∃ S' β' w' v, ((execOp a.eval o).run P w = .ok (.value v) w' ∨ ((execOp a.eval o).run P w = .ok .skip w' ∧ v = undef)) ∧ Post cx.rows cx.sub g S β w o.dst av e S' β' w' v

theorem Pu.me {av : AV} {e : Eff} (W : WOk cx.rows cx.sub g S w) (h : Pu P cx g S w β a o av e) : Me P cx g S w β a o av e := by
  obtain ⟨rfl, v, hr, hv⟩ := h
  exact ⟨S, β, w, v, .inl hr, ⟨Stp.refl _, W, hv, rfl⟩⟩

/-- A new box. -/
theorem new_post {vs : List (List CT)} (W : WOk cx.rows cx.sub g S w) {cells : Array Value} {el : TypeId} (hc : CW cx.sub g.cb S vs cells.toList) {w' : World} (hw : w'.heap = w.heap.push (.cells cells el (0, 0))) (ho : OsEq w w') :
    Post cx.rows cx.sub g S β w o.dst (.bp (o.dst.getD 0) 0) (.new vs) S (fun t => if t = o.dst.getD 0 then w.heap.size else β t) w' (.pointer (some ⟨w.heap.size, 0, none⟩)) where
  stp := ⟨HLe.refl _, by rw [hw, Array.size_push]; omega, fun b r h => .inl ⟨r, h⟩, fun b hb _ _ _ => by rw [hw, Array.getElem?_push_lt hb, Array.getElem?_eq_getElem hb]⟩
  wok := W.push _ hw ho
  val := fun tm => by simp [AVok]
  eff := by
    refine ⟨w.heap.size, Nat.le_refl _, by rw [hw, Array.size_push]; omega, ?_, ?_, rfl, cells, el, ?_, hc⟩
    · cases h : S w.heap.size with
      | none => rfl
      | some r => exact absurd (W.dom _ r h).2.2 (by omega)
    · have := W.cb
      omega
    · rw [hw]; simp

theorem alloc_sound (H : CxOk P cx) (I : In cx g S w β a st o gd) {t : TypeId} (ho : o.op = .alloc t) {av : AV} {e : Eff} (h : evalOp cx st o gd = some (av, e)) : Me P cx g S w β a o av e := by
  simp only [evalOp, ho, Option.map_eq_some_iff, Prod.mk.injEq] at h
  obtain ⟨i, hi, rfl, rfl⟩ := h
  obtain ⟨hT, rfl⟩ := ty_spec H hi
  obtain ⟨info, z, hinfo, -, -, hz, hzc, hzs⟩ := hT.info
  refine ⟨S, _, { w with heap := w.heap.push (.cells z.cells i.id) }, _, .inl ?_, new_post I.wok (cells := z.cells) ⟨i.zero, List.mem_singleton.2 rfl, hzc _ _ _⟩ rfl ⟨rfl, rfl, rfl⟩⟩
  simp [execOp, ho, Instr.alloc, zeroValue, typeInfo, hinfo, hz, newVar, newRow]

theorem box_sound (H : CxOk P cx) (I : In cx g S w β a st o gd) {t : TypeId} {x : Operand} (ho : o.op = .box t x) {av : AV} {e : Eff} (h : evalOp cx st o gd = some (av, e)) : Me P cx g S w β a o av e := by
  have hx := I.rho (x := x) (by simp [ho, Op.operands])
  simp only [evalOp, ho, Option.bind_eq_some_iff] at h
  obtain ⟨i, hi, vs, hvs, h⟩ := h
  split at h
  · simp only [Option.some.injEq, Prod.mk.injEq] at h
    obtain ⟨rfl, rfl⟩ := h
    refine ⟨S, _, { w with heap := w.heap.push (.cells (a.eval x).cells t) }, _, .inl ?_, new_post I.wok (cells := (a.eval x).cells) (asV_spec hvs hx) rfl ⟨rfl, rfl, rfl⟩⟩
    simp [execOp, ho, Instr.box, newVar, newRow]
  · cases h

/-- The world behind a store into a box. -/
theorem put_post {b : Nat} {vs : List (List CT)} (W : WOk cx.rows cx.sub g S w) (hb0 : g.b0 ≤ β b) (hS : S (β b) = none) (hcb : β b ≠ g.cb) (hlt : β b < w.heap.size)
    {old cells : Array Value} {el : TypeId} (hh : w.heap[β b]? = some (.cells old el (0, 0))) (hc : CW cx.sub g.cb S vs cells.toList) :
    Post cx.rows cx.sub g S β w o.dst .any (.put b vs) S β (w.setRow (β b) cells) undef where
  stp := ⟨HLe.refl _, by simp, fun b r h => .inl ⟨r, h⟩, fun b' hb' _ _ hx => setRow_other _ _ _ _ fun e => hx ⟨b, vs, rfl, e⟩⟩
  wok := {
    j := g.keep w _ W.j ⟨rfl, rfl, rfl⟩ fun b' hb' => setRow_other _ _ _ _ (by rcases hb' with h | h <;> omega)
    b0 := by simpa using W.b0
    cb := by simpa using W.cb
    dom := fun b' r h => by simpa using W.dom b' r h
    row := fun b' r h => (W.row b' r h).up (HLe.refl _) (setRow_other _ _ _ _ fun e => by rw [e, hS] at h; cases h) }
  val := fun _ => trivial
  eff := ⟨rfl, cells, el, setRow_heap _ _ _ _ _ _ hh, hc⟩

theorem store_sound (H : CxOk P cx) (I : In cx g S w β a st o gd) {t : TypeId} {x y : Operand} (ho : o.op = .store t x y) {av : AV} {e : Eff} (h : evalOp cx st o gd = some (av, e)) : Me P cx g S w β a o av e := by
  have hmx : x ∈ o.op.operands.toList := by simp [ho, Op.operands]
  have hy := I.rho (x := y) (by simp [ho, Op.operands])
  simp only [evalOp, ho, Option.bind_eq_some_iff] at h
  obtain ⟨i, hi, h⟩ := h
  split at h
  · rename_i b off hq
    simp only [Option.bind_eq_some_iff] at h
    obtain ⟨vs, hvs, xs, hxs, h⟩ := h
    split at h
    · rename_i hc
      simp only [Bool.and_eq_true] at hc
      obtain ⟨hc1, hc2⟩ := hc
      simp only [Option.some.injEq, Prod.mk.injEq] at h
      obtain ⟨rfl, rfl⟩ := h
      obtain ⟨he, ⟨cells, el, hh, hcw⟩, hb0, hS, hcb, hlt⟩ := I.box (by simp [ho, isMem]) hmx hq hvs
      have hyc := asV_spec hxs hy
      have hsz : (a.eval y).cells.size = i.size := by
        obtain ⟨z, hz, hcl⟩ := hyc
        have h1 := hcl.length
        have h2 := List.all_eq_true.1 hc1 z hz
        simp only [beq_iff_eq] at h2
        rw [← Array.length_toList, h1, h2]
      have hfit : off + i.size ≤ cells.toList.length := by
        obtain ⟨z, hz, hcl⟩ := hcw
        have h2 := List.all_eq_true.1 hc2 z hz
        simp only [decide_eq_true_eq] at h2
        rw [hcl.length]
        exact h2
      have hone : ∀ v ∈ (a.eval y).cells.toList, v.oneCell' = true := by
        obtain ⟨z, hz, hcl⟩ := hyc
        exact hcl.oneCell
      have hst := run_storeCells_at (P := P) (β b) off el (a.eval y).cells.toList 0 cells w hh (by simp only [Array.length_toList] at hfit ⊢; omega) hone
      simp only [Nat.add_zero, Array.length_toList, hsz] at hst
      have hl := layAll_spec (sub := cx.sub) (cb := g.cb) (S := S) (ps := [(off, xs)]) (ys := [(off, (a.eval y).cells.toList)]) hcw rfl (fun j p q hj hq => by
        cases j with
        | zero =>
          simp only [List.getElem?_cons_zero, Option.some.injEq] at hj hq
          subst hj hq
          exact ⟨rfl, hyc⟩
        | succ j => simp at hj)
      simp only [List.foldl_cons, List.foldl_nil, Array.length_toList, hsz] at hl
      obtain ⟨z, hz, hcl⟩ := hl
      refine ⟨S, β, w.setRow (β b) (cells.toList.take off ++ (a.eval y).cells.toList ++ cells.toList.drop (off + i.size)).toArray, undef, .inr ⟨?_, rfl⟩,
        put_post I.wok hb0 hS hcb hlt hh ⟨z, mem_eraseDups hz, by simpa using hcl⟩⟩
      simp [execOp, ho, he, Instr.storeAt, Instr.sureAddr, storeVar, run_sizeOf H hi, hsz, hst]
    · cases h
  · cases h

/-! ### New rows -/
def HT.put (S : HT) (b : Nat) (r : RB) : HT := fun b' => if b' = b then some r else S b'

theorem HT.put_le {S : HT} {b : Nat} {r : RB} (h : S b = none) : HLe S (S.put b r) := fun b' r' hb => by
  refine ⟨r', ?_, rfl, rfl, Nat.le_refl _⟩
  unfold HT.put
  rw [if_neg (fun e => by rw [e, h] at hb; cases hb)]
  exact hb

theorem row_post {av : AV} {v : Value} (W : WOk cx.rows cx.sub g S w) {nm : Nat} {R : Row} (hR : cx.row nm = some R) {cells : Array Value} {cap fill : Nat} (hsz : cells.size = cap * R.width) (hfc : fill ≤ cap)
    (hel : ∀ i, i < fill → CW cx.sub g.cb S (R.at i) ((cells.toList.drop (i * R.width)).take R.width)) {w' : World} (hw : w'.heap = w.heap.push (.cells cells R.elem (0, 0))) (ho : OsEq w w')
    (hv : ∀ tm, AVok cx.sub g.cb (S.put w.heap.size ⟨nm, cap, fill⟩) cx.rows β tm av v) :
    Post cx.rows cx.sub g S β w o.dst av .no (S.put w.heap.size ⟨nm, cap, fill⟩) β w' v := by
  have hS : S w.heap.size = none := by
    cases h : S w.heap.size with
    | none => rfl
    | some r => exact absurd (W.dom _ r h).2.2 (by omega)
  have W' := W.push _ hw ho
  have hle := HT.put_le (r := ⟨nm, cap, fill⟩) hS
  refine ⟨⟨hle, by rw [hw, Array.size_push]; omega, fun b r h => ?_, fun b hb _ _ _ => by rw [hw, Array.getElem?_push_lt hb, Array.getElem?_eq_getElem hb]⟩, ⟨W'.j, W'.b0, W'.cb, fun b r h => ?_, fun b r h => ?_⟩, hv, rfl⟩
  · by_cases hb : b = w.heap.size
    · exact .inr (by omega)
    · simp only [HT.put, if_neg hb] at h
      exact .inl ⟨r, h⟩
  · by_cases hb : b = w.heap.size
    · subst hb
      have := W.cb
      exact ⟨W.b0, by omega, by rw [hw, Array.size_push]; omega⟩
    · simp only [HT.put, if_neg hb] at h
      exact W'.dom b r h
  · by_cases hb : b = w.heap.size
    · subst hb
      simp only [HT.put, if_true, Option.some.injEq] at h
      subst h
      exact ⟨R, cells, hR, by rw [hw]; simp, hsz, hfc, fun i hi => (hel i hi).up hle⟩
    · simp only [HT.put, if_neg hb] at h
      exact (W'.row b r h).up hle rfl

theorem flat_part {s : Nat} {f : Value → List Value} : ∀ (vs : List Value) (i : Nat) (v : Value), (∀ v ∈ vs, (f v).length = s) → vs[i]? = some v → ((vs.flatMap f).drop (i * s)).take s = f v
  | [], _, _, _, h => by simp at h
  | u :: vs, 0, v, hs, h => by
    simp only [List.getElem?_cons_zero, Option.some.injEq] at h
    subst h
    rw [List.flatMap_cons, Nat.zero_mul, List.drop_zero]
    have := hs u List.mem_cons_self
    rw [← this, List.take_left']
    rfl
  | u :: vs, i + 1, v, hs, h => by
    have hu := hs u List.mem_cons_self
    rw [List.flatMap_cons, Nat.add_mul, Nat.one_mul, Nat.add_comm, ← List.drop_drop]
    have : (f u ++ vs.flatMap f).drop s = vs.flatMap f := by rw [← hu, List.drop_left']; rfl
    rw [this]
    exact flat_part vs i v (fun v hv => hs v (List.mem_cons_of_mem _ hv)) (by simpa using h)

theorem buildSlice_sound (H : CxOk P cx) (I : In cx g S w β a st o gd) {t : TypeId} {len : Nat} {parts : Array (Nat × Operand)} (ho : o.op = .buildSlice t len parts) {av : AV} {e : Eff} (h : evalOp cx st o gd = some (av, e)) :
    Me P cx g S w β a o av e := by
  simp only [evalOp, ho, Option.bind_eq_some_iff] at h
  obtain ⟨i, hi, h⟩ := h
  split at h
  · rename_i el hd
    simp only [Option.bind_eq_some_iff] at h
    obtain ⟨ie, hie, h⟩ := h
    have hu := ty_slice H hi hd
    obtain ⟨hT, hid⟩ := ty_spec H hie
    obtain ⟨info, z, hinfo, hsize, -, hz, -, hzs⟩ := hT.info
    rw [hid] at hinfo
    have hpos := hT.pos
    split at h
    · rename_i hl
      obtain ⟨rfl, hps⟩ := hl
      simp only [Option.some.injEq, Prod.mk.injEq] at h
      obtain ⟨rfl, rfl⟩ := h
      have hp : parts = #[] := Array.eq_empty_of_size_eq_zero hps
      subst hp
      refine ⟨S, β, { w with heap := w.heap.push (.cells #[] el) }, .slice (some ⟨w.heap.size, 0, none⟩) 0 0, .inl ?_, ⟨⟨HLe.refl _, ?_, fun b r h => .inl ⟨r, h⟩, fun b hb _ _ _ => ?_⟩, I.wok.push _ rfl ⟨rfl, rfl, rfl⟩, fun _ => ⟨_, List.mem_singleton.2 rfl, _, rfl⟩, rfl⟩⟩
      · simp [execOp, ho, Instr.buildSlice, run_underlying hu, sizeOf, typeInfo, hinfo, Instr.fill, newRow]
        rw [show Array.range 0 = #[] from Array.eq_empty_of_size_eq_zero (by simp)]
        simp
      · simp
      · simp only [Array.getElem?_push_lt hb, Array.getElem?_eq_getElem hb]
    · split at h
      · rename_i hl
        obtain ⟨hidx, h0, hsm, hsm'⟩ := hl
        simp only [Option.bind_eq_some_iff] at h
        obtain ⟨es, hes, nm, hnm, h⟩ := h
        split at h
        · rename_i R hR
          split at h
          · rename_i hfit
            obtain ⟨hfit, hwd⟩ := hfit
            simp only [Option.some.injEq, Prod.mk.injEq] at h
            obtain ⟨rfl, rfl⟩ := h
            simp only [fitRow, hR, Bool.and_eq_true, beq_iff_eq] at hfit
            obtain ⟨hRe, hfit⟩ := hfit
            obtain ⟨hlen, hget⟩ := mapM_get hes
            let vs := parts.toList.map fun q => a.eval q.2
            have hvl : vs.length = len := by
              have := congrArg List.length hidx
              simpa [vs] using this
            have hcells : ∀ (j : Nat) (v : Value), vs[j]? = some v → ∃ ws, es[j]? = some ws ∧ CW cx.sub g.cb S ws v.cells.toList ∧ v.cells.size = ie.size := by
              intro j v hj
              simp only [vs, List.getElem?_map, Option.map_eq_some_iff] at hj
              obtain ⟨q, hq, rfl⟩ := hj
              obtain ⟨ws, hws, he⟩ := hget j q hq
              simp only [Option.bind_eq_some_iff] at he
              obtain ⟨ws', hws', he⟩ := he
              split at he
              · rename_i hall
                have := Option.some.inj he
                subst this
                have hmem : q.2 ∈ o.op.operands.toList := by
                  simp only [ho, Op.operands, List.toList_toArray]
                  exact List.mem_map.2 ⟨q, List.mem_of_getElem? hq, rfl⟩
                have hc := asV_spec hws' (I.rho hmem)
                refine ⟨_, hws, hc, ?_⟩
                obtain ⟨y, hy, hcl⟩ := hc
                have h1 := hcl.length
                have h2 := List.all_eq_true.1 hall y hy
                simp only [beq_iff_eq] at h2
                rw [← Array.length_toList, h1, h2]
              · cases he
            have hall : ∀ v ∈ vs, v.cells.size = ie.size := fun v hv => by
              obtain ⟨j, hj⟩ := List.getElem?_of_mem hv
              exact (hcells j v hj).choose_spec.2.2
            have hpz : (parts.map fun (q : Nat × Operand) => (q.1, a.eval q.2)).toList = (vs.zipIdx 0).map fun x => (x.2, x.1) := by
              apply List.ext_getElem?
              intro j
              simp only [Array.toList_map, List.getElem?_map, List.getElem?_zipIdx, vs]
              cases hq : parts.toList[j]? with
              | none => simp
              | some q =>
                have : (parts.toList.map (·.1))[j]? = some q.1 := by rw [List.getElem?_map, hq]; rfl
                rw [hidx] at this
                have hj : j < len := by
                  have := (List.getElem?_eq_some_iff.1 hq).1
                  rw [← hvl]
                  simpa [vs] using this
                rw [List.getElem?_range hj] at this
                simp [Option.some.inj this]
            have hbig : len * ie.size ≤ 1000000 := by
              have := Nat.mul_le_mul hsm hsm'
              simp only [small] at this
              omega
            have hfill := Great.fill_whole (s := ie.size) hpos vs ((Array.range (len * ie.size)).map (z.cells[· % z.cells.size]!)) hall (by simp [hvl])
            rw [← hpz] at hfill
            have hrun := run_buildSlice (P := P) w t el len (parts.map fun (q : Nat × Operand) => (q.1, a.eval q.2)) _ info z hu hinfo hz (by rw [hsize]; omega) (by rw [hsize]; exact Nat.ne_of_gt (Nat.mul_pos h0 hpos)) (by rw [hsize]; exact hfill)
            have hsz : (vs.flatMap fun v => v.cells.toList).length = len * R.width := by
              rw [hwd, ← hvl, List.length_flatMap, List.map_congr_left (g := fun _ => ie.size) (fun v hv => by simpa using hall v hv), List.map_const', List.sum_replicate_nat]
            refine ⟨_, β, _, _, .inl ?_, row_post I.wok hR (cells := (vs.flatMap fun v => v.cells.toList).toArray) (cap := len) (fill := len) (by simpa using hsz) (Nat.le_refl _) (fun j hj => ?_) (w' := w.alloc (.cells (vs.flatMap fun v => v.cells.toList).toArray el)) (by rw [hRe]; rfl) ⟨rfl, rfl, rfl⟩
              (v := .slice (some ⟨w.heap.size, 0, none⟩) len len) (fun tm => ?_)⟩
            · have hex : execOp a.eval o = (do pure (.value (← Instr.buildSlice t len (parts.map fun (q : Nat × Operand) => (q.1, a.eval q.2))))) := by simp only [execOp, ho]
              rw [hex, Sem.run_bind, hrun]
              rfl
            · obtain ⟨v, hv⟩ : ∃ v, vs[j]? = some v := ⟨vs[j]'(by omega), List.getElem?_eq_getElem (by omega)⟩
              obtain ⟨ws, hws, hc, -⟩ := hcells j v hv
              have hp := flat_part (s := ie.size) (f := fun v => v.cells.toList) vs j v (fun v hv => by simpa using hall v hv) hv
              rw [hwd]
              rw [hp]
              have hle := List.all_eq_true.1 hfit (ws, j) (by
                rw [List.mem_zipIdx_iff_getElem?]
                exact hws)
              exact leV_sound H.trans hle hc
            · exact ⟨_, List.mem_singleton.2 rfl, _, len, len, rfl, Nat.le_refl _, Nat.le_refl _, Nat.le_refl _, .inr ⟨_, ⟨nm, len, len⟩, rfl, by simp [HT.put], .inl rfl, Nat.le_refl _, Nat.le_refl _⟩⟩
          · cases h
        · cases h
      · cases h
  · cases h
end
end Go.Proofs.YtlbcaadflcjpeaaGreatDoor.Va
set_option linter.unusedVariables false
set_option linter.unusedSimpArgs false
namespace Go.Proofs.YtlbcaadflcjpeaaGreatDoor.Va
open Go

section
variable {P : Program} {cx : Cx} {g : Gh} {S : HT} {w : World} {β : Nat → Nat} {a : Act} {st : St} {o : Oper} {gd : Option (Nat × Bool)}

/-- A slice whose elements may be so: its cells. -/
structure Sl (S : HT) (w : World) (sub : List (Nat × Nat)) (cb : Nat) (els : List (List CT)) (wd : Nat) (p : Option Addr) (n c : Nat) (news : List Value) : Prop where
  len : news.length = n * wd
  cell : ∀ (ad : Addr), p = some ad → ∀ (j : Nat) (u : Value), news[j]? = some u → w.cell? (ad.add j) = some u
  none : p = none → n = 0
  el : ∀ i, i < n → CW sub cb S els ((news.drop (i * wd)).take wd)
  cap : n ≤ c

theorem sl_nil {els : List (List CT)} {wd : Nat} (p : Option Addr) : Sl S w cx.sub g.cb els wd p 0 0 [] :=
  ⟨by simp, fun ad _ j u h => by simp at h, fun _ => rfl, fun i h => by omega, Nat.le_refl _⟩

theorem sl_of (H : CxOk P cx) (W : WOk cx.rows cx.sub g S w) {nm lo hi : Nat} {ow : Bool} {v : Value} (hv : CV cx.sub g.cb S (.sl nm lo hi ow) v) {R : Row} (hR : cx.row nm = some R) (hex : R.exc = []) :
    ∃ p n c news, v = .slice p n c ∧ lo ≤ n ∧ n ≤ hi ∧ Sl S w cx.sub g.cb R.els R.width p n c news ∧
      (c = 0 ∨ ∃ b r, p = some ⟨b, 0, none⟩ ∧ S b = some r ∧ subP cx.sub ow r.nm nm ∧ n ≤ r.fill ∧ c ≤ r.cap) := by
  obtain ⟨p, n, c, rfl, h1, h2, h3, h4⟩ := hv
  rcases h4 with h4 | h4
  · subst h4
    have : n = 0 := by omega
    subst this
    exact ⟨p, 0, 0, [], rfl, h1, h2, sl_nil p, .inl rfl⟩
  · obtain ⟨b, r, rfl, hb, hs, hf, hc⟩ := h4
    have hs' : subP cx.sub false r.nm nm := by
      rcases hs with hs | ⟨_, hs⟩
      · exact .inl hs
      · exact .inr ⟨rfl, hs⟩
    obtain ⟨R0, cells, h1', h2', h3', h4', h5'⟩ := W.row b r hb
    have hlen : n * R.width ≤ cells.toList.length := by
      cases n with
      | zero => simp
      | succ m =>
        obtain ⟨cells', e', hh, hle, -⟩ := row_cells H W hb hs' hR (i := m) (j := m) (by omega) (.inl hex)
        rw [h2'] at hh
        simp only [Option.some.injEq, Obj.cells.injEq] at hh
        obtain ⟨rfl, -, -⟩ := hh
        exact hle
    refine ⟨_, n, c, cells.toList.take (n * R.width), rfl, h1, h2, ⟨by simp only [List.length_take]; omega, fun ad had j u hj => ?_, (fun h => by cases h), fun i hi => ?_, h3⟩, .inr ⟨b, r, rfl, hb, hs, hf, hc⟩⟩
    · cases had
      rw [add_lit, cell_of_row w b _ cells R0.elem (0, 0) h2', Nat.zero_add]
      rw [List.getElem?_take] at hj
      split at hj
      · simpa using hj
      · cases hj
    · obtain ⟨cells', e', hh, hle, hcw⟩ := row_cells H W hb hs' hR (i := i) (j := i) (by omega) (.inl hex)
      rw [h2'] at hh
      simp only [Option.some.injEq, Obj.cells.injEq] at hh
      obtain ⟨rfl, -, -⟩ := hh
      have hat : R.at i = R.els := by simp [Row.at, hex]
      rw [hat] at hcw
      have e : ((cells.toList.take (n * R.width)).drop (i * R.width)).take R.width = (cells.toList.drop (i * R.width)).take R.width := by
        have hle2 : (i + 1) * R.width ≤ n * R.width := Nat.mul_le_mul_right _ (by omega)
        rw [Nat.add_mul, Nat.one_mul] at hle2
        apply List.ext_getElem?
        intro j
        simp only [List.getElem?_take, List.getElem?_drop]
        by_cases hj : j < R.width
        · rw [if_pos hj, if_pos hj, if_pos (by omega)]
        · rw [if_neg hj, if_neg hj]
      rw [e]
      exact hcw

theorem run_first {els : List (List CT)} {wd : Nat} {p : Option Addr} {n c : Nat} {news : List Value} {sub cb} (h : Sl S w sub cb els wd p n c news) (w' : World) (hw : ∀ ad, w'.cell? ad = w.cell? ad) :
    (Builtin.firstCells wd n (.slice p n c)).run P w' = .ok news.toArray w' := by
  cases p with
  | none =>
    have := h.none rfl
    subst this
    have hl := h.len
    rw [Nat.zero_mul] at hl
    have := List.eq_nil_of_length_eq_zero hl
    subst this
    rfl
  | some ad => exact run_firstCells_some (P := P) w' wd n ad n c news h.len (fun j u hj => by rw [hw]; exact h.cell ad rfl j u hj)

/-- append with nothing. -/
theorem run_app0 {t ty e : TypeId} {i : TypeInfo} (ht : P.underlying t = some (.slice e)) (hi : P.info? e = some i) {p q : Option Addr} {n c : Nat} (hc : n ≤ c) (d : Nat) :
    (Builtin.append_ #[t, t] ty #[.slice p n c, .slice q 0 d]).run P w = .ok (.slice p n c) w := by
  have hf : ∀ w' : World, (Builtin.firstCells i.size 0 (.slice q 0 d)).run P w' = .ok #[] w' := fun w' => by
    cases q <;> simp [Builtin.firstCells, loadCells, loadCellsFrom]
  cases p <;> simp [Builtin.append_, run_underlying ht, sizeOf, typeInfo, hi, Builtin.lenOf, hc, hf, storeCells]

/-- append where there is no room. -/
theorem run_app_grow {t ty e : TypeId} {i : TypeInfo} {z : Value} (ht : P.underlying t = some (.slice e)) (hi : P.info? e = some i) (hz : i.zero = some z) {sub cb}
    {els els' : List (List CT)} {p q : Option Addr} {n c m d : Nat} {olds news : List Value} (ho : Sl S w sub cb els i.size p n c olds) (hn : Sl S w sub cb els' i.size q m d news)
    (hg : c < n + m) (hs : n + m ≤ 1000) (hb : i.bytes ≤ 1000) :
    (Builtin.append_ #[t, t] ty #[.slice p n c, .slice q m d]).run P w = .ok (.slice (some ⟨w.heap.size, 0, none⟩) (n + m) (grownCap w (n + m) c e))
      (w.drew.alloc (.cells (olds.toArray ++ news.toArray ++ Builtin.zeroCells z.cells (grownCap w (n + m) c e - (n + m))) e)) := by
  have h1 : ¬ (n + m ≤ c) := by omega
  have h63 : ¬ (9223372036854775807 < ((n : Int) + (m : Int))) := by omega
  have hfit := growslice_fits (need := n + m) (old := c) (bytes := i.bytes) hg (by
    have := Nat.mul_le_mul hs hb
    omega)
  have h48 : ¬ (281474976710656 < Builtin.nextslicecap (n + m) c * i.bytes) := by omega
  have hfo := run_first (P := P) ho w.drew (fun _ => rfl)
  have hfn := run_first (P := P) hn w.drew (fun _ => rfl)
  have hfo' : (Builtin.firstCells i.size n (.slice p n c)).run P { w with drawn := w.drawn + 1 } = .ok olds.toArray { w with drawn := w.drawn + 1 } := hfo
  have hfn' : (Builtin.firstCells i.size m (.slice q m d)).run P { w with drawn := w.drawn + 1 } = .ok news.toArray { w with drawn := w.drawn + 1 } := hfn
  simp [Builtin.append_, run_underlying ht, sizeOf, typeInfo, zeroValue, hi, hz, Builtin.lenOf, h1, h63, h48, Question.forced, hfo, hfn, hfo', hfn', newRow, grownCap]
  congr 2
  apply Array.ext'
  simp [List.append_assoc]

theorem Sl.oneCell {sub cb} {els : List (List CT)} {wd : Nat} {p : Option Addr} {n c : Nat} {news : List Value} (h : Sl S w sub cb els wd p n c news) (hw : 0 < wd) : ∀ v ∈ news, v.oneCell' = true := by
  intro v hv
  obtain ⟨j, hj⟩ := List.getElem?_of_mem hv
  have hlt : j < n * wd := by rw [← h.len]; exact (List.getElem?_eq_some_iff.1 hj).1
  have hi : j / wd < n := (Nat.div_lt_iff_lt_mul hw).2 hlt
  obtain ⟨x, hx, hcl⟩ := h.el (j / wd) hi
  refine hcl.oneCell v (List.mem_of_getElem? (i := j % wd) ?_)
  rw [List.getElem?_take, if_pos (Nat.mod_lt _ hw), List.getElem?_drop, Nat.mul_comm, Nat.div_add_mod]
  exact hj

/-- append where there is room. -/
theorem run_app_room {t ty e : TypeId} {i : TypeInfo} (ht : P.underlying t = some (.slice e)) (hi : P.info? e = some i) {sub cb}
    {els' : List (List CT)} {b : Nat} {q : Option Addr} {n c m d : Nat} {news : List Value} (hn : Sl S w sub cb els' i.size q m d news) (hpos : 0 < i.size)
    {cur : Array Value} {el : TypeId} (hh : w.heap[b]? = some (.cells cur el (0, 0))) (hfit : n * i.size + news.length ≤ cur.size) (hr : n + m ≤ c) :
    (Builtin.append_ #[t, t] ty #[.slice (some ⟨b, 0, none⟩) n c, .slice q m d]).run P w =
      .ok (.slice (some ⟨b, 0, none⟩) (n + m) c) (w.setRow b (cur.toList.take (n * i.size) ++ news ++ cur.toList.drop (n * i.size + news.length)).toArray) := by
  have hfn := run_first (P := P) hn w (fun _ => rfl)
  have hst := run_storeCells_at (P := P) b (n * i.size) el news 0 cur w hh (by omega) (hn.oneCell hpos)
  simp only [Nat.add_zero] at hst
  simp [Builtin.append_, run_underlying ht, sizeOf, typeInfo, hi, Builtin.lenOf, hr, hfn, add_lit, hst]

/-- Elements side by side. -/
theorem el_append {sub cb} {els : List (List CT)} {wd : Nat} {x y : List Value} {n m : Nat} (hx : x.length = n * wd) (h1 : ∀ i, i < n → CW sub cb S els ((x.drop (i * wd)).take wd))
    (h2 : ∀ i, i < m → CW sub cb S els ((y.drop (i * wd)).take wd)) : ∀ i, i < n + m → ∀ tl, CW sub cb S els (((x ++ (y ++ tl)).drop (i * wd)).take wd) ∨ y.length < m * wd := by
  intro i hi tl
  by_cases hlt : i < n
  · left
    have hle : (i + 1) * wd ≤ n * wd := Nat.mul_le_mul_right _ (by omega)
    rw [Nat.add_mul, Nat.one_mul] at hle
    have e : ((x ++ (y ++ tl)).drop (i * wd)).take wd = (x.drop (i * wd)).take wd := by
      apply List.ext_getElem?
      intro j
      simp only [List.getElem?_take, List.getElem?_drop]
      by_cases hj : j < wd
      · rw [if_pos hj, if_pos hj, List.getElem?_append_left (by omega)]
      · rw [if_neg hj, if_neg hj]
    rw [e]
    exact h1 i hlt
  · by_cases hy : y.length < m * wd
    · exact .inr hy
    · left
      obtain ⟨k, rfl⟩ : ∃ k, i = n + k := ⟨i - n, by omega⟩
      have hle : (k + 1) * wd ≤ m * wd := Nat.mul_le_mul_right _ (by omega)
      rw [Nat.add_mul, Nat.one_mul] at hle
      have e : ((x ++ (y ++ tl)).drop ((n + k) * wd)).take wd = (y.drop (k * wd)).take wd := by
        apply List.ext_getElem?
        intro j
        simp only [List.getElem?_take, List.getElem?_drop]
        by_cases hj : j < wd
        · rw [if_pos hj, if_pos hj, Nat.add_mul, List.getElem?_append_right (by omega), List.getElem?_append_left (by omega)]
          congr 1
          omega
        · rw [if_neg hj, if_neg hj]
      rw [e]
      exact h2 k (by omega)

/-- What the row is behind a store of elements into it. -/
theorem fill_post {av : AV} {v : Value} (W : WOk cx.rows cx.sub g S w) {b : Nat} {r : RB} (hb : S b = some r) {R : Row} (hR : cx.row r.nm = some R) (hex : R.exc = []) {cur : Array Value} {el : TypeId}
    (hh : w.heap[b]? = some (.cells cur el (0, 0))) {n m : Nat} {news : List Value} (hl : news.length = m * R.width) (hn : n ≤ r.fill) (hc : n + m ≤ r.cap)
    (hel : ∀ i, i < m → CW cx.sub g.cb S R.els ((news.drop (i * R.width)).take R.width))
    (hv : ∀ tm, AVok cx.sub g.cb (S.put b ⟨r.nm, r.cap, max r.fill (n + m)⟩) cx.rows β tm av v) :
    Post cx.rows cx.sub g S β w o.dst av .no (S.put b ⟨r.nm, r.cap, max r.fill (n + m)⟩) β (w.setRow b (cur.toList.take (n * R.width) ++ news ++ cur.toList.drop (n * R.width + news.length)).toArray) v := by
  obtain ⟨R0, cells, h1, h2, h3, h4, h5⟩ := W.row b r hb
  rw [hh] at h2
  simp only [Option.some.injEq, Obj.cells.injEq] at h2
  obtain ⟨rfl, rfl, -⟩ := h2
  have hRR : R0 = R := by
    have : cx.row r.nm = some R0 := h1
    rw [hR] at this
    exact (Option.some.inj this).symm
  subst hRR
  have hle : HLe S (S.put b ⟨r.nm, r.cap, max r.fill (n + m)⟩) := fun b' r' hb' => by
    by_cases hbb : b' = b
    · subst hbb
      rw [hb] at hb'
      have := Option.some.inj hb'
      subst this
      exact ⟨⟨r.nm, r.cap, max r.fill (n + m)⟩, if_pos rfl, rfl, rfl, Nat.le_max_left _ _⟩
    · exact ⟨r', by simp [HT.put, hbb, hb'], rfl, rfl, Nat.le_refl _⟩
  have hnm : (n + m) * R0.width ≤ r.cap * R0.width := Nat.mul_le_mul_right _ hc
  rw [Nat.add_mul] at hnm
  have hdom := W.dom b r hb
  refine ⟨⟨hle, by simp, fun b' r' h => ?_, fun b' hb' hs _ _ => setRow_other _ _ _ _ fun e => by rw [e, hb] at hs; cases hs⟩,
    ⟨g.keep w _ W.j ⟨rfl, rfl, rfl⟩ fun b' hb' => setRow_other _ _ _ _ (by rcases hb' with h | h <;> omega), by simpa using W.b0, by simpa using W.cb, fun b' r' h => ?_, fun b' r' h => ?_⟩, hv, rfl⟩
  · by_cases hbb : b' = b
    · exact .inl ⟨r, by rw [hbb]; exact hb⟩
    · simp only [HT.put, if_neg hbb] at h
      exact .inl ⟨r', h⟩
  · by_cases hbb : b' = b
    · subst hbb
      simpa using hdom
    · simp only [HT.put, if_neg hbb] at h
      simpa using W.dom b' r' h
  · by_cases hbb : b' = b
    · subst hbb
      simp only [HT.put, if_true, Option.some.injEq] at h
      subst h
      refine ⟨R0, _, h1, setRow_heap _ _ _ _ _ _ hh, ?_, by simp only; omega, fun i hi => ?_⟩
      · simp only [List.size_toArray, List.length_append, List.length_take, List.length_drop, Array.length_toList]
        omega
      · have hat : R0.at i = R0.els := by simp [Row.at, hex]
        rw [hat]
        simp only at hi
        by_cases hlt : i < n + m
        · have hx := el_append (S := S) (sub := cx.sub) (cb := g.cb) (els := R0.els) (wd := R0.width) (x := cur.toList.take (n * R0.width)) (y := news) (n := n) (m := m) (by simp only [List.length_take, Array.length_toList]; omega) (fun j hj => by
            have := h5 j (by omega)
            rw [show R0.at j = R0.els by simp [Row.at, hex]] at this
            have hle2 : (j + 1) * R0.width ≤ n * R0.width := Nat.mul_le_mul_right _ (by omega)
            rw [Nat.add_mul, Nat.one_mul] at hle2
            have e : ((cur.toList.take (n * R0.width)).drop (j * R0.width)).take R0.width = (cur.toList.drop (j * R0.width)).take R0.width := by
              apply List.ext_getElem?
              intro k
              simp only [List.getElem?_take, List.getElem?_drop]
              by_cases hk : k < R0.width
              · rw [if_pos hk, if_pos hk, if_pos (by omega)]
              · rw [if_neg hk, if_neg hk]
            rw [e]
            exact this) hel i hlt (cur.toList.drop (n * R0.width + news.length))
          rcases hx with hx | hx
          · rw [List.toList_toArray, List.append_assoc]
            exact hx.up hle
          · omega
        · have := h5 i (by omega)
          rw [hat] at this
          have hle2 : (n + m) * R0.width ≤ i * R0.width := Nat.mul_le_mul_right _ (by omega)
          rw [Nat.add_mul] at hle2
          have e : ((cur.toList.take (n * R0.width) ++ news ++ cur.toList.drop (n * R0.width + news.length)).drop (i * R0.width)).take R0.width = (cur.toList.drop (i * R0.width)).take R0.width := by
            apply List.ext_getElem?
            intro k
            simp only [List.getElem?_take, List.getElem?_drop]
            by_cases hk : k < R0.width
            · have hl1 : (cur.toList.take (n * R0.width) ++ news).length = n * R0.width + news.length := by
                simp only [List.length_append, List.length_take, Array.length_toList]; omega
              rw [if_pos hk, if_pos hk, List.getElem?_append_right (by rw [hl1]; omega), List.getElem?_drop, hl1]
              congr 1
              omega
            · rw [if_neg hk, if_neg hk]
          rw [List.toList_toArray, e]
          exact this.up hle
    · simp only [HT.put, if_neg hbb] at h
      exact (W.row b' r' h).up hle (setRow_other _ _ _ _ hbb)

/-- A new row behind an append. -/
theorem grown_post (W : WOk cx.rows cx.sub g S w) {nm : Nat} {R : Row} (hR : cx.row nm = some R) (hex : R.exc = []) {olds news : List Value} {n m cap : Nat} {z : Value}
    (hz : z.cells.size = R.width) (hlo : olds.length = n * R.width) (hln : news.length = m * R.width) (hcap : n + m ≤ cap)
    (h1 : ∀ i, i < n → CW cx.sub g.cb S R.els ((olds.drop (i * R.width)).take R.width)) (h2 : ∀ i, i < m → CW cx.sub g.cb S R.els ((news.drop (i * R.width)).take R.width))
    {l : List CT} {lo hi : Nat} (hl : CT.sl nm lo hi true ∈ l) (hlo' : lo ≤ n + m) (hhi : n + m ≤ hi) :
    Post cx.rows cx.sub g S β w o.dst (.one l) .no (S.put w.heap.size ⟨nm, cap, n + m⟩) β (w.drew.alloc (.cells (olds.toArray ++ news.toArray ++ Builtin.zeroCells z.cells (cap - (n + m))) R.elem)) (.slice (some ⟨w.heap.size, 0, none⟩) (n + m) cap) := by
  refine row_post W hR (cells := olds.toArray ++ news.toArray ++ Builtin.zeroCells z.cells (cap - (n + m))) ?_ hcap (fun i hi => ?_) rfl ⟨rfl, rfl, rfl⟩ (fun tm => ?_)
  · simp only [Array.size_append, List.size_toArray, size_zeroCells, hz, hlo, hln, ← Nat.add_mul]
    congr 1
    omega
  · have hat : R.at i = R.els := by simp [Row.at, hex]
    rw [hat]
    rcases el_append hlo h1 h2 i hi (Builtin.zeroCells z.cells (cap - (n + m))).toList with h | h
    · simpa [List.append_assoc] using h
    · omega
  · exact ⟨_, hl, _, n + m, cap, rfl, hlo', hhi, hcap, .inr ⟨_, ⟨nm, cap, n + m⟩, rfl, by simp [HT.put], .inl rfl, Nat.le_refl _, Nat.le_refl _⟩⟩

theorem app_ct (H : CxOk P cx) (W : WOk cx.rows cx.sub g S w) {t e ty : TypeId} {dst : Tmp} (hu : P.underlying t = some (.slice e)) {ie : TI} (hie : cx.ty e = some ie) {ca cb r : CT} (h : appC cx t e dst ca cb = some r)
    {l : List CT} (hr : r ∈ l) {vx vy : Value} (hx : CV cx.sub g.cb S ca vx) (hy : CV cx.sub g.cb S cb vy) :
    ∃ S' w' v, (Builtin.append_ #[t, t] ty #[vx, vy]).run P w = .ok v w' ∧ Post cx.rows cx.sub g S β w o.dst (.one l) .no S' β w' v := by
  obtain ⟨hT, hid⟩ := ty_spec H hie
  obtain ⟨info, z, hinfo, hsize, hbytes, hz, -, hzs⟩ := hT.info
  rw [hid] at hinfo
  have hpos := hT.pos
  have hby : info.bytes ≤ 1000 := by
    rw [hbytes]
    exact H.byt ie (by unfold Cx.ty at hie; exact List.mem_of_find?_eq_some hie)
  have stay : ∀ v, CV cx.sub g.cb S r v → Post cx.rows cx.sub g S β w o.dst (.one l) .no S β w v := fun v hv => ⟨Stp.refl _, W, fun tm => ⟨r, hr, hv⟩, rfl⟩
  unfold appC at h
  split at h
  · simp only [Option.some.injEq] at h
    subst h
    obtain ⟨p, rfl⟩ := hx
    obtain ⟨q, rfl⟩ := hy
    exact ⟨S, w, _, run_app0 hu hinfo (Nat.le_refl _) 0, stay _ ⟨p, rfl⟩⟩
  · rename_i nm lo hi ow
    split at h
    · rename_i R hR
      split at h
      · rename_i hc
        obtain ⟨hsm, hex, hel⟩ := hc
        simp only [Option.bind_eq_some_iff] at h
        obtain ⟨nm', -, h⟩ := h
        split at h
        · rename_i R' hR'
          split at h
          · rename_i hc'
            obtain ⟨hex', hel', hle⟩ := hc'
            simp only [Option.some.injEq] at h
            subst h
            obtain ⟨p, rfl⟩ := hx
            obtain ⟨q, m, d, news, rfl, h1, h2, hs, -⟩ := sl_of H W hy hR hex
            rcases Nat.eq_zero_or_pos m with rfl | hm
            · exact ⟨S, w, _, run_app0 hu hinfo (Nat.le_refl _) d, stay _ ⟨p, 0, 0, rfl, h1, Nat.zero_le _, Nat.le_refl _, .inl rfl⟩⟩
            · have hw := H.wid nm R ie hR (by rw [hel]; exact hie)
              have hw' := H.wid nm' R' ie hR' (by rw [hel']; exact hie)
              rw [hw, ← hsize] at hs
              have ho : Sl S w cx.sub g.cb R'.els info.size p 0 0 [] := sl_nil p
              have hrun := run_app_grow (P := P) (ty := ty) hu hinfo hz ho hs (by omega) (by simp only [small] at hsm; omega) hby
              refine ⟨S.put w.heap.size ⟨nm', grownCap w (0 + m) 0 e, 0 + m⟩, _, _, hrun, ?_⟩
              have hge := grownCap_ge w (0 + m) 0 e
              have := grown_post (β := β) (o := o) (w := w) W hR' hex' (olds := []) (news := news) (n := 0) (m := m) (cap := grownCap w (0 + m) 0 e) (z := z) (by rw [hzs, hw']) (by simp) (by rw [hs.len, hsize, hw']) hge (fun i hi => by omega) (fun i hi => by
                have := hs.el i hi
                rw [hsize, ← hw'] at this
                exact leV_sound H.trans hle this) hr (by omega) (by omega)
              rw [hel'] at this
              exact this
          · cases h
        · cases h
      · cases h
    · cases h
  · rename_i nm lo hi
    simp only [Option.some.injEq] at h
    subst h
    obtain ⟨q, rfl⟩ := hy
    have hx' := hx
    obtain ⟨p, n, c, rfl, h1, h2, h3, h4⟩ := hx
    exact ⟨S, w, _, run_app0 hu hinfo h3 0, stay _ hx'⟩
  · rename_i nm lo hi nm' lo' hi' ow
    split at h
    · rename_i R R' hR hR'
      split at h
      · rename_i hc
        obtain ⟨hsm, hex, hex', hel, hel', hle⟩ := hc
        simp only [Option.some.injEq] at h
        subst h
        have hw := H.wid nm R ie hR (by rw [hel]; exact hie)
        have hw' := H.wid nm' R' ie hR' (by rw [hel']; exact hie)
        obtain ⟨p, n, c, olds, rfl, h1, h2, ho, hb⟩ := sl_of H W hx hR hex
        obtain ⟨q, m, d, news, rfl, h1', h2', hs, -⟩ := sl_of H W hy hR' hex'
        rcases Nat.eq_zero_or_pos m with rfl | hm
        · refine ⟨S, w, _, run_app0 hu hinfo ho.cap d, stay _ ?_⟩
          obtain ⟨p', n', c', e', h1, h2, h3, h4⟩ := hx
          cases e'
          exact ⟨p, n, c, rfl, by omega, by omega, h3, h4⟩
        · rw [hw', ← hsize] at hs
          have hnew : ∀ i, i < m → CW cx.sub g.cb S R.els ((news.drop (i * R.width)).take R.width) := fun i hi => by
            have := hs.el i hi
            rw [hsize, ← hw] at this
            exact leV_sound H.trans hle this
          by_cases hroom : n + m ≤ c
          · rcases hb with hb | ⟨b, rb, rfl, hb, hsub, hf, hcap⟩
            · omega
            · have hnm : rb.nm = nm := by
                rcases hsub with hsub | ⟨hsub, _⟩
                · exact hsub
                · cases hsub
              subst hnm
              obtain ⟨R0, cells, e1, e2, e3, e4, e5⟩ := W.row b rb hb
              have hRR : R0 = R := by
                have : cx.row rb.nm = some R0 := e1
                rw [hR] at this
                exact (Option.some.inj this).symm
              subst hRR
              have hle2 : (n + m) * R0.width ≤ rb.cap * R0.width := Nat.mul_le_mul_right _ (by omega)
              rw [Nat.add_mul] at hle2
              have hln : news.length = m * R0.width := by rw [hs.len, hsize, hw]
              have hwi : R0.width = info.size := by rw [hsize, hw]
              have hrun := run_app_room (P := P) (ty := ty) (n := n) (c := c) hu hinfo hs (by omega) e2 (by rw [← hwi, hln, e3]; exact hle2) hroom
              refine ⟨S.put b ⟨rb.nm, rb.cap, max rb.fill (n + m)⟩, _, _, hrun, ?_⟩
              rw [← hwi]
              exact fill_post W hb hR hex e2 hln hf (by omega) hnew (fun tm => ⟨_, hr, _, n + m, c, rfl, by omega, by omega, hroom, .inr ⟨b, ⟨rb.nm, rb.cap, max rb.fill (n + m)⟩, rfl, if_pos rfl, .inl rfl, Nat.le_max_right _ _, hcap⟩⟩)
          · have ho' : Sl S w cx.sub g.cb R.els info.size p n c olds := by rw [hw, ← hsize] at ho; exact ho
            have hrun := run_app_grow (P := P) (ty := ty) hu hinfo hz ho' hs (by omega) (by simp only [small] at hsm; omega) hby
            refine ⟨S.put w.heap.size ⟨nm, grownCap w (n + m) c e, n + m⟩, _, _, hrun, ?_⟩
            have hge := grownCap_ge w (n + m) c e
            have := grown_post (β := β) (o := o) (w := w) W hR hex (olds := olds) (news := news) (n := n) (m := m) (cap := grownCap w (n + m) c e) (z := z) (by rw [hzs, hw]) ho.len (by rw [hs.len, hsize, hw]) hge ho.el hnew hr (by omega) (by omega)
            rw [hel] at this
            exact this
      · cases h
    · cases h
  · cases h
end
end Go.Proofs.YtlbcaadflcjpeaaGreatDoor.Va
set_option linter.unusedVariables false
set_option linter.unusedSimpArgs false
namespace Go.Proofs.YtlbcaadflcjpeaaGreatDoor.Va
open Go

section
variable {P : Program} {cx : Cx} {g : Gh} {S : HT} {w : World} {β : Nat → Nat} {a : Act} {st : St} {o : Oper} {gd : Option (Nat × Bool)}

def AVL (sub : List (Nat × Nat)) (cb : Nat) (S : HT) (rows : List Row) (β : Nat → Nat) (tm : Array Value) : List AV → List Value → Prop
  | [], [] => True
  | x :: l, v :: vs => AVok sub cb S rows β tm x v ∧ AVL sub cb S rows β tm l vs
  | _, _ => False

/-- A function with such values gives such a result, and leaves what is not its own. -/
structure InstOk (P : Program) (cx : Cx) (g : Gh) (i : Inst) : Prop where
  fn : ∃ fn, P.funcs[i.fn]? = some fn ∧ (fn.name == "runtime.NumGoroutine") = false ∧ fn.body.isNone = false
  calls : ∀ (S : HT) (β : Nat → Nat) (tm : Array Value) (w : World) (args : List Value), WOk cx.rows cx.sub g S w → AVL cx.sub g.cb S cx.rows β tm i.args args →
    Calls P i.fn args.toArray w (fun e w' => ∃ v S', e = .returned v ∧ Stp g S w S' w' (fun _ => False) ∧ WOk cx.rows cx.sub g S' w' ∧ ∀ β tm, AVok cx.sub g.cb S' cx.rows β tm i.res v)

theorem args_two {f : Operand → AV} {c : Call} {x y : AV} (h : c.args.toList.map f = [x, y]) : ∃ p q, c.args = #[p, q] ∧ f p = x ∧ f q = y := by
  cases hc : c.args.toList with
  | nil => rw [hc] at h; simp at h
  | cons p r =>
    rw [hc] at h
    cases r with
    | nil => simp at h
    | cons q r =>
      cases r with
      | nil =>
        simp only [List.map_cons, List.map_nil, List.cons.injEq, and_true] at h
        refine ⟨p, q, ?_, h.1, h.2⟩
        apply Array.ext'
        simpa using hc
      | cons => simp at h

theorem append_sound (H : CxOk P cx) (I : In cx g S w β a st o gd) {c : Call} (ho : o.op = .call c) (hb : c.callee = .builtin .append) {av : AV} {e : Eff} (h : evalOp cx st o gd = some (av, e)) : Me P cx g S w β a o av e := by
  simp only [evalOp, ho, callOp, hb, appOp] at h
  split at h
  · rename_i d xa xb t t' hdst hargs hty
    obtain ⟨p, q, hpq, hp, hq⟩ := args_two hargs
    simp only [Option.bind_eq_some_iff] at h
    obtain ⟨i, hi, h⟩ := h
    split at h
    · rename_i el hd
      split at h
      · rename_i htt
        subst htt
        simp only [Option.bind_eq_some_iff, Option.map_eq_some_iff, Prod.mk.injEq] at h
        obtain ⟨ie, hie, l, hl, rfl, rfl⟩ := h
        have hx := I.rho (x := p) (by simp [ho, Op.operands, Call.operands, hpq])
        have hy := I.rho (x := q) (by simp [ho, Op.operands, Call.operands, hpq])
        rw [hp] at hx
        rw [hq] at hy
        obtain ⟨ca, hca, hx⟩ := hx
        obtain ⟨cb, hcb, hy⟩ := hy
        obtain ⟨r, hr, hap⟩ := pairs_spec hl hca hcb
        obtain ⟨S', w', v, hrun, hpost⟩ := app_ct (β := β) (o := o) (ty := o.type) H I.wok (ty_slice H hi hd) hie hap hr hx hy
        refine ⟨S', β, w', v, .inl ?_, hpost⟩
        have hty' : c.argTypes = #[t, t] := by
          apply Array.ext'
          simpa using hty
        rw [exec_builtin ho hb, hpq, hty']
        simp [builtin, hrun]
      · cases h
    · cases h
  · cases h

theorem avl_le (H : CxOk P cx) {tm : Array Value} : ∀ {xs : List Operand} {ys : List AV}, xs.length = ys.length → ((xs.map fun x => unG gd (Va.opAV st x)).zip ys).all (fun (a, b) => a.le cx b) = true →
    (∀ x ∈ xs, AVok cx.sub g.cb S cx.rows β a.tmps (unG gd (Va.opAV st x)) (a.eval x)) → AVL cx.sub g.cb S cx.rows β a.tmps ys (xs.map a.eval)
  | [], [], _, _, _ => trivial
  | [], _ :: _, h, _, _ => by simp at h
  | _ :: _, [], h, _, _ => by simp at h
  | x :: xs, b :: ys, hl, h, hv => by
    simp only [List.map_cons, List.zip_cons_cons, List.all_cons, Bool.and_eq_true] at h
    exact ⟨AV.le_sound H.trans h.1 (hv x List.mem_cons_self), avl_le H (tm := tm) (by simpa using hl) h.2 fun y hy => hv y (List.mem_cons_of_mem _ hy)⟩

/-- Any operation. -/
theorem evalOp_sound (H : CxOk P cx) (HI : ∀ i ∈ cx.insts, InstOk P cx g i) (I : In cx g S w β a st o gd) {av : AV} {e : Eff} (h : evalOp cx st o gd = some (av, e))
    {K : Act → World → Prop} {Q : Exit → Act → World → Prop} (hK : ∀ S' β' w' v, Post cx.rows cx.sub g S β w o.dst av e S' β' w' v → K (a.put o.dst v) w') : o.wp P a w K Q := by
  have me : Me P cx g S w β a o av e → o.wp P a w K Q := fun hm => by
    obtain ⟨S', β', w', v, hr, hp⟩ := hm
    unfold Oper.wp
    rcases hr with hr | ⟨hr, rfl⟩
    · rw [hr]
      exact hK _ _ _ _ hp
    · rw [hr]
      exact hK _ _ _ _ hp
  have pu : Pu P cx g S w β a o av e → o.wp P a w K Q := fun hp => me (hp.me I.wok)
  cases ho : o.op with
  | move x => exact pu (move_sound I (.inl ho) h)
  | assign x => exact pu (move_sound I (.inr ho) h)
  | pick c x y => exact pu (pick_sound I ho h)
  | alloc t => exact me (alloc_sound H I ho h)
  | box t x => exact me (box_sound H I ho h)
  | build t ps => exact pu (build_sound H I ho h)
  | buildSlice t n ps => exact me (buildSlice_sound H I ho h)
  | load t x => exact pu (load_sound H I ho h)
  | store t x y => exact me (store_sound H I ho h)
  | nilCheck x => exact pu (nilCheck_sound I ho h)
  | binOp op t x y t' => exact pu (binOp_sound I ho h)
  | unOp u t x =>
    cases u with
    | not => exact pu (not_sound I ho h)
    | _ => simp [evalOp, ho] at h
  | convert t t' x => exact pu (convert_sound H I ho h)
  | slice t x lo hi mx =>
    cases lo <;> cases hi <;> cases mx <;> first | exact pu (slice_sound H I ho h) | simp [evalOp, ho] at h
  | fieldAddr t x f => exact pu (fieldAddr_sound H I ho h)
  | indexAddr t x i => exact pu (indexAddr_sound H I ho h)
  | index t x i => exact pu (index_sound H I ho h)
  | extract x j => exact pu (extract_sound I ho h)
  | call c =>
    cases hc : c.callee with
    | builtin b =>
      cases b with
      | len => exact pu (len_sound H I ho hc h)
      | append => exact me (append_sound H I ho hc h)
      | _ => simp [evalOp, ho, callOp, hc] at h
    | invoke r m => simp [evalOp, ho, callOp, hc] at h
    | value f =>
      cases f with
      | func f =>
        simp only [evalOp, ho, callOp, hc, Option.map_eq_some_iff, Prod.mk.injEq] at h
        obtain ⟨i, hi, rfl, rfl⟩ := h
        unfold find at hi
        have hmem := List.mem_of_find?_eq_some hi
        have hp := List.find?_some hi
        simp only [Bool.and_eq_true, beq_iff_eq] at hp
        obtain ⟨⟨rfl, hlen⟩, hle⟩ := hp
        have hargs := avl_le (tm := a.tmps) H (by simpa using hlen.symm) hle (fun x hx => I.rho (by
          simp only [ho, Op.operands, Call.operands, hc, Array.toList_append, List.mem_append]
          exact .inr hx))
        obtain ⟨⟨fn, hfn, hname, hbody⟩, hcalls⟩ := HI i hmem
        have hc' := hcalls S β a.tmps w _ I.wok hargs
        have hn : ¬ fn.name = "runtime.NumGoroutine" := by simpa using hname
        have hbo : ¬ fn.body = none := fun e => by simp [e] at hbody
        have hexec : (execOp a.eval o).run P w = .ok (.enter i.fn (c.args.map a.eval)) w := by
          simp [execOp, ho, resolve, hc, Act.eval, Deferred.ofValue, invoke, callFunc, hfn, hn, hbo]
        unfold Oper.wp
        rw [hexec]
        have hargs' : (List.map a.eval c.args.toList).toArray = c.args.map a.eval := by
          apply Array.ext'
          simp
        rw [hargs'] at hc'
        refine Calls.mono hc' fun en w' he => ?_
        obtain ⟨v, S', rfl, hs, hw, hv⟩ := he
        exact hK S' β w' v ⟨⟨hs.le, hs.size, hs.new, fun b h1 h2 h3 _ => hs.keep b h1 h2 h3 (fun h => h)⟩, hw, fun tm => hv β tm, rfl⟩
      | _ => simp [evalOp, ho, callOp, hc] at h
  | _ => simp [evalOp, ho] at h
end
end Go.Proofs.YtlbcaadflcjpeaaGreatDoor.Va

/- What the checker says of an operation that leaves memory as it is, is so. No condition. -/
import Derived.Test.YtlbcaadflcjpeaaGreatDoorMyVaS
set_option linter.unusedVariables false
set_option linter.unusedSimpArgs false
namespace Go.Proofs.YtlbcaadflcjpeaaGreatDoor.Va
open Go

section
variable {P : Program} {cx : Cx} {g : Gh} {S : HT} {w : World} {β : Nat → Nat} {a : Act} {st : St} {o : Oper} {gd : Option (Nat × Bool)}

/-- What is known where an operation begins. -/
structure In (cx : Cx) (g : Gh) (S : HT) (w : World) (β : Nat → Nat) (a : Act) (st : St) (o : Oper) (gd : Option (Nat × Bool)) : Prop where
  wok : WOk cx.rows cx.sub g S w
  tm : ∀ t ∈ tmpsOf o, AVok cx.sub g.cb S cx.rows β a.tmps (st.get t) (a.tmps.getD t undef)
  gd : ∀ t b, gd = some (t, b) → a.tmps.getD t undef = .bool b
  bx : isMem o.op = true → ∀ u ∈ tmpsOf o, ∀ t ∈ depOf (st.get u), ∀ vs, st.box t = some vs → BX cx.sub g S w (β t) vs ∧ g.b0 ≤ β t ∧ S (β t) = none ∧ β t ≠ g.cb ∧ β t < w.heap.size

theorem mem_tmpsOf {t : Nat} (h : Operand.tmp t ∈ o.op.operands.toList) : t ∈ tmpsOf o := by
  unfold tmpsOf
  exact List.mem_filterMap.2 ⟨_, h, rfl⟩

theorem In.opAV (I : In cx g S w β a st o gd) {x : Operand} (hx : x ∈ o.op.operands.toList) : AVok cx.sub g.cb S cx.rows β a.tmps (opAV st x) (a.eval x) := by
  cases x with
  | tmp t => exact I.tm t (mem_tmpsOf hx)
  | const v => exact constAV_ok ..
  | global _ => trivial
  | func _ => trivial

theorem In.rho (I : In cx g S w β a st o gd) {x : Operand} (hx : x ∈ o.op.operands.toList) : AVok cx.sub g.cb S cx.rows β a.tmps (unG gd (Va.opAV st x)) (a.eval x) :=
  unG_ok I.gd (I.opAV hx)

theorem flat_dep {b : Nat} {A : AV} (h : b ∈ depOf (flat A)) : b ∈ depOf A := by cases A <;> first | exact h | (simp [flat, depOf] at h)

theorem unG_dep {b : Nat} {A : AV} (h : b ∈ depOf (unG gd A)) : b ∈ depOf A := by
  unfold unG at h
  split at h
  · split at h
    · simp only [depOf, List.mem_cons]
      exact .inr (flat_dep h)
    · simp [depOf] at h
  · exact h

/-- A box that is read or written. -/
theorem In.box (I : In cx g S w β a st o gd) (hmem : isMem o.op = true) {x : Operand} (hx : x ∈ o.op.operands.toList) {b off : Nat} (h : unG gd (Va.opAV st x) = .bp b off) {vs : List (List CT)} (hb : st.box b = some vs) :
    a.eval x = .pointer (some ⟨β b, off, none⟩) ∧ BX cx.sub g S w (β b) vs ∧ g.b0 ≤ β b ∧ S (β b) = none ∧ β b ≠ g.cb ∧ β b < w.heap.size := by
  have hr := I.rho hx
  rw [h] at hr
  refine ⟨hr, ?_⟩
  cases x with
  | tmp u =>
    exact I.bx hmem u (mem_tmpsOf hx) b (unG_dep (gd := gd) (by rw [show st.get u = Va.opAV st (.tmp u) from rfl, h]; simp [depOf])) vs hb
  | const v =>
    exfalso
    simp only [Va.opAV] at h
    unfold constAV at h
    split at h <;> simp [unG] at h
  | global _ => simp [Va.opAV, unG] at h
  | func _ => simp [Va.opAV, unG] at h

/-- It gives such a value and leaves the world. -/
def Pu (P : Program) (cx : Cx) (g : Gh) (S : HT) (w : World) (β : Nat → Nat) (a : Act) (o : Oper) (av : AV) (e : Eff) : Prop :=
  e = .no ∧ ∃ v, (execOp a.eval o).run P w = .ok (.value v) w ∧ ∀ tm, AVok cx.sub g.cb S cx.rows β tm av v

theorem Pu.mk {av : AV} (hr : ∃ v, (execOp a.eval o).run P w = .ok (.value v) w ∧ AVok cx.sub g.cb S cx.rows β a.tmps av v) (hn : av.noG = true) : Pu P cx g S w β a o av .no :=
  ⟨rfl, let ⟨v, h1, h2⟩ := hr; ⟨v, h1, fun tm => h2.any hn tm⟩⟩

theorem move_sound (I : In cx g S w β a st o gd) {x : Operand} (ho : o.op = .move x ∨ o.op = .assign x) {av : AV} {e : Eff} (h : evalOp cx st o gd = some (av, e)) : Pu P cx g S w β a o av e := by
  have hx : x ∈ o.op.operands.toList := by rcases ho with ho | ho <;> simp [ho, Op.operands]
  have h : (unG gd (Va.opAV st x), Eff.no) = (av, e) := by rcases ho with ho | ho <;> simpa [evalOp, ho] using h
  cases h
  refine Pu.mk ⟨a.eval x, ?_, I.rho hx⟩ (unG_noG ..)
  rcases ho with ho | ho <;> simp [execOp, ho]

theorem pick_sound (I : In cx g S w β a st o gd) {c x y : Operand} (ho : o.op = .pick c x y) {av : AV} {e : Eff} (h : evalOp cx st o gd = some (av, e)) : Pu P cx g S w β a o av e := by
  have hc : c ∈ o.op.operands.toList := by simp [ho, Op.operands]
  have hx : x ∈ o.op.operands.toList := by simp [ho, Op.operands]
  have hy : y ∈ o.op.operands.toList := by simp [ho, Op.operands]
  have hrun : ∀ b, a.eval c = .bool b → (execOp a.eval o).run P w = .ok (.value (if b then a.eval x else a.eval y)) w := fun b hb => by
    simp [execOp, ho, hb, asBool]
  have hr := I.rho hc
  cases c with
  | tmp t =>
    have key : ∀ b, a.eval (.tmp t) = .bool b → a.tmps.getD t undef = .bool b := fun b hb => hb
    simp only [evalOp, ho] at h
    split at h
    · rename_i hq
      rw [hq] at hr
      obtain ⟨d, hd, hv⟩ := hr
      rw [List.mem_singleton] at hd
      subst hd
      simp only [Option.some.injEq, Prod.mk.injEq] at h
      obtain ⟨rfl, rfl⟩ := h
      exact Pu.mk ⟨_, hrun _ hv, unP_ok I.gd (key _ hv) (I.opAV hx)⟩ (unP_noG ..)
    · rename_i hq
      rw [hq] at hr
      obtain ⟨d, hd, hv⟩ := hr
      rw [List.mem_singleton] at hd
      subst hd
      simp only [Option.some.injEq, Prod.mk.injEq] at h
      obtain ⟨rfl, rfl⟩ := h
      exact Pu.mk ⟨_, hrun _ hv, unP_ok I.gd (key _ hv) (I.opAV hy)⟩ (unP_noG ..)
    · rename_i cs _ _ hq
      rw [hq] at hr
      split at h
      · rename_i p q hp hq'
        split at h
        · rename_i hall
          simp only [Option.some.injEq, Prod.mk.injEq] at h
          obtain ⟨rfl, rfl⟩ := h
          obtain ⟨b, hb⟩ := isB_spec hall hr
          refine Pu.mk ⟨_, hrun _ hb, ?_⟩ rfl
          cases b with
          | true =>
            have h1 := unP_ok (p := (t, true)) I.gd (key _ hb) (I.opAV hx)
            cases hu : unP gd (t, true) (Va.opAV st x) <;> simp [hu, oneOf] at hp
            subst hp
            rw [hu] at h1
            obtain ⟨d, hd, hv⟩ := h1
            exact ⟨d, mem_eraseDups (List.mem_append_left _ hd), hv⟩
          | false =>
            have h1 := unP_ok (p := (t, false)) I.gd (key _ hb) (I.opAV hy)
            cases hu : unP gd (t, false) (Va.opAV st y) <;> simp [hu, oneOf] at hq'
            subst hq'
            rw [hu] at h1
            obtain ⟨d, hd, hv⟩ := h1
            exact ⟨d, mem_eraseDups (List.mem_append_right _ hd), hv⟩
        · cases h
      · cases h
    · cases h
  | const v => simp [evalOp, ho] at h
  | global v => simp [evalOp, ho] at h
  | func v => simp [evalOp, ho] at h

theorem binOp_sound (I : In cx g S w β a st o gd) {op : BinOp} {t t' : TypeId} {x y : Operand} (ho : o.op = .binOp op t x y t') {av : AV} {e : Eff} (h : evalOp cx st o gd = some (av, e)) : Pu P cx g S w β a o av e := by
  have hx := I.rho (x := x) (by simp [ho, Op.operands])
  have hy := I.rho (x := y) (by simp [ho, Op.operands])
  simp only [evalOp, ho] at h
  split at h
  · rename_i cs ds h1 h2
    rw [h1] at hx
    rw [h2] at hy
    obtain ⟨c, hc, hx⟩ := hx
    obtain ⟨d, hd, hy⟩ := hy
    simp only [Option.map_eq_some_iff, Prod.mk.injEq] at h
    obtain ⟨l, hl, rfl, rfl⟩ := h
    obtain ⟨r, hr, he⟩ := pairs_spec hl hc hd
    obtain ⟨v, hg, hb, hv⟩ := binC_spec (P := P) he hx hy t x y w
    exact Pu.mk ⟨v, by simp [execOp, ho, hg, hb], ⟨r, hr, hv⟩⟩ rfl
  · cases h

theorem not_sound (I : In cx g S w β a st o gd) {t : TypeId} {x : Operand} (ho : o.op = .unOp .not t x) {av : AV} {e : Eff} (h : evalOp cx st o gd = some (av, e)) : Pu P cx g S w β a o av e := by
  have hx := I.rho (x := x) (by simp [ho, Op.operands])
  simp only [evalOp, ho] at h
  split at h
  · rename_i cs h1
    rw [h1] at hx
    obtain ⟨c, hc, hx⟩ := hx
    simp only [Option.map_eq_some_iff, Prod.mk.injEq] at h
    obtain ⟨l, hl, rfl, rfl⟩ := h
    obtain ⟨r, hr, he⟩ := mapM_mem hl c hc
    cases c <;> simp at he
    · obtain ⟨b, hb⟩ := hx
      subst he
      exact Pu.mk ⟨.bool !b, by simp [execOp, ho, hb, Op.unary], ⟨.bl, hr, _, rfl⟩⟩ rfl
    · rename_i b
      have hb : a.eval x = .bool b := hx
      subst he
      exact Pu.mk ⟨.bool !b, by simp [execOp, ho, hb, Op.unary], ⟨_, hr, rfl⟩⟩ rfl
  · cases h

/-- Cells of a row's element that is seen as another row's. -/
theorem row_cells (H : CxOk P cx) (W : WOk cx.rows cx.sub g S w) {b : Nat} {r : RB} (hb : S b = some r) {nm : Nat} (hs : subP cx.sub false r.nm nm) {R : Row} (hR : cx.row nm = some R)
    {i j : Nat} (hi : i < r.fill) (hj : R.exc = [] ∨ i = j) :
    ∃ cells e, w.heap[b]? = some (.cells cells e (0, 0)) ∧ (i + 1) * R.width ≤ cells.toList.length ∧ CW cx.sub g.cb S (R.at j) ((cells.toList.drop (i * R.width)).take R.width) := by
  obtain ⟨R0, cells, h1, h2, h3, h4, h5⟩ := W.row b r hb
  have hat : R.at i = R.at j := by
    rcases hj with hj | rfl
    · simp [Row.at, hj]
    · rfl
  have key : R0.width = R.width ∧ ∀ l, CW cx.sub g.cb S (R0.at i) l → CW cx.sub g.cb S (R.at i) l := by
    rcases hs with rfl | ⟨_, hs⟩
    · have : R0 = R := by
        have : cx.row r.nm = some R0 := h1
        rw [hR] at this
        exact (Option.some.inj this).symm
      subst this
      exact ⟨rfl, fun _ h => h⟩
    · obtain ⟨ra, rb, ha, hb', hw, hle⟩ := H.sub _ _ hs
      have e1 : ra = R0 := by
        have : cx.row r.nm = some R0 := h1
        rw [ha] at this
        exact Option.some.inj this
      have e2 : rb = R := by
        rw [hR] at hb'
        exact (Option.some.inj hb').symm
      subst e1 e2
      exact ⟨hw, fun _ h => leV_sound H.trans (hle i) h⟩
  refine ⟨cells, R0.elem, h2, ?_, ?_⟩
  · rw [Array.length_toList, h3, ← key.1]
    exact Nat.mul_le_mul_right _ (by omega)
  · rw [← hat, ← key.1]
    exact key.2 _ (h5 i hi)

theorem drop_take_cut (l : List Value) (o k off n : Nat) (h : off + n ≤ ((l.drop o).take k).length) : (((l.drop o).take k).drop off).take n = (l.drop (o + off)).take n := by
  apply List.ext_getElem?
  intro j
  simp only [List.getElem?_take, List.getElem?_drop, List.length_take, List.length_drop] at *
  by_cases hj : j < n
  · rw [if_pos hj, if_pos hj, if_pos (by omega), Nat.add_assoc]
  · rw [if_neg hj, if_neg hj]

theorem load_sound (H : CxOk P cx) (I : In cx g S w β a st o gd) {t : TypeId} {x : Operand} (ho : o.op = .load t x) {av : AV} {e : Eff} (h : evalOp cx st o gd = some (av, e)) : Pu P cx g S w β a o av e := by
  have hm : x ∈ o.op.operands.toList := by simp [ho, Op.operands]
  have hx := I.rho hm
  simp only [evalOp, ho, Option.bind_eq_some_iff] at h
  obtain ⟨i, hi, h⟩ := h
  split at h
  · rename_i b off hq
    simp only [Option.bind_eq_some_iff, Option.map_eq_some_iff, Prod.mk.injEq] at h
    obtain ⟨vs, hb, vs', hc, r, hr, rfl, rfl⟩ := h
    obtain ⟨he, ⟨cells, el, hh, hcw⟩, -⟩ := I.box (by simp [ho, isMem]) hm hq hb
    obtain ⟨hl, hcw⟩ := cut_spec hc hcw
    obtain ⟨hv, hn, h1⟩ := ofCells_spec (β := β) (tm := a.tmps) (rows := cx.rows) hr hcw
    exact Pu.mk ⟨_, by simp [execOp, ho, he, Instr.loadAt, Instr.sureAddr, run_loadVar H hi hh hl h1], hv⟩ hn
  · rename_i nm j off hq
    simp only [Option.bind_eq_some_iff, Option.map_eq_some_iff, Prod.mk.injEq] at h
    obtain ⟨R, hR, vs', hc, r, hr, rfl, rfl⟩ := h
    rw [hq] at hx
    obtain ⟨b, rb, R', i', he, hb, hs, hR', hij, hf⟩ := hx
    have : R' = R := by
      have : cx.row nm = some R' := hR'
      rw [hR] at this
      exact (Option.some.inj this).symm
    subst this
    obtain ⟨cells, el, hh, hlen, hcw⟩ := row_cells H I.wok hb hs hR hf hij
    obtain ⟨hl, hcw⟩ := cut_spec hc hcw
    obtain ⟨hv, hn, h1⟩ := ofCells_spec (β := β) (tm := a.tmps) (rows := cx.rows) hr hcw
    rw [drop_take_cut _ _ _ _ _ hl] at hv h1
    have hl' : i' * R'.width + off + i.size ≤ cells.toList.length := by
      simp only [List.length_take, List.length_drop] at hl
      rw [Nat.add_mul, Nat.one_mul] at hlen
      omega
    exact Pu.mk ⟨_, by simp [execOp, ho, he, Instr.loadAt, Instr.sureAddr, run_loadVar H hi hh hl' h1], hv⟩ hn
  · cases h

theorem nilCheck_sound (I : In cx g S w β a st o gd) {x : Operand} (ho : o.op = .nilCheck x) {av : AV} {e : Eff} (h : evalOp cx st o gd = some (av, e)) : Pu P cx g S w β a o av e := by
  have hx := I.rho (x := x) (by simp [ho, Op.operands])
  simp only [evalOp, ho] at h
  split at h
  · rename_i b off hq
    rw [hq] at hx
    simp only [Option.some.injEq, Prod.mk.injEq] at h
    obtain ⟨rfl, rfl⟩ := h
    have he : a.eval x = .pointer (some ⟨β b, off, none⟩) := hx
    exact Pu.mk ⟨_, by simp [execOp, ho, he], hx⟩ rfl
  · rename_i nm j off hq
    rw [hq] at hx
    simp only [Option.some.injEq, Prod.mk.injEq] at h
    obtain ⟨rfl, rfl⟩ := h
    have hx' := hx
    obtain ⟨b, rb, R', i', he, -⟩ := hx
    exact Pu.mk ⟨_, by simp [execOp, ho, he], hx'⟩ rfl
  · cases h

theorem run_fieldAt (H : CxOk P cx) {t : TypeId} {i : TI} (hi : cx.ty t = some i) {fs : List (Nat × TypeId)} (hd : i.desc = .struct fs) {f : Nat} {q : Nat × TypeId} (hf : fs[f]? = some q) {ti : TI} (hq : cx.ty q.2 = some ti)
    (b off : Nat) (w : World) : (Instr.fieldAt t (.pointer (some ⟨b, off, none⟩)) f).run P w = .ok (.pointer (some ⟨b, off + q.1, none⟩)) w := by
  obtain ⟨hT, rfl⟩ := ty_spec H hi
  have hD := hT.desc
  rw [hd] at hD
  obtain ⟨F, hF, rfl⟩ := hD
  rw [List.getElem?_map, Option.map_eq_some_iff] at hf
  obtain ⟨fld, hfld, rfl⟩ := hf
  have hfld' : F[f]? = some fld := by simpa using hfld
  have hne : ¬ ti.size = 0 := by have := (ty_spec H hq).1.pos; omega
  simp [Instr.fieldAt, run_underlying hF w, hfld', Instr.sureAddr, fieldPlace, run_sizeOf H hq, hne, add_lit]

theorem fieldAddr_sound (H : CxOk P cx) (I : In cx g S w β a st o gd) {t : TypeId} {x : Operand} {f : Nat} (ho : o.op = .fieldAddr t x f) {av : AV} {e : Eff} (h : evalOp cx st o gd = some (av, e)) : Pu P cx g S w β a o av e := by
  have hx := I.rho (x := x) (by simp [ho, Op.operands])
  simp only [evalOp, ho, Option.bind_eq_some_iff] at h
  obtain ⟨i, hi, h⟩ := h
  split at h
  · rename_i fs hd
    simp only [Option.bind_eq_some_iff] at h
    obtain ⟨q, hf, ti, hq, h⟩ := h
    split at h
    · rename_i b off hr
      rw [hr] at hx
      simp only [Option.some.injEq, Prod.mk.injEq] at h
      obtain ⟨rfl, rfl⟩ := h
      have he : a.eval x = .pointer (some ⟨β b, off, none⟩) := hx
      exact Pu.mk ⟨_, by simp [execOp, ho, he, run_fieldAt H hi hd hf hq], rfl⟩ rfl
    · rename_i nm j off hr
      rw [hr] at hx
      simp only [Option.some.injEq, Prod.mk.injEq] at h
      obtain ⟨rfl, rfl⟩ := h
      obtain ⟨b, rb, R', i', he, h1, h2, h3, h4, h5⟩ := hx
      exact Pu.mk ⟨_, by simp [execOp, ho, he, run_fieldAt H hi hd hf hq]; rfl, ⟨b, rb, R', i', by rw [Nat.add_assoc], h1, h2, h3, h4, h5⟩⟩ rfl
    · cases h
  · cases h

theorem ty_slice (H : CxOk P cx) {t e : TypeId} {i : TI} (hi : cx.ty t = some i) (hd : i.desc = .slice e) : P.underlying t = some (.slice e) := by
  obtain ⟨hT, rfl⟩ := ty_spec H hi
  have hD := hT.desc
  rwa [hd] at hD

theorem ty_string (H : CxOk P cx) {t : TypeId} {i : TI} (hi : cx.ty t = some i) (hd : i.desc = .string) : P.underlying t = some .string := by
  obtain ⟨hT, rfl⟩ := ty_spec H hi
  have hD := hT.desc
  rwa [hd] at hD

theorem ty_int (H : CxOk P cx) {t : TypeId} {k : IntKind} {i : TI} (hi : cx.ty t = some i) (hd : i.desc = .int k) : P.underlying t = some (.int k) := by
  obtain ⟨hT, rfl⟩ := ty_spec H hi
  have hD := hT.desc
  rwa [hd] at hD

theorem indexAddr_sound (H : CxOk P cx) (I : In cx g S w β a st o gd) {t : TypeId} {x ix : Operand} (ho : o.op = .indexAddr t x ix) {av : AV} {e : Eff} (h : evalOp cx st o gd = some (av, e)) : Pu P cx g S w β a o av e := by
  have hx := I.rho (x := x) (by simp [ho, Op.operands])
  have hix := I.rho (x := ix) (by simp [ho, Op.operands])
  simp only [evalOp, ho, Option.bind_eq_some_iff] at h
  obtain ⟨i, hi, h⟩ := h
  split at h
  · rename_i el nm lo hi' ow k c d hd h1 h2
    rw [h1] at hx
    rw [h2] at hix
    obtain ⟨q, hq, hx⟩ := hx
    rw [List.mem_singleton] at hq
    subst hq
    obtain ⟨q, hq, hix⟩ := hix
    rw [List.mem_singleton] at hq
    subst hq
    simp only [Option.bind_eq_some_iff] at h
    obtain ⟨ie, hie, R, hR, h⟩ := h
    obtain ⟨p, n, cp, hv, hlo, hhi, hnc, hp⟩ := hx
    obtain ⟨m, hm, hm1, hm2⟩ := hix
    split at h
    · rename_i hc
      obtain ⟨hc0, hda, hwd⟩ := hc
      rcases hp with hp | ⟨b, r, rfl, hb, hs, hf, hcap⟩
      · omega
      have hrun : (execOp a.eval o).run P w = .ok (.value (.pointer (some ⟨b, 0 + m.toNat * ie.size, none⟩))) w := by
        have hlt : 0 ≤ m ∧ m < (n : Int) := by omega
        simp [execOp, ho, hv, hm, Instr.indexAt, asIntOf, run_underlying (ty_slice H hi hd) w, hlt, run_sizeOf H hie, add_lit]
      have hs' : subP cx.sub false r.nm nm := by
        rcases hs with hs | ⟨_, hs⟩
        · exact .inl hs
        · exact .inr ⟨rfl, hs⟩
      split at h
      · rename_i hcd
        simp only [Option.some.injEq, Prod.mk.injEq] at h
        obtain ⟨rfl, rfl⟩ := h
        exact Pu.mk ⟨_, hrun, ⟨b, r, R, m.toNat, by simp [hwd], hb, hs', hR, .inr (by omega), by omega⟩⟩ rfl
      · split at h
        · rename_i hex
          simp only [Option.some.injEq, Prod.mk.injEq] at h
          obtain ⟨rfl, rfl⟩ := h
          exact Pu.mk ⟨_, hrun, ⟨b, r, R, m.toNat, by simp [hwd], hb, hs', hR, .inl hex, by omega⟩⟩ rfl
        · cases h
    · cases h
  · cases h

theorem index_sound (H : CxOk P cx) (I : In cx g S w β a st o gd) {t : TypeId} {x ix : Operand} (ho : o.op = .index t x ix) {av : AV} {e : Eff} (h : evalOp cx st o gd = some (av, e)) : Pu P cx g S w β a o av e := by
  have hx := I.rho (x := x) (by simp [ho, Op.operands])
  have hix := I.rho (x := ix) (by simp [ho, Op.operands])
  simp only [evalOp, ho, Option.bind_eq_some_iff] at h
  obtain ⟨i, hi, h⟩ := h
  split at h
  · rename_i lo hi' k c d hd h1 h2
    rw [h1] at hx
    rw [h2] at hix
    obtain ⟨q, hq, hx⟩ := hx
    rw [List.mem_singleton] at hq
    subst hq
    obtain ⟨q, hq, hix⟩ := hix
    rw [List.mem_singleton] at hq
    subst hq
    obtain ⟨s, hv, hlo, hhi⟩ := hx
    obtain ⟨m, hm, hm1, hm2⟩ := hix
    split at h
    · rename_i hc
      simp only [Option.some.injEq, Prod.mk.injEq] at h
      obtain ⟨rfl, rfl⟩ := h
      have h0 : 0 ≤ m := by omega
      have hlt : m.toNat < s.size := by omega
      have hget : s[m.toNat]? = some s[m.toNat] := getElem?_pos s m.toNat hlt
      have hb := (s[m.toNat]).toNat_lt
      refine Pu.mk ⟨.int .u8 (s[m.toNat]).toNat, ?_, ⟨_, List.mem_singleton.2 rfl, _, rfl, ?_, ?_⟩⟩ rfl
      · simp [execOp, ho, hv, hm, Instr.index, asIntOf, run_underlying (ty_string H hi hd) w, h0, hget]
      · simp [IntKind.min, IntKind.signed]
      · simp [IntKind.max, IntKind.signed, IntKind.bits]; omega
    · cases h
  · cases h

theorem slice_sound (H : CxOk P cx) (I : In cx g S w β a st o gd) {t : TypeId} {x hi0 : Operand} (ho : o.op = .slice t x none (some hi0) none) {av : AV} {e : Eff} (h : evalOp cx st o gd = some (av, e)) : Pu P cx g S w β a o av e := by
  have hx := I.rho (x := x) (by simp [ho, Op.operands])
  have hix := I.rho (x := hi0) (by simp [ho, Op.operands])
  simp only [evalOp, ho, Option.bind_eq_some_iff] at h
  obtain ⟨i, hi, h⟩ := h
  split at h
  · rename_i el nm lo hi' ow c d hd h1 h2
    rw [h1] at hx
    rw [h2] at hix
    obtain ⟨q, hq, hx⟩ := hx
    rw [List.mem_singleton] at hq
    subst hq
    obtain ⟨q, hq, hix⟩ := hix
    rw [List.mem_singleton] at hq
    subst hq
    obtain ⟨p, n, cp, hv, hlo, hhi, hnc, hp⟩ := hx
    obtain ⟨m, hm, hm1, hm2⟩ := hix
    simp only [Option.bind_eq_some_iff] at h
    obtain ⟨ie, hie, h⟩ := h
    split at h
    · rename_i hc
      simp only [Option.some.injEq, Prod.mk.injEq] at h
      obtain ⟨rfl, rfl⟩ := h
      obtain ⟨rfl, h0, hle⟩ := hc
      have hmc : m = c := by omega
      subst hmc
      have hb : 0 ≤ m ∧ m ≤ (cp : Int) := by omega
      have hadd : ∀ q : Addr, q.add 0 = q := fun q => by unfold Addr.add; simp
      have hid : (if cp = 0 then p else p.map (·.add (0 * ie.size))) = p := by
        split
        · rfl
        · cases p <;> simp [hadd]
      refine Pu.mk ⟨.slice p m.toNat cp, ?_, ⟨_, List.mem_singleton.2 rfl, p, m.toNat, cp, rfl, Nat.le_refl _, Nat.le_refl _, by omega, ?_⟩⟩ rfl
      · have hu := run_underlying (P := P) (ty_slice H hi hd) w
        simp [execOp, ho, hv, hm, Instr.sliceAt, Instr.slice, Instr.sliceBounds, Instr.sliceBound, asIntOf, hu, hb, run_sizeOf H hie]
        cases p <;> simp [hadd]
      · rcases hp with hp | ⟨b, r, rfl, hb', hs, hf, hcap⟩
        · exact .inl hp
        · refine .inr ⟨b, r, rfl, hb', ?_, by omega, hcap⟩
          rcases hs with hs | ⟨_, hs⟩
          · exact .inl hs
          · exact .inr ⟨rfl, hs⟩
    · cases h
  · cases h

theorem extract_sound (I : In cx g S w β a st o gd) {x : Operand} {j : Nat} (ho : o.op = .extract x j) {av : AV} {e : Eff} (h : evalOp cx st o gd = some (av, e)) : Pu P cx g S w β a o av e := by
  have hx := I.rho (x := x) (by simp [ho, Op.operands])
  simp only [evalOp, ho] at h
  split at h
  · rename_i l hq
    rw [hq] at hx
    obtain ⟨vs, hv, hl⟩ := hx
    simp only [Option.map_eq_some_iff, Prod.mk.injEq] at h
    obtain ⟨cs, hcs, rfl, rfl⟩ := h
    have key : ∀ (l : List (List CT)) (vs : List Value) (j : Nat) (cs : List CT), CT2 cx.sub g.cb S l vs → l[j]? = some cs → ∃ v, vs[j]? = some v ∧ CO cx.sub g.cb S cs v := by
      intro l
      induction l with
      | nil => intro vs j cs _ h; simp at h
      | cons c l ih =>
        intro vs j cs h hj
        cases vs with
        | nil => exact h.elim
        | cons v vs =>
          cases j with
          | zero =>
            simp only [List.getElem?_cons_zero, Option.some.injEq] at hj
            subst hj
            exact ⟨v, rfl, h.1⟩
          | succ j => exact ih vs j cs h.2 (by simpa using hj)
    obtain ⟨v, hv', hc⟩ := key _ _ _ _ hl hcs
    have hv' : vs[j]? = some v := by simpa using hv'
    exact Pu.mk ⟨v, by simp [execOp, ho, hv, Instr.extract, hv'], hc⟩ rfl
  · cases h

theorem bytes_list : ∀ (l : List Value), (∀ v ∈ l, ∃ m, v = .int .u8 m) → ∃ ns : List Int, l = ns.map (Value.int .u8)
  | [], _ => ⟨[], rfl⟩
  | v :: l, h => by
    obtain ⟨m, rfl⟩ := h v List.mem_cons_self
    obtain ⟨ns, rfl⟩ := bytes_list l fun v hv => h v (List.mem_cons_of_mem _ hv)
    exact ⟨m :: ns, rfl⟩

theorem push_size : ∀ (ns : List Int) (s : ByteArray), (ns.foldl (fun r n => r.push (UInt8.ofNat n.toNat)) s).size = s.size + ns.length
  | [], s => rfl
  | n :: ns, s => by rw [List.foldl_cons, push_size ns, ByteArray.size_push, List.length_cons]; omega

theorem convert_sound (H : CxOk P cx) (I : In cx g S w β a st o gd) {t t' : TypeId} {x : Operand} (ho : o.op = .convert t t' x) {av : AV} {e : Eff} (h : evalOp cx st o gd = some (av, e)) : Pu P cx g S w β a o av e := by
  have hx := I.rho (x := x) (by simp [ho, Op.operands])
  simp only [evalOp, ho] at h
  split at h
  · rename_i cs ia ib h1 hia hib
    rw [h1] at hx
    obtain ⟨c, hc, hx⟩ := hx
    simp only [Option.map_eq_some_iff, Prod.mk.injEq] at h
    obtain ⟨l, hl, rfl, rfl⟩ := h
    obtain ⟨r, hr, he⟩ := mapM_mem hl c hc
    suffices hs : ∃ v, (convert t t' (a.eval x)).run P w = .ok v w ∧ CV cx.sub g.cb S r v by
      obtain ⟨v, hv, hcv⟩ := hs
      exact Pu.mk ⟨v, by simp [execOp, ho, hv], ⟨r, hr, hcv⟩⟩ rfl
    cases c <;> simp only [convC, reduceCtorEq] at he
    · rename_i k lo hi
      split at he
      · rename_i k' hd
        simp only [Option.some.injEq] at he
        subst he
        obtain ⟨n, hn, h2, h3⟩ := hx
        obtain ⟨hT, hid⟩ := ty_spec H hia
        have hu : ∃ d, P.underlying t = some d := by
          have hD := hT.desc
          rw [hid] at hD
          split at hD
          · exact ⟨_, hD⟩
          · exact ⟨_, hD⟩
          · exact ⟨_, hD⟩
          · exact ⟨_, hD⟩
          · obtain ⟨F, hF, -⟩ := hD
            exact ⟨_, hF⟩
        obtain ⟨d, hu⟩ := hu
        refine ⟨.int k' (k'.wrap n), ?_, iv_spec h2 h3⟩
        rw [hn]
        simp [convert, run_underlying hu, run_underlying (ty_int H hib hd), Conv.intToInt]
      · cases he
    · rename_i nm lo hi ow
      split at he
      · rename_i el hsrc
        split at he
        · rename_i R ie hR hie
          split at he
          · rename_i hq
            obtain ⟨hds, hel, hex, hels, hsm⟩ := hq
            simp only [Option.some.injEq] at he
            subst he
            obtain ⟨p, n, cp, hv, hlo, hhi, hnc, hp⟩ := hx
            rw [hv, run_convert_bytes_string w t t' el p n cp (ty_slice H hia hsrc) (ty_int H hie hel) (ty_string H hib hds)]
            rcases hp with hp | ⟨b, rb, rfl, hb, hs, hf, hcap⟩
            · have hn : n = 0 := by omega
              subst hn
              cases p with
              | none => exact ⟨.string .empty, rfl, _, rfl, by simpa using hlo, by simp⟩
              | some q =>
                refine ⟨_, run_bytesToString w q 0 cp [] (by simp [loadCells, loadCellsFrom]), _, rfl, ?_, ?_⟩
                · simpa using hlo
                · simp
            · have hs' : subP cx.sub false rb.nm nm := by
                rcases hs with hs | ⟨_, hs⟩
                · exact .inl hs
                · exact .inr ⟨rfl, hs⟩
              have hwid : R.width = 1 := by
                have := H.len nm R 0 hR [full .u8] (by simp [Row.at, hex, hels])
                simpa using this.symm
              obtain ⟨R0, cells, h1', h2', h3', h4', h5'⟩ := I.wok.row b rb hb
              have hcell : ∀ j, j < n → ∃ m, cells.toList[j]? = some (.int .u8 m) := by
                intro j hj
                obtain ⟨cells', e', hh, hle, hcw⟩ := row_cells H I.wok hb hs' hR (i := j) (j := j) (by omega) (.inl hex)
                rw [h2'] at hh
                simp only [Option.some.injEq, Obj.cells.injEq] at hh
                obtain ⟨rfl, -, -⟩ := hh
                obtain ⟨y, hy, hcl⟩ := hcw
                simp only [Row.at, hex, hels, List.getElem?_nil, Option.getD_none, List.mem_singleton] at hy
                subst hy
                rw [hwid, Nat.mul_one] at hcl
                have hlen := hcl.length
                cases hd : (List.drop j cells.toList) with
                | nil => rw [hd] at hcl; exact hcl.elim
                | cons v tl =>
                  rw [hd] at hcl
                  obtain ⟨m, hm, -⟩ := hcl.1
                  refine ⟨m, ?_⟩
                  have := congrArg (·[0]?) hd
                  simpa [List.getElem?_drop, hm] using this
              have hlen : n ≤ cells.toList.length := by
                rcases Nat.lt_or_ge cells.toList.length n with h | h
                · obtain ⟨m, hm⟩ := hcell _ h
                  simp at hm
                · exact h
              obtain ⟨ns, hns⟩ := bytes_list (cells.toList.take n) (fun v hv => by
                obtain ⟨j, hj⟩ := List.getElem?_of_mem hv
                rw [List.getElem?_take] at hj
                split at hj
                · rename_i hjn
                  obtain ⟨m, hm⟩ := hcell j hjn
                  rw [hm] at hj
                  exact ⟨m, (Option.some.inj hj).symm⟩
                · cases hj)
              have hnl : ns.length = n := by
                have := congrArg List.length hns
                simp only [List.length_take, List.length_map] at this
                omega
              have hlc := run_loadCells_list (P := P) w ⟨b, 0, none⟩ (cells.toList.take n) (fun j v hv => by
                rw [add_lit, cell_of_row w b _ cells R0.elem (0, 0) h2', Nat.zero_add]
                rw [List.getElem?_take] at hv
                split at hv
                · simpa using hv
                · cases hv)
              have hll : (cells.toList.take n).length = n := by simp only [List.length_take]; omega
              rw [hll, hns] at hlc
              refine ⟨_, run_bytesToString w ⟨b, 0, none⟩ n cp ns hlc, _, rfl, ?_, ?_⟩ <;> rw [push_size, hnl] <;> simp <;> omega
          · cases he
        · cases he
      · cases he
  · cases h

theorem exec_builtin {c : Call} {b : Builtin} (ho : o.op = .call c) (hc : c.callee = .builtin b) {ρ : Operand → Value} :
    execOp ρ o = builtin b c.argTypes o.type (c.args.map fun | .const _ => true | _ => false) (c.args.map ρ) := by
  simp only [execOp, ho, resolve, hc, pure_bind, invoke]
  rfl

theorem args_one {f : Operand → AV} {c : Call} {x : AV} (h : c.args.toList.map f = [x]) : ∃ y, c.args = #[y] ∧ f y = x := by
  cases hc : c.args.toList with
  | nil => rw [hc] at h; simp at h
  | cons y r =>
    rw [hc] at h
    cases r with
    | nil =>
      refine ⟨y, ?_, by simpa using h⟩
      apply Array.ext'
      simpa using hc
    | cons => simp at h

theorem argTypes_one {c : Call} {t : TypeId} (h : c.argTypes.toList = [t]) : c.argTypes = #[t] := by
  apply Array.ext'
  simpa using h

theorem len_sound (H : CxOk P cx) (I : In cx g S w β a st o gd) {c : Call} (ho : o.op = .call c) (hb : c.callee = .builtin .len) {av : AV} {e : Eff} (h : evalOp cx st o gd = some (av, e)) : Pu P cx g S w β a o av e := by
  simp only [evalOp, ho, callOp, hb, lenOp] at h
  split at h
  · rename_i cs t hargs ht
    obtain ⟨x, hx, hxe⟩ := args_one hargs
    have hr := I.rho (x := x) (by simp [ho, Op.operands, Call.operands, hx])
    rw [hxe] at hr
    have ht := argTypes_one ht
    simp only [Option.bind_eq_some_iff, Option.map_eq_some_iff, Prod.mk.injEq] at h
    obtain ⟨i, hi, l, hl, rfl, rfl⟩ := h
    obtain ⟨q, hq, hv⟩ := hr
    obtain ⟨r, hr, he⟩ := mapM_mem hl q hq
    have hrun : ∀ n : Nat, (Builtin.len_ #[t] o.type #[a.eval x]).run P w = .ok (goInt n) w → (execOp a.eval o).run P w = .ok (.value (.int .i64 n)) w := fun n hn => by
      rw [exec_builtin ho hb, hx, ht]
      simp [builtin, hn, goInt]
    cases q <;> simp only [lenC, reduceCtorEq] at he
    · split at he
      · rename_i hd
        simp only [Option.some.injEq] at he
        subst he
        obtain ⟨s, hs, h1, h2⟩ := hv
        exact Pu.mk ⟨_, hrun s.size (by simp [Builtin.len_, run_underlying (ty_string H hi hd), hs]), ⟨_, hr, _, rfl, by omega, by omega⟩⟩ rfl
      · cases he
    · split at he
      · rename_i el hd
        simp only [Option.some.injEq] at he
        subst he
        obtain ⟨p, hp⟩ := hv
        exact Pu.mk ⟨_, hrun 0 (by simp [Builtin.len_, run_underlying (ty_slice H hi hd), hp]), ⟨_, hr, _, rfl, by omega, by omega⟩⟩ rfl
      · cases he
    · split at he
      · rename_i el hd
        simp only [Option.some.injEq] at he
        subst he
        obtain ⟨p, n, cp, hp, h1, h2, -⟩ := hv
        exact Pu.mk ⟨_, hrun n (by simp [Builtin.len_, run_underlying (ty_slice H hi hd), hp]), ⟨_, hr, _, rfl, by omega, by omega⟩⟩ rfl
      · cases he
  · cases h

/-! ### A struct that is built -/
theorem over_spec {sub cb S} {v x : List CT} {off : Nat} {l y : List Value} (hl : CL sub cb S v l) (hy : CL sub cb S x y) :
    CL sub cb S (over v off x) (l.take off ++ y ++ l.drop (off + y.length)) := by
  unfold over
  rw [hy.length]
  exact (hl.take.append hy).append hl.drop

theorem layAll_spec {sub cb S} : ∀ {ps : List (Nat × List (List CT))} {ys : List (Nat × List Value)} {base : List (List CT)} {l : List Value},
    CW sub cb S base l → ps.length = ys.length → (∀ (j : Nat) (p : Nat × List (List CT)) (y : Nat × List Value), ps[j]? = some p → ys[j]? = some y → p.1 = y.1 ∧ CW sub cb S p.2 y.2) →
    CW sub cb S (layAll base ps) (ys.foldl (fun (l : List Value) (y : Nat × List Value) => l.take y.1 ++ y.2 ++ l.drop (y.1 + y.2.length)) l)
  | [], [], base, l, h, _, _ => h
  | [], _ :: _, _, _, _, h, _ => by simp at h
  | _ :: _, [], _, _, _, h, _ => by simp at h
  | (off, vs) :: ps, (off', y) :: ys, base, l, h, hl, hp => by
    obtain ⟨he, hy⟩ := hp 0 _ _ rfl rfl
    simp only at he hy
    subst he
    rw [List.foldl_cons, layAll]
    refine layAll_spec ?_ (by simpa using hl) (fun j p y h1 h2 => hp (j + 1) p y (by simpa using h1) (by simpa using h2))
    obtain ⟨b, hb, h⟩ := h
    obtain ⟨x, hx, hy⟩ := hy
    exact ⟨over b off x, List.mem_flatMap.2 ⟨b, hb, List.mem_map.2 ⟨x, hx, rfl⟩⟩, over_spec h hy⟩

theorem foldl_set (off : Nat) : ∀ (y : List Value) (k : Nat) (cells : Array Value), off + k + y.length ≤ cells.size →
    ((y.zipIdx k).foldl (fun cs (x : Value × Nat) => cs.setIfInBounds (off + x.2) x.1) cells).toList = cells.toList.take (off + k) ++ y ++ cells.toList.drop (off + k + y.length)
  | [], k, cells, _ => by simp
  | v :: y, k, cells, h => by
    rw [List.zipIdx_cons, List.foldl_cons]
    simp only [List.length_cons] at h
    rw [foldl_set off y (k + 1) _ (by simp only [Array.size_setIfInBounds]; omega)]
    have hlt : off + k < cells.toList.length := by simp; omega
    simp only [Array.toList_setIfInBounds]
    generalize cells.toList = L at hlt
    have e1 : (L.set (off + k) v).take (off + (k + 1)) = L.take (off + k) ++ [v] := by
      rw [← Nat.add_assoc, List.take_add_one, List.take_set_of_le (Nat.le_refl _)]
      simp [hlt]
    have e2 : (L.set (off + k) v).drop (off + (k + 1) + y.length) = L.drop (off + k + (y.length + 1)) := by
      rw [List.drop_set_of_lt (by omega)]
      congr 1
      omega
    rw [e1, e2, List.length_cons]
    simp

theorem mapM_get {α γ : Type} {f : α → Option γ} : ∀ {l : List α} {r : List γ}, l.mapM f = some r → r.length = l.length ∧ ∀ (j : Nat) (x : α), l[j]? = some x → ∃ y, r[j]? = some y ∧ f x = some y
  | [], r, h => by
    simp only [List.mapM_nil, Option.pure_def, Option.some.injEq] at h
    subst h
    exact ⟨rfl, fun j x hx => by simp at hx⟩
  | a :: l, r, h => by
    simp only [List.mapM_cons, Option.bind_eq_bind, Option.bind_eq_some_iff, Option.pure_def, Option.some.injEq] at h
    obtain ⟨y, hy, r', hr, rfl⟩ := h
    obtain ⟨h1, h2⟩ := mapM_get hr
    refine ⟨by simp [h1], fun j x hx => ?_⟩
    cases j with
    | zero =>
      simp only [List.getElem?_cons_zero, Option.some.injEq] at hx
      subst hx
      exact ⟨y, rfl, hy⟩
    | succ j => exact h2 j x (by simpa using hx)

theorem mapM_of {α γ : Type} {f : α → Option γ} {h : α → γ} : ∀ {l : List α}, (∀ x ∈ l, f x = some (h x)) → l.mapM f = some (l.map h)
  | [], _ => rfl
  | a :: l, hh => by
    rw [List.mapM_cons, hh a List.mem_cons_self, mapM_of (l := l) fun x hx => hh x (List.mem_cons_of_mem _ hx)]
    rfl

theorem fill_spec (place : Nat → Option (Nat × Nat)) : ∀ (ps : List (Nat × Value)) (ys : List (Nat × List Value)) (cells : Array Value), ps.length = ys.length →
    (∀ (j : Nat) (p : Nat × Value) (y : Nat × List Value), ps[j]? = some p → ys[j]? = some y → ∃ n, place p.1 = some (y.1, n) ∧ y.2 = p.2.cells.toList ∧ p.2.cells.size = n ∧ y.1 + n ≤ cells.size) →
    ∃ c, Instr.fill place cells ps = some c ∧ c.size = cells.size ∧ c.toList = ys.foldl (fun (l : List Value) (y : Nat × List Value) => l.take y.1 ++ y.2 ++ l.drop (y.1 + y.2.length)) cells.toList
  | [], [], cells, _, _ => ⟨cells, rfl, rfl, rfl⟩
  | [], _ :: _, _, h, _ => by simp at h
  | _ :: _, [], _, h, _ => by simp at h
  | (i, v) :: ps, (off, y) :: ys, cells, hl, hp => by
    obtain ⟨n, h1, h2, h3, h4⟩ := hp 0 _ _ rfl rfl
    simp only at h1 h2 h3 h4
    have hset := foldl_set off v.cells.toList 0 cells (by simp only [Array.length_toList]; omega)
    have hz : (v.cells.zipIdx.foldl (fun cs (x : Value × Nat) => cs.setIfInBounds (off + x.2) x.1) cells) = (v.cells.toList.zipIdx 0).foldl (fun cs (x : Value × Nat) => cs.setIfInBounds (off + x.2) x.1) cells := by
      rw [← Array.foldl_toList]
      simp
    generalize hc' : (v.cells.toList.zipIdx 0).foldl (fun cs (x : Value × Nat) => cs.setIfInBounds (off + x.2) x.1) cells = c' at hset hz
    have hsz : c'.size = cells.size := by
      have := congrArg List.length hset
      simp only [Array.length_toList, List.length_append, List.length_take, List.length_drop] at this
      omega
    obtain ⟨c, hf, hs, hl'⟩ := fill_spec place ps ys c' (by simpa using hl) (fun j p y hj hy => by
      rw [hsz]
      exact hp (j + 1) p y (by simpa using hj) (by simpa using hy))
    refine ⟨c, ?_, by omega, ?_⟩
    · unfold Instr.fill
      simp only [h1]
      rw [if_neg (by simp; omega)]
      exact hz ▸ hf
    · rw [hl', hset, List.foldl_cons, h2]
      simp only [Nat.add_zero]

theorem build_sound (H : CxOk P cx) (I : In cx g S w β a st o gd) {t : TypeId} {parts : Array (Nat × Operand)} (ho : o.op = .build t parts) {av : AV} {e : Eff} (h : evalOp cx st o gd = some (av, e)) : Pu P cx g S w β a o av e := by
  simp only [evalOp, ho, Option.bind_eq_some_iff] at h
  obtain ⟨i, hi, h⟩ := h
  split at h
  · rename_i fs hd
    split at h
    · cases h
    · rename_i hall
      simp only [Option.map_eq_some_iff, Prod.mk.injEq] at h
      obtain ⟨ps, hps, rfl, rfl⟩ := h
      obtain ⟨hT, hid⟩ := ty_spec H hi
      subst hid
      have hD := hT.desc
      rw [hd] at hD
      obtain ⟨F, hF, hFs⟩ := hD
      obtain ⟨info, z, hinfo, -, -, hz, hzc, hzs⟩ := hT.info
      have hall' : ∀ f ∈ fs, ∃ ti, cx.ty f.2 = some ti := by
        have : (fs.all fun f => (cx.ty f.2).isSome) = true := by
          rcases Bool.eq_false_or_eq_true (fs.all fun f => (cx.ty f.2).isSome) with h | h
          · exact h
          · exact absurd (by rw [h]; rfl) hall
        intro f hf
        exact Option.isSome_iff_exists.1 (List.all_eq_true.1 this f hf)
      have hpl : F.toList.mapM (fun f => (P.info? f.type).map fun i => (f.offset, i.size)) = some (F.toList.map fun f => (f.offset, ((P.info? f.type).map (·.size)).getD 0)) := by
        refine mapM_of fun f hf => ?_
        obtain ⟨ti, hti⟩ := hall' (f.offset, f.type) (by rw [← hFs]; exact List.mem_map.2 ⟨f, hf, rfl⟩)
        obtain ⟨hT', hid'⟩ := ty_spec H hti
        simp only at hid'
        obtain ⟨x, _, hx, hs, _⟩ := hT'.info
        rw [hid'] at hx
        simp [hx]
      obtain ⟨hlen, hget⟩ := mapM_get hps
      obtain ⟨c, hfill, hcs, hcl⟩ := fill_spec (fun j => (F.toList.map fun f => (f.offset, ((P.info? f.type).map (·.size)).getD 0)).toArray[j]?) (parts.map fun (q : Nat × Operand) => (q.1, a.eval q.2)).toList
        ((parts.toList.zip ps).map fun x => (x.2.1, (a.eval x.1.2).cells.toList)) z.cells (by simp [hlen]) (by
          intro j p y hj hy
          rw [Array.toList_map, List.getElem?_map, Option.map_eq_some_iff] at hj
          obtain ⟨q, hq, rfl⟩ := hj
          obtain ⟨r, hr, he⟩ := hget j q hq
          rw [List.getElem?_map, Option.map_eq_some_iff] at hy
          obtain ⟨x, hx, rfl⟩ := hy
          rw [List.getElem?_zip_eq_some] at hx
          obtain ⟨hx1, hx2⟩ := hx
          rw [hq] at hx1
          rw [hr] at hx2
          have e1 := Option.some.inj hx1
          have e2 := Option.some.inj hx2
          simp only [Option.bind_eq_some_iff] at he
          obtain ⟨f, hf, ie, hie, vs, hvs, he⟩ := he
          split at he
          · rename_i hcond
            simp only [Bool.and_eq_true, decide_eq_true_eq] at hcond
            obtain ⟨hv1, hv2⟩ := hcond
            have he := Option.some.inj he
            have hmem : q.2 ∈ o.op.operands.toList := by
              simp only [ho, Op.operands, List.toList_toArray]
              exact List.mem_map.2 ⟨q, List.mem_of_getElem? hq, rfl⟩
            obtain ⟨xv, hxv, hcl⟩ := asV_spec hvs (I.rho hmem)
            have hsz : (a.eval q.2).cells.size = ie.size := by
              have h1 := hcl.length
              have h2 := List.all_eq_true.1 hv1 xv hxv
              simp only [beq_iff_eq] at h2
              rw [← Array.length_toList, h1, h2]
            have hf' : ∃ fld, F.toList[q.1]? = some fld ∧ (fld.offset, fld.type) = f := by
              rw [← hFs, List.getElem?_map, Option.map_eq_some_iff] at hf
              exact hf
            obtain ⟨fld, hfld, hfe⟩ := hf'
            obtain ⟨hT', hid'⟩ := ty_spec H hie
            obtain ⟨y', _, hy', hs', _⟩ := hT'.info
            rw [hid', ← hfe] at hy'
            refine ⟨ie.size, ?_, ?_, hsz, ?_⟩
            · rw [← e2, ← he, ← hfe]
              simp only [List.getElem?_toArray, List.getElem?_map, hfld, Option.map_some]
              simp [hy', hs']
            · rw [← e1]
            · rw [← e2, ← he, hzs, ← hT.zl]
              exact hv2
          · cases he)
      have hbuilt : P.built i.id (parts.map fun (q : Nat × Operand) => (q.1, a.eval q.2)).toList = some c := by
        unfold Program.built
        simp only [hinfo, hF, hz, hpl]
        exact hfill
      refine Pu.mk ⟨.agg c, by simp [execOp, ho, run_build w i.id _ c hbuilt], c, rfl, ?_⟩ rfl
      rw [hcl]
      have hl := layAll_spec (sub := cx.sub) (cb := g.cb) (S := S) (ps := ps) (ys := (parts.toList.zip ps).map fun x => (x.2.1, (a.eval x.1.2).cells.toList)) (base := [i.zero]) (l := z.cells.toList)
        ⟨i.zero, List.mem_singleton.2 rfl, hzc _ _ _⟩ (by simp [hlen]) (by
          intro j p y hj hy
          rw [List.getElem?_map, Option.map_eq_some_iff] at hy
          obtain ⟨x, hx, rfl⟩ := hy
          rw [List.getElem?_zip_eq_some] at hx
          obtain ⟨hx1, hx2⟩ := hx
          rw [hj] at hx2
          have e2 := Option.some.inj hx2
          obtain ⟨r, hr, he⟩ := hget j x.1 hx1
          rw [hj] at hr
          have e3 := Option.some.inj hr
          simp only [Option.bind_eq_some_iff] at he
          obtain ⟨f, hf, ie, hie, vs, hvs, he⟩ := he
          split at he
          · have he := Option.some.inj he
            have hmem : x.1.2 ∈ o.op.operands.toList := by
              simp only [ho, Op.operands, List.toList_toArray]
              exact List.mem_map.2 ⟨x.1, List.mem_of_getElem? hx1, rfl⟩
            refine ⟨by rw [← e2], ?_⟩
            rw [e3, ← he]
            exact asV_spec hvs (I.rho hmem)
          · cases he)
      obtain ⟨x, hx, hv⟩ := hl
      exact ⟨x, mem_eraseDups hx, hv⟩
  · cases h
end
end Go.Proofs.YtlbcaadflcjpeaaGreatDoor.Va

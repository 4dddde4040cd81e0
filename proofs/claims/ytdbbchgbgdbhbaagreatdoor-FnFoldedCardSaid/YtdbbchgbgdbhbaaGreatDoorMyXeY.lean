/- Regions whose order is open: what holds while one runs. No condition. -/
import Derived.Test.YtdbbchgbgdbhbaaGreatDoorMyXeX
set_option linter.unusedVariables false
set_option linter.unusedSimpArgs false
namespace Go.Proofs.YtdbbchgbgdbhbaaGreatDoor.Xe
open Go

section
variable {P : Program} {γ : Gs} {cx : Cx} {g : Gh} {cf : CallF} {ops : Array Oper} {n0 : Nf} {nt : Nat} {β0 β β' : Bm} {w0 w w' : World} {a : Act}

/-- What a step knows of the heap. -/
def rdJ (n : Nf) (d : Sd) : Rd := fun id => if d.fp.look id then n.hp.get id else none

/-- A step. -/
theorem step_wp (H : CxOk P γ cx) (HC : CfOk P γ g cf) {n : Nf} {o : Oper} {d : Sd} (N : NfOk n) (h : stepD cx cf ops (loose (closure n.cl o) 0 n.fps) n.tm n.hp n.nx o = some d) (W : WOk γ g β (rdJ n d) w)
    (htm : ∀ t ∈ d.fp.lt, VV γ β (lkT n.tm t) (a.tmps.getD t undef)) (hf : Free β n.nx d.nx) {K : Act → World → Prop} {Q : Exit → Act → World → Prop} {j : Nat} (hj : ops[j]? = some o)
    (hK : ∀ β' w' x hp', WOk γ g β' hp' w' → Mv (rdJ n d) n.nx β w hp' d.nx β' w' → (∀ id, id ∈ d.fp.ws → d.hp.get id = hp' id) → (∀ id, id ∉ d.fp.ws → hp' id = rdJ n d id) → VV γ β' d.v x → K (a.put o.dst x) w') : wpOp P ops Q j K a w := by
  have hso := step_ok HC.toCfPur N h
  have hlo := step_lo h
  have h0 := h
  unfold stepD at h
  simp only at h
  unfold wpOp
  simp only [hj]
  split at h
  · rename_i hg
    cases h
    rw [if_neg (by rw [guard_spec hg fun t ht => htm t (List.mem_append_left _ ht)]; simp)]
    exact hK β w undef _ W Mv.refl (fun id hid => by rw [mem_ws] at hid; simp at hid; omega) (fun _ _ => rfl) undef_vv
  · rename_i hg
    split at h
    · rename_i v upd nx' hv
      cases h
      rw [if_pos (guard_spec hg fun t ht => htm t (List.mem_append_left _ ht))]
      refine .inl ?_
      have hrd : rdOf n.hp (opIds n.tm o) = rdJ n { v := v, hp := apply n.hp upd, nx := nx', fp := { lt := guardTs ops o ++ tmpsOf o, wt := o.dst, all := false, ids := opIds n.tm o, w := (upd.map (·.1)).filter fun id => !Nat.ble n.nx id, lo := n.nx, hi := nx' } } := by
        funext id
        unfold rdOf rdJ Fp.look
        rcases Nat.lt_or_ge id n.nx with hlt | hge
        · have hb : Nat.ble n.nx id = false := by
            cases hq : Nat.ble n.nx id with
            | false => rfl
            | true => have := Nat.le_of_ble_eq_true hq; omega
          simp [hb]
        · rw [Nat.ble_eq_true_of_le hge]
          simp [N.sup id hge]
      rw [hrd] at hv
      have hu := op_up hv
      have hs0 : ∀ id, n.nx ≤ id → rdJ n { v := v, hp := apply n.hp upd, nx := nx', fp := { lt := guardTs ops o ++ tmpsOf o, wt := o.dst, all := false, ids := opIds n.tm o, w := (upd.map (·.1)).filter fun id => !Nat.ble n.nx id, lo := n.nx, hi := nx' } } id = none := by
        rw [← hrd]
        exact rdOf_none N.sup _
      have hmem : ∀ id, id ∈ (Sd.fp { v := v, hp := apply n.hp upd, nx := nx', fp := { lt := guardTs ops o ++ tmpsOf o, wt := o.dst, all := false, ids := opIds n.tm o, w := (upd.map (·.1)).filter fun id => !Nat.ble n.nx id, lo := n.nx, hi := nx' } }).ws ↔ id ∈ upd.map (·.1) := fun id => by
        rw [mem_ws]
        simp only [List.mem_filter]
        constructor
        · rintro (h | h)
          · exact h.1
          · exact hu.new h.1 h.2
        · intro h
          rcases Nat.lt_or_ge id n.nx with hlt | hge
          · refine .inl ⟨h, ?_⟩
            cases hq : Nat.ble n.nx id with
            | false => rfl
            | true => have := Nat.le_of_ble_eq_true hq; omega
          · exact .inr ⟨hge, (hu.ids hs0 h).1⟩
      refine val_wp H ⟨W, fun t ht => htm t (List.mem_append_right _ ht)⟩ hv hf fun β' w' x h1 h2 h3 => hK β' w' x _ h1 h2 (fun id hid => ?_) (fun id hid => ?_) h3
      · simp only
        rw [apply_get]
        exact upF_same ((hmem id).1 hid)
      · exact hu.other (fun hm => hid ((hmem id).2 hm)) _
    · rename_i f args hv
      split at h
      · rename_i ans ha
        split at h
        · cases h
        · rename_i hnlo
          cases h
          rw [if_pos (guard_spec hg fun t ht => htm t (List.mem_append_left _ ht))]
          refine .inl ?_
          have hsl : Supp (takeAway n.hp (loose (closure n.cl o) 0 n.fps)) n.nx := fun id hid => by
            rw [takeAway_get]
            split
            · rfl
            · exact N.sup id hid
          have hrd : (takeAway n.hp (loose (closure n.cl o) 0 n.fps)).get = rdJ n { v := ans.v, hp := putBack n.hp ans.hp (loose (closure n.cl o) 0 n.fps), nx := ans.nx, fp := { lt := guardTs ops o ++ tmpsOf o, wt := o.dst, all := true, ids := loose (closure n.cl o) 0 n.fps, w := ans.wr.filter (fun id => !Nat.ble n.nx id), lo := n.nx, hi := ans.nx } } := by
            funext id
            rw [takeAway_get]
            unfold rdJ Fp.look
            rcases Nat.lt_or_ge id n.nx with hlt | hge
            · have hb : Nat.ble n.nx id = false := by
                cases hq : Nat.ble n.nx id with
                | false => rfl
                | true => have := Nat.le_of_ble_eq_true hq; omega
              by_cases hc : id ∈ loose (closure n.cl o) 0 n.fps <;> simp [hb, hc]
            · rw [Nat.ble_eq_true_of_le hge, N.sup id hge]
              simp
          have hloose : ∀ id ∈ loose (closure n.cl o) 0 n.fps, id < n.nx := fun id hid => by
            obtain ⟨f, hf, hw⟩ := mem_loose hid
            exact N.ws f hf id hw
          have hwr : ∀ id ∈ ans.wr, id ∉ loose (closure n.cl o) 0 n.fps := fun id h1 h2 => hnlo (List.any_eq_true.2 ⟨id, h1, by simpa using h2⟩)
          have hids : opIds n.tm o = [] := by
            obtain ⟨c, x, ho, hc, -⟩ := op_call hv
            simp [opIds, ho, hc]
          have hv' : evalO cx n.tm (takeAway n.hp (loose (closure n.cl o) 0 n.fps)).get n.nx o = some (.call f args) := by
            obtain ⟨c, x, ho, hc, hv⟩ := op_call hv
            simp only [evalO, ho, hc, evalOp, callV] at hv ⊢
            exact hv
          have hsup := HC.sup _ _ _ _ _ ha hsl
          refine call_wp H HC (hp := takeAway n.hp (loose (closure n.cl o) 0 n.fps)) ⟨by rw [hrd]; exact W, fun t ht => htm t (List.mem_append_right _ ht)⟩ hsl hv' ha hf fun β' w' x h1 h2 h3 => ?_
          rw [hrd] at h2
          refine hK β' w' x _ h1 h2 (fun id hid => ?_) (fun id hid => ?_) h3
          · simp only
            rw [putBack_get, if_neg]
            intro hm
            rw [mem_ws] at hid
            rcases hid with hid | hid
            · exact hwr id (List.mem_filter.1 hid).1 hm
            · have := hloose id hm
              simp only at hid
              omega
          · rw [← hrd]
            have hid : ¬ (id ∈ List.filter (fun id => !Nat.ble n.nx id) ans.wr ∨ (n.nx ≤ id ∧ id < ans.nx)) := fun h => hid (mem_ws.2 h)
            rw [not_or] at hid
            rcases Nat.lt_or_ge id n.nx with hlt | hge
            · refine HC.hp _ _ _ _ _ ha hsl id hlt fun hm => hid.1 (List.mem_filter.2 ⟨hm, ?_⟩)
              cases hq : Nat.ble n.nx id with
              | false => rfl
              | true => have := Nat.le_of_ble_eq_true hq; omega
            · rw [hsup id (by omega), hsl id hge]
      · cases h
    · cases h
  · cases h

/-- What holds while a region runs: L is what has run. -/
structure RInv (γ : Gs) (g : Gh) (cx : Cx) (cf : CallF) (ops : Array Oper) (n0 : Nf) (nxE : Nat) (nt : Nat) (ds : List Deferred) (β0 : Bm) (w0 : World) (L : Nat → Prop) (β : Bm) (a : Act) (w : World) : Prop where
  j : g.J w
  b0 : g.b0 ≤ w.heap.size
  ext : Ble β0 β
  rng : ∀ id, id < n0.nx ∨ nxE ≤ id → β id = β0 id
  size : w0.heap.size ≤ w.heap.size
  keep : ∀ b, b < w0.heap.size → (∀ id blk sz, n0.hp.get id = some blk → β0 id ≠ some (b, sz)) → w.heap[b]? = w0.heap[b]?
  new : ∀ id blk bk sz, Live cx cf ops n0 L id blk → β id = some (bk, sz) → w0.heap.size ≤ bk ∨ ∃ id0 blk0 sz0, n0.hp.get id0 = some blk0 ∧ β0 id0 = some (bk, sz0)
  tsz : nt ≤ a.tmps.size
  dfe : a.defers = ds
  shut : Shut' ops L
  tm : ∀ t k n, nfAt cx cf ops n0 k = some n → Agree cx cf ops n0 L (.t t) k → VV γ β (lkT n.tm t) (a.tmps.getD t undef)
  bx : ∀ id blk, Live cx cf ops n0 L id blk → BOk γ g β w id blk
  inj : ∀ id id' b b' bk sz sz', Live cx cf ops n0 L id b → Live cx cf ops n0 L id' b' → β id = some (bk, sz) → β id' = some (bk, sz') → id = id'
  free : ∀ j n o d, ¬ L j → StepAt cx cf ops n0 j n o d → Free β n.nx d.nx

/-- One step. -/
theorem rinv_step (H : CxOk P γ cx) (HC : CfOk P γ g cf) (R : Rg cx cf ops n0) {nxE : Nat} (hE : ∀ j n, nfAt cx cf ops n0 j = some n → n.nx ≤ nxE) (hdst : ∀ o ∈ ops.toList, ∀ d, o.dst = some d → d < nt) {ds : List Deferred} {L : Nat → Prop}
    (I : RInv γ g cx cf ops n0 nxE nt ds β0 w0 L β a w) {j : Nat} {n : Nf} {o : Oper} {d : Sd} (hj : StepAt cx cf ops n0 j n o d) (hnot : ¬ L j)
    (hdep : ∀ x ∈ o.after, Region.binds .any x = true → L x.on) {K : Act → World → Prop} {Q : Exit → Act → World → Prop}
    (hK : ∀ β' a' w', RInv γ g cx cf ops n0 nxE nt ds β0 w0 (fun i => L i ∨ i = j) β' a' w' → K a' w') : wpOp P ops Q j K a w := by
  have agr : ∀ {r : Rs}, d.fp.Lk r ∨ d.fp.W r → Agree cx cf ops n0 L r j := fun hr => R.agree I.shut hj hnot hdep hr
  have N := nfAt_ok R.pur R.sup R.fps hj.nf
  have SD := step_ok R.pur N hj.step
  have hlo := step_lo hj.step
  have jLive : ∀ id blk, rdJ n d id = some blk → Live cx cf ops n0 L id blk := fun id blk h => by
    unfold rdJ at h
    split at h
    · rename_i hl
      exact ⟨j, n, hj.nf, agr (.inl hl), h⟩
    · cases h
  refine step_wp H HC N hj.step ⟨I.j, I.b0, fun id blk h => I.bx id blk (jLive id blk h), fun id id' b b' bk sz sz' h1 h2 => I.inj id id' b b' bk sz sz' (jLive _ _ h1) (jLive _ _ h2)⟩ (fun t ht => I.tm t j n hj.nf (agr (.inl ht))) (I.free j n o d hnot hj) hj.op
    fun β' w' x hp' hW hM hws hnw hx => ?_
  have wrj : ∀ r, Wr cx cf ops n0 r j ↔ d.fp.W r := fun r => by
    constructor
    · rintro ⟨m, o', d', h1, h2, h3, h4⟩
      rw [hj.nf] at h1
      cases h1
      rw [hj.op] at h2
      cases h2
      rw [hj.step] at h3
      cases h3
      exact h4
    · exact fun h => ⟨n, o, d, hj.nf, hj.op, hj.step, h⟩
  have agOld : ∀ {r : Rs} {k : Nat}, ¬ d.fp.W r → Agree cx cf ops n0 (fun i => L i ∨ i = j) r k → Agree cx cf ops n0 L r k := fun hr hA i hi => by
    have hne : i ≠ j := by
      rintro rfl
      exact hr ((wrj _).1 hi)
    have := hA i hi
    simpa [hne] using this
  have between : ∀ {r : Rs} {k : Nat}, d.fp.W r → Agree cx cf ops n0 (fun i => L i ∨ i = j) r k → j < k ∧ ∀ i, j + 1 ≤ i → i < k → ¬ Wr cx cf ops n0 r i := fun hr hA => by
    refine ⟨(hA j ((wrj _).2 hr)).1 (.inr rfl), fun i hi hik hw => ?_⟩
    have h1 := (hA i hw).2 hik
    have h2 := (agr (.inr hr)) i hw
    rcases h1 with h1 | h1
    · have := h2.1 h1
      omega
    · omega
  have hnext : nfAt cx cf ops n0 (j + 1) = some { tm := putT n.tm o.dst d.v, hp := d.hp, nx := d.nx, cl := n.cl ++ [closure n.cl o], fps := n.fps ++ [d.fp] } := by
    simp only [nfAt, hj.nf, hj.op, hj.step]
  -- a live name: seen by the step, or not touched
  have cls : ∀ id blk, Live cx cf ops n0 (fun i => L i ∨ i = j) id blk → hp' id = some blk ∨ (rdJ n d id = none ∧ Live cx cf ops n0 L id blk) := by
    rintro id blk ⟨k, m, hm, hA, hb⟩
    by_cases hw : id ∈ d.fp.ws
    · obtain ⟨hjk, hno⟩ := between (r := .h id) hw hA
      obtain ⟨c, rfl⟩ : ∃ c, k = j + 1 + c := ⟨k - (j + 1), by omega⟩
      rw [hp_same R.pur R.sup R.fps c (j + 1) hnext hm (fun i h1 h2 => hno i h1 h2)] at hb
      exact .inl (by rw [← hws id hw]; exact hb)
    · have hAo := agOld (r := .h id) hw hA
      cases hq : rdJ n d id with
      | none => exact .inr ⟨rfl, k, m, hm, hAo, hb⟩
      | some b' =>
        refine .inl ?_
        have hl : d.fp.look id = true ∧ n.hp.get id = some b' := by
          unfold rdJ at hq
          split at hq
          · rename_i hl
            exact ⟨hl, hq⟩
          · cases hq
        have := hp_agree R.pur R.sup R.fps hAo (agr (r := .h id) (.inl hl.1)) hm hj.nf
        rw [hnw id hw, hq, ← hl.2, ← this, hb]
  have oldβ : ∀ id blk, Live cx cf ops n0 L id blk → β' id = β id := fun id blk h => by
    obtain ⟨bk, sz, e, -⟩ := (I.bx id blk h).lt
    rw [hM.ext _ _ e, e]
  have nblk : ∀ id blk bk sz, Live cx cf ops n0 L id blk → rdJ n d id = none → β id = some (bk, sz) → ∀ id1 b1 sz1, rdJ n d id1 = some b1 → β id1 ≠ some (bk, sz1) := fun id blk bk sz h hr hβ id1 b1 sz1 h1 h2 => by
    have := I.inj id id1 blk b1 bk sz sz1 h (jLive _ _ h1) hβ h2
    subst this
    rw [hr] at h1
    cases h1
  refine hK β' _ w' ⟨hW.j, hW.b0, I.ext.trans hM.ext, fun id hid => ?_, Nat.le_trans I.size hM.size, fun b hb hno => ?_, fun id blk bk sz hl hβ => ?_, by rw [put_size]; exact I.tsz, by rw [put_df]; exact I.dfe, ?_, fun t k m hm hA => ?_, fun id blk hl => ?_, ?_, ?_⟩
  · have h1 : n0.nx ≤ n.nx := nfAt_mono R.pur R.sup R.fps (j := 0) rfl j (by rw [Nat.zero_add]; exact hj.nf)
    have h2 := hE (j + 1) _ hnext
    simp only at h2
    rw [hM.rng id (by omega), I.rng id hid]
  · rw [hM.keep b (Nat.lt_of_lt_of_le hb I.size) fun id1 b1 sz1 h1 h2 => ?_, I.keep b hb hno]
    rcases I.new id1 b1 b sz1 (jLive _ _ h1) h2 with h3 | ⟨id0, blk0, sz0, h3, h4⟩
    · omega
    · exact hno id0 blk0 sz0 h3 h4
  · rcases cls id blk hl with h | ⟨hr, h⟩
    · rcases hM.new id blk bk sz h hβ with h1 | ⟨id1, b1, sz1, h1, h2⟩
      · exact .inl (Nat.le_trans I.size h1)
      · exact I.new id1 b1 bk sz1 (jLive _ _ h1) h2
    · exact I.new id blk bk sz h (by rw [← oldβ id blk h]; exact hβ)
  · intro i oi hi hoi x hx hb
    rcases hi with hi | rfl
    · exact .inl (I.shut i oi hi hoi x hx hb)
    · rw [hj.op] at hoi
      cases hoi
      exact .inl (hdep x hx hb)
  · by_cases hd : o.dst = some t
    · have hw : d.fp.W (.t t) := by rw [Fp.W, hlo.2.2, hd]
      obtain ⟨hjk, hno⟩ := between hw hA
      obtain ⟨c, rfl⟩ : ∃ c, k = j + 1 + c := ⟨k - (j + 1), by omega⟩
      rw [tm_same c (j + 1) hnext hm (fun i h1 h2 => hno i h1 h2), lk_put, if_pos hd, hd, put_getD_same (Nat.lt_of_lt_of_le (hdst o (by simpa using Array.mem_of_getElem? hj.op) t hd) I.tsz)]
      exact hx
    · have hw : ¬ d.fp.W (.t t) := fun h => hd (by rw [Fp.W, hlo.2.2] at h; exact h)
      rw [put_getD hd]
      exact (I.tm t k m hm (agOld hw hA)).up hM.ext
  · rcases cls id blk hl with h | ⟨hr, h⟩
    · exact hW.blk id blk h
    · exact (I.bx id blk h).up hM.ext fun bk sz hβ => by
        obtain ⟨bk', sz', e, hlt, -⟩ := (I.bx id blk h).lt
        rw [hβ] at e
        cases e
        exact hM.keep bk hlt (nblk id blk bk sz h hr hβ)
  · have mixed : ∀ id id' b b' bk sz sz', hp' id = some b → rdJ n d id' = none → Live cx cf ops n0 L id' b' → β' id = some (bk, sz) → β' id' = some (bk, sz') → False := fun id id' b b' bk sz sz' h1 hr h2 h3 h4 => by
      rw [oldβ id' b' h2] at h4
      obtain ⟨bk', sz'', e, hlt, -⟩ := (I.bx id' b' h2).lt
      rw [h4] at e
      cases e
      rcases hM.new id b bk sz h1 h3 with h5 | ⟨id1, b1, sz1, h5, h6⟩
      · omega
      · exact nblk id' b' bk sz' h2 hr h4 id1 b1 sz1 h5 h6
    intro id id' b b' bk sz sz' h1 h2 h3 h4
    rcases cls id b h1 with h | ⟨hr, h⟩
    · rcases cls id' b' h2 with h' | ⟨hr', h'⟩
      · exact hW.inj id id' b b' bk sz sz' h h' h3 h4
      · exact (mixed id id' b b' bk sz sz' h hr' h' h3 h4).elim
    · rcases cls id' b' h2 with h' | ⟨hr', h'⟩
      · exact (mixed id' id b' b bk sz' sz h' hr h h4 h3).elim
      · rw [oldβ id b h] at h3
        rw [oldβ id' b' h'] at h4
        exact I.inj id id' b b' bk sz sz' h h' h3 h4
  · intro i m oi di hni hi id h1 h2
    rw [not_or] at hni
    have hr : id < n.nx ∨ d.nx ≤ id := by
      rcases Nat.lt_trichotomy i j with hij | rfl | hij
      · have hnx : nfAt cx cf ops n0 (i + 1) = some { tm := putT m.tm oi.dst di.v, hp := di.hp, nx := di.nx, cl := m.cl ++ [closure m.cl oi], fps := m.fps ++ [di.fp] } := by
          simp only [nfAt, hi.nf, hi.op, hi.step]
        obtain ⟨c, rfl⟩ : ∃ c, j = i + 1 + c := ⟨j - (i + 1), by omega⟩
        have := nfAt_mono R.pur R.sup R.fps hnx c hj.nf
        simp only at this
        omega
      · exact absurd rfl hni.2
      · obtain ⟨c, rfl⟩ : ∃ c, i = j + 1 + c := ⟨i - (j + 1), by omega⟩
        have := nfAt_mono R.pur R.sup R.fps hnext c hi.nf
        simp only at this
        omega
    rw [hM.rng id hr]
    exact I.free i m oi di hni.1 hi id h1 h2

/-! ### The region -/
theorem nodup_spec : ∀ {l : List Nat}, nodup l = true → l.Nodup
  | [], _ => List.nodup_nil
  | a :: l, h => by
    simp only [nodup, Bool.and_eq_true, Bool.not_eq_eq_eq_not, Bool.not_true] at h
    exact List.nodup_cons.2 ⟨by simpa using h.1, nodup_spec h.2⟩

variable {Q : Exit → Act → World → Prop}

theorem rg_any (H : CxOk P γ cx) (HC : CfOk P γ g cf) (R : Rg cx cf ops n0) {nxE : Nat} (hE : ∀ j n, nfAt cx cf ops n0 j = some n → n.nx ≤ nxE) (hdst : ∀ o ∈ ops.toList, ∀ d, o.dst = some d → d < nt) {ds : List Deferred}
    (hQ : ∀ (L : Nat → Prop) β a w, (∀ i, i < ops.size → L i) → RInv γ g cx cf ops n0 nxE nt ds β0 w0 L β a w → Q .normal a w) : ∀ (m : Nat) (listed : Array Bool) (β : Bm) (a : Act) (w : World), listed.size = ops.size → listed.count false ≤ m →
    RInv γ g cx cf ops n0 nxE nt ds β0 w0 (fun i => listed.getD i false = true) β a w → wpAny P .any ops Q m listed a w := by
  have fin : ∀ (listed : Array Bool) (β : Bm) (a : Act) (w : World), listed.size = ops.size → RInv γ g cx cf ops n0 nxE nt ds β0 w0 (fun i => listed.getD i false = true) β a w → Region.ready .any ops listed = [] → Q .normal a w := by
    intro listed β a w hl I hr
    refine hQ _ β a w (fun i => ?_) I
    induction i using Nat.strongRecOn with
    | _ i ih =>
      intro hi
      obtain ⟨n, o, d, hst⟩ := R.all i hi
      refine Classical.byContradiction fun hno => ?_
      have : i ∈ Region.ready .any ops listed := by
        unfold Region.ready
        rw [List.mem_filter]
        refine ⟨List.mem_range.2 hi, ?_⟩
        have h1 : listed.getD i true = false := by
          simp only [Array.getD_eq_getD_getElem?, Array.getElem?_eq_getElem (show i < listed.size by omega), Option.getD_some] at hno ⊢
          simpa using hno
        simp only [h1, Bool.not_false, Bool.true_and, hst.op, Option.map_some, Option.getD_some, Array.all_eq_true']
        intro x hx
        cases hb : Region.binds .any x with
        | false => rfl
        | true =>
          have := hst.edge x hx hb
          rw [ih x.on this (by omega)]
          rfl
      rw [hr] at this
      cases this
  intro m
  induction m with
  | zero =>
    intro listed β a w hl hc I
    have hr : Region.ready .any ops listed = [] := by
      unfold Region.ready
      rw [List.filter_eq_nil_iff]
      intro i hi hh
      simp only [Bool.and_eq_true, Bool.not_eq_eq_eq_not, Bool.not_true] at hh
      have hi := List.mem_range.1 hi
      have h1 := hh.1
      simp only [Array.getD_eq_getD_getElem?, Array.getElem?_eq_getElem (show i < listed.size by omega), Option.getD_some] at h1
      have : listed.count false ≠ 0 := by
        have : 0 < listed.count false := Array.count_pos_iff.2 (by rw [← h1]; exact Array.getElem_mem _)
        omega
      omega
    exact ⟨hr, fin listed β a w hl I hr⟩
  | succ m ih =>
    intro listed β a w hl hc I
    refine ⟨fin listed β a w hl I, fun i hi => ?_⟩
    unfold Region.ready at hi
    rw [List.mem_filter] at hi
    obtain ⟨hi, hh⟩ := hi
    have hi := List.mem_range.1 hi
    simp only [Bool.and_eq_true, Bool.not_eq_eq_eq_not, Bool.not_true] at hh
    have hil : i < listed.size := by omega
    have h1 : listed[i] = false := by
      have h1 := hh.1
      simpa only [Array.getD_eq_getD_getElem?, Array.getElem?_eq_getElem hil, Option.getD_some] using h1
    obtain ⟨n, o, d, hst⟩ := R.all i hi
    refine rinv_step H HC R hE hdst I hst (by simp [Array.getD_eq_getD_getElem?, Array.getElem?_eq_getElem hil, h1]) (fun x hx hb => ?_) fun β' a' w' I' => ih _ β' a' w' (by simpa using hl) ?_ ?_
    · have h2 := hh.2
      simp only [hst.op, Option.map_some, Option.getD_some, Array.all_eq_true'] at h2
      simpa [hb] using h2 x hx
    · have he : listed.setIfInBounds i true = listed.set i true hil := by simp [Array.setIfInBounds, hil]
      rw [he, Array.count_set]
      simp only [h1, BEq.rfl, if_true]
      have : (true == false) = false := rfl
      simp only [this, Bool.false_eq_true, if_false]
      omega
    · have : (fun k => listed.getD k false = true ∨ k = i) = (fun k => (listed.setIfInBounds i true).getD k false = true) := by
        funext k
        refine propext ?_
        simp only [Array.getD_eq_getD_getElem?, Array.getElem?_setIfInBounds]
        by_cases hk : i = k
        · subst hk
          simp [hil]
        · simp [hk, Ne.symm hk]
      rw [this] at I'
      exact I'

theorem WOk.draw {hp : Rd} (h : WOk γ g β hp w) (n : Nat) : WOk γ g β hp { w with drawn := n } :=
  ⟨g.keep w _ h.j ⟨rfl, rfl, rfl⟩ fun _ _ => rfl, h.b0, h.blk, h.inj⟩

variable {lo : Nat} {s s' : St} {m0 : Nat}

theorem regionD_pr (HC : CfPur cf) (h : regionD cx cf m0 ops s = some s') (hn : m0 ≤ s.nx) (hs : Supp s.hp s.nx) : Pr m0 s s' := by
  unfold regionD at h
  split at h
  · simp only [Option.map_eq_some_iff] at h
    obtain ⟨nE, h1, rfl⟩ := h
    have hst := runD_steps (n0 := { tm := s.tm, hp := s.hp, nx := s.nx, cl := [], fps := [] }) ops.toList 0 _ nE rfl rfl h1
    have NE := nfAt_ok HC hs rfl hst.2
    have hmono := nfAt_mono HC hs rfl (j := 0) rfl ops.size (by rw [Nat.zero_add]; exact hst.2)
    refine ⟨hmono, fun id hid => mem_logW.2 (.inl hid), fun id hid hw => ?_, fun _ => NE.sup⟩
    simp only at hw ⊢
    refine hp_same HC hs rfl ops.size 0 rfl (by rw [Nat.zero_add]; exact hst.2) fun i _ hi hwr => ?_
    obtain ⟨m, o, d, h1, h2, h3, h4⟩ := hwr
    obtain ⟨m', o', d', g1, g2, g3, g4, -⟩ := nfAt_fps rfl rfl hst.2 i (by omega)
    rw [h1] at g1
    cases g1
    rw [h2] at g2
    cases g2
    rw [h3] at g3
    cases g3
    have h4 : id ∈ d.fp.ws := h4
    have hm := nfAt_mono HC hs rfl (j := 0) rfl i (by rw [Nat.zero_add]; exact h1)
    have hl := step_lo h3
    rw [mem_ws] at h4
    rcases h4 with h4 | h4
    · exact hw (mem_logW.2 (.inr ⟨List.mem_flatMap.2 ⟨d.fp, List.mem_of_getElem? g4, h4⟩, hid⟩))
    · simp only at hm
      omega
  · cases h

/-- A region whose order is open. -/
theorem regionD_sound (H : CxOk P γ cx) (HC : CfOk P γ g cf) (hdst : ∀ o ∈ ops.toList, ∀ d, o.dst = some d → d < nt) (h : regionD cx cf m0 ops s = some s') (I : SOk γ g nt lo s β a w) (hf : Free β s.nx s'.nx)
    (hQ : ∀ β' a' w', SOk γ g nt lo s' β' a' w' → Mv s.hp.get s.nx β w s'.hp.get s'.nx β' w' → Q .normal a' w') (id : Nat) : (Code.region id ops true).wp P Q a w := by
  unfold regionD at h
  split at h
  · simp only [Option.map_eq_some_iff] at h
    obtain ⟨nE, h1, rfl⟩ := h
    obtain ⟨hall, hend⟩ := runD_steps (n0 := { tm := s.tm, hp := s.hp, nx := s.nx, cl := [], fps := [] }) ops.toList 0 _ nE rfl rfl h1
    have R : Rg cx cf ops { tm := s.tm, hp := s.hp, nx := s.nx, cl := [], fps := [] } := ⟨HC.toCfPur, I.sup, rfl, rfl, fun i hi => hall i (Nat.zero_le _) hi⟩
    have NE := nfAt_ok R.pur R.sup R.fps hend
    have hsz : ∀ j n, nfAt cx cf ops { tm := s.tm, hp := s.hp, nx := s.nx, cl := [], fps := [] } j = some n → j ≤ ops.size := fun j n hn => by
      refine Classical.byContradiction fun hgt => ?_
      obtain ⟨k, rfl⟩ : ∃ k, j = k + 1 := ⟨j - 1, by omega⟩
      have hk : ops[k]? = none := Array.getElem?_eq_none (by omega)
      simp only [nfAt, hk] at hn
      split at hn <;> simp_all
    have hE : ∀ j n, nfAt cx cf ops { tm := s.tm, hp := s.hp, nx := s.nx, cl := [], fps := [] } j = some n → n.nx ≤ nE.nx := fun j n hn => by
      have hle := hsz j n hn
      exact nfAt_mono R.pur R.sup R.fps hn (ops.size - j) (by rw [Nat.add_sub_cancel' hle]; exact hend)
    refine wp_region_any H.mixed ?_
    have W := I.wok
    refine rg_any H HC R hE hdst (ds := a.defers) (β0 := β) (w0 := w) (fun L β' a' w' hL J => ?_) ops.size _ β a _ (by simp) (by simp) ?_
    · have hA : ∀ r, Agree cx cf ops { tm := s.tm, hp := s.hp, nx := s.nx, cl := [], fps := [] } L r ops.size := fun r i hi => by
        obtain ⟨m, o, d, h1, h2, h3⟩ := hi
        have := (Array.getElem?_eq_some_iff.1 h2).1
        exact ⟨fun _ => this, fun _ => hL i this⟩
      have lv : ∀ id blk, nE.hp.get id = some blk → Live cx cf ops { tm := s.tm, hp := s.hp, nx := s.nx, cl := [], fps := [] } L id blk := fun id blk h => ⟨ops.size, nE, hend, hA _, h⟩
      have M : Mv s.hp.get s.nx β w nE.hp.get nE.nx β' w' := ⟨J.ext, J.rng, hE 0 _ rfl, J.size, J.keep, fun id blk bk sz h1 h2 => J.new id blk bk sz (lv id blk h1) h2⟩
      refine hQ β' a' w' ⟨⟨J.j, J.b0, fun id blk h => J.bx id blk (lv id blk h), fun id id' b b' bk sz sz' h1 h2 => J.inj id id' b b' bk sz sz' (lv _ _ h1) (lv _ _ h2)⟩, NE.sup, J.tsz, fun t => J.tm t _ nE hend (hA _), ?_⟩ M
      rw [J.dfe]
      exact I.df.up M.ext fun D _ hD => Mv.df W M hD
    · have hno : (fun i => (Array.replicate ops.size false).getD i false = true) = (fun _ => False) := by
        funext i
        refine propext ⟨fun h => ?_, fun h => h.elim⟩
        simp only [Array.getD_eq_getD_getElem?, Array.getElem?_replicate] at h
        split at h <;> simp at h
      rw [hno]
      have W' := W.draw (w.drawn + 1)
      have lv : ∀ id blk, Live cx cf ops { tm := s.tm, hp := s.hp, nx := s.nx, cl := [], fps := [] } (fun _ => False) id blk → s.hp.get id = some blk := by
        rintro id blk ⟨k, n, hn, hA, hb⟩
        rw [hp_same R.pur R.sup R.fps (j := 0) k rfl (by rw [Nat.zero_add]; exact hn) (fun i _ hi hw => (hA i hw).2 (by omega))] at hb
        exact hb
      exact ⟨g.keep w _ W.j ⟨rfl, rfl, rfl⟩ fun _ _ => rfl, W.b0, Ble.refl _, fun _ _ => rfl, Nat.le_refl _, fun _ _ _ => rfl, fun id blk bk sz h1 h2 => .inr ⟨id, blk, sz, lv id blk h1, h2⟩, I.size, rfl, fun _ _ h => h.elim,
        fun t k n hn hA => by
          rw [tm_same k 0 rfl (by rw [Nat.zero_add]; exact hn) (fun i _ hi hw => (hA i hw).2 (by omega))]
          exact I.tm t,
        fun id blk h => W.blk id blk (lv id blk h), fun id id' b b' bk sz sz' h1 h2 => W.inj id id' b b' bk sz sz' (lv _ _ h1) (lv _ _ h2),
        fun j n o d _ hst id h1 h2 => hf id (Nat.le_trans (nfAt_mono R.pur R.sup R.fps (j := 0) rfl j (by rw [Nat.zero_add]; exact hst.nf)) h1) (by
          have hnx : nfAt cx cf ops { tm := s.tm, hp := s.hp, nx := s.nx, cl := [], fps := [] } (j + 1) = some { tm := putT n.tm o.dst d.v, hp := d.hp, nx := d.nx, cl := n.cl ++ [closure n.cl o], fps := n.fps ++ [d.fp] } := by
            simp only [nfAt, hst.nf, hst.op, hst.step]
          have := hE (j + 1) _ hnx
          simp only at this ⊢
          omega)⟩
  · cases h
end
end Go.Proofs.YtdbbchgbgdbhbaaGreatDoor.Xe

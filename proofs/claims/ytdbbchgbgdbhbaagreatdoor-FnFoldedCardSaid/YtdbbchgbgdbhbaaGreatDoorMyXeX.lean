/- Regions whose order is open: the states along the program's order. No condition. -/
import Derived.Test.YtdbbchgbgdbhbaaGreatDoorMyXeV
set_option linter.unusedVariables false
set_option linter.unusedSimpArgs false
namespace Go.Proofs.YtdbbchgbgdbhbaaGreatDoor.Xe
open Go

/-- What may be looked at: a temporary, a name's block. -/
inductive Rs where
  | t (n : Nat)
  | h (id : Nat)

def Fp.W (f : Fp) : Rs → Prop
  | .t n => f.wt = some n
  | .h id => id ∈ f.ws

def Fp.Lk (f : Fp) : Rs → Prop
  | .t n => n ∈ f.lt
  | .h id => f.look id = true

theorem look_lt {f : Fp} {id : Nat} (h : f.look id = true) : id < f.lo := by
  unfold Fp.look at h
  split at h
  · cases h
  · rename_i hb
    rcases Nat.lt_or_ge id f.lo with h' | h'
    · exact h'
    · rw [Nat.ble_eq_true_of_le h'] at hb; cases hb

theorem wrote_of {f : Fp} {id : Nat} (h : id ∈ f.ws) : f.wrote id = true := by
  unfold Fp.ws at h
  unfold Fp.wrote
  rw [List.mem_append] at h
  rcases h with h | h
  · simp [h]
  · rw [List.mem_range'_1] at h
    have h1 : Nat.ble f.lo id = true := Nat.ble_eq_true_of_le h.1
    have h2 : Nat.ble f.hi id = false := by
      cases hq : Nat.ble f.hi id with
      | false => rfl
      | true => have := Nat.le_of_ble_eq_true hq; omega
    simp [h1, h2]

theorem clash_wl {a b : Fp} {r : Rs} (ha : a.W r) (hb : b.Lk r) : clash a b = true := by
  cases r with
  | t n =>
    have ha : a.wt = some n := ha
    have hb : n ∈ b.lt := hb
    simp [clash, hasT, ha, hb]
  | h id =>
    have hb : b.look id = true := hb
    have : a.ws.any b.touch = true := List.any_eq_true.2 ⟨id, ha, by simp [Fp.touch, hb]⟩
    simp [clash, this]

theorem clash_ww {a b : Fp} {r : Rs} (ha : a.W r) (hb : b.W r) : clash a b = true := by
  cases r with
  | t n =>
    have ha : a.wt = some n := ha
    have hb : b.wt = some n := hb
    simp [clash, ha, hb]
  | h id =>
    have : a.ws.any b.touch = true := List.any_eq_true.2 ⟨id, ha, by simp [Fp.touch, wrote_of hb]⟩
    simp [clash, this]

theorem clash_lw {a b : Fp} {r : Rs} (hlo : a.lo ≤ b.lo) (ha : a.Lk r) (hb : b.W r) : clash a b = true := by
  cases r with
  | t n =>
    have ha : n ∈ a.lt := ha
    have hb : b.wt = some n := hb
    simp [clash, hasT, ha, hb]
  | h id =>
    have ha : a.look id = true := ha
    have hb : id ∈ b.ws := hb
    have hlt := look_lt ha
    have hw : id ∈ b.w := by
      unfold Fp.ws at hb
      rw [List.mem_append] at hb
      rcases hb with h | h
      · exact h
      · rw [List.mem_range'_1] at h; omega
    have : b.w.any a.touch = true := List.any_eq_true.2 ⟨id, hw, by simp [Fp.touch, ha]⟩
    simp [clash, this]

theorem orderChk_spec {cl : Nat} {b : Fp} : ∀ {k : Nat} {l : List Fp}, orderChk cl b k l = true → ∀ (i : Nat) (f : Fp), l[i]? = some f → clash f b = true → cl.testBit (k + i) = true
  | k, [], _, i, f, h, _ => by simp at h
  | k, x :: l, h, i, f, hi, hc => by
    simp only [orderChk, Bool.and_eq_true, Bool.or_eq_true, Bool.not_eq_eq_eq_not, Bool.not_true] at h
    cases i with
    | zero =>
      simp only [List.getElem?_cons_zero, Option.some.injEq] at hi
      subst hi
      rcases h.1 with h1 | h1
      · exact h1
      · rw [hc] at h1; cases h1
    | succ i =>
      have := orderChk_spec h.2 i f (by simpa using hi) hc
      rwa [Nat.add_assoc, Nat.add_comm 1 i] at this

theorem mem_loose {cl : Nat} {id : Nat} : ∀ {i : Nat} {l : List Fp}, id ∈ loose cl i l → ∃ f ∈ l, id ∈ f.ws
  | i, [], h => by simp [loose] at h
  | i, f :: l, h => by
    simp only [loose] at h
    split at h
    · obtain ⟨f', h1, h2⟩ := mem_loose h
      exact ⟨f', List.mem_cons_of_mem _ h1, h2⟩
    · rw [List.mem_append] at h
      rcases h with h | h
      · exact ⟨f, List.mem_cons_self, h⟩
      · obtain ⟨f', h1, h2⟩ := mem_loose h
        exact ⟨f', List.mem_cons_of_mem _ h1, h2⟩

theorem takeAway_get (hp : Hp) : ∀ (l : List Nat) (id : Nat), (takeAway hp l).get id = if id ∈ l then none else hp.get id
  | [], id => by simp [takeAway]
  | i :: l, id => by
    rw [takeAway, Tr.get_set, takeAway_get hp l id]
    by_cases h : id = i
    · simp [h]
    · simp [h]

theorem putBack_get (old hp : Hp) : ∀ (l : List Nat) (id : Nat), (putBack old hp l).get id = if id ∈ l then old.get id else hp.get id
  | [], id => by simp [putBack]
  | i :: l, id => by
    rw [putBack, Tr.get_set, putBack_get old hp l id]
    by_cases h : id = i
    · simp [h]
    · simp [h]

/-! ### The states -/
section
variable {cx : Cx} {cf : CallF} {ops : Array Oper} {n0 : Nf}

/-- Behind the first j operations. -/
def nfAt (cx : Cx) (cf : CallF) (ops : Array Oper) (n0 : Nf) : Nat → Option Nf
  | 0 => some n0
  | j + 1 =>
    match nfAt cx cf ops n0 j, ops[j]? with
    | some n, some o =>
      match stepD cx cf ops (loose (closure n.cl o) 0 n.fps) n.tm n.hp n.nx o with
      | some d => some { tm := putT n.tm o.dst d.v, hp := d.hp, nx := d.nx, cl := n.cl ++ [closure n.cl o], fps := n.fps ++ [d.fp] }
      | none => none
    | _, _ => none

structure StepAt (cx : Cx) (cf : CallF) (ops : Array Oper) (n0 : Nf) (j : Nat) (n : Nf) (o : Oper) (d : Sd) : Prop where
  nf : nfAt cx cf ops n0 j = some n
  op : ops[j]? = some o
  step : stepD cx cf ops (loose (closure n.cl o) 0 n.fps) n.tm n.hp n.nx o = some d
  edge : ∀ x ∈ o.after, Region.binds .any x = true → x.on < j
  order : ∀ (i : Nat) (f : Fp), n.fps[i]? = some f → clash f d.fp = true → (closure n.cl o).testBit i = true

theorem runD_steps : ∀ (rest : List Oper) (j : Nat) (n n' : Nf), ops.toList.drop j = rest → nfAt cx cf ops n0 j = some n → runD cx cf ops rest j n = some n' →
    (∀ i, j ≤ i → i < ops.size → ∃ n o d, StepAt cx cf ops n0 i n o d) ∧ nfAt cx cf ops n0 ops.size = some n'
  | [], j, n, n', hd, hn, h => by
    simp only [runD, Option.some.injEq] at h
    subst h
    have hj : ops.size ≤ j := by
      have := congrArg List.length hd
      simp only [List.length_drop, Array.length_toList, List.length_nil] at this
      omega
    refine ⟨fun i h1 h2 => by omega, ?_⟩
    by_cases he : j = ops.size
    · subst he
      exact hn
    · exfalso
      obtain ⟨k, rfl⟩ : ∃ k, j = k + 1 := ⟨j - 1, by omega⟩
      have hk : ops[k]? = none := Array.getElem?_eq_none (by omega)
      simp only [nfAt, hk] at hn
      split at hn <;> simp_all
  | o :: rest, j, n, n', hd, hn, h => by
    have ho : ops[j]? = some o := by
      have := congrArg (·[0]?) hd
      simpa using this
    have hd' : ops.toList.drop (j + 1) = rest := by
      rw [← List.drop_drop, hd]
      rfl
    simp only [runD] at h
    split at h
    · rename_i d hs
      split at h
      · rename_i hc
        simp only [Bool.and_eq_true] at hc
        have hn' : nfAt cx cf ops n0 (j + 1) = some { tm := putT n.tm o.dst d.v, hp := d.hp, nx := d.nx, cl := n.cl ++ [closure n.cl o], fps := n.fps ++ [d.fp] } := by
          simp only [nfAt, hn, ho, hs]
        obtain ⟨h1, h2⟩ := runD_steps rest (j + 1) _ n' hd' hn' h
        refine ⟨fun i hi hi' => ?_, h2⟩
        by_cases he : i = j
        · subst he
          refine ⟨n, o, d, hn, ho, hs, fun x hx hb => ?_, fun k f hf hcl => ?_⟩
          · have := Array.all_eq_true'.1 hc.2 x hx
            simpa [hb] using this
          · have := orderChk_spec hc.1 k f hf hcl
            rwa [Nat.zero_add] at this
        · exact h1 i (by omega) hi'
      · cases h
    · cases h

/-! ### What must have run -/
theorem fold_bit (acc : List Nat) (k : Nat) : ∀ (l : List Edge) (s : Nat), (l.foldl (fun s e => if Region.binds .any e then s ||| 2 ^ e.on ||| (acc[e.on]?).getD 0 else s) s).testBit k = true →
    s.testBit k = true ∨ ∃ x ∈ l, Region.binds .any x = true ∧ (k = x.on ∨ ((acc[x.on]?).getD 0).testBit k = true)
  | [], s, h => .inl h
  | x :: l, s, h => by
    rw [List.foldl_cons] at h
    rcases fold_bit acc k l _ h with h | ⟨y, hy, h⟩
    · split at h
      · rename_i hb
        simp only [Nat.testBit_or, Bool.or_eq_true, Nat.testBit_two_pow, decide_eq_true_eq] at h
        rcases h with (h | h) | h
        · exact .inl h
        · exact .inr ⟨x, List.mem_cons_self, hb, .inl h.symm⟩
        · exact .inr ⟨x, List.mem_cons_self, hb, .inr h⟩
      · exact .inl h
    · exact .inr ⟨y, List.mem_cons_of_mem _ hy, h⟩

theorem closure_bit {acc : List Nat} {o : Oper} {k : Nat} (h : (closure acc o).testBit k = true) : ∃ x ∈ o.after, Region.binds .any x = true ∧ (k = x.on ∨ ((acc[x.on]?).getD 0).testBit k = true) := by
  unfold closure at h
  rw [← Array.foldl_toList] at h
  rcases fold_bit acc k o.after.toList 0 h with h | ⟨x, hx, h⟩
  · simp at h
  · exact ⟨x, by simpa using hx, h⟩

theorem nfAt_len : ∀ {j : Nat} {n : Nf}, n0.cl = [] → n0.fps = [] → nfAt cx cf ops n0 j = some n → n.cl.length = j ∧ n.fps.length = j
  | 0, n, h1, h2, h => by
    simp only [nfAt, Option.some.injEq] at h
    subst h
    simp [h1, h2]
  | j + 1, n, h1, h2, h => by
    simp only [nfAt] at h
    split at h
    · rename_i m o hm ho
      split at h
      · simp only [Option.some.injEq] at h
        subst h
        have := nfAt_len h1 h2 hm
        simp [this.1, this.2]
      · cases h
    · cases h

theorem nfAt_prev {j : Nat} {n : Nf} (h : nfAt cx cf ops n0 (j + 1) = some n) :
    ∃ m o d, nfAt cx cf ops n0 j = some m ∧ ops[j]? = some o ∧ stepD cx cf ops (loose (closure m.cl o) 0 m.fps) m.tm m.hp m.nx o = some d ∧ n = { tm := putT m.tm o.dst d.v, hp := d.hp, nx := d.nx, cl := m.cl ++ [closure m.cl o], fps := m.fps ++ [d.fp] } := by
  simp only [nfAt] at h
  split at h
  · rename_i m o hm ho
    split at h
    · rename_i d hs
      simp only [Option.some.injEq] at h
      exact ⟨m, o, d, hm, ho, hs, h.symm⟩
    · cases h
  · cases h

theorem nfAt_fps (e1 : n0.cl = []) (e2 : n0.fps = []) : ∀ {j : Nat} {n : Nf}, nfAt cx cf ops n0 j = some n → ∀ i, i < j →
    ∃ m o d, nfAt cx cf ops n0 i = some m ∧ ops[i]? = some o ∧ stepD cx cf ops (loose (closure m.cl o) 0 m.fps) m.tm m.hp m.nx o = some d ∧ n.fps[i]? = some d.fp ∧ n.cl[i]? = some (closure m.cl o)
  | 0, n, h, i, hi => by omega
  | j + 1, n, h, i, hi => by
    obtain ⟨m, o, d, hm, ho, hs, rfl⟩ := nfAt_prev h
    have hl := nfAt_len e1 e2 hm
    by_cases hij : i = j
    · subst hij
      exact ⟨m, o, d, hm, ho, hs, by rw [List.getElem?_append_right (by omega), hl.2]; simp, by rw [List.getElem?_append_right (by omega), hl.1]; simp⟩
    · obtain ⟨m', o', d', h1, h2, h3, h4, h5⟩ := nfAt_fps e1 e2 hm i (by omega)
      exact ⟨m', o', d', h1, h2, h3, by rw [List.getElem?_append_left (by omega)]; exact h4, by rw [List.getElem?_append_left (by omega)]; exact h5⟩

/-- What has run is shut: with an operation all that it waits for. -/
def Shut' (ops : Array Oper) (L : Nat → Prop) : Prop := ∀ i o, L i → ops[i]? = some o → ∀ x ∈ o.after, Region.binds .any x = true → L x.on

theorem closure_in (e1 : n0.cl = []) (e2 : n0.fps = []) {L : Nat → Prop} (hL : Shut' ops L)
    (hE : ∀ i o, ops[i]? = some o → ∀ x ∈ o.after, Region.binds .any x = true → x.on < i) : ∀ (j : Nat) {n : Nf} {o : Oper}, nfAt cx cf ops n0 j = some n →
    (∀ x ∈ o.after, Region.binds .any x = true → x.on < j ∧ L x.on) → ∀ k, (closure n.cl o).testBit k = true → L k := by
  intro j
  induction j using Nat.strongRecOn with
  | _ j ih =>
    intro n o hn ho k hk
    obtain ⟨x, hx, hb, h⟩ := closure_bit hk
    obtain ⟨hlt, hLx⟩ := ho x hx hb
    rcases h with rfl | h
    · exact hLx
    · obtain ⟨m, o', d', hm, ho', -, -, hcl⟩ := nfAt_fps e1 e2 hn x.on hlt
      rw [hcl] at h
      exact ih x.on hlt hm (fun y hy hb => ⟨hE x.on o' ho' y hy hb, hL x.on o' hLx ho' y hy hb⟩) k h

/-! ### A step's change -/
theorem step_lo {n : Nf} {o : Oper} {d : Sd} {lo : List Nat} (h : stepD cx cf ops lo n.tm n.hp n.nx o = some d) : d.fp.lo = n.nx ∧ d.fp.hi = d.nx ∧ d.fp.wt = o.dst := by
  unfold stepD at h
  simp only at h
  split at h
  · cases h; exact ⟨rfl, rfl, rfl⟩
  · split at h
    · cases h; exact ⟨rfl, rfl, rfl⟩
    · split at h
      · split at h <;> cases h
        exact ⟨rfl, rfl, rfl⟩
      · cases h
    · cases h
  · cases h

/-- What holds of a state along the way. -/
structure NfOk (n : Nf) : Prop where
  sup : Supp n.hp n.nx
  ws : ∀ f ∈ n.fps, ∀ id ∈ f.ws, id < n.nx
  lo : ∀ f ∈ n.fps, f.lo ≤ n.nx

theorem mem_ws {f : Fp} {id : Nat} : id ∈ f.ws ↔ id ∈ f.w ∨ (f.lo ≤ id ∧ id < f.hi) := by
  unfold Fp.ws
  rw [List.mem_append, List.mem_range'_1]
  constructor
  · rintro (h | h)
    · exact .inl h
    · exact .inr ⟨h.1, by omega⟩
  · rintro (h | h)
    · exact .inl h
    · exact .inr ⟨h.1, by omega⟩

structure SdOk (n : Nf) (d : Sd) : Prop where
  le : n.nx ≤ d.nx
  sup : Supp d.hp d.nx
  ws : ∀ id ∈ d.fp.ws, id < d.nx
  same : ∀ id, id ∉ d.fp.ws → d.hp.get id = n.hp.get id
  w : ∀ id ∈ d.fp.w, id < n.nx

theorem rdOf_none {hp : Hp} {nx : Nat} (hs : Supp hp nx) (ids : List Nat) : ∀ id, nx ≤ id → rdOf hp ids id = none := fun id h => by
  unfold rdOf
  split
  · exact hs id h
  · rfl

theorem step_ok (HC : CfPur cf) {n : Nf} {o : Oper} {d : Sd} (N : NfOk n) (h : stepD cx cf ops (loose (closure n.cl o) 0 n.fps) n.tm n.hp n.nx o = some d) : SdOk n d := by
  unfold stepD at h
  simp only at h
  split at h
  · cases h
    exact ⟨Nat.le_refl _, N.sup, fun id hid => by rw [mem_ws] at hid; simp at hid; omega, fun _ _ => rfl, fun id hid => by simp at hid⟩
  · split at h
    · rename_i v upd nx' hv
      cases h
      have hu := op_up hv
      have hrd := rdOf_none N.sup (opIds n.tm o)
      have hle := hu.le
      have hw : ∀ id, id ∈ List.filter (fun id => !Nat.ble n.nx id) (upd.map (·.1)) ↔ id ∈ upd.map (·.1) ∧ id < n.nx := fun id => by
        rw [List.mem_filter]
        constructor
        · rintro ⟨h1, h2⟩
          refine ⟨h1, ?_⟩
          rcases Nat.lt_or_ge id n.nx with h | h
          · exact h
          · rw [Nat.ble_eq_true_of_le h] at h2; cases h2
        · rintro ⟨h1, h2⟩
          refine ⟨h1, ?_⟩
          cases hq : Nat.ble n.nx id with
          | false => rfl
          | true => have := Nat.le_of_ble_eq_true hq; omega
      refine ⟨hle, N.sup.app hrd hu, fun id hid => ?_, fun id hid => ?_, fun id hid => ((hw id).1 hid).2⟩
      · rw [mem_ws] at hid
        rcases hid with hid | hid
        · have := ((hw id).1 hid).2
          simp only
          omega
        · exact hid.2
      · rw [apply_get, hu.other (fun hm => hid (mem_ws.2 ?_))]
        by_cases hlt : id < n.nx
        · exact .inl ((hw id).2 ⟨hm, hlt⟩)
        · exact .inr ⟨by simp only; omega, (hu.ids hrd hm).1⟩
    · rename_i f args hv
      split at h
      · rename_i a ha
        split at h
        · cases h
        · rename_i hlo
          cases h
          have hlo' : ∀ id ∈ a.wr, id ∉ loose (closure n.cl o) 0 n.fps := fun id h1 h2 => hlo (List.any_eq_true.2 ⟨id, h1, by simpa using h2⟩)
          have hsl : Supp (takeAway n.hp (loose (closure n.cl o) 0 n.fps)) n.nx := fun id hid => by
            rw [takeAway_get]
            split
            · rfl
            · exact N.sup id hid
          have hle := HC.le _ _ _ _ _ ha hsl
          have hsup := HC.sup _ _ _ _ _ ha hsl
          have hw : ∀ id, id ∈ List.filter (fun id => !Nat.ble n.nx id) a.wr ↔ id ∈ a.wr ∧ id < n.nx := fun id => by
            rw [List.mem_filter]
            constructor
            · rintro ⟨h1, h2⟩
              refine ⟨h1, ?_⟩
              rcases Nat.lt_or_ge id n.nx with h | h
              · exact h
              · rw [Nat.ble_eq_true_of_le h] at h2; cases h2
            · rintro ⟨h1, h2⟩
              refine ⟨h1, ?_⟩
              cases hq : Nat.ble n.nx id with
              | false => rfl
              | true => have := Nat.le_of_ble_eq_true hq; omega
          refine ⟨hle, fun id hid => ?_, fun id hid => ?_, fun id hid => ?_, fun id hid => ((hw id).1 hid).2⟩
          · simp only at hid ⊢
            rw [putBack_get]
            split
            · exact N.sup id (by omega)
            · exact hsup id hid
          · rw [mem_ws] at hid
            rcases hid with hid | hid
            · have := ((hw id).1 hid).2
              simp only
              omega
            · exact hid.2
          · simp only
            rw [putBack_get]
            split
            · rfl
            · rename_i hnl
              have hid : ¬ (id ∈ List.filter (fun id => !Nat.ble n.nx id) a.wr ∨ (n.nx ≤ id ∧ id < a.nx)) := fun h => hid (mem_ws.2 h)
              rw [not_or] at hid
              rcases Nat.lt_or_ge id n.nx with hlt | hge
              · rw [HC.hp _ _ _ _ _ ha hsl id hlt fun hm => hid.1 ((hw id).2 ⟨hm, hlt⟩), takeAway_get, if_neg hnl]
              · rw [hsup id (by omega), N.sup id hge]
      · cases h
    · cases h
  · cases h

theorem nfAt_ok (HC : CfPur cf) (hs : Supp n0.hp n0.nx) (e2 : n0.fps = []) : ∀ {j : Nat} {n : Nf}, nfAt cx cf ops n0 j = some n → NfOk n
  | 0, n, h => by
    simp only [nfAt, Option.some.injEq] at h
    subst h
    exact ⟨hs, fun f hf => by rw [e2] at hf; simp at hf, fun f hf => by rw [e2] at hf; simp at hf⟩
  | j + 1, n, h => by
    obtain ⟨m, o, d, hm, ho, hst, rfl⟩ := nfAt_prev h
    have N := nfAt_ok HC hs e2 hm
    have S := step_ok HC N hst
    have hl := step_lo hst
    have hle := S.le
    refine ⟨S.sup, fun f hf id hid => ?_, fun f hf => ?_⟩
    · rw [List.mem_append, List.mem_singleton] at hf
      rcases hf with hf | rfl
      · have := N.ws f hf id hid
        simp only
        omega
      · exact S.ws id hid
    · rw [List.mem_append, List.mem_singleton] at hf
      rcases hf with hf | rfl
      · have := N.lo f hf
        simp only
        omega
      · rw [hl.1]; exact S.le

theorem nfAt_mono (HC : CfPur cf) (hs : Supp n0.hp n0.nx) (e2 : n0.fps = []) {j : Nat} {n : Nf} (hn : nfAt cx cf ops n0 j = some n) : ∀ (c : Nat) {m : Nf}, nfAt cx cf ops n0 (j + c) = some m → n.nx ≤ m.nx
  | 0, m, h => by
    rw [Nat.add_zero, hn] at h
    cases h
    exact Nat.le_refl _
  | c + 1, m, h => by
    obtain ⟨m', o, d, hm, ho, hst, rfl⟩ := nfAt_prev (j := j + c) h
    exact Nat.le_trans (nfAt_mono HC hs e2 hn c hm) (step_ok HC (nfAt_ok HC hs e2 hm) hst).le

/-! ### Who writes what -/
def Wr (cx : Cx) (cf : CallF) (ops : Array Oper) (n0 : Nf) (r : Rs) (i : Nat) : Prop :=
  ∃ m o d, nfAt cx cf ops n0 i = some m ∧ ops[i]? = some o ∧ stepD cx cf ops (loose (closure m.cl o) 0 m.fps) m.tm m.hp m.nx o = some d ∧ d.fp.W r

theorem tm_same {t : Nat} : ∀ (c j : Nat) {n m : Nf}, nfAt cx cf ops n0 j = some n → nfAt cx cf ops n0 (j + c) = some m → (∀ i, j ≤ i → i < j + c → ¬ Wr cx cf ops n0 (.t t) i) → lkT m.tm t = lkT n.tm t
  | 0, j, n, m, hn, hm, _ => by
    rw [Nat.add_zero, hn] at hm
    cases hm
    rfl
  | c + 1, j, n, m, hn, hm, hw => by
    obtain ⟨m', o, d, h1, h2, h3, rfl⟩ := nfAt_prev (j := j + c) hm
    rw [lk_put, if_neg, tm_same c j hn h1 fun i hi hi' => hw i hi (by omega)]
    intro hd
    exact hw (j + c) (by omega) (by omega) ⟨m', o, d, h1, h2, h3, by rw [Fp.W, (step_lo h3).2.2, hd]⟩

theorem hp_same (HC : CfPur cf) (hs : Supp n0.hp n0.nx) (e2 : n0.fps = []) {id : Nat} : ∀ (c j : Nat) {n m : Nf}, nfAt cx cf ops n0 j = some n → nfAt cx cf ops n0 (j + c) = some m → (∀ i, j ≤ i → i < j + c → ¬ Wr cx cf ops n0 (.h id) i) → m.hp.get id = n.hp.get id
  | 0, j, n, m, hn, hm, _ => by
    rw [Nat.add_zero, hn] at hm
    cases hm
    rfl
  | c + 1, j, n, m, hn, hm, hw => by
    obtain ⟨m', o, d, h1, h2, h3, rfl⟩ := nfAt_prev (j := j + c) hm
    have S := step_ok HC (nfAt_ok HC hs e2 h1) h3
    simp only
    rw [S.same id fun hid => hw (j + c) (by omega) (by omega) ⟨m', o, d, h1, h2, h3, hid⟩, hp_same HC hs e2 c j hn h1 fun i hi hi' => hw i hi (by omega)]

/-- What has run of those that write a thing is just what lies below k. -/
def Agree (cx : Cx) (cf : CallF) (ops : Array Oper) (n0 : Nf) (L : Nat → Prop) (r : Rs) (k : Nat) : Prop := ∀ i, Wr cx cf ops n0 r i → (L i ↔ i < k)

theorem hp_agree (HC : CfPur cf) (hs : Supp n0.hp n0.nx) (e2 : n0.fps = []) {L : Nat → Prop} {id k k' : Nat} {n n' : Nf} (h : Agree cx cf ops n0 L (.h id) k) (h' : Agree cx cf ops n0 L (.h id) k')
    (hn : nfAt cx cf ops n0 k = some n) (hn' : nfAt cx cf ops n0 k' = some n') : n.hp.get id = n'.hp.get id := by
  rcases Nat.le_total k k' with hk | hk
  · obtain ⟨c, rfl⟩ : ∃ c, k' = k + c := ⟨k' - k, by omega⟩
    exact (hp_same HC hs e2 c k hn hn' fun i h1 h2 hw => by
      have a := h i hw
      have b := h' i hw
      have : i < k := a.1 (b.2 h2)
      omega).symm
  · obtain ⟨c, rfl⟩ : ∃ c, k = k' + c := ⟨k - k', by omega⟩
    exact hp_same HC hs e2 c k' hn' hn fun i h1 h2 hw => by
      have a := h i hw
      have b := h' i hw
      have : i < k' := b.1 (a.2 h2)
      omega

/-- What is known of a region. -/
structure Rg (cx : Cx) (cf : CallF) (ops : Array Oper) (n0 : Nf) : Prop where
  pur : CfPur cf
  sup : Supp n0.hp n0.nx
  cl : n0.cl = []
  fps : n0.fps = []
  all : ∀ i, i < ops.size → ∃ n o d, StepAt cx cf ops n0 i n o d

theorem Rg.edge (R : Rg cx cf ops n0) {i : Nat} {o : Oper} (ho : ops[i]? = some o) : ∀ x ∈ o.after, Region.binds .any x = true → x.on < i := fun x hx hb => by
  obtain ⟨n', o', d', h⟩ := R.all i (Array.getElem?_eq_some_iff.1 ho).1
  have := h.op
  rw [ho] at this
  cases this
  exact h.edge x hx hb

theorem Rg.at (R : Rg cx cf ops n0) {i : Nat} {m : Nf} {o : Oper} {d : Sd} (hm : nfAt cx cf ops n0 i = some m) (ho : ops[i]? = some o) (hs : stepD cx cf ops (loose (closure m.cl o) 0 m.fps) m.tm m.hp m.nx o = some d) : StepAt cx cf ops n0 i m o d := by
  obtain ⟨m', o', d', h⟩ := R.all i (Array.getElem?_eq_some_iff.1 ho).1
  have g1 := h.nf
  rw [hm] at g1
  cases g1
  have g2 := h.op
  rw [ho] at g2
  cases g2
  have g3 := h.step
  rw [hs] at g3
  cases g3
  exact h

/-- An operation that may come up now: of all that it looks at or writes the state is the one ahead of it. -/
theorem Rg.agree (R : Rg cx cf ops n0) {L : Nat → Prop} (hL : Shut' ops L) {j : Nat} {n : Nf} {o : Oper} {d : Sd} (hj : StepAt cx cf ops n0 j n o d) (hnot : ¬ L j) (hdep : ∀ x ∈ o.after, Region.binds .any x = true → L x.on)
    {r : Rs} (hr : d.fp.Lk r ∨ d.fp.W r) : Agree cx cf ops n0 L r j := by
  have hE : ∀ i o, ops[i]? = some o → ∀ x ∈ o.after, Region.binds .any x = true → x.on < i := fun i o ho => R.edge ho
  rintro i ⟨m, oi, di, hm, hoi, hsi, hw⟩
  rcases Nat.lt_trichotomy i j with hij | rfl | hij
  · refine ⟨fun _ => hij, fun _ => ?_⟩
    obtain ⟨m', o', d', h1, h2, h3, h4, -⟩ := nfAt_fps R.cl R.fps hj.nf i hij
    rw [hm] at h1
    cases h1
    rw [hoi] at h2
    cases h2
    rw [hsi] at h3
    cases h3
    refine closure_in R.cl R.fps hL hE j hj.nf (fun x hx hb => ⟨hj.edge x hx hb, hdep x hx hb⟩) i (hj.order i _ h4 ?_)
    rcases hr with hr | hr
    · exact clash_wl hw hr
    · exact clash_ww hw hr
  · exact ⟨fun h => absurd h hnot, fun h => absurd h (Nat.lt_irrefl _)⟩
  · refine ⟨fun hLi => ?_, fun h => absurd h (by omega)⟩
    exfalso
    have hi := R.at hm hoi hsi
    obtain ⟨mj, oj, dj, g1, g2, g3, g4, -⟩ := nfAt_fps R.cl R.fps hi.nf j hij
    rw [hj.nf] at g1
    cases g1
    rw [hj.op] at g2
    cases g2
    rw [hj.step] at g3
    cases g3
    refine hnot (closure_in R.cl R.fps hL hE i hi.nf (fun x hx hb => ⟨hi.edge x hx hb, hL i oi hLi hoi x hx hb⟩) j (hi.order j _ g4 ?_))
    rcases hr with hr | hr
    · refine clash_lw ?_ hr hw
      rw [(step_lo hsi).1]
      exact (nfAt_ok R.pur R.sup R.fps hm).lo _ (List.mem_of_getElem? g4)
    · exact clash_ww hr hw

/-- A name that holds a block now. -/
def Live (cx : Cx) (cf : CallF) (ops : Array Oper) (n0 : Nf) (L : Nat → Prop) (id : Nat) (blk : Blk) : Prop := ∃ k n, nfAt cx cf ops n0 k = some n ∧ Agree cx cf ops n0 L (.h id) k ∧ n.hp.get id = some blk
end
end Go.Proofs.YtdbbchgbgdbhbaaGreatDoor.Xe

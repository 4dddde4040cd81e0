/- Regions that run in the program's order. No condition. -/
import Derived.Test.YtdbbchgbgdbhbaaGreatDoorMyXeU
set_option linter.unusedVariables false
set_option linter.unusedSimpArgs false
namespace Go.Proofs.YtdbbchgbgdbhbaaGreatDoor.Xe
open Go

/-- No name from here on is taken. -/
def Supp (hp : Hp) (nx : Nat) : Prop := ∀ id, nx ≤ id → hp.get id = none

/-- What a call changes. -/
structure CfPur (cf : CallF) : Prop where
  le : ∀ f args hp nx ans, cf f args hp nx = some ans → Supp hp nx → nx ≤ ans.nx
  hp : ∀ f args hp nx ans, cf f args hp nx = some ans → Supp hp nx → ∀ id, id < nx → id ∉ ans.wr → ans.hp.get id = hp.get id
  sup : ∀ f args hp nx ans, cf f args hp nx = some ans → Supp hp nx → Supp ans.hp ans.nx

/-- What a call comes to. -/
structure CfOk (P : Program) (γ : Gs) (g : Gh) (cf : CallF) : Prop extends CfPur cf where
  fn : ∀ f args hp nx ans, cf f args hp nx = some ans → ∃ fn, P.funcs[f]? = some fn ∧ fn.body.isSome = true
  calls : ∀ f args hp nx ans, cf f args hp nx = some ans → ∀ β w xs, WOk γ g β hp.get w → Supp hp nx → Free β nx ans.nx → VL γ β args xs →
    Calls P f xs.toArray w (fun e w' => ∃ x β', e = .returned x ∧ WOk γ g β' ans.hp.get w' ∧ Mv hp.get nx β w ans.hp.get ans.nx β' w' ∧ VV γ β' ans.v x)

/-! ### What an operation changes -/
section
variable {cx : Cx} {rd : Rd} {nx nx' : Nat} {tm : List (Nat × V)} {o : Oper} {v : V} {upd : Upd}

/-- Nothing, a new block, a block written, a block under a new name. -/
def UpOk (rd : Rd) (nx : Nat) (upd : Upd) (nx' : Nat) : Prop :=
  (upd = [] ∧ nx' = nx) ∨ (∃ b, upd = [(nx, some b)] ∧ nx' = nx + 1) ∨ (∃ id b, upd = [(id, some b)] ∧ nx' = nx ∧ rd id ≠ none) ∨ (∃ id b, upd = [(nx, some b), (id, none)] ∧ nx' = nx + 1 ∧ rd id ≠ none)

theorem app_up {e : TypeId} {x y : C} (h : appV cx rd nx e x y = some (.val v upd nx')) : UpOk rd nx upd nx' := by
  unfold appV at h
  simp only [Option.bind_eq_some_iff] at h
  obtain ⟨ie, hie, ⟨l, m, wd⟩, hr, h⟩ := h
  simp only at h
  split at h
  · split at h <;> cases h
    · exact .inl ⟨rfl, rfl⟩
    · exact .inl ⟨rfl, rfl⟩
  · split at h
    · split at h
      · split at h <;> cases h
        exact .inr (.inl ⟨_, rfl, rfl⟩)
      · simp only [Option.bind_eq_some_iff] at h
        obtain ⟨blk, hb, h⟩ := h
        split at h <;> cases h
        exact .inr (.inr (.inr ⟨_, _, rfl, rfl, by rw [hb]; simp⟩))
      · cases h
    · cases h

theorem blt_up {b : Builtin} {args : List V} {ts : List TypeId} (h : bltV cx rd nx b args ts = some (.val v upd nx')) : UpOk rd nx upd nx' := by
  unfold bltV at h
  split at h
  · simp only [Option.bind_eq_some_iff, Option.map_eq_some_iff] at h
    obtain ⟨i, hi, e, he, h⟩ := h
    cases h
    exact .inl ⟨rfl, rfl⟩
  · simp only [Option.map_eq_some_iff] at h
    obtain ⟨i, hi, h⟩ := h
    cases h
    exact .inl ⟨rfl, rfl⟩
  · simp only [Option.bind_eq_some_iff] at h
    obtain ⟨e, he, i, hi, h⟩ := h
    split at h
    · unfold appZ at h
      simp only [Option.bind_eq_some_iff] at h
      obtain ⟨ie, hie, h⟩ := h
      split at h <;> cases h
      exact .inr (.inl ⟨_, rfl, rfl⟩)
    · cases h
  · split at h
    · simp only [Option.bind_eq_some_iff] at h
      obtain ⟨e, he, h⟩ := h
      exact app_up h
    · cases h
  · split at h <;> cases h
    exact .inl ⟨rfl, rfl⟩
  · cases h

theorem op_up (h : evalO cx tm rd nx o = some (.val v upd nx')) : UpOk rd nx upd nx' := by
  have h := evalO_val h
  cases ho : o.op with
  | move x => simp only [evalOp, ho] at h; cases h; exact .inl ⟨rfl, rfl⟩
  | assign x => simp only [evalOp, ho] at h; cases h; exact .inl ⟨rfl, rfl⟩
  | pick c x y => simp only [evalOp, ho] at h; split at h <;> cases h <;> exact .inl ⟨rfl, rfl⟩
  | alloc t =>
    simp only [evalOp, ho, Option.map_eq_some_iff] at h
    obtain ⟨i, hi, h⟩ := h
    cases h
    exact .inr (.inl ⟨_, rfl, rfl⟩)
  | box t x =>
    simp only [evalOp, ho, Option.bind_eq_some_iff] at h
    obtain ⟨i, hi, l, hl, h⟩ := h
    split at h <;> cases h
    exact .inr (.inl ⟨_, rfl, rfl⟩)
  | build t ps =>
    simp only [evalOp, ho, Option.bind_eq_some_iff] at h
    obtain ⟨i, hi, h⟩ := h
    split at h
    · simp only [Option.map_eq_some_iff] at h
      obtain ⟨ps, hps, h⟩ := h
      cases h
      exact .inl ⟨rfl, rfl⟩
    · cases h
  | buildSlice t n ps =>
    simp only [evalOp, ho, Option.bind_eq_some_iff] at h
    obtain ⟨i, hi, h⟩ := h
    split at h
    · simp only [Option.bind_eq_some_iff] at h
      obtain ⟨ie, hie, h⟩ := h
      split at h
      · simp only [Option.map_eq_some_iff] at h
        obtain ⟨ls, hls, h⟩ := h
        cases h
        exact .inr (.inl ⟨_, rfl, rfl⟩)
      · cases h
    · cases h
  | load t x =>
    simp only [evalOp, ho, Option.bind_eq_some_iff] at h
    obtain ⟨i, hi, h⟩ := h
    split at h
    · simp only [Option.bind_eq_some_iff, Option.map_eq_some_iff] at h
      obtain ⟨b, hb, l, hl, q, hq, h⟩ := h
      cases h
      exact .inl ⟨rfl, rfl⟩
    · cases h
  | store t x y =>
    simp only [evalOp, ho, Option.bind_eq_some_iff] at h
    obtain ⟨i, hi, h⟩ := h
    split at h
    · simp only [Option.bind_eq_some_iff] at h
      obtain ⟨b, hb, l, hl, h⟩ := h
      split at h <;> cases h
      exact .inr (.inr (.inl ⟨_, _, rfl, rfl, by rw [hb]; simp⟩))
    · cases h
  | nilCheck x => simp only [evalOp, ho] at h; split at h <;> cases h; exact .inl ⟨rfl, rfl⟩
  | binOp op t x y t' =>
    simp only [evalOp, ho] at h
    split at h
    · simp only [Option.map_eq_some_iff] at h
      obtain ⟨r, hr, h⟩ := h
      cases h
      exact .inl ⟨rfl, rfl⟩
    · cases h
  | unOp u t x =>
    cases u with
    | not => simp only [evalOp, ho] at h; split at h <;> cases h; exact .inl ⟨rfl, rfl⟩
    | _ => simp [evalOp, ho] at h
  | convert t t' x =>
    simp only [evalOp, ho] at h
    split at h
    · split at h <;> cases h
      exact .inl ⟨rfl, rfl⟩
    · cases h
  | makeFunc f first caps =>
    cases f with
    | func f =>
      simp only [evalOp, ho] at h
      split at h
      · simp only [Option.map_eq_some_iff] at h
        obtain ⟨r, hr, h⟩ := h
        cases h
        exact .inl ⟨rfl, rfl⟩
      · cases h
    | _ => simp [evalOp, ho] at h
  | slice t x lo hi mx =>
    cases lo <;> cases hi <;> cases mx <;> simp only [evalOp, ho, reduceCtorEq] at h
    simp only [Option.bind_eq_some_iff] at h
    obtain ⟨e, he, ie, hie, h⟩ := h
    split at h
    · simp only [Option.map_eq_some_iff] at h
      obtain ⟨r, hr, h⟩ := h
      cases h
      exact .inl ⟨rfl, rfl⟩
    · simp only [Option.map_eq_some_iff] at h
      obtain ⟨r, hr, h⟩ := h
      cases h
      exact .inl ⟨rfl, rfl⟩
    · cases h
  | fieldAddr t x f =>
    simp only [evalOp, ho, Option.bind_eq_some_iff] at h
    obtain ⟨i, hi, h⟩ := h
    split at h
    · simp only [Option.bind_eq_some_iff, Option.map_eq_some_iff] at h
      obtain ⟨r, hr, q, hq, h⟩ := h
      cases h
      exact .inl ⟨rfl, rfl⟩
    · cases h
  | field t x f =>
    simp only [evalOp, ho, Option.bind_eq_some_iff] at h
    obtain ⟨i, hi, h⟩ := h
    split at h
    · simp only [Option.bind_eq_some_iff, Option.map_eq_some_iff] at h
      obtain ⟨r, hr, q, hq, c, hc, z, hz, h⟩ := h
      cases h
      exact .inl ⟨rfl, rfl⟩
    · cases h
  | indexAddr t x i =>
    simp only [evalOp, ho, Option.bind_eq_some_iff] at h
    obtain ⟨e, he, ie, hie, h⟩ := h
    split at h
    · split at h <;> cases h
      exact .inl ⟨rfl, rfl⟩
    · cases h
  | index t x i =>
    simp only [evalOp, ho, Option.bind_eq_some_iff] at h
    obtain ⟨e, he, h⟩ := h
    split at h
    · split at h
      · simp only [Option.map_eq_some_iff] at h
        obtain ⟨r, hr, h⟩ := h
        cases h
        exact .inl ⟨rfl, rfl⟩
      · cases h
    · cases h
  | extract x j =>
    simp only [evalOp, ho] at h
    split at h
    · simp only [Option.map_eq_some_iff] at h
      obtain ⟨r, hr, h⟩ := h
      cases h
      exact .inl ⟨rfl, rfl⟩
    · cases h
  | call c =>
    cases hc : c.callee with
    | builtin b =>
      simp only [evalOp, ho, callV, hc] at h
      exact blt_up h
    | invoke r m => simp [evalOp, ho, callV, hc] at h
    | value f =>
      simp only [evalOp, ho, callV, hc] at h
      split at h <;> cases h
  | defer c =>
    simp only [evalOp, ho] at h
    split at h
    · split at h <;> cases h
    · cases h
  | _ => simp [evalOp, ho] at h

theorem UpOk.le (h : UpOk rd nx upd nx') : nx ≤ nx' := by
  rcases h with ⟨-, h⟩ | ⟨b, -, h⟩ | ⟨id, b, -, h, -⟩ | ⟨id, b, -, h, -⟩ <;> omega

theorem UpOk.other (h : UpOk rd nx upd nx') {id : Nat} (hid : id ∉ upd.map (·.1)) (rd' : Rd) : upF rd' upd id = rd' id := by
  induction upd with
  | nil => rfl
  | cons p r ih => 
    have gen : ∀ (u : Upd), id ∉ u.map (·.1) → upF rd' u id = rd' id := by
      intro u
      induction u with
      | nil => intro _; rfl
      | cons p r ih =>
        intro hid
        simp only [List.map_cons, List.mem_cons, not_or] at hid
        obtain ⟨i, b⟩ := p
        simp only [upF]
        rw [if_neg hid.1, ih hid.2]
    exact gen _ hid

/-- Names that are written are old ones that are known, or new. -/
theorem UpOk.ids (h : UpOk rd nx upd nx') (hs : ∀ id, nx ≤ id → rd id = none) {id : Nat} (hid : id ∈ upd.map (·.1)) : id < nx' ∧ (nx ≤ id → id = nx ∧ nx' = nx + 1) := by
  have key : ∀ j, rd j ≠ none → j < nx := fun j hj => by
    rcases Nat.lt_or_ge j nx with h | h
    · exact h
    · exact absurd (hs j h) hj
  rcases h with ⟨rfl, h⟩ | ⟨b, rfl, h⟩ | ⟨j, b, rfl, h, hj⟩ | ⟨j, b, rfl, h, hj⟩
  · simp at hid
  · simp at hid; omega
  · simp at hid
    have := key j hj
    omega
  · simp at hid
    have := key j hj
    omega

/-- A new name is written. -/
theorem UpOk.new (h : UpOk rd nx upd nx') {id : Nat} (h1 : nx ≤ id) (h2 : id < nx') : id ∈ upd.map (·.1) := by
  rcases h with ⟨rfl, h⟩ | ⟨b, rfl, h⟩ | ⟨j, b, rfl, h, hj⟩ | ⟨j, b, rfl, h, hj⟩
  · omega
  · simp; omega
  · omega
  · simp; omega

theorem upF_same {rd rd' : Rd} : ∀ {u : Upd} {id : Nat}, id ∈ u.map (·.1) → upF rd u id = upF rd' u id
  | [], _, h => by simp at h
  | (i, b) :: r, id, h => by
    simp only [upF]
    split
    · rfl
    · rename_i hne
      simp only [List.map_cons, List.mem_cons] at h
      exact upF_same (h.resolve_left hne)
end

theorem mem_logW {n0 : Nat} {id : Nat} : ∀ {l wr : List Nat}, id ∈ logW n0 l wr ↔ id ∈ wr ∨ (id ∈ l ∧ id < n0)
  | [], wr => by simp [logW]
  | i :: l, wr => by
    unfold logW
    split
    · rename_i h
      have h := Nat.le_of_ble_eq_true h
      rw [mem_logW, List.mem_cons]
      constructor
      · rintro (h | h)
        · exact .inl h
        · exact .inr ⟨.inr h.1, h.2⟩
      · rintro (h' | ⟨rfl | h', h2⟩)
        · exact .inl h'
        · omega
        · exact .inr ⟨h', h2⟩
    · rename_i h
      have h : i < n0 := by
        rcases Nat.lt_or_ge i n0 with h' | h'
        · exact h'
        · rw [Nat.ble_eq_true_of_le h'] at h; cases h
      rw [mem_logW, List.mem_cons]
      split
      · rename_i hc
        have hc : i ∈ wr := by simpa using hc
        constructor
        · rintro (h | h)
          · exact .inl h
          · exact .inr ⟨.inr h.1, h.2⟩
        · rintro (h' | ⟨rfl | h', h2⟩)
          · exact .inl h'
          · exact .inl hc
          · exact .inr ⟨h', h2⟩
      · rw [List.mem_cons]
        constructor
        · rintro ((rfl | h') | h')
          · exact .inr ⟨.inl rfl, h⟩
          · exact .inl h'
          · exact .inr ⟨.inr h'.1, h'.2⟩
        · rintro (h' | ⟨rfl | h', h2⟩)
          · exact .inl (.inr h')
          · exact .inl (.inl rfl)
          · exact .inr ⟨h', h2⟩

/-- What a run changes. -/
structure Pr (n0 : Nat) (s s' : St) : Prop where
  le : s.nx ≤ s'.nx
  wr : ∀ id, id ∈ s.wr → id ∈ s'.wr
  hp : ∀ id, id < n0 → id ∉ s'.wr → s'.hp.get id = s.hp.get id
  sup : Supp s.hp s.nx → Supp s'.hp s'.nx

theorem Pr.refl (n0 : Nat) (s : St) : Pr n0 s s := ⟨Nat.le_refl _, fun _ h => h, fun _ _ _ => rfl, fun h => h⟩
theorem Pr.trans {n0 : Nat} {s s' s'' : St} (h : Pr n0 s s') (h' : Pr n0 s' s'') : Pr n0 s s'' :=
  ⟨Nat.le_trans h.le h'.le, fun id hid => h'.wr id (h.wr id hid), fun id hid hw => by rw [h'.hp id hid hw, h.hp id hid fun hc => hw (h'.wr id hc)], fun hs => h'.sup (h.sup hs)⟩

section
variable {P : Program} {γ : Gs} {cx : Cx} {g : Gh} {cf : CallF} {n0 : Nat} {ops : Array Oper}

theorem Supp.app {hp : Hp} {nx nx' : Nat} {upd : Upd} {rd : Rd} (hs : Supp hp nx) (hrd : ∀ id, nx ≤ id → rd id = none) (h : UpOk rd nx upd nx') : Supp (apply hp upd) nx' := fun id hid => by
  rw [apply_get]
  have := h.le
  rw [h.other (fun hm => by have := (h.ids hrd hm).1; omega)]
  exact hs id (by omega)

theorem runOps_pr (HC : CfPur cf) : ∀ (l : List Oper) (s s' : St), runOps cx cf n0 ops l s = some s' → n0 ≤ s.nx → Supp s.hp s.nx → Pr n0 s s'
  | [], s, s', h, _, _ => by
    simp only [runOps, Option.some.injEq] at h
    subst h
    exact Pr.refl _ _
  | o :: l, s, s', h, hn, hs => by
    simp only [runOps] at h
    split at h
    · have q := runOps_pr HC l _ s' h hn hs; exact ⟨q.le, q.wr, q.hp, q.sup⟩
    · split at h
      · rename_i v nx hv
        have hu := op_up hv
        have hle := hu.le
        refine Pr.trans (s' := { s with tm := putT s.tm o.dst v, nx }) ⟨hle, fun _ h => h, fun _ _ _ => rfl, fun hs id hid => hs id (by simp only at hid; omega)⟩ (runOps_pr HC l _ s' h (by simp only; omega) fun id hid => hs id (by simp only at hid; omega))
      · rename_i v upd nx _ hv
        have hu := op_up hv
        have hle := hu.le
        have hsup : Supp (apply s.hp upd) nx := hs.app (rd := s.hp.get) hs hu
        refine Pr.trans (s' := { s with tm := putT s.tm o.dst v, hp := apply s.hp upd, nx, wr := logW n0 (upd.map (·.1)) s.wr }) ⟨hle, fun id hid => mem_logW.2 (.inl hid), fun id hid hw => ?_, fun _ => hsup⟩ (runOps_pr HC l _ s' h (by simp only; omega) hsup)
        simp only at hw ⊢
        rw [apply_get, hu.other (fun hm => hw (mem_logW.2 (.inr ⟨hm, hid⟩)))]
      · rename_i f args hv
        split at h
        · rename_i a ha
          have hle := HC.le _ _ _ _ _ ha hs
          have hsup := HC.sup _ _ _ _ _ ha hs
          refine Pr.trans (s' := { s with tm := putT s.tm o.dst a.v, hp := a.hp, nx := a.nx, wr := logW n0 a.wr s.wr }) ⟨hle, fun id hid => mem_logW.2 (.inl hid), fun id hid hw => ?_, fun _ => hsup⟩ (runOps_pr HC l _ s' h (by simp only; omega) hsup)
          simp only at hw ⊢
          exact HC.hp _ _ _ _ _ ha hs id (by omega) fun hm => hw (mem_logW.2 (.inr ⟨hm, hid⟩))
        · cases h
      · have q := runOps_pr HC l _ s' h hn hs; exact ⟨q.le, q.wr, q.hp, q.sup⟩
      · cases h
    · cases h

/-! ### Deferred calls -/
def marks (ds : List Deferred) : List Nat := ds.filterMap fun d => match d.target with | .collected D => some D | _ => none

def DfOk (γ : Gs) (β : Bm) (lo : Nat) (w : World) : List (Option (FuncId × List V)) → List Deferred → Prop
  | [], [] => True
  | some (f, args) :: r, d :: ds => (∃ xs caps : Array Value, d = { target := .fn (.func f) caps, args := xs } ∧ VL γ β args (xs ++ caps).toList) ∧ DfOk γ β lo w r ds
  | none :: r, d :: ds => (∃ D, d.target = .collected D ∧ lo ≤ D ∧ w.heap[D]? = some (.deferred (some [])) ∧ D ∉ marks ds) ∧ DfOk γ β lo w r ds
  | _, _ => False

theorem DfOk.up {β β' : Bm} {lo : Nat} {w w' : World} (hb : Ble β β') : ∀ {l : List (Option (FuncId × List V))} {ds : List Deferred}, (∀ D ∈ marks ds, w.heap[D]? = some (.deferred (some [])) → w'.heap[D]? = some (.deferred (some []))) → DfOk γ β lo w l ds → DfOk γ β' lo w' l ds
  | [], [], _, _ => trivial
  | [], _ :: _, _, h => h.elim
  | some _ :: _, [], _, h => h.elim
  | none :: _, [], _, h => h.elim
  | some (f, args) :: r, d :: ds, hD, h => by
    obtain ⟨⟨xs, caps, h1, h2⟩, h3⟩ := h
    refine ⟨⟨xs, caps, h1, h2.up hb⟩, h3.up hb fun D hm => hD D ?_⟩
    unfold marks at hm ⊢
    rw [List.filterMap_cons]
    split
    · exact hm
    · exact List.mem_cons_of_mem _ hm
  | none :: r, d :: ds, hD, h => by
    obtain ⟨⟨D, h1, h2, h3, h4⟩, h5⟩ := h
    have hm0 : marks (d :: ds) = D :: marks ds := by
      unfold marks
      rw [List.filterMap_cons, h1]
    refine ⟨⟨D, h1, h2, hD D (by rw [hm0]; exact List.mem_cons_self) h3, h4⟩, h5.up hb fun D' hm => hD D' (by rw [hm0]; exact List.mem_cons_of_mem _ hm)⟩

theorem Mv.df {β β' : Bm} {hp hp' : Rd} {nx nx' : Nat} {w w' : World} (W : WOk γ g β hp w) (M : Mv hp nx β w hp' nx' β' w') {D : Nat} {x : Option (List Deferred)} (h : w.heap[D]? = some (.deferred x)) : w'.heap[D]? = some (.deferred x) := by
  rw [M.keep D (Array.getElem?_eq_some_iff.1 h).1 fun id blk sz hid hβ => ?_, h]
  obtain ⟨bk, sz', cells, h1, -, h3, -⟩ := W.blk id blk hid
  rw [hβ] at h1
  cases h1
  rw [h] at h3
  cases h3

/-! ### States -/
theorem put_getD {a : Act} {dst : Option Tmp} {v : Value} {t : Nat} (h : dst ≠ some t) : (a.put dst v).tmps.getD t undef = a.tmps.getD t undef := by
  cases dst with
  | none => rfl
  | some d =>
    have hd : d ≠ t := fun e => h (by rw [e])
    simp [Act.put, Array.getD_eq_getD_getElem?, Array.getElem?_setIfInBounds, hd]

theorem put_getD_same {a : Act} {d : Nat} {v : Value} (h : d < a.tmps.size) : (a.put (some d) v).tmps.getD d undef = v := by
  simp [Act.put, Array.getD_eq_getD_getElem?, Array.getElem?_setIfInBounds, h]

theorem put_size {a : Act} {dst : Option Tmp} {v : Value} : (a.put dst v).tmps.size = a.tmps.size := by
  cases dst <;> simp [Act.put]

theorem put_df {a : Act} {dst : Option Tmp} {v : Value} : (a.put dst v).defers = a.defers := by
  cases dst <;> rfl

theorem lk_put (tm : List (Nat × V)) (dst : Option Tmp) (v : V) (t : Nat) : lkT (putT tm dst v) t = if dst = some t then v else lkT tm t := by
  cases dst with
  | none => simp [putT]
  | some d =>
    simp only [putT, lkT, Option.some.injEq]
    cases h : Nat.beq d t with
    | true => simp [Nat.eq_of_beq_eq_true h]
    | false => simp [Nat.ne_of_beq_eq_false h]

structure SOk (γ : Gs) (g : Gh) (nt lo : Nat) (s : St) (β : Bm) (a : Act) (w : World) : Prop where
  wok : WOk γ g β s.hp.get w
  sup : Supp s.hp s.nx
  size : nt ≤ a.tmps.size
  tm : ∀ t, VV γ β (lkT s.tm t) (a.tmps.getD t undef)
  df : DfOk γ β lo w s.df a.defers

variable {nt lo : Nat} {s s' : St} {β β' : Bm} {a : Act} {w w' : World} {o : Oper} {v : V}

theorem tm_put {tm : List (Nat × V)} (hle : Ble β β') {t : Nat} (htm : o.dst ≠ some t → VV γ β (lkT tm t) (a.tmps.getD t undef)) (hd : ∀ d, o.dst = some d → d < a.tmps.size) {x : Value} (hx : VV γ β' v x) :
    VV γ β' (lkT (putT tm o.dst v) t) ((a.put o.dst x).tmps.getD t undef) := by
  rw [lk_put]
  split
  · rename_i h
    rw [h, put_getD_same (hd t h)]
    exact hx
  · rename_i h
    rw [put_getD h]
    exact (htm h).up hle

theorem SOk.step (I : SOk γ g nt lo s β a w) (hd : ∀ d, o.dst = some d → d < nt) {hp : Hp} {nx : Nat} {wr : List Nat} (hW : WOk γ g β' hp.get w') (hM : Mv s.hp.get s.nx β w hp.get nx β' w') (hS : Supp hp nx) {x : Value} (hx : VV γ β' v x) :
    SOk γ g nt lo { s with tm := putT s.tm o.dst v, hp, nx, wr } β' (a.put o.dst x) w' where
  wok := hW
  sup := hS
  size := by rw [put_size]; exact I.size
  tm := fun t => tm_put hM.ext (fun _ => I.tm t) (fun d h => Nat.lt_of_lt_of_le (hd d h) I.size) hx
  df := by
    rw [put_df]
    exact I.df.up hM.ext fun D _ hD => Mv.df I.wok hM hD

/-! ### Guards -/
theorem wanted_none (h : guardTmp ops o = some none) (tm : Array Value) : Region.wanted o (yielded ops tm) = true := by
  unfold guardTmp at h
  split at h
  · rename_i hg
    simp [Region.wanted, hg]
  · simp only [Option.map_eq_some_iff, reduceCtorEq, and_false, exists_false] at h

theorem wanted_some {t : Nat} {b : Bool} (h : guardTmp ops o = some (some (t, b))) (tm : Array Value) : Region.wanted o (yielded ops tm) = true ↔ tm.getD t undef = .bool b := by
  unfold guardTmp at h
  split at h
  · simp at h
  · rename_i j c hg
    simp only [Option.map_eq_some_iff, Option.some.injEq, Prod.mk.injEq] at h
    obtain ⟨t', ht, rfl, rfl⟩ := h
    simp only [Region.wanted, hg, yielded, ht, Option.bind_some, beq_iff_eq]
    cases hv : tm[t']? with
    | none => simp [hv, undef]
    | some v => cases v <;> simp [hv]

theorem guard_spec {tm : List (Nat × V)} {r : Bool} (h : guardIs ops tm o = some r) (htm : ∀ t ∈ guardTs ops o, VV γ β (lkT tm t) (a.tmps.getD t undef)) : Region.wanted o (yielded ops a.tmps) = r := by
  unfold guardIs at h
  split at h
  · cases h
  · rename_i hg
    cases h
    exact wanted_none hg _
  · rename_i t b hg
    have hv := htm t (by simp [guardTs, hg])
    have hw := wanted_some hg a.tmps
    have neg : a.tmps.getD t undef ≠ .bool b → Region.wanted o (yielded ops a.tmps) = false := fun hn => by
      cases hq : Region.wanted o (yielded ops a.tmps) with
      | true => exact absurd (hw.1 hq) hn
      | false => rfl
    split at h
    · rename_i c hc
      rw [hc] at hv
      have hv := VV.c_iff.1 hv
      simp only [CV] at hv
      cases h
      by_cases hcb : c = b
      · subst hcb
        rw [hw.2 hv]
        simp
      · rw [neg (by rw [hv]; simpa using hcb)]
        simpa using hcb
    · rename_i hc
      rw [hc] at hv
      obtain ⟨vs, hv, -⟩ := VV.tup_iff.1 hv
      cases h
      exact neg (by rw [hv]; simp)
    · cases h

variable {K : Act → World → Prop} {Q : Exit → Act → World → Prop}

/-- A call within an operation. -/
theorem call_wp (H : CxOk P γ cx) (HC : CfOk P γ g cf) {hp : Hp} {nx : Nat} {tm : List (Nat × V)} (I : In γ g β hp.get tm w a o) (hs : Supp hp nx) {f : FuncId} {args : List V} (h : evalO cx tm hp.get nx o = some (.call f args)) {ans : Ans} (hc : cf f args hp nx = some ans) (hf : Free β nx ans.nx)
    (hK : ∀ β' w' x, WOk γ g β' ans.hp.get w' → Mv hp.get nx β w ans.hp.get ans.nx β' w' → VV γ β' ans.v x → K (a.put o.dst x) w') : o.wp P a w K Q := by
  obtain ⟨fn, hfn, hbo⟩ := HC.fn _ _ _ _ _ hc
  obtain ⟨xs, hxs, hrun⟩ := call_sound H I h hfn hbo
  unfold Oper.wp
  rw [hrun]
  refine Calls.mono (HC.calls _ _ _ _ _ hc β w xs.toList I.wok hs hf hxs) fun e w' he => ?_
  obtain ⟨x, β', rfl, h1, h2, h3⟩ := he
  exact hK β' w' x h1 h2 h3

theorem val_wp (H : CxOk P γ cx) {hp : Rd} {nx nx' : Nat} {upd : Upd} {tm : List (Nat × V)} (I : In γ g β hp tm w a o) (h : evalO cx tm hp nx o = some (.val v upd nx')) (hf : Free β nx nx')
    (hK : ∀ β' w' x, WOk γ g β' (upF hp upd) w' → Mv hp nx β w (upF hp upd) nx' β' w' → VV γ β' v x → K (a.put o.dst x) w') : o.wp P a w K Q := by
  obtain ⟨β', w', x, hr, h1, h2, h3⟩ := val_sound H I h hf
  unfold Oper.wp
  rcases hr with hr | ⟨hr, rfl⟩
  · rw [hr]
    exact hK _ _ _ h1 h2 h3
  · rw [hr]
    exact hK _ _ _ h1 h2 h3

theorem undef_vv : VV γ β (.tup []) undef := VV.tup_iff.2 ⟨#[], rfl, VL.nil⟩

/-- Operations one behind the other. -/
theorem runOps_sound (H : CxOk P γ cx) (HC : CfOk P γ g cf) (hdst : ∀ o ∈ ops.toList, ∀ d, o.dst = some d → d < nt) : ∀ (m k : Nat) (s s' : St) (β : Bm) (a : Act) (w : World), k + m = ops.size → runOps cx cf n0 ops (ops.toList.drop k) s = some s' → n0 ≤ s.nx →
    SOk γ g nt lo s β a w → Free β s.nx s'.nx → (∀ β' a' w', SOk γ g nt lo s' β' a' w' → Mv s.hp.get s.nx β w s'.hp.get s'.nx β' w' → Q .normal a' w') → wpOps P ops Q (List.range' k m) a w
  | 0, k, s, s', β, a, w, hk, h, hn, I, hf, hQ => by
    simp only [List.range'_zero, wpOps]
    rw [List.drop_of_length_le (by simp; omega)] at h
    simp only [runOps, Option.some.injEq] at h
    subst h
    exact hQ β a w I Mv.refl
  | m + 1, k, s, s', β, a, w, hk, h, hn, I, hf, hQ => by
    have hlt : k < ops.size := by omega
    have ho : ops[k]? = some ops[k] := Array.getElem?_eq_getElem hlt
    have hmem : ops[k] ∈ ops.toList := by simp
    rw [List.drop_eq_getElem_cons (by simpa using hlt)] at h
    simp only [Array.getElem_toList] at h
    generalize ops[k] = o at ho hmem h
    have hd := hdst o hmem
    rw [List.range'_succ, wpOps_cons]
    have inn : In γ g β s.hp.get s.tm w a o := ⟨I.wok, fun t _ => I.tm t⟩
    have next : ∀ (s1 : St) (β1 : Bm) (a1 : Act) (w1 : World), runOps cx cf n0 ops (ops.toList.drop (k + 1)) s1 = some s' → s.nx ≤ s1.nx → SOk γ g nt lo s1 β1 a1 w1 → Mv s.hp.get s.nx β w s1.hp.get s1.nx β1 w1 → wpOps P ops Q (List.range' (k + 1) m) a1 w1 := fun s1 β1 a1 w1 h1 hle I1 M1 =>
      runOps_sound H HC hdst m (k + 1) s1 s' β1 a1 w1 (by omega) h1 (by omega) I1 (fun id hid hid' => by
        rw [M1.rng id (.inr hid)]
        exact hf id (by omega) hid') fun β' a' w' I' M' => hQ β' a' w' I' (M1.trans M')
    unfold wpOp
    simp only [ho]
    simp only [runOps] at h
    split at h
    · rename_i hg
      rw [if_neg (by rw [guard_spec hg fun t _ => I.tm t]; simp)]
      exact next _ β _ w h (Nat.le_refl _) (I.step (o := o) (hp := s.hp) (nx := s.nx) (wr := s.wr) hd I.wok Mv.refl I.sup undef_vv) Mv.refl
    · rename_i hg
      rw [if_pos (guard_spec hg fun t _ => I.tm t)]
      refine .inl ?_
      split at h
      · rename_i v nx hv
        have hle := (op_up hv).le
        have hle' := (runOps_pr HC.toCfPur _ _ _ h (by simp only; omega) (fun id hid => I.sup id (by simp only at hid; omega))).le
        refine val_wp H inn hv (fun id h1 h2 => hf id h1 (Nat.lt_of_lt_of_le h2 hle')) fun β' w' x h1 h2 h3 => ?_
        exact next _ β' _ w' h hle (I.step (o := o) (hp := s.hp) (nx := nx) (wr := s.wr) hd h1 h2 (fun id hid => I.sup id (by omega)) h3) h2
      · rename_i v upd nx _ hv
        have hu := op_up hv
        have hle := hu.le
        have hsup : Supp (apply s.hp upd) nx := I.sup.app (rd := s.hp.get) I.sup hu
        have hle' := (runOps_pr HC.toCfPur _ _ _ h (by simp only; omega) hsup).le
        refine val_wp H inn hv (fun id h1 h2 => hf id h1 (Nat.lt_of_lt_of_le h2 hle')) fun β' w' x h1 h2 h3 => ?_
        rw [← apply_get] at h1 h2
        exact next _ β' _ w' h hle (I.step (o := o) (hp := apply s.hp upd) (nx := nx) (wr := logW n0 (upd.map (·.1)) s.wr) hd h1 h2 hsup h3) h2
      · rename_i f args hv
        split at h
        · rename_i ans ha
          have hle := HC.le _ _ _ _ _ ha I.sup
          have hsup := HC.sup _ _ _ _ _ ha I.sup
          have hle' := (runOps_pr HC.toCfPur _ _ _ h (by simp only; omega) hsup).le
          refine call_wp H HC inn I.sup hv ha (fun id h1 h2 => hf id h1 (Nat.lt_of_lt_of_le h2 hle')) fun β' w' x h1 h2 h3 => ?_
          exact next _ β' _ w' h hle (I.step (o := o) (hp := ans.hp) (nx := ans.nx) (wr := logW n0 ans.wr s.wr) hd h1 h2 hsup h3) h2
        · cases h
      · rename_i f args hv
        obtain ⟨xs, caps, hxs, hrun⟩ := dfr_sound H inn hv
        unfold Oper.wp
        rw [hrun]
        have I1 := I.step (o := o) (hp := s.hp) (nx := s.nx) (wr := s.wr) hd I.wok Mv.refl I.sup undef_vv
        refine next _ β _ w h (Nat.le_refl _) ⟨I1.wok, I1.sup, by rw [put_size]; exact I.size, fun t => ?_, ?_⟩ Mv.refl
        · exact tm_put (a := { a with defers := { target := .fn (.func f) caps, args := xs } :: a.defers }) (Ble.refl _) (fun _ => I.tm t) (fun d h => Nat.lt_of_lt_of_le (hd d h) I.size) undef_vv
        · rw [put_df]
          exact ⟨⟨xs, caps, rfl, hxs⟩, I.df⟩
      · cases h
    · cases h
end
end Go.Proofs.YtdbbchgbgdbhbaaGreatDoor.Xe

/- What the checker says of a region is so, in whatever order the edges let it run. No condition. -/
import Derived.Test.YtlbcaadflcjpeaaGreatDoorMyVaR
set_option linter.unusedVariables false
set_option linter.unusedSimpArgs false
namespace Go.Proofs.YtlbcaadflcjpeaaGreatDoor.Va
open Go

theorem find_filter {α : Type} (t d : Nat) (l : List (Nat × α)) : ((l.filter (·.1 != d)).find? (·.1 == t)) = if t = d then none else l.find? (·.1 == t) := by
  induction l with
  | nil => simp
  | cons x l ih =>
    by_cases hx : x.1 = d
    · have : (x.1 != d) = false := by simp [hx]
      rw [List.filter_cons, this]
      simp only [Bool.false_eq_true, if_false, ih]
      split
      · rfl
      · rename_i ht
        rw [List.find?_cons]
        have : (x.1 == t) = false := by simp [hx]; omega
        rw [this]
    · have : (x.1 != d) = true := by simp [hx]
      rw [List.filter_cons, this]
      simp only [if_true, List.find?_cons, ih]
      by_cases hxt : x.1 = t
      · subst hxt
        simp [hx]
      · have : (x.1 == t) = false := by simp [hxt]
        simp only [this]

theorem get_put (s : St) (dst : Option Tmp) (a : AV) (e : Eff) (t : Nat) : (putSt s dst a e).get t = if dst = some t then a else s.get t := by
  have htm : (putSt s dst a e).tm = match dst with | some d => (d, a) :: s.tm.filter (·.1 != d) | none => s.tm := by
    cases e <;> rfl
  unfold St.get
  rw [htm]
  cases dst with
  | none => simp
  | some d =>
    simp only [List.find?_cons, Option.some.injEq]
    by_cases hd : d = t
    · subst hd
      simp
    · have : (d == t) = false := by simp [hd]
      simp only [this, find_filter, if_neg (Ne.symm hd), if_neg hd]

theorem box_put (s : St) (dst : Option Tmp) (a : AV) (e : Eff) (t : Nat) : (putSt s dst a e).box t = match e with
    | .no => s.box t
    | .new vs => if t = dst.getD 0 then some vs else s.box t
    | .put b vs => if t = b then some vs else s.box t := by
  cases e with
  | no => rfl
  | new vs =>
    unfold putSt St.box
    simp only [List.find?_cons]
    by_cases h : dst.getD 0 = t
    · simp [h]
    · have : (dst.getD 0 == t) = false := by simp [h]
      simp only [this, if_neg (Ne.symm h)]
  | put b vs =>
    unfold putSt St.box
    simp only [List.find?_cons]
    by_cases h : b = t
    · simp [h]
    · have : (b == t) = false := by simp [h]
      simp only [this, if_neg (Ne.symm h), find_filter]

/-! ### The states along the program's order -/
structure Nf where
  st : St
  cl : List Nat
  fps : List Fp

/-- Behind the first j operations. -/
def nfAt (cx : Cx) (ops : Array Oper) (s0 : St) : Nat → Option Nf
  | 0 => some ⟨s0, [], []⟩
  | j + 1 =>
    match nfAt cx ops s0 j, ops[j]? with
    | some n, some o =>
      match stepOp cx ops n.st o with
      | some (a, e) => some ⟨putSt n.st o.dst a e, n.cl ++ [closure n.cl o], n.fps ++ [{ looks := looks ops n.st o a, writes := writes o e }]⟩
      | none => none
    | _, _ => none

/-- What is known of operation j. -/
structure StepAt (cx : Cx) (ops : Array Oper) (s0 : St) (j : Nat) (n : Nf) (o : Oper) (a : AV) (e : Eff) : Prop where
  nf : nfAt cx ops s0 j = some n
  op : ops[j]? = some o
  step : stepOp cx ops n.st o = some (a, e)
  edge : ∀ x ∈ o.after, Region.binds .any x = true → x.on < j
  order : ∀ (i : Nat) (f : Fp), n.fps[i]? = some f → clash f { looks := looks ops n.st o a, writes := writes o e } = true → (closure n.cl o).testBit i = true
  dst : ∀ d, o.dst = some d → d < cx.ntmps
  put : putChk n.st e = true
  late : ∀ d ∈ depOf a, ∀ i o', j < i → ops[i]? = some o' → o'.dst ≠ some d
  new : ∀ vs, e = .new vs → o.dst.isSome = true

theorem runOps_steps {cx : Cx} {ops : Array Oper} {s0 : St} : ∀ (rest : List Oper) (j : Nat) (n : Nf) (s' : St), ops.toList.drop j = rest → nfAt cx ops s0 j = some n →
    runOps cx ops rest j n.cl n.fps n.st = some s' →
    (∀ i, j ≤ i → i < ops.size → ∃ n o a e, StepAt cx ops s0 i n o a e) ∧ ∃ n', nfAt cx ops s0 ops.size = some n' ∧ n'.st = s'
  | [], j, n, s', hd, hn, h => by
    simp only [runOps, Option.some.injEq] at h
    subst h
    have hj : ops.size ≤ j := by
      have := congrArg List.length hd
      simp only [List.length_drop, Array.length_toList, List.length_nil] at this
      omega
    refine ⟨fun i h1 h2 => by omega, ?_⟩
    by_cases he : j = ops.size
    · subst he
      exact ⟨n, hn, rfl⟩
    · exfalso
      obtain ⟨k, rfl⟩ : ∃ k, j = k + 1 := ⟨j - 1, by omega⟩
      have hk : ops[k]? = none := Array.getElem?_eq_none (by omega)
      simp only [nfAt, hk] at hn
      split at hn <;> simp_all
  | o :: rest, j, n, s', hd, hn, h => by
    have ho : ops[j]? = some o := by
      have := congrArg (·[0]?) hd
      simpa using this
    have hlt : j < ops.size := (Array.getElem?_eq_some_iff.1 ho).1
    have hd' : ops.toList.drop (j + 1) = rest := by
      rw [← List.drop_drop, hd]
      rfl
    simp only [runOps] at h
    split at h
    · cases h
    · rename_i a e hs
      split at h
      · rename_i hc
        simp only [stepChk, lateChk, Bool.and_eq_true] at hc
        obtain ⟨⟨⟨⟨hc1, hc2⟩, hc3⟩, hc4⟩, hc5, hc6⟩ := hc
        have hn' : nfAt cx ops s0 (j + 1) = some ⟨putSt n.st o.dst a e, n.cl ++ [closure n.cl o], n.fps ++ [{ looks := looks ops n.st o a, writes := writes o e }]⟩ := by
          simp only [nfAt, hn, ho, hs]
        obtain ⟨h1, h2⟩ := runOps_steps rest (j + 1) _ s' hd' hn' h
        refine ⟨fun i hi hi' => ?_, h2⟩
        by_cases he : i = j
        · subst he
          refine ⟨n, o, a, e, hn, ho, hs, fun x hx hb => ?_, fun k f hf hcl => ?_, fun d hd => ?_, hc4, fun d hd k o' hk ho' => ?_, fun vs he => by subst he; exact hc6⟩
          · have := List.all_eq_true.1 hc1 x (by simpa using hx)
            simpa [hb] using this
          · have := List.all_eq_true.1 hc2 (f, k) (by
              rw [List.mem_zipIdx_iff_getElem?]
              exact hf)
            simpa [hcl] using this
          · have := List.all_eq_true.1 hc3 d (by simp [hd])
            simpa using this
          · have hm : o' ∈ rest := by
              rw [← hd']
              exact List.mem_of_getElem? (i := k - (i + 1)) (by rw [List.getElem?_drop]; simpa [show i + 1 + (k - (i + 1)) = k by omega] using ho')
            have := List.all_eq_true.1 (List.all_eq_true.1 hc5 d hd) o' hm
            simpa using this
        · exact h1 i (by omega) hi'
      · cases h

/-! ### What must have run -/
theorem fold_bit (acc : List Nat) (k : Nat) : ∀ (l : List Edge) (s : Nat), (l.foldl (fun s e => if Region.binds .any e then s ||| 2 ^ e.on ||| (acc[e.on]?).getD 0 else s) s).testBit k = true →
    s.testBit k = true ∨ ∃ x ∈ l, Region.binds .any x = true ∧ (k = x.on ∨ ((acc[x.on]?).getD 0).testBit k = true)
  | [], s, h => .inl h
  | x :: l, s, h => by
    rw [List.foldl_cons] at h
    rcases fold_bit acc k l _ h with h | ⟨y, hy, h⟩
    · split at h
      · rename_i hb
        simp only [Nat.testBit_or, Bool.or_eq_true, Nat.testBit_two_pow, decide_eq_true_eq] at h
        rcases h with (h | h) | h
        · exact .inl h
        · exact .inr ⟨x, List.mem_cons_self, hb, .inl h.symm⟩
        · exact .inr ⟨x, List.mem_cons_self, hb, .inr h⟩
      · exact .inl h
    · exact .inr ⟨y, List.mem_cons_of_mem _ hy, h⟩

theorem closure_bit {acc : List Nat} {o : Oper} {k : Nat} (h : (closure acc o).testBit k = true) : ∃ x ∈ o.after, Region.binds .any x = true ∧ (k = x.on ∨ ((acc[x.on]?).getD 0).testBit k = true) := by
  rcases fold_bit acc k o.after.toList 0 h with h | ⟨x, hx, h⟩
  · simp at h
  · exact ⟨x, by simpa using hx, h⟩

theorem nfAt_len {cx : Cx} {ops : Array Oper} {s0 : St} : ∀ {j : Nat} {n : Nf}, nfAt cx ops s0 j = some n → n.cl.length = j ∧ n.fps.length = j
  | 0, n, h => by
    simp only [nfAt, Option.some.injEq] at h
    subst h
    exact ⟨rfl, rfl⟩
  | j + 1, n, h => by
    simp only [nfAt] at h
    split at h
    · rename_i m o hm ho
      split at h
      · simp only [Option.some.injEq] at h
        subst h
        have := nfAt_len hm
        simp [this.1, this.2]
      · cases h
    · cases h

/-- The closures, one by one. -/
theorem nfAt_cl {cx : Cx} {ops : Array Oper} {s0 : St} : ∀ {j : Nat} {n : Nf}, nfAt cx ops s0 j = some n → ∀ i, i < j → ∃ m o, nfAt cx ops s0 i = some m ∧ ops[i]? = some o ∧ n.cl[i]? = some (closure m.cl o)
  | 0, n, h, i, hi => by omega
  | j + 1, n, h, i, hi => by
    simp only [nfAt] at h
    split at h
    · rename_i m o hm ho
      split at h
      · simp only [Option.some.injEq] at h
        subst h
        have hl := nfAt_len hm
        by_cases hij : i = j
        · subst hij
          exact ⟨m, o, hm, ho, by simp [hl.1]⟩
        · obtain ⟨m', o', h1, h2, h3⟩ := nfAt_cl hm i (by omega)
          exact ⟨m', o', h1, h2, by rw [List.getElem?_append_left (by omega)]; exact h3⟩
      · cases h
    · cases h

/-- What has run is shut: with an operation all that it waits for. -/
def Shut' (ops : Array Oper) (L : Nat → Prop) : Prop := ∀ i o, L i → ops[i]? = some o → ∀ x ∈ o.after, Region.binds .any x = true → L x.on

theorem closure_in {cx : Cx} {ops : Array Oper} {s0 : St} {L : Nat → Prop} (hL : Shut' ops L)
    (hE : ∀ i o, ops[i]? = some o → ∀ x ∈ o.after, Region.binds .any x = true → x.on < i) : ∀ (j : Nat) {n : Nf} {o : Oper}, nfAt cx ops s0 j = some n →
    (∀ x ∈ o.after, Region.binds .any x = true → x.on < j ∧ L x.on) → ∀ k, (closure n.cl o).testBit k = true → L k := by
  intro j
  induction j using Nat.strongRecOn with
  | _ j ih =>
    intro n o hn ho k hk
    obtain ⟨x, hx, hb, h⟩ := closure_bit hk
    obtain ⟨hlt, hLx⟩ := ho x hx hb
    rcases h with rfl | h
    · exact hLx
    · obtain ⟨m, o', hm, ho', hcl⟩ := nfAt_cl hn x.on hlt
      rw [hcl] at h
      exact ih x.on hlt hm (fun y hy hb => ⟨hE x.on o' ho' y hy hb, hL x.on o' hLx ho' y hy hb⟩) k h

/-! ### What changes from state to state -/
theorem nfAt_prev {cx : Cx} {ops : Array Oper} {s0 : St} {j : Nat} {n : Nf} (h : nfAt cx ops s0 (j + 1) = some n) :
    ∃ m o a e, nfAt cx ops s0 j = some m ∧ ops[j]? = some o ∧ stepOp cx ops m.st o = some (a, e) ∧ n.st = putSt m.st o.dst a e ∧ n.fps = m.fps ++ [{ looks := looks ops m.st o a, writes := writes o e }] := by
  simp only [nfAt] at h
  split at h
  · rename_i m o hm ho
    split at h
    · rename_i a e hs
      simp only [Option.some.injEq] at h
      subst h
      exact ⟨m, o, a, e, hm, ho, hs, rfl, rfl⟩
    · cases h
  · cases h

/-- Which operations write a thing: temporary t is 2t, box t is 2t+1. -/
def Wr (cx : Cx) (ops : Array Oper) (s0 : St) (r : Nat) (i : Nat) : Prop := ∃ m o a e, nfAt cx ops s0 i = some m ∧ ops[i]? = some o ∧ stepOp cx ops m.st o = some (a, e) ∧ r ∈ writes o e

theorem get_same {cx : Cx} {ops : Array Oper} {s0 : St} {t : Nat} : ∀ (d j : Nat) {n m : Nf}, nfAt cx ops s0 j = some n → nfAt cx ops s0 (j + d) = some m →
    (∀ i, j ≤ i → i < j + d → ¬ Wr cx ops s0 (2 * t) i) → m.st.get t = n.st.get t
  | 0, j, n, m, hn, hm, _ => by
    rw [Nat.add_zero, hn] at hm
    cases hm
    rfl
  | d + 1, j, n, m, hn, hm, hw => by
    obtain ⟨m', o, a, e, h1, h2, h3, h4, -⟩ := nfAt_prev (j := j + d) hm
    rw [h4, get_put, if_neg, get_same d j hn h1 fun i hi hi' => hw i hi (by omega)]
    intro hd
    exact hw (j + d) (by omega) (by omega) ⟨m', o, a, e, h1, h2, h3, by simp [writes, hd]⟩

theorem box_same {cx : Cx} {ops : Array Oper} {s0 : St} {t : Nat} : ∀ (d j : Nat) {n m : Nf}, nfAt cx ops s0 j = some n → nfAt cx ops s0 (j + d) = some m →
    (∀ i, j ≤ i → i < j + d → ¬ Wr cx ops s0 (2 * t + 1) i) → m.st.box t = n.st.box t
  | 0, j, n, m, hn, hm, _ => by
    rw [Nat.add_zero, hn] at hm
    cases hm
    rfl
  | d + 1, j, n, m, hn, hm, hw => by
    obtain ⟨m', o, a, e, h1, h2, h3, h4, -⟩ := nfAt_prev (j := j + d) hm
    have hno := hw (j + d) (by omega) (by omega)
    rw [h4, box_put, ← box_same d j hn h1 fun i hi hi' => hw i hi (by omega)]
    cases e with
    | no => rfl
    | new vs =>
      simp only
      rw [if_neg]
      rintro rfl
      exact hno ⟨m', o, a, _, h1, h2, h3, by simp [writes]⟩
    | put b vs =>
      simp only
      rw [if_neg]
      rintro rfl
      exact hno ⟨m', o, a, _, h1, h2, h3, by simp [writes]⟩


theorem nfAt_fps {cx : Cx} {ops : Array Oper} {s0 : St} : ∀ {j : Nat} {n : Nf}, nfAt cx ops s0 j = some n → ∀ i, i < j →
    ∃ m o a e, nfAt cx ops s0 i = some m ∧ ops[i]? = some o ∧ stepOp cx ops m.st o = some (a, e) ∧ n.fps[i]? = some { looks := looks ops m.st o a, writes := writes o e }
  | 0, n, h, i, hi => by omega
  | j + 1, n, h, i, hi => by
    obtain ⟨m, o, a, e, hm, ho, hs, -, hf⟩ := nfAt_prev h
    have hl := nfAt_len hm
    rw [hf]
    by_cases hij : i = j
    · subst hij
      exact ⟨m, o, a, e, hm, ho, hs, by rw [List.getElem?_append_right (by omega), hl.2]; simp⟩
    · obtain ⟨m', o', a', e', h1, h2, h3, h4⟩ := nfAt_fps hm i (by omega)
      exact ⟨m', o', a', e', h1, h2, h3, by rw [List.getElem?_append_left (by omega)]; exact h4⟩

theorem meets_of {r : Nat} {x y : List Nat} (hx : r ∈ x) (hy : r ∈ y) : meets x y = true := by
  unfold meets
  exact List.any_eq_true.2 ⟨r, hx, by simpa using hy⟩


/-- What has run of those that write a thing is just what lies below k. -/
def Agree (cx : Cx) (ops : Array Oper) (s0 : St) (L : Nat → Prop) (r k : Nat) : Prop := ∀ i, Wr cx ops s0 r i → (L i ↔ i < k)

/-- An operation that may come up now: of all that it looks at or writes the state is the one ahead of it. -/
theorem agree_at {cx : Cx} {ops : Array Oper} {s0 : St} (hall : ∀ i, i < ops.size → ∃ n o a e, StepAt cx ops s0 i n o a e) {L : Nat → Prop} (hL : Shut' ops L)
    {j : Nat} {n : Nf} {o : Oper} {a : AV} {e : Eff} (hj : StepAt cx ops s0 j n o a e) (hnot : ¬ L j) (hdep : ∀ x ∈ o.after, Region.binds .any x = true → L x.on)
    {r : Nat} (hr : r ∈ looks ops n.st o a ∨ r ∈ writes o e) : Agree cx ops s0 L r j := by
  have hE : ∀ i o, ops[i]? = some o → ∀ x ∈ o.after, Region.binds .any x = true → x.on < i := fun i o ho x hx hb => by
    obtain ⟨n', o', a', e', h⟩ := hall i (Array.getElem?_eq_some_iff.1 ho).1
    have := h.op
    rw [ho] at this
    cases this
    exact h.edge x hx hb
  rintro i ⟨m, oi, ai, ei, hm, hoi, hsi, hw⟩
  rcases Nat.lt_trichotomy i j with hij | rfl | hij
  · refine ⟨fun _ => hij, fun _ => ?_⟩
    obtain ⟨m', o', a', e', h1, h2, h3, h4⟩ := nfAt_fps hj.nf i hij
    rw [hm] at h1
    cases h1
    rw [hoi] at h2
    cases h2
    rw [hsi] at h3
    cases h3
    refine closure_in hL hE j hj.nf (fun x hx hb => ⟨hj.edge x hx hb, hdep x hx hb⟩) i (hj.order i _ h4 ?_)
    unfold clash
    rcases hr with hr | hr
    · simp [meets_of hw hr]
    · simp [meets_of hw hr]
  · exact ⟨fun h => absurd h hnot, fun h => absurd h (Nat.lt_irrefl _)⟩
  · refine ⟨fun hLi => ?_, fun h => absurd h (by omega)⟩
    exfalso
    obtain ⟨m', o', a', e', hi⟩ := hall i (Array.getElem?_eq_some_iff.1 hoi).1
    have h1 := hi.nf
    rw [hm] at h1
    cases h1
    have h2 := hi.op
    rw [hoi] at h2
    cases h2
    have h3 := hi.step
    rw [hsi] at h3
    cases h3
    obtain ⟨mj, oj, aj, ej, g1, g2, g3, g4⟩ := nfAt_fps hi.nf j hij
    rw [hj.nf] at g1
    cases g1
    rw [hj.op] at g2
    cases g2
    rw [hj.step] at g3
    cases g3
    refine hnot (closure_in hL hE i hi.nf (fun x hx hb => ⟨hi.edge x hx hb, hL i oi hLi hoi x hx hb⟩) j (hi.order j _ g4 ?_))
    unfold clash
    rcases hr with hr | hr
    · simp [meets_of hr hw]
    · simp [meets_of hr hw]


/-- A box that is there: at the region's beginning, or made by what has run. -/
def Lv (cx : Cx) (ops : Array Oper) (s0 : St) (L : Nat → Prop) (t : Nat) : Prop :=
  (s0.box t).isSome = true ∨ ∃ i m o a vs, L i ∧ nfAt cx ops s0 i = some m ∧ ops[i]? = some o ∧ stepOp cx ops m.st o = some (a, .new vs) ∧ o.dst.getD 0 = t

theorem box_made {cx : Cx} {ops : Array Oper} {s0 : St} (hall : ∀ i, i < ops.size → ∃ n o a e, StepAt cx ops s0 i n o a e) {t : Nat} : ∀ (k : Nat) {n : Nf}, nfAt cx ops s0 k = some n → (n.st.box t).isSome = true →
    (s0.box t).isSome = true ∨ ∃ i m o a vs, i < k ∧ nfAt cx ops s0 i = some m ∧ ops[i]? = some o ∧ stepOp cx ops m.st o = some (a, .new vs) ∧ o.dst.getD 0 = t
  | 0, n, h, hs => by
    simp only [nfAt, Option.some.injEq] at h
    subst h
    exact .inl hs
  | k + 1, n, h, hs => by
    obtain ⟨m, o, a, e, h1, h2, h3, h4, -⟩ := nfAt_prev h
    have up : (m.st.box t).isSome = true → (s0.box t).isSome = true ∨ ∃ i m o a vs, i < k + 1 ∧ nfAt cx ops s0 i = some m ∧ ops[i]? = some o ∧ stepOp cx ops m.st o = some (a, .new vs) ∧ o.dst.getD 0 = t := fun hm => by
      rcases box_made hall k h1 hm with h | ⟨i, m, o, a, vs, hi, r⟩
      · exact .inl h
      · exact .inr ⟨i, m, o, a, vs, Nat.lt_succ_of_lt hi, r⟩
    rw [h4, box_put] at hs
    cases e with
    | no => exact up hs
    | new vs =>
      simp only at hs
      split at hs
      · rename_i ht
        exact .inr ⟨k, m, o, a, vs, Nat.lt_succ_self _, h1, h2, h3, ht.symm⟩
      · exact up hs
    | put b vs =>
      simp only at hs
      split at hs
      · rename_i ht
        subst ht
        obtain ⟨n', o', a', e', hst⟩ := hall k (Array.getElem?_eq_some_iff.1 h2).1
        have g1 := hst.nf
        rw [h1] at g1
        cases g1
        have g2 := hst.op
        rw [h2] at g2
        cases g2
        have g3 := hst.step
        rw [h3] at g3
        cases g3
        exact up (by simpa [putChk] using hst.put)
      · exact up hs


theorem wanted_none {ops : Array Oper} {o : Oper} (h : guardTmp ops o = some none) (tm : Array Value) : Region.wanted o (yielded ops tm) = true := by
  unfold guardTmp at h
  split at h
  · rename_i hg
    simp [Region.wanted, hg]
  · simp only [Option.map_eq_some_iff, reduceCtorEq, and_false, exists_false] at h

theorem wanted_some {ops : Array Oper} {o : Oper} {t : Nat} {b : Bool} (h : guardTmp ops o = some (some (t, b))) (tm : Array Value) : Region.wanted o (yielded ops tm) = true ↔ tm.getD t undef = .bool b := by
  unfold guardTmp at h
  split at h
  · simp at h
  · rename_i j c hg
    simp only [Option.map_eq_some_iff, Option.some.injEq, Prod.mk.injEq] at h
    obtain ⟨t', ht, rfl, rfl⟩ := h
    simp only [Region.wanted, hg, yielded, ht, Option.bind_some, beq_iff_eq]
    cases hv : tm[t']? with
    | none => simp [hv, undef]
    | some v => cases v <;> simp [hv]


/-- What may run comes to what the checker says, guard and all. -/
theorem step_sound {P : Program} {cx : Cx} {g : Gh} {S : HT} {w : World} {β : Nat → Nat} {a : Act} {st : St} {o : Oper} {ops : Array Oper} (H : CxOk P cx) (HI : ∀ i ∈ cx.insts, InstOk P cx g i)
    (W : WOk cx.rows cx.sub g S w) (htm : ∀ t ∈ tmpsOf o, AVok cx.sub g.cb S cx.rows β a.tmps (st.get t) (a.tmps.getD t undef))
    (hgt : ∀ t b, guardTmp ops o = some (some (t, b)) → AVok cx.sub g.cb S cx.rows β a.tmps (st.get t) (a.tmps.getD t undef))
    (hbx : isMem o.op = true → ∀ u ∈ tmpsOf o, ∀ t ∈ depOf (st.get u), ∀ vs, st.box t = some vs → BX cx.sub g S w (β t) vs ∧ g.b0 ≤ β t ∧ S (β t) = none ∧ β t ≠ g.cb ∧ β t < w.heap.size)
    {av : AV} {e : Eff} (h : stepOp cx ops st o = some (av, e)) {K : Act → World → Prop} {Q : Exit → Act → World → Prop}
    (hK : ∀ S' β' w' v, (∃ av0, Post cx.rows cx.sub g S β w o.dst av0 e S' β' w' v) → (∀ tm, (∀ t, o.dst ≠ some t → tm.getD t undef = a.tmps.getD t undef) → (∀ t, o.dst = some t → tm.getD t undef = v) → AVok cx.sub g.cb S' cx.rows β' tm av v) → K (a.put o.dst v) w')
    {j : Nat} (hj : ops[j]? = some o) : wpOp P ops Q j K a w := by
  have skip : e = .no → (∀ tm, (∀ t, o.dst ≠ some t → tm.getD t undef = a.tmps.getD t undef) → (∀ t, o.dst = some t → tm.getD t undef = undef) → AVok cx.sub g.cb S cx.rows β tm av undef) → K (a.put o.dst undef) w := fun he hv => by
    subst he
    exact hK S β w undef ⟨.any, Stp.refl _, W, fun _ => trivial, rfl⟩ hv
  unfold wpOp
  simp only [hj]
  unfold stepOp at h
  split at h
  · cases h
  · rename_i hg
    rw [if_pos (wanted_none hg _)]
    refine .inl (evalOp_sound H HI ⟨W, htm, (fun t b hh => by cases hh), hbx⟩ h fun S' β' w' v hp => hK S' β' w' v ⟨_, hp⟩ fun tm _ _ => hp.val tm)
  · rename_i t b hg
    have hw := wanted_some hg a.tmps
    split at h
    · rename_i c hc
      have hb := hgt t b hg
      rw [hc] at hb
      obtain ⟨q, hq, hv⟩ := hb
      rw [List.mem_singleton] at hq
      subst hq
      have hv : a.tmps.getD t undef = .bool c := hv
      split at h
      · rename_i hcb
        rw [if_pos (hw.2 (by rw [hv, hcb]))]
        exact .inl (evalOp_sound H HI ⟨W, htm, (fun t b hh => by cases hh), hbx⟩ h fun S' β' w' v hp => hK S' β' w' v ⟨_, hp⟩ fun tm _ _ => hp.val tm)
      · rename_i hcb
        simp only [Option.some.injEq, Prod.mk.injEq] at h
        obtain ⟨rfl, rfl⟩ := h
        rw [if_neg (fun hh => hcb (by have := hw.1 hh; rw [hv] at this; cases this; rfl))]
        exact skip rfl fun _ _ _ => trivial
    · split at h
      · rename_i a0 hev
        simp only [Option.some.injEq, Prod.mk.injEq] at h
        obtain ⟨rfl, rfl⟩ := h
        by_cases hwt : Region.wanted o (yielded ops a.tmps) = true
        · rw [if_pos hwt]
          refine .inl (evalOp_sound H HI ⟨W, htm, (fun t' b' hh => by cases hh; exact hw.1 hwt), hbx⟩ hev fun S' β' w' v hp => hK S' β' w' v ⟨_, hp⟩ fun tm _ _ _ => hp.val tm)
        · rw [if_neg hwt]
          refine skip rfl fun tm h1 h2 ht => ?_
          exfalso
          by_cases hd : o.dst = some t
          · rw [h2 t hd] at ht
            simp [undef] at ht
          · rw [h1 t hd] at ht
            exact hwt (hw.2 ht)
      · cases h

end Go.Proofs.YtlbcaadflcjpeaaGreatDoor.Va
set_option linter.unusedVariables false
set_option linter.unusedSimpArgs false
namespace Go.Proofs.YtlbcaadflcjpeaaGreatDoor.Va
open Go

theorem put_getD {a : Act} {dst : Option Tmp} {v : Value} {t : Nat} (h : dst ≠ some t) : (a.put dst v).tmps.getD t undef = a.tmps.getD t undef := by
  cases dst with
  | none => rfl
  | some d =>
    have hd : d ≠ t := fun e => h (by rw [e])
    simp [Act.put, Array.getD_eq_getD_getElem?, Array.getElem?_setIfInBounds, hd]

theorem put_getD_same {a : Act} {d : Nat} {v : Value} (h : d < a.tmps.size) : (a.put (some d) v).tmps.getD d undef = v := by
  simp [Act.put, Array.getD_eq_getD_getElem?, Array.getElem?_setIfInBounds, h]

theorem put_size {a : Act} {dst : Option Tmp} {v : Value} : (a.put dst v).tmps.size = a.tmps.size := by
  cases dst <;> simp [Act.put]

theorem put_df {a : Act} {dst : Option Tmp} {v : Value} : (a.put dst v).defers = a.defers := by
  cases dst <;> rfl

section
variable {P : Program} {cx : Cx} {g : Gh} {S0 : HT} {w0 : World} {ops : Array Oper} {s0 : St}

/-- What holds while a region runs: L is what has run. -/
structure RInv (cx : Cx) (g : Gh) (S0 : HT) (w0 : World) (ops : Array Oper) (s0 : St) (L : Nat → Prop) (S : HT) (β : Nat → Nat) (a : Act) (w : World) : Prop where
  wok : WOk cx.rows cx.sub g S w
  stp : Stp g S0 w0 S w (fun _ => False)
  size : a.tmps.size = cx.ntmps
  df : a.defers = []
  shut : Shut' ops L
  tm : ∀ t k n, nfAt cx ops s0 k = some n → Agree cx ops s0 L (2 * t) k → AVok cx.sub g.cb S cx.rows β a.tmps (n.st.get t) (a.tmps.getD t undef)
  bx : ∀ t k n vs, nfAt cx ops s0 k = some n → Agree cx ops s0 L (2 * t + 1) k → n.st.box t = some vs → BX cx.sub g S w (β t) vs
  lv : ∀ t, Lv cx ops s0 L t → w0.heap.size ≤ β t ∧ S (β t) = none ∧ β t ≠ g.cb ∧ β t < w.heap.size
  inj : ∀ t t', Lv cx ops s0 L t → Lv cx ops s0 L t' → t ≠ t' → β t ≠ β t'

theorem step_at (hall : ∀ i, i < ops.size → ∃ n o a e, StepAt cx ops s0 i n o a e) {i : Nat} {m : Nf} {o : Oper} {a : AV} {e : Eff} (hm : nfAt cx ops s0 i = some m) (ho : ops[i]? = some o) (hs : stepOp cx ops m.st o = some (a, e)) :
    StepAt cx ops s0 i m o a e := by
  obtain ⟨m', o', a', e', h⟩ := hall i (Array.getElem?_eq_some_iff.1 ho).1
  have g1 := h.nf
  rw [hm] at g1
  cases g1
  have g2 := h.op
  rw [ho] at g2
  cases g2
  have g3 := h.step
  rw [hs] at g3
  cases g3
  exact h

/-- A kind is as at the region's beginning, or as the last operation that wrote it said. -/
theorem get_from {t : Nat} : ∀ (k : Nat) {n : Nf}, nfAt cx ops s0 k = some n → n.st.get t = s0.get t ∨
    ∃ i m o a e, i < k ∧ nfAt cx ops s0 i = some m ∧ ops[i]? = some o ∧ stepOp cx ops m.st o = some (a, e) ∧ o.dst = some t ∧ n.st.get t = a
  | 0, n, h => by
    simp only [nfAt, Option.some.injEq] at h
    subst h
    exact .inl rfl
  | k + 1, n, h => by
    obtain ⟨m, o, a, e, h1, h2, h3, h4, -⟩ := nfAt_prev h
    rw [h4, get_put]
    split
    · rename_i hd
      exact .inr ⟨k, m, o, a, e, Nat.lt_succ_self _, h1, h2, h3, hd, rfl⟩
    · rcases get_from k h1 with h | ⟨i, m', o', a', e', hi, r⟩
      · exact .inl h
      · exact .inr ⟨i, m', o', a', e', Nat.lt_succ_of_lt hi, r⟩

theorem shut_in (hall : ∀ i, i < ops.size → ∃ n o a e, StepAt cx ops s0 i n o a e) {L : Nat → Prop} (hL : Shut' ops L) {i j : Nat} {m mj : Nf} {o oj : Oper} {a aj : AV} {e ej : Eff}
    (hi : StepAt cx ops s0 i m o a e) (hj : StepAt cx ops s0 j mj oj aj ej) (hji : j < i) (hLi : L i) {r : Nat} (hr : r ∈ writes oj ej) (hr' : r ∈ looks ops m.st o a ∨ r ∈ writes o e) : L j := by
  have hE : ∀ i o, ops[i]? = some o → ∀ x ∈ o.after, Region.binds .any x = true → x.on < i := fun i o ho x hx hb => by
    obtain ⟨n', o', a', e', h⟩ := hall i (Array.getElem?_eq_some_iff.1 ho).1
    have := h.op
    rw [ho] at this
    cases this
    exact h.edge x hx hb
  obtain ⟨m', o', a', e', g1, g2, g3, g4⟩ := nfAt_fps hi.nf j hji
  rw [hj.nf] at g1
  cases g1
  rw [hj.op] at g2
  cases g2
  rw [hj.step] at g3
  cases g3
  refine closure_in hL hE i hi.nf (fun x hx hb => ⟨hi.edge x hx hb, hL i o hLi hi.op x hx hb⟩) j (hi.order j _ g4 ?_)
  unfold clash
  rcases hr' with h | h
  · simp [meets_of hr h]
  · simp [meets_of hr h]

/-- A box that the state ahead of k knows, where what has run agrees. -/
theorem lv_of (hall : ∀ i, i < ops.size → ∃ n o a e, StepAt cx ops s0 i n o a e) {L : Nat → Prop} {t k : Nat} {n : Nf} (hn : nfAt cx ops s0 k = some n) (hA : Agree cx ops s0 L (2 * t + 1) k)
    (hb : (n.st.box t).isSome = true) : Lv cx ops s0 L t := by
  rcases box_made hall k hn hb with h | ⟨i, m, o, a, vs, hi, h1, h2, h3, h4⟩
  · exact .inl h
  · exact .inr ⟨i, m, o, a, vs, (hA i ⟨m, o, a, _, h1, h2, h3, by simp [writes, h4]⟩).2 hi, h1, h2, h3, h4⟩

/-- One step. -/
theorem rinv_step (H : CxOk P cx) (HI : ∀ i ∈ cx.insts, InstOk P cx g i) (hb0 : g.b0 ≤ w0.heap.size) (hall : ∀ i, i < ops.size → ∃ n o a e, StepAt cx ops s0 i n o a e)
    (nd : ∀ (i i' : Nat) (o o' : Oper) (d : Nat), ops[i]? = some o → ops[i']? = some o' → o.dst = some d → o'.dst = some d → i = i')
    (hs0 : ∀ (t d : Nat), d ∈ depOf (s0.get t) → ∀ (i : Nat) (o : Oper), ops[i]? = some o → o.dst ≠ some d)
    {L : Nat → Prop} {S : HT} {β : Nat → Nat} {a : Act} {w : World} (I : RInv cx g S0 w0 ops s0 L S β a w) {j : Nat} {n : Nf} {o : Oper} {av : AV} {e : Eff} (hj : StepAt cx ops s0 j n o av e) (hnot : ¬ L j)
    (hdep : ∀ x ∈ o.after, Region.binds .any x = true → L x.on) {K : Act → World → Prop} {Q : Exit → Act → World → Prop}
    (hK : ∀ S' β' a' w', RInv cx g S0 w0 ops s0 (fun i => L i ∨ i = j) S' β' a' w' → K a' w') : wpOp P ops Q j K a w := by
  have agr : ∀ {r : Nat}, r ∈ looks ops n.st o av ∨ r ∈ writes o e → Agree cx ops s0 L r j := fun hr => agree_at hall I.shut hj hnot hdep hr
  have inTs : ∀ t, t ∈ tmpsOf o → 2 * t ∈ looks ops n.st o av := fun t ht => by
    unfold looks
    simp only [List.map_append, List.mem_append, List.mem_map]
    exact .inl (.inl (.inl ⟨t, ht, rfl⟩))
  have inDep : ∀ d, d ∈ depOf av → 2 * d ∈ looks ops n.st o av := fun d hd => by
    unfold looks
    simp only [List.map_append, List.mem_append, List.mem_map]
    exact .inl (.inr (.inr ⟨d, hd, rfl⟩))
  refine step_sound H HI I.wok (fun t ht => I.tm t j n hj.nf (agr (.inl (inTs t ht)))) (fun t b hg => I.tm t j n hj.nf (agr (.inl ?_))) ?_ hj.step ?_ hj.op
  · unfold looks
    simp only [hg, List.map_append, List.mem_append, List.mem_map]
    exact .inl (.inl (.inr ⟨t, List.mem_singleton.2 rfl, rfl⟩))
  · intro hm u hu t ht vs hvs
    have hA := agr (r := 2 * t + 1) (.inl (by
      unfold looks
      simp only [hm, if_true, List.map_append, List.mem_append, List.mem_map, List.mem_flatMap]
      exact .inr (.inl ⟨t, ⟨u, .inl hu, ht⟩, rfl⟩)))
    have hl := I.lv t (lv_of hall hj.nf hA (by simp [hvs]))
    exact ⟨I.bx t j n vs hj.nf hA hvs, Nat.le_trans hb0 hl.1, hl.2⟩
  · rintro S' β' w' v ⟨av0, hp⟩ hval
    -- what the own writing is
    have wrj : ∀ r, Wr cx ops s0 r j ↔ r ∈ writes o e := fun r => by
      constructor
      · rintro ⟨m, o', a', e', h1, h2, h3, h4⟩
        rw [hj.nf] at h1
        cases h1
        rw [hj.op] at h2
        cases h2
        rw [hj.step] at h3
        cases h3
        exact h4
      · exact fun h => ⟨n, o, av, e, hj.nf, hj.op, hj.step, h⟩
    have agOld : ∀ {r k : Nat}, r ∉ writes o e → Agree cx ops s0 (fun i => L i ∨ i = j) r k → Agree cx ops s0 L r k := fun hr hA i hi => by
      have hne : i ≠ j := by
        rintro rfl
        exact hr ((wrj _).1 hi)
      have := hA i hi
      simpa [hne] using this
    have between : ∀ {r k : Nat}, r ∈ writes o e → Agree cx ops s0 (fun i => L i ∨ i = j) r k → j < k ∧ ∀ i, j + 1 ≤ i → i < k → ¬ Wr cx ops s0 r i := fun hr hA => by
      refine ⟨(hA j ((wrj _).2 hr)).1 (.inr rfl), fun i hi hik hw => ?_⟩
      have h1 := (hA i hw).2 hik
      have h2 := (agr (.inr hr)) i hw
      rcases h1 with h1 | h1
      · have := h2.1 h1
        omega
      · omega
    have hnext : ∃ n', nfAt cx ops s0 (j + 1) = some n' ∧ n'.st = putSt n.st o.dst av e := by
      simp only [nfAt, hj.nf, hj.op, hj.step]
      exact ⟨_, rfl, rfl⟩
    obtain ⟨n', hn', hst'⟩ := hnext
    have hsz : ∀ d, o.dst = some d → d < a.tmps.size := fun d hd => by rw [I.size]; exact hj.dst d hd
    have lvPut : ∀ b vs, e = .put b vs → Lv cx ops s0 L b := fun b vs he => by
      subst he
      exact lv_of hall hj.nf (agr (.inr (by simp [writes]))) (by simpa [putChk] using hj.put)
    have hx : ∀ b, (∃ t vs, e = .put t vs ∧ b = β t) → w0.heap.size ≤ b := fun b hb => by
      obtain ⟨t, vs, he, rfl⟩ := hb
      exact (I.lv t (lvPut t vs he)).1
    -- blocks' names that stay
    have bNew : ∀ t, (∀ vs, e = .new vs → t ≠ o.dst.getD 0) → β' t = β t := fun t ht => by
      have := hp.eff
      cases e with
      | no => simp only at this; rw [this]
      | new vs =>
        simp only at this
        obtain ⟨nb, -, -, -, -, hb, -⟩ := this
        rw [hb]
        simp [ht vs rfl]
      | put b vs => simp only at this; rw [this.1]
    have lvOld : ∀ t, Lv cx ops s0 (fun i => L i ∨ i = j) t → (∀ vs, e = .new vs → t ≠ o.dst.getD 0) → Lv cx ops s0 L t := fun t ht hne => by
      rcases ht with h | ⟨i, m, o', a', vs, hLi, h1, h2, h3, h4⟩
      · exact .inl h
      · rcases hLi with hLi | rfl
        · exact .inr ⟨i, m, o', a', vs, hLi, h1, h2, h3, h4⟩
        · exfalso
          rw [hj.nf] at h1
          cases h1
          rw [hj.op] at h2
          cases h2
          rw [hj.step] at h3
          cases h3
          exact hne vs rfl h4.symm
    have lvUp : ∀ t, Lv cx ops s0 L t → (∀ vs, e = .new vs → t ≠ o.dst.getD 0) → w0.heap.size ≤ β' t ∧ S' (β' t) = none ∧ β' t ≠ g.cb ∧ β' t < w'.heap.size := fun t ht hne => by
      obtain ⟨h1, h2, h3, h4⟩ := I.lv t ht
      rw [bNew t hne]
      exact ⟨h1, hp.stp.none h4 h2, h3, Nat.lt_of_lt_of_le h4 hp.stp.size⟩
    have newLv : ∀ vs, e = .new vs → w.heap.size ≤ β' (o.dst.getD 0) ∧ S' (β' (o.dst.getD 0)) = none ∧ β' (o.dst.getD 0) ≠ g.cb ∧ β' (o.dst.getD 0) < w'.heap.size ∧ BX cx.sub g S' w' (β' (o.dst.getD 0)) vs := fun vs he => by
      subst he
      obtain ⟨nb, h1, h2, h3, h4, h5, h6⟩ := hp.eff
      rw [h5]
      simp only [if_true]
      exact ⟨h1, h3, h4, h2, h6⟩
    refine hK S' β' _ w' ⟨hp.wok, ?_, by rw [put_size]; exact I.size, by rw [put_df]; exact I.df, ?_, ?_, ?_, ?_, ?_⟩
    · exact ⟨I.stp.le.trans hp.stp.le, Nat.le_trans I.stp.size hp.stp.size, fun b r hb => by
        rcases hp.stp.new b r hb with ⟨r0, h0⟩ | h0
        · exact I.stp.new b r0 h0
        · exact .inr (Nat.le_trans I.stp.size h0), fun b hb hs hc _ => by
        have hs' := I.stp.none hb hs
        rw [hp.stp.keep b (Nat.lt_of_lt_of_le hb I.stp.size) hs' hc (fun hxb => by have := hx b hxb; omega), I.stp.keep b hb hs hc (fun h => h)]⟩
    · intro i oi hi hoi x hx hb
      rcases hi with hi | rfl
      · exact .inl (I.shut i oi hi hoi x hx hb)
      · rw [hj.op] at hoi
        cases hoi
        exact .inl (hdep x hx hb)
    · intro t k m hm hA
      by_cases hd : o.dst = some t
      · have hw : 2 * t ∈ writes o e := by simp [writes, hd]
        obtain ⟨hjk, hno⟩ := between hw hA
        obtain ⟨c, rfl⟩ : ∃ c, k = j + 1 + c := ⟨k - (j + 1), by omega⟩
        rw [get_same c (j + 1) hn' hm (fun i h1 h2 => hno i h1 h2), hst', get_put, if_pos hd]
        have : (a.put o.dst v).tmps.getD t undef = v := by
          rw [hd]
          exact put_getD_same (hsz t hd)
        rw [this]
        exact hval _ (fun t' ht' => put_getD ht') (fun t' ht' => by rw [ht']; exact put_getD_same (hsz t' ht'))
      · have hw : 2 * t ∉ writes o e := by
          intro h
          unfold writes at h
          rw [List.mem_append] at h
          rcases h with h | h
          · cases hdd : o.dst with
            | none => simp [hdd] at h
            | some d =>
              simp only [hdd, List.mem_singleton] at h
              have this : d = t := Nat.eq_of_mul_eq_mul_left (by decide : 0 < 2) h.symm
              exact hd (by rw [hdd, this])
          · cases e <;> simp only [List.mem_singleton, List.not_mem_nil] at h <;> omega
        have hold := I.tm t k m hm (agOld hw hA)
        rw [put_getD hd]
        -- what it is said of is not written
        have hdepw : ∀ d, d ∈ depOf (m.st.get t) → o.dst ≠ some d := by
          intro d hdm hod
          rcases get_from (t := t) k hm with h | ⟨i, mi, oi, ai, ei, hik, h1, h2, h3, h4, h5⟩
          · rw [h] at hdm
            exact hs0 t d hdm j o hj.op hod
          · rw [h5] at hdm
            have hi := step_at hall h1 h2 h3
            have hij : i ≠ j := by
              rintro rfl
              rw [hj.op] at h2
              cases h2
              exact hd h4
            have hLi : L i := by
              have := (hA i ⟨mi, oi, ai, ei, h1, h2, h3, by simp [writes, h4]⟩).2 hik
              rcases this with h | h
              · exact h
              · exact absurd h hij
            rcases Nat.lt_or_ge i j with hlt | hge
            · exact hi.late d hdm j o hlt hj.op hod
            · refine hnot (shut_in hall I.shut hi hj (by omega) hLi (r := 2 * d) (by simp [writes, hod]) (.inl ?_))
              unfold looks
              simp only [List.map_append, List.mem_append, List.mem_map]
              exact .inl (.inr (.inr ⟨d, hdm, rfl⟩))
        refine AVok.up hp.stp.le (fun d hdm => ⟨bNew d fun vs he hdd => ?_, put_getD (hdepw d hdm)⟩) hold
        obtain ⟨d', hd'⟩ := Option.isSome_iff_exists.1 (hj.new vs he)
        rw [hd'] at hdd
        exact hdepw d hdm (by rw [hd', hdd]; rfl)
    · intro t k m vs hm hA hbox
      by_cases hw : 2 * t + 1 ∈ writes o e
      · obtain ⟨hjk, hno⟩ := between hw hA
        obtain ⟨c, rfl⟩ : ∃ c, k = j + 1 + c := ⟨k - (j + 1), by omega⟩
        rw [box_same c (j + 1) hn' hm (fun i h1 h2 => hno i h1 h2), hst', box_put] at hbox
        unfold writes at hw
        rw [List.mem_append] at hw
        have hw : 2 * t + 1 ∈ (match e with | .no => ([] : List Nat) | .new _ => [2 * o.dst.getD 0 + 1] | .put t _ => [2 * t + 1]) := by
          rcases hw with h | h
          · exfalso
            cases hdd : o.dst with
            | none => simp [hdd] at h
            | some d => simp only [hdd, List.mem_singleton] at h; omega
          · exact h
        cases e with
        | no => simp at hw
        | new ws =>
          simp only [List.mem_singleton] at hw
          have ht : t = o.dst.getD 0 := by omega
          simp only [ht, if_true, Option.some.injEq] at hbox
          subst hbox
          rw [ht]
          exact (newLv ws rfl).2.2.2.2
        | put b ws =>
          simp only [List.mem_singleton] at hw
          have ht : t = b := by omega
          simp only [ht, if_true, Option.some.injEq] at hbox
          subst hbox
          obtain ⟨h1, h2⟩ := hp.eff
          rw [ht, h1]
          exact h2
      · have hA' := agOld hw hA
        have hold := I.bx t k m vs hm hA' hbox
        have hl := lv_of hall hm hA' (by simp [hbox])
        obtain ⟨l1, l2, l3, l4⟩ := I.lv t hl
        have hne : ∀ ws, e = .new ws → t ≠ o.dst.getD 0 := by
          rintro ws rfl rfl
          exact hw (by simp [writes])
        rw [bNew t hne]
        refine hold.up hp.stp.le (hp.stp.keep _ l4 l2 l3 ?_)
        rintro ⟨b, ws, he, hb⟩
        have hbt : t ≠ b := by
          rintro rfl
          exact hw (by simp [writes, he])
        exact I.inj t b hl (lvPut b ws he) hbt hb
    · intro t ht
      by_cases hne : ∀ vs, e = .new vs → t ≠ o.dst.getD 0
      · exact lvUp t (lvOld t ht hne) hne
      · obtain ⟨vs, he, rfl⟩ : ∃ vs, e = .new vs ∧ t = o.dst.getD 0 := by
          refine Classical.byContradiction fun h => hne fun vs he hd => h ⟨vs, he, hd⟩
        obtain ⟨h1, h2, h3, h4, -⟩ := newLv vs he
        exact ⟨Nat.le_trans I.stp.size h1, h2, h3, h4⟩
    · intro t t' ht ht' hne
      have sep : ∀ u u', Lv cx ops s0 (fun i => L i ∨ i = j) u' → u ≠ u' → (∃ vs, e = .new vs ∧ u = o.dst.getD 0) → β' u ≠ β' u' := by
        rintro u u' hu' huu ⟨vs, he, rfl⟩
        have hn2 : ∀ ws, e = .new ws → u' ≠ o.dst.getD 0 := fun _ _ => Ne.symm huu
        rw [bNew u' hn2]
        have h1 := (newLv vs he).1
        have h2 := (I.lv u' (lvOld u' hu' hn2)).2.2.2
        omega
      by_cases h1 : ∃ vs, e = .new vs ∧ t = o.dst.getD 0
      · exact sep t t' ht' hne h1
      · by_cases h2 : ∃ vs, e = .new vs ∧ t' = o.dst.getD 0
        · exact Ne.symm (sep t' t ht (Ne.symm hne) h2)
        · have n1 : ∀ ws, e = .new ws → t ≠ o.dst.getD 0 := fun ws he hd => h1 ⟨ws, he, hd⟩
          have n2 : ∀ ws, e = .new ws → t' ≠ o.dst.getD 0 := fun ws he hd => h2 ⟨ws, he, hd⟩
          rw [bNew t n1, bNew t' n2]
          exact I.inj t t' (lvOld t ht n1) (lvOld t' ht' n2) hne
end
end Go.Proofs.YtlbcaadflcjpeaaGreatDoor.Va
set_option linter.unusedVariables false
set_option linter.unusedSimpArgs false
namespace Go.Proofs.YtlbcaadflcjpeaaGreatDoor.Va
open Go

theorem nodup_inj {α : Type} {f : α → Option Nat} : ∀ {l : List α}, nodup (l.filterMap f) = true → ∀ {i i' : Nat} {x x' : α} {d : Nat}, l[i]? = some x → l[i']? = some x' → f x = some d → f x' = some d → i = i'
  | [], _, i, i', x, x', d, h, _, _, _ => by simp at h
  | y :: l, hn, i, i', x, x', d, h1, h2, h3, h4 => by
    have hl : nodup (l.filterMap f) = true := by
      rw [List.filterMap_cons] at hn
      split at hn
      · exact hn
      · simp only [nodup, Bool.and_eq_true] at hn
        exact hn.2
    have hno : ∀ {z : α} {k : Nat}, l[k]? = some z → f z = some d → f y = some d → False := fun {z k} hz hfz hy => by
      rw [List.filterMap_cons, hy] at hn
      simp only [nodup, Bool.and_eq_true, Bool.not_eq_eq_eq_not, Bool.not_true] at hn
      have : d ∈ l.filterMap f := List.mem_filterMap.2 ⟨z, List.mem_of_getElem? hz, hfz⟩
      simp [List.contains_iff_mem.2 this] at hn
      exact hn.1 z (List.mem_of_getElem? hz) hfz
    cases i with
    | zero =>
      cases i' with
      | zero => rfl
      | succ k =>
        simp only [List.getElem?_cons_zero, Option.some.injEq] at h1
        subst h1
        exact (hno (by simpa using h2) h4 h3).elim
    | succ m =>
      cases i' with
      | zero =>
        simp only [List.getElem?_cons_zero, Option.some.injEq] at h2
        subst h2
        exact (hno (by simpa using h1) h3 h4).elim
      | succ k =>
        congr 1
        exact nodup_inj hl (by simpa using h1) (by simpa using h2) h3 h4

/-- What is known where a function's code stands: S0, w0 where it began. -/
structure SOk (cx : Cx) (g : Gh) (S0 : HT) (w0 : World) (s : St) (S : HT) (β : Nat → Nat) (a : Act) (w : World) : Prop where
  wok : WOk cx.rows cx.sub g S w
  stp : Stp g S0 w0 S w (fun _ => False)
  size : a.tmps.size = cx.ntmps
  df : a.defers = []
  tm : ∀ t, AVok cx.sub g.cb S cx.rows β a.tmps (s.get t) (a.tmps.getD t undef)
  bx : ∀ t vs, s.box t = some vs → BX cx.sub g S w (β t) vs
  lv : ∀ t, (s.box t).isSome = true → w0.heap.size ≤ β t ∧ S (β t) = none ∧ β t ≠ g.cb ∧ β t < w.heap.size
  inj : ∀ t t', (s.box t).isSome = true → (s.box t').isSome = true → t ≠ t' → β t ≠ β t'

section
variable {P : Program} {cx : Cx} {g : Gh} {S0 S : HT} {w0 w : World} {ops : Array Oper} {s s0 : St} {β : Nat → Nat} {a : Act}

theorem WOk.draw (h : WOk cx.rows cx.sub g S w) (n : Nat) : WOk cx.rows cx.sub g S { w with drawn := n } :=
  ⟨g.keep w _ h.j ⟨rfl, rfl, rfl⟩ fun _ _ => rfl, h.b0, h.cb, h.dom, h.row⟩

theorem SOk.draw (h : SOk cx g S0 w0 s S β a w) (n : Nat) : SOk cx g S0 w0 s S β a { w with drawn := n } :=
  ⟨h.wok.draw n, ⟨h.stp.le, h.stp.size, h.stp.new, h.stp.keep⟩, h.size, h.df, h.tm, h.bx, h.lv, h.inj⟩

/-- A state that knows less. -/
theorem SOk.less (h : SOk cx g S0 w0 s S β a w) {s' : St} (ht : ∀ t, s'.get t = s.get t ∨ s'.get t = .any) (hb : ∀ t vs, s'.box t = some vs → s.box t = some vs) : SOk cx g S0 w0 s' S β a w where
  wok := h.wok
  stp := h.stp
  size := h.size
  df := h.df
  tm := fun t => by
    rcases ht t with e | e
    · rw [e]; exact h.tm t
    · rw [e]; trivial
  bx := fun t vs hv => h.bx t vs (hb t vs hv)
  lv := fun t hs => by
    obtain ⟨vs, hv⟩ := Option.isSome_iff_exists.1 hs
    exact h.lv t (by simp [hb t vs hv])
  inj := fun t t' hs hs' => by
    obtain ⟨vs, hv⟩ := Option.isSome_iff_exists.1 hs
    obtain ⟨vs', hv'⟩ := Option.isSome_iff_exists.1 hs'
    exact h.inj t t' (by simp [hb t vs hv]) (by simp [hb t' vs' hv'])

theorem fresh_any (ds : List Nat) (A : AV) : fresh ds A = A ∨ fresh ds A = .any := by
  cases A with
  | bp t off =>
    simp only [fresh]
    split
    · exact .inr rfl
    · exact .inl rfl
  | gd t b x => exact .inr rfl
  | _ => exact .inl rfl

theorem fresh_dep {ds : List Nat} {A : AV} {d : Nat} (h : d ∈ depOf (fresh ds A)) : d ∉ ds := by
  cases A with
  | bp t off =>
    simp only [fresh] at h
    split at h
    · simp [depOf] at h
    · rename_i hc
      simp only [depOf, List.mem_singleton] at h
      subst h
      simpa using hc
  | _ => simp [fresh, depOf] at h

theorem find_mapv {f : AV → AV} (t : Nat) : ∀ l : List (Nat × AV), ((l.map fun x => (x.1, f x.2)).find? (·.1 == t)).map (·.2) = ((l.find? (·.1 == t)).map (·.2)).map f
  | [] => rfl
  | x :: l => by
    simp only [List.map_cons, List.find?_cons]
    split
    · rfl
    · exact find_mapv t l

theorem prep_get (t : Nat) : (prep ops s).get t = fresh (ops.toList.filterMap (·.dst)) (s.get t) := by
  unfold St.get prep
  simp only [find_mapv]
  cases (s.tm.find? (·.1 == t)) <;> rfl

theorem find_filt {p : Nat × List (List CT) → Bool} {t : Nat} {vs : List (List CT)} : ∀ {l : List (Nat × List (List CT))}, (∀ x ∈ l, x.1 = t → p x = true ∨ ∀ y ∈ l, y.1 = t → p y = false) →
    ((l.filter p).find? (·.1 == t)).map (·.2) = some vs → (l.find? (·.1 == t)).map (·.2) = some vs
  | [], _, h => h
  | x :: l, hp, h => by
    rw [List.find?_cons]
    by_cases hx : x.1 = t
    · rcases hp x List.mem_cons_self hx with hpx | hall
      · rw [List.filter_cons, if_pos hpx, List.find?_cons] at h
        simp only [hx, beq_self_eq_true] at h ⊢
        exact h
      · exfalso
        simp only [Option.map_eq_some_iff] at h
        obtain ⟨y, hy, -⟩ := h
        have hm := List.mem_of_find?_eq_some hy
        have ht := List.find?_some hy
        simp only [beq_iff_eq] at ht
        rw [List.mem_filter] at hm
        rw [hall y hm.1 ht] at hm
        exact absurd hm.2 (by simp)
    · have hxt : (x.1 == t) = false := by simp [hx]
      rw [hxt]
      refine find_filt (p := p) (l := l) (fun y hy ht => ?_) ?_
      · rcases hp y (List.mem_cons_of_mem _ hy) ht with h | h
        · exact .inl h
        · exact .inr fun z hz => h z (List.mem_cons_of_mem _ hz)
      · rw [List.filter_cons] at h
        split at h
        · rw [List.find?_cons, hxt] at h
          exact h
        · exact h

theorem prep_box {t : Nat} {vs : List (List CT)} (h : (prep ops s).box t = some vs) : s.box t = some vs := by
  refine find_filt (p := fun x => !(ops.toList.filterMap fun (o : Oper) => o.dst).contains x.1) (fun x _ hx => ?_) h
  by_cases hc : (ops.toList.filterMap (·.dst)).contains t = true
  · exact .inr fun y _ hy => by rw [hy, hc]; rfl
  · refine .inl ?_
    rw [hx]
    simpa using hc

theorem SOk.prep (h : SOk cx g S0 w0 s S β a w) : SOk cx g S0 w0 (prep ops s) S β a w :=
  h.less (fun t => by rw [prep_get]; exact fresh_any _ _) (fun t vs => prep_box)

theorem SOk.trim (h : SOk cx g S0 w0 s S β a w) (live : List Tmp) : SOk cx g S0 w0 (trim live s) S β a w := by
  refine h.less (fun t => ?_) (fun t vs hv => hv)
  unfold Va.trim St.get
  simp only
  by_cases hc : live.contains t = true
  · refine .inl ?_
    congr 2
    induction s.tm with
    | nil => rfl
    | cons x l ih =>
      rw [List.filter_cons, List.find?_cons]
      by_cases hx : x.1 = t
      · rw [hx, if_pos hc, List.find?_cons]
        simp [hx]
      · have hxt : (x.1 == t) = false := by simp [hx]
        rw [hxt]
        split
        · rw [List.find?_cons, hxt]
          exact ih
        · exact ih
  · refine .inr ?_
    have : (s.tm.filter fun x => live.contains x.1).find? (·.1 == t) = none := by
      rw [List.find?_eq_none]
      intro x hx ht
      simp only [beq_iff_eq] at ht
      rw [List.mem_filter] at hx
      exact hc (by rw [← ht]; exact hx.2)
    rw [this]
    rfl

/-- Where the region begins. -/
theorem rinv_begin (h : SOk cx g S0 w0 s0 S β a w) : RInv cx g S0 w0 ops s0 (fun _ => False) S β a w where
  wok := h.wok
  stp := h.stp
  size := h.size
  df := h.df
  shut := fun _ _ h => h.elim
  tm := fun t k n hn hA => by
    rw [get_same (j := 0) k rfl (by simpa using hn) (fun i _ hi hw => (hA i hw).2 (by omega))]
    exact h.tm t
  bx := fun t k n vs hn hA hb => by
    rw [box_same (j := 0) k rfl (by simpa using hn) (fun i _ hi hw => (hA i hw).2 (by omega))] at hb
    exact h.bx t vs hb
  lv := fun t ht => by
    rcases ht with ht | ⟨i, m, o, a, vs, hL, -⟩
    · exact h.lv t ht
    · exact hL.elim
  inj := fun t t' ht ht' => by
    have go : ∀ t, Lv cx ops s0 (fun _ => False) t → (s0.box t).isSome = true := fun t ht => by
      rcases ht with ht | ⟨i, m, o, a, vs, hL, -⟩
      · exact ht
      · exact hL.elim
    exact h.inj t t' (go t ht) (go t' ht')

/-- Where it ends. -/
theorem rinv_end (hall : ∀ i, i < ops.size → ∃ n o a e, StepAt cx ops s0 i n o a e) {L : Nat → Prop} (h : RInv cx g S0 w0 ops s0 L S β a w) (hL : ∀ i, i < ops.size → L i) {n : Nf} (hn : nfAt cx ops s0 ops.size = some n) :
    SOk cx g S0 w0 n.st S β a w := by
  have hA : ∀ r, Agree cx ops s0 L r ops.size := fun r i hi => by
    obtain ⟨m, o, a, e, h1, h2, h3, h4⟩ := hi
    have := (Array.getElem?_eq_some_iff.1 h2).1
    exact ⟨fun _ => this, fun _ => hL i this⟩
  exact ⟨h.wok, h.stp, h.size, h.df, fun t => h.tm t _ n hn (hA _), fun t vs hv => h.bx t _ n vs hn (hA _) hv, fun t ht => h.lv t (lv_of hall hn (hA _) ht),
    fun t t' ht ht' hne => h.inj t t' (lv_of hall hn (hA _) ht) (lv_of hall hn (hA _) ht') hne⟩

variable {Q : Exit → Act → World → Prop}

/-- What is known of a region that has been checked. -/
structure Rg (P : Program) (cx : Cx) (g : Gh) (S0 : HT) (w0 : World) (ops : Array Oper) (s0 : St) (s1 : St) : Prop where
  H : CxOk P cx
  HI : ∀ i ∈ cx.insts, InstOk P cx g i
  b0 : g.b0 ≤ w0.heap.size
  all : ∀ i, i < ops.size → ∃ n o a e, StepAt cx ops s0 i n o a e
  nd : ∀ (i i' : Nat) (o o' : Oper) (d : Nat), ops[i]? = some o → ops[i']? = some o' → o.dst = some d → o'.dst = some d → i = i'
  st0 : ∀ (t d : Nat), d ∈ depOf (s0.get t) → ∀ (i : Nat) (o : Oper), ops[i]? = some o → o.dst ≠ some d
  fin : ∃ n, nfAt cx ops s0 ops.size = some n ∧ n.st = s1

theorem Rg.run {s1 : St} (R : Rg P cx g S0 w0 ops s0 s1) {L : Nat → Prop} (I : RInv cx g S0 w0 ops s0 L S β a w) {j : Nat} (hj : j < ops.size) (hnot : ¬ L j)
    (hdep : ∀ o, ops[j]? = some o → ∀ x ∈ o.after, Region.binds .any x = true → L x.on) {K : Act → World → Prop}
    (hK : ∀ S' β' a' w', RInv cx g S0 w0 ops s0 (fun i => L i ∨ i = j) S' β' a' w' → K a' w') : wpOp P ops Q j K a w := by
  obtain ⟨n, o, av, e, hst⟩ := R.all j hj
  exact rinv_step R.H R.HI R.b0 R.all R.nd R.st0 I hst hnot (hdep o hst.op) hK

theorem Rg.edge {s1 : St} (R : Rg P cx g S0 w0 ops s0 s1) {j : Nat} {o : Oper} (ho : ops[j]? = some o) : ∀ x ∈ o.after, Region.binds .any x = true → x.on < j := fun x hx hb => by
  obtain ⟨n, o', av, e, hst⟩ := R.all j (Array.getElem?_eq_some_iff.1 ho).1
  have := hst.op
  rw [ho] at this
  cases this
  exact hst.edge x hx hb

theorem Rg.lin {s1 : St} (R : Rg P cx g S0 w0 ops s0 s1) (hQ : ∀ S' β' a' w', SOk cx g S0 w0 s1 S' β' a' w' → Q .normal a' w') : ∀ (m k : Nat) (S : HT) (β : Nat → Nat) (a : Act) (w : World), k + m = ops.size →
    RInv cx g S0 w0 ops s0 (fun i => i < k) S β a w → wpOps P ops Q (List.range' k m) a w
  | 0, k, S, β, a, w, hk, I => by
    simp only [List.range'_zero, wpOps]
    obtain ⟨n, hn, rfl⟩ := R.fin
    exact hQ S β a w (rinv_end R.all I (fun i hi => by omega) hn)
  | m + 1, k, S, β, a, w, hk, I => by
    rw [List.range'_succ, wpOps_cons]
    refine R.run I (by omega) (by omega) (fun o ho x hx hb => R.edge ho x hx hb) fun S' β' a' w' I' => R.lin hQ m (k + 1) S' β' a' w' (by omega) ?_
    have : (fun i => i < k ∨ i = k) = (fun i => i < k + 1) := by
      funext i
      exact propext (by omega)
    rw [this] at I'
    exact I'

theorem Rg.any {s1 : St} (R : Rg P cx g S0 w0 ops s0 s1) (hQ : ∀ S' β' a' w', SOk cx g S0 w0 s1 S' β' a' w' → Q .normal a' w') : ∀ (m : Nat) (listed : Array Bool) (S : HT) (β : Nat → Nat) (a : Act) (w : World), listed.size = ops.size → listed.count false ≤ m →
    RInv cx g S0 w0 ops s0 (fun i => listed.getD i false = true) S β a w → wpAny P .any ops Q m listed a w := by
  have fin : ∀ (listed : Array Bool) (S : HT) (β : Nat → Nat) (a : Act) (w : World), listed.size = ops.size → RInv cx g S0 w0 ops s0 (fun i => listed.getD i false = true) S β a w → Region.ready .any ops listed = [] → Q .normal a w := by
    intro listed S β a w hl I hr
    obtain ⟨n, hn, rfl⟩ := R.fin
    refine hQ S β a w (rinv_end R.all I (fun i => ?_) hn)
    induction i using Nat.strongRecOn with
    | _ i ih =>
      intro hi
      obtain ⟨n, o, av, e, hst⟩ := R.all i hi
      refine Classical.byContradiction fun hno => ?_
      have : i ∈ Region.ready .any ops listed := by
        unfold Region.ready
        rw [List.mem_filter]
        refine ⟨List.mem_range.2 hi, ?_⟩
        have h1 : listed.getD i true = false := by
          simp only [Array.getD_eq_getD_getElem?, Array.getElem?_eq_getElem (show i < listed.size by omega), Option.getD_some] at hno ⊢
          simpa using hno
        simp only [h1, Bool.not_false, Bool.true_and, hst.op, Option.map_some, Option.getD_some, Array.all_eq_true']
        intro x hx
        cases hb : Region.binds .any x with
        | false => rfl
        | true =>
          have := hst.edge x hx hb
          rw [ih x.on this (by omega)]
          rfl
      rw [hr] at this
      cases this
  intro m
  induction m with
  | zero =>
    intro listed S β a w hl hc I
    have hr : Region.ready .any ops listed = [] := by
      unfold Region.ready
      rw [List.filter_eq_nil_iff]
      intro i hi hh
      simp only [Bool.and_eq_true, Bool.not_eq_eq_eq_not, Bool.not_true] at hh
      have hi := List.mem_range.1 hi
      have h1 := hh.1
      simp only [Array.getD_eq_getD_getElem?, Array.getElem?_eq_getElem (show i < listed.size by omega), Option.getD_some] at h1
      have : listed.count false ≠ 0 := by
        have : 0 < listed.count false := Array.count_pos_iff.2 (by rw [← h1]; exact Array.getElem_mem _)
        omega
      omega
    exact ⟨hr, fin listed S β a w hl I hr⟩
  | succ m ih =>
    intro listed S β a w hl hc I
    refine ⟨fin listed S β a w hl I, fun i hi => ?_⟩
    unfold Region.ready at hi
    rw [List.mem_filter] at hi
    obtain ⟨hi, hh⟩ := hi
    have hi := List.mem_range.1 hi
    simp only [Bool.and_eq_true, Bool.not_eq_eq_eq_not, Bool.not_true] at hh
    have hil : i < listed.size := by omega
    have h1 : listed[i] = false := by
      have h1 := hh.1
      simpa only [Array.getD_eq_getD_getElem?, Array.getElem?_eq_getElem hil, Option.getD_some] using h1
    refine R.run I hi (by simp [Array.getD_eq_getD_getElem?, Array.getElem?_eq_getElem hil, h1]) (fun o ho x hx hb => ?_) fun S' β' a' w' I' => ih _ S' β' a' w' (by simpa using hl) ?_ ?_
    · have h2 := hh.2
      simp only [ho, Option.map_some, Option.getD_some, Array.all_eq_true'] at h2
      simpa [hb] using h2 x hx
    · have he : listed.setIfInBounds i true = listed.set i true hil := by simp [Array.setIfInBounds, hil]
      rw [he, Array.count_set]
      simp only [h1, BEq.rfl, if_true]
      have : (true == false) = false := rfl
      simp only [this, Bool.false_eq_true, if_false]
      omega
    · have : (fun k => listed.getD k false = true ∨ k = i) = (fun k => (listed.setIfInBounds i true).getD k false = true) := by
        funext k
        refine propext ?_
        simp only [Array.getD_eq_getD_getElem?, Array.getElem?_setIfInBounds]
        by_cases hk : i = k
        · subst hk
          simp [hil]
        · simp [hk, Ne.symm hk]
      rw [this] at I'
      exact I'

/-- A region. -/
theorem region_sound (H : CxOk P cx) (HI : ∀ i ∈ cx.insts, InstOk P cx g i) (hm : P.follows .mixedOrders = true) (hb0 : g.b0 ≤ w0.heap.size) {s' : St} (h : runRegion cx ops s = some s') (I : SOk cx g S0 w0 s S β a w)
    (hQ : ∀ S' β' a' w', SOk cx g S0 w0 s' S' β' a' w' → Q .normal a' w') (id : Nat) (draw : Bool) : (Code.region id ops draw).wp P Q a w := by
  unfold runRegion at h
  split at h
  · rename_i hnd
    simp only [Option.map_eq_some_iff] at h
    obtain ⟨s1, h1, rfl⟩ := h
    obtain ⟨hall, hfin⟩ := runOps_steps (cx := cx) (ops := ops) (s0 := prep ops s) ops.toList 0 ⟨prep ops s, [], []⟩ s1 rfl rfl h1
    have R : Rg P cx g S0 w0 ops (prep ops s) s1 := {
      H := H
      HI := HI
      b0 := hb0
      all := fun i hi => hall i (Nat.zero_le _) hi
      nd := fun i i' o o' d h1 h2 h3 h4 => nodup_inj hnd (by simpa using h1) (by simpa using h2) h3 h4
      st0 := fun t d hd i o ho hod => by
        rw [prep_get] at hd
        exact fresh_dep hd (List.mem_filterMap.2 ⟨o, by simpa using Array.mem_of_getElem? ho, hod⟩)
      fin := hfin }
    have hQ' : ∀ S' β' a' w', SOk cx g S0 w0 s1 S' β' a' w' → Q .normal a' w' := fun S' β' a' w' h => hQ S' β' a' w' (h.trim _)
    cases draw with
    | false =>
      refine wp_region ?_
      rw [List.range_eq_range']
      refine R.lin hQ' ops.size 0 S β a w (by omega) ?_
      have : (fun i : Nat => i < 0) = (fun _ => False) := by
        funext i
        exact propext ⟨fun h => absurd h (Nat.not_lt_zero _), False.elim⟩
      rw [this]
      exact rinv_begin I.prep
    | true =>
      refine wp_region_any hm ?_
      refine R.any hQ' ops.size _ S β a _ (by simp) ?_ ?_
      · simp
      · have : (fun i => (Array.replicate ops.size false).getD i false = true) = (fun _ => False) := by
          funext i
          refine propext ⟨fun h => ?_, fun h => h.elim⟩
          simp only [Array.getD_eq_getD_getElem?, Array.getElem?_replicate] at h
          split at h <;> simp at h
        rw [this]
        exact rinv_begin (I.draw _).prep
  · cases h
end
end Go.Proofs.YtlbcaadflcjpeaaGreatDoor.Va

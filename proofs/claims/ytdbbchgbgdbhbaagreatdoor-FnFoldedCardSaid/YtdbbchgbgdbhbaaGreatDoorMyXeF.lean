/- Functions: what the exact run says of a call is so, to any depth. No condition. -/
import Derived.Test.YtdbbchgbgdbhbaaGreatDoorMyXeE
set_option linter.unusedVariables false
set_option linter.unusedSimpArgs false
namespace Go.Proofs.YtdbbchgbgdbhbaaGreatDoor.Xe
open Go

section
variable {P : Program} {γ : Gs} {cx : Cx} {g : Gh} {cf : CallF} {β β' : Bm} {w w' : World} {a : Act} {s s' : St}

/-- What is told of functions ahead. -/
structure BaseOk (P : Program) (γ : Gs) (g : Gh) (bs : Base) : Prop where
  fn : ∀ f args nx v l, bs f args nx = some (v, l) → ∃ fn, P.funcs[f]? = some fn ∧ fn.body.isSome = true
  calls : ∀ f args nx v l, bs f args nx = some (v, l) → ∀ hp β w xs, WOk γ g β hp.get w → Supp hp nx → Free β nx (made nx hp l).2 → VL γ β args xs →
    Calls P f xs.toArray w (fun e w' => ∃ x β', e = .returned x ∧ WOk γ g β' (made nx hp l).1.get w' ∧ Mv hp.get nx β w (made nx hp l).1.get (made nx hp l).2 β' w' ∧ VV γ β' v x)

theorem made_pr : ∀ (l : List Blk) (nx : Nat) (hp : Hp), nx ≤ (made nx hp l).2 ∧ (∀ id, id < nx → (made nx hp l).1.get id = hp.get id) ∧ (Supp hp nx → Supp (made nx hp l).1 (made nx hp l).2)
  | [], nx, hp => ⟨Nat.le_refl _, fun _ _ => rfl, fun h => h⟩
  | b :: l, nx, hp => by
    obtain ⟨h1, h2, h3⟩ := made_pr l (nx + 1) (hp.set nx (some b))
    refine ⟨by simp only [made]; omega, fun id hid => ?_, fun hs => ?_⟩
    · simp only [made]
      rw [h2 id (by omega), Tr.get_set, if_neg (by omega)]
    · simp only [made]
      refine h3 fun id hid => ?_
      rw [Tr.get_set, if_neg (by omega)]
      exact hs id (by omega)

theorem body_pr (HC : CfPur cf) {fn : Func} {args : List V} {hp : Hp} {nx : Nat} {ans : Ans} (h : body P cx cf fn args hp nx = some ans) (hs : Supp hp nx) :
    nx ≤ ans.nx ∧ (∀ id, id < nx → id ∉ ans.wr → ans.hp.get id = hp.get id) ∧ Supp ans.hp ans.nx := by
  unfold body at h
  split at h
  · rename_i s h1
    have q := run1_pr HC h1 hs
    split at h
    · rename_i hp' nx' wr' h2
      obtain ⟨q1, q2, q3, q4⟩ := runDf_pr HC _ _ _ _ _ _ _ h2 q.le (q.sup hs)
      simp only [Option.map_eq_some_iff] at h
      obtain ⟨vs, hvs, rfl⟩ := h
      refine ⟨Nat.le_trans q.le q1, fun id hid hw => ?_, q4⟩
      simp only at hw ⊢
      rw [q3 id hid hw]
      exact q.hp id hid fun hm => hw (q2 id hm)
    · cases h
  · cases h

theorem body_sound (H : CxOk P γ cx) (HC : CfOk P γ g cf) {f : FuncId} {fn : Func} (hfn : P.funcs[f]? = some fn) {args : List V} {hp : Hp} {nx : Nat} {ans : Ans} (h : body P cx cf fn args hp nx = some ans)
    {xs : List Value} (W : WOk γ g β hp.get w) (hs : Supp hp nx) (hf : Free β nx ans.nx) (hx : VL γ β args xs) :
    Calls P f xs.toArray w (fun e w' => ∃ x β', e = .returned x ∧ WOk γ g β' ans.hp.get w' ∧ Mv hp.get nx β w ans.hp.get ans.nx β' w' ∧ VV γ β' ans.v x) := by
  unfold body at h
  split at h
  · rename_i s h1
    have q := run1_pr HC.toCfPur h1 hs
    split at h
    · rename_i hp' nx' wr' h2
      obtain ⟨q1, q2, q3, q4⟩ := runDf_pr HC.toCfPur _ _ _ _ _ _ _ h2 q.le (q.sup hs)
      simp only [Option.map_eq_some_iff] at h
      obtain ⟨vs, hvs, rfl⟩ := h
      obtain ⟨c, hc, -, hwp⟩ := run1_sound H HC hfn h1 W hs (fun id h1 h2 => hf id h1 (Nat.lt_of_lt_of_le h2 q1)) hx
      refine (callsIn_wide (n := 0)).1 (callsIn_of_wp_marks hfn hc trivial ((wpIn_wide (n := 0)).2 (wp_mono hwp fun e a' w1 hg => ?_)))
      obtain ⟨he, β1, I, M⟩ := hg
      have key : LeavesInM Fence.wide 0 P fn a'.tmps (fun e w' => ∃ x β', e = .returned x ∧ WOk γ g β' hp'.get w' ∧ Mv hp.get nx β w hp'.get nx' β' w' ∧ VV γ β' (one vs) x) a'.defers .returning w1 := by
        refine runDf_sound (β0 := β) (w0 := w) (hp0 := hp.get) (nx0 := nx) H HC W.b0 s.df a'.defers s.hp s.nx s.wr hp' nx' wr' β1 w1 h2 I.df I.wok I.sup (fun id h1 h2 => ?_) q.le M I.tm fun β' w' W' M' htm => ?_
        · rw [M.rng id (.inr h1)]
          exact hf id (Nat.le_trans q.le h1) h2
        · obtain ⟨x, hx, hv⟩ := results_sound H W' htm hvs
          exact ⟨x, hx, x, β', rfl, W', M', hv⟩
      rcases he with rfl | rfl
      · exact key
      · exact key
    · cases h
  · cases h

theorem callF_ok (H : CxOk P γ cx) {bs : Base} (HB : BaseOk P γ g bs) : ∀ n, CfOk P γ g (callF P cx bs n)
  | 0 => ⟨⟨fun _ _ _ _ _ h => by simp [callF] at h, fun _ _ _ _ _ h => by simp [callF] at h, fun _ _ _ _ _ h => by simp [callF] at h⟩, fun _ _ _ _ _ h => by simp [callF] at h, fun _ _ _ _ _ h => by simp [callF] at h⟩
  | n + 1 => by
    have ih := callF_ok H HB n
    have cas : ∀ f args hp nx ans, callF P cx bs (n + 1) f args hp nx = some ans → (∃ v l, bs f args nx = some (v, l) ∧ ans = { v, hp := (made nx hp l).1, nx := (made nx hp l).2, wr := [] }) ∨
        (∃ fn, P.funcs[f]? = some fn ∧ body P cx (callF P cx bs n) fn args hp nx = some ans) := fun f args hp nx ans h => by
      simp only [callF] at h
      split at h
      · rename_i v l hb
        cases h
        exact .inl ⟨v, l, hb, rfl⟩
      · split at h
        · rename_i fn hfn
          exact .inr ⟨fn, hfn, h⟩
        · cases h
    refine ⟨⟨fun f args hp nx ans h hs => ?_, fun f args hp nx ans h hs => ?_, fun f args hp nx ans h hs => ?_⟩, fun f args hp nx ans h => ?_, fun f args hp nx ans h β w xs W hs hf hx => ?_⟩
    · rcases cas f args hp nx ans h with ⟨v, l, hb, rfl⟩ | ⟨fn, hfn, hb⟩
      · exact (made_pr l nx hp).1
      · exact (body_pr ih.toCfPur hb hs).1
    · rcases cas f args hp nx ans h with ⟨v, l, hb, rfl⟩ | ⟨fn, hfn, hb⟩
      · exact fun id hid _ => (made_pr l nx hp).2.1 id hid
      · exact (body_pr ih.toCfPur hb hs).2.1
    · rcases cas f args hp nx ans h with ⟨v, l, hb, rfl⟩ | ⟨fn, hfn, hb⟩
      · exact (made_pr l nx hp).2.2 hs
      · exact (body_pr ih.toCfPur hb hs).2.2
    · rcases cas f args hp nx ans h with ⟨v, l, hb, rfl⟩ | ⟨fn, hfn, hb⟩
      · exact HB.fn f args nx v l hb
      · refine ⟨fn, hfn, ?_⟩
        unfold body run1 at hb
        cases hq : fn.body with
        | none => rw [hq] at hb; simp at hb
        | some c => rfl
    · rcases cas f args hp nx ans h with ⟨v, l, hb, rfl⟩ | ⟨fn, hfn, hb⟩
      · exact HB.calls f args nx v l hb hp β w xs W hs hf hx
      · exact body_sound H ih hfn hb W hs hf hx
end

/-! ### The program's tables -/
def cellOk : C → Value → Bool
  | .i k (.lit n), .int k' m => k == k' && eqZ n m
  | .b b, .bool c => b == c
  | .s (.lit l), .string s => eqN l (s.data.toList.map UInt8.toNat)
  | .nilS, .slice none 0 0 => true
  | .nilP, .pointer none => true
  | .nilI, .nilIface => true
  | .nilF, .nilFunc => true
  | _, _ => false

def cellsOk : List C → List Value → Bool
  | [], [] => true
  | c :: cs, v :: vs => cellOk c v && cellsOk cs vs
  | _, _ => false

theorem cellOk_sound {γ : Gs} {β : Bm} {c : C} {v : Value} (h : cellOk c v = true) : CV γ β c v := by
  unfold cellOk at h
  split at h
  · simp only [Bool.and_eq_true, beq_iff_eq] at h
    obtain ⟨rfl, h⟩ := h
    simp only [CV, IE.ev]
    rw [eqZ_iff.1 h]
  · simp only [beq_iff_eq] at h
    subst h
    simp [CV]
  · simp only [CV, SE.ev]
    rw [eqN_iff.1 h, litS_toNat]
  · simp [CV]
  · simp [CV]
  · simp [CV]
  · simp [CV]
  · cases h

theorem cellsOk_sound {γ : Gs} {β : Bm} : ∀ {cs : List C} {vs : List Value}, cellsOk cs vs = true → CL γ β cs vs
  | [], [], _ => CL.nil
  | [], _ :: _, h => by simp [cellsOk] at h
  | _ :: _, [], h => by simp [cellsOk] at h
  | c :: cs, v :: vs, h => by
    simp only [cellsOk, Bool.and_eq_true] at h
    exact CL.cons (cellOk_sound h.1) (cellsOk_sound h.2)

def pairsOk : List (Nat × TypeId) → List Field → Bool
  | [], [] => true
  | (o, t) :: r, f :: fs => Nat.beq o f.offset && Nat.beq t f.type && pairsOk r fs
  | _, _ => false

theorem pairsOk_sound : ∀ {l : List (Nat × TypeId)} {F : List Field}, pairsOk l F = true → F.map (fun f => (f.offset, f.type)) = l
  | [], [], _ => rfl
  | [], _ :: _, h => by simp [pairsOk] at h
  | _ :: _, [], h => by simp [pairsOk] at h
  | (o, t) :: r, f :: fs, h => by
    simp only [pairsOk, Bool.and_eq_true] at h
    rw [List.map_cons, pairsOk_sound h.2, Nat.eq_of_beq_eq_true h.1.1, Nat.eq_of_beq_eq_true h.1.2]

def descOk (P : Program) (id : TypeId) : TD → Bool
  | .int k => match P.underlying id with | some (.int k') => k == k' | _ => false
  | .bool => match P.underlying id with | some .bool => true | _ => false
  | .string => match P.underlying id with | some .string => true | _ => false
  | .slice e => match P.underlying id with | some (.slice e') => Nat.beq e e' | _ => false
  | .struct fs => match P.underlying id with | some (.struct F) => pairsOk fs F.toList && F.toList.all fun f => (P.info? f.type).isSome | _ => false
  | .ptr => match P.underlying id with | some (.pointer _) => true | _ => false
  | .func => match P.underlying id with | some (.func _ _ _) => true | _ => false
  | .iface => match P.underlying id with | some (.interface _) => true | _ => false
  | .other => false

def tyOk (P : Program) (t : TypeId) (ti : TI) : Bool :=
  match P.info? t with
  | some i =>
    match i.zero with
    | some z => Nat.beq i.size ti.size && Nat.ble i.bytes 1000 && cellsOk ti.zero z.cells.toList && Nat.beq z.cells.toList.length ti.size && descOk P t ti.desc && Nat.blt 0 ti.size && Nat.beq ti.zero.length ti.size && Nat.ble ti.size 1000
    | none => false
  | none => false

theorem descOk_sound {P : Program} {t : TypeId} {d : TD} : descOk P t d = true → match d with
    | .int k => P.underlying t = some (.int k)
    | .bool => P.underlying t = some .bool
    | .string => P.underlying t = some .string
    | .slice e => P.underlying t = some (.slice e)
    | .struct fs => ∃ F, P.underlying t = some (.struct F) ∧ F.toList.map (fun f => (f.offset, f.type)) = fs ∧ ∀ f ∈ F.toList, ∃ i, P.info? f.type = some i
    | .ptr => ∃ e, P.underlying t = some (.pointer e)
    | .func => ∃ p r v, P.underlying t = some (.func p r v)
    | .iface => ∃ m, P.underlying t = some (.interface m)
    | .other => False := by
  intro h
  cases d with
  | int k =>
    simp only [descOk] at h
    split at h
    · rename_i k' hk
      have : k = k' := by simpa using h
      subst this
      exact hk
    · cases h
  | bool =>
    simp only [descOk] at h
    split at h
    · assumption
    · cases h
  | string =>
    simp only [descOk] at h
    split at h
    · assumption
    · cases h
  | slice e =>
    simp only [descOk] at h
    split at h
    · rename_i e' he
      have := Nat.eq_of_beq_eq_true h
      subst this
      exact he
    · cases h
  | struct fs =>
    simp only [descOk] at h
    split at h
    · rename_i F hF
      simp only [Bool.and_eq_true] at h
      exact ⟨F, hF, pairsOk_sound h.1, fun f hf => Option.isSome_iff_exists.1 (List.all_eq_true.1 h.2 f hf)⟩
    · cases h
  | ptr =>
    simp only [descOk] at h
    split at h
    · exact ⟨_, ‹_›⟩
    · cases h
  | func =>
    simp only [descOk] at h
    split at h
    · exact ⟨_, _, _, ‹_›⟩
    · cases h
  | iface =>
    simp only [descOk] at h
    split at h
    · exact ⟨_, ‹_›⟩
    · cases h
  | other => simp [descOk] at h

theorem tyOk_sound {P : Program} {t : TypeId} {ti : TI} (h : tyOk P t ti = true) : TyF P t ti := by
  unfold tyOk at h
  split at h
  · rename_i i hi
    split at h
    · rename_i z hz
      simp only [Bool.and_eq_true] at h
      obtain ⟨⟨⟨⟨⟨⟨⟨h1, h2⟩, h3⟩, h4⟩, h5⟩, h6⟩, h7⟩, h8⟩ := h
      refine ⟨⟨i, z, hi, Nat.eq_of_beq_eq_true h1, Nat.le_of_ble_eq_true h2, hz, fun γ β => cellsOk_sound h3, by simpa using Nat.eq_of_beq_eq_true h4⟩, ?_, by simpa using h6, Nat.eq_of_beq_eq_true h7, Nat.le_of_ble_eq_true h8⟩
      exact descOk_sound h5
    · cases h
  · cases h

def tysOk (P : Program) (tys : Tr TI) : Bool := (List.range 512).all fun t => match tys.get t with | some ti => tyOk P t ti | none => true

def fnOk (fn : Func) : Bool := (match fn.body with | some c => dstOk fn.ntmps c | none => true) && !(fn.name == "runtime.NumGoroutine")
def fnsOk (P : Program) : Bool := P.funcs.toList.all fnOk

theorem cx_ok {P : Program} {γ : Gs} {cx : Cx} (h1 : tysOk P cx.tys = true) (h2 : fnsOk P = true) (h3 : P.follows .mixedOrders = true) (hci : ∀ o a b r, (o, a, b, r) ∈ cx.gam.ci → litCmp o (a.ev γ) (b.ev γ) = some r)
    (hvi : ∀ a n, (a, n) ∈ cx.gam.vi → a.ev γ = n) : CxOk P γ cx := by
  have hfn : ∀ (f : FuncId) (fn : Func), P.funcs[f]? = some fn → fnOk fn = true := fun f fn h => List.all_eq_true.1 h2 fn (by simpa using Array.mem_of_getElem? h)
  refine ⟨fun t i ht => ?_, hci, hvi, fun f fn c h hc => ?_, fun f fn h => ?_, h3⟩
  · unfold Cx.ty at ht
    split at ht
    · cases ht
    · rename_i hb
      have hlt : t < 512 := by
        rcases Nat.lt_or_ge t 512 with h | h
        · exact h
        · rw [Nat.ble_eq_true_of_le h] at hb; cases hb
      have := List.all_eq_true.1 h1 t (List.mem_range.2 hlt)
      rw [ht] at this
      exact tyOk_sound this
  · have := hfn f fn h
    simp only [fnOk, hc, Bool.and_eq_true] at this
    exact this.1
  · have := hfn f fn h
    simp only [fnOk, Bool.and_eq_true, Bool.not_eq_eq_eq_not, Bool.not_true] at this
    exact this.2
end Go.Proofs.YtdbbchgbgdbhbaaGreatDoor.Xe

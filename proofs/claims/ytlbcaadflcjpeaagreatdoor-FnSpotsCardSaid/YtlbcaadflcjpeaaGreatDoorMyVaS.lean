/- What the checker's kinds mean; a part of another means no less. No condition. -/
import Derived.Test.YtlbcaadflcjpeaaGreatDoorMyVa
import Derived.Room.AppendUpon
import Derived.Great.BuildSlice
import Derived.Laws.Rows
import Derived.Laws.CopyRow
import Derived.Orders
import Derived.Laws.Strings
import Derived.Laws.BytesString
set_option linter.unusedVariables false
namespace Go.Proofs.YtlbcaadflcjpeaaGreatDoor.Va
open Go

/-- A block that holds a row: which row, for how many elements, how many are laid. -/
structure RB where
  nm : Nat
  cap : Nat
  fill : Nat

abbrev HT := Nat → Option RB

def HLe (S S' : HT) : Prop := ∀ b r, S b = some r → ∃ r', S' b = some r' ∧ r'.nm = r.nm ∧ r'.cap = r.cap ∧ r.fill ≤ r'.fill

theorem HLe.refl (S : HT) : HLe S S := fun b r h => ⟨r, h, rfl, rfl, Nat.le_refl _⟩
theorem HLe.trans {S S' S'' : HT} (h : HLe S S') (h' : HLe S' S'') : HLe S S'' := fun b r hb => by
  obtain ⟨r1, h1, a1, b1, c1⟩ := h b r hb
  obtain ⟨r2, h2, a2, b2, c2⟩ := h' b r1 h1
  exact ⟨r2, h2, a2.trans a1, b2.trans b1, Nat.le_trans c1 c2⟩

def subP (sub : List (Nat × Nat)) (own : Bool) (a b : Nat) : Prop := a = b ∨ (own = false ∧ (a, b) ∈ sub)

section
variable (sub : List (Nat × Nat)) (cb : Nat) (S : HT)

def CV : CT → Value → Prop
  | .int k lo hi, v => ∃ n, v = .int k n ∧ lo ≤ n ∧ n ≤ hi
  | .bl, v => ∃ b, v = .bool b
  | .bc b, v => v = .bool b
  | .str lo hi, v => ∃ s, v = .string s ∧ lo ≤ s.size ∧ s.size ≤ hi
  | .nil0, v => ∃ a, v = .slice a 0 0
  | .sl nm lo hi own, v => ∃ a n c, v = .slice a n c ∧ lo ≤ n ∧ n ≤ hi ∧ n ≤ c ∧
      (c = 0 ∨ ∃ b r, a = some ⟨b, 0, none⟩ ∧ S b = some r ∧ subP sub own r.nm nm ∧ n ≤ r.fill ∧ c ≤ r.cap)
  | .cur, v => v = .pointer (some ⟨cb, 0, none⟩)

def CL : List CT → List Value → Prop
  | [], [] => True
  | c :: cs, v :: vs => CV sub cb S c v ∧ CL cs vs
  | _, _ => False

/-- One of the kinds. -/
def CO (cs : List CT) (v : Value) : Prop := ∃ c ∈ cs, CV sub cb S c v

/-- Cells, one of the ways. -/
def CW (vs : List (List CT)) (l : List Value) : Prop := ∃ x ∈ vs, CL sub cb S x l

def CT2 : List (List CT) → List Value → Prop
  | [], [] => True
  | c :: cs, v :: vs => CO sub cb S c v ∧ CT2 cs vs
  | _, _ => False

variable (rows : List Row) (β : Nat → Nat) (tm : Array Value)

def AVok : AV → Value → Prop
  | .one cs, v => CO sub cb S cs v
  | .agg vs, v => ∃ cells : Array Value, v = .agg cells ∧ CW sub cb S vs cells.toList
  | .bp t off, v => v = .pointer (some ⟨β t, off, none⟩)
  | .ep nm i off, v => ∃ b r R i', v = .pointer (some ⟨b, i' * R.width + off, none⟩) ∧ S b = some r ∧ subP sub false r.nm nm ∧ rows[nm]? = some R ∧ (R.exc = [] ∨ i' = i) ∧ i' < r.fill
  | .tup l, v => ∃ vs : Array Value, v = .tuple vs ∧ CT2 sub cb S l vs.toList
  | .gd t b a, v => tm.getD t undef = .bool b → AVok a v
  | .any, _ => True
end

theorem subP.mono {sub : List (Nat × Nat)} {a b : Nat} (h : subP sub true a b) (o : Bool) : subP sub o a b := by
  rcases h with h | ⟨h, _⟩
  · exact .inl h
  · exact absurd h (by simp)

section
variable {sub : List (Nat × Nat)} {cb : Nat} {S S' : HT} {rows : List Row} {β : Nat → Nat} {tm : Array Value}

theorem CV.up (h : HLe S S') : ∀ {c : CT} {v : Value}, CV sub cb S c v → CV sub cb S' c v
  | .int .., _, h => h
  | .bl, _, h => h
  | .bc _, _, h => h
  | .str .., _, h => h
  | .nil0, _, h => h
  | .cur, _, h => h
  | .sl nm lo hi own, v, hv => by
    obtain ⟨a, n, c, e, h1, h2, h3, h4⟩ := hv
    refine ⟨a, n, c, e, h1, h2, h3, ?_⟩
    rcases h4 with h4 | ⟨b, r, ha, hb, hs, hf, hc⟩
    · exact .inl h4
    · obtain ⟨r', hr, e1, e2, e3⟩ := h b r hb
      exact .inr ⟨b, r', ha, hr, by rw [e1]; exact hs, Nat.le_trans hf e3, by rw [e2]; exact hc⟩

theorem CL.up (h : HLe S S') : ∀ {cs : List CT} {l : List Value}, CL sub cb S cs l → CL sub cb S' cs l
  | [], [], _ => trivial
  | [], _ :: _, hv => hv.elim
  | _ :: _, [], hv => hv.elim
  | _ :: _, _ :: _, hv => ⟨hv.1.up h, CL.up h hv.2⟩

theorem CO.up (h : HLe S S') {cs : List CT} {v : Value} (hv : CO sub cb S cs v) : CO sub cb S' cs v :=
  let ⟨c, hc, hv⟩ := hv; ⟨c, hc, hv.up h⟩

theorem CW.up (h : HLe S S') {vs : List (List CT)} {l : List Value} (hv : CW sub cb S vs l) : CW sub cb S' vs l :=
  let ⟨c, hc, hv⟩ := hv; ⟨c, hc, hv.up h⟩

theorem CT2.up (h : HLe S S') : ∀ {cs : List (List CT)} {l : List Value}, CT2 sub cb S cs l → CT2 sub cb S' cs l
  | [], [], _ => trivial
  | [], _ :: _, hv => hv.elim
  | _ :: _, [], hv => hv.elim
  | _ :: _, _ :: _, hv => ⟨hv.1.up h, CT2.up h hv.2⟩

/-- What a kind is said of: which temporary's truth, which box. -/
theorem AVok.up (h : HLe S S') {β' : Nat → Nat} {tm' : Array Value} : ∀ {a : AV} {v : Value}, (∀ t ∈ depOf a, β' t = β t ∧ tm'.getD t undef = tm.getD t undef) →
    AVok sub cb S rows β tm a v → AVok sub cb S' rows β' tm' a v
  | .one _, _, _, hv => CO.up h hv
  | .agg _, _, _, hv => let ⟨c, e, hv⟩ := hv; ⟨c, e, hv.up h⟩
  | .bp t off, _, hd, hv => by
    simp only [AVok] at hv ⊢
    rw [(hd t (by simp [depOf])).1]
    exact hv
  | .ep nm i off, _, _, hv => by
    obtain ⟨b, r, R, i', e, hb, hs, hR, hx, hi⟩ := hv
    obtain ⟨r', hr, e1, e2, e3⟩ := h b r hb
    exact ⟨b, r', R, i', e, hr, by rw [e1]; exact hs, hR, hx, Nat.lt_of_lt_of_le hi e3⟩
  | .tup _, _, _, hv => let ⟨c, e, hv⟩ := hv; ⟨c, e, hv.up h⟩
  | .gd t b a, _, hd, hv => fun ht => by
    rw [(hd t (by simp [depOf])).2] at ht
    exact AVok.up h (fun t' ht' => hd t' (by simp [depOf, ht'])) (hv ht)
  | .any, _, _, _ => trivial

/-! ### Parts of others -/
def subTrans (sub : List (Nat × Nat)) : Prop := ∀ a b c, (a, b) ∈ sub → (b, c) ∈ sub → (a, c) ∈ sub

theorem subP.trans (hT : subTrans sub) {a b c : Nat} {o : Bool} (h : subP sub o a b) (h' : subP sub false b c) : subP sub false a c := by
  rcases h with rfl | ⟨_, h⟩
  · exact h'
  · rcases h' with rfl | ⟨_, h'⟩
    · exact .inr ⟨rfl, h⟩
    · exact .inr ⟨rfl, hT _ _ _ h h'⟩

theorem subB_spec {cx : Cx} {a b : Nat} (h : cx.subB a b = true) : subP cx.sub false a b := by
  simp only [Cx.subB, Bool.or_eq_true, beq_iff_eq] at h
  rcases h with h | h
  · exact .inl h
  · exact .inr ⟨rfl, by simpa using h⟩

theorem CT.le_sound {cx : Cx} (hT : subTrans cx.sub) : ∀ {c d : CT} {v : Value}, c.le cx d = true → CV cx.sub cb S c v → CV cx.sub cb S d v
  | .int k a b, d, v, h, hv => by
    cases d <;> simp [CT.le] at h
    obtain ⟨n, e, h1, h2⟩ := hv
    obtain ⟨⟨rfl, h3⟩, h4⟩ := h
    exact ⟨n, e, by omega, by omega⟩
  | .bl, d, v, h, hv => by cases d <;> simp [CT.le] at h; exact hv
  | .bc b, d, v, h, hv => by
    cases d <;> simp [CT.le] at h
    · exact ⟨b, hv⟩
    · subst h; exact hv
  | .str a b, d, v, h, hv => by
    cases d <;> simp [CT.le] at h
    obtain ⟨s, e, h1, h2⟩ := hv
    exact ⟨s, e, by omega, by omega⟩
  | .nil0, d, v, h, hv => by
    cases d <;> simp [CT.le] at h
    · exact hv
    · subst h
      obtain ⟨a, e⟩ := hv
      exact ⟨a, 0, 0, e, Nat.le_refl _, Nat.zero_le _, Nat.le_refl _, .inl rfl⟩
  | .cur, d, v, h, hv => by cases d <;> simp [CT.le] at h; exact hv
  | .sl nm a b o, d, v, h, hv => by
    cases d with
    | sl nm' a' b' o' =>
      simp only [CT.le, Bool.and_eq_true, decide_eq_true_eq] at h
      obtain ⟨⟨h0, h1⟩, h2⟩ := h
      obtain ⟨x, n, c, e, h3, h4, h5, h6⟩ := hv
      refine ⟨x, n, c, e, by omega, by omega, h5, ?_⟩
      rcases h6 with h6 | ⟨k, r, ha, hb, hs, hf, hc⟩
      · exact .inl h6
      · refine .inr ⟨k, r, ha, hb, ?_, hf, hc⟩
        cases o' with
        | true =>
          simp at h0
          obtain ⟨rfl, rfl⟩ := h0
          exact hs
        | false =>
          simp only [Bool.false_eq_true, if_false] at h0
          exact hs.trans hT (subB_spec h0)
    | _ => simp [CT.le] at h

theorem leL_sound {cx : Cx} (hT : subTrans cx.sub) : ∀ {x y : List CT} {l : List Value}, leL cx x y = true → CL cx.sub cb S x l → CL cx.sub cb S y l
  | [], [], _, _, h => h
  | [], _ :: _, _, h, _ => by simp [leL] at h
  | _ :: _, [], _, h, _ => by simp [leL] at h
  | _ :: _, _ :: _, [], _, h => h.elim
  | a :: x, b :: y, v :: l, h, hv => by
    simp only [leL, Bool.and_eq_true] at h
    exact ⟨CT.le_sound hT h.1 hv.1, leL_sound hT h.2 hv.2⟩

theorem leV_sound {cx : Cx} (hT : subTrans cx.sub) {x y : List (List CT)} {l : List Value} (h : leV cx x y = true) (hv : CW cx.sub cb S x l) : CW cx.sub cb S y l := by
  obtain ⟨c, hc, hv⟩ := hv
  simp only [leV, List.all_eq_true, List.any_eq_true] at h
  obtain ⟨d, hd, h⟩ := h c hc
  exact ⟨d, hd, leL_sound hT h hv⟩

theorem leC_sound {cx : Cx} (hT : subTrans cx.sub) {x y : List CT} {v : Value} (h : leC cx x y = true) (hv : CO cx.sub cb S x v) : CO cx.sub cb S y v := by
  obtain ⟨c, hc, hv⟩ := hv
  simp only [leC, List.all_eq_true, List.any_eq_true] at h
  obtain ⟨d, hd, h⟩ := h c hc
  exact ⟨d, hd, CT.le_sound hT h hv⟩

theorem tup_sound {cx : Cx} (hT : subTrans cx.sub) : ∀ {a b : List (List CT)} {l : List Value}, a.length = b.length → ((a.zip b).all fun (x, y) => leC cx x y) = true →
    CT2 cx.sub cb S a l → CT2 cx.sub cb S b l
  | [], [], _, _, _, h => h
  | [], _ :: _, _, h, _, _ => by simp at h
  | _ :: _, [], _, h, _, _ => by simp at h
  | _ :: _, _ :: _, [], _, _, h => h.elim
  | x :: a, y :: b, v :: l, hl, h, hv => by
    simp only [List.zip_cons_cons, List.all_cons, Bool.and_eq_true] at h
    exact ⟨leC_sound hT h.1 hv.1, tup_sound hT (by simpa using hl) h.2 hv.2⟩

theorem AV.le_sound {cx : Cx} (hT : subTrans cx.sub) {a b : AV} {v : Value} (h : a.le cx b = true) (hv : AVok cx.sub cb S rows β tm a v) : AVok cx.sub cb S rows β tm b v := by
  cases b with
  | any => trivial
  | one d => cases a <;> simp [AV.le] at h; exact leC_sound hT h hv
  | agg d =>
    cases a <;> simp [AV.le] at h
    obtain ⟨c, e, hv⟩ := hv
    exact ⟨c, e, leV_sound hT h hv⟩
  | tup d =>
    cases a with
    | tup c =>
      simp only [AV.le, Bool.and_eq_true, beq_iff_eq] at h
      obtain ⟨x, e, hv⟩ := hv
      exact ⟨x, e, tup_sound hT h.1 h.2 hv⟩
    | _ => simp [AV.le] at h
  | bp t off => cases a <;> simp [AV.le] at h
  | ep n i off => cases a <;> simp [AV.le] at h
  | gd t b x => cases a <;> simp [AV.le] at h

theorem CV.cells : ∀ {c : CT} {v : Value}, CV sub cb S c v → v.cells = #[v] ∧ v.oneCell' = true := by
  intro c v h
  cases c <;> simp only [CV] at h
  · obtain ⟨n, rfl, _⟩ := h; exact ⟨rfl, rfl⟩
  · obtain ⟨n, rfl⟩ := h; exact ⟨rfl, rfl⟩
  · subst h; exact ⟨rfl, rfl⟩
  · obtain ⟨n, rfl, _⟩ := h; exact ⟨rfl, rfl⟩
  · obtain ⟨n, rfl⟩ := h; exact ⟨rfl, rfl⟩
  · obtain ⟨a, n, c, rfl, _⟩ := h; exact ⟨rfl, rfl⟩
  · subst h; exact ⟨rfl, rfl⟩

theorem CL.length : ∀ {cs : List CT} {l : List Value}, CL sub cb S cs l → l.length = cs.length
  | [], [], _ => rfl
  | [], _ :: _, h => h.elim
  | _ :: _, [], h => h.elim
  | _ :: _, _ :: _, h => by simp [CL.length h.2]

theorem CL.oneCell : ∀ {cs : List CT} {l : List Value}, CL sub cb S cs l → ∀ v ∈ l, v.oneCell' = true
  | [], [], _ => by simp
  | [], _ :: _, h => h.elim
  | _ :: _, [], h => h.elim
  | _ :: _, _ :: _, h => by
    intro v hv
    rcases List.mem_cons.1 hv with rfl | hv
    · exact h.1.cells.2
    · exact CL.oneCell h.2 v hv

theorem CL.append : ∀ {a : List CT} {x : List Value} {b : List CT} {y : List Value}, CL sub cb S a x → CL sub cb S b y → CL sub cb S (a ++ b) (x ++ y)
  | [], [], _, _, _, h => h
  | [], _ :: _, _, _, h, _ => h.elim
  | _ :: _, [], _, _, h, _ => h.elim
  | _ :: _, _ :: _, _, _, h, h' => ⟨h.1, CL.append h.2 h'⟩

theorem CL.take : ∀ {n : Nat} {a : List CT} {x : List Value}, CL sub cb S a x → CL sub cb S (a.take n) (x.take n)
  | 0, _, _, _ => by simp [CL]
  | n + 1, [], [], h => h
  | n + 1, [], _ :: _, h => h.elim
  | n + 1, _ :: _, [], h => h.elim
  | n + 1, _ :: _, _ :: _, h => ⟨h.1, CL.take h.2⟩

theorem CL.drop : ∀ {n : Nat} {a : List CT} {x : List Value}, CL sub cb S a x → CL sub cb S (a.drop n) (x.drop n)
  | 0, _, _, h => h
  | n + 1, [], [], h => h
  | n + 1, [], _ :: _, h => h.elim
  | n + 1, _ :: _, [], h => h.elim
  | n + 1, _ :: _, _ :: _, h => by simpa using CL.drop (n := n) h.2
end
end Go.Proofs.YtlbcaadflcjpeaaGreatDoor.Va
set_option linter.unusedVariables false
set_option linter.unusedSimpArgs false
namespace Go.Proofs.YtlbcaadflcjpeaaGreatDoor.Va
open Go

/-- The program's types are as the table tells. -/
structure TyF (P : Program) (ti : TI) : Prop where
  info : ∃ i z, P.info? ti.id = some i ∧ i.size = ti.size ∧ i.bytes = ti.bytes ∧ i.zero = some z ∧ (∀ sub cb S, CL sub cb S ti.zero z.cells.toList) ∧ z.cells.size = ti.size
  desc : match ti.desc with
    | .int k => P.underlying ti.id = some (.int k)
    | .bool => P.underlying ti.id = some .bool
    | .string => P.underlying ti.id = some .string
    | .slice e => P.underlying ti.id = some (.slice e)
    | .struct fs => ∃ F, P.underlying ti.id = some (.struct F) ∧ F.toList.map (fun f => (f.offset, f.type)) = fs
  pos : 0 < ti.size
  zl : ti.zero.length = ti.size

/-- The table's rows and the program's types fit. -/
structure CxOk (P : Program) (cx : Cx) : Prop where
  ty : ∀ ti ∈ cx.tys, TyF P ti
  trans : subTrans cx.sub
  sub : ∀ a b, (a, b) ∈ cx.sub → ∃ ra rb, cx.row a = some ra ∧ cx.row b = some rb ∧ ra.width = rb.width ∧ ∀ i, leV cx (ra.at i) (rb.at i) = true
  len : ∀ n r i, cx.row n = some r → ∀ v ∈ r.at i, v.length = r.width
  wid : ∀ n r ti, cx.row n = some r → cx.ty r.elem = some ti → r.width = ti.size
  byt : ∀ ti ∈ cx.tys, ti.bytes ≤ 1000

section
variable {P : Program} {cx : Cx} (H : CxOk P cx)

theorem ty_spec (H : CxOk P cx) {t : TypeId} {i : TI} (h : cx.ty t = some i) : TyF P i ∧ i.id = t := by
  unfold Cx.ty at h
  exact ⟨H.ty i (List.mem_of_find?_eq_some h), by simpa using List.find?_some h⟩

theorem run_sizeOf (H : CxOk P cx) {t : TypeId} {i : TI} (h : cx.ty t = some i) (w : World) : (sizeOf t).run P w = .ok i.size w := by
  obtain ⟨hf, rfl⟩ := ty_spec H h
  obtain ⟨x, z, hx, hs, -⟩ := hf.info
  simp [sizeOf, typeInfo, hx, hs]

theorem run_isAgg (H : CxOk P cx) {t : TypeId} {i : TI} (h : cx.ty t = some i) (w : World) : (isAgg t).run P w = .ok i.agg w := by
  obtain ⟨hf, rfl⟩ := ty_spec H h
  have hd := hf.desc
  unfold isAgg TI.agg
  cases hi : i.desc with
  | struct fs =>
    simp only [hi] at hd
    obtain ⟨F, hF, -⟩ := hd
    simp [run_underlying hF w]
  | _ =>
    simp only [hi] at hd
    simp [run_underlying hd w]

variable {S : HT} {β : Nat → Nat} {cb : Nat}

/-- All pairs. -/
theorem mapM_mem {α γ : Type} {f : α → Option γ} : ∀ {l : List α} {r : List γ}, l.mapM f = some r → ∀ x ∈ l, ∃ y ∈ r, f x = some y
  | [], r, h, x, hx => by cases hx
  | a :: l, r, h, x, hx => by
    simp only [List.mapM_cons, Option.bind_eq_bind, Option.bind_eq_some_iff, Option.pure_def, Option.some.injEq] at h
    obtain ⟨y, hy, r', hr, rfl⟩ := h
    rcases List.mem_cons.1 hx with rfl | hx
    · exact ⟨y, List.mem_cons_self, hy⟩
    · obtain ⟨z, hz, e⟩ := mapM_mem hr x hx
      exact ⟨z, List.mem_cons_of_mem _ hz, e⟩

theorem mem_eraseDups {α : Type} [BEq α] [LawfulBEq α] {x : α} {l : List α} (h : x ∈ l) : x ∈ l.eraseDups := by
  simpa using h

theorem pairs_spec {f : CT → CT → Option CT} {x y r : List CT} (h : pairs f x y = some r) {a b : CT} (ha : a ∈ x) (hb : b ∈ y) : ∃ c ∈ r, f a b = some c := by
  unfold pairs at h
  simp only [Option.map_eq_some_iff] at h
  obtain ⟨l, hl, rfl⟩ := h
  obtain ⟨m, hm, e⟩ := mapM_mem hl a ha
  obtain ⟨c, hc, e'⟩ := mapM_mem e b hb
  exact ⟨c, mem_eraseDups (List.mem_flatten.2 ⟨m, hm, hc⟩), e'⟩

/-! ### Numbers -/
theorem wrap_in {k : IntKind} {n : Int} (h1 : k.min ≤ n) (h2 : n ≤ k.max) : k.wrap n = n := by
  cases k <;> simp [IntKind.min, IntKind.max, IntKind.signed, IntKind.bits] at h1 h2 <;> simp [IntKind.wrap, IntKind.signed, IntKind.bits] <;> omega

theorem wrap_range (k : IntKind) (n : Int) : k.min ≤ k.wrap n ∧ k.wrap n ≤ k.max := by
  cases k <;> simp [IntKind.wrap, IntKind.min, IntKind.max, IntKind.signed, IntKind.bits] <;> omega

theorem iv_spec {k : IntKind} {lo hi n : Int} (h1 : lo ≤ n) (h2 : n ≤ hi) {sub cb S} : CV sub cb S (iv k lo hi) (.int k (k.wrap n)) := by
  unfold iv
  split
  · rename_i hk
    have : k.wrap n = n := wrap_in (by omega) (by omega)
    rw [this]
    exact ⟨n, rfl, h1, h2⟩
  · exact ⟨_, rfl, (wrap_range k n).1, (wrap_range k n).2⟩

theorem ite3 {p q : Prop} [Decidable p] [Decidable q] {x y z : Bool} {sub cb S} (h1 : p → z = x) (h2 : ¬ p → q → z = y) :
    CV sub cb S (if p then .bc x else if q then .bc y else .bl) (.bool z) := by
  split
  · rename_i h
    rw [h1 h]
    rfl
  · rename_i h
    split
    · rename_i h'
      rw [h2 h h']
      rfl
    · exact ⟨_, rfl⟩

theorem cmpB_spec {op : BinOp} {a b c d n m : Int} {r : CT} (h : cmpB op a b c d = some r) (h1 : a ≤ n) (h2 : n ≤ b) (h3 : c ≤ m) (h4 : m ≤ d) (w : World) {sub cb S} :
    ∃ v, (Op.intCmp op n m).run P w = .ok v w ∧ CV sub cb S r v := by
  cases op <;> simp only [cmpB, Option.some.injEq, reduceCtorEq] at h <;> subst h <;> refine ⟨_, rfl, ite3 ?_ ?_⟩ <;> intros <;> simp <;> omega

theorem tmod_range {n m d : Int} (h0 : 0 ≤ n) (h1 : 0 < m) (h2 : m ≤ d) : 0 ≤ n.tmod m ∧ n.tmod m ≤ d - 1 := by
  rw [Int.tmod_eq_emod_of_nonneg h0]
  have := Int.emod_nonneg n (show m ≠ 0 by omega)
  have := Int.emod_lt_of_pos n h1
  omega

theorem eqGuard_int (op : BinOp) (t : TypeId) (x y : Operand) (k k' : IntKind) (n m : Int) (w : World) : (eqGuard op t x y (.int k n) (.int k' m)).run P w = .ok () w := by
  cases op <;> rfl

theorem eqGuard_str (op : BinOp) (t : TypeId) (x y : Operand) (n m : ByteArray) (w : World) : (eqGuard op t x y (.string n) (.string m)).run P w = .ok () w := by
  cases op <;> rfl

theorem size_toList (s : ByteArray) : s.toList.length = s.size := by rw [ByteArray.toList_eq]; cases s; rfl

theorem str_eq_size {x y : ByteArray} (h : x.toList = y.toList) : x.size = y.size := by
  rw [← size_toList, ← size_toList, h]

theorem binC_spec {op : BinOp} {c d r : CT} (h : binC op c d = some r) {vx vy : Value} {sub cb S} (hx : CV sub cb S c vx) (hy : CV sub cb S d vy) (t : TypeId) (x y : Operand) (w : World) :
    ∃ v, (eqGuard op t x y vx vy).run P w = .ok () w ∧ (binOp op t vx vy).run P w = .ok v w ∧ CV sub cb S r v := by
  cases c <;> cases d <;> simp only [binC, reduceCtorEq] at h
  · rename_i k a b k' a' b'
    split at h
    · rename_i hk
      subst hk
      obtain ⟨n, rfl, h1, h2⟩ := hx
      obtain ⟨m, rfl, h3, h4⟩ := hy
      unfold intB at h
      split at h
      · simp only [Option.some.injEq] at h
        subst h
        exact ⟨_, eqGuard_int .., by simp [binOp, Op.intArith]; rfl, iv_spec (by omega) (by omega)⟩
      · simp only [Option.some.injEq] at h
        subst h
        exact ⟨_, eqGuard_int .., by simp [binOp, Op.intArith]; rfl, iv_spec (by omega) (by omega)⟩
      · split at h
        · rename_i hc
          simp only [Option.some.injEq] at h
          subst h
          have h0 : m ≠ 0 := by omega
          have hr := tmod_range (n := n) (m := m) (d := b') (by omega) (by omega) h4
          exact ⟨_, eqGuard_int .., by simp [binOp, Op.intDiv, h0], ⟨_, rfl, hr.1, hr.2⟩⟩
        · cases h
      · rename_i n1 n2 n3
        obtain ⟨v, hv, hc⟩ := cmpB_spec (P := P) (sub := sub) (cb := cb) (S := S) h h1 h2 h3 h4 w
        refine ⟨v, eqGuard_int .., ?_, hc⟩
        rw [← hv]
        cases op <;> simp_all [cmpB, binOp]
    · cases h
  · rename_i a b a' b'
    obtain ⟨n, rfl, h1, h2⟩ := hx
    obtain ⟨m, rfl, h3, h4⟩ := hy
    split at h
    · split at h
      · rename_i hb
        simp only [Option.some.injEq] at h
        subst h
        have hbig : ¬ (((n.size + m.size : Nat) : Int) > IntKind.i64.max) := by
          have : n.size + m.size ≤ big := by omega
          simp only [big, IntKind.max, IntKind.signed, IntKind.bits] at *
          simp
          omega
        refine ⟨.string (n ++ m), eqGuard_str .., ?_, ⟨_, rfl, ?_, ?_⟩⟩
        · simp only [binOp, Op.stringOp, hbig, if_false, Sem.run_pure]
        · simp only [ByteArray.size_append]; omega
        · simp only [ByteArray.size_append]; omega
      · cases h
    · simp only [Option.some.injEq] at h
      subst h
      refine ⟨_, eqGuard_str .., rfl, ?_⟩
      split
      · rename_i hc
        simp only [CV, Value.bool.injEq, beq_eq_false_iff_ne]
        intro e
        have := str_eq_size e
        omega
      · split
        · rename_i hz
          have e1 : n.toList = [] := List.eq_nil_of_length_eq_zero (by rw [size_toList]; omega)
          have e2 : m.toList = [] := List.eq_nil_of_length_eq_zero (by rw [size_toList]; omega)
          simp [CV, e1, e2]
        · exact ⟨_, rfl⟩
    · simp only [Option.some.injEq] at h
      subst h
      refine ⟨_, eqGuard_str .., rfl, ?_⟩
      split
      · rename_i hc
        simp only [CV, Value.bool.injEq, Bool.not_eq_eq_eq_not, Bool.not_true, beq_eq_false_iff_ne]
        intro e
        have := str_eq_size e
        omega
      · split
        · rename_i hz
          have e1 : n.toList = [] := List.eq_nil_of_length_eq_zero (by rw [size_toList]; omega)
          have e2 : m.toList = [] := List.eq_nil_of_length_eq_zero (by rw [size_toList]; omega)
          simp [CV, e1, e2]
        · exact ⟨_, rfl⟩
    · cases h
end
end Go.Proofs.YtlbcaadflcjpeaaGreatDoor.Va
set_option linter.unusedVariables false
set_option linter.unusedSimpArgs false
namespace Go.Proofs.YtlbcaadflcjpeaaGreatDoor.Va
open Go

/-- Nothing but the heap is another. -/
def OsEq (w w' : World) : Prop := w'.os = w.os ∧ w'.tape = w.tape ∧ w'.output = w.output

/-- The cursor's block, where the own blocks begin, what holds of the world besides. -/
structure Gh where
  cb : Nat
  b0 : Nat
  J : World → Prop
  keep : ∀ w w', J w → OsEq w w' → (∀ b, b < b0 ∨ b = cb → w'.heap[b]? = w.heap[b]?) → J w'

section
variable (rows : List Row) (sub : List (Nat × Nat)) (g : Gh)

def RowOk (S : HT) (w : World) (b : Nat) (r : RB) : Prop :=
  ∃ R cells, rows[r.nm]? = some R ∧ w.heap[b]? = some (.cells cells R.elem (0, 0)) ∧ cells.size = r.cap * R.width ∧ r.fill ≤ r.cap ∧
    ∀ i, i < r.fill → CW sub g.cb S (R.at i) ((cells.toList.drop (i * R.width)).take R.width)

structure WOk (S : HT) (w : World) : Prop where
  j : g.J w
  b0 : g.b0 ≤ w.heap.size
  cb : g.cb < w.heap.size
  dom : ∀ b r, S b = some r → g.b0 ≤ b ∧ b ≠ g.cb ∧ b < w.heap.size
  row : ∀ b r, S b = some r → RowOk rows sub g S w b r

/-- From one world to a later one: 'x' are the blocks that may differ besides. -/
structure Stp (S : HT) (w : World) (S' : HT) (w' : World) (x : Nat → Prop) : Prop where
  le : HLe S S'
  size : w.heap.size ≤ w'.heap.size
  new : ∀ b r, S' b = some r → (∃ r0, S b = some r0) ∨ w.heap.size ≤ b
  keep : ∀ b, b < w.heap.size → S b = none → b ≠ g.cb → ¬ x b → w'.heap[b]? = w.heap[b]?

def BX (S : HT) (w : World) (b : Nat) (vs : List (List CT)) : Prop :=
  ∃ cells elem, w.heap[b]? = some (.cells cells elem (0, 0)) ∧ CW sub g.cb S vs cells.toList

structure Post (S : HT) (β : Nat → Nat) (w : World) (dst : Option Tmp) (av : AV) (e : Eff) (S' : HT) (β' : Nat → Nat) (w' : World) (v : Value) : Prop where
  stp : Stp g S w S' w' (fun b => ∃ t vs, e = .put t vs ∧ b = β t)
  wok : WOk rows sub g S' w'
  val : ∀ tm, AVok sub g.cb S' rows β' tm av v
  eff : match e with
    | .no => β' = β
    | .new vs => ∃ nb, w.heap.size ≤ nb ∧ nb < w'.heap.size ∧ S' nb = none ∧ nb ≠ g.cb ∧ β' = (fun t => if t = dst.getD 0 then nb else β t) ∧ BX sub g S' w' nb vs
    | .put t vs => β' = β ∧ BX sub g S' w' (β t) vs
end

section
variable {rows : List Row} {sub : List (Nat × Nat)} {g : Gh} {S S' S'' : HT} {w w' w'' : World} {β : Nat → Nat}

theorem Stp.refl (x : Nat → Prop) : Stp g S w S w x := ⟨HLe.refl _, Nat.le_refl _, fun b r h => .inl ⟨r, h⟩, fun _ _ _ _ _ => rfl⟩

theorem Stp.trans {x : Nat → Prop} (h : Stp g S w S' w' x) (h' : Stp g S' w' S'' w'' x) : Stp g S w S'' w'' x where
  le := h.le.trans h'.le
  size := Nat.le_trans h.size h'.size
  new := fun b r hb => by
    rcases h'.new b r hb with ⟨r0, h0⟩ | h0
    · exact h.new b r0 h0
    · exact .inr (Nat.le_trans h.size h0)
  keep := fun b hb hs hc hx => by
    have hs' : S' b = none := by
      cases hq : S' b with
      | none => rfl
      | some r =>
        rcases h.new b r hq with ⟨r0, h0⟩ | h0
        · rw [hs] at h0; cases h0
        · omega
    rw [h'.keep b (Nat.lt_of_lt_of_le hb h.size) hs' hc hx, h.keep b hb hs hc hx]

theorem Stp.none {x : Nat → Prop} (h : Stp g S w S' w' x) {b : Nat} (hb : b < w.heap.size) (hs : S b = none) : S' b = none := by
  cases hq : S' b with
  | none => rfl
  | some r =>
    rcases h.new b r hq with ⟨r0, h0⟩ | h0
    · rw [hs] at h0; cases h0
    · omega

theorem RowOk.up {b : Nat} {r : RB} (h : HLe S S') (hr : RowOk rows sub g S w b r) (hb : w'.heap[b]? = w.heap[b]?) : RowOk rows sub g S' w' b r := by
  obtain ⟨R, cells, h1, h2, h3, h4, h5⟩ := hr
  exact ⟨R, cells, h1, hb ▸ h2, h3, h4, fun i hi => (h5 i hi).up h⟩

theorem BX.up {b : Nat} {vs : List (List CT)} (h : HLe S S') (hr : BX sub g S w b vs) (hb : w'.heap[b]? = w.heap[b]?) : BX sub g S' w' b vs := by
  obtain ⟨cells, elem, h1, h2⟩ := hr
  exact ⟨cells, elem, hb ▸ h1, h2.up h⟩

/-- The world behind a new block that is no row. -/
theorem WOk.push (h : WOk rows sub g S w) (o : Obj) (hw : w'.heap = w.heap.push o) (ho : OsEq w w') : WOk rows sub g S w' where
  j := g.keep w w' h.j ho fun b hb => by
    have : b < w.heap.size := by
      rcases hb with hb | rfl
      · exact Nat.lt_of_lt_of_le hb h.b0
      · exact h.cb
    rw [hw, Array.getElem?_push_lt this, Array.getElem?_eq_getElem this]
  b0 := by rw [hw, Array.size_push]; exact Nat.le_succ_of_le h.b0
  cb := by rw [hw, Array.size_push]; exact Nat.lt_succ_of_lt h.cb
  dom := fun b r hb => by
    obtain ⟨h1, h2, h3⟩ := h.dom b r hb
    exact ⟨h1, h2, by rw [hw, Array.size_push]; exact Nat.lt_succ_of_lt h3⟩
  row := fun b r hb => (h.row b r hb).up (HLe.refl _) (by rw [hw, Array.getElem?_push_lt (h.dom b r hb).2.2, Array.getElem?_eq_getElem (h.dom b r hb).2.2])

/-! ### Operands -/
theorem constAV_ok (sub cb S rows β tm) : ∀ v : Value, AVok sub cb S rows β tm (constAV v) v := by
  intro v
  unfold constAV
  split
  · exact ⟨_, List.mem_singleton.2 rfl, rfl⟩
  · exact ⟨_, List.mem_singleton.2 rfl, _, rfl, Int.le_refl _, Int.le_refl _⟩
  · exact ⟨_, List.mem_singleton.2 rfl, _, rfl, Nat.le_refl _, Nat.le_refl _⟩
  · exact ⟨_, List.mem_singleton.2 rfl, none, rfl⟩
  · trivial

theorem flat_ok {sub cb S rows β tm} {a : AV} {v : Value} (h : AVok sub cb S rows β tm a v) : AVok sub cb S rows β tm (flat a) v := by
  cases a <;> first | exact h | trivial

theorem unG_ok {sub cb S rows β tm} {gd : Option (Nat × Bool)} (hg : ∀ t b, gd = some (t, b) → tm.getD t undef = .bool b) {a : AV} {v : Value}
    (h : AVok sub cb S rows β tm a v) : AVok sub cb S rows β tm (unG gd a) v := by
  unfold unG
  split
  · rename_i t b a
    split
    · rename_i e
      exact flat_ok (h (hg t b e))
    · trivial
  · exact h

theorem unP_ok {sub cb S rows β tm} {gd : Option (Nat × Bool)} (hg : ∀ t b, gd = some (t, b) → tm.getD t undef = .bool b) {p : Nat × Bool} (hp : tm.getD p.1 undef = .bool p.2) {a : AV} {v : Value}
    (h : AVok sub cb S rows β tm a v) : AVok sub cb S rows β tm (unP gd p a) v := by
  unfold unP
  split
  · rename_i t b a
    split
    · rename_i e
      rcases e with e | e
      · exact flat_ok (h (hg t b e))
      · subst e
        exact flat_ok (h hp)
    · trivial
  · exact h

/-- A kind without a guard in it says the same whatever stands in the temporaries. -/
def AV.noG : AV → Bool
  | .gd .. => false
  | _ => true

theorem AVok.any {sub cb S rows β tm} {a : AV} (hn : a.noG = true) {v : Value} (h : AVok sub cb S rows β tm a v) (tm' : Array Value) : AVok sub cb S rows β tm' a v := by
  cases a <;> first | exact h | simp [AV.noG] at hn

theorem flat_noG (a : AV) : (flat a).noG = true := by cases a <;> rfl
theorem unG_noG (gd : Option (Nat × Bool)) (a : AV) : (unG gd a).noG = true := by
  unfold unG
  split
  · split
    · exact flat_noG _
    · rfl
  · cases a <;> simp_all [AV.noG]
theorem unP_noG (gd : Option (Nat × Bool)) (p : Nat × Bool) (a : AV) : (unP gd p a).noG = true := by
  unfold unP
  split
  · split
    · exact flat_noG _
    · rfl
  · cases a <;> simp_all [AV.noG]

/-! ### Values of a kind -/
theorem isB_spec {cs : List CT} (h : cs.all CT.isB = true) {sub cb S} {v : Value} (hv : CO sub cb S cs v) : ∃ b, v = .bool b := by
  obtain ⟨c, hc, hv⟩ := hv
  have := List.all_eq_true.1 h c hc
  cases c <;> simp [CT.isB] at this
  · exact hv
  · exact ⟨_, hv⟩

theorem asV_spec {a : AV} {vs : List (List CT)} (h : asV a = some vs) {sub cb S rows β tm} {v : Value} (hv : AVok sub cb S rows β tm a v) : CW sub cb S vs v.cells.toList := by
  cases a with
  | one cs =>
    simp only [asV, Option.some.injEq] at h
    subst h
    obtain ⟨c, hc, hv⟩ := hv
    refine ⟨[c], List.mem_map.2 ⟨c, hc, rfl⟩, ?_⟩
    rw [hv.cells.1]
    exact ⟨hv, trivial⟩
  | agg ws =>
    simp only [asV, Option.some.injEq] at h
    subst h
    obtain ⟨cells, rfl, hv⟩ := hv
    exact hv
  | _ => simp [asV] at h

theorem cut_spec {off n : Nat} {vs r : List (List CT)} (h : cut off n vs = some r) {sub cb S} {l : List Value} (hv : CW sub cb S vs l) :
    off + n ≤ l.length ∧ CW sub cb S r ((l.drop off).take n) := by
  unfold cut at h
  split at h
  · rename_i ha
    simp only [Option.some.injEq] at h
    subst h
    obtain ⟨x, hx, hv⟩ := hv
    have := List.all_eq_true.1 ha x hx
    refine ⟨by rw [hv.length]; simpa using this, (x.drop off).take n, ?_, hv.drop.take⟩
    exact mem_eraseDups (List.mem_map.2 ⟨x, hx, rfl⟩)
  · cases h

/-- What is loaded: a value of so many cells. -/
def valOf (agg : Bool) (l : List Value) : Value := if agg then .agg l.toArray else l.headD undef

theorem ofCells_spec {agg : Bool} {vs : List (List CT)} {a : AV} (h : ofCells agg vs = some a) {sub cb S rows β tm} {l : List Value} (hv : CW sub cb S vs l) :
    AVok sub cb S rows β tm a (valOf agg l) ∧ a.noG = true ∧ (agg = false → l.length = 1) := by
  unfold ofCells at h
  split at h
  · rename_i hb
    subst hb
    simp only [Option.some.injEq] at h
    subst h
    exact ⟨⟨_, rfl, hv⟩, rfl, by simp⟩
  · rename_i hb
    have hb : agg = false := by simpa using hb
    subst hb
    simp only [Option.map_eq_some_iff] at h
    obtain ⟨cs, hcs, rfl⟩ := h
    obtain ⟨x, hx, hv⟩ := hv
    obtain ⟨c, hc, e⟩ := mapM_mem hcs x hx
    match x, hv, e with
    | [d], hv, e =>
      simp only [Option.some.injEq] at e
      subst e
      match l, hv with
      | [v], hv => exact ⟨⟨d, hc, hv.1⟩, rfl, fun _ => rfl⟩

/-! ### Memory that is read -/
theorem add_lit (b off n : Nat) : (⟨b, off, none⟩ : Addr).add n = ⟨b, off + n, none⟩ := by
  unfold Addr.add
  split <;> simp_all

variable {P : Program} {cx : Cx}

theorem run_loadVar (H : CxOk P cx) {t : TypeId} {i : TI} (h : cx.ty t = some i) {b off : Nat} {cells : Array Value} {e : TypeId} {fr : Nat × Nat}
    (hb : w.heap[b]? = some (.cells cells e fr)) (hl : off + i.size ≤ cells.toList.length) (h1 : i.agg = false → ((cells.toList.drop off).take i.size).length = 1) :
    (loadVar t ⟨b, off, none⟩).run P w = .ok (valOf i.agg ((cells.toList.drop off).take i.size)) w := by
  have hpos := (ty_spec H h).1.pos
  have hc : ∀ j, w.cell? ((⟨b, off, none⟩ : Addr).add j) = cells[off + j]? := fun j => by rw [add_lit, cell_of_row w b (off + j) cells e fr hb]
  unfold loadVar
  simp only [Sem.run_bind, run_isAgg H h, Result.andThen_ok]
  cases ha : i.agg with
  | true =>
    have hlc := run_loadCells_list (P := P) w ⟨b, off, none⟩ ((cells.toList.drop off).take i.size) (fun j v hv => by
      rw [hc j]
      rw [List.getElem?_take] at hv
      split at hv
      · simpa using hv
      · cases hv)
    have hlen : ((cells.toList.drop off).take i.size).length = i.size := by simp only [List.length_take, List.length_drop]; omega
    rw [hlen] at hlc
    simp only [if_true, Sem.run_bind, run_sizeOf H h, Result.andThen_ok, hlc, Sem.run_pure, valOf]
  | false =>
    have h0 := hc 0
    simp only [add_lit, Nat.add_zero] at h0
    have hlt : off < cells.size := by simp only [Array.length_toList] at hl; omega
    simp only [Bool.false_eq_true, if_false, run_load, h0, Array.getElem?_eq_getElem hlt, valOf]
    congr 1
    have : (cells.toList.drop off).take i.size = cells.toList[off] :: ((cells.toList.drop (off + 1)).take (i.size - 1)) := by
      rw [List.drop_eq_getElem_cons (by simpa using hlt)]
      obtain ⟨m, hm⟩ : ∃ m, i.size = m + 1 := ⟨i.size - 1, by omega⟩
      rw [hm]
      rfl
    rw [this]
    rfl
end
end Go.Proofs.YtlbcaadflcjpeaaGreatDoor.Va

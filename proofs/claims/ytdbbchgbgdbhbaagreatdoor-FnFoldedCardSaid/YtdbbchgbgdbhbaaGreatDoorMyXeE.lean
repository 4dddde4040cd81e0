/- Code, functions: what the exact run says is so. No condition. -/
import Derived.Test.YtdbbchgbgdbhbaaGreatDoorMyXeY
import Derived.LoopN
import Derived.RangeFuncLeaves
set_option linter.unusedVariables false
set_option linter.unusedSimpArgs false
namespace Go.Proofs.YtdbbchgbgdbhbaaGreatDoor.Xe
open Go

def Ex.to : Ex → Exit
  | .normal => .normal
  | .exit i => .exit i
  | .ret => .ret

section
variable {P : Program} {γ : Gs} {cx : Cx} {g : Gh} {cf : CallF} {nt lo m0 : Nat} {β0 β β' : Bm} {w0 w w' : World} {a : Act} {s s' : St}

/-! ### What code changes -/
theorem iter_pr {f : St → Option (Ex × St)} (hf : ∀ s x s', f s = some (x, s') → m0 ≤ s.nx → Supp s.hp s.nx → Pr m0 s s') : ∀ (n : Nat) (s : St) (x : Ex) (s' : St), iter f n s = some (x, s') → m0 ≤ s.nx → Supp s.hp s.nx → Pr m0 s s'
  | 0, s, x, s', h, _, _ => by simp [iter] at h
  | n + 1, s, x, s', h, hn, hs => by
    simp only [iter] at h
    split at h
    · rename_i s1 h1
      have q := hf _ _ _ h1 hn hs
      exact q.trans (iter_pr hf n s1 x s' h (Nat.le_trans hn q.le) (q.sup hs))
    · exact hf _ _ _ h hn hs

theorem exec_pr (HC : CfPur cf) : ∀ (c : Code) (s : St) (x : Ex) (s' : St), exec cx cf m0 c s = some (x, s') → m0 ≤ s.nx → Supp s.hp s.nx → Pr m0 s s'
  | .skip, s, x, s', h, hn, hs => by
    simp only [exec, Option.some.injEq, Prod.mk.injEq] at h
    obtain ⟨rfl, rfl⟩ := h
    exact Pr.refl _ _
  | .region id ops false, s, x, s', h, hn, hs => by
    simp only [exec, Option.map_eq_some_iff, Prod.mk.injEq] at h
    obtain ⟨s1, h1, rfl, rfl⟩ := h
    exact runOps_pr HC _ _ _ h1 hn hs
  | .region id ops true, s, x, s', h, hn, hs => by
    simp only [exec, Option.map_eq_some_iff, Prod.mk.injEq] at h
    obtain ⟨s1, h1, rfl, rfl⟩ := h
    exact regionD_pr HC h1 hn hs
  | .seq a b, s, x, s', h, hn, hs => by
    simp only [exec] at h
    split at h
    · rename_i s1 h1
      have q := exec_pr HC a s _ s1 h1 hn hs
      exact q.trans (exec_pr HC b s1 x s' h (Nat.le_trans hn q.le) (q.sup hs))
    · exact exec_pr HC a s x s' h hn hs
  | .cond c a b, s, x, s', h, hn, hs => by
    simp only [exec] at h
    split at h
    · exact exec_pr HC a s x s' h hn hs
    · exact exec_pr HC b s x s' h hn hs
    · cases h
  | .block id c, s, x, s', h, hn, hs => by
    simp only [exec] at h
    split at h
    · rename_i i s1 h1
      have q := exec_pr HC c s _ s1 h1 hn hs
      split at h <;> cases h <;> exact q
    · exact exec_pr HC c s x s' h hn hs
  | .loop c, s, x, s', h, hn, hs => by
    simp only [exec] at h
    exact iter_pr (fun s x s' h hn hs => exec_pr HC c s x s' h hn hs) 400 s x s' h hn hs
  | .rangeFunc gop ps assign body, s, x, s', h, hn, hs => by
    simp only [exec] at h
    split at h
    · split at h
      · rename_i ans ha
        cases h
        exact ⟨HC.le _ _ _ _ _ ha hs, fun id hid => mem_logW.2 (.inl hid), fun id hid hw => HC.hp _ _ _ _ _ ha hs id (Nat.lt_of_lt_of_le hid hn) fun hm => hw (mem_logW.2 (.inr ⟨hm, hid⟩)), fun hs => HC.sup _ _ _ _ _ ha hs⟩
      · cases h
    · cases h
  | .exit id, s, x, s', h, hn, hs => by
    simp only [exec, Option.some.injEq, Prod.mk.injEq] at h
    obtain ⟨rfl, rfl⟩ := h
    exact Pr.refl _ _
  | .ret, s, x, s', h, hn, hs => by
    simp only [exec, Option.some.injEq, Prod.mk.injEq] at h
    obtain ⟨rfl, rfl⟩ := h
    exact Pr.refl _ _
  | .scope _, s, x, s', h, _, _ => by simp [exec] at h
  | .label _, s, x, s', h, _, _ => by simp [exec] at h
  | .goto _, s, x, s', h, _, _ => by simp [exec] at h
  | .refuse _, s, x, s', h, _, _ => by simp [exec] at h

/-! ### A block that is set -/
theorem WOk.set {hp : Rd} (h : WOk γ g β hp w) {l : Nat} {ob : Obj} (hl : g.b0 ≤ l) (hc : ∀ cells e fr, w.heap[l]? ≠ some (.cells cells e fr)) : WOk γ g β hp { w with heap := w.heap.setIfInBounds l ob } where
  j := g.keep w _ h.j ⟨rfl, rfl, rfl⟩ fun b hb => by
    simp only [Array.getElem?_setIfInBounds]
    rw [if_neg (by omega)]
  b0 := by simpa using h.b0
  blk := fun id blk hid => (h.blk id blk hid).up (Ble.refl _) fun bk sz hβ => by
    obtain ⟨bk', sz', cells, h1, -, h3, -⟩ := h.blk id blk hid
    rw [hβ] at h1
    cases h1
    simp only [Array.getElem?_setIfInBounds]
    rw [if_neg]
    rintro rfl
    exact hc _ _ _ h3
  inj := h.inj

theorem Mv.set {hp hp' : Rd} {nx nx' : Nat} (h : Mv hp nx β w hp' nx' β' w') {l : Nat} {ob : Obj} (hl : w.heap.size ≤ l) : Mv hp nx β w hp' nx' β' { w' with heap := w'.heap.setIfInBounds l ob } where
  ext := h.ext
  rng := h.rng
  le := h.le
  size := by simpa using h.size
  keep := fun b hb hno => by
    simp only [Array.getElem?_setIfInBounds]
    rw [if_neg (by omega)]
    exact h.keep b hb hno
  new := h.new

theorem DfOk.marks : ∀ {l : List (Option (FuncId × List V))} {ds : List Deferred}, DfOk γ β lo w l ds → ∀ D ∈ marks ds, w.heap[D]? = some (.deferred (some []))
  | [], [], _, D, h => by simp [Xe.marks] at h
  | [], _ :: _, h, _, _ => h.elim
  | some _ :: _, [], h, _, _ => h.elim
  | none :: _, [], h, _, _ => h.elim
  | some (f, args) :: r, d :: ds, h, D, hD => by
    obtain ⟨⟨xs, caps, rfl, h2⟩, h3⟩ := h
    exact h3.marks D (by simpa [Xe.marks] using hD)
  | none :: r, d :: ds, h, D, hD => by
    obtain ⟨⟨D', h1, h2, h3, h4⟩, h5⟩ := h
    have hm0 : Xe.marks (d :: ds) = D' :: Xe.marks ds := by
      unfold Xe.marks
      rw [List.filterMap_cons, h1]
    rw [hm0] at hD
    rcases List.mem_cons.1 hD with rfl | hD
    · exact h3
    · exact h5.marks D hD

/-- Where code comes to. -/
def Post (γ : Gs) (g : Gh) (nt lo : Nat) (s : St) (β : Bm) (w : World) (x : Ex) (s' : St) : Exit → Act → World → Prop := fun e a' w' => e = x.to ∧ ∃ β', SOk γ g nt lo s' β' a' w' ∧ Mv s.hp.get s.nx β w s'.hp.get s'.nx β' w'

theorem Post.trans {s1 s2 : St} {β1 : Bm} {w1 : World} {x : Ex} {e : Exit} (M : Mv s.hp.get s.nx β w s1.hp.get s1.nx β1 w1) (h : Post γ g nt lo s1 β1 w1 x s2 e a w') : Post γ g nt lo s β w x s2 e a w' := by
  obtain ⟨he, β', I, M'⟩ := h
  exact ⟨he, β', I, M.trans M'⟩

theorem iter_sound {c : Code} (hp : ∀ s x s', exec cx cf m0 c s = some (x, s') → m0 ≤ s.nx → Supp s.hp s.nx → Pr m0 s s')
    (ih : ∀ (s : St) (x : Ex) (s' : St), exec cx cf m0 c s = some (x, s') → m0 ≤ s.nx → ∀ (β : Bm) (a : Act) (w : World), SOk γ g nt lo s β a w → lo ≤ w.heap.size → Free β s.nx s'.nx → c.wp P (Post γ g nt lo s β w x s') a w) :
    ∀ (n : Nat) (s : St) (x : Ex) (s' : St), iter (exec cx cf m0 c) n s = some (x, s') → m0 ≤ s.nx → ∀ (β : Bm) (a : Act) (w : World), SOk γ g nt lo s β a w → lo ≤ w.heap.size → Free β s.nx s'.nx → Code.rounds P c (Post γ g nt lo s β w x s') n a w
  | 0, s, x, s', h, _, _, _, _, _, _, _ => by simp [iter] at h
  | n + 1, s, x, s', h, hn, β, a, w, I, hl, hf => by
    simp only [iter] at h
    rw [rounds_succ]
    split at h
    · rename_i s1 h1
      have q := hp _ _ _ h1 hn I.sup
      have q2 := iter_pr hp n s1 x s' h (Nat.le_trans hn q.le) (q.sup I.sup)
      refine wp_mono (ih s _ s1 h1 hn β a w I hl fun id h1 h2 => hf id h1 (Nat.lt_of_lt_of_le h2 q2.le)) fun e a1 w1 hg => ?_
      obtain ⟨rfl, β1, I1, M1⟩ := hg
      have := iter_sound hp ih n s1 x s' h (Nat.le_trans hn q.le) β1 a1 w1 I1 (Nat.le_trans hl M1.size) fun id h1 h2 => by
        rw [M1.rng id (.inr h1)]
        exact hf id (Nat.le_trans q.le h1) h2
      have mono : ∀ (n : Nat) (a : Act) (w2 : World), Code.rounds P c (Post γ g nt lo s1 β1 w1 x s') n a w2 → Code.rounds P c (Post γ g nt lo s β w x s') n a w2 := by
        intro n
        induction n with
        | zero => exact fun _ _ h => h
        | succ n ihn =>
          intro a w2 h
          rw [rounds_succ] at h ⊢
          refine wp_mono h fun e a w h => ?_
          cases e with
          | normal => exact ihn a w h
          | _ => exact Post.trans M1 h
      exact mono n a1 w1 this
    · rename_i hno
      refine wp_mono (ih s x s' h hn β a w I hl hf) fun e a1 w1 hg => ?_
      obtain ⟨rfl, hg⟩ := hg
      cases x with
      | normal => exact absurd h (hno s')
      | exit i => exact ⟨rfl, hg⟩
      | ret => exact ⟨rfl, hg⟩

/-- Ranging over a function that never yields. -/
theorem range_sound (H : CxOk P γ cx) (HC : CfOk P γ g cf) {gop : Operand} {ps : Array Tmp} {assign body : Code} {f : FuncId} {cs : List C} (hg : opV s.tm gop = .c (.f f cs)) {ans : Ans} (ha : cf f (.u :: cs.map .c) s.hp s.nx = some ans)
    (I : SOk γ g nt lo s β a w) (hl : lo ≤ w.heap.size) (hf : Free β s.nx ans.nx) {wr : List Nat} :
    (Code.rangeFunc gop ps assign body).wp P (Post γ g nt lo s β w .normal { s with hp := ans.hp, nx := ans.nx, df := none :: s.df, wr }) a w := by
  obtain ⟨fn, hfn, hbo⟩ := HC.fn _ _ _ _ _ ha
  have hx := opV_ok (γ := γ) (β := β) (tm := s.tm) (a := a) gop fun t _ => I.tm t
  rw [hg] at hx
  have hx := VV.c_iff.1 hx
  simp only [CV] at hx
  obtain ⟨caps, e1, e2⟩ := hx
  refine (wpIn_wide (n := 0)).1 (wpIn_rangeFunc fun fno _ => ?_)
  let r : Loop := { state := .ready, pending := none, fn := fno, tmps := a.tmps, params := ps, assign := assign, body := body, defers := w.heap.size }
  let w1 : World := { w with heap := w.heap.push (.deferred (some [])) }
  let w2 : World := { w1 with heap := w1.heap.push (.loop r) }
  have W1 : WOk γ g β s.hp.get w1 := I.wok.push _ rfl ⟨rfl, rfl, rfl⟩
  have W2 : WOk γ g β s.hp.get w2 := W1.push _ rfl ⟨rfl, rfl, rfl⟩
  have M2 : Mv s.hp.get s.nx β w s.hp.get s.nx β w2 := (Mv.push (w' := w1) _ rfl).trans (Mv.push _ rfl)
  have hs1 : w1.heap.size = w.heap.size + 1 := by simp [w1]
  have hD : w2.heap[w.heap.size]? = some (.deferred (some [])) := by simp [w2, w1, Array.getElem?_push]
  have hL : w2.heap[w.heap.size + 1]? = some (.loop r) := by
    have : w2.heap[w1.heap.size]? = some (.loop r) := by simp [w2]
    rwa [hs1] at this
  have hn : ¬ fn.name = "runtime.NumGoroutine" := by simpa using H.name f fn hfn
  have hbo' : ¬ fn.body = none := fun e => by simp [e] at hbo
  refine ⟨w.heap.size + 1, [{ target := .collected w.heap.size, args := #[] }], w2, { target := .fn (.func f) caps, args := #[.func (.yield (w.heap.size + 1)) #[] #[]] }, w2, f, #[.func (.yield (w.heap.size + 1)) #[] #[]] ++ caps, w2, ?_, ?_, fun _ _ => trivial, ?_, fun h => (by simp [Fence.wide] at h), ?_⟩
  · simp [Instr.enterLoop, newObj, Sem.run, Fence.wide, w1, w2, r]
  · have hc : a.eval (.const (.func (.yield (w.heap.size + 1)) #[] #[])) = .func (.yield (w.heap.size + 1)) #[] #[] := rfl
    simp [resolve, rangeCall, e1, Deferred.ofValue, hc]
  · simp [invoke, callFunc, hfn, hn, hbo']
  · refine callsIn_wide.2 ?_
    have hvl : VL γ β (.u :: cs.map .c) (#[Value.func (.yield (w.heap.size + 1)) #[] #[]] ++ caps).toList := by
      simp only [Array.toList_append]
      exact VL.cons (VV.u _) (VL.ofC e2)
    have hcall := HC.calls _ _ _ _ _ ha β w2 _ W2 I.sup hf hvl
    rw [Array.toArray_toList] at hcall
    refine Calls.mono hcall fun e w3 he => ?_
    obtain ⟨x, β', rfl, h1, h2, h3⟩ := he
    have hL3 : w3.heap[w.heap.size + 1]? = some (.loop r) := by
      rw [h2.keep _ (Array.getElem?_eq_some_iff.1 hL).1 fun id blk sz hid hβ => ?_, hL]
      obtain ⟨bk, sz', cells, q1, -, q3, -⟩ := W2.blk id blk hid
      rw [hβ] at q1
      cases q1
      rw [hL] at q3
      cases q3
    have M3 := M2.trans h2
    refine ⟨none, { w3 with heap := w3.heap.setIfInBounds (w.heap.size + 1) (.loop { r with state := .exhausted }) }, ?_, rfl, β', ⟨?_, HC.sup _ _ _ _ _ ha I.sup, I.size, fun t => (I.tm t).up M3.ext, ?_⟩, M3.set (by omega)⟩
    · simp [Instr.endLoop, Instr.getLoop, getObj, setObj, Sem.run, hL3, r]
    · exact h1.set (by have := I.wok.b0; omega) fun cells e fr h => by rw [hL3] at h; cases h
    · have set3 : ∀ D, D ≠ w.heap.size + 1 → w3.heap[D]? = some (.deferred (some [])) → (w3.heap.setIfInBounds (w.heap.size + 1) (.loop { r with state := .exhausted }))[D]? = some (.deferred (some [])) := fun D hne h => by
        rw [Array.getElem?_setIfInBounds, if_neg (Ne.symm hne)]
        exact h
      refine ⟨⟨w.heap.size, rfl, hl, set3 _ (by omega) (Mv.df W2 h2 hD), fun hm => ?_⟩, I.df.up M3.ext fun D hm h => set3 D ?_ (Mv.df I.wok M3 h)⟩
      · have := I.df.marks _ hm
        have := (Array.getElem?_eq_some_iff.1 this).1
        omega
      · have := (Array.getElem?_eq_some_iff.1 (I.df.marks D hm)).1
        omega

/-- Code. -/
theorem exec_sound (H : CxOk P γ cx) (HC : CfOk P γ g cf) : ∀ (c : Code) (s : St) (x : Ex) (s' : St), exec cx cf m0 c s = some (x, s') → dstOk nt c = true → m0 ≤ s.nx →
    ∀ (β : Bm) (a : Act) (w : World), SOk γ g nt lo s β a w → lo ≤ w.heap.size → Free β s.nx s'.nx → c.wp P (Post γ g nt lo s β w x s') a w
  | .skip, s, x, s', h, hd, hn, β, a, w, I, hl, hf => by
    simp only [exec, Option.some.injEq, Prod.mk.injEq] at h
    obtain ⟨rfl, rfl⟩ := h
    exact wp_skip ⟨rfl, β, I, Mv.refl⟩
  | .region id ops false, s, x, s', h, hd, hn, β, a, w, I, hl, hf => by
    simp only [exec, Option.map_eq_some_iff, Prod.mk.injEq] at h
    obtain ⟨s1, h1, rfl, rfl⟩ := h
    have hdst : ∀ o ∈ ops.toList, ∀ d, o.dst = some d → d < nt := fun o ho d hod => by
      have := Array.all_eq_true'.1 hd o (by simpa using ho)
      rw [hod] at this
      simpa using this
    refine wp_region ?_
    rw [List.range_eq_range']
    exact runOps_sound H HC hdst ops.size 0 s s1 β a w (by omega) (by simpa using h1) hn I hf fun β' a' w' I' M' => ⟨rfl, β', I', M'⟩
  | .region id ops true, s, x, s', h, hd, hn, β, a, w, I, hl, hf => by
    simp only [exec, Option.map_eq_some_iff, Prod.mk.injEq] at h
    obtain ⟨s1, h1, rfl, rfl⟩ := h
    have hdst : ∀ o ∈ ops.toList, ∀ d, o.dst = some d → d < nt := fun o ho d hod => by
      have := Array.all_eq_true'.1 hd o (by simpa using ho)
      rw [hod] at this
      simpa using this
    exact regionD_sound H HC hdst h1 I hf (fun β' a' w' I' M' => ⟨rfl, β', I', M'⟩) id
  | .seq p q, s, x, s', h, hd, hn, β, a, w, I, hl, hf => by
    simp only [dstOk, Bool.and_eq_true] at hd
    simp only [exec] at h
    split at h
    · rename_i s1 h1
      have q1 := exec_pr HC.toCfPur p s _ s1 h1 hn I.sup
      have q2 := exec_pr HC.toCfPur q s1 x s' h (Nat.le_trans hn q1.le) (q1.sup I.sup)
      refine wp_seq (wp_mono (exec_sound H HC p s _ s1 h1 hd.1 hn β a w I hl fun id h1 h2 => hf id h1 (Nat.lt_of_lt_of_le h2 q2.le)) fun e a1 w1 hg => ?_)
      obtain ⟨rfl, β1, I1, M1⟩ := hg
      refine wp_mono (exec_sound H HC q s1 x s' h hd.2 (Nat.le_trans hn q1.le) β1 a1 w1 I1 (Nat.le_trans hl M1.size) fun id h1 h2 => ?_) fun e a2 w2 hg => Post.trans M1 hg
      rw [M1.rng id (.inr h1)]
      exact hf id (Nat.le_trans q1.le h1) h2
    · rename_i hno
      refine wp_seq (wp_mono (exec_sound H HC p s x s' h hd.1 hn β a w I hl hf) fun e a1 w1 hg => ?_)
      obtain ⟨rfl, hg⟩ := hg
      cases x with
      | normal => exact absurd h (hno s')
      | exit i => exact ⟨rfl, hg⟩
      | ret => exact ⟨rfl, hg⟩
  | .cond c p q, s, x, s', h, hd, hn, β, a, w, I, hl, hf => by
    simp only [dstOk, Bool.and_eq_true] at hd
    have hc := opV_ok (γ := γ) (β := β) (tm := s.tm) (a := a) c fun t _ => I.tm t
    simp only [exec] at h
    split at h
    · rename_i hq
      rw [hq] at hc
      exact wp_cond_true (by simpa [VV, CV] using hc) (exec_sound H HC p s x s' h hd.1 hn β a w I hl hf)
    · rename_i hq
      rw [hq] at hc
      exact wp_cond_false (by simpa [VV, CV] using hc) (exec_sound H HC q s x s' h hd.2 hn β a w I hl hf)
    · cases h
  | .block id c, s, x, s', h, hd, hn, β, a, w, I, hl, hf => by
    simp only [dstOk] at hd
    simp only [exec] at h
    split at h
    · rename_i i s1 h1
      have key : s' = s1 ∧ ((i = id ∧ x = .normal) ∨ (i ≠ id ∧ x = .exit i)) := by
        split at h
        · rename_i hi
          cases h
          exact ⟨rfl, .inl ⟨hi, rfl⟩⟩
        · rename_i hi
          cases h
          exact ⟨rfl, .inr ⟨hi, rfl⟩⟩
      obtain ⟨rfl, key⟩ := key
      refine wp_block (wp_mono (exec_sound H HC c s _ s' h1 hd hn β a w I hl hf) fun e a1 w1 hg => ?_)
      obtain ⟨rfl, hg⟩ := hg
      rcases key with ⟨hi, rfl⟩ | ⟨hi, rfl⟩
      · simp only [Ex.to, Exit.inBlock, if_pos hi]
        exact ⟨rfl, hg⟩
      · simp only [Ex.to, Exit.inBlock, if_neg hi]
        exact ⟨rfl, hg⟩
    · rename_i hno
      refine wp_block (wp_mono (exec_sound H HC c s x s' h hd hn β a w I hl hf) fun e a1 w1 hg => ?_)
      obtain ⟨rfl, hg⟩ := hg
      cases x with
      | normal => exact ⟨rfl, hg⟩
      | exit i => exact absurd h (hno i s')
      | ret => exact ⟨rfl, hg⟩
  | .loop c, s, x, s', h, hd, hn, β, a, w, I, hl, hf => by
    simp only [dstOk] at hd
    simp only [exec] at h
    exact wp_loop_rounds 400 (iter_sound (fun s x s' h hn hs => exec_pr HC.toCfPur c s x s' h hn hs) (fun s x s' h hn β a w I hl hf => exec_sound H HC c s x s' h hd hn β a w I hl hf) 400 s x s' h hn β a w I hl hf)
  | .rangeFunc gop ps assign body, s, x, s', h, hd, hn, β, a, w, I, hl, hf => by
    simp only [exec] at h
    split at h
    · rename_i f cs hg
      split at h
      · rename_i ans ha
        cases h
        exact range_sound H HC hg ha I hl hf
      · cases h
    · cases h
  | .exit id, s, x, s', h, hd, hn, β, a, w, I, hl, hf => by
    simp only [exec, Option.some.injEq, Prod.mk.injEq] at h
    obtain ⟨rfl, rfl⟩ := h
    exact wp_exit ⟨rfl, β, I, Mv.refl⟩
  | .ret, s, x, s', h, hd, hn, β, a, w, I, hl, hf => by
    simp only [exec, Option.some.injEq, Prod.mk.injEq] at h
    obtain ⟨rfl, rfl⟩ := h
    exact wp_ret ⟨rfl, β, I, Mv.refl⟩
  | .scope _, s, x, s', h, _, _, _, _, _, _, _, _ => by simp [exec] at h
  | .label _, s, x, s', h, _, _, _, _, _, _, _, _ => by simp [exec] at h
  | .goto _, s, x, s', h, _, _, _, _, _, _, _, _ => by simp [exec] at h
  | .refuse _, s, x, s', h, _, _, _, _, _, _, _, _ => by simp [exec] at h

/-! ### What a function gives -/
def rd (tm : Array Value) : ResultVar → Sem Value
  | .tmp t => pure (tm.getD t undef)
  | .cell b t => do loadVar t (← asAddr (tm.getD b undef))

theorem results_eq (fn : Func) (tm : Array Value) : results fn tm = (do let vs ← fn.results.mapM (rd tm); pure (if h : vs.size = 1 then vs[0] else .tuple vs)) := by
  unfold results
  congr 1

theorem resV_sound (H : CxOk P γ cx) {tm : List (Nat × V)} {hp : Hp} {tmps : Array Value} (W : WOk γ g β hp.get w) (htm : ∀ t, VV γ β (lkT tm t) (tmps.getD t undef)) {r : ResultVar} {v : V} (h : resV cx tm hp r = some v) :
    ∃ x, (rd tmps r).run P w = .ok x w ∧ VV γ β v x := by
  cases r with
  | tmp t =>
    simp only [resV, Option.some.injEq] at h
    subst h
    exact ⟨_, rfl, htm t⟩
  | cell b t =>
    simp only [resV, Option.bind_eq_some_iff] at h
    obtain ⟨i, hi, h⟩ := h
    split at h
    · rename_i id off hb
      simp only [Option.bind_eq_some_iff] at h
      obtain ⟨blk, hblk, l, hl, hr⟩ := h
      have hx := htm b
      rw [hb] at hx
      have hx := VV.c_iff.1 hx
      simp only [CV] at hx
      obtain ⟨bk', sz', e1, e2⟩ := hx
      obtain ⟨bk, sz, cells, h1, h2, -, h4, -, h5⟩ := blk_cut W hblk hl
      rw [h1] at e1
      cases e1
      obtain ⟨hv, h6⟩ := ofCells_spec hr h5
      exact ⟨_, by simp [rd, e2, asAddr, run_loadVar H hi h2 h4 h6], hv⟩
    · cases h

theorem resL_sound (H : CxOk P γ cx) {tm : List (Nat × V)} {hp : Hp} {tmps : Array Value} (W : WOk γ g β hp.get w) (htm : ∀ t, VV γ β (lkT tm t) (tmps.getD t undef)) : ∀ {l : List ResultVar} {vs : List V}, l.mapM (resV cx tm hp) = some vs →
    ∃ xs : List Value, (l.mapM (rd tmps)).run P w = .ok xs w ∧ VL γ β vs xs
  | [], vs, h => by
    simp only [List.mapM_nil, Option.pure_def, Option.some.injEq] at h
    subst h
    exact ⟨[], by simp, VL.nil⟩
  | r :: l, vs, h => by
    simp only [List.mapM_cons, Option.bind_eq_bind, Option.bind_eq_some_iff, Option.pure_def, Option.some.injEq] at h
    obtain ⟨v, hv, vs', hvs, rfl⟩ := h
    obtain ⟨x, hx, hxv⟩ := resV_sound H W htm hv
    obtain ⟨xs, hxs, hl⟩ := resL_sound H W htm hvs
    exact ⟨x :: xs, by simp [List.mapM_cons, hx, hxs], VL.cons hxv hl⟩

theorem results_sound (H : CxOk P γ cx) {tm : List (Nat × V)} {hp : Hp} {tmps : Array Value} (W : WOk γ g β hp.get w) (htm : ∀ t, VV γ β (lkT tm t) (tmps.getD t undef)) {fn : Func} {vs : List V} (h : fn.results.toList.mapM (resV cx tm hp) = some vs) :
    ∃ x, (results fn tmps).run P w = .ok x w ∧ VV γ β (one vs) x := by
  obtain ⟨xs, hx, hl⟩ := resL_sound (P := P) H W htm h
  refine ⟨if h : xs.toArray.size = 1 then xs.toArray[0] else .tuple xs.toArray, ?_, ?_⟩
  · rw [results_eq, Array.mapM_eq_mapM_toList]
    simp only [bind_map_left, Sem.run_bind, hx, Result.andThen_ok, Sem.run_pure]
  · have hlen := hl.length
    match vs, xs, hl, hlen with
    | [], [], hl, _ =>
      rw [dif_neg (by simp)]
      exact VV.tup_iff.2 ⟨_, rfl, by simpa using hl⟩
    | [v], [x], hl, _ => exact hl.cons_inv.1
    | v :: v' :: vs, x :: x' :: xs, hl, _ =>
      rw [dif_neg (by simp)]
      exact VV.tup_iff.2 ⟨_, rfl, by simpa using hl⟩

theorem start_get : ∀ (args : List V) (k t : Nat), lkT (start args k) (k + t) = (args[t]?).getD .u
  | [], k, t => by simp [start, lkT]
  | v :: r, k, t => by
    simp only [start, lkT]
    cases t with
    | zero =>
      have : Nat.beq k (k + 0) = true := Nat.beq_refl k
      rw [this]
      rfl
    | succ t =>
      have : Nat.beq k (k + (t + 1)) = false := by
        cases h : Nat.beq k (k + (t + 1)) with
        | false => rfl
        | true => have := Nat.eq_of_beq_eq_true h; omega
      rw [this]
      have ih := start_get r (k + 1) t
      rw [show k + (t + 1) = k + 1 + t by omega]
      simpa using ih

/-- A function's body. -/
theorem run1_sound (H : CxOk P γ cx) (HC : CfOk P γ g cf) {f : FuncId} {fn : Func} (hfn : P.funcs[f]? = some fn) {args : List V} {hp : Hp} {nx : Nat} (h : run1 cx cf fn args hp nx = some s) (W : WOk γ g β hp.get w) (hs : Supp hp nx) (hf : Free β nx s.nx)
    {xs : List Value} (hx : VL γ β args xs) : ∃ c, fn.body = some c ∧ nx ≤ s.nx ∧
      c.wp P (fun e a' w' => (e = .normal ∨ e = .ret) ∧ ∃ β', SOk γ g fn.ntmps w.heap.size s β' a' w' ∧ Mv hp.get nx β w s.hp.get s.nx β' w') { tmps := xs.toArray ++ Array.replicate (fn.ntmps - xs.toArray.size) undef, defers := [] } w := by
  unfold run1 at h
  split at h
  · rename_i c hc
    split at h
    · have I0 : SOk γ g fn.ntmps w.heap.size { tm := start args 0, hp, nx, df := [], wr := [] } β { tmps := xs.toArray ++ Array.replicate (fn.ntmps - xs.toArray.size) undef, defers := [] } w := by
        refine ⟨W, hs, by simp; omega, fun t => ?_, trivial⟩
        have hst := start_get args 0 t
        rw [Nat.zero_add] at hst
        simp only [hst]
        cases hA : args[t]? with
        | none => exact VV.u _
        | some A =>
          obtain ⟨v, hv, hok⟩ := hx.at hA
          have hlt : t < xs.length := (List.getElem?_eq_some_iff.1 hv).1
          have : (xs.toArray ++ Array.replicate (fn.ntmps - xs.toArray.size) undef).getD t undef = v := by
            simp only [Array.getD_eq_getD_getElem?]
            rw [Array.getElem?_append_left (by simpa using hlt)]
            simp [hv]
          rw [Option.getD_some, this]
          exact hok
      have go : ∀ x, exec cx cf nx c { tm := start args 0, hp, nx, df := [], wr := [] } = some (x, s) → (x = .normal ∨ x = .ret) → _ := fun x hex hxx => by
        have q := exec_pr HC.toCfPur c _ x s hex (Nat.le_refl _) hs
        exact (⟨c, hc, q.le, wp_mono (exec_sound H HC c _ x s hex (H.dst f fn c hfn hc) (Nat.le_refl _) β _ w I0 (Nat.le_refl _) hf) fun e a' w' hg => by
          obtain ⟨rfl, hg⟩ := hg
          exact ⟨by rcases hxx with rfl | rfl <;> simp [Ex.to], hg⟩⟩ : ∃ c, fn.body = some c ∧ nx ≤ s.nx ∧
      c.wp P (fun e a' w' => (e = .normal ∨ e = .ret) ∧ ∃ β', SOk γ g fn.ntmps w.heap.size s β' a' w' ∧ Mv hp.get nx β w s.hp.get s.nx β' w') { tmps := xs.toArray ++ Array.replicate (fn.ntmps - xs.toArray.size) undef, defers := [] } w)
      split at h
      · rename_i s1 hex
        cases h
        exact go _ hex (.inl rfl)
      · rename_i s1 hex
        cases h
        exact go _ hex (.inr rfl)
      · cases h
    · cases h
  · cases h

theorem run1_pr (HC : CfPur cf) {fn : Func} {args : List V} {hp : Hp} {nx : Nat} (h : run1 cx cf fn args hp nx = some s) (hs : Supp hp nx) : Pr nx { tm := start args 0, hp, nx, df := [], wr := [] } s := by
  unfold run1 at h
  split at h
  · split at h
    · split at h
      · rename_i s1 hex
        cases h
        exact exec_pr HC _ _ _ _ hex (Nat.le_refl _) hs
      · rename_i s1 hex
        cases h
        exact exec_pr HC _ _ _ _ hex (Nat.le_refl _) hs
      · cases h
    · cases h
  · cases h

theorem runDf_pr (HC : CfPur cf) : ∀ (df : List (Option (FuncId × List V))) (hp : Hp) (nx : Nat) (wr : List Nat) (hp' : Hp) (nx' : Nat) (wr' : List Nat), runDf P cx cf m0 df hp nx wr = some (hp', nx', wr') → m0 ≤ nx → Supp hp nx →
    nx ≤ nx' ∧ (∀ id, id ∈ wr → id ∈ wr') ∧ (∀ id, id < m0 → id ∉ wr' → hp'.get id = hp.get id) ∧ Supp hp' nx'
  | [], hp, nx, wr, hp', nx', wr', h, hn, hs => by
    simp only [runDf, Option.some.injEq, Prod.mk.injEq] at h
    obtain ⟨rfl, rfl, rfl⟩ := h
    exact ⟨Nat.le_refl _, fun _ h => h, fun _ _ _ => rfl, hs⟩
  | none :: r, hp, nx, wr, hp', nx', wr', h, hn, hs => by
    simp only [runDf] at h
    exact runDf_pr HC r hp nx wr hp' nx' wr' h hn hs
  | some (f, args) :: r, hp, nx, wr, hp', nx', wr', h, hn, hs => by
    simp only [runDf] at h
    split at h
    · split at h
      · rename_i s1 h1
        have q := run1_pr HC h1 hs
        split at h
        · obtain ⟨q1, q2, q3, q4⟩ := runDf_pr HC r s1.hp s1.nx _ hp' nx' wr' h (Nat.le_trans hn q.le) (q.sup hs)
          refine ⟨Nat.le_trans q.le q1, fun id hid => q2 id (mem_logW.2 (.inl hid)), fun id hid hw => ?_, q4⟩
          rw [q3 id hid hw]
          exact q.hp id (Nat.lt_of_lt_of_le hid hn) fun hm => hw (q2 id (mem_logW.2 (.inr ⟨hm, hid⟩)))
        · cases h
      · cases h
    · cases h

/-- A function on its way out. -/
theorem runDf_sound (H : CxOk P γ cx) (HC : CfOk P γ g cf) {fn : Func} {tm : List (Nat × V)} {tmps : Array Value} {hp0 : Rd} {nx0 : Nat} {R : Ending → World → Prop} (hb0 : g.b0 ≤ w0.heap.size) : ∀ (df : List (Option (FuncId × List V))) (ds : List Deferred) (hp : Hp) (nx : Nat) (wr : List Nat) (hp' : Hp) (nx' : Nat) (wr' : List Nat) (β : Bm) (w : World),
    runDf P cx cf m0 df hp nx wr = some (hp', nx', wr') → DfOk γ β w0.heap.size w df ds → WOk γ g β hp.get w → Supp hp nx → Free β nx nx' → m0 ≤ nx → Mv hp0 nx0 β0 w0 hp.get nx β w → (∀ t, VV γ β (lkT tm t) (tmps.getD t undef)) →
    (∀ β' w', WOk γ g β' hp'.get w' → Mv hp0 nx0 β0 w0 hp'.get nx' β' w' → (∀ t, VV γ β' (lkT tm t) (tmps.getD t undef)) → ∃ v, (results fn tmps).run P w' = .ok v w' ∧ R (.returned v) w') → LeavesInM Fence.wide 0 P fn tmps R ds .returning w
  | [], [], hp, nx, wr, hp', nx', wr', β, w, h, hD, W, hs, hf, hn, M, htm, hR => by
    simp only [runDf, Option.some.injEq, Prod.mk.injEq] at h
    obtain ⟨rfl, rfl, rfl⟩ := h
    exact hR β w W M htm
  | [], _ :: _, _, _, _, _, _, _, _, _, _, hD, _, _, _, _, _, _, _ => hD.elim
  | some _ :: _, [], _, _, _, _, _, _, _, _, _, hD, _, _, _, _, _, _, _ => hD.elim
  | none :: _, [], _, _, _, _, _, _, _, _, _, hD, _, _, _, _, _, _, _ => hD.elim
  | none :: r, d :: ds, hp, nx, wr, hp', nx', wr', β, w, h, hD, W, hs, hf, hn, M, htm, hR => by
    obtain ⟨⟨D, e1, e2, e3, e4⟩, hD'⟩ := hD
    simp only [runDf] at h
    refine ⟨by simp, .inl ⟨D, { w with heap := w.heap.setIfInBounds D (.deferred none) }, e1, ?_, ?_⟩⟩
    · simp [Instr.takeDeferred, getObj, setObj, Sem.run, e3]
    · refine runDf_sound H HC hb0 r ds hp nx wr hp' nx' wr' β _ h (hD'.up (Ble.refl _) fun D' hm h => ?_) (W.set (by omega) fun cells e fr hh => by rw [e3] at hh; cases hh) hs hf hn (M.set e2) htm hR
      simp only [Array.getElem?_setIfInBounds]
      rw [if_neg (fun e => e4 (by rw [e]; exact hm))]
      exact h
  | some (f, args) :: r, d :: ds, hp, nx, wr, hp', nx', wr', β, w, h, hD, W, hs, hf, hn, M, htm, hR => by
    obtain ⟨⟨xs, caps, rfl, hx⟩, hD'⟩ := hD
    simp only [runDf] at h
    split at h
    · rename_i fn' hfn'
      split at h
      · rename_i s1 h1
        have q := run1_pr HC.toCfPur h1 hs
        split at h
        · rename_i vs hdf hvs
          have q2 := runDf_pr HC.toCfPur r s1.hp s1.nx _ hp' nx' wr' h (Nat.le_trans hn q.le) (q.sup hs)
          obtain ⟨c, hc, -, hwp⟩ := run1_sound H HC hfn' h1 W hs (fun id h1 h2 => hf id h1 (Nat.lt_of_lt_of_le h2 q2.1)) hx
          rw [Array.toArray_toList] at hwp
          have hn' : ¬ fn'.name = "runtime.NumGoroutine" := by simpa using H.name f fn' hfn'
          have hbo' : ¬ fn'.body = none := fun e => by simp [e] at hc
          refine ⟨by simp, .inr ⟨fun h => (by simp [Fence.wide] at h), .func f, caps, f, xs ++ caps, rfl, by simp [invoke, callFunc, hfn', hn', hbo'], fun _ _ => trivial, ?_⟩⟩
          refine CallsDIn.mono (callsDIn_of_wp (R := fun e w' => ∃ v, e = .returned v ∧ LeavesInM Fence.wide 0 P fn tmps R ds .returning w') hfn' hc trivial ((wpIn_wide (n := 0 - 1)).2 (wp_mono hwp fun e a' w' hg => ?_))) fun e u' w' he => ?_
          · obtain ⟨he, β', I, M'⟩ := hg
            have hdfs : a'.defers = [] := by
              have := I.df
              rw [hdf] at this
              cases hq : a'.defers with
              | nil => rfl
              | cons _ _ => rw [hq] at this; exact this.elim
            obtain ⟨v, hv, -⟩ := results_sound H I.wok I.tm hvs
            have key : a'.defers = [] ∧ ∃ v, (results fn' a'.tmps).run P w' = .ok v w' ∧ ∃ v', Ending.returned v = .returned v' ∧ LeavesInM Fence.wide 0 P fn tmps R ds .returning w' := by
              refine ⟨hdfs, v, hv, v, rfl, ?_⟩
              refine runDf_sound H HC hb0 r ds s1.hp s1.nx _ hp' nx' wr' β' w' h (hD'.up M'.ext fun D _ h => Mv.df W M' h) I.wok I.sup (fun id h1 h2 => ?_) (Nat.le_trans hn q.le) (M.trans M') (fun t => (htm t).up M'.ext) hR
              rw [M'.rng id (.inr h1)]
              exact hf id (Nat.le_trans q.le h1) h2
            rcases he with rfl | rfl
            · exact key
            · exact key
          · obtain ⟨rfl, v, rfl, hl⟩ := he
            exact hl
        · cases h
      · cases h
    · cases h

end
end Go.Proofs.YtdbbchgbgdbhbaaGreatDoor.Xe

/- What the checker says of a function is so. No condition. -/
import Derived.Test.YtlbcaadflcjpeaaGreatDoorMyVaX
import Derived.LoopN
import Derived.Test.YtlbcaadflcjpeaaGreatDoorMyVa
import Derived.KernelRfl
set_option linter.unusedVariables false
set_option linter.unusedSimpArgs false
namespace Go.Proofs.YtlbcaadflcjpeaaGreatDoor.Va
open Go

def Ex.to : Ex → Exit
  | .normal => .normal
  | .exit i => .exit i
  | .ret => .ret

section
variable {P : Program} {cx : Cx} {g : Gh} {S0 S : HT} {w0 w : World} {s : St} {β : Nat → Nat} {a : Act}

/-- One of the ends that are listed. -/
def Good (cx : Cx) (g : Gh) (S0 : HT) (w0 : World) (l : List (Ex × St)) : Exit → Act → World → Prop := fun e a w => ∃ x s S β, (x, s) ∈ l ∧ e = x.to ∧ SOk cx g S0 w0 s S β a w

theorem SOk.set (I : SOk cx g S0 w0 s S β a w) {t : Nat} {A : AV} (h : AVok cx.sub g.cb S cx.rows β a.tmps A (a.tmps.getD t undef)) : SOk cx g S0 w0 { s with tm := (t, A) :: s.tm.filter (·.1 != t) } S β a w := by
  have hg : ∀ u, St.get { s with tm := (t, A) :: s.tm.filter (·.1 != t) } u = if some t = some u then A else s.get u := fun u => get_put s (some t) A .no u
  refine ⟨I.wok, I.stp, I.size, I.df, fun u => ?_, I.bx, I.lv, I.inj⟩
  rw [hg]
  split
  · rename_i e
    cases e
    exact h
  · exact I.tm u

theorem numbers_sound {A : AV} {v : Value} {sub cb rows tm} (h : AVok sub cb S rows β tm A v) : ∃ B ∈ numbers A, AVok sub cb S rows β tm B v := by
  unfold numbers
  split
  · rename_i k lo hi
    split
    · rename_i hb
      obtain ⟨c, hc, hv⟩ := h
      rw [List.mem_singleton] at hc
      subst hc
      obtain ⟨n, rfl, h1, h2⟩ := hv
      refine ⟨_, List.mem_map.2 ⟨(n - lo).toNat, List.mem_range.2 (by omega), rfl⟩, _, List.mem_singleton.2 rfl, n, rfl, ?_, ?_⟩ <;> omega
    · exact ⟨_, List.mem_singleton.2 rfl, h⟩
  · exact ⟨_, List.mem_singleton.2 rfl, h⟩

theorem values_sound : ∀ (ts : List Tmp) {s : St}, SOk cx g S0 w0 s S β a w → ∃ s' ∈ values ts s, SOk cx g S0 w0 s' S β a w
  | [], s, I => ⟨s, List.mem_singleton.2 rfl, I⟩
  | t :: r, s, I => by
    obtain ⟨B, hB, hv⟩ := numbers_sound (I.tm t)
    obtain ⟨s', hs', I'⟩ := values_sound r (I.set hv)
    exact ⟨s', List.mem_flatMap.2 ⟨B, hB, hs'⟩, I'⟩

theorem thenAll_spec {f : St → Option (List (Ex × St))} : ∀ {l r : List (Ex × St)}, thenAll f l = some r → ∀ x s, (x, s) ∈ l → (x = .normal ∧ ∃ b, f s = some b ∧ ∀ y ∈ b, y ∈ r) ∨ (x ≠ .normal ∧ (x, s) ∈ r)
  | [], r, h, x, s, hm => by cases hm
  | (y, u) :: l, r, h, x, s, hm => by
    cases y with
    | normal =>
      simp only [thenAll, Option.bind_eq_some_iff, Option.map_eq_some_iff] at h
      obtain ⟨b, hb, c, hc, rfl⟩ := h
      rcases List.mem_cons.1 hm with e | hm
      · cases e
        exact .inl ⟨rfl, b, hb, fun z hz => List.mem_append_left _ hz⟩
      · rcases thenAll_spec hc x s hm with ⟨h1, b', h2, h3⟩ | ⟨h1, h2⟩
        · exact .inl ⟨h1, b', h2, fun z hz => List.mem_append_right _ (h3 z hz)⟩
        · exact .inr ⟨h1, List.mem_append_right _ h2⟩
    | _ =>
      simp only [thenAll, Option.map_eq_some_iff] at h
      obtain ⟨c, hc, rfl⟩ := h
      rcases List.mem_cons.1 hm with e | hm
      · cases e
        exact .inr ⟨by simp, List.mem_cons_self⟩
      · rcases thenAll_spec hc x s hm with ⟨h1, b', h2, h3⟩ | ⟨h1, h2⟩
        · exact .inl ⟨h1, b', h2, fun z hz => List.mem_cons_of_mem _ (h3 z hz)⟩
        · exact .inr ⟨h1, List.mem_cons_of_mem _ h2⟩

theorem mem_normals {l : List (Ex × St)} {s : St} (h : (Ex.normal, s) ∈ l) : s ∈ normals l := List.mem_filterMap.2 ⟨_, h, rfl⟩

theorem mem_others {l : List (Ex × St)} {x : Ex} {s : St} (h : (x, s) ∈ l) (hx : x ≠ .normal) : (x, s) ∈ others l := by
  refine List.mem_filter.2 ⟨h, ?_⟩
  cases x <;> first | rfl | exact absurd rfl hx

theorem bool_of {x : Operand} {cs : List CT} (I : SOk cx g S0 w0 s S β a w) (h : opAV s x = .one cs) : CO cx.sub g.cb S cs (a.eval x) := by
  cases x with
  | tmp t =>
    have := I.tm t
    have h : s.get t = .one cs := h
    rw [h] at this
    exact this
  | const v =>
    have := constAV_ok cx.sub g.cb S cx.rows β a.tmps v
    have h : constAV v = .one cs := h
    rw [h] at this
    exact this
  | global _ => simp [opAV] at h
  | func _ => simp [opAV] at h

theorem Good.mono {l r : List (Ex × St)} (h : ∀ y ∈ l, y ∈ r) {e : Exit} {a : Act} {w : World} (hg : Good cx g S0 w0 l e a w) : Good cx g S0 w0 r e a w := by
  obtain ⟨x, s, S, β, hm, he, I⟩ := hg
  exact ⟨x, s, S, β, h _ hm, he, I⟩

/-- Rounds. -/
theorem iter_sound {c : Code} (ih : ∀ (s : St) (l : List (Ex × St)), exec cx c s = some l → ∀ (S : HT) (β : Nat → Nat) (a : Act) (w : World), SOk cx g S0 w0 s S β a w → c.wp P (Good cx g S0 w0 l) a w) :
    ∀ (n : Nat) (ss : List St) (r : List (Ex × St)), iter (exec cx c) n ss = some r → ∀ s ∈ ss, ∀ (S : HT) (β : Nat → Nat) (a : Act) (w : World), SOk cx g S0 w0 s S β a w → Code.rounds P c (Good cx g S0 w0 r) n a w
  | _, [], _, _, s, hs, _, _, _, _, _ => by cases hs
  | 0, _ :: _, _, h, _, _, _, _, _, _, _ => by simp [iter] at h
  | n + 1, u :: ss, r, h, s, hs, S, β, a, w, I => by
    rw [iter.eq_3 _ _ _ (by simp)] at h
    simp only [Option.bind_eq_some_iff, Option.map_eq_some_iff] at h
    obtain ⟨l, hl, q, hq, rfl⟩ := h
    obtain ⟨ls, hls, hex⟩ := mapM_mem hl s hs
    rw [rounds_succ]
    refine wp_mono (ih s ls hex S β a w I) fun e a' w' hg => ?_
    obtain ⟨x, s', S', β', hm, rfl, I'⟩ := hg
    have hmf : (x, s') ∈ l.flatten := List.mem_flatten.2 ⟨ls, hls, hm⟩
    by_cases hx : x = .normal
    · subst hx
      have := iter_sound ih n _ q hq s' (mem_eraseDups (mem_normals hmf)) S' β' a' w' I'
      show Code.rounds P c _ n a' w'
      -- more ends
      have mono : ∀ (n : Nat) (a : Act) (w : World), Code.rounds P c (Good cx g S0 w0 q) n a w → Code.rounds P c (Good cx g S0 w0 (others l.flatten ++ q)) n a w := by
        intro n
        induction n with
        | zero => exact fun _ _ h => h
        | succ n ihn =>
          intro a w h
          rw [rounds_succ] at h ⊢
          refine wp_mono h fun e a w h => ?_
          cases e with
          | normal => exact ihn a w h
          | _ => exact Good.mono (fun y hy => List.mem_append_right _ hy) h
      exact mono n a' w' this
    · have hgood : Good cx g S0 w0 (others l.flatten ++ q) x.to a' w' := ⟨x, s', S', β', List.mem_append_left _ (mem_others hmf hx), rfl, I'⟩
      cases x with
      | normal => exact absurd rfl hx
      | exit i => exact hgood
      | ret => exact hgood

/-- Code. -/
theorem exec_sound (H : CxOk P cx) (HI : ∀ i ∈ cx.insts, InstOk P cx g i) (hm : P.follows .mixedOrders = true) (hb0 : g.b0 ≤ w0.heap.size) : ∀ (c : Code) (s : St) (l : List (Ex × St)), exec cx c s = some l →
    ∀ (S : HT) (β : Nat → Nat) (a : Act) (w : World), SOk cx g S0 w0 s S β a w → c.wp P (Good cx g S0 w0 l) a w
  | .skip, s, l, h, S, β, a, w, I => by
    simp only [exec, Option.some.injEq] at h
    subst h
    exact wp_skip ⟨.normal, s, S, β, List.mem_singleton.2 rfl, rfl, I⟩
  | .region id ops d, s, l, h, S, β, a, w, I => by
    simp only [exec, Option.map_eq_some_iff] at h
    obtain ⟨s', hs, rfl⟩ := h
    refine region_sound H HI hm hb0 hs I (fun S' β' a' w' I' => ?_) id d
    obtain ⟨s'', hm, I''⟩ := values_sound _ I'
    exact ⟨.normal, s'', S', β', List.mem_map.2 ⟨s'', hm, rfl⟩, rfl, I''⟩
  | .seq x y, s, l, h, S, β, a, w, I => by
    simp only [exec, Option.bind_eq_some_iff, Option.map_eq_some_iff] at h
    obtain ⟨l1, h1, l2, h2, rfl⟩ := h
    refine wp_seq (wp_mono (exec_sound H HI hm hb0 x s l1 h1 S β a w I) fun e a' w' hg => ?_)
    obtain ⟨z, s', S', β', hm', rfl, I'⟩ := hg
    rcases thenAll_spec h2 z s' hm' with ⟨rfl, b, hb, hin⟩ | ⟨hz, hin⟩
    · exact wp_mono (exec_sound H HI hm hb0 y s' b hb S' β' a' w' I') fun e a w h => h.mono fun y hy => mem_eraseDups (hin y hy)
    · have hgood : Good cx g S0 w0 l2.eraseDups z.to a' w' := ⟨z, s', S', β', mem_eraseDups hin, rfl, I'⟩
      cases z with
      | normal => exact absurd rfl hz
      | exit i => exact hgood
      | ret => exact hgood
  | .cond c x y, s, l, h, S, β, a, w, I => by
    simp only [exec] at h
    split at h
    · rename_i hc
      obtain ⟨q, hq, hv⟩ := bool_of I hc
      rw [List.mem_singleton] at hq
      subst hq
      exact wp_cond_true hv (exec_sound H HI hm hb0 x s l h S β a w I)
    · rename_i hc
      obtain ⟨q, hq, hv⟩ := bool_of I hc
      rw [List.mem_singleton] at hq
      subst hq
      exact wp_cond_false hv (exec_sound H HI hm hb0 y s l h S β a w I)
    · rename_i cs _ _ hc
      split at h
      · rename_i hB
        simp only [Option.bind_eq_some_iff, Option.map_eq_some_iff] at h
        obtain ⟨l1, h1, l2, h2, rfl⟩ := h
        obtain ⟨b, hb⟩ := isB_spec hB (bool_of I hc)
        refine wp_cond_split hb (fun _ => ?_) fun _ => ?_
        · exact wp_mono (exec_sound H HI hm hb0 x s l1 h1 S β a w I) fun e a w h => h.mono fun y hy => List.mem_append_left _ hy
        · exact wp_mono (exec_sound H HI hm hb0 y s l2 h2 S β a w I) fun e a w h => h.mono fun y hy => List.mem_append_right _ hy
      · cases h
    · cases h
  | .block id c, s, l, h, S, β, a, w, I => by
    simp only [exec, Option.map_eq_some_iff] at h
    obtain ⟨l1, h1, rfl⟩ := h
    refine wp_block (wp_mono (exec_sound H HI hm hb0 c s l1 h1 S β a w I) fun e a' w' hg => ?_)
    obtain ⟨z, s', S', β', hm', rfl, I'⟩ := hg
    have key : ∀ z', reBlock id (z, s') = (z', s') → Good cx g S0 w0 _ z'.to a' w' := fun z' hz =>
      ⟨z', s', S', β', mem_eraseDups (List.mem_map.2 ⟨(z, s'), hm', hz⟩), rfl, I'⟩
    cases z with
    | normal => exact key .normal rfl
    | ret => exact key .ret rfl
    | exit i =>
      by_cases hi : i = id
      · simp only [Ex.to, Exit.inBlock, if_pos hi]
        exact key .normal (by simp [reBlock, hi])
      · simp only [Ex.to, Exit.inBlock, if_neg hi]
        exact key (.exit i) (by simp [reBlock, hi])
  | .loop c, s, l, h, S, β, a, w, I => by
    simp only [exec] at h
    exact wp_loop_rounds 80 (iter_sound (fun s l h S β a w I => exec_sound H HI hm hb0 c s l h S β a w I) 80 [s] l h s (List.mem_singleton.2 rfl) S β a w I)
  | .exit id, s, l, h, S, β, a, w, I => by
    simp only [exec, Option.some.injEq] at h
    subst h
    exact wp_exit ⟨.exit id, s, S, β, List.mem_singleton.2 rfl, rfl, I⟩
  | .ret, s, l, h, S, β, a, w, I => by
    simp only [exec, Option.some.injEq] at h
    subst h
    exact wp_ret ⟨.ret, s, S, β, List.mem_singleton.2 rfl, rfl, I⟩
  | .rangeFunc .., s, l, h, S, β, a, w, I => by simp [exec] at h
  | .scope _, s, l, h, S, β, a, w, I => by simp [exec] at h
  | .label _, s, l, h, S, β, a, w, I => by simp [exec] at h
  | .goto _, s, l, h, S, β, a, w, I => by simp [exec] at h
  | .refuse _, s, l, h, S, β, a, w, I => by simp [exec] at h

/-! ### Arguments, one by one -/
theorem exact_sound {sub cb} {c : CT} {v : Value} (h : CV sub cb S c v) : ∃ x ∈ exact c, CV sub cb S x v := by
  unfold exact
  split
  · split
    · obtain ⟨x, n, k, rfl, h1, h2, h3⟩ := h
      rename_i nm lo hi o hb
      refine ⟨_, List.mem_map.2 ⟨n - lo, List.mem_range.2 (by omega), rfl⟩, x, n, k, rfl, ?_, ?_, h3⟩ <;> omega
    · exact ⟨_, List.mem_singleton.2 rfl, h⟩
  · split
    · obtain ⟨x, rfl, h1, h2⟩ := h
      rename_i lo hi hb
      refine ⟨_, List.mem_map.2 ⟨x.size - lo, List.mem_range.2 (by omega), rfl⟩, x, rfl, ?_, ?_⟩ <;> omega
    · exact ⟨_, List.mem_singleton.2 rfl, h⟩
  · exact ⟨_, List.mem_singleton.2 rfl, h⟩

theorem halves_sound {sub cb} {c : CT} {v : Value} (h : CV sub cb S c v) : ∃ x ∈ halves c, CV sub cb S x v := by
  unfold halves
  split
  · rename_i nm lo hi o
    split
    · obtain ⟨x, n, k, rfl, h1, h2, h3⟩ := h
      by_cases hn : n = 0
      · exact ⟨.sl nm 0 0 o, by simp, x, n, k, rfl, by omega, by omega, h3⟩
      · exact ⟨.sl nm 1 hi o, by simp, x, n, k, rfl, by omega, h2, h3⟩
    · exact ⟨_, List.mem_singleton.2 rfl, h⟩
  · exact ⟨_, List.mem_singleton.2 rfl, h⟩

theorem splitAV_sound {sub cb rows tm} {A : AV} {v : Value} (h : AVok sub cb S rows β tm A v) : ∃ B ∈ splitAV A, AVok sub cb S rows β tm B v := by
  cases A with
  | one cs =>
    obtain ⟨c, hc, hv⟩ := h
    obtain ⟨x, hx, hv⟩ := exact_sound hv
    exact ⟨.one [x], List.mem_map.2 ⟨x, List.mem_flatMap.2 ⟨c, hc, hx⟩, rfl⟩, x, List.mem_singleton.2 rfl, hv⟩
  | agg vs =>
    obtain ⟨cells, e, x, hx, hv⟩ := h
    exact ⟨.agg [x], List.mem_map.2 ⟨x, hx, rfl⟩, cells, e, x, List.mem_singleton.2 rfl, hv⟩
  | _ => exact ⟨_, List.mem_singleton.2 rfl, h⟩

theorem halfAV_sound {sub cb rows tm} {A : AV} {v : Value} (h : AVok sub cb S rows β tm A v) : ∃ B ∈ halfAV A, AVok sub cb S rows β tm B v := by
  cases A with
  | one cs =>
    obtain ⟨c, hc, hv⟩ := h
    obtain ⟨x, hx, hv⟩ := halves_sound hv
    exact ⟨.one [x], List.mem_map.2 ⟨x, List.mem_flatMap.2 ⟨c, hc, hx⟩, rfl⟩, x, List.mem_singleton.2 rfl, hv⟩
  | _ => exact ⟨_, List.mem_singleton.2 rfl, h⟩

theorem combos_sound {sub cb rows tm} (sp : List Nat) : ∀ (k : Nat) (l : List AV) (vs : List Value), AVL sub cb S rows β tm l vs → ∃ l' ∈ combos sp k l, AVL sub cb S rows β tm l' vs
  | _, [], [], _ => ⟨[], List.mem_singleton.2 rfl, trivial⟩
  | _, [], _ :: _, h => h.elim
  | _, _ :: _, [], h => h.elim
  | k, A :: l, v :: vs, h => by
    obtain ⟨l', hl', h'⟩ := combos_sound sp (k + 1) l vs h.2
    have : ∃ B ∈ (if sp.contains k then splitAV A else if sp.contains (k + 100) then halfAV A else [A]), AVok sub cb S rows β tm B v := by
      split
      · exact splitAV_sound h.1
      · split
        · exact halfAV_sound h.1
        · exact ⟨A, List.mem_singleton.2 rfl, h.1⟩
    obtain ⟨B, hB, hv⟩ := this
    exact ⟨B :: l', List.mem_flatMap.2 ⟨B, hB, List.mem_map.2 ⟨l', hl', rfl⟩⟩, hv, h'⟩

theorem AVL.length {sub cb rows tm} : ∀ {l : List AV} {vs : List Value}, AVL sub cb S rows β tm l vs → vs.length = l.length
  | [], [], _ => rfl
  | [], _ :: _, h => h.elim
  | _ :: _, [], h => h.elim
  | _ :: _, _ :: _, h => by simp [AVL.length h.2]

theorem AVL.at {sub cb rows tm} : ∀ {l : List AV} {vs : List Value}, AVL sub cb S rows β tm l vs → ∀ {t : Nat} {A : AV}, l[t]? = some A → ∃ v, vs[t]? = some v ∧ AVok sub cb S rows β tm A v
  | [], [], _, t, A, h => by simp at h
  | [], _ :: _, h, _, _, _ => h.elim
  | _ :: _, [], h, _, _, _ => h.elim
  | B :: l, v :: vs, h, t, A, hA => by
    cases t with
    | zero =>
      simp only [List.getElem?_cons_zero, Option.some.injEq] at hA
      subst hA
      exact ⟨v, rfl, h.1⟩
    | succ t => simpa using AVL.at h.2 (by simpa using hA)

theorem AVok.plain {sub cb rows tm} {A : AV} (hA : A.plain = true) {v : Value} (h : AVok sub cb S rows β tm A v) (β' : Nat → Nat) (tm' : Array Value) : AVok sub cb S rows β' tm' A v := by
  cases A <;> first | exact h | simp [AV.plain] at hA

theorem AVL.plain {sub cb rows tm} : ∀ {l : List AV}, l.all AV.plain = true → ∀ {vs : List Value}, AVL sub cb S rows β tm l vs → ∀ (β' : Nat → Nat) (tm' : Array Value), AVL sub cb S rows β' tm' l vs
  | [], _, [], _, _, _ => trivial
  | [], _, _ :: _, h, _, _ => h.elim
  | _ :: _, _, [], h, _, _ => h.elim
  | A :: l, hl, v :: vs, h, β', tm' => by
    simp only [List.all_cons, Bool.and_eq_true] at hl
    exact ⟨h.1.plain hl.1 β' tm', AVL.plain hl.2 h.2 β' tm'⟩

theorem le_plain {cx : Cx} {A B : AV} (h : A.le cx B = true) : B.plain = true := by
  cases B <;> cases A <;> simp_all [AV.le, AV.plain]

theorem find_zip (t : Nat) : ∀ (k : Nat) (l : List AV), (((l.zipIdx k).map fun (x : AV × Nat) => (x.2, x.1)).find? (·.1 == k + t)).map (·.2) = l[t]?
  | k, [] => rfl
  | k, A :: l => by
    simp only [List.zipIdx_cons, List.map_cons, List.find?_cons]
    cases t with
    | zero => simp
    | succ t =>
      have : (k == k + (t + 1)) = false := by simp
      simp only [this, List.getElem?_cons_succ]
      have := find_zip t (k + 1) l
      rw [show k + (t + 1) = k + 1 + t by omega]
      exact this

def start (args : List AV) : St := { tm := args.zipIdx.map fun (a, i) => (i, a), bx := [] }

theorem start_get (args : List AV) (t : Nat) : (start args).get t = (args[t]?).getD .any := by
  have := find_zip t 0 args
  rw [Nat.zero_add] at this
  unfold St.get start
  simp only
  rw [← this]

/-! ### What a function gives -/
def rd (tm : Array Value) : ResultVar → Sem Value
  | .tmp t => pure (tm.getD t undef)
  | .cell b t => do loadVar t (← asAddr (tm.getD b undef))

theorem results_eq (fn : Func) (tm : Array Value) : results fn tm = (do let vs ← fn.results.mapM (rd tm); pure (if h : vs.size = 1 then vs[0] else .tuple vs)) := by
  unfold results
  congr 1

theorem resAV_sound (H : CxOk P cx) (I : SOk cx g S0 w0 s S β a w) {r : ResultVar} {A : AV} (h : resAV cx s r = some A) :
    ∃ v, (rd a.tmps r).run P w = .ok v w ∧ AVok cx.sub g.cb S cx.rows β a.tmps A v := by
  cases r with
  | tmp t =>
    simp only [resAV, Option.some.injEq] at h
    subst h
    exact ⟨_, rfl, I.tm t⟩
  | cell b t =>
    simp only [resAV, Option.bind_eq_some_iff] at h
    obtain ⟨i, hi, h⟩ := h
    split at h
    · rename_i bb off hb
      simp only [Option.bind_eq_some_iff] at h
      obtain ⟨vs, hvs, c, hc, hr⟩ := h
      have hp := I.tm b
      rw [hb] at hp
      have hp : a.tmps.getD b undef = .pointer (some ⟨β bb, off, none⟩) := hp
      obtain ⟨cells, el, hh, hcw⟩ := I.bx bb vs hvs
      obtain ⟨hl, hcw⟩ := cut_spec hc hcw
      obtain ⟨hv, hn, h1⟩ := ofCells_spec (β := β) (tm := a.tmps) (rows := cx.rows) hr hcw
      refine ⟨_, ?_, hv⟩
      simp [rd, hp, asAddr, run_loadVar H hi hh hl h1]
    · cases h

theorem run_mapM_ok {α γ : Type} {f : α → Sem γ} {R : α → γ → Prop} : ∀ {l : List α}, (∀ x ∈ l, ∃ y, (f x).run P w = .ok y w ∧ R x y) → ∃ r : List γ, (l.mapM f).run P w = .ok r w ∧ r.length = l.length ∧ ∀ (k : Nat) (x : α), l[k]? = some x → ∃ y, r[k]? = some y ∧ R x y
  | [], _ => ⟨[], by simp, rfl, fun k x h => by simp at h⟩
  | z :: l, h => by
    obtain ⟨y, hy, hR⟩ := h z List.mem_cons_self
    obtain ⟨r, hr, hlen, hall⟩ := run_mapM_ok (l := l) fun x hx => h x (List.mem_cons_of_mem _ hx)
    refine ⟨y :: r, by simp [List.mapM_cons, hy, hr], by simp [hlen], fun k x hk => ?_⟩
    cases k with
    | zero =>
      simp only [List.getElem?_cons_zero, Option.some.injEq] at hk
      subst hk
      exact ⟨y, rfl, hR⟩
    | succ k => simpa using hall k x (by simpa using hk)

theorem mapM_at {α γ : Type} {f : α → Option γ} : ∀ {l : List α} {r : List γ}, l.mapM f = some r → r.length = l.length ∧ ∀ (k : Nat) (x : α), l[k]? = some x → ∃ y, r[k]? = some y ∧ f x = some y
  | [], r, h => by
    simp only [List.mapM_nil, Option.pure_def, Option.some.injEq] at h
    subst h
    exact ⟨rfl, fun k x h => by simp at h⟩
  | z :: l, r, h => by
    simp only [List.mapM_cons, Option.bind_eq_bind, Option.bind_eq_some_iff, Option.pure_def, Option.some.injEq] at h
    obtain ⟨y, hy, r', hr, rfl⟩ := h
    obtain ⟨h1, h2⟩ := mapM_at hr
    refine ⟨by simp [h1], fun k x hk => ?_⟩
    cases k with
    | zero =>
      simp only [List.getElem?_cons_zero, Option.some.injEq] at hk
      subst hk
      exact ⟨y, rfl, hy⟩
    | succ k => simpa using h2 k x (by simpa using hk)

theorem CT2.of_at {sub cb} : ∀ {l : List (List CT)} {vs : List Value}, vs.length = l.length → (∀ (k : Nat) (c : List CT), l[k]? = some c → ∃ v, vs[k]? = some v ∧ CO sub cb S c v) → CT2 sub cb S l vs
  | [], [], _, _ => trivial
  | [], _ :: _, h, _ => by simp at h
  | _ :: _, [], h, _ => by simp at h
  | c :: l, v :: vs, h, hall => by
    refine ⟨?_, CT2.of_at (by simpa using h) fun k d hd => by simpa using hall (k + 1) d (by simpa using hd)⟩
    obtain ⟨v', hv, hc⟩ := hall 0 c rfl
    simp only [List.getElem?_cons_zero, Option.some.injEq] at hv
    subst hv
    exact hc

theorem resOk_sound (H : CxOk P cx) (I : SOk cx g S0 w0 s S β a w) {fn : Func} {res : AV} (h : resOk cx fn res s = true) :
    ∃ v, (results fn a.tmps).run P w = .ok v w ∧ ∀ β tm, AVok cx.sub g.cb S cx.rows β tm res v := by
  unfold resOk at h
  have go : ∀ l, fn.results.toList.mapM (resAV cx s) = some l → ∃ vs : List Value, (results fn a.tmps).run P w = .ok (if h : vs.toArray.size = 1 then vs.toArray[0] else .tuple vs.toArray) w ∧ vs.length = l.length ∧
      ∀ (k : Nat) (A : AV), l[k]? = some A → ∃ v, vs[k]? = some v ∧ AVok cx.sub g.cb S cx.rows β a.tmps A v := fun l hl => by
    obtain ⟨hlen, hat⟩ := mapM_at hl
    obtain ⟨vs, hr, hvl, hva⟩ := run_mapM_ok (P := P) (w := w) (l := fn.results.toList) (f := rd a.tmps)
      (R := fun r v => ∀ A, resAV cx s r = some A → AVok cx.sub g.cb S cx.rows β a.tmps A v) (fun r hr => by
        obtain ⟨A, hA, hrA⟩ := mapM_mem hl r hr
        obtain ⟨v, hv, hok⟩ := resAV_sound H I hrA
        refine ⟨v, hv, fun B hB => ?_⟩
        rw [hrA] at hB
        cases hB
        exact hok)
    refine ⟨vs, ?_, by rw [hvl, hlen], fun k A hA => ?_⟩
    · rw [results_eq, Array.mapM_eq_mapM_toList]
      simp only [bind_map_left, Sem.run_bind, hr, Result.andThen_ok, Sem.run_pure]
    · have hk : k < fn.results.toList.length := by
        rw [← hlen]
        exact (List.getElem?_eq_some_iff.1 hA).1
      obtain ⟨B, hB, hrB⟩ := hat k _ (List.getElem?_eq_getElem hk)
      rw [hA] at hB
      cases hB
      obtain ⟨v, hv, hR⟩ := hva k _ (List.getElem?_eq_getElem hk)
      exact ⟨v, hv, hR A hrB⟩
  split at h
  · rename_i A hl
    obtain ⟨vs, hr, hlen, hat⟩ := go _ hl
    obtain ⟨v, hv, hok⟩ := hat 0 A rfl
    match vs, hlen, hv with
    | [x], _, hv =>
      simp only [List.getElem?_cons_zero, Option.some.injEq] at hv
      subst hv
      exact ⟨x, by rw [hr]; rfl, fun β' tm' => (AV.le_sound H.trans h hok).plain (le_plain h) β' tm'⟩
  · rename_i l hne hl
    split at h
    · rename_i l' hl'
      obtain ⟨vs, hr, hlen, hat⟩ := go _ hl
      obtain ⟨hlen', hat'⟩ := mapM_at hl'
      have h1 : vs.length ≠ 1 := fun hv => by
        rw [hlen] at hv
        match l, hv with
        | [A], _ => exact hne A rfl
      refine ⟨.tuple vs.toArray, by rw [hr, dif_neg (by simpa using h1)], fun β' tm' => (AV.le_sound (β := β) (tm := a.tmps) H.trans h ?_).plain (le_plain h) β' tm'⟩
      refine ⟨vs.toArray, rfl, CT2.of_at (by simp [hlen, hlen']) fun k c hc => ?_⟩
      have hk : k < l.length := by
        rw [← hlen']
        exact (List.getElem?_eq_some_iff.1 hc).1
      obtain ⟨d, hd, ho⟩ := hat' k _ (List.getElem?_eq_getElem hk)
      rw [hc] at hd
      cases hd
      obtain ⟨v, hv, hok⟩ := hat k _ (List.getElem?_eq_getElem hk)
      refine ⟨v, by simpa using hv, ?_⟩
      cases hl0 : l[k] with
      | one cs =>
        rw [hl0] at ho hok
        simp only [oneOf, Option.some.injEq] at ho
        subst ho
        exact hok
      | _ => rw [hl0] at ho; simp [oneOf] at ho
    · cases h
  · cases h

theorem AVL.le {cx : Cx} (H : CxOk P cx) {cb rows tm} : ∀ {xs ys : List AV} {vs : List Value}, ys.length = xs.length → ((xs.zip ys).all fun (a, b) => a.le cx b) = true → AVL cx.sub cb S rows β tm xs vs → AVL cx.sub cb S rows β tm ys vs
  | [], [], [], _, _, _ => trivial
  | [], [], _ :: _, _, _, h => h.elim
  | [], _ :: _, _, h, _, _ => by simp at h
  | _ :: _, [], _, h, _, _ => by simp at h
  | _ :: _, _ :: _, [], _, _, h => h.elim
  | x :: xs, y :: ys, v :: vs, hl, hle, h => by
    simp only [List.zip_cons_cons, List.all_cons, Bool.and_eq_true] at hle
    exact ⟨AV.le_sound H.trans hle.1 h.1, AVL.le H (by simpa using hl) hle.2 h.2⟩

/-- A function that has been checked. -/
theorem checkInst_sound (H : CxOk P cx) (HI : ∀ i ∈ cx.insts, InstOk P cx g i) (hm : P.follows .mixedOrders = true) {i : Inst} (h : checkInst P cx i = true) : InstOk P cx g i := by
  unfold checkInst at h
  split at h
  · rename_i fn hfn
    simp only [Bool.and_eq_true, beq_iff_eq, decide_eq_true_eq, Bool.not_eq_eq_eq_not, Bool.not_true] at h
    obtain ⟨⟨⟨⟨⟨⟨hn, hps⟩, hlen⟩, hname⟩, hbody⟩, hplain⟩, hall⟩ := h
    refine ⟨⟨fn, hfn, hname, by simpa using hbody⟩, fun S β tm w args W hargs => ?_⟩
    obtain ⟨l', hl', hargs⟩ := combos_sound i.split 0 i.args args hargs
    have hb := List.all_eq_true.1 hall l' hl'
    rcases (Bool.or_eq_true _ _).mp hb with hk | hb
    · unfold known at hk
      obtain ⟨k, hmem, hk⟩ := List.any_eq_true.1 hk
      simp only [Bool.and_eq_true, beq_iff_eq] at hk
      obtain ⟨⟨⟨hkf, hkl⟩, hka⟩, hkr⟩ := hk
      rw [← hkf]
      refine Calls.mono ((HI k hmem).calls S β tm w args W (AVL.le H hkl hka hargs)) fun e w' he => ?_
      obtain ⟨v, S', rfl, hs, hw, hv⟩ := he
      exact ⟨v, S', rfl, hs, hw, fun β tm => AV.le_sound H.trans hkr (hv β tm)⟩
    unfold checkBody at hb
    split at hb
    · rename_i c hc
      split at hb
      · rename_i l hex
        refine calls_of_wp hfn hc (wp_mono (exec_sound (S0 := S) (w0 := w) H HI hm W.b0 c _ l hex S (fun _ => 0) _ w ?_) fun e a' w' hg => ?_)
        · have hll : args.length = l'.length := hargs.length
          have hcl : l'.length = i.args.length := by
            have : ∀ (k : Nat) (l r : List AV), r ∈ combos i.split k l → r.length = l.length := by
              intro k l
              induction l generalizing k with
              | nil => intro r hr; simp only [combos, List.mem_singleton] at hr; subst hr; rfl
              | cons A l ih =>
                intro r hr
                simp only [combos, List.mem_flatMap, List.mem_map] at hr
                obtain ⟨B, -, y, hy, rfl⟩ := hr
                simp [ih (k + 1) y hy]
            exact this 0 _ _ hl'
          refine ⟨W, Stp.refl _, by simp; omega, rfl, fun t => ?_, fun t vs hv => by simp [St.box] at hv, fun t ht => by simp [St.box] at ht, fun t _ ht => by simp [St.box] at ht⟩
          show AVok _ _ _ _ _ _ ((start l').get t) _
          rw [start_get]
          cases hA : l'[t]? with
          | none => trivial
          | some A =>
            obtain ⟨v, hv, hok⟩ := hargs.at hA
            have hlt : t < args.length := (List.getElem?_eq_some_iff.1 hv).1
            have hpl : A.plain = true := by
              have : ∀ (k : Nat) (l r : List AV), l.all AV.plain = true → r ∈ combos i.split k l → r.all AV.plain = true := by
                intro k l
                induction l generalizing k with
                | nil => intro r _ hr; simp only [combos, List.mem_singleton] at hr; subst hr; rfl
                | cons A l ih =>
                  intro r hl hr
                  simp only [List.all_cons, Bool.and_eq_true] at hl
                  simp only [combos, List.mem_flatMap, List.mem_map] at hr
                  obtain ⟨B, hB, y, hy, rfl⟩ := hr
                  simp only [List.all_cons, Bool.and_eq_true]
                  refine ⟨?_, ih (k + 1) y hl.2 hy⟩
                  split at hB
                  · cases A with
                    | one cs => simp only [splitAV, List.mem_map] at hB; obtain ⟨_, _, rfl⟩ := hB; rfl
                    | agg vs => simp only [splitAV, List.mem_map] at hB; obtain ⟨_, _, rfl⟩ := hB; rfl
                    | _ => simp only [splitAV, List.mem_singleton] at hB; subst hB; exact hl.1
                  · split at hB
                    · cases A with
                      | one cs => simp only [halfAV, List.mem_map] at hB; obtain ⟨_, _, rfl⟩ := hB; rfl
                      | _ => simp only [halfAV, List.mem_singleton] at hB; subst hB; exact hl.1
                    · rw [List.mem_singleton] at hB
                      subst hB
                      exact hl.1
              exact List.all_eq_true.1 (this 0 _ _ hplain hl') A (List.mem_of_getElem? hA)
            have : (args.toArray ++ Array.replicate (fn.ntmps - args.toArray.size) undef).getD t undef = v := by
              simp only [Array.getD_eq_getD_getElem?]
              rw [Array.getElem?_append_left (by simpa using hlt)]
              simp [hv]
            rw [Option.getD_some, this]
            exact hok.plain hpl _ _
        · obtain ⟨x, s', S', β', hmem, rfl, I⟩ := hg
          have hr := List.all_eq_true.1 hb _ hmem
          cases x with
          | normal =>
            obtain ⟨v, hv, hok⟩ := resOk_sound H I hr
            exact ⟨I.df, v, hv, v, S', rfl, I.stp, I.wok, hok⟩
          | ret =>
            obtain ⟨v, hv, hok⟩ := resOk_sound H I hr
            exact ⟨I.df, v, hv, v, S', rfl, I.stp, I.wok, hok⟩
          | exit k => simp at hr
      · cases hb
    · cases hb
  · cases h
end
end Go.Proofs.YtlbcaadflcjpeaaGreatDoor.Va
set_option linter.unusedVariables false
set_option linter.unusedSimpArgs false
namespace Go.Proofs.YtlbcaadflcjpeaaGreatDoor.Va
open Go

/-- A cell's kind at the program's beginning. -/
def cellOk : CT → Value → Bool
  | .int k a b, .int k' n => k == k' && decide (a ≤ n) && decide (n ≤ b)
  | .bc b, .bool c => b == c
  | .str a b, .string s => decide (a ≤ s.size) && decide (s.size ≤ b)
  | .nil0, .slice none 0 0 => true
  | _, _ => false

def cellsOk : List CT → List Value → Bool
  | [], [] => true
  | c :: cs, v :: vs => cellOk c v && cellsOk cs vs
  | _, _ => false

theorem cellsOk_sound {sub : List (Nat × Nat)} {cb : Nat} {S : HT} : ∀ {cs : List CT} {vs : List Value}, cellsOk cs vs = true → CL sub cb S cs vs
  | [], [], _ => trivial
  | [], _ :: _, h => by simp [cellsOk] at h
  | _ :: _, [], h => by simp [cellsOk] at h
  | c :: cs, v :: vs, h => by
    simp only [cellsOk, Bool.and_eq_true] at h
    refine ⟨?_, cellsOk_sound h.2⟩
    have h1 := h.1
    unfold cellOk at h1
    split at h1
    · simp only [Bool.and_eq_true, beq_iff_eq, decide_eq_true_eq] at h1
      obtain ⟨⟨rfl, h2⟩, h3⟩ := h1
      exact ⟨_, rfl, h2, h3⟩
    · simp only [beq_iff_eq] at h1
      subst h1
      rfl
    · simp only [Bool.and_eq_true, decide_eq_true_eq] at h1
      exact ⟨_, rfl, h1.1, h1.2⟩
    · exact ⟨none, rfl⟩
    · cases h1

def descOk (P : Program) (id : TypeId) : TD → Bool
  | .int k => match P.underlying id with | some (.int k') => k == k' | _ => false
  | .bool => match P.underlying id with | some .bool => true | _ => false
  | .string => match P.underlying id with | some .string => true | _ => false
  | .slice e => match P.underlying id with | some (.slice e') => e == e' | _ => false
  | .struct fs => match P.underlying id with | some (.struct F) => F.toList.map (fun f => (f.offset, f.type)) == fs | _ => false

def tyOk (P : Program) (ti : TI) : Bool :=
  match P.info? ti.id with
  | some i =>
    match i.zero with
    | some z => i.size == ti.size && i.bytes == ti.bytes && cellsOk ti.zero z.cells.toList && z.cells.size == ti.size && descOk P ti.id ti.desc && decide (0 < ti.size) && ti.zero.length == ti.size && decide (ti.bytes ≤ 1000)
    | none => false
  | none => false

theorem tyOk_sound {P : Program} {ti : TI} (h : tyOk P ti = true) : TyF P ti ∧ ti.bytes ≤ 1000 := by
  unfold tyOk at h
  split at h
  · rename_i i hi
    split at h
    · rename_i z hz
      simp only [Bool.and_eq_true, beq_iff_eq, decide_eq_true_eq] at h
      obtain ⟨⟨⟨⟨⟨⟨⟨h1, h2⟩, h3⟩, h4⟩, h5⟩, h6⟩, h7⟩, h8⟩ := h
      refine ⟨⟨⟨i, z, hi, h1, h2, hz, fun sub cb S => cellsOk_sound h3, h4⟩, ?_, h6, h7⟩, h8⟩
      unfold descOk at h5
      split at h5 <;> split at h5 <;> simp_all
    · cases h
  · cases h

def subOk (cx : Cx) : Bool :=
  (cx.sub.all fun a => cx.sub.all fun b => a.2 != b.1 || cx.sub.contains (a.1, b.2)) &&
  (cx.sub.all fun a => match cx.row a.1, cx.row a.2 with | some ra, some rb => ra.exc.isEmpty && rb.exc.isEmpty && ra.width == rb.width && leV cx ra.els rb.els | _, _ => false)

def rowsOk (cx : Cx) : Bool :=
  cx.rows.all fun r => (r.els.all fun v => v.length == r.width) && (r.exc.all fun l => l.all fun v => v.length == r.width) && (match cx.ty r.elem with | some ti => r.width == ti.size | none => true)

theorem cx_sound {P : Program} {cx : Cx} (h1 : cx.tys.all (tyOk P) = true) (h2 : subOk cx = true) (h3 : rowsOk cx = true) : CxOk P cx := by
  unfold subOk at h2
  simp only [Bool.and_eq_true] at h2
  obtain ⟨h2, h4⟩ := h2
  have hr : ∀ n r, cx.row n = some r → r ∈ cx.rows := fun n r h => List.mem_of_getElem? h
  refine ⟨fun ti hti => (tyOk_sound (List.all_eq_true.1 h1 ti hti)).1, fun a b c hab hbc => ?_, fun a b hab => ?_, fun n r i hn v hv => ?_, fun n r ti hn hti => ?_, fun ti hti => (tyOk_sound (List.all_eq_true.1 h1 ti hti)).2⟩
  · have := List.all_eq_true.1 (List.all_eq_true.1 h2 _ hab) _ hbc
    simpa using this
  · have := List.all_eq_true.1 h4 _ hab
    simp only at this
    split at this
    · rename_i ra rb ha hb
      simp only [Bool.and_eq_true, beq_iff_eq, List.isEmpty_iff] at this
      obtain ⟨⟨⟨e1, e2⟩, hw⟩, hle⟩ := this
      exact ⟨ra, rb, ha, hb, hw, fun i => by simpa [Row.at, e1, e2] using hle⟩
    · cases this
  · have := List.all_eq_true.1 h3 r (hr n r hn)
    simp only [Bool.and_eq_true] at this
    obtain ⟨⟨e1, e2⟩, -⟩ := this
    unfold Row.at at hv
    cases hx : r.exc[i]? with
    | none =>
      rw [hx] at hv
      simpa using List.all_eq_true.1 e1 v hv
    | some l =>
      rw [hx] at hv
      simpa using List.all_eq_true.1 (List.all_eq_true.1 e2 l (List.mem_of_getElem? hx)) v hv
  · have := List.all_eq_true.1 h3 r (hr n r hn)
    simp only [Bool.and_eq_true, hti, beq_iff_eq] at this
    exact this.2

/-! ### Another table with the same rows and types -/
theorem le_congr {cx cx' : Cx} (h : cx'.sub = cx.sub) (a b : CT) : a.le cx' b = a.le cx b := by
  cases a <;> cases b <;> simp [CT.le, Cx.subB, h]

theorem leL_congr {cx cx' : Cx} (h : cx'.sub = cx.sub) : ∀ a b : List CT, leL cx' a b = leL cx a b
  | [], [] => rfl
  | [], _ :: _ => rfl
  | _ :: _, [] => rfl
  | a :: x, b :: y => by simp only [leL, le_congr h, leL_congr h x y]

theorem leV_congr {cx cx' : Cx} (h : cx'.sub = cx.sub) (a b : List (List CT)) : leV cx' a b = leV cx a b := by
  unfold leV
  simp only [leL_congr h]

theorem CxOk.of {P : Program} {cx cx' : Cx} (H : CxOk P cx) (h1 : cx'.rows = cx.rows) (h2 : cx'.sub = cx.sub) (h3 : cx'.tys = cx.tys) : CxOk P cx' := by
  have hrow : ∀ n, cx'.row n = cx.row n := fun n => by unfold Cx.row; rw [h1]
  have hty : ∀ t, cx'.ty t = cx.ty t := fun n => by unfold Cx.ty; rw [h3]
  refine ⟨by rw [h3]; exact H.ty, by rw [h2]; exact H.trans, fun a b hab => ?_, fun n r i hn => ?_, fun n r ti hn ht => ?_, by rw [h3]; exact H.byt⟩
  · rw [h2] at hab
    obtain ⟨ra, rb, e1, e2, e3, e4⟩ := H.sub a b hab
    exact ⟨ra, rb, by rw [hrow]; exact e1, by rw [hrow]; exact e2, e3, fun i => by rw [leV_congr h2]; exact e4 i⟩
  · rw [hrow] at hn
    exact H.len n r i hn
  · rw [hrow] at hn
    rw [hty] at ht
    exact H.wid n r ti hn ht

theorem types_chk : theTys.all (tyOk Tryz.prog) = true := by kernel_rfl
theorem sub_chk : subOk theCx = true := by kernel_rfl
theorem rows_chk : rowsOk theCx = true := by kernel_rfl

theorem theCx_ok : CxOk Tryz.prog theCx := cx_sound types_chk sub_chk rows_chk

theorem cxOf_eq (f : FuncId) (l : List Inst) : (cxOf f l).rows = theCx.rows ∧ (cxOf f l).sub = theCx.sub ∧ (cxOf f l).tys = theCx.tys ∧ ((cxOf f l).insts = l ∨ (cxOf f l).insts = []) := by
  unfold cxOf
  split
  · exact ⟨rfl, rfl, rfl, .inl rfl⟩
  · exact ⟨rfl, rfl, rfl, .inr rfl⟩

/-! ### All instances, one behind the other -/
def nth (n : Nat) : Inst := (theInsts[n]?).getD default
def upTo (n : Nat) : List Inst := (theInsts.take n).reverse ++ base
def chk (P : Program) (n : Nat) : Bool := checkInst P (cxOf (nth n).fn (upTo n)) (nth n)

theorem InstOk.of {P : Program} {cx cx' : Cx} {g : Gh} {i : Inst} (h1 : cx'.rows = cx.rows) (h2 : cx'.sub = cx.sub) (h : InstOk P cx g i) : InstOk P cx' g i := by
  refine ⟨h.fn, ?_⟩
  rw [h1, h2]
  exact h.calls

theorem table {g : Gh} (hb : ∀ i ∈ base, InstOk Tryz.prog theCx g i) (hm : Tryz.prog.follows .mixedOrders = true) : ∀ n, n ≤ theInsts.length → (∀ k, k < n → chk Tryz.prog k = true) → ∀ i ∈ upTo n, InstOk Tryz.prog theCx g i
  | 0, _, _, i, hi => hb i (by simpa [upTo] using hi)
  | n + 1, hn, hc, i, hi => by
    have ih := table hb hm n (by omega) (fun k hk => hc k (by omega))
    have hlt : n < theInsts.length := hn
    have hup : upTo (n + 1) = nth n :: upTo n := by
      unfold upTo nth
      rw [List.take_add_one, List.getElem?_eq_getElem hlt, Option.toList_some, List.reverse_append]
      rfl
    rw [hup] at hi
    rcases List.mem_cons.1 hi with rfl | hi
    · obtain ⟨e1, e2, e3, e4⟩ := cxOf_eq (nth n).fn (upTo n)
      refine InstOk.of e1.symm e2.symm (checkInst_sound (theCx_ok.of e1 e2 e3) (fun k hk => ?_) hm (hc n (Nat.lt_succ_self _)))
      rcases e4 with e | e
      · rw [e] at hk
        exact InstOk.of e1 e2 (ih k hk)
      · rw [e] at hk
        cases hk
    · exact ih i hi
end Go.Proofs.YtlbcaadflcjpeaaGreatDoor.Va

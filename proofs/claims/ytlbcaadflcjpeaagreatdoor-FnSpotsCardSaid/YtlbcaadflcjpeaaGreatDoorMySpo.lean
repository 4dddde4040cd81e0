/- The builtin clear on the tail of a row of tokens of the call's own; a call through a function value that the frame holds. No condition. -/
import Derived.Test.YtlbcaadflcjpeaaGreatDoorPSpox0
import Derived.Lib.SliceRun
namespace Go.Proofs.YtlbcaadflcjpeaaGreatDoor.PSpo
open Go Go.RowKit Go.Proofs.YtlbcaadflcjpeaaGreatDoorW.PrintWords Go.Proofs.YtlbcaadflcjpeaaGreatDoorW.PrintLast Go.Proofs.YtlbcaadflcjpeaaGreatDoorW.PrintMore
set_option linter.unusedVariables false
set_option linter.unusedSimpArgs false
section
variable {P : Program} {ops : Array Oper} {o : Oper} {a : Act} {W : World} {Q : Exit → Act → World → Prop}
theorem gate_fn {rest : List Oper} {t : Tmp} {xs_ : Array Operand} {ts : Array TypeId} (_ho : o.op = .call { callee := .value (.tmp t), args := xs_, argTypes := ts }) (h : wpList P ops Q (o :: rest) a W) : wpList P ops Q (o :: rest) a W := h
/-- A call through a function value that the frame holds. -/
theorem goesF_ {rest : List Oper} {oi : Oper} {a : Act} {w : World} (N : Option Tmp) (hd : oi.dst = N) (hg : oi.guard = none) {t : Tmp} {f : FuncId} {fn : Func} {xs_ : Array Operand} {ts : Array TypeId} {caps : Array Value} (hf : P.funcs[f]? = some fn) (hname : (fn.name == "runtime.NumGoroutine") = false) (hb : fn.body.isSome = true) (args : Array Value)
    (hop : oi.op = .call { callee := .value (.tmp t), args := xs_, argTypes := ts }) (hv : a.eval (.tmp t) = .func (.func f) #[] caps) (hargs : xs_.map a.eval ++ caps = args)
    (h : Calls P f args w fun e w' => ∃ v, e = .returned v ∧ wpList P ops Q rest (a.put N v) w') : wpList P ops Q (oi :: rest) a w := by
  refine wpList_plain hg fun K hK => ?_
  have he := enters_ hf hname hb args w
  have hrun : (execOp a.eval oi).run P w = .ok (.enter f args) w := by
    unfold execOp
    simp only [hop, resolve, hv]
    simp [Deferred.ofValue, invoke, hargs, he]
  unfold Oper.wp
  rw [hrun, Oper.upon_enter]
  refine h.mono fun e w'' hh => ?_
  obtain ⟨v, rfl, hk⟩ := hh
  subst hd
  exact hK _ _ hk
theorem gate_clear {rest : List Oper} {x : Operand} {t : TypeId} (_ho : o.op = .call { callee := .builtin .clear, args := #[x], argTypes := #[t] }) (h : wpList P ops Q (o :: rest) a W) : wpList P ops Q (o :: rest) a W := h
theorem clearL_ {rest : List Oper} {oi : Oper} {a : Act} {w w1 : World} (hd : oi.dst = none) (hg : oi.guard = none) {x : Operand} {t : TypeId} {v : Value}
    (hop : oi.op = .call { callee := .builtin .clear, args := #[x], argTypes := #[t] }) (hx : a.eval x = v) (hrun : ∀ ty, (Builtin.clear_ #[t] ty #[v]).run P w = .ok (.tuple #[]) w1)
    (h : wpList P ops Q rest a w1) : wpList P ops Q (oi :: rest) a w := by
  refine wpList_plain hg fun K hK => ?_
  have hr : (execOp a.eval oi).run P w = .ok (.value (.tuple #[])) w1 := by
    unfold execOp
    simp only [hop, resolve]
    have hb : ∀ ats ty cs args, builtin .clear ats ty cs args = (do pure (.value (← Builtin.clear_ ats ty args))) := fun _ _ _ _ => rfl
    simp [invoke, hb, hx, hrun]
  unfold Oper.wp
  rw [hr]
  have : a.put oi.dst (.tuple #[]) = a := by rw [hd]; rfl
  exact hK _ _ (by rw [this]; exact h)
end
theorem setCells_heap (g : Nat) : ∀ (vs : List Value) (o : Nat) (w : World) (cur : Array Value) (e : TypeId), w.heap[g]? = some (.cells cur e (0, 0)) →
    ∃ cur', (w.setCells g o vs).heap[g]? = some (.cells cur' e (0, 0)) ∧ cur'.size = cur.size ∧ ∀ i, i < o → cur'[i]? = cur[i]?
  | [], o, w, cur, e, h => ⟨cur, h, rfl, fun _ _ => rfl⟩
  | v :: r, o, w, cur, e, h => by
    obtain ⟨cur', h1, h2, h3⟩ := setCells_heap g r (o + 1) (w.setCell ⟨g, o, none⟩ v) _ e (blk_set h o v)
    refine ⟨cur', h1, by rw [h2]; simp, fun i hi => ?_⟩
    rw [h3 i (by omega), Array.getElem?_setIfInBounds, if_neg (by omega)]
theorem setCells_grown (g : Nat) : ∀ (vs : List Value) (o : Nat) (w : World), w.grownBy (w.setCells g o vs) (some g)
  | [], o, w => ⟨rfl, rfl, rfl, Nat.le_refl _, fun _ _ _ => rfl⟩
  | v :: r, o, w => by
    have h := setCells_grown g r (o + 1) (w.setCell ⟨g, o, none⟩ v)
    have hs : (w.setCell ⟨g, o, none⟩ v).heap.size = w.heap.size := by simp [World.setCell]
    exact ⟨h.os, h.tape, h.output, by rw [← hs]; exact h.size, fun k hk hne => (h.block k (by rw [hs]; exact hk) hne).trans (Below.heap_setCell w _ v k (fun e => hne (by rw [e])))⟩
theorem zero30 (w : World) : (zeroValue 30).run Tryz.prog w = .ok (.agg #[.int .i64 0, .string ⟨#[]⟩, .int .i64 0, .int .i64 0]) w := by
  simp [zeroValue]
  rw [show Tryz.t30.zero = some (.agg #[.int .i64 0, .string ⟨#[]⟩, .int .i64 0, .int .i64 0]) by kernel_rfl]
  rfl
theorem clear_run (w : World) (ty : TypeId) (b o n c : Nat) (hn : 0 < n) (hc : ∀ j, j < n * 4 → (w.cell? ⟨b, o + j, none⟩).isSome = true) (hf : ∀ j, j < n * 4 → w.frozen? ⟨b, o + j, none⟩ = false) :
    ∃ zs : List Value, (Builtin.clear_ #[26] ty #[.slice (some ⟨b, o, none⟩) n c]).run Tryz.prog w = .ok (.tuple #[]) (w.setCells b o zs) := by
  refine ⟨(Builtin.zeroCells (Value.agg #[.int .i64 0, .string ⟨#[]⟩, .int .i64 0, .int .i64 0]).cells n).toList, ?_⟩
  have hl : (Builtin.zeroCells (Value.agg #[.int .i64 0, .string ⟨#[]⟩, .int .i64 0, .int .i64 0]).cells n).toList.length = n * 4 := by
    simp [Builtin.zeroCells, Value.cells]
  have h1 : ∀ v ∈ (Builtin.zeroCells (Value.agg #[.int .i64 0, .string ⟨#[]⟩, .int .i64 0, .int .i64 0]).cells n).toList, v.oneCell' = true := by
    intro v hv
    simp only [Builtin.zeroCells, Value.cells, Array.toList_map, List.mem_map] at hv
    obtain ⟨i, _, rfl⟩ := hv
    have : i % 4 < 4 := Nat.mod_lt _ (by omega)
    show Value.oneCell' (#[Value.int .i64 0, .string ⟨#[]⟩, .int .i64 0, .int .i64 0][i % 4]!) = true
    generalize i % 4 = q at this
    match q, this with
    | 0, _ => rfl
    | 1, _ => rfl
    | 2, _ => rfl
    | 3, _ => rfl
  have hst := run_storeCells_cells (P := Tryz.prog) b o _ 0 w (by rw [hl]; simpa using hc) (by rw [hl]; simpa using hf) h1
  simp only [Nat.add_zero] at hst
  obtain ⟨m, rfl⟩ : ∃ m, n = m + 1 := ⟨n - 1, by omega⟩
  simp [Builtin.clear_, run_underlying Tryz.underlying26, zero30, hst]
/-- clear(s[m:]): the first m tokens are as they were. -/
theorem clear_tail {w : World} {base : Nat} {ok : Nat → Prop} {Ao : Option Addr} {co : Nat} {xs : List S30} (h : Kd.R k30 30 w base ok (.slice Ao xs.length co) xs) (m : Nat) (hm : m ≤ xs.length) (c' : Nat) :
    ∃ w1, (∀ ty, (Builtin.clear_ #[26] ty #[.slice (if co = m then Ao else Ao.map (·.add (m * 4))) (xs.length - m) c']).run Tryz.prog w = .ok (.tuple #[]) w1) ∧ Kd.R k30 30 w1 base ok (.slice Ao m co) (xs.take m) ∧ w.grownBy w1 (Value.slice Ao m co).ownBlock ∧ (∀ k, (Value.slice Ao m co).ownBlock = some k → ok k ∧ base ≤ k) := by
  have ht := Kd.R_take (m := m) h hm
  have hok : ∀ k, (Value.slice Ao m co).ownBlock = some k → ok k ∧ base ≤ k := fun k hk => by
    obtain ⟨h0, inner, ho, hr⟩ := ht
    exact ⟨h0 k hk, own_base ho k hk⟩
  by_cases hz : xs.length - m = 0
  · refine ⟨w, fun ty => ?_, ht, ⟨rfl, rfl, rfl, Nat.le_refl _, fun _ _ _ => rfl⟩, hok⟩
    rw [hz]
    cases (if co = m then Ao else Ao.map (·.add (m * 4))) <;> simp [Builtin.clear_, run_underlying Tryz.underlying26, zero30]
  · obtain ⟨h0, inner, ho, hr⟩ := h
    obtain ⟨t0, tinner, tho, thr⟩ := ht
    rcases ho.2 with ⟨_, hn⟩ | ⟨g, cap, cur, hv, hg, hh, hcap, hmax, hsz, htk⟩
    · omega
    · injection hv with hA _ hC
      subst hA hC
      rcases tho.2 with ⟨he, _⟩ | ⟨g2, cap2, cur2, hv2, hg2, hh2, hcap2, hmax2, hsz2, htk2⟩
      · cases he
      · injection hv2 with hA2 _ hC2
        injection hA2 with hA2
        injection hA2 with hA2 _ _
        subst hA2 hC2
        obtain rfl : cur2 = cur := by rw [hh] at hh2; injection hh2 with hh2; injection hh2 with hh2; exact hh2.symm
        have hsz' : cur2.size = co * 4 := hsz
        have hne : ¬ co = m := by omega
        have had : ((⟨g, 0, none⟩ : Addr).add (m * 4)) = ⟨g, m * 4, none⟩ := by
          generalize m * 4 = q
          unfold Addr.add
          split
          · rename_i hq; subst hq; rfl
          · simp
        obtain ⟨zs, hrun⟩ : ∃ zs : List Value, ∀ ty, (Builtin.clear_ #[26] ty #[.slice (some ⟨g, m * 4, none⟩) (xs.length - m) c']).run Tryz.prog w = .ok (.tuple #[]) (w.setCells g (m * 4) zs) := by
          have hc : ∀ j, j < (xs.length - m) * 4 → (w.cell? ⟨g, m * 4 + j, none⟩).isSome = true := fun j hj => by
            simp [World.cell?, hh]
            omega
          have hf : ∀ j, j < (xs.length - m) * 4 → w.frozen? ⟨g, m * 4 + j, none⟩ = false := fun j hj => by
            simp [World.frozen?, hh]
          obtain ⟨zs, hz1⟩ := clear_run w 0 g (m * 4) (xs.length - m) c' (by omega) hc hf
          exact ⟨zs, fun ty => by rw [← hz1]; rfl⟩
        obtain ⟨cur', q1, q2, q3⟩ := setCells_heap g zs (m * 4) w cur2 30 hh
        refine ⟨w.setCells g (m * 4) zs, fun ty => by rw [if_neg hne]; simp only [Option.map_some, had]; exact hrun ty, ⟨t0, tinner, ⟨tho.1, .inr ⟨g, co, cur', by rw [List.length_take, Nat.min_eq_left hm], hg, q1, hcap2, hmax, by rw [q2]; exact hsz, ?_⟩⟩, thr.imp_ (fun _ _ hp => by obtain rfl := k30_openM hp; exact k30_mkM _ _ _ _)⟩, setCells_grown g zs (m * 4) w, hok⟩
        rw [← htk2]
        apply List.ext_getElem?
        intro i
        have hlen : (xs.take m).length = m := by rw [List.length_take]; omega
        have e4 : k30.sz = 4 := rfl
        rw [List.getElem?_take, List.getElem?_take, hlen, e4]
        by_cases hi : i < m * 4
        · rw [if_pos hi, if_pos hi, Array.getElem?_toList, Array.getElem?_toList]
          exact q3 i hi
        · rw [if_neg hi, if_neg hi]
theorem clear_arm {ops : Array Oper} {Q : Exit → Act → World → Prop} {rest : List Oper} {oi : Oper} {a : Act} {W : World} {x : Operand} {base : Nat} {ok : Nat → Prop} {Ao A' : Option Addr} {co n' c' m : Nat} {xs : List S30}
    (hd : oi.dst = none) (hg : oi.guard = none) (hop : oi.op = .call { callee := .builtin .clear, args := #[x], argTypes := #[26] })
    (hR : Kd.R k30 30 W base ok (.slice Ao xs.length co) xs) (hm : m ≤ xs.length) (hx : a.eval x = .slice A' n' c') (hA : A' = (if co = m then Ao else Ao.map (·.add (m * 4)))) (hn : n' = xs.length - m)
    (h : ∀ w1, Kd.R k30 30 w1 base ok (.slice Ao m co) (xs.take m) → W.grownBy w1 (Value.slice Ao m co).ownBlock → (∀ k, (Value.slice Ao m co).ownBlock = some k → ok k ∧ base ≤ k) → wpList Tryz.prog ops Q rest a w1) : wpList Tryz.prog ops Q (oi :: rest) a W := by
  obtain ⟨w1, hrun, h1, h2, h3⟩ := clear_tail hR m hm c'
  rw [← hA, ← hn] at hrun
  exact clearL_ hd hg hop hx hrun (h w1 h1 h2 h3)
theorem below_grown {w0 W W2 : World} {row : Option Nat} (h : Below w0.heap.size w0 W) (hg : W.grownBy W2 row) (hr : ∀ k, row = some k → w0.heap.size ≤ k) : Below w0.heap.size w0 W2 := h.grown hg h.size hr
theorem cell_of_blk {w : World} {g t : Nat} {v : Value} (h : w.heap[g]? = some (.cells #[v] t (0, 0))) : w.cell? ⟨g, 0, none⟩ = some v := by simp [World.cell?, h]
/-! A constant text as a row of bytes: the row gets a mark; its cells stay. -/
theorem freeze_cell (w : World) (p : Addr) (n : Nat) (a : Addr) : (w.freeze p n).cell? a = w.cell? a := by
  unfold World.freeze
  split
  · rfl
  · simp only [World.cell?, Array.getElem?_modify]
    by_cases h : p.block = a.block
    · rw [if_pos h]
      cases hh : w.heap[a.block]? with
      | none => rfl
      | some o =>
        cases o <;> rfl
    · rw [if_neg h]
theorem freeze_block (w : World) (p : Addr) (n k : Nat) (hk : k ≠ p.block) : (w.freeze p n).heap[k]? = w.heap[k]? := by
  unfold World.freeze
  split
  · rfl
  · simp only [Array.getElem?_modify]
    rw [if_neg (fun e => hk e.symm)]
theorem freeze_grown (w : World) (p : Addr) (n : Nat) : w.grownBy (w.freeze p n) (some p.block) := by
  refine ⟨?_, ?_, ?_, ?_, fun k _ hne => freeze_block w p n k (fun e => hne (by rw [e]))⟩ <;> (unfold World.freeze; split <;> simp)
theorem C_cells {w w1 : World} {A : Option Addr} {n : Nat} {xs : List Int} (h : Kd.C (Kd.int .u8) w A n xs) (hc : ∀ a, w1.cell? a = w.cell? a) : Kd.C (Kd.int .u8) w1 A n xs :=
  ⟨h.1, h.2.1, fun h0 => by
    obtain ⟨ad, e, hh⟩ := h.2.2 h0
    exact ⟨ad, e, fun j p hp => by
      obtain ⟨c, hl, hk, hcell⟩ := hh j p hp
      exact ⟨c, hl, hk, fun i u hu => (hc _).trans (hcell i u hu)⟩⟩⟩
theorem conv_step {ops : Array Oper} {Q : Exit → Act → World → Prop} {Kc : Act → World → Prop} {o : Oper} {a : Act} {W w0 : World} {base : Nat} {ok : Nat → Prop} {A : Option Addr} {c : Nat} {xs : List Int}
    (hw : Region.wanted o (yielded ops a.tmps) = true) (hrun : (execOp a.eval o).run Tryz.prog W = (Sem.run Tryz.prog (convert 22 22 (.slice A xs.length c)) W).andThen fun v w' => .ok (.value v) w')
    (hR : Kd.R (Kd.int .u8) 5 W base ok (.slice A xs.length c) xs) (hn : 0 < xs.length) (HB : Below base w0 W) (hbase : base ≤ W.heap.size)
    (h : ∀ w1, Kd.C (Kd.int .u8) w1 A xs.length xs → xs.length ≤ c → Below base w0 w1 → W.grownBy w1 (Value.slice A xs.length c).ownBlock → Kc (a.put o.dst (.slice A xs.length c)) w1) : if Region.wanted o (yielded ops a.tmps) = true then Oper.wp Tryz.prog o a W Kc Q else Kc (a.put o.dst undef) W := by
  obtain ⟨_, hle, hC⟩ := Kd.R_reads' hR
  obtain ⟨h0, inner, ho, hr⟩ := hR
  rcases ho.2 with ⟨_, hz⟩ | ⟨g, cap, cur, hv, hg, hh, hcap, hmax, hsz, htk⟩
  · omega
  · injection hv with hA _ hc
    subst hA hc
    have hsh : W.shape? g = some (5, cur.size) := by unfold World.shape?; rw [hh]
    have hcv : Sem.run Tryz.prog (convert 22 22 (.slice (some ⟨g, 0, none⟩) xs.length c)) W = .ok (.slice (some ⟨g, 0, none⟩) xs.length c) (W.freeze ⟨g, cur.size, none⟩ 1) := by
      simp [convert, run_underlying Tryz.underlying22, run_underlying Tryz.underlying5, markStringish, hsh]
    rw [hcv] at hrun
    have hgr := freeze_grown W ⟨g, cur.size, none⟩ 1
    exact event_step hw hrun (h _ (C_cells hC (freeze_cell W _ 1)) hle (HB.grown hgr hbase (fun k hk => by injection hk with hk; rw [← hk]; exact hg)) hgr)
end Go.Proofs.YtlbcaadflcjpeaaGreatDoor.PSpo

/- What the exact run says of a builtin, of a call's beginning and of a deferred call is so. No condition. -/
import Derived.Test.YtdbbchgbgdbhbaaGreatDoorMyXeR
set_option linter.unusedVariables false
set_option linter.unusedSimpArgs false
namespace Go.Proofs.YtdbbchgbgdbhbaaGreatDoor.Xe
open Go

section
variable {P : Program} {γ : Gs} {cx : Cx} {g : Gh} {β β' : Bm} {hp hp' hp'' : Rd} {nx nx' : Nat} {tm : List (Nat × V)} {w w' : World} {a : Act} {o : Oper} {v : V} {upd : Upd}

theorem WOk.less (h : WOk γ g β hp w) (hl : ∀ i x, hp' i = some x → hp i = some x) : WOk γ g β hp' w :=
  ⟨h.j, h.b0, fun id b hid => h.blk id b (hl id b hid), fun id id' b b' bk sz sz' h1 h2 => h.inj id id' b b' bk sz sz' (hl _ _ h1) (hl _ _ h2)⟩

theorem Mv.less (h : Mv hp nx β w hp' nx' β' w') (hl : ∀ i x, hp'' i = some x → hp' i = some x) : Mv hp nx β w hp'' nx' β' w' :=
  ⟨h.ext, h.rng, h.le, h.size, h.keep, fun id b bk sz h1 h2 => h.new id b bk sz (hl _ _ h1) h2⟩

/-- A slice: its cells. -/
structure Sl (w : World) (wd : Nat) (p : Option Addr) (n c : Nat) (news : List Value) : Prop where
  len : news.length = n * wd
  cell : ∀ (ad : Addr), p = some ad → ∀ (j : Nat) (u : Value), news[j]? = some u → w.cell? (ad.add j) = some u
  none : p = none → n = 0
  one : ∀ v ∈ news, v.oneCell' = true
  cap : n ≤ c

theorem sl_nil (wd : Nat) (p : Option Addr) : Sl w wd p 0 0 [] :=
  ⟨by simp, fun ad _ j u h => by simp at h, fun _ => rfl, fun v h => (by cases h), Nat.le_refl _⟩

theorem row_spec (W : WOk γ g β hp w) {c : C} {l : List C} {n wd : Nat} (h : row hp c = some (l, n, wd)) {x : Value} (hx : CV γ β c x) :
    ∃ p cp news, x = .slice p n cp ∧ Sl w wd p n cp news ∧ CL γ β l news := by
  unfold row at h
  split at h
  · cases h
    simp only [CV] at hx
    exact ⟨none, 0, [], hx, sl_nil _ _, CL.nil⟩
  · simp only [Option.bind_eq_some_iff, Option.map_eq_some_iff] at h
    obtain ⟨b, hb, r, hc, h⟩ := h
    cases h
    simp only [CV] at hx
    obtain ⟨bk, sz, cap, e1, e2, e3, e4⟩ := hx
    obtain ⟨bk', sz', cells, h1, h2, h3, h4, -, h5⟩ := blk_cut W hb hc
    rw [e1] at h1
    cases h1
    refine ⟨_, cap, _, e2, ⟨?_, fun ad had j u hj => ?_, (fun h => by cases h), h5.oneCell, e3⟩, h5⟩
    · simp only [List.length_take, List.length_drop]
      omega
    · cases had
      rw [add_lit, cell_of_row w bk _ cells b.elem (0, 0) h2]
      rw [List.getElem?_take] at hj
      split at hj
      · simpa using hj
      · cases hj
  · cases h

theorem run_first {wd : Nat} {p : Option Addr} {n c : Nat} {news : List Value} (h : Sl w wd p n c news) (w' : World) (hw : ∀ ad, w'.cell? ad = w.cell? ad) :
    (Builtin.firstCells wd n (.slice p n c)).run P w' = .ok news.toArray w' := by
  cases p with
  | none =>
    have := h.none rfl
    subst this
    have hl := h.len
    rw [Nat.zero_mul] at hl
    have := List.eq_nil_of_length_eq_zero hl
    subst this
    rfl
  | some ad => exact run_firstCells_some (P := P) w' wd n ad n c news h.len (fun j u hj => by rw [hw]; exact h.cell ad rfl j u hj)

/-- append with nothing. -/
theorem run_app0 {t ty e : TypeId} {i : TypeInfo} (ht : P.underlying t = some (.slice e)) (hi : P.info? e = some i) {p q : Option Addr} {n c : Nat} (hc : n ≤ c) (d : Nat) :
    (Builtin.append_ #[t, t] ty #[.slice p n c, .slice q 0 d]).run P w = .ok (.slice p n c) w := by
  have hf : ∀ w' : World, (Builtin.firstCells i.size 0 (.slice q 0 d)).run P w' = .ok #[] w' := fun w' => by
    cases q <;> simp [Builtin.firstCells, loadCells, loadCellsFrom]
  cases p <;> simp [Builtin.append_, run_underlying ht, sizeOf, typeInfo, hi, Builtin.lenOf, hc, hf, storeCells]

/-- append where there is no room. -/
theorem run_app_grow {t ty e : TypeId} {i : TypeInfo} {z : Value} (ht : P.underlying t = some (.slice e)) (hi : P.info? e = some i) (hz : i.zero = some z)
    {p q : Option Addr} {n c m d : Nat} {olds news : List Value} (ho : Sl w i.size p n c olds) (hn : Sl w i.size q m d news)
    (hg : c < n + m) (hs : n + m ≤ 2000) (hb : i.bytes ≤ 1000) :
    (Builtin.append_ #[t, t] ty #[.slice p n c, .slice q m d]).run P w = .ok (.slice (some ⟨w.heap.size, 0, none⟩) (n + m) (grownCap w (n + m) c e))
      (w.drew.alloc (.cells (olds.toArray ++ news.toArray ++ Builtin.zeroCells z.cells (grownCap w (n + m) c e - (n + m))) e)) := by
  have h1 : ¬ (n + m ≤ c) := by omega
  have h63 : ¬ (9223372036854775807 < ((n : Int) + (m : Int))) := by omega
  have hfit := growslice_fits (need := n + m) (old := c) (bytes := i.bytes) hg (by
    have := Nat.mul_le_mul hs hb
    omega)
  have h48 : ¬ (281474976710656 < Builtin.nextslicecap (n + m) c * i.bytes) := by omega
  have hfo := run_first (P := P) ho w.drew (fun _ => rfl)
  have hfn := run_first (P := P) hn w.drew (fun _ => rfl)
  have hfo' : (Builtin.firstCells i.size n (.slice p n c)).run P { w with drawn := w.drawn + 1 } = .ok olds.toArray { w with drawn := w.drawn + 1 } := hfo
  have hfn' : (Builtin.firstCells i.size m (.slice q m d)).run P { w with drawn := w.drawn + 1 } = .ok news.toArray { w with drawn := w.drawn + 1 } := hfn
  simp [Builtin.append_, run_underlying ht, sizeOf, typeInfo, zeroValue, hi, hz, Builtin.lenOf, h1, h63, h48, Question.forced, hfo, hfn, hfo', hfn', newRow, grownCap]
  congr 2
  apply Array.ext'
  simp [List.append_assoc]

/-- append where there is room. -/
theorem run_app_room {t ty e : TypeId} {i : TypeInfo} (ht : P.underlying t = some (.slice e)) (hi : P.info? e = some i)
    {b : Nat} {q : Option Addr} {n c m d : Nat} {news : List Value} (hn : Sl w i.size q m d news)
    {cur : Array Value} {el : TypeId} (hh : w.heap[b]? = some (.cells cur el (0, 0))) (hfit : n * i.size + news.length ≤ cur.size) (hr : n + m ≤ c) :
    (Builtin.append_ #[t, t] ty #[.slice (some ⟨b, 0, none⟩) n c, .slice q m d]).run P w =
      .ok (.slice (some ⟨b, 0, none⟩) (n + m) c) (w.setRow b (cur.toList.take (n * i.size) ++ news ++ cur.toList.drop (n * i.size + news.length)).toArray) := by
  have hfn := run_first (P := P) hn w (fun _ => rfl)
  have hst := run_storeCells_at (P := P) b (n * i.size) el news 0 cur w hh (by omega) hn.one
  simp only [Nat.add_zero] at hst
  simp [Builtin.append_, run_underlying ht, sizeOf, typeInfo, hi, Builtin.lenOf, hr, hfn, add_lit, hst]

theorem zero_list (z : Array Value) : ∀ n, (Builtin.zeroCells z n).toList = (List.replicate n z.toList).flatten
  | 0 => by simp [Builtin.zeroCells]
  | n + 1 => by
    rw [List.replicate_succ', List.flatten_append, ← zero_list z n]
    simp only [Builtin.zeroCells, Array.toList_map, Array.toList_range, List.flatten_singleton]
    rw [Nat.add_mul, Nat.one_mul, List.range_add, List.map_append]
    congr 1
    apply List.ext_getElem?
    intro j
    simp only [List.map_map, List.getElem?_map]
    by_cases hj : j < z.size
    · rw [List.getElem?_range hj]
      simp [Nat.mul_add_mod_self_right, Nat.mod_eq_of_lt hj, hj]
    · rw [List.getElem?_eq_none (by simpa using hj), List.getElem?_eq_none (by simpa using hj)]
      rfl

/-- append of zero elements. -/
theorem run_app_zero {t t' ty e : TypeId} {k : IntKind} {i : TypeInfo} {z : Value} (ht : P.underlying t = some (.slice e)) (ht' : P.underlying t' = some (.int k)) (hi : P.info? e = some i) (hz : i.zero = some z)
    {n : Nat} (h0 : 0 < n) (hs : n ≤ 2000) (hb : i.bytes ≤ 1000) (hpos : 0 < i.size) :
    (Builtin.append_ #[t, t'] ty #[.slice none 0 0, .int .i64 n]).run P w = .ok (.slice (some ⟨w.heap.size, 0, none⟩) n (grownCap w n 0 e))
      (w.drew.alloc (.cells (Builtin.zeroCells z.cells n ++ Builtin.zeroCells z.cells (grownCap w n 0 e - n)) e)) := by
  have hwr : IntKind.i64.wrap (n : Int) = (n : Int) := by simp [IntKind.wrap, IntKind.signed, IntKind.bits]; omega
  have h1 : ¬ ((n : Int) < 0) := by omega
  have hnb := Nat.mul_le_mul hs hb
  have h2 : ¬ ((281474976710656 : Int) < (n : Int) * (i.bytes : Int)) := by
    have : (n : Int) * (i.bytes : Int) = ((n * i.bytes : Nat) : Int) := by simp
    rw [this]
    omega
  have h3 : ¬ n = 0 := by omega
  have h63 : ¬ ((9223372036854775807 : Int) < (n : Int)) := by omega
  have hfit := growslice_fits (need := n) (old := 0) (bytes := i.bytes) h0 (by omega)
  have h48 : ¬ (281474976710656 < Builtin.nextslicecap n 0 * i.bytes) := by omega
  have h4 : ¬ i.size = 0 := by omega
  have h5 : ¬ n * i.size = 0 := Nat.ne_of_gt (Nat.mul_pos h0 hpos)
  have hf : ∀ w' : World, (Builtin.firstCells i.size 0 (.slice none 0 0)).run P w' = .ok #[] w' := fun w' => by simp [Builtin.firstCells]
  simp [Builtin.append_, run_underlying ht, run_underlying ht', sizeOf, typeInfo, zeroValue, hi, hz, asInt, asIntOf, hwr, h1, h2, h3, h5, h63, h48, hf, Question.forced, newRow, grownCap]

theorem zero_cl {l : List C} {z : List Value} (h : CL γ β l z) : ∀ n, CL γ β (List.replicate n l).flatten (List.replicate n z).flatten
  | 0 => CL.nil
  | n + 1 => by
    rw [List.replicate_succ, List.replicate_succ, List.flatten_cons, List.flatten_cons]
    exact h.append (zero_cl h n)

/-- A new row. -/
theorem new_row (W : WOk γ g β hp w) (hf : β nx = none) {cells : Array Value} {e : TypeId} {l : List C} {n cap wd : Nat} (hw : w'.heap = w.heap.push (.cells cells e (0, 0))) (ho : OsEq w w') {news tl : List Value}
    (hl : cells.toList = news ++ tl) (hc : CL γ β l news) (hsz : cells.size = cap * wd) (hn : n ≤ cap) {hp2 : Rd} (hp2l : ∀ i x, hp2 i = some x → upF hp [(nx, some { elem := e, cells := l })] i = some x) :
    ∃ β', WOk γ g β' hp2 w' ∧ Mv hp nx β w hp2 (nx + 1) β' w' ∧ CV γ β' (.sl nx 0 n wd) (.slice (some ⟨w.heap.size, 0, none⟩) n cap) := by
  have N := new_block (nx := nx) (cells := cells) (blk := { elem := e, cells := l }) W hf hw ho (by
    rw [hl, ← hc.length, List.take_left']
    · exact hc.up (Bm.put_ble hf)
    · rfl)
  exact ⟨_, N.1.less hp2l, N.2.less hp2l, by simp only [CV]; exact ⟨w.heap.size, cells.size, cap, by simp [Bm.put], rfl, hn, by omega⟩⟩

theorem app_sound (H : CxOk P γ cx) (W : WOk γ g β hp w) {t e ty : TypeId} (hu : P.underlying t = some (.slice e)) {ca cb : C} (h : appV cx hp nx e ca cb = some (.val v upd nx')) (hf : Free β nx nx')
    {vx vy : Value} (hx : CV γ β ca vx) (hy : CV γ β cb vy) :
    ∃ β' w' x, (Builtin.append_ #[t, t] ty #[vx, vy]).run P w = .ok x w' ∧ WOk γ g β' (upF hp upd) w' ∧ Mv hp nx β w (upF hp upd) nx' β' w' ∧ VV γ β' v x := by
  unfold appV at h
  simp only [Option.bind_eq_some_iff] at h
  obtain ⟨ie, hie, ⟨l, m, wd⟩, hr, h⟩ := h
  have hT := H.ty e ie hie
  obtain ⟨info, z, hinfo, hsize, hby, hz, -, hzs⟩ := hT.info
  have hpos := hT.pos
  obtain ⟨q, d, news, rfl, hs, hnc⟩ := row_spec W hr hy
  simp only at h
  split at h
  · split at h
    · cases h
      simp only [CV] at hx
      subst hx
      exact ⟨β, w, _, run_app0 hu hinfo (Nat.le_refl _) d, W, Mv.refl, by simp [VV, CV]⟩
    · cases h
      have hx' := hx
      simp only [CV] at hx
      obtain ⟨bk, sz, cap, e1, rfl, e3, e4⟩ := hx
      exact ⟨β, w, _, run_app0 hu hinfo e3 d, W, Mv.refl, VV.c_iff.2 hx'⟩
    · cases h
  · rename_i m
    have hs : Sl w wd q (m + 1) d news := hs
    split at h
    · rename_i hwd
      subst hwd
      split at h
      · split at h
        · rename_i hsm
          cases h
          simp only [CV] at hx
          subst hx
          have hrun := run_app_grow (P := P) (ty := ty) (p := none) (n := 0) (c := 0) hu hinfo hz (sl_nil _ _) (by rw [hsize]; exact hs) (by omega) (by simp only [small] at hsm; omega) hby
          have hge := grownCap_ge w (m + 1) 0 e
          simp only [Nat.zero_add] at hrun
          have hfree := hf nx (Nat.le_refl _) (Nat.lt_succ_self _)
          have hln := hs.len
          obtain ⟨β', h1, h2, h3⟩ := new_row (w' := w.drew.alloc (.cells (([] : List Value).toArray ++ news.toArray ++ Builtin.zeroCells z.cells (grownCap w (m + 1) 0 e - (m + 1))) e)) (n := m + 1) (cap := grownCap w (m + 1) 0 e) (wd := ie.size) (e := e) (l := l)
            W hfree rfl ⟨rfl, rfl, rfl⟩ (news := news) (tl := (Builtin.zeroCells z.cells (grownCap w (m + 1) 0 e - (m + 1))).toList) (by simp) hnc (by
              simp only [Array.size_append, List.size_toArray, size_zeroCells, hzs, hln, List.length_nil, Nat.zero_add, ← Nat.add_mul]
              congr 1
              omega) hge (hp2 := upF hp [(nx, some { elem := e, cells := l })]) (fun i x hi => hi)
          exact ⟨β', _, _, hrun, h1, h2, VV.c_iff.2 h3⟩
        · cases h
      · rename_i id n wd'
        simp only [Option.bind_eq_some_iff] at h
        obtain ⟨blk, hb, h⟩ := h
        split at h
        · rename_i hcond
          obtain ⟨rfl, hel, hle, hsm⟩ := hcond
          cases h
          simp only [CV] at hx
          obtain ⟨bk, sz, cap, e1, rfl, e3, e4⟩ := hx
          obtain ⟨bk', sz', cells, h1, h2, h3, h4, h5⟩ := W.blk id blk hb
          rw [e1] at h1
          cases h1
          have hlen := h5.length
          rw [List.length_take, Array.length_toList] at hlen
          have hfree := hf nx (Nat.le_refl _) (Nat.lt_succ_self _)
          have hne : id ≠ nx := fun he => by rw [he, hfree] at e1; cases e1
          have hln := hs.len
          have hold : CL γ β (blk.cells.take (n * ie.size)) (cells.toList.take (n * ie.size)) := by
            have := h5.take (n := n * ie.size)
            rwa [List.take_take, Nat.min_eq_left hle] at this
          by_cases hroom : n + (m + 1) ≤ cap
          · have hfit : (n + (m + 1)) * ie.size ≤ cap * ie.size := Nat.mul_le_mul_right _ hroom
            rw [Nat.add_mul] at hfit
            have hrun := run_app_room (P := P) (ty := ty) (n := n) (c := cap) hu hinfo (by rw [hsize]; exact hs) h3 (by rw [hsize, hln]; omega) hroom
            rw [hsize] at hrun
            have hble := Bm.put_ble (x := (bk, sz)) hfree
            have S := set_block (nx' := nx + 1) (β' := β.put nx (bk, sz)) (hp' := upF hp [(nx, some { elem := e, cells := blk.cells.take (n * ie.size) ++ l }), (id, none)]) (id' := nx) (blk := { elem := e, cells := blk.cells.take (n * ie.size) ++ l })
              (cells := (cells.toList.take (n * ie.size) ++ news ++ cells.toList.drop (n * ie.size + news.length)).toArray) W hb e1 hble (by simp [Bm.put]) (fun i x hi => by
                simp only [upF] at hi
                split at hi
                · rename_i he
                  cases hi
                  exact .inl ⟨he, rfl⟩
                · rename_i he
                  split at hi
                  · cases hi
                  · rename_i he'
                    exact .inr ⟨he', he, hi⟩) h3 hel.symm (by
                simp only [List.size_toArray, List.length_append, List.length_take, List.length_drop, Array.length_toList]
                omega) (by
                have hl2 : (cells.toList.take (n * ie.size) ++ news).length = (blk.cells.take (n * ie.size) ++ l).length := (hold.append hnc).length
                rw [List.toList_toArray, ← hl2, List.take_left']
                · exact (hold.append hnc).up hble
                · rfl) (Nat.le_succ _) (fun i hi => by
                unfold Bm.put
                rw [if_neg (by omega)])
            exact ⟨_, _, _, hrun, S.1, S.2, VV.c_iff.2 (by simp only [CV]; exact ⟨bk, sz, cap, by simp [Bm.put], rfl, hroom, e4⟩)⟩
          · have hob : Sl w info.size (some ⟨bk, 0, none⟩) n cap (cells.toList.take (n * ie.size)) := by
              rw [hsize]
              refine ⟨by simp only [List.length_take, Array.length_toList]; omega, fun ad had j u hj => ?_, (fun h => by cases h), hold.oneCell, e3⟩
              cases had
              rw [add_lit, cell_of_row w bk _ cells blk.elem (0, 0) h3, Nat.zero_add]
              rw [List.getElem?_take] at hj
              split at hj
              · simpa using hj
              · cases hj
            have hrun := run_app_grow (P := P) (ty := ty) hu hinfo hz hob (by rw [hsize]; exact hs) (by omega) (by simp only [small] at hsm; omega) hby
            have hge := grownCap_ge w (n + (m + 1)) cap e
            have hol : (cells.toList.take (n * ie.size)).length = n * ie.size := by simp only [List.length_take, Array.length_toList]; omega
            obtain ⟨β', h1, h2, h3⟩ := new_row (w' := w.drew.alloc (.cells ((cells.toList.take (n * ie.size)).toArray ++ news.toArray ++ Builtin.zeroCells z.cells (grownCap w (n + (m + 1)) cap e - (n + (m + 1)))) e)) (n := n + (m + 1)) (cap := grownCap w (n + (m + 1)) cap e) (wd := ie.size) (e := e)
              (l := blk.cells.take (n * ie.size) ++ l) W hfree rfl ⟨rfl, rfl, rfl⟩ (news := cells.toList.take (n * ie.size) ++ news) (tl := (Builtin.zeroCells z.cells (grownCap w (n + (m + 1)) cap e - (n + (m + 1)))).toList) (by simp) (hold.append hnc) (by
                simp only [Array.size_append, List.size_toArray, size_zeroCells, hzs, hol, hln, ← Nat.add_mul]
                congr 1
                omega) hge (hp2 := upF hp [(nx, some { elem := e, cells := blk.cells.take (n * ie.size) ++ l }), (id, none)]) (fun i x hi => by
                simp only [upF] at hi ⊢
                split
                · rename_i he
                  rw [if_pos he] at hi
                  exact hi
                · rename_i he
                  rw [if_neg he] at hi
                  split at hi
                  · cases hi
                  · exact hi)
            exact ⟨β', _, _, hrun, h1, h2, VV.c_iff.2 h3⟩
        · cases h
      · cases h
    · cases h

theorem exec_builtin {c : Call} {b : Builtin} (ho : o.op = .call c) (hc : c.callee = .builtin b) {ρ : Operand → Value} :
    execOp ρ o = builtin b c.argTypes o.type (c.args.map fun | .const _ => true | _ => false) (c.args.map ρ) := by
  simp only [execOp, ho, resolve, hc, pure_bind, invoke]
  rfl

theorem arr_one {α : Type} {x : Array α} {t : α} (h : x.toList = [t]) : x = #[t] := Array.ext' (by simpa using h)
theorem arr_two {α : Type} {x : Array α} {t t' : α} (h : x.toList = [t, t']) : x = #[t, t'] := Array.ext' (by simpa using h)

theorem map_one {α δ : Type} {f : α → δ} {l : List α} {x : δ} (h : l.map f = [x]) : ∃ y, l = [y] ∧ f y = x := by
  match l, h with
  | [y], h => exact ⟨y, rfl, by simpa using h⟩

theorem map_two {α δ : Type} {f : α → δ} {l : List α} {x y : δ} (h : l.map f = [x, y]) : ∃ p q, l = [p, q] ∧ f p = x ∧ f q = y := by
  match l, h with
  | [p, q], h =>
    simp only [List.map_cons, List.map_nil, List.cons.injEq, and_true] at h
    exact ⟨p, q, rfl, h.1, h.2⟩

theorem lenC_spec (H : CxOk P γ cx) {t ty : TypeId} {i : TI} (hi : cx.ty t = some i) {c : C} {e : IE} (h : lenC i.desc c = some e) {x : Value} (hx : CV γ β c x) :
    ∃ n : Nat, (Builtin.len_ #[t] ty #[x]).run P w = .ok (goInt n) w ∧ e.ev γ = n := by
  cases c with
  | s q =>
    cases q with
    | lit l =>
      simp only [lenC] at h
      split at h
      · rename_i hd
        cases h
        simp only [CV, SE.ev] at hx
        have hsz : (litS l).size = l.length := by simp [litS, ByteArray.size]
        exact ⟨l.length, by simp [Builtin.len_, run_underlying (ty_string H hi hd), hx, hsz], rfl⟩
      · cases h
    | _ => simp [lenC] at h
  | nilS =>
    simp only [lenC] at h
    split at h
    · rename_i e hd
      cases h
      simp only [CV] at hx
      exact ⟨0, by simp [Builtin.len_, run_underlying (ty_slice H hi hd), hx], rfl⟩
    · cases h
  | sl id off n wd =>
    simp only [lenC] at h
    split at h
    · rename_i e hd
      cases h
      simp only [CV] at hx
      obtain ⟨bk, sz, cap, e1, e2, e3, e4⟩ := hx
      exact ⟨n, by simp [Builtin.len_, run_underlying (ty_slice H hi hd), e2], rfl⟩
    · cases h
  | _ => simp [lenC] at h

/-- A builtin. -/
theorem blt_sound (H : CxOk P γ cx) (I : In γ g β hp tm w a o) {c : Call} (ho : o.op = .call c) {b : Builtin} (hb : c.callee = .builtin b) (h : evalOp cx tm hp nx o = some (.val v upd nx')) (hf : Free β nx nx') :
    Me P γ g β hp w a o nx v upd nx' := by
  simp only [evalOp, ho, callV, hb] at h
  have hrho : ∀ x ∈ c.args.toList, VV γ β (opV tm x) (a.eval x) := fun x hx => I.rho (by simp only [ho, Op.operands, Call.operands, hb, Array.toList_append, List.mem_append]; exact .inr hx)
  unfold bltV at h
  split at h
  · rename_i x t hargs hts
    obtain ⟨y, hy, hyx⟩ := map_one hargs
    have hv := hrho y (by rw [hy]; exact List.mem_singleton.2 rfl)
    rw [hyx] at hv
    have hv := VV.c_iff.1 hv
    have hts := arr_one hts
    have hy := arr_one hy
    simp only [Option.bind_eq_some_iff, Option.map_eq_some_iff] at h
    obtain ⟨i, hi, e, he, h⟩ := h
    cases h
    obtain ⟨n, hn, hen⟩ := lenC_spec (ty := o.type) (w := w) H hi he hv
    refine Pu.me I.wok (Pu.mk (x := .int .i64 n) ?_ (VV.c_iff.2 (by simp only [CV]; rw [hen])))
    rw [exec_builtin ho hb, hy, hts]
    simp [builtin, hn, goInt]
  · rename_i t hargs hts
    obtain ⟨y, hy, hyx⟩ := map_one hargs
    have hv := hrho y (by rw [hy]; exact List.mem_singleton.2 rfl)
    rw [hyx] at hv
    have hv := VV.c_iff.1 hv
    simp only [CV] at hv
    have hts := arr_one hts
    have hy := arr_one hy
    simp only [Option.map_eq_some_iff] at h
    obtain ⟨e, he, h⟩ := h
    cases h
    have hu := sliceOf_spec H he
    refine Pu.me I.wok (Pu.mk (x := .int .i64 0) ?_ (VV.c_iff.2 (by simp [CV, IE.ev])))
    rw [exec_builtin ho hb, hy, hts]
    simp [builtin, Builtin.cap_, run_underlying hu, hv, goInt]
  · rename_i n t t' hargs hts
    obtain ⟨p, q, hy, hpx, hqx⟩ := map_two hargs
    have hv1 := hrho p (by rw [hy]; exact List.mem_cons_self)
    have hv2 := hrho q (by rw [hy]; simp)
    rw [hpx] at hv1
    rw [hqx] at hv2
    have hv1 := VV.c_iff.1 hv1
    have hv2 := VV.c_iff.1 hv2
    simp only [CV, IE.ev] at hv1 hv2
    have hts := arr_two hts
    have hy := arr_two hy
    simp only [Option.bind_eq_some_iff] at h
    obtain ⟨e, he, i, hi, h⟩ := h
    have hu := sliceOf_spec H he
    split at h
    · rename_i k hd
      have hu' := ty_int H hi hd
      unfold appZ at h
      simp only [Option.bind_eq_some_iff] at h
      obtain ⟨ie, hie, h⟩ := h
      split at h
      · rename_i hn
        cases h
        have hT := H.ty e ie hie
        obtain ⟨info, z, hinfo, hsize, hby, hz, hzc, hzs⟩ := hT.info
        have hrun := run_app_zero (P := P) (w := w) (ty := o.type) hu hu' hinfo hz hn.1 (by have := hn.2; simp only [small] at this; omega) hby (by rw [hsize]; exact hT.pos)
        have hge := grownCap_ge w n 0 e
        obtain ⟨β', h1, h2, h3⟩ := new_row (w' := w.drew.alloc (.cells (Builtin.zeroCells z.cells n ++ Builtin.zeroCells z.cells (grownCap w n 0 e - n)) e)) (n := n) (cap := grownCap w n 0 e) (wd := ie.size) (e := e) (l := (List.replicate n ie.zero).flatten)
          I.wok (hf nx (Nat.le_refl _) (Nat.lt_succ_self _)) rfl ⟨rfl, rfl, rfl⟩ (news := (List.replicate n z.cells.toList).flatten) (tl := (Builtin.zeroCells z.cells (grownCap w n 0 e - n)).toList) (by rw [Array.toList_append, zero_list]) (zero_cl (hzc _ _) n) (by
            simp only [Array.size_append, size_zeroCells, hzs, ← Nat.add_mul]
            congr 1
            omega) hge (hp2 := upF hp [(nx, some { elem := e, cells := (List.replicate n ie.zero).flatten })]) (fun i x hi => hi)
        refine ⟨β', _, _, .inl ?_, h1, h2, VV.c_iff.2 h3⟩
        rw [exec_builtin ho hb, hy, hts]
        simp [builtin, hv1, hv2] at hrun ⊢
        simp [hrun]
      · cases h
    · cases h
  · rename_i ca cb t t' _ hargs hts
    obtain ⟨p, q, hy, hpx, hqx⟩ := map_two hargs
    have hv1 := hrho p (by rw [hy]; exact List.mem_cons_self)
    have hv2 := hrho q (by rw [hy]; simp)
    rw [hpx] at hv1
    rw [hqx] at hv2
    split at h
    · rename_i htt
      subst htt
      have hts := arr_two hts
      have hy := arr_two hy
      simp only [Option.bind_eq_some_iff] at h
      obtain ⟨e, he, h⟩ := h
      obtain ⟨β', w', x, hrun, h1, h2, h3⟩ := app_sound (ty := o.type) H I.wok (sliceOf_spec H he) h hf (VV.c_iff.1 hv1) (VV.c_iff.1 hv2)
      refine ⟨β', w', x, .inl ?_, h1, h2, h3⟩
      rw [exec_builtin ho hb, hy, hts]
      simp [builtin, hrun]
    · cases h
  · rename_i k x k' y hargs
    obtain ⟨p, q, hy, hpx, hqx⟩ := map_two hargs
    have hv1 := hrho p (by rw [hy]; exact List.mem_cons_self)
    have hv2 := hrho q (by rw [hy]; simp)
    rw [hpx] at hv1
    rw [hqx] at hv2
    have hv1 := VV.c_iff.1 hv1
    have hv2 := VV.c_iff.1 hv2
    simp only [CV, IE.ev] at hv1 hv2
    have hy := arr_two hy
    split at h
    · rename_i hk
      have hk : k = k' := by simpa using hk
      subst hk
      cases h
      refine Pu.me I.wok (Pu.mk (x := .int k (if y < x then y else x)) ?_ (VV.c_iff.2 (by simp [CV, IE.ev])))
      rw [exec_builtin ho hb, hy]
      simp [builtin, Builtin.min_, Builtin.min2, hv1, hv2]
    · cases h
  · cases h

theorem VL.mapR : ∀ {l : List Operand}, (∀ x ∈ l, VV γ β (opV tm x) (a.eval x)) → VL γ β (l.map (opV tm)) (l.map a.eval)
  | [], _ => VL.nil
  | x :: l, h => VL.cons (h x List.mem_cons_self) (VL.mapR fun y hy => h y (List.mem_cons_of_mem _ hy))

theorem onlyVal_val {x : Option Out} (h : onlyVal x = some (.val v upd nx')) : x = some (.val v upd nx') := by
  unfold onlyVal at h
  split at h
  · exact h
  · cases h

theorem evalO_val {rd : Rd} (h : evalO cx tm rd nx o = some (.val v upd nx')) : evalOp cx tm rd nx o = some (.val v upd nx') := by
  unfold evalO at h
  split at h
  · split at h
    · exact h
    · exact onlyVal_val h
  · exact h
  · exact onlyVal_val h

theorem onlyVal_call {x : Option Out} {f : FuncId} {args : List V} (h : onlyVal x = some (.call f args)) : False := by
  unfold onlyVal at h
  split at h <;> cases h

theorem onlyVal_dfr {x : Option Out} {f : FuncId} {args : List V} (h : onlyVal x = some (.dfr f args)) : False := by
  unfold onlyVal at h
  split at h <;> cases h

theorem op_call {rd : Rd} {f : FuncId} {args : List V} (h : evalO cx tm rd nx o = some (.call f args)) : ∃ c x, o.op = .call c ∧ c.callee = .value x ∧ evalOp cx tm rd nx o = some (.call f args) := by
  unfold evalO at h
  split at h
  · rename_i c ho
    split at h
    · rename_i x hc
      exact ⟨c, x, ho, hc, h⟩
    · exact (onlyVal_call h).elim
  · rename_i c ho
    exfalso
    simp only [evalOp, ho] at h
    split at h
    · split at h <;> cases h
    · cases h
  · exact (onlyVal_call h).elim

theorem op_dfr {rd : Rd} {f : FuncId} {args : List V} (h : evalO cx tm rd nx o = some (.dfr f args)) : ∃ c, o.op = .defer c ∧ evalOp cx tm rd nx o = some (.dfr f args) := by
  unfold evalO at h
  split at h
  · rename_i c ho
    split at h
    · rename_i x hc
      exfalso
      simp only [evalOp, ho, callV, hc] at h
      split at h <;> cases h
    · exact (onlyVal_dfr h).elim
  · rename_i c ho
    exact ⟨c, ho, h⟩
  · exact (onlyVal_dfr h).elim

/-- A call begins. -/
theorem call_sound (H : CxOk P γ cx) (I : In γ g β hp tm w a o) {f : FuncId} {args : List V} (h : evalO cx tm hp nx o = some (.call f args)) {fn : Func} (hfn : P.funcs[f]? = some fn) (hbo : fn.body.isSome = true) :
    ∃ xs : Array Value, VL γ β args xs.toList ∧ (execOp a.eval o).run P w = .ok (.enter f xs) w := by
  obtain ⟨c, x, ho, hc, h⟩ := op_call h
  simp only [evalOp, ho, callV, hc] at h
  · have hx : VV γ β (opV tm x) (a.eval x) := I.rho (by simp [ho, Op.operands, Call.operands, hc])
    have hargs := VL.mapR (γ := γ) (β := β) (tm := tm) (a := a) (l := c.args.toList) fun y hy => I.rho (by simp only [ho, Op.operands, Call.operands, hc, Array.toList_append, List.mem_append]; exact .inr hy)
    split at h
    · rename_i f' cs hq
      cases h
      rw [hq] at hx
      have hx := VV.c_iff.1 hx
      simp only [CV] at hx
      obtain ⟨caps, e1, e2⟩ := hx
      refine ⟨c.args.map a.eval ++ caps, by simpa using hargs.append (VL.ofC e2), ?_⟩
      have hn : ¬ fn.name = "runtime.NumGoroutine" := by simpa using H.name f fn hfn
      have hbo : ¬ fn.body = none := fun e => by simp [e] at hbo
      simp [execOp, ho, resolve, hc, e1, Deferred.ofValue, invoke, callFunc, hfn, hn, hbo]
    · cases h

/-- Any operation that gives a value of its own. -/
theorem val_sound (H : CxOk P γ cx) (I : In γ g β hp tm w a o) (h : evalO cx tm hp nx o = some (.val v upd nx')) (hf : Free β nx nx') : Me P γ g β hp w a o nx v upd nx' := by
  have h := evalO_val h
  have pu : Pu P γ β w a o nx v upd nx' → Me P γ g β hp w a o nx v upd nx' := fun hp => hp.me I.wok
  cases ho : o.op with
  | move x => exact pu (move_sound I (.inl ho) h)
  | assign x => exact pu (move_sound I (.inr ho) h)
  | pick c x y => exact pu (pick_sound I ho h)
  | alloc t => exact alloc_sound H I ho h hf
  | box t x => exact box_sound H I ho h hf
  | build t ps => exact pu (build_sound H I ho h)
  | buildSlice t n ps => exact buildSlice_sound H I ho h hf
  | load t x => exact pu (load_sound H I ho h)
  | store t x y => exact store_sound H I ho h
  | nilCheck x => exact pu (nilCheck_sound I ho h)
  | binOp op t x y t' => exact pu (binOp_sound H I ho h)
  | unOp u t x =>
    cases u with
    | not => exact pu (not_sound I ho h)
    | _ => simp [evalOp, ho] at h
  | convert t t' x => exact pu (convert_sound H I ho h)
  | makeFunc f first caps =>
    cases f with
    | func f => exact pu (makeFunc_sound I ho h)
    | _ => simp [evalOp, ho] at h
  | slice t x lo hi mx =>
    cases lo <;> cases hi <;> cases mx <;> first | exact pu (slice_sound H I ho h) | simp [evalOp, ho] at h
  | fieldAddr t x f => exact pu (fieldAddr_sound H I ho h)
  | field t x f => exact pu (field_sound H I ho h)
  | indexAddr t x i => exact pu (indexAddr_sound H I ho h)
  | index t x i => exact pu (index_sound H I ho h)
  | extract x j => exact pu (extract_sound I ho h)
  | call c =>
    cases hc : c.callee with
    | builtin b => exact blt_sound H I ho hc h hf
    | invoke r m => simp [evalOp, ho, callV, hc] at h
    | value f =>
      simp only [evalOp, ho, callV, hc] at h
      split at h <;> cases h
  | defer c =>
    simp only [evalOp, ho] at h
    split at h
    · split at h <;> cases h
    · cases h
  | _ => simp [evalOp, ho] at h

/-- A deferred call is laid by. -/
theorem dfr_sound (H : CxOk P γ cx) (I : In γ g β hp tm w a o) {f : FuncId} {args : List V} (h : evalO cx tm hp nx o = some (.dfr f args)) :
    ∃ (xs caps : Array Value), VL γ β args (xs ++ caps).toList ∧ (execOp a.eval o).run P w = .ok (.defer { target := .fn (.func f) caps, args := xs }) w := by
  obtain ⟨c, ho, h⟩ := op_dfr h
  simp only [evalOp, ho] at h
  split at h
  · rename_i x hc
    have hx : VV γ β (opV tm x) (a.eval x) := I.rho (by simp [ho, Op.operands, Call.operands, hc])
    have hargs := VL.mapR (γ := γ) (β := β) (tm := tm) (a := a) (l := c.args.toList) fun y hy => I.rho (by simp only [ho, Op.operands, Call.operands, hc, Array.toList_append, List.mem_append]; exact .inr hy)
    split at h
    · rename_i f' cs hq
      cases h
      rw [hq] at hx
      have hx := VV.c_iff.1 hx
      simp only [CV] at hx
      obtain ⟨caps, e1, e2⟩ := hx
      refine ⟨c.args.map a.eval, caps, by simpa using hargs.append (VL.ofC e2), ?_⟩
      simp [execOp, ho, resolve, hc, e1, Deferred.ofValue]
    · cases h
  · cases h
end
end Go.Proofs.YtdbbchgbgdbhbaaGreatDoor.Xe

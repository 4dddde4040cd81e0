/- What the contracts of the given functions say that fold. No condition. -/
import Derived.Test.YtpndcfibjjkgcaaMyFoB
import Derived.Test.YtpndcfibjjkgcaaMyFnc
namespace Go.Proofs.YtpndcfibjjkgcaaW.PrintWords.Kd
open Go Go.RowKit Go.Proofs.YtpndcfibjjkgcaaW.PrintWords
/-- Cells of which nothing is said but how many they are. -/
def opq (n : Nat) : Kd Unit where
  sz := n
  E := []
  K := fun _ _ cs => cs.length = n ∧ ∀ u ∈ cs, u.oneCell' = true
  M := fun _ _ _ _ cs => cs.length = n ∧ ∀ u ∈ cs, u.oneCell' = true
  K_len := fun h => h.1
  K_one := fun h => h.2
  K_below := fun _ h => h
  K_of_M := fun h => h
  M_mono := fun _ h => h
  M_bound := fun h => h
  M_move := fun _ h => h
  M_lower := fun _ h => h
abbrev altI (a : Go.Proofs.Ytpndcfibjjkgcaa.PIfg.S53) (v : Value) : List It := [.r 9 1 v a.f1.length (a.f1.map It.s)]
/-- An alternative: its texts, and six cells. -/
def alt : Kd Go.Proofs.Ytpndcfibjjkgcaa.PIfg.S53 where
  sz := 8
  E := [9, 33, 53, 68]
  K := fun w a cs => ∃ v us, cs = .string a.f0 :: v :: us ∧ (us.length = 6 ∧ ∀ u ∈ us, u.oneCell' = true) ∧ (it 1).K w (altI a v) [v]
  M := fun w base ok a cs => ∃ v us, cs = .string a.f0 :: v :: us ∧ (us.length = 6 ∧ ∀ u ∈ us, u.oneCell' = true) ∧ (it 1).M w base ok (altI a v) [v]
  K_len := fun h => by obtain ⟨v, us, rfl, h6, _⟩ := h; simp [h6.1]
  K_one := fun h => by
    obtain ⟨v, us, rfl, h6, h1⟩ := h
    intro u hu
    rcases List.mem_cons.1 hu with rfl | hu
    · rfl
    · rcases List.mem_cons.1 hu with rfl | hu
      · exact (it 1).K_one h1 u (by simp)
      · exact h6.2 u hu
  K_below := fun hb h => by obtain ⟨v, us, e, h6, h1⟩ := h; exact ⟨v, us, e, h6, (it 1).K_below hb h1⟩
  K_of_M := fun h => by obtain ⟨v, us, e, h6, h1⟩ := h; exact ⟨v, us, e, h6, (it 1).K_of_M h1⟩
  M_mono := fun hok h => by obtain ⟨v, us, e, h6, h1⟩ := h; exact ⟨v, us, e, h6, (it 1).M_mono hok h1⟩
  M_bound := fun h => by obtain ⟨v, us, e, h6, h1⟩ := h; exact ⟨v, us, e, h6, (it 1).M_bound h1⟩
  M_move := fun hm h => by obtain ⟨v, us, e, h6, h1⟩ := h; exact ⟨v, us, e, h6, (it 1).M_move hm h1⟩
  M_lower := fun hb h => by obtain ⟨v, us, e, h6, h1⟩ := h; exact ⟨v, us, e, h6, (it 1).M_lower hb h1⟩
end Go.Proofs.YtpndcfibjjkgcaaW.PrintWords.Kd
namespace Go.Proofs.Ytpndcfibjjkgcaa.MyItc
open Go Go.RowKit Go.Proofs.YtpndcfibjjkgcaaW.PrintWords Go.Proofs.YtpndcfibjjkgcaaW.PrintLast Go.Proofs.YtpndcfibjjkgcaaW.PrintMore Go.Proofs.Ytpndcfibjjkgcaa.PIfg
set_option linter.unusedVariables false
/-- A value whose rows were made from lo on; they need not lie apart. -/
structure MadE (lo : Nat) (w : World) (l3 : List S33) (l4 : List S68) (l5 : List S53) (A3 : Option Addr) (c3 : Nat) (i3 : List It) (A4 : Option Addr) (c4 : Nat) (i4 : List It) (A5 : Option Addr) (c5 : Nat) (i5 : List It) : Prop where
  at_ : AtL w (rows3 A3 l3.length c3 i3 A4 l4.length c4 i4 A5 l5.length c5 i5)
  ge : ∀ b ∈ blksL (rows3 A3 l3.length c3 i3 A4 l4.length c4 i4 A5 l5.length c5 i5), lo ≤ b
  r3 : RepEs l3 i3
  r4 : RepDs l4 i4
  r5 : RepAs l5 i5
/-- What the given copying comes to, as far as folding asks: rows of so many elements, the alternatives with their texts. -/
abbrev CpyE (n : Nat) : Prop := ∀ (y : S33) (A3 : Option Addr) (c3 : Nat) (A4 : Option Addr) (c4 : Nat) (A5 : Option Addr) (c5 : Nat) (w : World), ArgE w A3 c3 y.f3 A4 c4 y.f4 A5 c5 y.f5 → SqE n y →
  Calls Try.prog 35 #[.agg #[.int .i64 y.f0, .string y.f1, .int .i64 y.f2, .slice A3 y.f3.length c3, .slice A4 y.f4.length c4, .slice A5 y.f5.length c5]] w fun e w' => ∃ (A3 : Option Addr) (c3 : Nat) (A4 : Option Addr) (n4 c4 : Nat) (A5 : Option Addr) (c5 : Nat), e = .returned (.agg #[.int .i64 y.f0, .string y.f1, .int .i64 y.f2, .slice A3 y.f3.length c3, .slice A4 n4 c4, .slice A5 y.f5.length c5]) ∧ Kd.R (Kd.opq 6) 33 w' w.heap.size (fun _ => True) (.slice A3 y.f3.length c3) (List.replicate y.f3.length ()) ∧ Kd.R Kd.alt 53 w' w.heap.size (fun _ => True) (.slice A5 y.f5.length c5) y.f5 ∧ Below w.heap.size w w'
abbrev CpyD (n : Nat) : Prop := ∀ (A0 : Option Addr) (c0 : Nat) (l0 : List S68) (w : World), Kd.C k68 w A0 l0.length l0 → l0.length ≤ c0 → LD n l0 →
  Calls Try.prog 56 #[.slice A0 l0.length c0] w fun e w' => ∃ (A1 : Option Addr) (n1 c1 : Nat), e = .returned (.slice A1 n1 c1) ∧ Below w.heap.size w w'
theorem repl_succ (j : Nat) : List.replicate j () ++ [()] = List.replicate (j + 1) () := by rw [List.replicate_succ']
theorem ones6 {a c : Int} {b : ByteArray} {A3 A4 A5 : Option Addr} {n3 c3 n4 c4 n5 c5 : Nat} : ∀ u ∈ ([.int .i64 a, .string b, .int .i64 c, .slice A3 n3 c3, .slice A4 n4 c4, .slice A5 n5 c5] : List Value), u.oneCell' = true := by
  intro u hu
  simp only [List.mem_cons, List.not_mem_nil, or_false] at hu
  rcases hu with rfl | rfl | rfl | rfl | rfl | rfl <;> rfl
theorem ones9 {s b : ByteArray} {a c : Int} {A1 A3 A4 A5 A8 : Option Addr} {n1 c1 n3 c3 n4 c4 n5 c5 n8 c8 : Nat} : ∀ u ∈ ([.string s, .slice A1 n1 c1, .int .i64 a, .string b, .int .i64 c, .slice A3 n3 c3, .slice A4 n4 c4, .slice A5 n5 c5, .slice A8 n8 c8] : List Value), u.oneCell' = true := by
  intro u hu
  simp only [List.mem_cons, List.not_mem_nil, or_false] at hu
  rcases hu with rfl | rfl | rfl | rfl | rfl | rfl | rfl | rfl | rfl <;> rfl
/-- Definitions whose rows were made from lo on; they need not lie apart. -/
structure MadD (lo : Nat) (w : World) (l : List S68) (A : Option Addr) (c : Nat) (i : List It) : Prop where
  at_ : AtL w [.r 68 9 (.slice A l.length c) l.length i]
  ge : ∀ b ∈ blksL [.r 68 9 (.slice A l.length c) l.length i], lo ≤ b
  rd : RepDs l i
abbrev TnE (n : Nat) : Prop := ∀ (y : S33) (A3 : Option Addr) (c3 : Nat) (A4 : Option Addr) (c4 : Nat) (A5 : Option Addr) (c5 : Nat) (w : World), ArgE w A3 c3 y.f3 A4 c4 y.f4 A5 c5 y.f5 → SqE n y →
  Calls Try.prog 46 #[.agg #[.int .i64 y.f0, .string y.f1, .int .i64 y.f2, .slice A3 y.f3.length c3, .slice A4 y.f4.length c4, .slice A5 y.f5.length c5], .int .i64 4] w fun e w' => ∃ (A3 : Option Addr) (c3 : Nat) (i3 : List It) (A4 : Option Addr) (c4 : Nat) (i4 : List It) (A5 : Option Addr) (c5 : Nat) (i5 : List It), e = .returned (.agg #[.int .i64 (gE n y).f0, .string (gE n y).f1, .int .i64 (gE n y).f2, .slice A3 (gE n y).f3.length c3, .slice A4 (gE n y).f4.length c4, .slice A5 (gE n y).f5.length c5]) ∧ MadE w.heap.size w' (gE n y).f3 (gE n y).f4 (gE n y).f5 A3 c3 i3 A4 c4 i4 A5 c5 i5 ∧ Below w.heap.size w w'
abbrev TnD (n : Nat) : Prop := ∀ (A0 : Option Addr) (c0 : Nat) (l0 : List S68) (w : World), Kd.C k68 w A0 l0.length l0 → l0.length ≤ c0 → LD n l0 →
  Calls Try.prog 61 #[.slice A0 l0.length c0, .int .i64 4] w fun e w' => ∃ (A1 : Option Addr) (c1 : Nat) (i1 : List It), e = .returned (.slice A1 (l0.map (gD n)).length c1) ∧ MadD w.heap.size w' (l0.map (gD n)) A1 c1 i1 ∧ Below w.heap.size w w'
theorem nine_later {w w' : World} (hb : Below w.heap.size w w') {p0 p1 p2 p3 p4 p5 p6 p7 p8 : Addr} {v0 v1 v2 v3 v4 v5 v6 v7 v8 : Value} (h : w.cell? p0 = some v0 ∧ w.cell? p1 = some v1 ∧ w.cell? p2 = some v2 ∧ w.cell? p3 = some v3 ∧ w.cell? p4 = some v4 ∧ w.cell? p5 = some v5 ∧ w.cell? p6 = some v6 ∧ w.cell? p7 = some v7 ∧ w.cell? p8 = some v8) :
    w'.cell? p0 = some v0 ∧ w'.cell? p1 = some v1 ∧ w'.cell? p2 = some v2 ∧ w'.cell? p3 = some v3 ∧ w'.cell? p4 = some v4 ∧ w'.cell? p5 = some v5 ∧ w'.cell? p6 = some v6 ∧ w'.cell? p7 = some v7 ∧ w'.cell? p8 = some v8 :=
  ⟨lc_ hb h.1, lc_ hb h.2.1, lc_ hb h.2.2.1, lc_ hb h.2.2.2.1, lc_ hb h.2.2.2.2.1, lc_ hb h.2.2.2.2.2.1, lc_ hb h.2.2.2.2.2.2.1, lc_ hb h.2.2.2.2.2.2.2.1, lc_ hb h.2.2.2.2.2.2.2.2⟩
end Go.Proofs.Ytpndcfibjjkgcaa.MyItc
namespace Go.Proofs.Ytpndcfibjjkgcaa.MyItc
open Go Go.RowKit Go.Proofs.YtpndcfibjjkgcaaW.PrintWords Go.Proofs.YtpndcfibjjkgcaaW.PrintLast Go.Proofs.YtpndcfibjjkgcaaW.PrintMore Go.Proofs.Ytpndcfibjjkgcaa.PIfg
set_option linter.unusedVariables false
/-- Cells of a block that are written one behind the other. -/
def puts (g : Nat) : World → Nat → List Value → World
  | w, _, [] => w
  | w, o, u :: us => puts g (w.setCell ⟨g, o, none⟩ u) (o + 1) us
theorem puts_block {g : Nat} : ∀ (us : List Value) (w : World) (o b : Nat), b ≠ g → (puts g w o us).heap[b]? = w.heap[b]?
  | [], _, _, _, _ => rfl
  | u :: us, w, o, b, hb => (puts_block us _ _ b hb).trans (Below.heap_setCell _ _ _ _ hb)
theorem puts_size {g : Nat} : ∀ (us : List Value) (w : World) (o : Nat), (puts g w o us).heap.size = w.heap.size
  | [], _, _ => rfl
  | u :: us, w, o => (puts_size us _ _).trans (by simp [World.setCell])
theorem puts_below {w0 : World} {g : Nat} (hg : w0.heap.size ≤ g) : ∀ (us : List Value) (w : World) (o : Nat), Below w0.heap.size w0 w → Below w0.heap.size w0 (puts g w o us)
  | [], _, _, h => h
  | u :: us, w, o, h => puts_below hg us _ _ (below_set h hg)
theorem puts_own {base e sz g n cap : Nat} : ∀ (us xs : List Value) (w : World) (o : Nat), w.ownsRow base e sz (.slice (some ⟨g, 0, none⟩) n cap) n xs → o + us.length ≤ xs.length →
    (puts g w o us).ownsRow base e sz (.slice (some ⟨g, 0, none⟩) n cap) n (xs.take o ++ (us ++ xs.drop (o + us.length)))
  | [], xs, w, o, h, _ => by simpa [puts] using h
  | u :: us, xs, w, o, h, hl => by
    simp only [List.length_cons] at hl
    have h2 := puts_own us _ _ (o + 1) (h.stored o u).1 (by rw [List.length_set]; omega)
    have e1 : xs.set o u = xs.take o ++ u :: xs.drop (o + 1) := by rw [List.set_eq_take_append_cons_drop, if_pos (by omega)]
    have hlen : (xs.take o).length = o := by rw [List.length_take]; omega
    have e2 : (xs.set o u).take (o + 1) = xs.take o ++ [u] := by
      rw [e1, List.take_append, hlen, List.take_of_length_le (by omega), show o + 1 - o = 1 from by omega]
      rfl
    have e3 : (xs.set o u).drop (o + 1 + us.length) = xs.drop (o + (us.length + 1)) := by
      rw [e1, List.drop_append, hlen, List.drop_of_length_le (by omega), show o + 1 + us.length - o = us.length + 1 from by omega, List.nil_append, List.drop_succ_cons, List.drop_drop]
      congr 1
      omega
    rw [e2, e3] at h2
    simpa [puts, List.append_assoc] using h2
/-- A row of one's own: its first cells are items, the others hold anything; the items' blocks are none of those that are written. -/
structure RowX (bad : Nat → Prop) (w : World) (lo e sz : Nat) (v : Value) (n : Nat) (X : List It) (rest : List Value) : Prop where
  own : w.ownsRow lo e sz v n (X.map It.val ++ rest)
  at_ : AtL w X
  ok : ∀ b ∈ blksL X, lo ≤ b ∧ ¬ bad b
section
variable {bad : Nat → Prop} {w w1 : World} {lo e sz n : Nat} {v : Value} {X : List It} {rest : List Value}
theorem RowX.below (h : RowX bad w lo e sz v n X rest) (hb : Below w.heap.size w w1) : RowX bad w1 lo e sz v n X rest := ⟨own_move h.own (fun k hk => hb.block k (own_lt h.own k hk)), AtL_below h.at_ hb, h.ok⟩
theorem RowX.puts {g : Nat} (h : RowX bad w lo e sz v n X rest) (hg : bad g) (hv : v.ownBlock ≠ some g) (o : Nat) (us : List Value) : RowX bad (puts g w o us) lo e sz v n X rest :=
  ⟨own_move h.own (fun k hk => puts_block us w o k (fun e => hv (e ▸ hk))), AtL_move _ h.at_ (fun b hb => puts_block us w o b (fun e => (h.ok b hb).2 (e ▸ hg))), h.ok⟩
theorem RowX.push {g c : Nat} (h : RowX bad w lo e sz (.slice (some ⟨g, 0, none⟩) n c) n X rest) (hg : bad g) (el : List It) (hl : el.length ≤ rest.length) (ha : AtL w el) (hk : ∀ b ∈ blksL el, lo ≤ b ∧ ¬ bad b) (o : Nat) (ho : o = X.length) (us : List Value) (hu : us = el.map It.val) :
    RowX bad (MyItc.puts g w o us) lo e sz (.slice (some ⟨g, 0, none⟩) n c) n (X ++ el) (rest.drop el.length) := by
  subst ho
  subst hu
  have hm : ∀ l : List It, AtL w l → (∀ b ∈ blksL l, lo ≤ b ∧ ¬ bad b) → AtL (MyItc.puts g w X.length (el.map It.val)) l := fun l h1 h2 => AtL_move _ h1 (fun b hb => puts_block _ w _ b (fun e => (h2 b hb).2 (e ▸ hg)))
  refine ⟨?_, (AtL_app _ _).2 ⟨hm X h.at_ h.ok, hm el ha hk⟩, fun b hb => ?_⟩
  · have h2 := puts_own (el.map It.val) _ _ X.length h.own (by simp; omega)
    have e1 : (X.map It.val ++ rest).take X.length = X.map It.val := by rw [List.take_append_of_le_length (by simp), List.take_of_length_le (by simp)]
    have e2 : (X.map It.val ++ rest).drop (X.length + (el.map It.val).length) = rest.drop el.length := by
      rw [List.drop_append, List.drop_of_length_le (by simp), List.nil_append]
      simp
    rw [e1, e2] at h2
    simpa [List.append_assoc] using h2
  · rw [blksL_app] at hb
    rcases List.mem_append.1 hb with hb | hb
    · exact h.ok b hb
    · exact hk b hb
/-- A cell that stays is an item. -/
theorem RowX.keep {x : It} (h : RowX bad w lo e sz v n X (x.val :: rest)) (ha : x.At w) (hk : ∀ b ∈ x.blks, lo ≤ b ∧ ¬ bad b) : RowX bad w lo e sz v n (X ++ [x]) rest := by
  refine ⟨by have := h.own; simpa [List.append_assoc] using this, (AtL_app _ _).2 ⟨h.at_, by simpa [AtL] using ha⟩, fun b hb => ?_⟩
  rw [blksL_app] at hb
  rcases List.mem_append.1 hb with hb | hb
  · exact h.ok b hb
  · exact hk b (by simpa [blksL] using hb)
theorem RowX.len (h : RowX bad w lo e sz v n X rest) : X.length + rest.length = n * sz := by simpa using h.own.1
/-- The row, all of it items. -/
theorem RowX.full (h : RowX bad w lo e sz v n X []) (he : e = 9 ∨ e = 33 ∨ e = 53 ∨ e = 68) : (It.r e sz v n X).At w ∧ ∀ b ∈ (It.r e sz v n X).blks, lo ≤ b := by
  have ho := h.own
  rw [List.append_nil] at ho
  refine ⟨by simp only [It.At]; exact ⟨he, own_weaken ho (Nat.zero_le _), h.at_⟩, fun b hb => ?_⟩
  simp only [It.blks] at hb
  rcases List.mem_append.1 hb with hb | hb
  · exact own_base ho b (by simpa using hb)
  · exact (h.ok b hb).1
/-- What the cells hold that are written next. -/
theorem RowX.cells6 {g c o : Nat} (h : RowX bad w lo e sz (.slice (some ⟨g, 0, none⟩) n c) n X rest) (hl : o + 6 ≤ n * sz) : ∃ u0 u1 u2 u3 u4 u5 : Value, (w.cell? ⟨g, o, none⟩ = some u0 ∧ w.cell? ⟨g, o + 1, none⟩ = some u1 ∧ w.cell? ⟨g, o + 2, none⟩ = some u2 ∧ w.cell? ⟨g, o + 3, none⟩ = some u3 ∧ w.cell? ⟨g, o + 4, none⟩ = some u4 ∧ w.cell? ⟨g, o + 5, none⟩ = some u5) ∧ (w.frozen? ⟨g, o, none⟩ = false ∧ w.frozen? ⟨g, o + 1, none⟩ = false ∧ w.frozen? ⟨g, o + 2, none⟩ = false ∧ w.frozen? ⟨g, o + 3, none⟩ = false ∧ w.frozen? ⟨g, o + 4, none⟩ = false ∧ w.frozen? ⟨g, o + 5, none⟩ = false) := by
  have hL := h.own.1
  have q : ∀ j, j < n * sz → ∃ u, w.cell? ⟨g, j, none⟩ = some u := fun j hj => ⟨_, (h.own.cellAt j hj).trans (List.getElem?_eq_getElem (by omega))⟩
  obtain ⟨u0, h0⟩ := q o (by omega)
  obtain ⟨u1, h1⟩ := q (o + 1) (by omega)
  obtain ⟨u2, h2⟩ := q (o + 2) (by omega)
  obtain ⟨u3, h3⟩ := q (o + 3) (by omega)
  obtain ⟨u4, h4⟩ := q (o + 4) (by omega)
  obtain ⟨u5, h5⟩ := q (o + 5) (by omega)
  exact ⟨u0, u1, u2, u3, u4, u5, ⟨h0, h1, h2, h3, h4, h5⟩, ⟨h.own.frozenAt _, h.own.frozenAt _, h.own.frozenAt _, h.own.frozenAt _, h.own.frozenAt _, h.own.frozenAt _⟩⟩
theorem RowX.slice_ {A : Option Addr} {m c : Nat} (h : RowX bad w lo e sz (.slice A m c) n X rest) (hn : 0 < n) : ∃ g, A = some ⟨g, 0, none⟩ := by
  rcases h.own.2 with ⟨hv, rfl⟩ | ⟨g, cap, cur, hv, _⟩
  · omega
  · cases hv
    exact ⟨g, rfl⟩
end
/-- Cells of alternatives of which only the texts are kept. -/
inductive SkAs (bad : Nat → Prop) (w : World) (lo : Nat) : List S53 → List Value → Prop where
  | nil : SkAs bad w lo [] []
  | cons {a : S53} {l : List S53} {v1 u0 u1 u2 u3 u4 u5 : Value} {cs : List Value} : (It.r 9 1 v1 a.f1.length (a.f1.map It.s)).At w → (∀ b ∈ (It.r 9 1 v1 a.f1.length (a.f1.map It.s)).blks, lo ≤ b ∧ ¬ bad b) → SkAs bad w lo l cs → SkAs bad w lo (a :: l) (.string a.f0 :: v1 :: u0 :: u1 :: u2 :: u3 :: u4 :: u5 :: cs)
section
variable {bad : Nat → Prop} {w w1 : World} {lo : Nat}
theorem SkAs.move (hm : ∀ b, b < w.heap.size → ¬ bad b → w1.heap[b]? = w.heap[b]?) : ∀ {l : List S53} {cs : List Value}, SkAs bad w lo l cs → SkAs bad w1 lo l cs
  | _, _, .nil => .nil
  | _, _, .cons h k s => .cons (It.At_move _ h (fun b hb => hm b (It.At_blk _ h b hb).1 (k b hb).2)) k (s.move hm)
theorem SkAs.later {l : List S53} {cs : List Value} (h : SkAs bad w lo l cs) (hb : Below w.heap.size w w1) : SkAs bad w1 lo l cs := h.move (fun b h1 _ => hb.block b h1)
theorem SkAs.puts {g : Nat} {l : List S53} {cs : List Value} (h : SkAs bad w lo l cs) (hg : bad g) (o : Nat) (us : List Value) : SkAs bad (puts g w o us) lo l cs := h.move (fun b _ h2 => puts_block us w o b (fun e => h2 (e ▸ hg)))
theorem skAs_of {ok : Nat → Prop} (hbad : ∀ b, lo ≤ b → b < w.heap.size → (∀ a c, w.heap[b]? = some (.cells c a (0, 0)) → a = 9) → ¬ bad b) : ∀ {l : List S53} {cs : List Value}, Reps (Kd.alt.M w lo ok) 8 l cs → SkAs bad w lo l cs
  | [], cs, h => by
    have : cs = [] := List.eq_nil_of_length_eq_zero (by simpa using h.1)
    subst this
    exact .nil
  | a :: l, cs, h => by
    have hx := h.2 0 a rfl
    simp only [Nat.zero_mul, List.drop_zero] at hx
    have hs : Reps (Kd.alt.M w lo ok) 8 l (cs.drop 8) := by
      refine ⟨by rw [List.length_drop, h.1, List.length_cons, Nat.add_mul]; omega, fun j p hj => ?_⟩
      have := h.2 (j + 1) p (by simpa using hj)
      rw [List.drop_drop]
      rwa [show 8 + j * 8 = (j + 1) * 8 by omega]
    obtain ⟨v1, us, e, ⟨h6, _⟩, h1, h2, h3, h4⟩ := hx
    have ht := skAs_of hbad hs
    rw [← List.take_append_drop 8 cs, e]
    generalize cs.drop 8 = tl at ht
    match us, h6 with
    | [u0, u1, u2, u3, u4, u5], _ =>
      simp only [AtL, and_true] at h3
      refine .cons h3 (fun b hb => ?_) ht
      have hk := (h4 b (by simpa [blksL] using hb)).2
      refine ⟨hk, hbad b hk (It.At_blk _ h3 b hb).1 (fun q c hc => ?_)⟩
      have hA := h3
      simp only [It.At] at hA
      have hz : ∀ l : List ByteArray, blksL (l.map It.s) = [] := fun l => by
        induction l with
        | nil => simp [blksL]
        | cons x l ih => simp [blksL, It.blks, ih]
      have hb' : v1.ownBlock = some b := by simp only [It.blks, hz, List.append_nil] at hb; simpa [It.val] using hb
      obtain ⟨cells, hc'⟩ := own_typed hA.2.1 b hb'
      rw [hc] at hc'
      cases hc'
      rfl
end
/-- The blocks that are written. -/
def badB (a b : Nat) (v3 v5 : Value) (k : Nat) : Prop := k = a ∨ k = b ∨ v3.ownBlock = some k ∨ v5.ownBlock = some k
theorem skel_rows {lo lo' : Nat} {w : World} {n3 : Nat} {l5 : List S53} {A3 : Option Addr} {c3 : Nat} {A5 : Option Addr} {c5 : Nat} {ok3 ok5 : Nat → Prop} (h3 : Kd.R (Kd.opq 6) 33 w lo ok3 (.slice A3 n3 c3) (List.replicate n3 ())) (h5 : Kd.R Kd.alt 53 w lo ok5 (.slice A5 l5.length c5) l5) (hlo : lo' ≤ lo) {a b : Nat} (ha : ∃ cs, w.heap[a]? = some (.cells cs 33 (0, 0))) (hb : ∃ cs, w.heap[b]? = some (.cells cs 33 (0, 0)))
    (hne : ∀ k, ((Value.slice A3 n3 c3).ownBlock = some k ∨ (Value.slice A5 l5.length c5).ownBlock = some k) → k ≠ a ∧ k ≠ b) :
    ∃ r3 r5 : List Value, RowX (badB a b (.slice A3 n3 c3) (.slice A5 l5.length c5)) w lo' 33 6 (.slice A3 n3 c3) n3 [] r3 ∧ RowX (badB a b (.slice A3 n3 c3) (.slice A5 l5.length c5)) w lo' 53 8 (.slice A5 l5.length c5) l5.length [] r5 ∧ SkAs (badB a b (.slice A3 n3 c3) (.slice A5 l5.length c5)) w lo' l5 r5 ∧
    (∀ k, (Value.slice A3 n3 c3).ownBlock = some k → k ≠ a ∧ k ≠ b ∧ (Value.slice A5 l5.length c5).ownBlock ≠ some k) ∧ (∀ k, (Value.slice A5 l5.length c5).ownBlock = some k → k ≠ a ∧ k ≠ b ∧ (Value.slice A3 n3 c3).ownBlock ≠ some k) := by
  obtain ⟨_, r3, o3, _⟩ := Kd.R_lower h3 hlo
  obtain ⟨_, r5, o5, p5⟩ := Kd.R_lower h5 hlo
  rw [List.length_replicate] at o3
  have x35 : ∀ k, (Value.slice A3 n3 c3).ownBlock = some k → (Value.slice A5 l5.length c5).ownBlock ≠ some k := fun k h3 h5 => by
    obtain ⟨cs, hc⟩ := own_typed o3 k h3
    obtain ⟨cs', hc'⟩ := own_typed o5 k h5
    rw [hc] at hc'
    cases hc'
  refine ⟨r3, r5, ⟨by rw [List.map_nil, List.nil_append]; exact o3, by simp [AtL], by simp [blksL]⟩, ⟨by rw [List.map_nil, List.nil_append]; exact o5, by simp [AtL], by simp [blksL]⟩, skAs_of (fun k _ _ h9 hbad => ?_) p5, fun k hk => ⟨(hne k (.inl hk)).1, (hne k (.inl hk)).2, x35 k hk⟩, fun k hk => ⟨(hne k (.inr hk)).1, (hne k (.inr hk)).2, fun h3 => x35 k h3 hk⟩⟩
  have q : ∀ (e : Nat) cs, w.heap[k]? = some (.cells cs e (0, 0)) → e ≠ 9 → False := fun e cs hc he => he (h9 e cs hc)
  rcases hbad with rfl | rfl | h3 | h5
  · obtain ⟨cs', hc'⟩ := ha
    exact q 33 _ hc' (by decide)
  · obtain ⟨cs', hc'⟩ := hb
    exact q 33 _ hc' (by decide)
  · obtain ⟨cs', hc'⟩ := own_typed o3 k h3
    exact q 33 _ hc' (by decide)
  · obtain ⟨cs', hc'⟩ := own_typed o5 k h5
    exact q 53 _ hc' (by decide)
end Go.Proofs.Ytpndcfibjjkgcaa.MyItc

/- What both functions come to that fold a value whose parts are folded; the walk of the program's Fold. No condition. -/
import Derived.Test.YtpndcfibjjkgcaaMyFoF
import Derived.Test.YtpndcfibjjkgcaaMyFoG
import Derived.Test.YtpndcfibjjkgcaaMyFoD
import Derived.Test.YtpndcfibjjkgcaaMyFoM
namespace Go.Proofs.Ytpndcfibjjkgcaa.MyItc
open Go Go.RowKit Go.Proofs.YtpndcfibjjkgcaaW.PrintWords Go.Proofs.YtpndcfibjjkgcaaW.PrintLast Go.Proofs.YtpndcfibjjkgcaaW.PrintMore Go.Proofs.Ytpndcfibjjkgcaa.PIfg
attribute [local go_sem] max2_int min2_int max_two min_two max_three min_three max_four min_four
set_option linter.unusedVariables false
set_option linter.unusedSimpArgs false
abbrev aggY (y : S33) (A3 : Option Addr) (c3 : Nat) (A4 : Option Addr) (c4 : Nat) (A5 : Option Addr) (c5 : Nat) : Value := .agg #[.int .i64 y.f0, .string y.f1, .int .i64 y.f2, .slice A3 y.f3.length c3, .slice A4 y.f4.length c4, .slice A5 y.f5.length c5]
/-- A value, its rows in place, that reads as z; its blocks are some of Q's. -/
def OneV (w : World) (Q : List It) (z : S33) (v : Value) : Prop := ∃ (A3 : Option Addr) (c3 : Nat) (i3 : List It) (A4 : Option Addr) (c4 : Nat) (i4 : List It) (A5 : Option Addr) (c5 : Nat) (i5 : List It), v = aggY z A3 c3 A4 c4 A5 c5 ∧ AtL w (rows3 A3 z.f3.length c3 i3 A4 z.f4.length c4 i4 A5 z.f5.length c5 i5) ∧ (RepEs z.f3 i3 ∧ RepDs z.f4 i4 ∧ RepAs z.f5 i5) ∧ (∀ b ∈ blksL (rows3 A3 z.f3.length c3 i3 A4 z.f4.length c4 i4 A5 z.f5.length c5 i5), b ∈ blksL Q) ∧ ((blksL Q).Nodup → (blksL (rows3 A3 z.f3.length c3 i3 A4 z.f4.length c4 i4 A5 z.f5.length c5 i5)).Nodup)
theorem fop_rows {s : ByteArray} {a b : Int} {z : S33} (h : fop s a b = some z) : z.f3 = [] ∧ z.f4 = [] ∧ z.f5 = [] := by
  unfold fop at h
  split at h
  · cases h
    exact ⟨rfl, rfl, rfl⟩
  · split at h
    · cases h
      exact ⟨rfl, rfl, rfl⟩
    · split at h
      · cases h
      · cases h
        exact ⟨rfl, rfl, rfl⟩
theorem nil_at (w : World) : AtL w (rows3 none 0 0 [] none 0 0 [] none 0 0 []) := by
  simp only [AtL, It.At, and_true, List.map_nil]
  exact ⟨⟨by simp, World.ownsRow_nil _ _ _ _⟩, ⟨by simp, World.ownsRow_nil _ _ _ _⟩, ⟨by simp, World.ownsRow_nil _ _ _ _⟩⟩
theorem v_num (w : World) (Q : List It) {z : S33} (h : z.f3 = [] ∧ z.f4 = [] ∧ z.f5 = []) : OneV w Q z (aggN z) := by
  obtain ⟨k, s, n, l3, l4, l5⟩ := z
  obtain ⟨h3, h4, h5⟩ := h
  dsimp only at h3 h4 h5
  subst h3 h4 h5
  refine ⟨none, 0, [], none, 0, [], none, 0, [], rfl, nil_at w, ⟨.nil, .nil, .nil⟩, fun b hb => ?_, fun _ => ?_⟩
  · simp [blksL, It.blks, Value.ownBlock] at hb
  · simp [blksL, It.blks, Value.ownBlock]
theorem one47_calls (y : S33) (A3 : Option Addr) (c3 : Nat) (i3 : List It) (A4 : Option Addr) (c4 : Nat) (i4 : List It) (A5 : Option Addr) (c5 : Nat) (i5 : List It) (w : World) (ha : AtL w (rows3 A3 y.f3.length c3 i3 A4 y.f4.length c4 i4 A5 y.f5.length c5 i5)) (hr : RepEs y.f3 i3 ∧ RepDs y.f4 i4 ∧ RepAs y.f5 i5) :
  Calls Try.prog 47 #[aggY y A3 c3 A4 c4 A5 c5] w fun e w' => ∃ v, e = .returned v ∧ OneV w (rows3 A3 y.f3.length c3 i3 A4 y.f4.length c4 i4 A5 y.f5.length c5 i5) (one y) v ∧ Below w.heap.size w w' := by
 have ha3 := ha
 simp only [AtL] at ha3
 replace ha3 := ha3.1
 have hs : one y = y → OneV w (rows3 A3 y.f3.length c3 i3 A4 y.f4.length c4 i4 A5 y.f5.length c5 i5) (one y) (aggY y A3 c3 A4 c4 A5 c5) := fun e => by rw [e]; exact ⟨A3, c3, i3, A4, c4, i4, A5, c5, i5, rfl, ha, hr, fun b hb => hb, id⟩
 have fin : ∀ v, OneV w (rows3 A3 y.f3.length c3 i3 A4 y.f4.length c4 i4 A5 y.f5.length c5 i5) (one y) v → Calls Try.prog 47 #[aggY y A3 c3 A4 c4 A5 c5] w (fun e w' => e = .returned v ∧ Below w.heap.size w w') → Calls Try.prog 47 #[aggY y A3 c3 A4 c4 A5 c5] w (fun e w' => ∃ v, e = .returned v ∧ OneV w (rows3 A3 y.f3.length c3 i3 A4 y.f4.length c4 i4 A5 y.f5.length c5 i5) (one y) v ∧ Below w.heap.size w w') := fun v hv h => h.mono (fun e w' h => ⟨v, h.1, hv, h.2⟩)
 by_cases h9 : y.f0 = 9
 · have c9 : (y.f0 == 9) = true := beq_iff_eq.mpr h9
   have c8 : (y.f0 == 8) = false := beq_eq_false_iff_ne.mpr (by omega)
   have cif : decide (y.f0 = 8 ∧ y.f3.length = 3) = false := decide_eq_false (by omega)
   by_cases hl : y.f3.length = 2
   · skip
     obtain ⟨A_, c_, e_, hg_⟩ := row_slice ha3
     cases e_
     obtain ⟨g, rfl⟩ := hg_ (by omega)
     obtain ⟨Z03, z03, q03, Z04, z04, q04, Z05, z05, q05, E0⟩ := el_of ha3 hr.1 0 (by omega)
     obtain ⟨Z13, z13, q13, Z14, z14, q14, Z15, z15, q15, E1⟩ := el_of ha3 hr.1 1 (by omega)
     by_cases h0 : (rd_T33 y.f3 0).f0 = 3
     · by_cases h1 : (rd_T33 y.f3 1).f0 = 3
       · have e : one y = (fop y.f1 (rd_T33 y.f3 0).f2 (rd_T33 y.f3 1).f2).getD y := by unfold one; rw [if_pos ⟨h9, hl, h0, h1⟩]
         have hF := fop64 y.f1 (rd_T33 y.f3 0).f2 (rd_T33 y.f3 1).f2
         cases hf : fop y.f1 (rd_T33 y.f3 0).f2 (rd_T33 y.f3 1).f2 with
         | none =>
           rw [hf] at e hF
           exact fin _ (hs e) (oneF47 y.f0 y.f1 y.f2 g c3 y.f3 A4 c4 y.f4 A5 c5 y.f5 _ _ _ _ _ _ _ _ _ _ _ _ w _ (num 0) false hl E0.cells E1.cells c9 c8 (beq_iff_eq.mpr h0) (beq_iff_eq.mpr h1) hF (.inr ⟨rfl, rfl⟩))
         | some z =>
           rw [hf] at e hF
           exact fin (aggN z) (by rw [e]; exact v_num _ _ (fop_rows hf)) (oneF47 y.f0 y.f1 y.f2 g c3 y.f3 A4 c4 y.f4 A5 c5 y.f5 _ _ _ _ _ _ _ _ _ _ _ _ w _ z true hl E0.cells E1.cells c9 c8 (beq_iff_eq.mpr h0) (beq_iff_eq.mpr h1) hF (.inl ⟨rfl, rfl⟩))
       · exact fin _ (hs (by unfold one; rw [if_neg (fun h => h1 h.2.2.2), if_neg (fun h => by omega)])) (oneT47 y.f0 y.f1 y.f2 g c3 y.f3 A4 c4 y.f4 A5 c5 y.f5 _ _ _ _ _ _ _ _ _ _ _ _ w hl E0.cells E1.cells c9 c8 (.inr ⟨beq_iff_eq.mpr h0, beq_eq_false_iff_ne.mpr h1⟩) cif)
     · exact fin _ (hs (by unfold one; rw [if_neg (fun h => h0 h.2.2.1), if_neg (fun h => by omega)])) (oneT47 y.f0 y.f1 y.f2 g c3 y.f3 A4 c4 y.f4 A5 c5 y.f5 _ _ _ _ _ _ _ _ _ _ _ _ w hl E0.cells E1.cells c9 c8 (.inl (beq_eq_false_iff_ne.mpr h0)) cif)
   · exact fin _ (hs (by unfold one; rw [if_neg (fun h => hl h.2.1), if_neg (fun h => by omega)])) (oneN47 y.f0 y.f1 y.f2 A3 c3 y.f3 A4 c4 y.f4 A5 c5 y.f5 w (.inr (.inl ⟨c9, c8, beq_eq_false_iff_ne.mpr (by omega)⟩)) cif)
 · have c9 : (y.f0 == 9) = false := beq_eq_false_iff_ne.mpr h9
   by_cases h8 : y.f0 = 8
   · have c8 : (y.f0 == 8) = true := beq_iff_eq.mpr h8
     by_cases hl : y.f3.length = 3
     · have cif : decide (y.f0 = 8 ∧ y.f3.length = 3) = true := decide_eq_true ⟨h8, hl⟩
       obtain ⟨A_, c_, e_, hg_⟩ := row_slice ha3
       cases e_
       obtain ⟨g, rfl⟩ := hg_ (by omega)
       obtain ⟨Z03, z03, q03, Z04, z04, q04, Z05, z05, q05, E0⟩ := el_of ha3 hr.1 0 (by omega)
       obtain ⟨Z13, z13, q13, Z14, z14, q14, Z15, z15, q15, E1⟩ := el_of ha3 hr.1 1 (by omega)
       obtain ⟨Z23, z23, q23, Z24, z24, q24, Z25, z25, q25, E2⟩ := el_of ha3 hr.1 2 (by omega)
       by_cases h0 : (rd_T33 y.f3 0).f0 = 2
       · have d0 : ((rd_T33 y.f3 0).f0 == 2) = true := beq_iff_eq.mpr h0
         have e : one y = (if (rd_T33 y.f3 0).f1.toList = ([84, 114, 117, 101] : List UInt8) then (rd_T33 y.f3 1) else if (rd_T33 y.f3 0).f1.toList = ([70, 97, 108, 115, 101] : List UInt8) then (rd_T33 y.f3 2) else y) := by unfold one; rw [if_neg (fun h => h9 h.1), if_pos ⟨h8, hl, h0⟩]
         have hsub : ∀ b ∈ blksL i3, b ∈ blksL (rows3 (some ⟨g, 0, none⟩) y.f3.length c3 i3 A4 y.f4.length c4 i4 A5 y.f5.length c5 i5) := fun b hb => by simp only [blksL, It.blks]; exact List.mem_append_left _ (List.mem_append_right _ hb)
         have hnd : (blksL (rows3 (some ⟨g, 0, none⟩) y.f3.length c3 i3 A4 y.f4.length c4 i4 A5 y.f5.length c5 i5)).Nodup → (blksL i3).Nodup := fun hn => by simp only [blksL, It.blks] at hn; exact (List.nodup_append.1 (List.nodup_append.1 hn).1).2.1
         by_cases hT : (rd_T33 y.f3 0).f1.toList = ([84, 114, 117, 101] : List UInt8)
         · have e1 : one y = (rd_T33 y.f3 1) := by rw [e, if_pos hT]
           exact fin _ (by rw [e1]; exact ⟨Z13, z13, q13, Z14, z14, q14, Z15, z15, q15, rfl, E1.at_, ⟨E1.r3, E1.r4, E1.r5⟩, fun b hb => hsub b (E1.sub b hb), fun hn => E1.nd (hnd hn)⟩) (oneH47 y.f0 y.f1 y.f2 g c3 y.f3 A4 c4 y.f4 A5 c5 y.f5 _ _ _ _ _ _ _ _ _ _ _ _ _ _ _ _ _ _ w _ hl E0.cells E1.cells E2.cells c9 c8 (.inr (.inr (.inl ⟨d0, beq_iff_eq.mpr hT, rfl⟩))) cif)
         · by_cases hF : (rd_T33 y.f3 0).f1.toList = ([70, 97, 108, 115, 101] : List UInt8)
           · have e2 : one y = (rd_T33 y.f3 2) := by rw [e, if_neg hT, if_pos hF]
             exact fin _ (by rw [e2]; exact ⟨Z23, z23, q23, Z24, z24, q24, Z25, z25, q25, rfl, E2.at_, ⟨E2.r3, E2.r4, E2.r5⟩, fun b hb => hsub b (E2.sub b hb), fun hn => E2.nd (hnd hn)⟩) (oneH47 y.f0 y.f1 y.f2 g c3 y.f3 A4 c4 y.f4 A5 c5 y.f5 _ _ _ _ _ _ _ _ _ _ _ _ _ _ _ _ _ _ w _ hl E0.cells E1.cells E2.cells c9 c8 (.inr (.inr (.inr ⟨d0, beq_eq_false_iff_ne.mpr hT, beq_iff_eq.mpr hF, rfl⟩))) cif)
           · exact fin _ (hs (by rw [e, if_neg hT, if_neg hF])) (oneH47 y.f0 y.f1 y.f2 g c3 y.f3 A4 c4 y.f4 A5 c5 y.f5 _ _ _ _ _ _ _ _ _ _ _ _ _ _ _ _ _ _ w _ hl E0.cells E1.cells E2.cells c9 c8 (.inr (.inl ⟨d0, beq_eq_false_iff_ne.mpr hT, beq_eq_false_iff_ne.mpr hF, rfl⟩)) cif)
       · exact fin _ (hs (by unfold one; rw [if_neg (fun h => h9 h.1), if_neg (fun h => h0 h.2.2)])) (oneH47 y.f0 y.f1 y.f2 g c3 y.f3 A4 c4 y.f4 A5 c5 y.f5 _ _ _ _ _ _ _ _ _ _ _ _ _ _ _ _ _ _ w _ hl E0.cells E1.cells E2.cells c9 c8 (.inl ⟨beq_eq_false_iff_ne.mpr h0, rfl⟩) cif)
     · exact fin _ (hs (by unfold one; rw [if_neg (fun h => h9 h.1), if_neg (fun h => hl h.2.1)])) (oneN47 y.f0 y.f1 y.f2 A3 c3 y.f3 A4 c4 y.f4 A5 c5 y.f5 w (.inr (.inr ⟨c9, c8, beq_eq_false_iff_ne.mpr (by omega)⟩)) (decide_eq_false (by omega)))
   · exact fin _ (hs (by unfold one; rw [if_neg (fun h => h9 h.1), if_neg (fun h => h8 h.1)])) (oneN47 y.f0 y.f1 y.f2 A3 c3 y.f3 A4 c4 y.f4 A5 c5 y.f5 w (.inl ⟨c9, beq_eq_false_iff_ne.mpr h8⟩) (decide_eq_false (by omega)))
theorem one63_calls (y : S33) (A3 : Option Addr) (c3 : Nat) (i3 : List It) (A4 : Option Addr) (c4 : Nat) (i4 : List It) (A5 : Option Addr) (c5 : Nat) (i5 : List It) (w : World) (ha : AtL w (rows3 A3 y.f3.length c3 i3 A4 y.f4.length c4 i4 A5 y.f5.length c5 i5)) (hr : RepEs y.f3 i3 ∧ RepDs y.f4 i4 ∧ RepAs y.f5 i5) :
  Calls Try.prog 63 #[aggY y A3 c3 A4 c4 A5 c5] w fun e w' => ∃ v, e = .returned v ∧ OneV w (rows3 A3 y.f3.length c3 i3 A4 y.f4.length c4 i4 A5 y.f5.length c5 i5) (one y) v ∧ Below w.heap.size w w' := by
 have ha3 := ha
 simp only [AtL] at ha3
 replace ha3 := ha3.1
 have hs : one y = y → OneV w (rows3 A3 y.f3.length c3 i3 A4 y.f4.length c4 i4 A5 y.f5.length c5 i5) (one y) (aggY y A3 c3 A4 c4 A5 c5) := fun e => by rw [e]; exact ⟨A3, c3, i3, A4, c4, i4, A5, c5, i5, rfl, ha, hr, fun b hb => hb, id⟩
 have fin : ∀ v, OneV w (rows3 A3 y.f3.length c3 i3 A4 y.f4.length c4 i4 A5 y.f5.length c5 i5) (one y) v → Calls Try.prog 63 #[aggY y A3 c3 A4 c4 A5 c5] w (fun e w' => e = .returned v ∧ Below w.heap.size w w') → Calls Try.prog 63 #[aggY y A3 c3 A4 c4 A5 c5] w (fun e w' => ∃ v, e = .returned v ∧ OneV w (rows3 A3 y.f3.length c3 i3 A4 y.f4.length c4 i4 A5 y.f5.length c5 i5) (one y) v ∧ Below w.heap.size w w') := fun v hv h => h.mono (fun e w' h => ⟨v, h.1, hv, h.2⟩)
 by_cases h9 : y.f0 = 9
 · have c9 : (y.f0 == 9) = true := beq_iff_eq.mpr h9
   have c8 : (y.f0 == 8) = false := beq_eq_false_iff_ne.mpr (by omega)
   have cif : decide (y.f0 = 8 ∧ y.f3.length = 3) = false := decide_eq_false (by omega)
   by_cases hl : y.f3.length = 2
   · skip
     obtain ⟨A_, c_, e_, hg_⟩ := row_slice ha3
     cases e_
     obtain ⟨g, rfl⟩ := hg_ (by omega)
     obtain ⟨Z03, z03, q03, Z04, z04, q04, Z05, z05, q05, E0⟩ := el_of ha3 hr.1 0 (by omega)
     obtain ⟨Z13, z13, q13, Z14, z14, q14, Z15, z15, q15, E1⟩ := el_of ha3 hr.1 1 (by omega)
     by_cases h0 : (rd_T33 y.f3 0).f0 = 3
     · by_cases h1 : (rd_T33 y.f3 1).f0 = 3
       · have e : one y = (fop y.f1 (rd_T33 y.f3 0).f2 (rd_T33 y.f3 1).f2).getD y := by unfold one; rw [if_pos ⟨h9, hl, h0, h1⟩]
         have hF := fop71 y.f1 (rd_T33 y.f3 0).f2 (rd_T33 y.f3 1).f2
         cases hf : fop y.f1 (rd_T33 y.f3 0).f2 (rd_T33 y.f3 1).f2 with
         | none =>
           rw [hf] at e hF
           exact fin _ (hs e) (oneF63 y.f0 y.f1 y.f2 g c3 y.f3 A4 c4 y.f4 A5 c5 y.f5 _ _ _ _ _ _ _ _ _ _ _ _ w _ (num 0) false hl E0.cells E1.cells c9 c8 (beq_iff_eq.mpr h0) (beq_iff_eq.mpr h1) hF (.inr ⟨rfl, rfl⟩))
         | some z =>
           rw [hf] at e hF
           exact fin (aggN z) (by rw [e]; exact v_num _ _ (fop_rows hf)) (oneF63 y.f0 y.f1 y.f2 g c3 y.f3 A4 c4 y.f4 A5 c5 y.f5 _ _ _ _ _ _ _ _ _ _ _ _ w _ z true hl E0.cells E1.cells c9 c8 (beq_iff_eq.mpr h0) (beq_iff_eq.mpr h1) hF (.inl ⟨rfl, rfl⟩))
       · exact fin _ (hs (by unfold one; rw [if_neg (fun h => h1 h.2.2.2), if_neg (fun h => by omega)])) (oneT63 y.f0 y.f1 y.f2 g c3 y.f3 A4 c4 y.f4 A5 c5 y.f5 _ _ _ _ _ _ _ _ _ _ _ _ w hl E0.cells E1.cells c9 c8 (.inr ⟨beq_iff_eq.mpr h0, beq_eq_false_iff_ne.mpr h1⟩) cif)
     · exact fin _ (hs (by unfold one; rw [if_neg (fun h => h0 h.2.2.1), if_neg (fun h => by omega)])) (oneT63 y.f0 y.f1 y.f2 g c3 y.f3 A4 c4 y.f4 A5 c5 y.f5 _ _ _ _ _ _ _ _ _ _ _ _ w hl E0.cells E1.cells c9 c8 (.inl (beq_eq_false_iff_ne.mpr h0)) cif)
   · exact fin _ (hs (by unfold one; rw [if_neg (fun h => hl h.2.1), if_neg (fun h => by omega)])) (oneN63 y.f0 y.f1 y.f2 A3 c3 y.f3 A4 c4 y.f4 A5 c5 y.f5 w (.inr (.inl ⟨c9, c8, beq_eq_false_iff_ne.mpr (by omega)⟩)) cif)
 · have c9 : (y.f0 == 9) = false := beq_eq_false_iff_ne.mpr h9
   by_cases h8 : y.f0 = 8
   · have c8 : (y.f0 == 8) = true := beq_iff_eq.mpr h8
     by_cases hl : y.f3.length = 3
     · have cif : decide (y.f0 = 8 ∧ y.f3.length = 3) = true := decide_eq_true ⟨h8, hl⟩
       obtain ⟨A_, c_, e_, hg_⟩ := row_slice ha3
       cases e_
       obtain ⟨g, rfl⟩ := hg_ (by omega)
       obtain ⟨Z03, z03, q03, Z04, z04, q04, Z05, z05, q05, E0⟩ := el_of ha3 hr.1 0 (by omega)
       obtain ⟨Z13, z13, q13, Z14, z14, q14, Z15, z15, q15, E1⟩ := el_of ha3 hr.1 1 (by omega)
       obtain ⟨Z23, z23, q23, Z24, z24, q24, Z25, z25, q25, E2⟩ := el_of ha3 hr.1 2 (by omega)
       by_cases h0 : (rd_T33 y.f3 0).f0 = 2
       · have d0 : ((rd_T33 y.f3 0).f0 == 2) = true := beq_iff_eq.mpr h0
         have e : one y = (if (rd_T33 y.f3 0).f1.toList = ([84, 114, 117, 101] : List UInt8) then (rd_T33 y.f3 1) else if (rd_T33 y.f3 0).f1.toList = ([70, 97, 108, 115, 101] : List UInt8) then (rd_T33 y.f3 2) else y) := by unfold one; rw [if_neg (fun h => h9 h.1), if_pos ⟨h8, hl, h0⟩]
         have hsub : ∀ b ∈ blksL i3, b ∈ blksL (rows3 (some ⟨g, 0, none⟩) y.f3.length c3 i3 A4 y.f4.length c4 i4 A5 y.f5.length c5 i5) := fun b hb => by simp only [blksL, It.blks]; exact List.mem_append_left _ (List.mem_append_right _ hb)
         have hnd : (blksL (rows3 (some ⟨g, 0, none⟩) y.f3.length c3 i3 A4 y.f4.length c4 i4 A5 y.f5.length c5 i5)).Nodup → (blksL i3).Nodup := fun hn => by simp only [blksL, It.blks] at hn; exact (List.nodup_append.1 (List.nodup_append.1 hn).1).2.1
         by_cases hT : (rd_T33 y.f3 0).f1.toList = ([84, 114, 117, 101] : List UInt8)
         · have e1 : one y = (rd_T33 y.f3 1) := by rw [e, if_pos hT]
           exact fin _ (by rw [e1]; exact ⟨Z13, z13, q13, Z14, z14, q14, Z15, z15, q15, rfl, E1.at_, ⟨E1.r3, E1.r4, E1.r5⟩, fun b hb => hsub b (E1.sub b hb), fun hn => E1.nd (hnd hn)⟩) (oneH63 y.f0 y.f1 y.f2 g c3 y.f3 A4 c4 y.f4 A5 c5 y.f5 _ _ _ _ _ _ _ _ _ _ _ _ _ _ _ _ _ _ w _ hl E0.cells E1.cells E2.cells c9 c8 (.inr (.inr (.inl ⟨d0, beq_iff_eq.mpr hT, rfl⟩))) cif)
         · by_cases hF : (rd_T33 y.f3 0).f1.toList = ([70, 97, 108, 115, 101] : List UInt8)
           · have e2 : one y = (rd_T33 y.f3 2) := by rw [e, if_neg hT, if_pos hF]
             exact fin _ (by rw [e2]; exact ⟨Z23, z23, q23, Z24, z24, q24, Z25, z25, q25, rfl, E2.at_, ⟨E2.r3, E2.r4, E2.r5⟩, fun b hb => hsub b (E2.sub b hb), fun hn => E2.nd (hnd hn)⟩) (oneH63 y.f0 y.f1 y.f2 g c3 y.f3 A4 c4 y.f4 A5 c5 y.f5 _ _ _ _ _ _ _ _ _ _ _ _ _ _ _ _ _ _ w _ hl E0.cells E1.cells E2.cells c9 c8 (.inr (.inr (.inr ⟨d0, beq_eq_false_iff_ne.mpr hT, beq_iff_eq.mpr hF, rfl⟩))) cif)
           · exact fin _ (hs (by rw [e, if_neg hT, if_neg hF])) (oneH63 y.f0 y.f1 y.f2 g c3 y.f3 A4 c4 y.f4 A5 c5 y.f5 _ _ _ _ _ _ _ _ _ _ _ _ _ _ _ _ _ _ w _ hl E0.cells E1.cells E2.cells c9 c8 (.inr (.inl ⟨d0, beq_eq_false_iff_ne.mpr hT, beq_eq_false_iff_ne.mpr hF, rfl⟩)) cif)
       · exact fin _ (hs (by unfold one; rw [if_neg (fun h => h9 h.1), if_neg (fun h => h0 h.2.2)])) (oneH63 y.f0 y.f1 y.f2 g c3 y.f3 A4 c4 y.f4 A5 c5 y.f5 _ _ _ _ _ _ _ _ _ _ _ _ _ _ _ _ _ _ w _ hl E0.cells E1.cells E2.cells c9 c8 (.inl ⟨beq_eq_false_iff_ne.mpr h0, rfl⟩) cif)
     · exact fin _ (hs (by unfold one; rw [if_neg (fun h => h9 h.1), if_neg (fun h => hl h.2.1)])) (oneN63 y.f0 y.f1 y.f2 A3 c3 y.f3 A4 c4 y.f4 A5 c5 y.f5 w (.inr (.inr ⟨c9, c8, beq_eq_false_iff_ne.mpr (by omega)⟩)) (decide_eq_false (by omega)))
   · exact fin _ (hs (by unfold one; rw [if_neg (fun h => h9 h.1), if_neg (fun h => h8 h.1)])) (oneN63 y.f0 y.f1 y.f2 A3 c3 y.f3 A4 c4 y.f4 A5 c5 y.f5 w (.inl ⟨c9, beq_eq_false_iff_ne.mpr h8⟩) (decide_eq_false (by omega)))
set_option maxHeartbeats 8000000 in
set_option maxRecDepth 100000 in
theorem stepFE (n : Nat) (ih : FM n) : FE (n + 1) := by
 intro y A0_3 c0_3 A0_4 c0_4 A0_5 c0_5 w ha hq
 obtain ⟨a0_0, a0_1, a0_2, l0_3, l0_4, l0_5⟩ := y
 rw [SqE] at hq
 dsimp only at ha hq ⊢
 have hu33 := Try.underlying33
 have HA := Aside0.mk ha
 have HQ := Aside0.mk hq
 have HB := Aside0.mk (Below.refl w.heap.size w)
 clear ha hq
 rw [gE]
 go_enter Try.func22, Try.ntmps22
 go_wp2_with (first | ((with_reducible refine gate_dst (N := 1) rfl ?_); refine box_event ?hg (N := 1) ?hd (cs := #[.int .i64 a0_0, .string a0_1, .int .i64 a0_2, .slice A0_3 l0_3.length c0_3, .slice A0_4 l0_4.length c0_4, .slice A0_5 l0_5.length c0_5]) (t := 33) ?hr ?_; (case hd => rfl); (case hg => rfl); (case hr => first | (go_simp; done) | (go_simp; rfl)); intro gb1 hg w3 hbox hb; have hx_ := bel_of (w := w) hb (by repeat (first | (with_reducible first | exact HB.out | apply below_alloc | apply pw_below_drewN | apply below_drew1) | exact HB.out)); have nb_ := Aside0.mk (below_step hx_ hb); have ge_ := Aside0.mk (box_ge hx_ hg); clear HB  ; have HB := nb_; have BK1 := Aside0.mk hbox; have GE1 := ge_; clear nb_ ge_ hx_ hb hbox hg  ) | ((with_reducible refine gate_dst (N := 2) rfl ?_); refine box_event ?hg (N := 2) ?hd (cs := #[.int .i64 0, .string (⟨#[]⟩ : ByteArray), .int .i64 0, .slice none 0 0, .slice none 0 0, .slice none 0 0]) (t := 33) ?hr ?_; (case hd => rfl); (case hg => rfl); (case hr => first | (go_simp; done) | (go_simp; rfl)); intro gb2 hg w4 hbox hb; have hx_ := bel_of (w := w) hb (by repeat (first | (with_reducible first | exact HB.out | apply below_alloc | apply pw_below_drewN | apply below_drew1 | refine below_set ?_ GE1.out) | exact HB.out)); have n1_ := Aside0.mk (blk_below (g := gb1) (by (with_reducible repeat (first | refine blk_drewN ?_ _ | refine blk_drew ?_ | refine blk_alloc ?_ _)); exact BK1.out) hb); have m1_ := Aside0.mk (box_lt (g' := gb1) (by (with_reducible repeat (first | refine blk_drewN ?_ _ | refine blk_drew ?_ | refine blk_alloc ?_ _)); exact BK1.out) hg); have k1_ := Aside0.mk (box_gt (g' := gb1) (by (with_reducible repeat (first | refine blk_drewN ?_ _ | refine blk_drew ?_ | refine blk_alloc ?_ _)); exact BK1.out) hg); have nb_ := Aside0.mk (below_step hx_ hb); have ge_ := Aside0.mk (box_ge hx_ hg); clear HB BK1 ; have BK1 := n1_; have NB1_2 := m1_; have NB2_1 := k1_; have HB := nb_; have BK2 := Aside0.mk hbox; have GE2 := ge_; clear nb_ ge_ hx_ hb hbox hg n1_ m1_ k1_ ; obtain ⟨hc5_0, hc5_1, hc5_2, hc5_3, hc5_4, hc5_5, hf5_0, hf5_1, hf5_2, hf5_3, hf5_4, hf5_5⟩ := cells6 BK1.out; have hnb6 := NB1_2.out; have hnc6 := NB2_1.out) | ((with_reducible refine gate_callee (f := 48) rfl ?_); refine goesL_ (some 4) rfl rfl Try.func48 (by kernel_rfl) rfl #[.agg #[.int .i64 a0_0, .string a0_1, .int .i64 a0_2, .slice A0_3 l0_3.length c0_3, .slice A0_4 l0_4.length c0_4, .slice A0_5 l0_5.length c0_5], CF] rfl (by (try simp only [List.map_toArray, List.map_cons, List.map_nil, List.append_toArray, List.cons_append, List.nil_append]); first | done | rfl) ?_; refine calls_bel (w0 := w) (by repeat (first | (with_reducible first | exact HB.out | apply below_alloc | apply pw_below_drewN | apply below_drew1 | refine below_set ?_ GE1.out | refine below_set ?_ GE2.out) | exact HB.out)) (fun hx_ => ?_); refine (ih a0_0 a0_1 a0_2 _ _ l0_3 _ _ l0_4 _ _ l0_5 _ ⟨⟨Kd.C_below HA.out.1.1 hx_, HA.out.1.2⟩, ⟨Kd.C_below HA.out.2.1.1 hx_, HA.out.2.1.2⟩, ⟨Kd.C_below HA.out.2.2.1 hx_, HA.out.2.2.2⟩⟩ HQ.out).mono ?_; rintro e w9 ⟨E3, d3, y3, E4, d4, y4, E5, d5, y5, rfl, hc, hb⟩; refine ⟨_, rfl, ?_⟩; have n2_ := Aside0.mk (blk_below (g := gb2) (by (with_reducible repeat (first | refine blk_drewN ?_ _ | refine blk_drew ?_ | refine blk_alloc ?_ _)); exact BK2.out) hb); have g2_ := Aside0.mk (lt_of_blk (g := gb2) (by (with_reducible repeat (first | refine blk_drewN ?_ _ | refine blk_drew ?_ | refine blk_alloc ?_ _)); exact BK2.out) hb); have HC := Aside0.mk hc; have LO := Aside0.mk (below_size hx_); have nb_ := Aside0.mk (below_step hx_ hb); clear HB BK1 BK2 hx_ hb hc; have HB := nb_; have BK2 := n2_; have GL := g2_; clear nb_ n2_ g2_; have HD := Aside0.mk (Below.refl w9.heap.size w9)) | ((with_reducible refine gate_callee (f := 47) rfl ?_); refine goesL_ (some 5) rfl rfl Try.func47 (by kernel_rfl) rfl #[aggY (⟨a0_0, a0_1, a0_2, l0_3.map (gE n), l0_4.map (gD n), l0_5.map (gA n)⟩ : S33) E3 d3 E4 d4 E5 d5] rfl (by (try simp only [List.map_toArray, List.map_cons, List.map_nil, List.append_toArray, List.cons_append, List.nil_append]); first | done | rfl) ?_; refine calls_bel (w0 := w) (by repeat (first | (with_reducible first | exact HB.out | apply below_alloc | apply pw_below_drewN | apply below_drew1 | refine below_set ?_ GE2.out) | exact HB.out)) (fun hx_ => ?_); refine calls_bel (w0 := w9) (by repeat (first | (with_reducible first | exact HD.out | apply below_alloc | apply pw_below_drewN | apply below_drew1) | exact HD.out)) (fun hd_ => ?_); refine (one47_calls (⟨a0_0, a0_1, a0_2, l0_3.map (gE n), l0_4.map (gD n), l0_5.map (gA n)⟩ : S33) E3 d3 y3 E4 d4 y4 E5 d5 y5 _ (AtL_below HC.out.at_ hd_) ⟨HC.out.r3, HC.out.r4, HC.out.r5⟩).mono ?_; rintro e w10 ⟨v_, rfl, ⟨F3, f3, o3, F4, f4, o4, F5, f5, o5, rfl, hat_, hr_, hsub_, hnd_⟩, hb⟩; refine ⟨_, rfl, ?_⟩; have n2_ := Aside0.mk (blk_below (g := gb2) (by (with_reducible repeat (first | refine blk_drewN ?_ _ | refine blk_drew ?_ | refine blk_alloc ?_ _)); exact BK2.out) hb); have RR := Aside0.mk hr_; have AT := Aside0.mk (AtL_below hat_ hb); have PT : Aside0 (Part w.heap.size w10.heap.size (rows3 F3 (one (⟨a0_0, a0_1, a0_2, l0_3.map (gE n), l0_4.map (gD n), l0_5.map (gA n)⟩ : S33)).f3.length f3 o3 F4 (one (⟨a0_0, a0_1, a0_2, l0_3.map (gE n), l0_4.map (gD n), l0_5.map (gA n)⟩ : S33)).f4.length f4 o4 F5 (one (⟨a0_0, a0_1, a0_2, l0_3.map (gE n), l0_4.map (gD n), l0_5.map (gA n)⟩ : S33)).f5.length f5 o5) ∧ ∀ b ∈ blksL (rows3 F3 (one (⟨a0_0, a0_1, a0_2, l0_3.map (gE n), l0_4.map (gD n), l0_5.map (gA n)⟩ : S33)).f3.length f3 o3 F4 (one (⟨a0_0, a0_1, a0_2, l0_3.map (gE n), l0_4.map (gD n), l0_5.map (gA n)⟩ : S33)).f4.length f4 o4 F5 (one (⟨a0_0, a0_1, a0_2, l0_3.map (gE n), l0_4.map (gD n), l0_5.map (gA n)⟩ : S33)).f5.length f5 o5), gb2 < b) := ⟨⟨hnd_ HC.out.part.nd, fun b hb_ => Nat.le_trans LO.out (HC.out.part.ge b (hsub_ b hb_)), fun b hb_ => (AtL_blk _ (AtL_below hat_ hb) b hb_).1⟩, fun b hb_ => Nat.lt_of_lt_of_le GL.out (HC.out.part.ge b (hsub_ b hb_))⟩; have nb_ := Aside0.mk (below_step hx_ hb); clear HB BK2 HD HC hx_ hd_ hb hat_ hr_ hsub_ hnd_; have HB := nb_; have BK2 := n2_; clear nb_ n2_; obtain ⟨hc7_0, hc7_1, hc7_2, hc7_3, hc7_4, hc7_5, hf7_0, hf7_1, hf7_2, hf7_3, hf7_4, hf7_5⟩ := cells6 BK2.out))
 refine bodyPost_ret (results_cell_row rfl _ _ gb2 33 #[.int .i64 (one (⟨a0_0, a0_1, a0_2, l0_3.map (gE n), l0_4.map (gD n), l0_5.map (gA n)⟩ : S33)).f0, .string (one (⟨a0_0, a0_1, a0_2, l0_3.map (gE n), l0_4.map (gD n), l0_5.map (gA n)⟩ : S33)).f1, .int .i64 (one (⟨a0_0, a0_1, a0_2, l0_3.map (gE n), l0_4.map (gD n), l0_5.map (gA n)⟩ : S33)).f2, .slice F3 (one (⟨a0_0, a0_1, a0_2, l0_3.map (gE n), l0_4.map (gD n), l0_5.map (gA n)⟩ : S33)).f3.length f3, .slice F4 (one (⟨a0_0, a0_1, a0_2, l0_3.map (gE n), l0_4.map (gD n), l0_5.map (gA n)⟩ : S33)).f4.length f4, .slice F5 (one (⟨a0_0, a0_1, a0_2, l0_3.map (gE n), l0_4.map (gD n), l0_5.map (gA n)⟩ : S33)).f5.length f5] (0, 0) _ rfl (by (with_reducible repeat (first | refine blk_drewN ?_ _ | refine blk_drew ?_ | refine blk_alloc ?_ _)); exact (put_6_5 (put_6_4 (put_6_3 (put_6_2 (put_6_1 (put_6_0 BK2.out))))))) Try.underlying33 rfl (by kernel_rfl)) rfl ?_
 exact ⟨F3, f3, o3, F4, f4, o4, F5, f5, o5, rfl, ⟨(AtL_set (AtL_set (AtL_set (AtL_set (AtL_set (AtL_set AT.out (fun b hb => Nat.ne_of_gt (PT.out.2 b hb)) 0 (.int .i64 (one (⟨a0_0, a0_1, a0_2, l0_3.map (gE n), l0_4.map (gD n), l0_5.map (gA n)⟩ : S33)).f0)) (fun b hb => Nat.ne_of_gt (PT.out.2 b hb)) 1 (.string (one (⟨a0_0, a0_1, a0_2, l0_3.map (gE n), l0_4.map (gD n), l0_5.map (gA n)⟩ : S33)).f1)) (fun b hb => Nat.ne_of_gt (PT.out.2 b hb)) 2 (.int .i64 (one (⟨a0_0, a0_1, a0_2, l0_3.map (gE n), l0_4.map (gD n), l0_5.map (gA n)⟩ : S33)).f2)) (fun b hb => Nat.ne_of_gt (PT.out.2 b hb)) 3 (.slice F3 (one (⟨a0_0, a0_1, a0_2, l0_3.map (gE n), l0_4.map (gD n), l0_5.map (gA n)⟩ : S33)).f3.length f3)) (fun b hb => Nat.ne_of_gt (PT.out.2 b hb)) 4 (.slice F4 (one (⟨a0_0, a0_1, a0_2, l0_3.map (gE n), l0_4.map (gD n), l0_5.map (gA n)⟩ : S33)).f4.length f4)) (fun b hb => Nat.ne_of_gt (PT.out.2 b hb)) 5 (.slice F5 (one (⟨a0_0, a0_1, a0_2, l0_3.map (gE n), l0_4.map (gD n), l0_5.map (gA n)⟩ : S33)).f5.length f5)), PT.out.1.wide (Nat.le_refl _) (Nat.le_of_eq (by simp [World.setCell])), RR.out.1, RR.out.2.1, RR.out.2.2⟩, by repeat (first | (with_reducible first | exact HB.out | apply below_alloc | apply pw_below_drewN | apply below_drew1 | refine below_set ?_ GE2.out) | exact HB.out)⟩
theorem allF : ∀ n, FE n ∧ FD n := by
  intro n
  induction n using Nat.strongRecOn with
  | _ n ih =>
    have hD : FD n := stepFD n (fun m hm => (ih m hm).1) (fun m hm => (ih m hm).2)
    refine ⟨?_, hD⟩
    cases n with
    | zero => exact fun y _ _ _ _ _ _ _ _ h => by simp [SqE] at h
    | succ n => exact stepFE n (stepFM n (fun m hm => (ih m (by omega)).1) (ih n (by omega)).2)
end Go.Proofs.Ytpndcfibjjkgcaa.MyItc

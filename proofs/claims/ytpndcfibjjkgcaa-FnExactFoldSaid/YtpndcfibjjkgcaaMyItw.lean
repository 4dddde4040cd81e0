/- The walks of the functions that mark an expression and that look whether the marks are there. No condition. -/
import Derived.Test.YtpndcfibjjkgcaaMyItm1
import Derived.Test.YtpndcfibjjkgcaaMyItm2
namespace Go.Proofs.Ytpndcfibjjkgcaa.MyItc
open Go Go.RowKit Go.Proofs.YtpndcfibjjkgcaaW.PrintWords Go.Proofs.YtpndcfibjjkgcaaW.PrintLast Go.Proofs.YtpndcfibjjkgcaaW.PrintMore Go.Proofs.Ytpndcfibjjkgcaa.PIfg
attribute [local go_sem] max2_int min2_int max_two min_two max_three min_three max_four min_four
set_option linter.unusedVariables false
set_option linter.unusedSimpArgs false
/-- Items that lie apart. -/
structure Apart (w : World) (L : List It) : Prop where
  at_ : AtL w L
  nd : (blksL L).Nodup
section
variable {w w1 : World} {e sz n : Nat} {v : Value} {L pre post : List It} {i i' : List It}
theorem Apart.below (h : Apart w L) (hb : Below w.heap.size w w1) : Apart w1 L := ⟨AtL_below h.at_ hb, h.nd⟩
theorem Apart.sub (h : Apart w (pre ++ .r e sz v n i :: post)) : RowSt w e sz v n i := by
  obtain ⟨hA, hN⟩ := h
  rw [AtL_app] at hA
  rw [blksL_app] at hN
  simp only [AtL] at hA
  simp only [blksL] at hN
  refine ⟨by simp only [AtL, and_true]; exact hA.2.1, ?_⟩
  have := (List.nodup_append.1 (List.nodup_append.1 hN).2.1).1
  simpa only [blksL, List.append_nil] using this
theorem Apart.child (h : Apart w (pre ++ .r e sz v n i :: post)) (hc : RowSt w1 e sz v n i') (hk : Keeps (blksL [.r e sz v n i]) w w1) (hb : blksL i' = blksL i) : Apart w1 (pre ++ .r e sz v n i' :: post) := by
  obtain ⟨hA, hN⟩ := h
  have e1 : blksL (pre ++ .r e sz v n i' :: post) = blksL (pre ++ .r e sz v n i :: post) := by simp only [blksL_app, blksL, It.blks, hb]
  have hN2 := hN
  rw [blksL_app] at hN2
  simp only [blksL] at hN2
  have hn1 := List.nodup_append.1 hN2
  have hn2 := List.nodup_append.1 hn1.2.1
  refine ⟨?_, by rw [e1]; exact hN⟩
  rw [AtL_app] at hA ⊢
  simp only [AtL] at hA ⊢
  have hcat := hc.at_
  simp only [AtL, and_true] at hcat
  refine ⟨AtL_keeps hA.1 hk (fun b hb1 hb2 => ?_), hcat, AtL_keeps hA.2.2 hk (fun b hb1 hb2 => ?_)⟩
  · simp only [blksL, List.append_nil] at hb2
    exact hn1.2.2 b hb1 b (List.mem_append_left _ hb2) rfl
  · simp only [blksL, List.append_nil] at hb2
    exact hn2.2.2 b hb2 b hb1 rfl
end
set_option maxHeartbeats 8000000 in
set_option maxRecDepth 100000 in
theorem markExp_calls (a0_0 : Int) (a0_1 : ByteArray) (a0_2 : Int) (A0_3 : Option Addr) (c0_3 : Nat) (l0_3 : List (S33)) (A0_4 : Option Addr) (c0_4 : Nat) (l0_4 : List (S68)) (A0_5 : Option Addr) (c0_5 : Nat) (l0_5 : List (S53)) (i3 i4 i5 : List It) (k : Int) (w : World) (ha : Apart w (rows3 A0_3 l0_3.length c0_3 i3 A0_4 l0_4.length c0_4 i4 A0_5 l0_5.length c0_5 i5)) (h3 : RepEs l0_3 i3) (h4 : RepDs l0_4 i4) (h5 : RepAs l0_5 i5) (hk : k ≤ 9223372036854775807) :
  Calls Try.prog 17 #[.agg #[.int .i64 a0_0, .string a0_1, .int .i64 a0_2, .slice A0_3 l0_3.length c0_3, .slice A0_4 l0_4.length c0_4, .slice A0_5 l0_5.length c0_5], .int .i64 k] w fun e w' => e = .returned (.int .i64 (mkL mt (rows3 A0_3 l0_3.length c0_3 i3 A0_4 l0_4.length c0_4 i4 A0_5 l0_5.length c0_5 i5) k).2) ∧ Apart w' (mkL mt (rows3 A0_3 l0_3.length c0_3 i3 A0_4 l0_4.length c0_4 i4 A0_5 l0_5.length c0_5 i5) k).1 ∧ Keeps (blksL (rows3 A0_3 l0_3.length c0_3 i3 A0_4 l0_4.length c0_4 i4 A0_5 l0_5.length c0_5 i5)) w w' := by
 have hu33 := Try.underlying33
 have HB := Aside0.mk (Below.refl w.heap.size w)
 have AP0 := Aside0.mk ha
 have HK := Aside0.mk hk
 have R3 := Aside0.mk h3
 have R4 := Aside0.mk h4
 have R5 := Aside0.mk h5
 have LT_ := Aside0.mk (fun b hb => (AtL_blk _ ha.at_ b hb).1)
 have SB3 : Aside0 (∀ b ∈ blksL [.r 33 6 (.slice A0_3 l0_3.length c0_3) l0_3.length i3], b ∈ blksL (rows3 A0_3 l0_3.length c0_3 i3 A0_4 l0_4.length c0_4 i4 A0_5 l0_5.length c0_5 i5)) := ⟨fun b hb => by simp only [blksL, List.append_nil, List.mem_append] at hb ⊢; exact .inl hb⟩
 have SB4 : Aside0 (∀ b ∈ blksL [.r 68 9 (.slice A0_4 l0_4.length c0_4) l0_4.length i4], b ∈ blksL (rows3 A0_3 l0_3.length c0_3 i3 A0_4 l0_4.length c0_4 i4 A0_5 l0_5.length c0_5 i5)) := ⟨fun b hb => by simp only [blksL, List.append_nil, List.mem_append] at hb ⊢; exact .inr (.inl hb)⟩
 have SB5 : Aside0 (∀ b ∈ blksL [.r 53 8 (.slice A0_5 l0_5.length c0_5) l0_5.length i5], b ∈ blksL (rows3 A0_3 l0_3.length c0_3 i3 A0_4 l0_4.length c0_4 i4 A0_5 l0_5.length c0_5 i5)) := ⟨fun b hb => by simp only [blksL, List.append_nil, List.mem_append] at hb ⊢; exact .inr (.inr hb)⟩
 simp only [mkL, mkI]
 clear ha hk h3 h4 h5
 go_enter Try.func17, Try.ntmps17
 go_wp2_with (first | ((with_reducible refine gate_dst (N := 2) rfl ?_); refine box_event ?hg (N := 2) ?hd (cs := #[.int .i64 a0_0, .string a0_1, .int .i64 a0_2, .slice A0_3 l0_3.length c0_3, .slice A0_4 l0_4.length c0_4, .slice A0_5 l0_5.length c0_5]) (t := 33) ?hr ?_; (case hd => rfl); (case hg => rfl); (case hr => first | (go_simp; done) | (go_simp; rfl)); intro gb2 hg w3 hbox hb; have hx_ := bel_of (w := w) hb HB.out; have nb_ := Aside0.mk (below_step hx_ hb); have ge_ := Aside0.mk (box_ge hx_ hg); clear HB  ; have HB := nb_; have BK2 := Aside0.mk hbox; have GE2 := ge_; clear nb_ ge_ hx_ hb hbox hg  ; have LE_ := Aside0.mk (below_size HB.out); have AP := Aside0.mk (AP0.out.below HB.out); have KP := Aside0.mk (Keeps.below (Keeps.refl (blksL (rows3 A0_3 l0_3.length c0_3 i3 A0_4 l0_4.length c0_4 i4 A0_5 l0_5.length c0_5 i5)) w) HB.out); clear HB; obtain ⟨hc5_0, hc5_1, hc5_2, hc5_3, hc5_4, hc5_5, hf5_0, hf5_1, hf5_2, hf5_3, hf5_4, hf5_5⟩ := cells6 BK2.out) | ((with_reducible refine gate_dst (N := 8) rfl ?_); (with_reducible refine gate_callee (f := 38) rfl ?_); refine goesL_ (some 8) rfl rfl Try.func38 (by kernel_rfl) rfl #[.slice A0_3 l0_3.length c0_3, .int .i64 (k)] rfl (by (try simp only [List.map_toArray, List.map_cons, List.map_nil, List.append_toArray, List.cons_append, List.nil_append]); first | done | rfl) ?_; have hs_ := Apart.sub (pre := []) (post := [.r 68 9 (.slice A0_4 l0_4.length c0_4) l0_4.length i4, .r 53 8 (.slice A0_5 l0_5.length c0_5) l0_5.length i5]) AP.out; refine ((allMk _).1 _ _ l0_3 i3 (k) _ hs_ rfl hs_.n_le R3.out (Nat.le_refl _) (HK.out)).mono ?_; rintro e_ w21 ⟨rfl, hrs, hkp⟩; refine ⟨_, rfl, ?_⟩; have ap_ : Aside0 (Apart w21 ([.r 33 6 (.slice A0_3 l0_3.length c0_3) l0_3.length (mkL mt i3 k).1, .r 68 9 (.slice A0_4 l0_4.length c0_4) l0_4.length i4, .r 53 8 (.slice A0_5 l0_5.length c0_5) l0_5.length i5])) := ⟨Apart.child (pre := []) (post := [.r 68 9 (.slice A0_4 l0_4.length c0_4) l0_4.length i4, .r 53 8 (.slice A0_5 l0_5.length c0_5) l0_5.length i5]) AP.out hrs hkp (mkL_blks _ _).1⟩; have kp_ := Aside0.mk (KP.out.trans hkp (fun b hb => SB3.out b hb)); have n2_ := Aside0.mk ((hkp.block gb2 (blk_lt BK2.out) (fun hc => by have := LT_.out gb2 (SB3.out gb2 hc); have := GE2.out; omega)).trans BK2.out); clear AP KP BK2 hs_ hrs hkp; have AP := ap_; have KP := kp_; have BK2 := n2_; clear ap_ kp_ n2_; obtain ⟨hc50_0, hc50_1, hc50_2, hc50_3, hc50_4, hc50_5, hf50_0, hf50_1, hf50_2, hf50_3, hf50_4, hf50_5⟩ := cells6 BK2.out) | ((with_reducible refine gate_dst (N := 12) rfl ?_); (with_reducible refine gate_callee (f := 39) rfl ?_); refine goesL_ (some 12) rfl rfl Try.func39 (by kernel_rfl) rfl #[.slice A0_4 l0_4.length c0_4, .int .i64 ((mkL mt i3 k).2)] rfl (by (try simp only [List.map_toArray, List.map_cons, List.map_nil, List.append_toArray, List.cons_append, List.nil_append]); first | done | rfl) ?_; have hs_ := Apart.sub (pre := [.r 33 6 (.slice A0_3 l0_3.length c0_3) l0_3.length (mkL mt i3 k).1]) (post := [.r 53 8 (.slice A0_5 l0_5.length c0_5) l0_5.length i5]) AP.out; refine ((allMk _).2.1 _ _ l0_4 i4 ((mkL mt i3 k).2) _ hs_ rfl hs_.n_le R4.out (Nat.le_refl _) (mkL_hi _ _ HK.out)).mono ?_; rintro e_ w22 ⟨rfl, hrs, hkp⟩; refine ⟨_, rfl, ?_⟩; have ap_ : Aside0 (Apart w22 ([.r 33 6 (.slice A0_3 l0_3.length c0_3) l0_3.length (mkL mt i3 k).1, .r 68 9 (.slice A0_4 l0_4.length c0_4) l0_4.length (mkL mt i4 (mkL mt i3 k).2).1, .r 53 8 (.slice A0_5 l0_5.length c0_5) l0_5.length i5])) := ⟨Apart.child (pre := [.r 33 6 (.slice A0_3 l0_3.length c0_3) l0_3.length (mkL mt i3 k).1]) (post := [.r 53 8 (.slice A0_5 l0_5.length c0_5) l0_5.length i5]) AP.out hrs hkp (mkL_blks _ _).1⟩; have kp_ := Aside0.mk (KP.out.trans hkp (fun b hb => SB4.out b hb)); have n2_ := Aside0.mk ((hkp.block gb2 (blk_lt BK2.out) (fun hc => by have := LT_.out gb2 (SB4.out gb2 hc); have := GE2.out; omega)).trans BK2.out); clear AP KP BK2 hs_ hrs hkp; have AP := ap_; have KP := kp_; have BK2 := n2_; clear ap_ kp_ n2_; obtain ⟨hc51_0, hc51_1, hc51_2, hc51_3, hc51_4, hc51_5, hf51_0, hf51_1, hf51_2, hf51_3, hf51_4, hf51_5⟩ := cells6 BK2.out) | ((with_reducible refine gate_dst (N := 16) rfl ?_); (with_reducible refine gate_callee (f := 40) rfl ?_); refine goesL_ (some 16) rfl rfl Try.func40 (by kernel_rfl) rfl #[.slice A0_5 l0_5.length c0_5, .int .i64 ((mkL mt i4 (mkL mt i3 k).2).2)] rfl (by (try simp only [List.map_toArray, List.map_cons, List.map_nil, List.append_toArray, List.cons_append, List.nil_append]); first | done | rfl) ?_; have hs_ := Apart.sub (pre := [.r 33 6 (.slice A0_3 l0_3.length c0_3) l0_3.length (mkL mt i3 k).1, .r 68 9 (.slice A0_4 l0_4.length c0_4) l0_4.length (mkL mt i4 (mkL mt i3 k).2).1]) (post := []) AP.out; refine ((allMk _).2.2 _ _ l0_5 i5 ((mkL mt i4 (mkL mt i3 k).2).2) _ hs_ rfl hs_.n_le R5.out (Nat.le_refl _) (mkL_hi _ _ (mkL_hi _ _ HK.out))).mono ?_; rintro e_ w23 ⟨rfl, hrs, hkp⟩; refine ⟨_, rfl, ?_⟩; have ap_ : Aside0 (Apart w23 ([.r 33 6 (.slice A0_3 l0_3.length c0_3) l0_3.length (mkL mt i3 k).1, .r 68 9 (.slice A0_4 l0_4.length c0_4) l0_4.length (mkL mt i4 (mkL mt i3 k).2).1, .r 53 8 (.slice A0_5 l0_5.length c0_5) l0_5.length (mkL mt i5 (mkL mt i4 (mkL mt i3 k).2).2).1])) := ⟨Apart.child (pre := [.r 33 6 (.slice A0_3 l0_3.length c0_3) l0_3.length (mkL mt i3 k).1, .r 68 9 (.slice A0_4 l0_4.length c0_4) l0_4.length (mkL mt i4 (mkL mt i3 k).2).1]) (post := []) AP.out hrs hkp (mkL_blks _ _).1⟩; have kp_ := Aside0.mk (KP.out.trans hkp (fun b hb => SB5.out b hb)); have n2_ := Aside0.mk ((hkp.block gb2 (blk_lt BK2.out) (fun hc => by have := LT_.out gb2 (SB5.out gb2 hc); have := GE2.out; omega)).trans BK2.out); clear AP KP BK2 hs_ hrs hkp; have AP := ap_; have KP := kp_; have BK2 := n2_; clear ap_ kp_ n2_; obtain ⟨hc52_0, hc52_1, hc52_2, hc52_3, hc52_4, hc52_5, hf52_0, hf52_1, hf52_2, hf52_3, hf52_4, hf52_5⟩ := cells6 BK2.out))
 go_ret
 exact ⟨rfl, AP.out, KP.out⟩
set_option maxHeartbeats 8000000 in
set_option maxRecDepth 100000 in
theorem heldExp_calls (a0_0 : Int) (a0_1 : ByteArray) (a0_2 : Int) (A0_3 : Option Addr) (c0_3 : Nat) (l0_3 : List (S33)) (A0_4 : Option Addr) (c0_4 : Nat) (l0_4 : List (S68)) (A0_5 : Option Addr) (c0_5 : Nat) (l0_5 : List (S53)) (i3 i4 i5 : List It) (k : Int) (w : World) (ha : Apart w (mkL mt (rows3 A0_3 l0_3.length c0_3 i3 A0_4 l0_4.length c0_4 i4 A0_5 l0_5.length c0_5 i5) k).1) (h3 : RepEs l0_3 i3) (h4 : RepDs l0_4 i4) (h5 : RepAs l0_5 i5) (hk0 : 0 ≤ k) (hk : k + szL (rows3 A0_3 l0_3.length c0_3 i3 A0_4 l0_4.length c0_4 i4 A0_5 l0_5.length c0_5 i5) ≤ 9223372036854775807) :
  Calls Try.prog 18 #[.agg #[.int .i64 a0_0, .string a0_1, .int .i64 a0_2, .slice A0_3 l0_3.length c0_3, .slice A0_4 l0_4.length c0_4, .slice A0_5 l0_5.length c0_5], .int .i64 k] w fun e w' => e = .returned (.int .i64 (mkL mt (rows3 A0_3 l0_3.length c0_3 i3 A0_4 l0_4.length c0_4 i4 A0_5 l0_5.length c0_5 i5) k).2) ∧ Below w.heap.size w w' := by
 have hu33 := Try.underlying33
 have HB := Aside0.mk (Below.refl w.heap.size w)
 have R3 := Aside0.mk h3
 have R4 := Aside0.mk h4
 have R5 := Aside0.mk h5
 simp only [mkL, mkI] at ha
 simp only [szL, szI, Int.natCast_add] at hk
 have m3 := mkL_le (mt := mt) i3 k hk0 (by omega)
 have m4 := mkL_le (mt := mt) i4 (mkL mt i3 k).2 (by omega) (by omega)
 have m5 := mkL_le (mt := mt) i5 (mkL mt i4 (mkL mt i3 k).2).2 (by omega) (by omega)
 have BD3 := Aside0.mk (show (0 : Int) ≤ k ∧ k + (szL i3 : Int) ≤ 9223372036854775807 from ⟨hk0, by omega⟩)
 have BD4 := Aside0.mk (show (0 : Int) ≤ (mkL mt i3 k).2 ∧ (mkL mt i3 k).2 + (szL i4 : Int) ≤ 9223372036854775807 from ⟨by omega, by omega⟩)
 have BD5 := Aside0.mk (show (0 : Int) ≤ (mkL mt i4 (mkL mt i3 k).2).2 ∧ (mkL mt i4 (mkL mt i3 k).2).2 + (szL i5 : Int) ≤ 9223372036854775807 from ⟨by omega, by omega⟩)
 have cn3 : decide ((mkL mt i3 k).2 < 0) = false := decide_eq_false (by omega)
 have cn4 : decide ((mkL mt i4 (mkL mt i3 k).2).2 < 0) = false := decide_eq_false (by omega)
 have cn5 : decide ((mkL mt i5 (mkL mt i4 (mkL mt i3 k).2).2).2 < 0) = false := decide_eq_false (by omega)
 have S3 := Aside0.mk (Apart.sub (pre := []) (post := [.r 68 9 (.slice A0_4 l0_4.length c0_4) l0_4.length (mkL mt i4 (mkL mt i3 k).2).1, .r 53 8 (.slice A0_5 l0_5.length c0_5) l0_5.length (mkL mt i5 (mkL mt i4 (mkL mt i3 k).2).2).1]) ha)
 have S4 := Aside0.mk (Apart.sub (pre := [.r 33 6 (.slice A0_3 l0_3.length c0_3) l0_3.length (mkL mt i3 k).1]) (post := [.r 53 8 (.slice A0_5 l0_5.length c0_5) l0_5.length (mkL mt i5 (mkL mt i4 (mkL mt i3 k).2).2).1]) ha)
 have S5 := Aside0.mk (Apart.sub (pre := [.r 33 6 (.slice A0_3 l0_3.length c0_3) l0_3.length (mkL mt i3 k).1, .r 68 9 (.slice A0_4 l0_4.length c0_4) l0_4.length (mkL mt i4 (mkL mt i3 k).2).1]) (post := []) ha)
 simp only [mkL, mkI]
 clear ha hk0 hk h3 h4 h5 m3 m4 m5
 go_enter Try.func18, Try.ntmps18
 go_wp2_with (first | ((with_reducible refine gate_dst (N := 2) rfl ?_); refine box_event ?hg (N := 2) ?hd (cs := #[.int .i64 a0_0, .string a0_1, .int .i64 a0_2, .slice A0_3 l0_3.length c0_3, .slice A0_4 l0_4.length c0_4, .slice A0_5 l0_5.length c0_5]) (t := 33) ?hr ?_; (case hd => rfl); (case hg => rfl); (case hr => first | (go_simp; done) | (go_simp; rfl)); intro gb2 hg w3 hbox hb; have hx_ := bel_of (w := w) hb HB.out; have nb_ := Aside0.mk (below_step hx_ hb); have ge_ := Aside0.mk (box_ge hx_ hg); clear HB  ; have HB := nb_; have BK2 := Aside0.mk hbox; have GE2 := ge_; clear nb_ ge_ hx_ hb hbox hg  ; obtain ⟨hc5_0, hc5_1, hc5_2, hc5_3, hc5_4, hc5_5, hf5_0, hf5_1, hf5_2, hf5_3, hf5_4, hf5_5⟩ := cells6 BK2.out) | ((with_reducible refine gate_dst (N := 8) rfl ?_); (with_reducible refine gate_callee (f := 41) rfl ?_); refine goesL_ (some 8) rfl rfl Try.func41 (by kernel_rfl) rfl #[.slice A0_3 l0_3.length c0_3, .int .i64 (k)] rfl (by (try simp only [List.map_toArray, List.map_cons, List.map_nil, List.append_toArray, List.cons_append, List.nil_append]); first | done | rfl) ?_; refine calls_bel (w0 := w) (by repeat (first | (with_reducible first | exact HB.out | apply below_alloc | apply pw_below_drewN | apply below_drew1 | refine below_set ?_ GE2.out) | exact HB.out)) (fun hx_ => ?_); refine ((allHd _).1 _ _ l0_3 i3 (k) _ (S3.out.below hx_) rfl S3.out.n_le R3.out (Nat.le_refl _) BD3.out.1 BD3.out.2).mono ?_; rintro e_ w21 ⟨rfl, hb⟩; refine ⟨_, rfl, ?_⟩; have n2_ := Aside0.mk (blk_below (g := gb2) BK2.out hb); have nb_ := Aside0.mk (below_step hx_ hb); clear HB BK2 hx_ hb; have HB := nb_; have BK2 := n2_; clear nb_ n2_; obtain ⟨hc50_0, hc50_1, hc50_2, hc50_3, hc50_4, hc50_5, hf50_0, hf50_1, hf50_2, hf50_3, hf50_4, hf50_5⟩ := cells6 BK2.out) | ((with_reducible refine gate_dst (N := 14) rfl ?_); (with_reducible refine gate_callee (f := 42) rfl ?_); refine goesL_ (some 14) rfl rfl Try.func42 (by kernel_rfl) rfl #[.slice A0_4 l0_4.length c0_4, .int .i64 ((mkL mt i3 k).2)] rfl (by (try simp only [List.map_toArray, List.map_cons, List.map_nil, List.append_toArray, List.cons_append, List.nil_append]); first | done | rfl) ?_; refine calls_bel (w0 := w) (by repeat (first | (with_reducible first | exact HB.out | apply below_alloc | apply pw_below_drewN | apply below_drew1 | refine below_set ?_ GE2.out) | exact HB.out)) (fun hx_ => ?_); refine ((allHd _).2.1 _ _ l0_4 i4 ((mkL mt i3 k).2) _ (S4.out.below hx_) rfl S4.out.n_le R4.out (Nat.le_refl _) BD4.out.1 BD4.out.2).mono ?_; rintro e_ w22 ⟨rfl, hb⟩; refine ⟨_, rfl, ?_⟩; have n2_ := Aside0.mk (blk_below (g := gb2) BK2.out hb); have nb_ := Aside0.mk (below_step hx_ hb); clear HB BK2 hx_ hb; have HB := nb_; have BK2 := n2_; clear nb_ n2_; obtain ⟨hc51_0, hc51_1, hc51_2, hc51_3, hc51_4, hc51_5, hf51_0, hf51_1, hf51_2, hf51_3, hf51_4, hf51_5⟩ := cells6 BK2.out) | ((with_reducible refine gate_dst (N := 20) rfl ?_); (with_reducible refine gate_callee (f := 43) rfl ?_); refine goesL_ (some 20) rfl rfl Try.func43 (by kernel_rfl) rfl #[.slice A0_5 l0_5.length c0_5, .int .i64 ((mkL mt i4 (mkL mt i3 k).2).2)] rfl (by (try simp only [List.map_toArray, List.map_cons, List.map_nil, List.append_toArray, List.cons_append, List.nil_append]); first | done | rfl) ?_; refine calls_bel (w0 := w) (by repeat (first | (with_reducible first | exact HB.out | apply below_alloc | apply pw_below_drewN | apply below_drew1 | refine below_set ?_ GE2.out) | exact HB.out)) (fun hx_ => ?_); refine ((allHd _).2.2 _ _ l0_5 i5 ((mkL mt i4 (mkL mt i3 k).2).2) _ (S5.out.below hx_) rfl S5.out.n_le R5.out (Nat.le_refl _) BD5.out.1 BD5.out.2).mono ?_; rintro e_ w23 ⟨rfl, hb⟩; refine ⟨_, rfl, ?_⟩; have n2_ := Aside0.mk (blk_below (g := gb2) BK2.out hb); have nb_ := Aside0.mk (below_step hx_ hb); clear HB BK2 hx_ hb; have HB := nb_; have BK2 := n2_; clear nb_ n2_; obtain ⟨hc52_0, hc52_1, hc52_2, hc52_3, hc52_4, hc52_5, hf52_0, hf52_1, hf52_2, hf52_3, hf52_4, hf52_5⟩ := cells6 BK2.out))
 go_ret
 exact ⟨rfl, by repeat (first | (with_reducible first | exact HB.out | apply below_alloc | apply pw_below_drewN | apply below_drew1 | refine below_set ?_ GE2.out) | exact HB.out)⟩
end Go.Proofs.Ytpndcfibjjkgcaa.MyItc

/- Items read as the printed kinds do. No condition. -/
import Derived.Test.YtpndcfibjjkgcaaMyItt
import Derived.Test.YtpndcfibjjkgcaaWRepsOne
namespace Go.Proofs.Ytpndcfibjjkgcaa.MyItc
open Go Go.RowKit Go.Proofs.YtpndcfibjjkgcaaW.PrintWords Go.Proofs.YtpndcfibjjkgcaaW.PrintLast Go.Proofs.YtpndcfibjjkgcaaW.PrintMore Go.Proofs.Ytpndcfibjjkgcaa.PIfg
set_option linter.unusedVariables false
theorem row_C {α : Type} {d : Kd α} {w : World} {e sz n : Nat} {v : Value} {inner : List Value} {l : List α} (hs : d.sz = sz) (hr : Reps (d.K w) sz l inner) (ho : w.ownsRow 0 e sz v n inner) (hn : n = l.length) : ∃ A c, v = .slice A l.length c ∧ l.length ≤ c ∧ d.C w A l.length l := by
  subst hs
  subst hn
  exact OwnRow.reads ⟨inner, ho, hr⟩
theorem strs_reps (w : World) : ∀ l : List ByteArray, Reps (Kd.string.K w) 1 l ((l.map It.s).map It.val)
  | [] => ⟨rfl, fun j p h => by simp at h⟩
  | x :: l => Reps.front (c := [.string x]) rfl rfl (strs_reps w l) rfl
set_option maxHeartbeats 4000000 in
mutual
theorem repE_K {w : World} : ∀ {x : S33} {i : List It}, RepE x i → AtL w i → k33.K w x (i.map It.val)
  | _, _, .mk h3 h4 h5, ha => by
    simp only [AtL, It.At, true_and, and_true] at ha
    obtain ⟨⟨_, o3, a3⟩, ⟨_, o4, a4⟩, ⟨_, o5, a5⟩⟩ := ha
    obtain ⟨A3, c3, rfl, l3, g3⟩ := row_C rfl (repEs_K h3 a3) o3 rfl
    obtain ⟨A4, c4, rfl, l4, g4⟩ := row_C rfl (repDs_K h4 a4) o4 rfl
    obtain ⟨A5, c5, rfl, l5, g5⟩ := row_C rfl (repAs_K h5 a5) o5 rfl
    exact k33_mk w _ l3 g3 l4 g4 l5 g5
theorem repEs_K {w : World} : ∀ {l : List S33} {i : List It}, RepEs l i → AtL w i → Reps (k33.K w) 6 l (i.map It.val)
  | _, _, .nil, _ => ⟨rfl, fun j p h => by simp at h⟩
  | _, _, .cons h h', ha => by
    rw [AtL_app] at ha
    have hk := repE_K h ha.1
    exact Reps.front hk (k33.K_len hk) (repEs_K h' ha.2) (by rw [List.map_append])
theorem repD_K {w : World} : ∀ {x : S68} {i : List It}, RepD x i → AtL w i → k68.K w x (i.map It.val)
  | _, _, .mk hE h8, ha => by
    simp only [AtL, AtL_app, It.At, true_and, and_true] at ha
    obtain ⟨⟨_, o1, a1⟩, aE, ⟨_, o8, a8⟩⟩ := ha
    obtain ⟨A1, c1, rfl, l1, g1⟩ := row_C rfl (strs_reps w _) o1 rfl
    obtain ⟨A3, c3, A4, c4, A5, c5, he, l3, g3, l4, g4, l5, g5⟩ := k33_open (repE_K hE aE)
    obtain ⟨A8, c8, rfl, l8, g8⟩ := row_C rfl (repDs_K h8 a8) o8 rfl
    simp only [List.map_cons, List.map_append, List.map_nil, he, It.val]
    exact k68_mk w _ l1 g1 l3 g3 l4 g4 l5 g5 l8 g8
theorem repDs_K {w : World} : ∀ {l : List S68} {i : List It}, RepDs l i → AtL w i → Reps (k68.K w) 9 l (i.map It.val)
  | _, _, .nil, _ => ⟨rfl, fun j p h => by simp at h⟩
  | _, _, .cons h h', ha => by
    rw [AtL_app] at ha
    have hk := repD_K h ha.1
    exact Reps.front hk (k68.K_len hk) (repDs_K h' ha.2) (by rw [List.map_append])
theorem repA_K {w : World} : ∀ {x : S53} {i : List It}, RepA x i → AtL w i → k53.K w x (i.map It.val)
  | _, _, .mk hE, ha => by
    simp only [AtL, It.At, true_and] at ha
    obtain ⟨⟨_, o1, a1⟩, aE⟩ := ha
    obtain ⟨A1, c1, rfl, l1, g1⟩ := row_C rfl (strs_reps w _) o1 rfl
    obtain ⟨A3, c3, A4, c4, A5, c5, he, l3, g3, l4, g4, l5, g5⟩ := k33_open (repE_K hE aE)
    simp only [List.map_cons, he, It.val]
    exact k53_mk w _ l1 g1 l3 g3 l4 g4 l5 g5
theorem repAs_K {w : World} : ∀ {l : List S53} {i : List It}, RepAs l i → AtL w i → Reps (k53.K w) 8 l (i.map It.val)
  | _, _, .nil, _ => ⟨rfl, fun j p h => by simp at h⟩
  | _, _, .cons h h', ha => by
    rw [AtL_app] at ha
    have hk := repA_K h ha.1
    exact Reps.front hk (k53.K_len hk) (repAs_K h' ha.2) (by rw [List.map_append])
end
/-- Three rows of items read so. -/
theorem rows_arg {w : World} {l3 : List S33} {l4 : List S68} {l5 : List S53} {A3 A4 A5 : Option Addr} {c3 c4 c5 : Nat} {i3 i4 i5 : List It} (ha : AtL w (rows3 A3 l3.length c3 i3 A4 l4.length c4 i4 A5 l5.length c5 i5)) (h3 : RepEs l3 i3) (h4 : RepDs l4 i4) (h5 : RepAs l5 i5) : ArgE w A3 c3 l3 A4 c4 l4 A5 c5 l5 := by
  simp only [AtL, It.At, and_true] at ha
  obtain ⟨⟨_, o3, a3⟩, ⟨_, o4, a4⟩, ⟨_, o5, a5⟩⟩ := ha
  obtain ⟨B3, d3, e3, q3, g3⟩ := row_C rfl (repEs_K h3 a3) o3 rfl
  obtain ⟨B4, d4, e4, q4, g4⟩ := row_C rfl (repDs_K h4 a4) o4 rfl
  obtain ⟨B5, d5, e5, q5, g5⟩ := row_C rfl (repAs_K h5 a5) o5 rfl
  cases e3
  cases e4
  cases e5
  exact ⟨⟨g3, q3⟩, ⟨g4, q4⟩, ⟨g5, q5⟩⟩
theorem CopE.arg {lo : Nat} {w : World} {l3 : List S33} {l4 : List S68} {l5 : List S53} {A3 A4 A5 : Option Addr} {c3 c4 c5 : Nat} {i3 i4 i5 : List It} (h : CopE lo w l3 l4 l5 A3 c3 i3 A4 c4 i4 A5 c5 i5) : ArgE w A3 c3 l3 A4 c4 l4 A5 c5 l5 := rows_arg h.at_ h.r3 h.r4 h.r5
end Go.Proofs.Ytpndcfibjjkgcaa.MyItc

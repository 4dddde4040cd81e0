/- The program's TurnText and the reference's answer the same text for every turn of at most 1048576 letters: the word of its kind, a blank and A, and of three kinds a blank and B. No condition. -/
import Derived.Test.YtfgeinfkffmcbaaMFnExactTurnTextx2
import Derived.Test.YtfgeinfkffmcbaaMyOpen
namespace Go.Proofs.Ytfgeinfkffmcbaa.Pure
open Go.RowKit Go.Proofs.Ytfgeinfkffmcbaa.PFnExactTurnText Go.Proofs.YtfgeinfkffmcbaaW.PrintWords Go.Proofs.YtfgeinfkffmcbaaW.PrintLast Go.Proofs.Ytfgeinfkffmcbaa.MyOpen

theorem mk_size (d : Array UInt8) : (⟨d⟩ : ByteArray).size = d.size := rfl
theorem FnExactTurnText (a : Int) (s t : ByteArray) (ha : IntFit .i64 a) (hs : StrFit s) (ht : StrFit t) : laws_FnExactTurnText.f a s t = some true := by
  unfold StrFit at hs ht
  unfold laws_FnExactTurnText.f laws_szTurn.f
  have e1 : wrap64 (1048576 - (s.size : Int)) = 1048576 - (s.size : Int) := by unfold wrap64; omega
  rw [e1]
  by_cases h1 : (1048576 : Int) - (s.size : Int) < 0
  · rw [if_pos h1]; rfl
  · rw [if_neg h1]
    have e2 : wrap64 (1048576 - (s.size : Int) - (t.size : Int)) = 1048576 - (s.size : Int) - (t.size : Int) := by unfold wrap64; omega
    rw [e2]
    by_cases h2 : (1048576 : Int) - (s.size : Int) - (t.size : Int) < 0
    · rw [if_pos h2]; rfl
    · rw [if_neg h2]
      simp only [Option.bind_some]
      rw [if_neg h2]
      unfold laws_toTurn.f
      simp only [Option.bind_some]
      by_cases hk : 1 ≤ a ∧ a ≤ 12
      · have hcase : a = 1 ∨ a = 2 ∨ a = 3 ∨ a = 4 ∨ a = 5 ∨ a = 6 ∨ a = 7 ∨ a = 8 ∨ a = 9 ∨ a = 10 ∨ a = 11 ∨ a = 12 := by omega
        rcases hcase with rfl | rfl | rfl | rfl | rfl | rfl | rfl | rfl | rfl | rfl | rfl | rfl <;>
          (simp [spec_TurnText.f, impl_TurnText.f, spec_l1In.f, impl_in.f, rdOf, ByteArray.size_append, mk_size, ByteArray.append_assoc]
           (repeat rw [if_pos (by omega)])
           try simp)
      · have hn : spec_l1In.f a 1 12 = some false ∧ impl_in.f a 1 12 = some false := by
          unfold spec_l1In.f impl_in.f
          by_cases h3 : a ≥ 1
          · rw [if_pos h3]
            simp
            omega
          · rw [if_neg h3]
            exact ⟨rfl, rfl⟩
        simp [spec_TurnText.f, impl_TurnText.f, hn.1, hn.2]

end Go.Proofs.Ytfgeinfkffmcbaa.Pure

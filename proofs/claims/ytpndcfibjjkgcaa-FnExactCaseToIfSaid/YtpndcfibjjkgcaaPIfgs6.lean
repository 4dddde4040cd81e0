/- The given copying, in plain Lean; what its contracts say. No condition. -/
import Derived.Test.YtpndcfibjjkgcaaPIfgx2
import Derived.Test.YtpndcfibjjkgcaaWRepsOne
import Derived.Test.YtpndcfibjjkgcaaMyClone
namespace Go.Proofs.Ytpndcfibjjkgcaa.PIfg
open Go.Proofs.Ytpndcfibjjkgcaa.MyClone
open Go.RowKit Go.Proofs.YtpndcfibjjkgcaaW.PrintWords Go.Proofs.YtpndcfibjjkgcaaW.PrintLast Go.Proofs.YtpndcfibjjkgcaaW.PrintMore
attribute [local go_sem] max2_int min2_int max_two min_two max_three min_three max_four min_four   -- for this text's walks alone
set_option linter.unusedVariables false
set_option linter.unusedSimpArgs false

/-! ### spec_l3CopyDecs: function 56 -/
mutual
def spec_l3CopyDecs.l0 : Nat → List (S68) → List (S68) → Int → Option ((List (S68)))
 | 0, _, _, _ => none
 | k + 1, x0, x3, x4 => if x4 < (x0.length : Int) then (if 0 ≤ x4 then ((some (([] : List ByteArray) : List ByteArray)).bind fun y266 => (if y266.length + ((rd_T68 x0 x4).f1).length < 8796093022208 then ((spec_l3Copy.f k ((rd_T68 x0 x4).f2.f0) ((rd_T68 x0 x4).f2.f1) ((rd_T68 x0 x4).f2.f2) ((rd_T68 x0 x4).f2.f3) ((rd_T68 x0 x4).f2.f4) ((rd_T68 x0 x4).f2.f5)).bind fun bt274 => ((spec_l3CopyDecs.f k ((rd_T68 x0 x4).f3)).bind fun t287 => (if x3.length < 837723144972 then (spec_l3CopyDecs.l0 k x0 (x3 ++ [(⟨(rd_T68 x0 x4).f0, (y266 ++ ((rd_T68 x0 x4).f1)), (⟨bt274.1, bt274.2.1, bt274.2.2.1, bt274.2.2.2.1, bt274.2.2.2.2.1, bt274.2.2.2.2.2⟩ : S33), t287⟩ : S68)]) (wrap64 (x4 + 1))) else (none)))) else (none))) else (none)) else (some x3)
def spec_l3CopyDecs.f : Nat → List (S68) → Option ((List (S68)))
 | 0, _ => none
 | k + 1, l0 => spec_l3CopyDecs.l0 k l0 (([] : List (S68))) 0
def spec_l3Copy.l0 : Nat → Int → Int → ByteArray → Int → List (S33) → List (S68) → List (S53) → Int → ByteArray → Int → List (S33) → List (S68) → Option (Int × ByteArray × Int × (List (S33)) × (List (S68)) × (List (S53)))
 | 0, _, _, _, _, _, _, _, _, _, _, _, _ => none
 | k + 1, x4, x294000, x294001, x294002, x294003, x294004, x294005, x299000, x299001, x299002, x299003, x299004 => if x4 < (x294003.length : Int) then (if 0 ≤ x4 then ((spec_l3Copy.f k ((rd_T33 x294003 x4).f0) ((rd_T33 x294003 x4).f1) ((rd_T33 x294003 x4).f2) ((rd_T33 x294003 x4).f3) ((rd_T33 x294003 x4).f4) ((rd_T33 x294003 x4).f5)).bind fun bt300 => (if x299003.length < 1353245080339 then (spec_l3Copy.l0 k (wrap64 (x4 + 1)) x294000 x294001 x294002 x294003 x294004 x294005 x299000 x299001 x299002 (x299003 ++ [(⟨bt300.1, bt300.2.1, bt300.2.2.1, bt300.2.2.2.1, bt300.2.2.2.2.1, bt300.2.2.2.2.2⟩ : S33)]) x299004) else (none))) else (none)) else (spec_l3Copy.l1 k 0 x294000 x294001 x294002 x294003 x294004 x294005 x299000 x299001 x299002 x299003 x299004 ([] : List (S53)))
def spec_l3Copy.l1 : Nat → Int → Int → ByteArray → Int → List (S33) → List (S68) → List (S53) → Int → ByteArray → Int → List (S33) → List (S68) → List (S53) → Option (Int × ByteArray × Int × (List (S33)) × (List (S68)) × (List (S53)))
 | 0, _, _, _, _, _, _, _, _, _, _, _, _, _ => none
 | k + 1, x5, x294000, x294001, x294002, x294003, x294004, x294005, x299000, x299001, x299002, x299003, x299004, x299005 => if x5 < (x294005.length : Int) then (if 0 ≤ x5 then ((some (([] : List ByteArray) : List ByteArray)).bind fun y316 => (if y316.length + ((rd_T53 x294005 x5).f1).length < 8796093022208 then ((spec_l3Copy.f k ((rd_T53 x294005 x5).f2.f0) ((rd_T53 x294005 x5).f2.f1) ((rd_T53 x294005 x5).f2.f2) ((rd_T53 x294005 x5).f2.f3) ((rd_T53 x294005 x5).f2.f4) ((rd_T53 x294005 x5).f2.f5)).bind fun bt324 => (if x299005.length < 977343669134 then (spec_l3Copy.l1 k (wrap64 (x5 + 1)) x294000 x294001 x294002 x294003 x294004 x294005 x299000 x299001 x299002 x299003 x299004 (x299005 ++ [(⟨(rd_T53 x294005 x5).f0, (y316 ++ ((rd_T53 x294005 x5).f1)), (⟨bt324.1, bt324.2.1, bt324.2.2.1, bt324.2.2.2.1, bt324.2.2.2.2.1, bt324.2.2.2.2.2⟩ : S33)⟩ : S53)])) else (none))) else (none))) else (none)) else (some (x299000, x299001, x299002, x299003, x299004, x299005))
def spec_l3Copy.f : Nat → Int → ByteArray → Int → List (S33) → List (S68) → List (S53) → Option (Int × ByteArray × Int × (List (S33)) × (List (S68)) × (List (S53)))
 | 0, _, _, _, _, _, _ => none
 | k + 1, a0_0, a0_1, a0_2, l0_3, l0_4, l0_5 => (spec_l3CopyDecs.f k l0_4).bind fun t295 => (spec_l3Copy.l0 k 0 a0_0 a0_1 a0_2 l0_3 l0_4 l0_5 a0_0 a0_1 a0_2 ([] : List (S33)) t295)
end
abbrev spec_l3CopyDecs.At (m_ : Nat) : Prop := ∀ (A0 : Option Addr) (c0 : Nat) (l0 : List (S68)) (r : List (S68)) (w : World) (hr0 : Kd.C k68 w A0 l0.length l0) (hc0 : l0.length ≤ c0) (h : spec_l3CopyDecs.f m_ l0 = some r),
  Calls Try.prog 56 #[.slice A0 l0.length c0] w fun e w' => ∃ v0_ : Value, e = .returned (v0_) ∧ Kd.R k68 68 w' w.heap.size (fun _ => True) v0_ r ∧ Below w.heap.size w w'
abbrev spec_l3Copy.At (m_ : Nat) : Prop := ∀ (a0_0 : Int) (a0_1 : ByteArray) (a0_2 : Int) (A0_3 : Option Addr) (c0_3 : Nat) (l0_3 : List (S33)) (A0_4 : Option Addr) (c0_4 : Nat) (l0_4 : List (S68)) (A0_5 : Option Addr) (c0_5 : Nat) (l0_5 : List (S53)) (r1 : Int) (r2 : ByteArray) (r3 : Int) (r4 : List (S33)) (r5 : List (S68)) (r6 : List (S53)) (w : World) (hr0_3 : Kd.C k33 w A0_3 l0_3.length l0_3) (hc0_3 : l0_3.length ≤ c0_3) (hr0_4 : Kd.C k68 w A0_4 l0_4.length l0_4) (hc0_4 : l0_4.length ≤ c0_4) (hr0_5 : Kd.C k53 w A0_5 l0_5.length l0_5) (hc0_5 : l0_5.length ≤ c0_5) (h : spec_l3Copy.f m_ a0_0 a0_1 a0_2 l0_3 l0_4 l0_5 = some (r1, r2, r3, r4, r5, r6)),
  Calls Try.prog 35 #[.agg #[.int .i64 a0_0, .string a0_1, .int .i64 a0_2, .slice A0_3 l0_3.length c0_3, .slice A0_4 l0_4.length c0_4, .slice A0_5 l0_5.length c0_5]] w fun e w' => ∃ v3_ v4_ v5_ : Value, e = .returned (.agg #[.int .i64 r1, .string r2, .int .i64 r3, v3_, v4_, v5_]) ∧ Kd.R k33 33 w' w.heap.size (fun k_ => some k_ ≠ (v4_ : Value).ownBlock ∧ some k_ ≠ (v5_ : Value).ownBlock) v3_ r4 ∧ Kd.R k68 68 w' w.heap.size (fun k_ => some k_ ≠ (v3_ : Value).ownBlock ∧ some k_ ≠ (v5_ : Value).ownBlock) v4_ r5 ∧ Kd.R k53 53 w' w.heap.size (fun k_ => some k_ ≠ (v3_ : Value).ownBlock ∧ some k_ ≠ (v4_ : Value).ownBlock) v5_ r6 ∧ Below w.heap.size w w'

end Go.Proofs.Ytpndcfibjjkgcaa.PIfg

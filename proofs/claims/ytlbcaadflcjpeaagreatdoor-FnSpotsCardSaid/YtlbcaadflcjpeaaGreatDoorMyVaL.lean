/- The checker's word for all the table's functions. No condition. -/
import Derived.Test.YtlbcaadflcjpeaaGreatDoorMyVaK0
import Derived.Test.YtlbcaadflcjpeaaGreatDoorMyVaK1
import Derived.Test.YtlbcaadflcjpeaaGreatDoorMyVaK2
import Derived.Test.YtlbcaadflcjpeaaGreatDoorMyVaK3
import Derived.KernelRfl
set_option linter.unusedVariables false
namespace Go.Proofs.YtlbcaadflcjpeaaGreatDoor.Va
open Go

theorem all_part {a n : Nat} {p : Nat → Bool} (h : ((List.range' a n).all p) = true) {k : Nat} (h1 : a ≤ k) (h2 : k < a + n) : p k = true :=
  List.all_eq_true.1 h k (List.mem_range'_1.2 ⟨h1, h2⟩)

theorem all_chk (k : Nat) (hk : k < 221) : chk Tryz.prog k = true := by
  by_cases h0 : k < 52
  · exact all_part k0 (by omega) (by omega)
  by_cases h52 : k < 57
  · exact all_part k52 (by omega) (by omega)
  by_cases h57 : k < 69
  · exact all_part k57 (by omega) (by omega)
  by_cases h69 : k < 71
  · exact all_part k69 (by omega) (by omega)
  by_cases h71 : k < 77
  · exact all_part k71 (by omega) (by omega)
  by_cases h77 : k < 78
  · exact all_part k77 (by omega) (by omega)
  by_cases h78 : k < 79
  · exact all_part k78 (by omega) (by omega)
  by_cases h79 : k < 80
  · exact all_part k79 (by omega) (by omega)
  by_cases h80 : k < 81
  · exact all_part k80 (by omega) (by omega)
  by_cases h81 : k < 82
  · exact all_part k81 (by omega) (by omega)
  by_cases h82 : k < 83
  · exact all_part k82 (by omega) (by omega)
  by_cases h83 : k < 109
  · exact all_part k83 (by omega) (by omega)
  by_cases h109 : k < 110
  · exact all_part k109 (by omega) (by omega)
  by_cases h110 : k < 111
  · exact all_part k110 (by omega) (by omega)
  by_cases h111 : k < 114
  · exact all_part k111 (by omega) (by omega)
  by_cases h114 : k < 115
  · exact all_part k114 (by omega) (by omega)
  by_cases h115 : k < 118
  · exact all_part k115 (by omega) (by omega)
  by_cases h118 : k < 119
  · exact all_part k118 (by omega) (by omega)
  by_cases h119 : k < 126
  · exact all_part k119 (by omega) (by omega)
  by_cases h126 : k < 130
  · exact all_part k126 (by omega) (by omega)
  by_cases h130 : k < 131
  · exact all_part k130 (by omega) (by omega)
  by_cases h131 : k < 133
  · exact all_part k131 (by omega) (by omega)
  by_cases h133 : k < 134
  · exact all_part k133 (by omega) (by omega)
  by_cases h134 : k < 135
  · exact all_part k134 (by omega) (by omega)
  by_cases h135 : k < 137
  · exact all_part k135 (by omega) (by omega)
  by_cases h137 : k < 138
  · exact all_part k137 (by omega) (by omega)
  by_cases h138 : k < 139
  · exact all_part k138 (by omega) (by omega)
  by_cases h139 : k < 141
  · exact all_part k139 (by omega) (by omega)
  by_cases h141 : k < 142
  · exact all_part k141 (by omega) (by omega)
  by_cases h142 : k < 143
  · exact all_part k142 (by omega) (by omega)
  by_cases h143 : k < 145
  · exact all_part k143 (by omega) (by omega)
  by_cases h145 : k < 146
  · exact all_part k145 (by omega) (by omega)
  by_cases h146 : k < 147
  · exact all_part k146 (by omega) (by omega)
  by_cases h147 : k < 149
  · exact all_part k147 (by omega) (by omega)
  by_cases h149 : k < 150
  · exact all_part k149 (by omega) (by omega)
  by_cases h150 : k < 151
  · exact all_part k150 (by omega) (by omega)
  by_cases h151 : k < 153
  · exact all_part k151 (by omega) (by omega)
  by_cases h153 : k < 154
  · exact all_part k153 (by omega) (by omega)
  by_cases h154 : k < 155
  · exact all_part k154 (by omega) (by omega)
  by_cases h155 : k < 157
  · exact all_part k155 (by omega) (by omega)
  by_cases h157 : k < 158
  · exact all_part k157 (by omega) (by omega)
  by_cases h158 : k < 159
  · exact all_part k158 (by omega) (by omega)
  by_cases h159 : k < 164
  · exact all_part k159 (by omega) (by omega)
  by_cases h164 : k < 165
  · exact all_part k164 (by omega) (by omega)
  by_cases h165 : k < 175
  · exact all_part k165 (by omega) (by omega)
  by_cases h175 : k < 182
  · exact all_part k175 (by omega) (by omega)
  by_cases h182 : k < 185
  · exact all_part k182 (by omega) (by omega)
  by_cases h185 : k < 188
  · exact all_part k185 (by omega) (by omega)
  by_cases h188 : k < 192
  · exact all_part k188 (by omega) (by omega)
  by_cases h192 : k < 196
  · exact all_part k192 (by omega) (by omega)
  by_cases h196 : k < 200
  · exact all_part k196 (by omega) (by omega)
  by_cases h200 : k < 205
  · exact all_part k200 (by omega) (by omega)
  by_cases h205 : k < 209
  · exact all_part k205 (by omega) (by omega)
  by_cases h209 : k < 213
  · exact all_part k209 (by omega) (by omega)
  by_cases h213 : k < 217
  · exact all_part k213 (by omega) (by omega)
  by_cases h217 : k < 218
  · exact all_part k217 (by omega) (by omega)
  exact all_part k218 (by omega) (by omega)

theorem all_insts {g : Gh} (hb : ∀ i ∈ base, InstOk Tryz.prog theCx g i) : ∀ i ∈ upTo 221, InstOk Tryz.prog theCx g i :=
  table hb (by kernel_rfl) 221 (of_decide_eq_true (by kernel_rfl)) all_chk
end Go.Proofs.YtlbcaadflcjpeaaGreatDoor.Va

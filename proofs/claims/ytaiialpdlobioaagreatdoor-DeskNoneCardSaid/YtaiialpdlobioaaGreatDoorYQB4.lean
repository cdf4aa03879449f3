/-
  What is proved: the law itself, at 32 of the bytes. Conditions: none.
-/
import Derived.Test.YtaiialpdlobioaaGreatDoorYQNa
noncomputable section
namespace Go.Proofs.YtaiialpdlobioaaGreatDoor

set_option maxRecDepth 1000000 in
theorem bq_128 : bq 128 = true := by kernel_rfl
set_option maxRecDepth 1000000 in
theorem bq_129 : bq 129 = true := by kernel_rfl
set_option maxRecDepth 1000000 in
theorem bq_130 : bq 130 = true := by kernel_rfl
set_option maxRecDepth 1000000 in
theorem bq_131 : bq 131 = true := by kernel_rfl
set_option maxRecDepth 1000000 in
theorem bq_132 : bq 132 = true := by kernel_rfl
set_option maxRecDepth 1000000 in
theorem bq_133 : bq 133 = true := by kernel_rfl
set_option maxRecDepth 1000000 in
theorem bq_134 : bq 134 = true := by kernel_rfl
set_option maxRecDepth 1000000 in
theorem bq_135 : bq 135 = true := by kernel_rfl
set_option maxRecDepth 1000000 in
theorem bq_136 : bq 136 = true := by kernel_rfl
set_option maxRecDepth 1000000 in
theorem bq_137 : bq 137 = true := by kernel_rfl
set_option maxRecDepth 1000000 in
theorem bq_138 : bq 138 = true := by kernel_rfl
set_option maxRecDepth 1000000 in
theorem bq_139 : bq 139 = true := by kernel_rfl
set_option maxRecDepth 1000000 in
theorem bq_140 : bq 140 = true := by kernel_rfl
set_option maxRecDepth 1000000 in
theorem bq_141 : bq 141 = true := by kernel_rfl
set_option maxRecDepth 1000000 in
theorem bq_142 : bq 142 = true := by kernel_rfl
set_option maxRecDepth 1000000 in
theorem bq_143 : bq 143 = true := by kernel_rfl
set_option maxRecDepth 1000000 in
theorem bq_144 : bq 144 = true := by kernel_rfl
set_option maxRecDepth 1000000 in
theorem bq_145 : bq 145 = true := by kernel_rfl
set_option maxRecDepth 1000000 in
theorem bq_146 : bq 146 = true := by kernel_rfl
set_option maxRecDepth 1000000 in
theorem bq_147 : bq 147 = true := by kernel_rfl
set_option maxRecDepth 1000000 in
theorem bq_148 : bq 148 = true := by kernel_rfl
set_option maxRecDepth 1000000 in
theorem bq_149 : bq 149 = true := by kernel_rfl
set_option maxRecDepth 1000000 in
theorem bq_150 : bq 150 = true := by kernel_rfl
set_option maxRecDepth 1000000 in
theorem bq_151 : bq 151 = true := by kernel_rfl
set_option maxRecDepth 1000000 in
theorem bq_152 : bq 152 = true := by kernel_rfl
set_option maxRecDepth 1000000 in
theorem bq_153 : bq 153 = true := by kernel_rfl
set_option maxRecDepth 1000000 in
theorem bq_154 : bq 154 = true := by kernel_rfl
set_option maxRecDepth 1000000 in
theorem bq_155 : bq 155 = true := by kernel_rfl
set_option maxRecDepth 1000000 in
theorem bq_156 : bq 156 = true := by kernel_rfl
set_option maxRecDepth 1000000 in
theorem bq_157 : bq 157 = true := by kernel_rfl
set_option maxRecDepth 1000000 in
theorem bq_158 : bq 158 = true := by kernel_rfl
set_option maxRecDepth 1000000 in
theorem bq_159 : bq 159 = true := by kernel_rfl
theorem bqs_4 : BytesT 128 32 := .cons bq_128 <| .cons bq_129 <| .cons bq_130 <| .cons bq_131 <| .cons bq_132 <| .cons bq_133 <| .cons bq_134 <| .cons bq_135 <| .cons bq_136 <| .cons bq_137 <| .cons bq_138 <| .cons bq_139 <| .cons bq_140 <| .cons bq_141 <| .cons bq_142 <| .cons bq_143 <| .cons bq_144 <| .cons bq_145 <| .cons bq_146 <| .cons bq_147 <| .cons bq_148 <| .cons bq_149 <| .cons bq_150 <| .cons bq_151 <| .cons bq_152 <| .cons bq_153 <| .cons bq_154 <| .cons bq_155 <| .cons bq_156 <| .cons bq_157 <| .cons bq_158 <| .cons bq_159 <| .none
end Go.Proofs.YtaiialpdlobioaaGreatDoor

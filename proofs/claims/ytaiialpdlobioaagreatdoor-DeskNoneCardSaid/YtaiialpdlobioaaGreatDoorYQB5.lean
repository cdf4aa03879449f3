/-
  What is proved: the law itself, at 32 of the bytes. Conditions: none.
-/
import Derived.Test.YtaiialpdlobioaaGreatDoorYQNa
noncomputable section
namespace Go.Proofs.YtaiialpdlobioaaGreatDoor

set_option maxRecDepth 1000000 in
theorem bq_160 : bq 160 = true := by kernel_rfl
set_option maxRecDepth 1000000 in
theorem bq_161 : bq 161 = true := by kernel_rfl
set_option maxRecDepth 1000000 in
theorem bq_162 : bq 162 = true := by kernel_rfl
set_option maxRecDepth 1000000 in
theorem bq_163 : bq 163 = true := by kernel_rfl
set_option maxRecDepth 1000000 in
theorem bq_164 : bq 164 = true := by kernel_rfl
set_option maxRecDepth 1000000 in
theorem bq_165 : bq 165 = true := by kernel_rfl
set_option maxRecDepth 1000000 in
theorem bq_166 : bq 166 = true := by kernel_rfl
set_option maxRecDepth 1000000 in
theorem bq_167 : bq 167 = true := by kernel_rfl
set_option maxRecDepth 1000000 in
theorem bq_168 : bq 168 = true := by kernel_rfl
set_option maxRecDepth 1000000 in
theorem bq_169 : bq 169 = true := by kernel_rfl
set_option maxRecDepth 1000000 in
theorem bq_170 : bq 170 = true := by kernel_rfl
set_option maxRecDepth 1000000 in
theorem bq_171 : bq 171 = true := by kernel_rfl
set_option maxRecDepth 1000000 in
theorem bq_172 : bq 172 = true := by kernel_rfl
set_option maxRecDepth 1000000 in
theorem bq_173 : bq 173 = true := by kernel_rfl
set_option maxRecDepth 1000000 in
theorem bq_174 : bq 174 = true := by kernel_rfl
set_option maxRecDepth 1000000 in
theorem bq_175 : bq 175 = true := by kernel_rfl
set_option maxRecDepth 1000000 in
theorem bq_176 : bq 176 = true := by kernel_rfl
set_option maxRecDepth 1000000 in
theorem bq_177 : bq 177 = true := by kernel_rfl
set_option maxRecDepth 1000000 in
theorem bq_178 : bq 178 = true := by kernel_rfl
set_option maxRecDepth 1000000 in
theorem bq_179 : bq 179 = true := by kernel_rfl
set_option maxRecDepth 1000000 in
theorem bq_180 : bq 180 = true := by kernel_rfl
set_option maxRecDepth 1000000 in
theorem bq_181 : bq 181 = true := by kernel_rfl
set_option maxRecDepth 1000000 in
theorem bq_182 : bq 182 = true := by kernel_rfl
set_option maxRecDepth 1000000 in
theorem bq_183 : bq 183 = true := by kernel_rfl
set_option maxRecDepth 1000000 in
theorem bq_184 : bq 184 = true := by kernel_rfl
set_option maxRecDepth 1000000 in
theorem bq_185 : bq 185 = true := by kernel_rfl
set_option maxRecDepth 1000000 in
theorem bq_186 : bq 186 = true := by kernel_rfl
set_option maxRecDepth 1000000 in
theorem bq_187 : bq 187 = true := by kernel_rfl
set_option maxRecDepth 1000000 in
theorem bq_188 : bq 188 = true := by kernel_rfl
set_option maxRecDepth 1000000 in
theorem bq_189 : bq 189 = true := by kernel_rfl
set_option maxRecDepth 1000000 in
theorem bq_190 : bq 190 = true := by kernel_rfl
set_option maxRecDepth 1000000 in
theorem bq_191 : bq 191 = true := by kernel_rfl
theorem bqs_5 : BytesT 160 32 := .cons bq_160 <| .cons bq_161 <| .cons bq_162 <| .cons bq_163 <| .cons bq_164 <| .cons bq_165 <| .cons bq_166 <| .cons bq_167 <| .cons bq_168 <| .cons bq_169 <| .cons bq_170 <| .cons bq_171 <| .cons bq_172 <| .cons bq_173 <| .cons bq_174 <| .cons bq_175 <| .cons bq_176 <| .cons bq_177 <| .cons bq_178 <| .cons bq_179 <| .cons bq_180 <| .cons bq_181 <| .cons bq_182 <| .cons bq_183 <| .cons bq_184 <| .cons bq_185 <| .cons bq_186 <| .cons bq_187 <| .cons bq_188 <| .cons bq_189 <| .cons bq_190 <| .cons bq_191 <| .none
end Go.Proofs.YtaiialpdlobioaaGreatDoor

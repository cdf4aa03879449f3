/-
  What is proved: the law itself, at 32 of the bytes. Conditions: none.
-/
import Derived.Test.YtaiialpdlobioaaGreatDoorYQNa
noncomputable section
namespace Go.Proofs.YtaiialpdlobioaaGreatDoor

set_option maxRecDepth 1000000 in
theorem bq_192 : bq 192 = true := by kernel_rfl
set_option maxRecDepth 1000000 in
theorem bq_193 : bq 193 = true := by kernel_rfl
set_option maxRecDepth 1000000 in
theorem bq_194 : bq 194 = true := by kernel_rfl
set_option maxRecDepth 1000000 in
theorem bq_195 : bq 195 = true := by kernel_rfl
set_option maxRecDepth 1000000 in
theorem bq_196 : bq 196 = true := by kernel_rfl
set_option maxRecDepth 1000000 in
theorem bq_197 : bq 197 = true := by kernel_rfl
set_option maxRecDepth 1000000 in
theorem bq_198 : bq 198 = true := by kernel_rfl
set_option maxRecDepth 1000000 in
theorem bq_199 : bq 199 = true := by kernel_rfl
set_option maxRecDepth 1000000 in
theorem bq_200 : bq 200 = true := by kernel_rfl
set_option maxRecDepth 1000000 in
theorem bq_201 : bq 201 = true := by kernel_rfl
set_option maxRecDepth 1000000 in
theorem bq_202 : bq 202 = true := by kernel_rfl
set_option maxRecDepth 1000000 in
theorem bq_203 : bq 203 = true := by kernel_rfl
set_option maxRecDepth 1000000 in
theorem bq_204 : bq 204 = true := by kernel_rfl
set_option maxRecDepth 1000000 in
theorem bq_205 : bq 205 = true := by kernel_rfl
set_option maxRecDepth 1000000 in
theorem bq_206 : bq 206 = true := by kernel_rfl
set_option maxRecDepth 1000000 in
theorem bq_207 : bq 207 = true := by kernel_rfl
set_option maxRecDepth 1000000 in
theorem bq_208 : bq 208 = true := by kernel_rfl
set_option maxRecDepth 1000000 in
theorem bq_209 : bq 209 = true := by kernel_rfl
set_option maxRecDepth 1000000 in
theorem bq_210 : bq 210 = true := by kernel_rfl
set_option maxRecDepth 1000000 in
theorem bq_211 : bq 211 = true := by kernel_rfl
set_option maxRecDepth 1000000 in
theorem bq_212 : bq 212 = true := by kernel_rfl
set_option maxRecDepth 1000000 in
theorem bq_213 : bq 213 = true := by kernel_rfl
set_option maxRecDepth 1000000 in
theorem bq_214 : bq 214 = true := by kernel_rfl
set_option maxRecDepth 1000000 in
theorem bq_215 : bq 215 = true := by kernel_rfl
set_option maxRecDepth 1000000 in
theorem bq_216 : bq 216 = true := by kernel_rfl
set_option maxRecDepth 1000000 in
theorem bq_217 : bq 217 = true := by kernel_rfl
set_option maxRecDepth 1000000 in
theorem bq_218 : bq 218 = true := by kernel_rfl
set_option maxRecDepth 1000000 in
theorem bq_219 : bq 219 = true := by kernel_rfl
set_option maxRecDepth 1000000 in
theorem bq_220 : bq 220 = true := by kernel_rfl
set_option maxRecDepth 1000000 in
theorem bq_221 : bq 221 = true := by kernel_rfl
set_option maxRecDepth 1000000 in
theorem bq_222 : bq 222 = true := by kernel_rfl
set_option maxRecDepth 1000000 in
theorem bq_223 : bq 223 = true := by kernel_rfl
theorem bqs_6 : BytesT 192 32 := .cons bq_192 <| .cons bq_193 <| .cons bq_194 <| .cons bq_195 <| .cons bq_196 <| .cons bq_197 <| .cons bq_198 <| .cons bq_199 <| .cons bq_200 <| .cons bq_201 <| .cons bq_202 <| .cons bq_203 <| .cons bq_204 <| .cons bq_205 <| .cons bq_206 <| .cons bq_207 <| .cons bq_208 <| .cons bq_209 <| .cons bq_210 <| .cons bq_211 <| .cons bq_212 <| .cons bq_213 <| .cons bq_214 <| .cons bq_215 <| .cons bq_216 <| .cons bq_217 <| .cons bq_218 <| .cons bq_219 <| .cons bq_220 <| .cons bq_221 <| .cons bq_222 <| .cons bq_223 <| .none
end Go.Proofs.YtaiialpdlobioaaGreatDoor

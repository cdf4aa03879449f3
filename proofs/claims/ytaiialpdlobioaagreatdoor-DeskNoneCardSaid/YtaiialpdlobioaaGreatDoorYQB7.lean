/-
  What is proved: the law itself, at 32 of the bytes. Conditions: none.
-/
import Derived.Test.YtaiialpdlobioaaGreatDoorYQNa
noncomputable section
namespace Go.Proofs.YtaiialpdlobioaaGreatDoor

set_option maxRecDepth 1000000 in
theorem bq_224 : bq 224 = true := by kernel_rfl
set_option maxRecDepth 1000000 in
theorem bq_225 : bq 225 = true := by kernel_rfl
set_option maxRecDepth 1000000 in
theorem bq_226 : bq 226 = true := by kernel_rfl
set_option maxRecDepth 1000000 in
theorem bq_227 : bq 227 = true := by kernel_rfl
set_option maxRecDepth 1000000 in
theorem bq_228 : bq 228 = true := by kernel_rfl
set_option maxRecDepth 1000000 in
theorem bq_229 : bq 229 = true := by kernel_rfl
set_option maxRecDepth 1000000 in
theorem bq_230 : bq 230 = true := by kernel_rfl
set_option maxRecDepth 1000000 in
theorem bq_231 : bq 231 = true := by kernel_rfl
set_option maxRecDepth 1000000 in
theorem bq_232 : bq 232 = true := by kernel_rfl
set_option maxRecDepth 1000000 in
theorem bq_233 : bq 233 = true := by kernel_rfl
set_option maxRecDepth 1000000 in
theorem bq_234 : bq 234 = true := by kernel_rfl
set_option maxRecDepth 1000000 in
theorem bq_235 : bq 235 = true := by kernel_rfl
set_option maxRecDepth 1000000 in
theorem bq_236 : bq 236 = true := by kernel_rfl
set_option maxRecDepth 1000000 in
theorem bq_237 : bq 237 = true := by kernel_rfl
set_option maxRecDepth 1000000 in
theorem bq_238 : bq 238 = true := by kernel_rfl
set_option maxRecDepth 1000000 in
theorem bq_239 : bq 239 = true := by kernel_rfl
set_option maxRecDepth 1000000 in
theorem bq_240 : bq 240 = true := by kernel_rfl
set_option maxRecDepth 1000000 in
theorem bq_241 : bq 241 = true := by kernel_rfl
set_option maxRecDepth 1000000 in
theorem bq_242 : bq 242 = true := by kernel_rfl
set_option maxRecDepth 1000000 in
theorem bq_243 : bq 243 = true := by kernel_rfl
set_option maxRecDepth 1000000 in
theorem bq_244 : bq 244 = true := by kernel_rfl
set_option maxRecDepth 1000000 in
theorem bq_245 : bq 245 = true := by kernel_rfl
set_option maxRecDepth 1000000 in
theorem bq_246 : bq 246 = true := by kernel_rfl
set_option maxRecDepth 1000000 in
theorem bq_247 : bq 247 = true := by kernel_rfl
set_option maxRecDepth 1000000 in
theorem bq_248 : bq 248 = true := by kernel_rfl
set_option maxRecDepth 1000000 in
theorem bq_249 : bq 249 = true := by kernel_rfl
set_option maxRecDepth 1000000 in
theorem bq_250 : bq 250 = true := by kernel_rfl
set_option maxRecDepth 1000000 in
theorem bq_251 : bq 251 = true := by kernel_rfl
set_option maxRecDepth 1000000 in
theorem bq_252 : bq 252 = true := by kernel_rfl
set_option maxRecDepth 1000000 in
theorem bq_253 : bq 253 = true := by kernel_rfl
set_option maxRecDepth 1000000 in
theorem bq_254 : bq 254 = true := by kernel_rfl
set_option maxRecDepth 1000000 in
theorem bq_255 : bq 255 = true := by kernel_rfl
theorem bqs_7 : BytesT 224 32 := .cons bq_224 <| .cons bq_225 <| .cons bq_226 <| .cons bq_227 <| .cons bq_228 <| .cons bq_229 <| .cons bq_230 <| .cons bq_231 <| .cons bq_232 <| .cons bq_233 <| .cons bq_234 <| .cons bq_235 <| .cons bq_236 <| .cons bq_237 <| .cons bq_238 <| .cons bq_239 <| .cons bq_240 <| .cons bq_241 <| .cons bq_242 <| .cons bq_243 <| .cons bq_244 <| .cons bq_245 <| .cons bq_246 <| .cons bq_247 <| .cons bq_248 <| .cons bq_249 <| .cons bq_250 <| .cons bq_251 <| .cons bq_252 <| .cons bq_253 <| .cons bq_254 <| .cons bq_255 <| .none
end Go.Proofs.YtaiialpdlobioaaGreatDoor

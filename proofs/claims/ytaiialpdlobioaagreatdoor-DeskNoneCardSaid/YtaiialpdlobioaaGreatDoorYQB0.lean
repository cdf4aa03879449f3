/-
  What is proved: the law itself, at 32 of the bytes. Conditions: none.
-/
import Derived.Test.YtaiialpdlobioaaGreatDoorYQNa
noncomputable section
namespace Go.Proofs.YtaiialpdlobioaaGreatDoor

set_option maxRecDepth 1000000 in
theorem bq_0 : bq 0 = true := by kernel_rfl
set_option maxRecDepth 1000000 in
theorem bq_1 : bq 1 = true := by kernel_rfl
set_option maxRecDepth 1000000 in
theorem bq_2 : bq 2 = true := by kernel_rfl
set_option maxRecDepth 1000000 in
theorem bq_3 : bq 3 = true := by kernel_rfl
set_option maxRecDepth 1000000 in
theorem bq_4 : bq 4 = true := by kernel_rfl
set_option maxRecDepth 1000000 in
theorem bq_5 : bq 5 = true := by kernel_rfl
set_option maxRecDepth 1000000 in
theorem bq_6 : bq 6 = true := by kernel_rfl
set_option maxRecDepth 1000000 in
theorem bq_7 : bq 7 = true := by kernel_rfl
set_option maxRecDepth 1000000 in
theorem bq_8 : bq 8 = true := by kernel_rfl
set_option maxRecDepth 1000000 in
theorem bq_9 : bq 9 = true := by kernel_rfl
set_option maxRecDepth 1000000 in
theorem bq_10 : bq 10 = true := by kernel_rfl
set_option maxRecDepth 1000000 in
theorem bq_11 : bq 11 = true := by kernel_rfl
set_option maxRecDepth 1000000 in
theorem bq_12 : bq 12 = true := by kernel_rfl
set_option maxRecDepth 1000000 in
theorem bq_13 : bq 13 = true := by kernel_rfl
set_option maxRecDepth 1000000 in
theorem bq_14 : bq 14 = true := by kernel_rfl
set_option maxRecDepth 1000000 in
theorem bq_15 : bq 15 = true := by kernel_rfl
set_option maxRecDepth 1000000 in
theorem bq_16 : bq 16 = true := by kernel_rfl
set_option maxRecDepth 1000000 in
theorem bq_17 : bq 17 = true := by kernel_rfl
set_option maxRecDepth 1000000 in
theorem bq_18 : bq 18 = true := by kernel_rfl
set_option maxRecDepth 1000000 in
theorem bq_19 : bq 19 = true := by kernel_rfl
set_option maxRecDepth 1000000 in
theorem bq_20 : bq 20 = true := by kernel_rfl
set_option maxRecDepth 1000000 in
theorem bq_21 : bq 21 = true := by kernel_rfl
set_option maxRecDepth 1000000 in
theorem bq_22 : bq 22 = true := by kernel_rfl
set_option maxRecDepth 1000000 in
theorem bq_23 : bq 23 = true := by kernel_rfl
set_option maxRecDepth 1000000 in
theorem bq_24 : bq 24 = true := by kernel_rfl
set_option maxRecDepth 1000000 in
theorem bq_25 : bq 25 = true := by kernel_rfl
set_option maxRecDepth 1000000 in
theorem bq_26 : bq 26 = true := by kernel_rfl
set_option maxRecDepth 1000000 in
theorem bq_27 : bq 27 = true := by kernel_rfl
set_option maxRecDepth 1000000 in
theorem bq_28 : bq 28 = true := by kernel_rfl
set_option maxRecDepth 1000000 in
theorem bq_29 : bq 29 = true := by kernel_rfl
set_option maxRecDepth 1000000 in
theorem bq_30 : bq 30 = true := by kernel_rfl
set_option maxRecDepth 1000000 in
theorem bq_31 : bq 31 = true := by kernel_rfl
theorem bqs_0 : BytesT 0 32 := .cons bq_0 <| .cons bq_1 <| .cons bq_2 <| .cons bq_3 <| .cons bq_4 <| .cons bq_5 <| .cons bq_6 <| .cons bq_7 <| .cons bq_8 <| .cons bq_9 <| .cons bq_10 <| .cons bq_11 <| .cons bq_12 <| .cons bq_13 <| .cons bq_14 <| .cons bq_15 <| .cons bq_16 <| .cons bq_17 <| .cons bq_18 <| .cons bq_19 <| .cons bq_20 <| .cons bq_21 <| .cons bq_22 <| .cons bq_23 <| .cons bq_24 <| .cons bq_25 <| .cons bq_26 <| .cons bq_27 <| .cons bq_28 <| .cons bq_29 <| .cons bq_30 <| .cons bq_31 <| .none
end Go.Proofs.YtaiialpdlobioaaGreatDoor

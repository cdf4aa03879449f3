/-
  What is proved: the law itself, at 32 of the bytes. Conditions: none.
-/
import Derived.Test.YtaiialpdlobioaaGreatDoorYQNa
noncomputable section
namespace Go.Proofs.YtaiialpdlobioaaGreatDoor

set_option maxRecDepth 1000000 in
theorem bq_32 : bq 32 = true := by kernel_rfl
set_option maxRecDepth 1000000 in
theorem bq_33 : bq 33 = true := by kernel_rfl
set_option maxRecDepth 1000000 in
theorem bq_34 : bq 34 = true := by kernel_rfl
set_option maxRecDepth 1000000 in
theorem bq_35 : bq 35 = true := by kernel_rfl
set_option maxRecDepth 1000000 in
theorem bq_36 : bq 36 = true := by kernel_rfl
set_option maxRecDepth 1000000 in
theorem bq_37 : bq 37 = true := by kernel_rfl
set_option maxRecDepth 1000000 in
theorem bq_38 : bq 38 = true := by kernel_rfl
set_option maxRecDepth 1000000 in
theorem bq_39 : bq 39 = true := by kernel_rfl
set_option maxRecDepth 1000000 in
theorem bq_40 : bq 40 = true := by kernel_rfl
set_option maxRecDepth 1000000 in
theorem bq_41 : bq 41 = true := by kernel_rfl
set_option maxRecDepth 1000000 in
theorem bq_42 : bq 42 = true := by kernel_rfl
set_option maxRecDepth 1000000 in
theorem bq_43 : bq 43 = true := by kernel_rfl
set_option maxRecDepth 1000000 in
theorem bq_44 : bq 44 = true := by kernel_rfl
set_option maxRecDepth 1000000 in
theorem bq_45 : bq 45 = true := by kernel_rfl
set_option maxRecDepth 1000000 in
theorem bq_46 : bq 46 = true := by kernel_rfl
set_option maxRecDepth 1000000 in
theorem bq_47 : bq 47 = true := by kernel_rfl
set_option maxRecDepth 1000000 in
theorem bq_48 : bq 48 = true := by kernel_rfl
set_option maxRecDepth 1000000 in
theorem bq_49 : bq 49 = true := by kernel_rfl
set_option maxRecDepth 1000000 in
theorem bq_50 : bq 50 = true := by kernel_rfl
set_option maxRecDepth 1000000 in
theorem bq_51 : bq 51 = true := by kernel_rfl
set_option maxRecDepth 1000000 in
theorem bq_52 : bq 52 = true := by kernel_rfl
set_option maxRecDepth 1000000 in
theorem bq_53 : bq 53 = true := by kernel_rfl
set_option maxRecDepth 1000000 in
theorem bq_54 : bq 54 = true := by kernel_rfl
set_option maxRecDepth 1000000 in
theorem bq_55 : bq 55 = true := by kernel_rfl
set_option maxRecDepth 1000000 in
theorem bq_56 : bq 56 = true := by kernel_rfl
set_option maxRecDepth 1000000 in
theorem bq_57 : bq 57 = true := by kernel_rfl
set_option maxRecDepth 1000000 in
theorem bq_58 : bq 58 = true := by kernel_rfl
set_option maxRecDepth 1000000 in
theorem bq_59 : bq 59 = true := by kernel_rfl
set_option maxRecDepth 1000000 in
theorem bq_60 : bq 60 = true := by kernel_rfl
set_option maxRecDepth 1000000 in
theorem bq_61 : bq 61 = true := by kernel_rfl
set_option maxRecDepth 1000000 in
theorem bq_62 : bq 62 = true := by kernel_rfl
set_option maxRecDepth 1000000 in
theorem bq_63 : bq 63 = true := by kernel_rfl
theorem bqs_1 : BytesT 32 32 := .cons bq_32 <| .cons bq_33 <| .cons bq_34 <| .cons bq_35 <| .cons bq_36 <| .cons bq_37 <| .cons bq_38 <| .cons bq_39 <| .cons bq_40 <| .cons bq_41 <| .cons bq_42 <| .cons bq_43 <| .cons bq_44 <| .cons bq_45 <| .cons bq_46 <| .cons bq_47 <| .cons bq_48 <| .cons bq_49 <| .cons bq_50 <| .cons bq_51 <| .cons bq_52 <| .cons bq_53 <| .cons bq_54 <| .cons bq_55 <| .cons bq_56 <| .cons bq_57 <| .cons bq_58 <| .cons bq_59 <| .cons bq_60 <| .cons bq_61 <| .cons bq_62 <| .cons bq_63 <| .none
end Go.Proofs.YtaiialpdlobioaaGreatDoor

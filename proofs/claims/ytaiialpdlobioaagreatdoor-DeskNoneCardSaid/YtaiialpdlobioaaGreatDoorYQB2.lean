/-
  What is proved: the law itself, at 32 of the bytes. Conditions: none.
-/
import Derived.Test.YtaiialpdlobioaaGreatDoorYQNa
noncomputable section
namespace Go.Proofs.YtaiialpdlobioaaGreatDoor

set_option maxRecDepth 1000000 in
theorem bq_64 : bq 64 = true := by kernel_rfl
set_option maxRecDepth 1000000 in
theorem bq_65 : bq 65 = true := by kernel_rfl
set_option maxRecDepth 1000000 in
theorem bq_66 : bq 66 = true := by kernel_rfl
set_option maxRecDepth 1000000 in
theorem bq_67 : bq 67 = true := by kernel_rfl
set_option maxRecDepth 1000000 in
theorem bq_68 : bq 68 = true := by kernel_rfl
set_option maxRecDepth 1000000 in
theorem bq_69 : bq 69 = true := by kernel_rfl
set_option maxRecDepth 1000000 in
theorem bq_70 : bq 70 = true := by kernel_rfl
set_option maxRecDepth 1000000 in
theorem bq_71 : bq 71 = true := by kernel_rfl
set_option maxRecDepth 1000000 in
theorem bq_72 : bq 72 = true := by kernel_rfl
set_option maxRecDepth 1000000 in
theorem bq_73 : bq 73 = true := by kernel_rfl
set_option maxRecDepth 1000000 in
theorem bq_74 : bq 74 = true := by kernel_rfl
set_option maxRecDepth 1000000 in
theorem bq_75 : bq 75 = true := by kernel_rfl
set_option maxRecDepth 1000000 in
theorem bq_76 : bq 76 = true := by kernel_rfl
set_option maxRecDepth 1000000 in
theorem bq_77 : bq 77 = true := by kernel_rfl
set_option maxRecDepth 1000000 in
theorem bq_78 : bq 78 = true := by kernel_rfl
set_option maxRecDepth 1000000 in
theorem bq_79 : bq 79 = true := by kernel_rfl
set_option maxRecDepth 1000000 in
theorem bq_80 : bq 80 = true := by kernel_rfl
set_option maxRecDepth 1000000 in
theorem bq_81 : bq 81 = true := by kernel_rfl
set_option maxRecDepth 1000000 in
theorem bq_82 : bq 82 = true := by kernel_rfl
set_option maxRecDepth 1000000 in
theorem bq_83 : bq 83 = true := by kernel_rfl
set_option maxRecDepth 1000000 in
theorem bq_84 : bq 84 = true := by kernel_rfl
set_option maxRecDepth 1000000 in
theorem bq_85 : bq 85 = true := by kernel_rfl
set_option maxRecDepth 1000000 in
theorem bq_86 : bq 86 = true := by kernel_rfl
set_option maxRecDepth 1000000 in
theorem bq_87 : bq 87 = true := by kernel_rfl
set_option maxRecDepth 1000000 in
theorem bq_88 : bq 88 = true := by kernel_rfl
set_option maxRecDepth 1000000 in
theorem bq_89 : bq 89 = true := by kernel_rfl
set_option maxRecDepth 1000000 in
theorem bq_90 : bq 90 = true := by kernel_rfl
set_option maxRecDepth 1000000 in
theorem bq_91 : bq 91 = true := by kernel_rfl
set_option maxRecDepth 1000000 in
theorem bq_92 : bq 92 = true := by kernel_rfl
set_option maxRecDepth 1000000 in
theorem bq_93 : bq 93 = true := by kernel_rfl
set_option maxRecDepth 1000000 in
theorem bq_94 : bq 94 = true := by kernel_rfl
set_option maxRecDepth 1000000 in
theorem bq_95 : bq 95 = true := by kernel_rfl
theorem bqs_2 : BytesT 64 32 := .cons bq_64 <| .cons bq_65 <| .cons bq_66 <| .cons bq_67 <| .cons bq_68 <| .cons bq_69 <| .cons bq_70 <| .cons bq_71 <| .cons bq_72 <| .cons bq_73 <| .cons bq_74 <| .cons bq_75 <| .cons bq_76 <| .cons bq_77 <| .cons bq_78 <| .cons bq_79 <| .cons bq_80 <| .cons bq_81 <| .cons bq_82 <| .cons bq_83 <| .cons bq_84 <| .cons bq_85 <| .cons bq_86 <| .cons bq_87 <| .cons bq_88 <| .cons bq_89 <| .cons bq_90 <| .cons bq_91 <| .cons bq_92 <| .cons bq_93 <| .cons bq_94 <| .cons bq_95 <| .none
end Go.Proofs.YtaiialpdlobioaaGreatDoor

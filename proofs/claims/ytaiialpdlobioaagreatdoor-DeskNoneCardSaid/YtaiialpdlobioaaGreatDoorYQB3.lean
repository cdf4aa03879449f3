/-
  What is proved: the law itself, at 32 of the bytes. Conditions: none.
-/
import Derived.Test.YtaiialpdlobioaaGreatDoorYQNa
noncomputable section
namespace Go.Proofs.YtaiialpdlobioaaGreatDoor

set_option maxRecDepth 1000000 in
theorem bq_96 : bq 96 = true := by kernel_rfl
set_option maxRecDepth 1000000 in
theorem bq_97 : bq 97 = true := by kernel_rfl
set_option maxRecDepth 1000000 in
theorem bq_98 : bq 98 = true := by kernel_rfl
set_option maxRecDepth 1000000 in
theorem bq_99 : bq 99 = true := by kernel_rfl
set_option maxRecDepth 1000000 in
theorem bq_100 : bq 100 = true := by kernel_rfl
set_option maxRecDepth 1000000 in
theorem bq_101 : bq 101 = true := by kernel_rfl
set_option maxRecDepth 1000000 in
theorem bq_102 : bq 102 = true := by kernel_rfl
set_option maxRecDepth 1000000 in
theorem bq_103 : bq 103 = true := by kernel_rfl
set_option maxRecDepth 1000000 in
theorem bq_104 : bq 104 = true := by kernel_rfl
set_option maxRecDepth 1000000 in
theorem bq_105 : bq 105 = true := by kernel_rfl
set_option maxRecDepth 1000000 in
theorem bq_106 : bq 106 = true := by kernel_rfl
set_option maxRecDepth 1000000 in
theorem bq_107 : bq 107 = true := by kernel_rfl
set_option maxRecDepth 1000000 in
theorem bq_108 : bq 108 = true := by kernel_rfl
set_option maxRecDepth 1000000 in
theorem bq_109 : bq 109 = true := by kernel_rfl
set_option maxRecDepth 1000000 in
theorem bq_110 : bq 110 = true := by kernel_rfl
set_option maxRecDepth 1000000 in
theorem bq_111 : bq 111 = true := by kernel_rfl
set_option maxRecDepth 1000000 in
theorem bq_112 : bq 112 = true := by kernel_rfl
set_option maxRecDepth 1000000 in
theorem bq_113 : bq 113 = true := by kernel_rfl
set_option maxRecDepth 1000000 in
theorem bq_114 : bq 114 = true := by kernel_rfl
set_option maxRecDepth 1000000 in
theorem bq_115 : bq 115 = true := by kernel_rfl
set_option maxRecDepth 1000000 in
theorem bq_116 : bq 116 = true := by kernel_rfl
set_option maxRecDepth 1000000 in
theorem bq_117 : bq 117 = true := by kernel_rfl
set_option maxRecDepth 1000000 in
theorem bq_118 : bq 118 = true := by kernel_rfl
set_option maxRecDepth 1000000 in
theorem bq_119 : bq 119 = true := by kernel_rfl
set_option maxRecDepth 1000000 in
theorem bq_120 : bq 120 = true := by kernel_rfl
set_option maxRecDepth 1000000 in
theorem bq_121 : bq 121 = true := by kernel_rfl
set_option maxRecDepth 1000000 in
theorem bq_122 : bq 122 = true := by kernel_rfl
set_option maxRecDepth 1000000 in
theorem bq_123 : bq 123 = true := by kernel_rfl
set_option maxRecDepth 1000000 in
theorem bq_124 : bq 124 = true := by kernel_rfl
set_option maxRecDepth 1000000 in
theorem bq_125 : bq 125 = true := by kernel_rfl
set_option maxRecDepth 1000000 in
theorem bq_126 : bq 126 = true := by kernel_rfl
set_option maxRecDepth 1000000 in
theorem bq_127 : bq 127 = true := by kernel_rfl
theorem bqs_3 : BytesT 96 32 := .cons bq_96 <| .cons bq_97 <| .cons bq_98 <| .cons bq_99 <| .cons bq_100 <| .cons bq_101 <| .cons bq_102 <| .cons bq_103 <| .cons bq_104 <| .cons bq_105 <| .cons bq_106 <| .cons bq_107 <| .cons bq_108 <| .cons bq_109 <| .cons bq_110 <| .cons bq_111 <| .cons bq_112 <| .cons bq_113 <| .cons bq_114 <| .cons bq_115 <| .cons bq_116 <| .cons bq_117 <| .cons bq_118 <| .cons bq_119 <| .cons bq_120 <| .cons bq_121 <| .cons bq_122 <| .cons bq_123 <| .cons bq_124 <| .cons bq_125 <| .cons bq_126 <| .cons bq_127 <| .none
end Go.Proofs.YtaiialpdlobioaaGreatDoor

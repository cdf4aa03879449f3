/-
  What is proved: DeskNone: its row, and its card. Conditions: none.
-/
import Derived.Test.YtaiialpdlobioaaGreatDoorYQN0
import Derived.Test.YtaiialpdlobioaaGreatDoorZq2
import Derived.Test.YtaiialpdlobioaaGreatDoorCards
import Derived.Test.YtaiialpdlobioaaGreatDoorTie
import Derived.SevenTiedAt
import Derived.LaidLaws
import Derived.LaidMore
import Derived.Lib.LaidTab
import Derived.Stop.LaidErr
import Derived.OpenShut
import Derived.Lay
import Derived.Stop.Joined
import Derived.ChangeMaps5
namespace Go.Proofs.YtaiialpdlobioaaGreatDoor
open Go.Sy Go.RowKit Go.ChangeShapes Go.WideShapes

theorem all_le {l : List Nat} (h : l.all (· ≤ reachBytes) = true) : ∀ k ∈ l, k ≤ reachBytes := fun k hk => of_decide_eq_true (List.all_eq_true.1 h k hk)
/-- what the row lists -/
abbrev laidD : List (String × DataW Unit) := Rows.deskNoneRow.laid
theorem door_met (os : Os) (args : Array Value) : laidMetH Tryz.prog laidD ((World.laidAll Tryz.prog os laidD).forCall (fun _ _ => 0) ⟨#[], args, []⟩).memory := by
  rw [MakeChecks.laidMetH_plain _ _ _ (by kernel_rfl)]
  exact laidMet_laidAll _ (by kernel_rfl) (by kernel_rfl)
theorem cells_of_tabIs {W : World} {nm : String} {g : Nat} {k : IntKind} {zs : List Int} (hg : Tryz.prog.globalNamed nm = some g) (h : Lib.TabIs Tryz.prog W nm k zs) : ∃ t z, W.heap[g]? = some (.cells (zs.map (Value.int k)).toArray t z) := by
  have h4 : W.var? Tryz.prog nm = some (zs.map fun z => Value.int k z).toArray := h
  unfold World.var? at h4
  rw [hg] at h4
  simp only [Option.bind_some] at h4
  cases hx : W.heap[g]? with
  | none => rw [hx] at h4; cases h4
  | some o =>
    rw [hx] at h4
    cases o with
    | cells cs e fz =>
      obtain rfl := Option.some.inj h4
      exact ⟨e, fz, rfl⟩
    | _ => cases h4
theorem tabs_of {W : World} (h : laidMetH Tryz.prog laidD W) : TabsAt W := by
  rw [MakeChecks.laidMetH_plain _ _ _ (by kernel_rfl)] at h
  have g1 : Tryz.prog.globalNamed "archipelago/mail.kinds" = some 0 := by kernel_rfl
  have g2 : Tryz.prog.globalNamed "internal/strconv.uint64pow10" = some 2 := by kernel_rfl
  have h2 : Lib.TabIs Tryz.prog W "internal/strconv.uint64pow10" .u64 powZ := Lib.tabIs_of_head (t := 407) (e := 335) (n := 20) g2 (by kernel_rfl) (by kernel_rfl) (by kernel_rfl) (by kernel_rfl) (by kernel_rfl) (laidMet.tail (laidMet.tail h))
  have h1 : Lib.TabIs Tryz.prog W "archipelago/mail.kinds" .i64 kindsZ := Lib.tabIs_of_head (t := 342) (e := 3) (n := 11) g1 (by kernel_rfl) (by kernel_rfl) (by kernel_rfl) (by kernel_rfl) (by kernel_rfl) (laidMet.tail (laidMet.tail (laidMet.tail (laidMet.tail (laidMet.tail (laidMet.tail h))))))
  exact ⟨cells_of_tabIs g1 h1, cells_of_tabIs g2 h2⟩
theorem u8_of {n : Int} (h : (Lit.int .u8 n).wf = true) : 0 ≤ n ∧ n < 256 := by
  simp [Lit.wf, IntKind.min, IntKind.max, IntKind.signed, IntKind.bits] at h
  omega
set_option maxRecDepth 100000 in
theorem deskNone_lifted (os : Os) (started : os.Started) (H : Type) (enc : TypeId × Value → H) :
    ReturnsInHanded {} Tryz.checked os 5 .any (fun w args => (Rows.deskNoneSpec.pre enc Tryz.prog Tryz.f5 Rows.deskNoneRow.domain Rows.deskNoneRow.apart w args ∧ laidMetH Tryz.prog Rows.deskNoneRow.laid w) ∧ sizedMet enc Tryz.prog Tryz.f5 (OpenSpec.ofChange Rows.deskNoneSpec) Rows.deskNoneRow.apart w args) (Rows.deskNoneSpec.post enc Tryz.prog Tryz.f5 Rows.deskNoneRow.apart Rows.deskNoneRow.fresh Rows.deskNoneRow.handsOn Rows.deskNoneRow.again) := by
  refine returnsInHanded_of_change_and (C := Tryz.checked) (X := fun w _ => laidMetH Tryz.prog Rows.deskNoneRow.laid w) (fun _ _ _ hh h => h.of_heap hh) Tryz.own started (by kernel_rfl) Tryz.func5
    (ChangeSpec.witness_shaped (enc := enc) (C := Tryz.checked) (os := os) (X := fun w _ => laidMetH Tryz.prog Rows.deskNoneRow.laid w) false (World.laidAll Tryz.prog os laidD) #[.string ⟨#[]⟩, .int .u8 0] 8 (World.laidAll_os _ _ _) (World.shaped_of_ZipB (by kernel_rfl) (by kernel_rfl)) (by kernel_rfl) (by kernel_rfl) (by kernel_rfl) (door_met os _)) ?_
  intro W base args ds gs before hval0 hW hcnd hwt hL _
  have hval : ∀ (j : Nat) t v, Tryz.f5.params[j]? = some t → args[j]? = some v → Value.okWide Tryz.prog W .any base t v := hval0
  obtain ⟨p, q, hA0, hV, _, _, _⟩ := id hW
  have hA : DataW.TrodAll enc Tryz.prog W 0 (fun _ => true) true Tryz.f5.params.toList args.toList ds p := hA0
  clear hval0 hA0
  obtain ⟨rfl, _⟩ := trodVars_none hV
  have hwt2 := all_le hwt
  have hkin := tabs_of hL
  have hpar : Tryz.f5.params = #[9, 5] := by kernel_rfl
  rw [hpar] at hA hval
  obtain ⟨v0, v1, d0, d1, p0, p1, rfl, rfl, _, ⟨fuel0, hf0⟩, ⟨fuel1, hf1⟩⟩ := trodAll_two hA
  obtain ⟨s0, rfl, _, _, w0⟩ := Go.ChangeMaps.open_string (P := Tryz.prog) (t := 9) (by kernel_rfl) (hval 0 _ _ rfl rfl) ⟨fuel0, hf0⟩
  obtain ⟨m1, rfl, _, _, w1⟩ := open_int (P := Tryz.prog) (t := 5) (k := .u8) (by kernel_rfl) (hval 1 _ _ rfl rfl) ⟨fuel1, hf1⟩
  refine (deskNone s0 m1 (u8_of w1).1 (u8_of w1).2 hkin).mono fun e W' ⟨he, hext⟩ => ?_
  exact ⟨.bool true, he, post_true Tryz.laidOut (by kernel_rfl) rfl (rt := 4) (by kernel_rfl) (by kernel_rfl) hW hext rfl rfl rfl⟩
end Go.Proofs.YtaiialpdlobioaaGreatDoor

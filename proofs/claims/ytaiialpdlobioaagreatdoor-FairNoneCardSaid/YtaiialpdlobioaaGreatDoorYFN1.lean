/-
  What is proved: FairNone: its row, and its card. Conditions: none.
-/
import Derived.Test.YtaiialpdlobioaaGreatDoorYFN0
import Derived.Test.YtaiialpdlobioaaGreatDoorZf2
import Derived.Test.YtaiialpdlobioaaGreatDoorCards
import Derived.Test.YtaiialpdlobioaaGreatDoorTie
import Derived.SevenTiedAt
import Derived.LaidLaws
import Derived.LaidMore
import Derived.Lib.LaidTab
import Derived.Stop.LaidErr
import Derived.OpenShut
import Derived.ChangeMaps5
namespace Go.Proofs.YtaiialpdlobioaaGreatDoor
open Go.Sy Go.RowKit Go.ChangeShapes Go.WideShapes

theorem all_leF {l : List Nat} (h : l.all (· ≤ reachBytes) = true) : ∀ k ∈ l, k ≤ reachBytes := fun k hk => of_decide_eq_true (List.all_eq_true.1 h k hk)
/-- what the rows list -/
abbrev laidF : List (String × DataW Unit) := Rows.fairNoneRow.laid
theorem door_metF (os : Os) (args : Array Value) : laidMetH Tryz.prog laidF ((World.doorLaid Tryz.prog 400 os).forCall (fun _ _ => 0) ⟨#[], args, []⟩).memory := by
  rw [MakeChecks.laidMetH_plain _ _ _ (by kernel_rfl)]
  exact laidMet_of_run' 8 (by kernel_rfl) (by kernel_rfl)
theorem kinds_ofF {W : World} (h : laidMetH Tryz.prog laidF W) : ∃ t z, W.heap[(0 : Nat)]? = some (.cells kindsL.toArray t z) := by
  rw [MakeChecks.laidMetH_plain _ _ _ (by kernel_rfl)] at h
  obtain ⟨g, hg, hgt, hg0⟩ : ∃ g, Tryz.prog.globalNamed "archipelago/mail.kinds" = some g ∧ (Tryz.prog.globals[g]?).map (·.type) = some 342 ∧ g = 0 := ⟨0, by kernel_rfl, by kernel_rfl, rfl⟩
  have h3 : Lib.TabIs Tryz.prog W "archipelago/mail.kinds" .i64 [0, 35, 119, 3, 123, 51, 19, 128, 257, 3, 3] := Lib.tabIs_of_head (g := g) (t := 342) (e := 3) (n := 11) hg hgt (by kernel_rfl) (by kernel_rfl) (by kernel_rfl) (by kernel_rfl) (laidMet.tail (laidMet.tail (laidMet.tail h)))
  have h4 : W.var? Tryz.prog "archipelago/mail.kinds" = some (([0, 35, 119, 3, 123, 51, 19, 128, 257, 3, 3] : List Int).map fun z => Value.int .i64 z).toArray := h3
  unfold World.var? at h4
  rw [hg] at h4
  simp only [Option.bind_some] at h4
  subst hg0
  cases hx : W.heap[0]? with
  | none => rw [hx] at h4; cases h4
  | some o =>
    rw [hx] at h4
    cases o with
    | cells cs e fz =>
      obtain rfl := Option.some.inj h4
      exact ⟨e, fz, rfl⟩
    | _ => cases h4
theorem u8_of {n : Int} (h : (Lit.int .u8 n).wf = true) : 0 ≤ n ∧ n < 256 := by
  simp [Lit.wf, IntKind.min, IntKind.max, IntKind.signed, IntKind.bits] at h
  omega
set_option maxRecDepth 100000 in
theorem fairNone_lifted (os : Os) (started : os.Started) (H : Type) (enc : TypeId × Value → H) :
    ReturnsInHanded {} Tryz.checked os 4 .any (fun w args => (Rows.fairNoneSpec.pre enc Tryz.prog Tryz.f4 Rows.fairNoneRow.domain Rows.fairNoneRow.apart w args ∧ laidMetH Tryz.prog Rows.fairNoneRow.laid w) ∧ sizedMet enc Tryz.prog Tryz.f4 (OpenSpec.ofChange Rows.fairNoneSpec) Rows.fairNoneRow.apart w args) (Rows.fairNoneSpec.post enc Tryz.prog Tryz.f4 Rows.fairNoneRow.apart Rows.fairNoneRow.fresh Rows.fairNoneRow.handsOn Rows.fairNoneRow.again) := by
  refine returnsInHanded_of_change_and (C := Tryz.checked) (X := fun w _ => laidMetH Tryz.prog Rows.fairNoneRow.laid w) (fun _ _ _ hh h => h.of_heap hh) Tryz.own started (by kernel_rfl) Tryz.func4
    (ChangeSpec.witness_shaped (enc := enc) (C := Tryz.checked) (os := os) (X := fun w _ => laidMetH Tryz.prog Rows.fairNoneRow.laid w) false (World.doorLaid Tryz.prog 400 os) #[.int .u8 0, .int .i64 0, .int .i64 0] 8 rfl (World.shaped_of_RefB (by kernel_rfl) (by kernel_rfl)) (by kernel_rfl) (by kernel_rfl) (by kernel_rfl) (door_metF os _)) ?_
  intro W base args ds gs before hval0 hW hcnd hwt hL _
  have hval : ∀ (j : Nat) t v, Tryz.f4.params[j]? = some t → args[j]? = some v → Value.okWide Tryz.prog W .any base t v := hval0
  obtain ⟨p, q, hA0, hV, _, _, _⟩ := id hW
  have hA : DataW.TrodAll enc Tryz.prog W 0 (fun _ => true) true Tryz.f4.params.toList args.toList ds p := hA0
  clear hval0 hA0
  obtain ⟨rfl, _⟩ := trodVars_none hV
  have hwt2 := all_leF hwt
  have hkin := kinds_ofF hL
  have hpar : Tryz.f4.params = #[5, 3, 3] := by kernel_rfl
  rw [hpar] at hA hval
  obtain ⟨v0, v1, v2, d0, d1, d2, p0, p1, p2, rfl, rfl, _, ⟨fuel0, hf0⟩, ⟨fuel1, hf1⟩, ⟨fuel2, hf2⟩⟩ := trodAll_three hA
  obtain ⟨m0, rfl, _, _, w0⟩ := open_int (P := Tryz.prog) (t := 5) (k := .u8) (by kernel_rfl) (hval 0 _ _ rfl rfl) ⟨fuel0, hf0⟩
  obtain ⟨m1, rfl, _, _, w1⟩ := open_int (P := Tryz.prog) (t := 3) (k := .i64) (by kernel_rfl) (hval 1 _ _ rfl rfl) ⟨fuel1, hf1⟩
  obtain ⟨m2, rfl, _, _, w2⟩ := open_int (P := Tryz.prog) (t := 3) (k := .i64) (by kernel_rfl) (hval 2 _ _ rfl rfl) ⟨fuel2, hf2⟩
  refine (fairNone m0 m1 m2 (u8_of w0).1 (u8_of w0).2 hkin).mono fun e W' ⟨he, hext⟩ => ?_
  exact ⟨.bool true, he, post_true Tryz.laidOut (by kernel_rfl) rfl (rt := 4) (by kernel_rfl) (by kernel_rfl) hW hext rfl rfl rfl⟩
end Go.Proofs.YtaiialpdlobioaaGreatDoor

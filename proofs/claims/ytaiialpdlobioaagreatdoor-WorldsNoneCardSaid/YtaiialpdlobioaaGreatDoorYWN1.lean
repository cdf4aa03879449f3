/-
  What is proved: WorldsNone: its row, and its card. Conditions: none.
-/
import Derived.Test.YtaiialpdlobioaaGreatDoorYWN0
import Derived.Test.YtaiialpdlobioaaGreatDoorZw3
import Derived.Test.YtaiialpdlobioaaGreatDoorCards
import Derived.Test.YtaiialpdlobioaaGreatDoorTie
import Derived.SevenTiedAt
import Derived.LaidLaws
import Derived.LaidMore
import Derived.Lib.LaidTab
import Derived.Stop.LaidErr
import Derived.OpenShut
import Derived.ChangeMaps5
namespace Go.Proofs.YtaiialpdlobioaaGreatDoor
open Go.Sy Go.RowKit Go.ChangeShapes Go.WideShapes

def encN (x : Int) : List Value := [.int .i64 x]
theorem encN_len (x : Int) : (encN x).length = 1 := rfl
theorem int_dec {w : World} {F : Nat} {vs : List Value} (hl : vs.length = 1) (h : Sees Tryz.tab w (F + 1) 3 vs) : ∃ x : Int, vs = encN x ∧ True := by
  obtain ⟨n0, e0, _⟩ := leaf_int (F := F) (d := 0) (k := .i64) (u := 3) rfl rfl h 0 (by decide)
  exact ⟨n0, eq_of_at hl (And.intro e0 trivial), trivial⟩
theorem step_dec {w : World} {F : Nat} {vs : List Value} (hl : vs.length = 10) (h : Sees Tryz.tab w (F + 1 + 1 + 2) 26 vs) : ∃ x : StepS, vs = encStep x ∧ (True) := by
  obtain ⟨n0, e0, w0⟩ := leaf_int (F := F + 1) (d := 2) (k := .i64) (u := 3) rfl rfl h 0 (by decide)
  obtain ⟨n1, e1, w1⟩ := leaf_int (F := F + 1) (d := 2) (k := .i64) (u := 3) rfl rfl h 1 (by decide)
  obtain ⟨n2, e2, w2⟩ := leaf_int (F := F + 1) (d := 2) (k := .i64) (u := 3) rfl rfl h 2 (by decide)
  obtain ⟨n3, e3, w3⟩ := leaf_int (F := F + 1) (d := 2) (k := .i64) (u := 3) rfl rfl h 3 (by decide)
  obtain ⟨n4, e4, w4⟩ := leaf_int (F := F + 1) (d := 2) (k := .i64) (u := 3) rfl rfl h 4 (by decide)
  obtain ⟨n5, e5, w5⟩ := leaf_int (F := F + 1) (d := 2) (k := .i64) (u := 3) rfl rfl h 5 (by decide)
  obtain ⟨n6, e6, w6⟩ := leaf_int (F := F + 1) (d := 2) (k := .i64) (u := 3) rfl rfl h 6 (by decide)
  obtain ⟨n7, e7, w7⟩ := leaf_int (F := F + 1) (d := 2) (k := .i64) (u := 3) rfl rfl h 7 (by decide)
  obtain ⟨n8, e8, w8⟩ := leaf_int (F := F + 1) (d := 2) (k := .i64) (u := 3) rfl rfl h 8 (by decide)
  obtain ⟨A9, n9, c9, l9, e9, hn9, hc9, hm9, hr9, hg9⟩ := leaf_slice (F := F + 1) (d := 2) (u := 24) (el := 3) (enc := encN) (G := fun _ => True) rfl rfl (by decide) encN_len (fun _ => rfl) (fun vs hl h => int_dec hl h) rfl h 9 (by decide)
  subst hn9
  exact ⟨⟨n0, n1, n2, n3, n4, n5, n6, n7, n8, A9, l9.length, c9⟩, eq_of_at hl (And.intro e0 (And.intro e1 (And.intro e2 (And.intro e3 (And.intro e4 (And.intro e5 (And.intro e6 (And.intro e7 (And.intro e8 (And.intro e9 trivial)))))))))), trivial⟩
theorem bytes_ok : bytesOk Tryz.prog Tryz.tbs.tab = true := by kernel_rfl
theorem all_le {l : List Nat} (h : l.all (· ≤ reachBytes) = true) : ∀ k ∈ l, k ≤ reachBytes := fun k hk => of_decide_eq_true (List.all_eq_true.1 h k hk)
/-- what the rows list -/
abbrev laidL : List (String × DataW Unit) := Rows.worldsNoneRow.laid
theorem door_met (os : Os) (args : Array Value) : laidMetH Tryz.prog laidL ((World.doorLaid Tryz.prog 400 os).forCall (fun _ _ => 0) ⟨#[], args, []⟩).memory := by
  rw [MakeChecks.laidMetH_plain _ _ _ (by kernel_rfl)]
  exact laidMet_of_run' 8 (by kernel_rfl) (by kernel_rfl)
theorem kinds_of {W : World} (h : laidMetH Tryz.prog laidL W) : ∃ t z, W.heap[(0 : Nat)]? = some (.cells kindsL.toArray t z) := by
  rw [MakeChecks.laidMetH_plain _ _ _ (by kernel_rfl)] at h
  obtain ⟨g, hg, hgt, hg0⟩ : ∃ g, Tryz.prog.globalNamed "archipelago/mail.kinds" = some g ∧ (Tryz.prog.globals[g]?).map (·.type) = some 342 ∧ g = 0 := ⟨0, by kernel_rfl, by kernel_rfl, rfl⟩
  have h3 : Lib.TabIs Tryz.prog W "archipelago/mail.kinds" .i64 [0, 35, 119, 3, 123, 51, 19, 128, 257, 3, 3] := Lib.tabIs_of_head (g := g) (t := 342) (e := 3) (n := 11) hg hgt (by kernel_rfl) (by kernel_rfl) (by kernel_rfl) (by kernel_rfl) (laidMet.tail (laidMet.tail (laidMet.tail h)))
  have h4 : W.var? Tryz.prog "archipelago/mail.kinds" = some (([0, 35, 119, 3, 123, 51, 19, 128, 257, 3, 3] : List Int).map fun z => Value.int .i64 z).toArray := h3
  unfold World.var? at h4
  rw [hg] at h4
  simp only [Option.bind_some] at h4
  subst hg0
  cases hx : W.heap[0]? with
  | none => rw [hx] at h4; cases h4
  | some o =>
    rw [hx] at h4
    cases o with
    | cells cs e fz =>
      obtain rfl := Option.some.inj h4
      exact ⟨e, fz, rfl⟩
    | _ => cases h4
set_option maxRecDepth 100000 in
theorem worldsNone_lifted (os : Os) (started : os.Started) (H : Type) (enc : TypeId × Value → H) :
    ReturnsInHanded {} Tryz.checked os 3 .any (fun w args => (Rows.worldsNoneSpec.pre enc Tryz.prog Tryz.f3 Rows.worldsNoneRow.domain Rows.worldsNoneRow.apart w args ∧ laidMetH Tryz.prog Rows.worldsNoneRow.laid w) ∧ sizedMet enc Tryz.prog Tryz.f3 (OpenSpec.ofChange Rows.worldsNoneSpec) Rows.worldsNoneRow.apart w args) (Rows.worldsNoneSpec.post enc Tryz.prog Tryz.f3 Rows.worldsNoneRow.apart Rows.worldsNoneRow.fresh Rows.worldsNoneRow.handsOn Rows.worldsNoneRow.again) := by
  refine returnsInHanded_of_change_and (C := Tryz.checked) (X := fun w _ => laidMetH Tryz.prog Rows.worldsNoneRow.laid w) (fun _ _ _ hh h => h.of_heap hh) Tryz.own started (by kernel_rfl) Tryz.func3
    (ChangeSpec.witness_shaped (enc := enc) (C := Tryz.checked) (os := os) (X := fun w _ => laidMetH Tryz.prog Rows.worldsNoneRow.laid w) false (World.doorLaid Tryz.prog 400 os) #[.agg #[.int .i64 0, .int .i64 0, .int .i64 0, .int .i64 0, .int .i64 0, .int .i64 0, .int .i64 0, .int .i64 0, .int .i64 0, .slice none 0 0], .int .i64 0] 8 rfl (World.shaped_of_RefB (by kernel_rfl) (by kernel_rfl)) (by kernel_rfl) (by kernel_rfl) (by kernel_rfl) (door_met os _)) ?_
  intro W base args ds gs before hval0 hW hcnd hwt hL _
  have hval : ∀ (j : Nat) t v, Tryz.f3.params[j]? = some t → args[j]? = some v → Value.okWide Tryz.prog W .any base t v := hval0
  obtain ⟨p, q, hA0, hV, _, _, _⟩ := id hW
  have hA : DataW.TrodAll enc Tryz.prog W 0 (fun _ => true) true Tryz.f3.params.toList args.toList ds p := hA0
  clear hval0 hA0
  obtain ⟨rfl, _⟩ := trodVars_none hV
  have hwt2 := all_le hwt
  have hkin := kinds_of hL
  have hpar : Tryz.f3.params = #[26, 3] := by kernel_rfl
  rw [hpar] at hA hval
  obtain ⟨v0, v1, d0, d1, p0, p1, rfl, rfl, _, ⟨fuel0, hf0⟩, ⟨fuel1, hf1⟩⟩ := trodAll_two hA
  obtain ⟨cs, rfl, hsz⟩ := okWide_struct (P := Tryz.prog) (t := 26) (fs := Tryz.prog.fieldsOf 26) (by kernel_rfl) (hval 0 _ _ rfl rfl)
  have hl : cs.toList.length = 10 := by rw [Array.length_toList, hsz]; kernel_rfl
  obtain ⟨x, hx, _⟩ := step_dec (F := 0) (w := W) hl (sees_of_trod Tryz.tbs_ok.tab bytes_ok 4 fuel0 _ _ _ hf0 (fun k hk => hwt2 k (weightsEach_get _ _ _ 0 _ _ rfl rfl k hk)))
  obtain rfl : cs = (encStep x).toArray := by rw [← hx]
  obtain ⟨m1, rfl, _, _, w1⟩ := open_int (P := Tryz.prog) (t := 3) (k := .i64) (by kernel_rfl) (hval 1 _ _ rfl rfl) ⟨fuel1, hf1⟩
  refine (worldsNone x m1 hkin).mono fun e W' ⟨he, hext⟩ => ?_
  exact ⟨.bool true, he, post_true Tryz.laidOut (by kernel_rfl) rfl (rt := 4) (by kernel_rfl) (by kernel_rfl) hW hext rfl rfl rfl⟩
end Go.Proofs.YtaiialpdlobioaaGreatDoor

/-
  What is proved: DeskReads: its row, and its card. Conditions: none.
-/
import Derived.Test.YtaiialpdlobioaaGreatDoorYRdO
import Derived.Test.YtaiialpdlobioaaGreatDoorZr5
import Derived.Test.YtaiialpdlobioaaGreatDoorCards
import Derived.Test.YtaiialpdlobioaaGreatDoorTie
import Derived.SevenTiedAt
import Derived.LaidLaws
import Derived.LaidMore
import Derived.Lib.LaidTab
import Derived.Stop.LaidErr
import Derived.OpenShut
import Derived.Lay
import Derived.Stop.Joined
import Derived.ChangeMaps5
namespace Go.Proofs.YtaiialpdlobioaaGreatDoor
open Go.Sy Go.RowKit Go.ChangeShapes Go.WideShapes

theorem all_le {l : List Nat} (h : l.all (· ≤ reachBytes) = true) : ∀ k ∈ l, k ≤ reachBytes := fun k hk => of_decide_eq_true (List.all_eq_true.1 h k hk)
/-- what the row lists -/
abbrev laidD : List (String × DataW Unit) := Rows.deskReadsRow.laid
theorem door_met (os : Os) (args : Array Value) : laidMetH Tryz.prog laidD ((World.laidAll Tryz.prog os laidD).forCall (fun _ _ => 0) ⟨#[], args, []⟩).memory := by
  rw [MakeChecks.laidMetH_plain _ _ _ (by kernel_rfl)]
  exact laidMet_laidAll _ (by kernel_rfl) (by kernel_rfl)
theorem cells_of_tabIs {W : World} {nm : String} {g : Nat} {k : IntKind} {zs : List Int} (hg : Tryz.prog.globalNamed nm = some g) (h : Lib.TabIs Tryz.prog W nm k zs) : ∃ t z, W.heap[g]? = some (.cells (zs.map (Value.int k)).toArray t z) := by
  have h4 : W.var? Tryz.prog nm = some (zs.map fun z => Value.int k z).toArray := h
  unfold World.var? at h4
  rw [hg] at h4
  simp only [Option.bind_some] at h4
  cases hx : W.heap[g]? with
  | none => rw [hx] at h4; cases h4
  | some o =>
    rw [hx] at h4
    cases o with
    | cells cs e fz =>
      obtain rfl := Option.some.inj h4
      exact ⟨e, fz, rfl⟩
    | _ => cases h4
theorem tabs_of {W : World} (h : laidMetH Tryz.prog laidD W) : TabsAt W := by
  rw [MakeChecks.laidMetH_plain _ _ _ (by kernel_rfl)] at h
  have g1 : Tryz.prog.globalNamed "archipelago/mail.kinds" = some 0 := by kernel_rfl
  have g2 : Tryz.prog.globalNamed "internal/strconv.uint64pow10" = some 2 := by kernel_rfl
  have h2 : Lib.TabIs Tryz.prog W "internal/strconv.uint64pow10" .u64 powZ := Lib.tabIs_of_head (t := 407) (e := 335) (n := 20) g2 (by kernel_rfl) (by kernel_rfl) (by kernel_rfl) (by kernel_rfl) (by kernel_rfl) (laidMet.tail (laidMet.tail h))
  have h1 : Lib.TabIs Tryz.prog W "archipelago/mail.kinds" .i64 kindsZ := Lib.tabIs_of_head (t := 342) (e := 3) (n := 11) g1 (by kernel_rfl) (by kernel_rfl) (by kernel_rfl) (by kernel_rfl) (by kernel_rfl) (laidMet.tail (laidMet.tail (laidMet.tail (laidMet.tail (laidMet.tail (laidMet.tail h))))))
  exact ⟨cells_of_tabIs g1 h1, cells_of_tabIs g2 h2⟩
theorem u8_of {n : Int} (h : (Lit.int .u8 n).wf = true) : 0 ≤ n ∧ n < 256 := by
  simp [Lit.wf, IntKind.min, IntKind.max, IntKind.signed, IntKind.bits] at h
  omega
theorem ok_i64 {z : Int} (h : (Lit.int .i64 z).wf = true) : i64 z := by
  simp [Lit.wf, IntKind.min, IntKind.max, IntKind.signed, IntKind.bits] at h
  exact ⟨by omega, by omega⟩
theorem err_star : "*" ++ "errors.errorString" = "*errors.errorString" := by decide
theorem err_row (u : TypeId) (h : Tryz.prog.typeName? 3 u = some "*errors.errorString") : u = 483 :=
  typeName_ptr_named (nm := "errors.errorString") (by rw [err_star]; kernel_rfl) (by kernel_rfl) (by decide) u (by rw [err_star]; exact h)
theorem cell_le {W w : World} (hw : (hp W).le (hp w)) {g : Nat} {v : Value} (h : W.cell? ⟨g, 0, none⟩ = some v) : w.cell? ⟨g, 0, none⟩ = some v := by
  unfold World.cell? at h ⊢
  cases hx : W.heap[g]? with
  | none => simp [hx] at h
  | some o =>
    have h5 : w.heap[g]? = some o := hw g o hx
    simp only [hx] at h
    simp only [h5]
    exact h
theorem var_le {W w : World} (hw : (hp W).le (hp w)) {nm : String} {cs : Array Value} (h : W.var? Tryz.prog nm = some cs) : w.var? Tryz.prog nm = some cs := by
  unfold World.var? at h ⊢
  cases hg : Tryz.prog.globalNamed nm with
  | none => rw [hg] at h; cases h
  | some g =>
    rw [hg] at h
    simp only [Option.bind_some] at h ⊢
    cases hx : W.heap[g]? with
    | none => rw [hx] at h; cases h
    | some o =>
      rw [hx] at h
      have h5 : w.heap[g]? = some o := hw g o hx
      rw [h5]
      exact h
theorem env_of {W : World} (hH : laidMetH Tryz.prog laidD W) : EnvA.holds (hp W) := by
  have htab := tabs_of hH
  rw [MakeChecks.laidMetH_plain _ _ _ (by kernel_rfl)] at hH
  have g2 : Tryz.prog.globalNamed "internal/strconv.uint64pow10" = some 2 := by kernel_rfl
  have h2 : Lib.TabIs Tryz.prog W "internal/strconv.uint64pow10" .u64 Lib.pow10Tab := Lib.tabIs_of_head (t := 407) (e := 335) (n := 20) g2 (by kernel_rfl) (by kernel_rfl) (by kernel_rfl) (by kernel_rfl) (by kernel_rfl) (laidMet.tail (laidMet.tail hH))
  have g4 : Tryz.prog.globalNamed "strconv.ErrRange" = some 6 := by kernel_rfl
  have g5 : Tryz.prog.globalNamed "strconv.ErrSyntax" = some 5 := by kernel_rfl
  obtain ⟨a4, s4, hv4, _⟩ := laid_sentinel (laidMet.tail (laidMet.tail (laidMet.tail (laidMet.tail hH)))) g4 (by kernel_rfl) Tryz.underlying163 err_row Tryz.underlying483 Tryz.underlying485 rfl rfl Tryz.underlying9 (by kernel_rfl) (by kernel_rfl)
  obtain ⟨a5, s5, hv5, _⟩ := laid_sentinel (laidMet.tail (laidMet.tail (laidMet.tail (laidMet.tail (laidMet.tail hH))))) g5 (by kernel_rfl) Tryz.underlying163 err_row Tryz.underlying483 Tryz.underlying485 rfl rfl Tryz.underlying9 (by kernel_rfl) (by kernel_rfl)
  have c4 : W.cell? ⟨6, 0, none⟩ = some (.iface 483 (.pointer (some a4))) := by simpa using World.var?_cell g4 hv4 0
  have c5 : W.cell? ⟨5, 0, none⟩ = some (.iface 483 (.pointer (some a5))) := by simpa using World.var?_cell g5 hv5 0
  intro w hw
  refine ⟨?_, ?_, ⟨_, _, cell_le hw c5⟩, ⟨_, _, cell_le hw c4⟩⟩
  · exact var_le hw h2
  · obtain ⟨⟨t1, z1, q1⟩, t2, z2, q2⟩ := htab
    exact ⟨⟨t1, z1, hw _ _ q1⟩, t2, z2, hw _ _ q2⟩
theorem encN_len (x : Int) : (encN x).length = 1 := rfl
theorem int_dec {w : World} {F : Nat} {vs : List Value} (hl : vs.length = 1) (h : Sees Tryz.tab w (F + 1) 3 vs) : ∃ x : Int, vs = encN x ∧ i64 x := by
  obtain ⟨n0, e0, w0⟩ := leaf_int (F := F) (d := 0) (k := .i64) (u := 3) rfl rfl h 0 (by decide)
  exact ⟨n0, eq_of_at hl (And.intro e0 trivial), ok_i64 w0⟩
def encStp (p : Stp × Option Addr × Nat) : List Value := stpC p.1 p.2.1 p.2.2
theorem bytes_ok : bytesOk Tryz.prog Tryz.tbs.tab = true := by kernel_rfl
theorem step_dec {w : World} {F : Nat} {vs : List Value} (hl : vs.length = 10) (h : Sees Tryz.tab w (F + 1 + 1 + 2) 26 vs) : ∃ x : Stp × Option Addr × Nat, vs = encStp x ∧ (StpOk x.1 ∧ (Rd 1 x.2.1 x.1.keep.length (x.1.keep.flatMap encN)).holds (hp w)) := by
  obtain ⟨n0, e0, w0⟩ := leaf_int (F := F + 1) (d := 2) (k := .i64) (u := 3) rfl rfl h 0 (by decide)
  obtain ⟨n1, e1, w1⟩ := leaf_int (F := F + 1) (d := 2) (k := .i64) (u := 3) rfl rfl h 1 (by decide)
  obtain ⟨n2, e2, w2⟩ := leaf_int (F := F + 1) (d := 2) (k := .i64) (u := 3) rfl rfl h 2 (by decide)
  obtain ⟨n3, e3, w3⟩ := leaf_int (F := F + 1) (d := 2) (k := .i64) (u := 3) rfl rfl h 3 (by decide)
  obtain ⟨n4, e4, w4⟩ := leaf_int (F := F + 1) (d := 2) (k := .i64) (u := 3) rfl rfl h 4 (by decide)
  obtain ⟨n5, e5, w5⟩ := leaf_int (F := F + 1) (d := 2) (k := .i64) (u := 3) rfl rfl h 5 (by decide)
  obtain ⟨n6, e6, w6⟩ := leaf_int (F := F + 1) (d := 2) (k := .i64) (u := 3) rfl rfl h 6 (by decide)
  obtain ⟨n7, e7, w7⟩ := leaf_int (F := F + 1) (d := 2) (k := .i64) (u := 3) rfl rfl h 7 (by decide)
  obtain ⟨n8, e8, w8⟩ := leaf_int (F := F + 1) (d := 2) (k := .i64) (u := 3) rfl rfl h 8 (by decide)
  obtain ⟨A9, n9, c9, l9, e9, hn9, hc9, hm9, hr9, hg9⟩ := leaf_slice (F := F + 1) (d := 2) (u := 24) (el := 3) (enc := encN) (G := fun z => i64 z) rfl rfl (by decide) encN_len (fun _ => rfl) (fun vs hl h => int_dec hl h) rfl h 9 (by decide)
  subst hn9
  exact ⟨(⟨n0, n1, n2, n3, n4, n5, n6, n7, n8, l9⟩, A9, c9), eq_of_at hl (And.intro e0 (And.intro e1 (And.intro e2 (And.intro e3 (And.intro e4 (And.intro e5 (And.intro e6 (And.intro e7 (And.intro e8 (And.intro e9 trivial)))))))))), ⟨⟨⟨ok_i64 w0, ok_i64 w1, ok_i64 w2, ok_i64 w3, ok_i64 w4, ok_i64 w5, ok_i64 w6, ok_i64 w7, ok_i64 w8⟩, hg9⟩, hr9⟩⟩
set_option maxRecDepth 100000 in
theorem deskReads_lifted (os : Os) (started : os.Started) (H : Type) (enc : TypeId × Value → H) :
    ReturnsInHanded {} Tryz.checked os 6 .any (fun w args => (Rows.deskReadsSpec.pre enc Tryz.prog Tryz.f6 Rows.deskReadsRow.domain Rows.deskReadsRow.apart w args ∧ laidMetH Tryz.prog Rows.deskReadsRow.laid w) ∧ sizedMet enc Tryz.prog Tryz.f6 (OpenSpec.ofChange Rows.deskReadsSpec) Rows.deskReadsRow.apart w args) (Rows.deskReadsSpec.post enc Tryz.prog Tryz.f6 Rows.deskReadsRow.apart Rows.deskReadsRow.fresh Rows.deskReadsRow.handsOn Rows.deskReadsRow.again) := by
  refine returnsInHanded_of_change_and (C := Tryz.checked) (X := fun w _ => laidMetH Tryz.prog Rows.deskReadsRow.laid w) (fun _ _ _ hh h => h.of_heap hh) Tryz.own started (by kernel_rfl) Tryz.func6
    (ChangeSpec.witness_shaped (enc := enc) (C := Tryz.checked) (os := os) (X := fun w _ => laidMetH Tryz.prog Rows.deskReadsRow.laid w) false (World.laidAll Tryz.prog os laidD) #[.string ⟨#[]⟩, .agg #[.int .i64 0, .int .i64 0, .int .i64 0, .int .i64 0, .int .i64 0, .int .i64 0, .int .i64 0, .int .i64 0, .int .i64 0, .slice none 0 0]] 8 (World.laidAll_os _ _ _) (World.shaped_of_ZipB (by kernel_rfl) (by kernel_rfl)) (by kernel_rfl) (by kernel_rfl) (by kernel_rfl) (door_met os _)) ?_
  intro W base args ds gs before hval0 hW hcnd hwt hL _
  have hval : ∀ (j : Nat) t v, Tryz.f6.params[j]? = some t → args[j]? = some v → Value.okWide Tryz.prog W .any base t v := hval0
  obtain ⟨p, q, hA0, hV, _, _, _⟩ := id hW
  have hA : DataW.TrodAll enc Tryz.prog W 0 (fun _ => true) true Tryz.f6.params.toList args.toList ds p := hA0
  clear hval0 hA0
  obtain ⟨rfl, _⟩ := trodVars_none hV
  have hwt2 := all_le hwt
  have henv := env_of hL
  have hpar : Tryz.f6.params = #[9, 26] := by kernel_rfl
  rw [hpar] at hA hval
  obtain ⟨v0, v1, d0, d1, p0, p1, rfl, rfl, _, ⟨fuel0, hf0⟩, ⟨fuel1, hf1⟩⟩ := trodAll_two hA
  obtain ⟨s0, rfl, _, _, w0⟩ := Go.ChangeMaps.open_string (P := Tryz.prog) (t := 9) (by kernel_rfl) (hval 0 _ _ rfl rfl) ⟨fuel0, hf0⟩
  obtain ⟨cs, rfl, hsz⟩ := okWide_struct (P := Tryz.prog) (t := 26) (fs := Tryz.prog.fieldsOf 26) (by kernel_rfl) (hval 1 _ _ rfl rfl)
  have hl : cs.toList.length = 10 := by rw [Array.length_toList, hsz]; kernel_rfl
  obtain ⟨x, hx, hx1, hx2⟩ := step_dec (F := 0) (w := W) hl (sees_of_trod Tryz.tbs_ok.tab bytes_ok 4 fuel1 _ _ _ hf1 (fun k hk => hwt2 k (weightsEach_get _ _ _ 1 _ _ rfl rfl k hk)))
  obtain rfl : cs = (encStp x).toArray := by rw [← hx]
  refine (deskReads s0 x.1 hx1 x.2.1 x.2.2 W Hp.emp (hp W) (Hp.emp_le _) (Hp.le_refl _) (Hp.emp_dis _) trivial (fun X hX => ?_)).mono fun e W' ⟨_, _, he, _, _, _, hext, _⟩ => ?_
  · simp only [List.mem_cons, List.not_mem_nil, or_false] at hX
    rcases hX with rfl | rfl
    · exact henv
    · exact hx2
  · exact ⟨.bool true, he, post_true Tryz.laidOut (by kernel_rfl) rfl (rt := 4) (by kernel_rfl) (by kernel_rfl) hW hext.below rfl rfl rfl⟩
end Go.Proofs.YtaiialpdlobioaaGreatDoor

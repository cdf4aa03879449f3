/-
  What is proved: deskReads: of the card. Conditions: none.
-/
import Derived.Test.YtaiialpdlobioaaGreatDoorCards
import Derived.KernelRfl
import GoSem.ClaimGoes
namespace Go.Proofs.YtaiialpdlobioaaGreatDoor


theorem goes_none {P : Program} (h : P.funcs.any Func.goes = false) (f : FuncId) : P.goes f = false := by
  unfold Program.goes
  rw [h, Bool.and_false, Bool.or_false]
  cases e : ((P.closure f).any fun g => (P.funcs[g]?).any Func.goes) with
  | false => rfl
  | true =>
    exfalso
    obtain ⟨g, _, hg⟩ := List.any_eq_true.1 e
    cases hf : P.funcs[g]? with
    | none => rw [hf] at hg; cases hg
    | some fn =>
      rw [hf] at hg
      have hlt := (Array.getElem?_eq_some_iff.1 hf).1
      have : P.funcs.any Func.goes = true := Array.any_eq_true.2 ⟨g, hlt, by rw [(Array.getElem?_eq_some_iff.1 hf).2]; exact hg⟩
      rw [h] at this
      cases this
theorem goesBy_none {P : Program} (h : P.funcs.any Func.goes = false) {c : OpenClaim} (hs : c.start = .entering) : false = c.goesBy P := by
  unfold OpenClaim.goesBy Program.goesAt Program.goesFrom
  rw [hs]
  cases P.funcNamed c.func with
  | none => rfl
  | some f => simp [goes_none h]
theorem no_goes : Tryz.prog.funcs.any Func.goes = false := by kernel_rfl
theorem card_goes : false = Rows.deskReadsRow.goesBy Tryz.pinned.checked.prog := goesBy_none no_goes rfl
end Go.Proofs.YtaiialpdlobioaaGreatDoor

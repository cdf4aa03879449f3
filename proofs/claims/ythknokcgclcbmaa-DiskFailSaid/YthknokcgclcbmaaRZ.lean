/-
  What is proved: what each row asks of the program. Conditions: none.
-/
import Derived.Test.YthknokcgclcbmaaGl3
import Derived.Test.YthknokcgclcbmaaTab
import Derived.WideKeyArr2
namespace Go.Proofs.Ythknokcgclcbmaa
open Go.Sy Go.RowKit Go.ChangeShapes Go.WideShapes

theorem Try.own : ownKnob Try.prog.godebug = none := by kernel_rfl
theorem Try.laidOut : laidOutB Try.prog = true := by kernel_rfl
theorem mapM_all {α β : Type} {f : α → Option β} : ∀ (L : List α) (xs : List β), L.mapM f = some xs → ∀ i ∈ L, ∃ y, f i = some y
  | [], _, _, i, hi => by cases hi
  | a :: L, xs, h, i, hi => by
    rw [List.mapM_cons] at h
    simp only [bind, Option.bind_eq_some_iff, pure, Option.some.injEq] at h
    obtain ⟨y, hy, ys, hys, rfl⟩ := h
    rcases List.mem_cons.1 hi with rfl | hi
    · exact ⟨y, hy⟩
    · exact mapM_all L ys hys i hi
theorem arr_ints {H : Type} {enc : TypeId × Value → H} {P : Program} {t e : TypeId} {n : Nat} {q : IntKind} (hu : P.underlying t = some (.array n e)) (he : P.underlying e = some (.int q)) (h1 : P.cellsOf e = 1) (hsz : P.cellsOf t = n)
    {W : World} {base : Nat} {sp : Nat → Bool} {held : Bool} {fuel : Nat} {cs : List Value} {x : DataW H × List MemPlace} (hf : DataW.trod enc P W base sp held fuel t cs = some x) (hl : cs.length = n) : ∀ j, j < n → ∃ a : Int, cs[j]? = some (.int q a) := by
  cases fuel with
  | zero => simp [DataW.trod] at hf
  | succ m =>
    rw [DataW.trod_step] at hf
    unfold DataW.trodStep at hf
    simp only [hu] at hf
    rw [if_pos (by rw [hsz]; simpa using hl)] at hf
    simp only [Option.map_eq_some_iff] at hf
    obtain ⟨ys, hy, _⟩ := hf
    intro j hj
    obtain ⟨y, hy2⟩ := mapM_all _ _ hy j (by simpa using hj)
    obtain ⟨a, ha, _⟩ := DataW.trod_int he hy2
    refine ⟨a, ?_⟩
    have h2 : ((cs.drop (j * P.cellsOf e)).take (P.cellsOf e))[0]? = some (.int q a) := by rw [ha]; rfl
    rw [h1, Nat.mul_one, List.getElem?_take, if_pos (by decide), List.getElem?_drop] at h2
    simpa using h2
end Go.Proofs.Ythknokcgclcbmaa

/-
  What is proved: archipelagolaw30.DeskNone answers true, whatever it is given. Conditions: none.
-/
import Derived.Test.YtaiialpdlobioaaGreatDoorZq2
import Derived.Test.YtaiialpdlobioaaGreatDoorYQX
import Derived.Test.YtaiialpdlobioaaGreatDoorYQB0
import Derived.Test.YtaiialpdlobioaaGreatDoorYQB1
import Derived.Test.YtaiialpdlobioaaGreatDoorYQB2
import Derived.Test.YtaiialpdlobioaaGreatDoorYQB3
import Derived.Test.YtaiialpdlobioaaGreatDoorYQB4
import Derived.Test.YtaiialpdlobioaaGreatDoorYQB5
import Derived.Test.YtaiialpdlobioaaGreatDoorYQB6
import Derived.Test.YtaiialpdlobioaaGreatDoorYQB7
import Derived.Below
noncomputable section
namespace Go.Proofs.YtaiialpdlobioaaGreatDoor
open Go.Ex Go.RowKit

theorem bytes_all (m : Nat) (h : m < 256) : bq m = true := by
  rcases Nat.lt_or_ge m 32 with q | q
  · exact bqs_0.at m (by omega) (by omega)
  rcases Nat.lt_or_ge m 64 with q | q
  · exact bqs_1.at m (by omega) (by omega)
  rcases Nat.lt_or_ge m 96 with q | q
  · exact bqs_2.at m (by omega) (by omega)
  rcases Nat.lt_or_ge m 128 with q | q
  · exact bqs_3.at m (by omega) (by omega)
  rcases Nat.lt_or_ge m 160 with q | q
  · exact bqs_4.at m (by omega) (by omega)
  rcases Nat.lt_or_ge m 192 with q | q
  · exact bqs_5.at m (by omega) (by omega)
  rcases Nat.lt_or_ge m 224 with q | q
  · exact bqs_6.at m (by omega) (by omega)
  exact bqs_7.at m (by omega) (by omega)
/-- the letters: the line, the byte, how long the line is -/
def sigQ (s : ByteArray) (m : Int) (i : Nat) : Value := match i with
  | 0 => .string s
  | 1 => .int .u8 m
  | 10 => .int .i64 (s.size : Int)
  | _ => .bool true
theorem pkQ (s : ByteArray) (m : Int) : ProgOk (EQ (ltI 300 s.size)) (sigQ s m) where
  name := names_ok.name
  orc := by
    refine ⟨fun i => ?_, fun op t p q v h0 β ox oy xv yv h1 h2 => ?_, fun _ _ h => (by cases h), fun i v h => ?_⟩
    · unfold sigQ
      split <;> rfl
    · have h : orcQ1 (ltI 300 s.size) op t p q = some v := h0
      clear h0
      unfold orcQ1 at h
      split at h
      · split at h
        · rename_i i _ n
          have hy : yv = .int .i64 (Int.ofNat n) := h2
          have hx : xv = sigQ s m i := h1
          subst hy; subst hx
          obtain ⟨e, h3⟩ := brec_none h
          clear h
          obtain rfl := Nat.eq_of_beq_eq_true e
          obtain ⟨e, h⟩ := brec_none h3
          clear h3
          obtain rfl := Nat.eq_of_beq_eq_true e
          unfold orcQ2 at h
          split at h
          · cases h
            exact intV_ok (op := .gtr) (k := .i64) (a := (s.size : Int)) (b := 300) (v := .bl (ltI 300 s.size)) rfl t ox oy
          · cases h
        · cases h
      · exact orcQ_ok rfl h β ox oy xv yv h1 h2
    · obtain ⟨e, hv⟩ := brec_some (show lenQ i = some v from h)
      subst hv
      obtain rfl := Nat.eq_of_beq_eq_true e
      exact ⟨s, rfl, fun β => rfl⟩
  ne := ne_run
  prim := by
    intro g args v h0 st
    have h : primQ1 g args = some v := h0
    clear h0
    unfold primQ1 at h
    split at h
    · obtain ⟨e, hv⟩ := brec_some h
      subst hv
      obtain rfl := Nat.eq_of_beq_eq_true e
      obtain ⟨sf, hs⟩ := isT_ok lives30_run
      exact prim_ok (E := EQ (ltI 300 s.size)) (E' := EQ0) (σ := sigQ s m) (args := []) rfl rfl (fun g xs h β => globQ_any g xs h β) pkQ0 follows_mixed hs rfl (fun β xs (h : xs = []) => h) st
    · exact primQ_ok rfl h st
/-- what is behind the call: all that was there -/
theorem more_below {w w' : World} (M : More w w') : Below w.heap.size w w' :=
  ⟨M.os, M.tape, M.out, M.size, fun k hk => by
    cases e : w.heap[k]? with
    | none => rw [Array.getElem?_eq_none_iff] at e; omega
    | some o => exact M.old k o e⟩
theorem hasBody_of {E : Env} (h : E.P = EQ0.P) {g : FuncId} (hb : hasBody EQ0 g = true) : hasBody E g = true := by
  unfold hasBody at hb ⊢
  rw [h]
  exact hb
theorem calls_of {E : Env} {σ : Nat → Value} (pk : ProgOk E σ) (hm : E.P.follows .mixedOrders = true) (hg : E.glob = globQ) (hP : E.P = EQ0.P) {g : FuncId} (hb : hasBody EQ0 g = true) {args : List V} (h : isT (Ex.start E 60 g args) = true) {w : World} (hk : TabsAt w)
    {xs : List Value} (hx : IsL σ (fun _ => none) args xs) : Calls E.P g xs.toArray w fun e w' => e = .returned (.bool true) ∧ Below w.heap.size w w' := by
  obtain ⟨sf, hs⟩ := isT_ok h
  rcases start_ok pk hm hs (globOk_of hg hk) hx with ⟨_, q⟩ | ⟨x, w', q, _⟩
  · refine Calls.mono q fun e w' he => ?_
    obtain ⟨x, β, rfl, hv, M⟩ := he
    have hv : x = .bool true := hv
    subst hv
    exact ⟨rfl, more_below M⟩
  · rw [hasBody_ok pk.toNamesOk (hasBody_of hP hb)] at q
    cases q
set_option maxRecDepth 1000000 in
theorem has5 : hasBody EQ0 5 = true := by kernel_rfl
theorem deskNone (s : ByteArray) (a : Int) (h0 : 0 ≤ a) (h1 : a < 256) {w : World} (hk : TabsAt w) :
    Calls Tryz.prog 5 #[.string s, .int .u8 a] w fun e w' => e = .returned (.bool true) ∧ Below w.heap.size w w' := by
  obtain ⟨m, rfl⟩ : ∃ m : Nat, a = (m : Int) := ⟨a.toNat, by omega⟩
  have hm : m < 256 := by omega
  have pk := pkQ s m
  cases e : ltI 300 s.size with
  | true =>
    rw [e] at pk
    exact calls_of pk follows_mixed rfl rfl has5 run_longQ hk ⟨_, _, rfl, rfl, _, _, rfl, rfl, rfl⟩
  | false =>
    rw [e] at pk
    exact calls_of pk follows_mixed rfl rfl has5 (bytes_all m hm) hk ⟨_, _, rfl, rfl, _, _, rfl, rfl, rfl⟩
end Go.Proofs.YtaiialpdlobioaaGreatDoor

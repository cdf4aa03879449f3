/-
  What is proved: archipelagolaw25.WorldsNone answers true, whatever it is given. Conditions: none.
-/
import Derived.Test.YtaiialpdlobioaaGreatDoorZw3
import Derived.Test.YtaiialpdlobioaaGreatDoorYLX
import Derived.Below
noncomputable section
namespace Go.Proofs.YtaiialpdlobioaaGreatDoor
open Go.Ex Go.RowKit

/-- a step -/
structure StepS where
  k : Int
  s : Int
  t : Int
  i : Int
  o0 : Int
  o1 : Int
  o2 : Int
  o3 : Int
  o4 : Int
  A : Option Addr
  n : Nat
  c : Nat
def encStep (x : StepS) : List Value := [.int .i64 x.k, .int .i64 x.s, .int .i64 x.t, .int .i64 x.i, .int .i64 x.o0, .int .i64 x.o1, .int .i64 x.o2, .int .i64 x.o3, .int .i64 x.o4, .slice x.A x.n x.c]
/-- what is said of letters: 10 is how long the step's list is, 11 is n -/
def orc1 (b : Bool) (op : BinOp) : Option V := match op with
  | .gtr => some (.bl b)
  | _ => none
def orc2 (b : Bool) (op : BinOp) : Option V := match op with
  | .lss => some (.bl b)
  | .geq => some (.bl (not b))
  | _ => none
def orc7 (b : Bool) (op : BinOp) : Option V := match op with
  | .gtr => some (.bl b)
  | .leq => some (.bl (not b))
  | _ => none
def orcW (long lo hi : Bool) (op : BinOp) (x y : V) : Option V := match x, y with
  | .sy i, .int .i64 (.ofNat m) => Bool.rec (Bool.rec none (Bool.rec (Bool.rec none (orc7 hi op) (Nat.beq m 7)) (orc2 lo op) (Nat.beq m 2)) (Nat.beq i 11)) (Bool.rec none (orc1 long op) (Nat.beq m 20)) (Nat.beq i 10)
  | _, _ => none
def primW (p : FuncId) (g : FuncId) (l : List V) : Option V := match l with
  | [] => Bool.rec none (some (.bl true)) (Nat.beq g p)
  | _ => none
def lenW (i : Nat) : Option V := Bool.rec none (some (.sy 10)) (Nat.beq i 9)
def EW (long lo hi : Bool) : Env := ⟨Tryz.prog, globW, primW 7, orcW long lo hi, lenW, fun _ => none, 228, 100000⟩
def stepV : V := .ag [.sy 0, .sy 1, .sy 2, .sy 3, .sy 4, .sy 5, .sy 6, .sy 7, .sy 8, .sy 9]
set_option maxRecDepth 1000000 in
theorem run_long (lo hi : Bool) : isT (Ex.start (EW true lo hi) 60 3 [stepV, .sy 11]) = true := by cases lo <;> cases hi <;> kernel_rfl
set_option maxRecDepth 1000000 in
theorem run_few : isT (Ex.start (EW false true false) 60 3 [stepV, .sy 11]) = true := by kernel_rfl
set_option maxRecDepth 1000000 in
theorem run_many : isT (Ex.start (EW false false true) 60 3 [stepV, .sy 11]) = true := by kernel_rfl
set_option maxRecDepth 1000000 in
theorem run_2 : isT (Ex.start (EW false false false) 60 3 [stepV, .int .i64 2]) = true := by kernel_rfl
set_option maxRecDepth 1000000 in
theorem run_3 : isT (Ex.start (EW false false false) 60 3 [stepV, .int .i64 3]) = true := by kernel_rfl
set_option maxRecDepth 1000000 in
theorem run_4 : isT (Ex.start (EW false false false) 60 3 [stepV, .int .i64 4]) = true := by kernel_rfl
set_option maxRecDepth 1000000 in
theorem run_5 : isT (Ex.start (EW false false false) 60 3 [stepV, .int .i64 5]) = true := by kernel_rfl
set_option maxRecDepth 1000000 in
theorem run_6 : isT (Ex.start (EW false false false) 60 3 [stepV, .int .i64 6]) = true := by kernel_rfl
set_option maxRecDepth 1000000 in
theorem run_7 : isT (Ex.start (EW false false false) 60 3 [stepV, .int .i64 7]) = true := by kernel_rfl
def sigW (x : StepS) (n : Int) (i : Nat) : Value := (encStep x ++ [Value.int .i64 (x.n : Int), Value.int .i64 n]).getD i (.bool true)
theorem sig_one (l : List Value) (h : ∀ y ∈ l, y.oneCell' = true) (i : Nat) : (l.getD i (.bool true)).oneCell' = true := by
  rw [List.getD_eq_getElem?_getD]
  cases e : l[i]? with
  | none => rfl
  | some y => exact h y (List.mem_of_getElem? e)
theorem pkW (x : StepS) (n : Int) : ProgOk (EW (ltI 20 x.n) (ltI n 2) (ltI 7 n)) (sigW x n) where
  name := names_ok.name
  orc := by
    refine ⟨fun i => sig_one _ (fun y hy => ?_) i, fun op p q v h0 β t ox oy xv yv h1 h2 => ?_, fun i v h => ?_, fun _ _ h => by cases h⟩
    · simp only [encStep, List.cons_append, List.nil_append, List.mem_cons, List.not_mem_nil, or_false] at hy
      rcases hy with rfl | rfl | rfl | rfl | rfl | rfl | rfl | rfl | rfl | rfl | rfl | rfl <;> rfl
    · have h : orcW (ltI 20 x.n) (ltI n 2) (ltI 7 n) op p q = some v := h0
      clear h0
      unfold orcW at h
      split at h
      · rename_i i m
        have hy : yv = .int .i64 (Int.ofNat m) := h2
        have hx : xv = sigW x n i := h1
        subst hy; subst hx
        cases e : Nat.beq i 10 with
        | true =>
          rw [e] at h
          obtain rfl := Nat.eq_of_beq_eq_true e
          obtain ⟨hm, h⟩ := brec_none h
          obtain rfl := Nat.eq_of_beq_eq_true hm
          unfold orc1 at h
          split at h
          · cases h
            exact intV_ok (op := .gtr) (k := .i64) (a := (x.n : Int)) (b := 20) (v := .bl (ltI 20 x.n)) rfl t ox oy
          · cases h
        | false =>
          rw [e] at h
          obtain ⟨e, h⟩ := brec_none h
          obtain rfl := Nat.eq_of_beq_eq_true e
          cases hm : Nat.beq m 2 with
          | true =>
            rw [hm] at h
            obtain rfl := Nat.eq_of_beq_eq_true hm
            unfold orc2 at h
            split at h
            · cases h
              exact intV_ok (op := .lss) (k := .i64) (a := n) (b := 2) (v := .bl (ltI n 2)) rfl t ox oy
            · cases h
              exact intV_ok (op := .geq) (k := .i64) (a := n) (b := 2) (v := .bl (not (ltI n 2))) rfl t ox oy
            · cases h
          | false =>
            rw [hm] at h
            obtain ⟨hm, h⟩ := brec_none h
            obtain rfl := Nat.eq_of_beq_eq_true hm
            unfold orc7 at h
            split at h
            · cases h
              exact intV_ok (op := .gtr) (k := .i64) (a := n) (b := 7) (v := .bl (ltI 7 n)) rfl t ox oy
            · cases h
              exact intV_ok (op := .leq) (k := .i64) (a := n) (b := 7) (v := .bl (not (ltI 7 n))) rfl t ox oy
            · cases h
      · cases h
    · obtain ⟨e, hv⟩ := brec_some (show lenW i = some v from h)
      subst hv
      obtain rfl := Nat.eq_of_beq_eq_true e
      exact ⟨x.A, x.n, x.c, rfl, fun β => rfl⟩
  ne := ne_run
  prim := by
    intro g args v h s
    have h : primW 7 g args = some v := h
    unfold primW at h
    split at h
    · obtain ⟨e, hv⟩ := brec_some h
      subst hv
      obtain rfl := Nat.eq_of_beq_eq_true e
      obtain ⟨sf, hs⟩ := isT_ok lives25_run
      exact prim_ok (E := EW (ltI 20 x.n) (ltI n 2) (ltI 7 n)) (E' := E0) (σ := sigW x n) (args := []) rfl rfl pk0 follows_mixed hs rfl (fun β xs (h : xs = []) => h) s
    · cases h
/-- what is behind the call: all that was there -/
theorem more_below {w w' : World} (M : More w w') : Below w.heap.size w w' :=
  ⟨M.os, M.tape, M.out, M.size, fun k hk => by
    cases e : w.heap[k]? with
    | none => rw [Array.getElem?_eq_none_iff] at e; omega
    | some o => exact M.old k o e⟩
theorem hasBody_of {E : Env} (h : E.P = E0.P) {g : FuncId} (hb : hasBody E0 g = true) : hasBody E g = true := by
  unfold hasBody at hb ⊢
  rw [h]
  exact hb
theorem calls_of {E : Env} {σ : Nat → Value} (pk : ProgOk E σ) (hm : E.P.follows .mixedOrders = true) (hg : E.glob = globW) (hP : E.P = E0.P) {g : FuncId} (hb : hasBody E0 g = true) {args : List V} (h : isT (Ex.start E 60 g args) = true) {w : World} (hk : ∃ t z, w.heap[(0 : Nat)]? = some (.cells kindsL.toArray t z))
    {xs : List Value} (hx : IsL σ (fun _ => none) args xs) : Calls E.P g xs.toArray w fun e w' => e = .returned (.bool true) ∧ Below w.heap.size w w' := by
  obtain ⟨sf, hs⟩ := isT_ok h
  obtain ⟨t, z, hk⟩ := hk
  rcases start_ok pk hm hs ⟨by rw [hg]; exact glob_at hk, by rw [hg]; exact glob_one⟩ hx with ⟨_, q⟩ | ⟨x, w', q, _⟩
  · refine Calls.mono q fun e w' he => ?_
    obtain ⟨x, β, rfl, hv, M⟩ := he
    have hv : x = .bool true := hv
    subst hv
    exact ⟨rfl, more_below M⟩
  · rw [hasBody_ok pk.toNamesOk (hasBody_of hP hb)] at q
    cases q
theorem ltI_false {a b : Int} (h : ¬ a < b) : ltI a b = false := by
  cases e : ltI a b with
  | false => rfl
  | true => exact absurd (ltI_iff.1 e) h
set_option maxRecDepth 1000000 in
theorem has3 : hasBody E0 3 = true := by kernel_rfl
theorem worldsNone (x : StepS) (n : Int) {w : World} (hk : ∃ t z, w.heap[(0 : Nat)]? = some (.cells kindsL.toArray t z)) :
    Calls Tryz.prog 3 #[.agg (encStep x).toArray, .int .i64 n] w fun e w' => e = .returned (.bool true) ∧ Below w.heap.size w w' := by
  have pk := pkW x n
  have hstep : Is (sigW x n) (fun _ => none) stepV (.agg (encStep x).toArray) := by
    refine ⟨encStep x, rfl, ⟨_, _, rfl, rfl, _, _, rfl, rfl, _, _, rfl, rfl, _, _, rfl, rfl, _, _, rfl, rfl, _, _, rfl, rfl, _, _, rfl, rfl, _, _, rfl, rfl, _, _, rfl, rfl, _, _, rfl, rfl, rfl⟩, fun y hy => ?_⟩
    simp only [encStep, List.mem_cons, List.not_mem_nil, or_false] at hy
    rcases hy with rfl | rfl | rfl | rfl | rfl | rfl | rfl | rfl | rfl | rfl <;> rfl
  have letter : IsL (sigW x n) (fun _ => none) [stepV, .sy 11] [.agg (encStep x).toArray, .int .i64 n] := ⟨_, _, rfl, hstep, _, _, rfl, rfl, rfl⟩
  by_cases hl : (20 : Int) < x.n
  · rw [ltI_iff.2 hl] at pk
    exact calls_of pk follows_mixed rfl rfl has3 (run_long _ _) hk letter
  rw [ltI_false hl] at pk
  by_cases h2 : n < 2
  · rw [ltI_iff.2 h2, ltI_false (by omega)] at pk
    exact calls_of pk follows_mixed rfl rfl has3 run_few hk letter
  by_cases h7 : 7 < n
  · rw [ltI_false h2, ltI_iff.2 h7] at pk
    exact calls_of pk follows_mixed rfl rfl has3 run_many hk letter
  rw [ltI_false h2, ltI_false h7] at pk
  have lit : ∀ m : Int, n = m → IsL (sigW x n) (fun _ => none) [stepV, .int .i64 m] [.agg (encStep x).toArray, .int .i64 n] := fun m e => ⟨_, _, rfl, hstep, _, _, rfl, by rw [e]; rfl, rfl⟩
  have h : n = 2 ∨ n = 3 ∨ n = 4 ∨ n = 5 ∨ n = 6 ∨ n = 7 := by omega
  rcases h with h | h | h | h | h | h
  · exact calls_of pk follows_mixed rfl rfl has3 run_2 hk (lit _ h)
  · exact calls_of pk follows_mixed rfl rfl has3 run_3 hk (lit _ h)
  · exact calls_of pk follows_mixed rfl rfl has3 run_4 hk (lit _ h)
  · exact calls_of pk follows_mixed rfl rfl has3 run_5 hk (lit _ h)
  · exact calls_of pk follows_mixed rfl rfl has3 run_6 hk (lit _ h)
  · exact calls_of pk follows_mixed rfl rfl has3 run_7 hk (lit _ h)
end Go.Proofs.YtaiialpdlobioaaGreatDoor

/-
  What is proved: archipelagolaw29.FairNone answers true, whatever it is given. Conditions: none.
-/
import Derived.Test.YtaiialpdlobioaaGreatDoorZf2
import Derived.Test.YtaiialpdlobioaaGreatDoorYLY
noncomputable section
namespace Go.Proofs.YtaiialpdlobioaaGreatDoor
open Go.Ex Go.RowKit

/-- what is said of letters: 0 the size, 1 k, 2 most -/
def orc0 (b : Bool) (op : BinOp) : Option V := match op with
  | .geq => some (.bl b)
  | _ => none
def orcF (b : Bool) (op : BinOp) (x y : V) : Option V := match x, y with
  | .int .i64 (.ofNat m), .sy i => Bool.rec none (Bool.rec none (orc0 b op) (Nat.beq m 0)) (Nat.beq i 2)
  | _, _ => none
/-- how many sites, by a letter -/
def primS (n : Nat) (g : FuncId) (x : V) : Option V := match x with
  | .sy i => Bool.rec none (Bool.rec none (some (.int .i64 (.ofNat n))) (Nat.beq i 0)) (Nat.beq g 51)
  | _ => none
def primF (n : Nat) (g : FuncId) (l : List V) : Option V := match l with
  | [] => Bool.rec none (some (.bl true)) (Nat.beq g 20)
  | [x] => primS n g x
  | _ => none
def EF (b : Bool) (n : Nat) : Env := ⟨Tryz.prog, globW, primF n, orcF b, fun _ => none, fun _ => none, 228, 100000⟩
set_option maxRecDepth 1000000 in
theorem runF_2 (b : Bool) : isT (Ex.start (EF b 2) 60 4 [.sy 0, .sy 1, .sy 2]) = true := by cases b <;> kernel_rfl
set_option maxRecDepth 1000000 in
theorem runF_3 (b : Bool) : isT (Ex.start (EF b 3) 60 4 [.sy 0, .sy 1, .sy 2]) = true := by cases b <;> kernel_rfl
set_option maxRecDepth 1000000 in
theorem runF_4 (b : Bool) : isT (Ex.start (EF b 4) 60 4 [.sy 0, .sy 1, .sy 2]) = true := by cases b <;> kernel_rfl
set_option maxRecDepth 1000000 in
theorem runF_5 (b : Bool) : isT (Ex.start (EF b 5) 60 4 [.sy 0, .sy 1, .sy 2]) = true := by cases b <;> kernel_rfl
set_option maxRecDepth 1000000 in
theorem runF_6 (b : Bool) : isT (Ex.start (EF b 6) 60 4 [.sy 0, .sy 1, .sy 2]) = true := by cases b <;> kernel_rfl
set_option maxRecDepth 1000000 in
theorem runF_7 (b : Bool) : isT (Ex.start (EF b 7) 60 4 [.sy 0, .sy 1, .sy 2]) = true := by cases b <;> kernel_rfl
/-- Sized's run on each byte -/
def isN (n : Nat) (x : O) : Bool := match x with
  | .ok _ v => match v with
    | .int .i64 (.ofNat m) => Nat.beq m n
    | _ => false
  | .bad _ => false
theorem isN_ok {n : Nat} {x : O} (h : isN n x = true) : ∃ s, x = .ok s (.int .i64 (.ofNat n)) := by
  unfold isN at h
  split at h
  · split at h
    · obtain rfl := Nat.eq_of_beq_eq_true h; exact ⟨_, rfl⟩
    · cases h
  · cases h
def sizes : Bool := (List.range 256).all fun m => isN (Nat.add 2 (Nat.mod m 6)) (Ex.start E0 60 51 [.int .u8 (.ofNat m)])
set_option maxRecDepth 1000000 in
theorem sizes_ok : sizes = true := by kernel_rfl
theorem sized_run {m : Nat} (h : m < 256) : ∃ s, Ex.start E0 60 51 [.int .u8 (.ofNat m)] = .ok s (.int .i64 (.ofNat (2 + m % 6))) := isN_ok (List.all_eq_true.1 sizes_ok m (List.mem_range.2 h))
def sigF (a k most : Int) (i : Nat) : Value := [Value.int .u8 a, Value.int .i64 k, Value.int .i64 most].getD i (.bool true)
theorem pkF {m : Nat} (hm : m < 256) (k most : Int) : ProgOk (EF (not (ltI 0 most)) (2 + m % 6)) (sigF m k most) where
  name := names_ok.name
  orc := by
    refine ⟨fun i => sig_one _ (fun y hy => ?_) i, fun op p q v h0 β t ox oy xv yv h1 h2 => ?_, fun _ _ h => (by cases h), fun _ _ h => (by cases h)⟩
    · simp only [List.mem_cons, List.not_mem_nil, or_false] at hy
      rcases hy with rfl | rfl | rfl <;> rfl
    · have h : orcF (not (ltI 0 most)) op p q = some v := h0
      clear h0
      unfold orcF at h
      split at h
      · rename_i j i
        have hx : xv = .int .i64 (Int.ofNat j) := h1
        have hy : yv = sigF m k most i := h2
        subst hy; subst hx
        obtain ⟨e, h⟩ := brec_none h
        obtain rfl := Nat.eq_of_beq_eq_true e
        obtain ⟨e, h⟩ := brec_none h
        obtain rfl := Nat.eq_of_beq_eq_true e
        unfold orc0 at h
        split at h
        · cases h
          exact intV_ok (op := .geq) (k := .i64) (a := 0) (b := most) (v := .bl (not (ltI 0 most))) rfl t ox oy
        · cases h
      · cases h
  ne := ne_run
  prim := by
    intro g args v h0 s
    have h : primF (2 + m % 6) g args = some v := h0
    clear h0
    unfold primF at h
    split at h
    · obtain ⟨e, hv⟩ := brec_some h
      subst hv
      obtain rfl := Nat.eq_of_beq_eq_true e
      obtain ⟨sf, hs⟩ := isT_ok lives29_run
      exact prim_ok (E := EF (not (ltI 0 most)) (2 + m % 6)) (E' := E0) (σ := sigF m k most) (args := []) rfl rfl pk0 follows_mixed hs rfl (fun β xs (h : xs = []) => h) s
    · unfold primS at h
      split at h
      · rename_i i
        obtain ⟨e, h⟩ := brec_none h
        obtain rfl := Nat.eq_of_beq_eq_true e
        obtain ⟨e, hv⟩ := brec_some h
        obtain rfl := Nat.eq_of_beq_eq_true e
        subst hv
        obtain ⟨sf, hs⟩ := sized_run hm
        refine prim_ok (E := EF (not (ltI 0 most)) (2 + m % 6)) (E' := E0) (σ := sigF m k most) (args := [.sy 0]) (args' := [.int .u8 (.ofNat m)]) rfl rfl pk0 follows_mixed hs rfl (fun β xs h => ?_) s
        obtain ⟨y, ys, rfl, hy, hys⟩ := h
        cases hys
        exact ⟨_, _, rfl, hy, rfl⟩
      · cases h
    · cases h
set_option maxRecDepth 1000000 in
theorem has4 : hasBody E0 4 = true := by kernel_rfl
theorem fairNone (a k most : Int) (h0 : 0 ≤ a) (h1 : a < 256) {w : World} (hk : ∃ t z, w.heap[(0 : Nat)]? = some (.cells kindsL.toArray t z)) :
    Calls Tryz.prog 4 #[.int .u8 a, .int .i64 k, .int .i64 most] w fun e w' => e = .returned (.bool true) ∧ Below w.heap.size w w' := by
  obtain ⟨m, rfl⟩ : ∃ m : Nat, a = (m : Int) := ⟨a.toNat, by omega⟩
  have hm : m < 256 := by omega
  have pk := pkF hm k most
  have letter : IsL (sigF m k most) (fun _ => none) [.sy 0, .sy 1, .sy 2] [.int .u8 (m : Int), .int .i64 k, .int .i64 most] := ⟨_, _, rfl, rfl, _, _, rfl, rfl, _, _, rfl, rfl, rfl⟩
  have h6 := Nat.mod_lt m (show 0 < 6 by decide)
  have h : m % 6 = 0 ∨ m % 6 = 1 ∨ m % 6 = 2 ∨ m % 6 = 3 ∨ m % 6 = 4 ∨ m % 6 = 5 := by omega
  rcases h with h | h | h | h | h | h <;> rw [h] at pk
  · exact calls_of pk follows_mixed rfl rfl has4 (runF_2 _) hk letter
  · exact calls_of pk follows_mixed rfl rfl has4 (runF_3 _) hk letter
  · exact calls_of pk follows_mixed rfl rfl has4 (runF_4 _) hk letter
  · exact calls_of pk follows_mixed rfl rfl has4 (runF_5 _) hk letter
  · exact calls_of pk follows_mixed rfl rfl has4 (runF_6 _) hk letter
  · exact calls_of pk follows_mixed rfl rfl has4 (runF_7 _) hk letter
end Go.Proofs.YtaiialpdlobioaaGreatDoor

/-
  What is proved: the table of who waits: in memory, and what each of its functions does with one entry. Conditions: none.
-/
import Derived.Test.YtkjpfodnbjbmfaaRB
import Derived.Test.YtkjpfodnbjbmfaaSyq
namespace Go.Proofs.Ytkjpfodnbjbmfaa
open Go.Sy Go.RowKit

abbrev Key := Int × Int
def encK (k : Key) : Value := .agg #[.int .i64 k.1, .int .i64 k.2]
theorem key_und : Try.prog.underlying 51 = some (.struct (Try.prog.fieldsOf 51)) := by kernel_rfl
theorem int_und : Try.prog.underlying 3 = some (.int .i64) := by kernel_rfl
theorem okKey : EqOk Try.prog 51 := ⟨by kernel_rfl, by kernel_rfl⟩
theorem key_fields : ∃ f1 f2 : Field, Try.prog.fieldsOf 51 = #[f1, f2] ∧ (f1.type = 3 ∧ f1.offset = 0 ∧ f1.name ≠ "_") ∧ (f2.type = 3 ∧ f2.offset = 1 ∧ f2.name ≠ "_") :=
  ⟨_, _, rfl, ⟨rfl, rfl, by decide⟩, ⟨rfl, rfl, by decide⟩⟩
theorem key_check (e : Bool) (k : Key) (w : World) : (Instr.checkKey e 10000 51 (encK k)).run Try.prog w = .ok () w := by
  obtain ⟨f1, f2, hf, ⟨h1, h2, h3⟩, ⟨h4, h5, h6⟩⟩ := key_fields
  have hu := key_und
  rw [hf] at hu
  have p1 : (part f1.type #[.int .i64 k.1, .int .i64 k.2] f1.offset).run Try.prog w = .ok (.int .i64 k.1) w := by
    rw [h1, h2]; exact part_one int_und rfl rfl
  have p2 : (part f2.type #[.int .i64 k.1, .int .i64 k.2] f2.offset).run Try.prog w = .ok (.int .i64 k.2) w := by
    rw [h4, h5]; exact part_one int_und rfl rfl
  have q1 : (Instr.checkKey e 9999 f1.type (.int .i64 k.1)).run Try.prog w = .ok () w := by
    rw [h1, Instr.checkKey, Sem.run_bind, run_underlying int_und]; rfl
  have q2 : (Instr.checkKey e 9999 f2.type (.int .i64 k.2)).run Try.prog w = .ok () w := by
    rw [h4, Instr.checkKey, Sem.run_bind, run_underlying int_und]; rfl
  rw [Instr.checkKey, Sem.run_bind, run_underlying hu]
  simp [encK, h3, h6, p1, p2, q1, q2]
theorem key_eq (a b : Key) (w : World) : (Op.equal 51 (encK a) (encK b)).run Try.prog w = .ok (decide (a = b)) w := by
  have : decide (a = b) = (a.1 == b.1 && (a.2 == b.2 && true)) := by
    obtain ⟨a1, a2⟩ := a
    obtain ⟨b1, b2⟩ := b
    rw [Bool.eq_iff_iff]
    simp
  rw [this]
  refine eq_struct (d := 9999) okKey rfl ?_
  iterate 2 refine eqF_int (by decide) int_und rfl rfl ?_
  exact eqF_nil
theorem keyOk : KeyOk Try.prog 51 encK :=
  keyOk_of key_und (fun _ _ => rfl) key_check key_eq (fun k => by simp [encK, Instr.sameBits])
theorem zeroI (w : World) : (zeroValue 27).run Try.prog w = .ok (.slice none 0 0) w := by
  have h : (Try.prog.info? 27).bind (fun i => i.zero) = some (.slice none 0 0) := by kernel_rfl
  cases hq : Try.prog.info? 27 with
  | none => rw [hq] at h; cases h
  | some i =>
    rw [hq] at h
    simp only [Option.bind_some] at h
    simp [zeroValue, typeInfo, hq, h]
end Go.Proofs.Ytkjpfodnbjbmfaa

/-
  What is proved: two structs, compared. Conditions: none.
-/
import Derived.Test.YthknokcgclcbmaaSye
import Derived.Laws.StructEq
namespace Go.Sy
open Go.RowKit

section
variable {P : Program} {w : World} {d : Nat} {xs ys : Array Value} {f : Field} {fs : List Field} {r : Bool}
theorem part_one {t : TypeId} {u : TypeDesc} (ht : P.underlying t = some u) (hu : (tkOf u).isAgg = false) {cs : Array Value} {i : Nat} {v : Value} (h : cs[i]? = some v) : (part t cs i).run P w = .ok v w := by
  unfold part
  rw [Sem.run_bind, isAgg_run P w ht, hu]
  simp [h]
theorem eqF_nil : (Op.eqFields d xs ys []).run P w = .ok true w := rfl
theorem eqF_step {a b : Value} {q : Bool} (hn : f.name ≠ "_") (ha : (part f.type xs f.offset).run P w = .ok a w) (hb : (part f.type ys f.offset).run P w = .ok b w) (he : (Op.equalIn d f.type a b).run P w = .ok q w)
    (h : (Op.eqFields d xs ys fs).run P w = .ok r w) : (Op.eqFields d xs ys (f :: fs)).run P w = .ok (q && r) w := by
  simp only [Op.eqFields]
  rw [if_pos hn]
  simp only [Sem.run_bind, ha, hb, he, Result.andThen_ok]
  cases q
  · rfl
  · simpa using h
theorem eqF_int {k : IntKind} {a b : Int} (hn : f.name ≠ "_") (ht : P.underlying f.type = some (.int k)) (hx : xs[f.offset]? = some (.int k a)) (hy : ys[f.offset]? = some (.int k b)) (h : (Op.eqFields (d + 1) xs ys fs).run P w = .ok r w) :
    (Op.eqFields (d + 1) xs ys (f :: fs)).run P w = .ok ((a == b) && r) w :=
  eqF_step hn (part_one ht rfl hx) (part_one ht rfl hy) (run_equalIn_int w d f.type k k a b ht) h
theorem eqF_bool {a b : Bool} (hn : f.name ≠ "_") (ht : P.underlying f.type = some .bool) (hx : xs[f.offset]? = some (.bool a)) (hy : ys[f.offset]? = some (.bool b)) (h : (Op.eqFields (d + 1) xs ys fs).run P w = .ok r w) :
    (Op.eqFields (d + 1) xs ys (f :: fs)).run P w = .ok ((a == b) && r) w :=
  eqF_step hn (part_one ht rfl hx) (part_one ht rfl hy) (run_equalIn_bool' w d f.type a b ht) h
theorem part_agg {t : TypeId} {u : TypeDesc} {i : TypeInfo} (ht : P.underlying t = some u) (hi : P.info? t = some i) (hu : (tkOf u).isAgg = true) {cs : Array Value} {off : Nat} {vs : Array Value} (h : cs.extract off (off + i.size) = vs) : (part t cs off).run P w = .ok (.agg vs) w := by
  unfold part
  rw [Sem.run_bind, isAgg_run P w ht, hu]
  simp [sizeOf, typeInfo, hi, h]
theorem eqF_agg {q : Bool} {us vs : Array Value} {u : TypeDesc} {i : TypeInfo} (hn : f.name ≠ "_") (ht : P.underlying f.type = some u) (hi : P.info? f.type = some i) (hu : (tkOf u).isAgg = true) (hx : xs.extract f.offset (f.offset + i.size) = us) (hy : ys.extract f.offset (f.offset + i.size) = vs)
    (he : (Op.equalIn d f.type (.agg us) (.agg vs)).run P w = .ok q w) (h : (Op.eqFields d xs ys fs).run P w = .ok r w) : (Op.eqFields d xs ys (f :: fs)).run P w = .ok (q && r) w :=
  eqF_step hn (part_agg ht hi hu hx) (part_agg ht hi hu hy) he h
/-- a struct's type whose values are compared field by field -/
structure EqOk (P : Program) (t : TypeId) : Prop where
  und : P.underlying t = some (.struct (P.fieldsOf t))
  held : P.stoodInHeld t = false
theorem eq_struct {t : TypeId} (h : EqOk P t) {l : List Field} (hl : (P.fieldsOf t).toList = l) (he : (Op.eqFields d xs ys l).run P w = .ok r w) : (Op.equalIn (d + 1) t (.agg xs) (.agg ys)).run P w = .ok r w := by
  rw [run_equalIn_struct w d t xs ys h.und h.held, hl]
  exact he
theorem eql_run {dst : Option Tmp} {t yt : TypeId} {x y : Operand} {ty : TypeId} {pos : String} {after : Array Edge} {gd : Option (Nat × Bool)} {a : Act} (hx : a.eval x = .agg xs) (hy : a.eval y = .agg ys) (hm : P.eqGuardType P.depth t = false) (he : (Op.equalIn 10000 t (.agg xs) (.agg ys)).run P w = .ok r w) :
    (execOp a.eval ⟨dst, .binOp .eql t x y yt, ty, pos, after, gd⟩).run P w = .ok (.value (.bool r)) w := by
  simp only [execOp, hx, hy, Sem.run_bind, run_eqGuard_agg w .eql t x y xs ys hm, Result.andThen_ok, run_eql_struct, he, Sem.run_pure]
theorem neq_run {dst : Option Tmp} {t yt : TypeId} {x y : Operand} {ty : TypeId} {pos : String} {after : Array Edge} {gd : Option (Nat × Bool)} {a : Act} (hx : a.eval x = .agg xs) (hy : a.eval y = .agg ys) (hm : P.eqGuardType P.depth t = false) (he : (Op.equalIn 10000 t (.agg xs) (.agg ys)).run P w = .ok r w) :
    (execOp a.eval ⟨dst, .binOp .neq t x y yt, ty, pos, after, gd⟩).run P w = .ok (.value (.bool !r)) w := by
  simp only [execOp, hx, hy, Sem.run_bind, run_eqGuard_agg w .neq t x y xs ys hm, Result.andThen_ok, run_neq_struct, he, Sem.run_pure]
end
end Go.Sy

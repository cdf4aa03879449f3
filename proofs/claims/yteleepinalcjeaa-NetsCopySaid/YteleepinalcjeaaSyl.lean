/-
  What is proved: operations on two values that the machine leaves to the prover: division, bits, shifts, strings. Conditions: none.
-/
import Derived.Test.YteleepinalcjeaaSyk
namespace Go.Sy
open Go.RowKit

section
variable {P : Program} {T : Tbs} {E : Entry} {Q : Exit → St → Prop} {ops : Array Oper} {l : List Oper} {r : List It} {st : St}

theorem bin_run {dst : Option Tmp} {op : BinOp} {t yt : TypeId} {x y : Operand} {ty : TypeId} {pos : String} {after : Array Edge} {gd : Option (Nat × Bool)} {fr : List SV} {res : List Res} {a : Act} (hF : FrOk fr res a) {vx vy v : Value} {w : World}
    (hx : (ev fr x).den = vx) (hxno : (ev fr x).isNo = false) (hy : (ev fr y).den = vy) (hyno : (ev fr y).isNo = false) (h1 : op ≠ .eql) (h2 : op ≠ .neq) (hb : (binOp op t vx vy).run P w = .ok v w) :
    (execOp a.eval ⟨dst, .binOp op t x y yt, ty, pos, after, gd⟩).run P w = .ok (.value v) w := by
  have e1 : a.eval x = vx := by rw [ev_denv hF rfl hxno, hx]
  have e2 : a.eval y = vy := by rw [ev_denv hF rfl hyno, hy]
  cases op <;> first | exact absurd rfl h1 | exact absurd rfl h2 | simp [execOp, e1, e2, eqGuard, hb]
/-- x op y: what comes out is told by the prover -/
theorem go_bin {dst : Option Tmp} {op : BinOp} {t yt : TypeId} {x y : Operand} {ty : TypeId} {pos : String} {after : Array Edge} {gd : Option (Nat × Bool)} {vx vy : Value} (v : SV) (hv : v.good (blkAt st.res))
    (hg : guardS ops st.fr ⟨dst, .binOp op t x y yt, ty, pos, after, gd⟩ = .run)
    (hx : (ev st.fr x).den = vx) (hxno : (ev st.fr x).isNo = false) (hy : (ev st.fr y).den = vy) (hyno : (ev st.fr y).isNo = false) (h1 : op ≠ .eql) (h2 : op ≠ .neq) (hb : ∀ w, (binOp op t vx vy).run P w = .ok v.den w)
    (h : Go P E (.o ops l :: r) (st.put dst v) Q) : Go P E (.o ops (⟨dst, .binOp op t x y yt, ty, pos, after, gd⟩ :: l) :: r) st Q :=
  go_val (o := ⟨dst, .binOp op t x y yt, ty, pos, after, gd⟩) hg v hv (fun _ w hR => bin_run hR.fr hx hxno hy hyno h1 h2 (hb w)) h
theorem tk_bin {full : Bool} {held : List (Nat × Res)} {ro0 : List Asn} {q : Nat} {p : List (Nat × Bool)} {listed : List Bool} {dst : Option Tmp} {op : BinOp} {t yt : TypeId} {x y : Operand} {ty : TypeId} {pos : String} {after : Array Edge} {gd : Option (Nat × Bool)} {vx vy : Value} (v : SV) (hv : v.good (blkAt st.res))
    (hchk : (heldOk held st.res ∧ ro0 = st.ro) ∧ planOk ops full ((q, true) :: p) listed = true) (ho : ops.toList[q]? = some ⟨dst, .binOp op t x y yt, ty, pos, after, gd⟩)
    (hg : guardS ops st.fr ⟨dst, .binOp op t x y yt, ty, pos, after, gd⟩ = .run)
    (hx : (ev st.fr x).den = vx) (hxno : (ev st.fr x).isNo = false) (hy : (ev st.fr y).den = vy) (hyno : (ev st.fr y).isNo = false) (h1 : op ≠ .eql) (h2 : op ≠ .neq) (hb : ∀ w, (binOp op t vx vy).run P w = .ok v.den w)
    (h : Go P E (.d ops full held ro0 p (listed.set q true) :: r) (st.put dst v) Q) : Go P E (.d ops full held ro0 ((q, true) :: p) listed :: r) st Q :=
  tk_val (o := ⟨dst, .binOp op t x y yt, ty, pos, after, gd⟩) hchk ho hg v hv (fun _ w hF _ => bin_run hF hx hxno hy hyno h1 h2 (hb w)) h
theorem rem_run {t : TypeId} {k : IntKind} {a b : Int} (hb : b ≠ 0) (w : World) : (binOp .rem t (.int k a) (.int k b)).run P w = .ok (.int k (a.tmod b)) w := by
  simp [binOp, Op.intDiv, hb]
theorem quo_run {t : TypeId} {k : IntKind} {a b : Int} (hb : b ≠ 0) (w : World) : (binOp .quo t (.int k a) (.int k b)).run P w = .ok (.int k (k.wrap (a.tdiv b))) w := by
  simp [binOp, Op.intDiv, hb]
def bitsOf (op : BinOp) (k : IntKind) (a b : Int) : Int :=
  k.wrap ((match op with | .and => BitVec.ofInt k.bits a &&& BitVec.ofInt k.bits b | .or => BitVec.ofInt k.bits a ||| BitVec.ofInt k.bits b | .xor => BitVec.ofInt k.bits a ^^^ BitVec.ofInt k.bits b | _ => BitVec.ofInt k.bits a &&& ~~~(BitVec.ofInt k.bits b)).toNat : Nat)
theorem bits_run {op : BinOp} {t : TypeId} {k : IntKind} {a b : Int} (ho : op = .and ∨ op = .or ∨ op = .xor ∨ op = .andNot) (w : World) : (binOp op t (.int k a) (.int k b)).run P w = .ok (.int k (bitsOf op k a b)) w := by
  rcases ho with rfl | rfl | rfl | rfl <;> simp [binOp, Op.intBits, bitsOf]
theorem shl_run {t : TypeId} {k k' : IntKind} {a b : Int} (hb : 0 ≤ b) (w : World) : (binOp .shl t (.int k a) (.int k' b)).run P w = .ok (.int k (k.wrap (a * 2 ^ (min b.toNat k.bits)))) w := by
  simp [binOp, Op.shift, show ¬ b < 0 by omega]
theorem shr_run {t : TypeId} {k k' : IntKind} {a b : Int} (hb : 0 ≤ b) (w : World) : (binOp .shr t (.int k a) (.int k' b)).run P w = .ok (.int k (a.fdiv (2 ^ (min b.toNat k.bits)))) w := by
  simp [binOp, Op.shift, show ¬ b < 0 by omega]
theorem cat_run {t : TypeId} {a b : ByteArray} (hb : a.size + b.size ≤ 9223372036854775807) (w : World) : (binOp .add t (.string a) (.string b)).run P w = .ok (.string (a ++ b)) w := by
  have h3 : IntKind.i64.max = 9223372036854775807 := rfl
  have : ¬ (((a.size + b.size : Nat) : Int) > IntKind.i64.max) := by rw [h3]; omega
  simp only [binOp, Op.stringOp]
  rw [if_neg this]
  rfl
end
end Go.Sy

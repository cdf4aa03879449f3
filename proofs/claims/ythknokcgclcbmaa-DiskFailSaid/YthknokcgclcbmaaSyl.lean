/-
  What is proved: operations on two values that the machine leaves to the prover: division, bits, shifts, strings. Conditions: none.
-/
import Derived.Test.YthknokcgclcbmaaSyk
namespace Go.Sy
open Go.RowKit

section
variable {P : Program} {T : Tbs} {E : Entry} {Q : Exit → St → Prop} {ops : Array Oper} {l : List Oper} {r : List It} {st : St}

theorem bin_run {dst : Option Tmp} {op : BinOp} {t yt : TypeId} {x y : Operand} {ty : TypeId} {pos : String} {after : Array Edge} {gd : Option (Nat × Bool)} {fr : List SV} {res : List Res} {a : Act} (hF : FrOk fr res a) {vx vy v : Value} {w : World}
    (hx : (ev fr x).den = vx) (hxno : (ev fr x).isNo = false) (hy : (ev fr y).den = vy) (hyno : (ev fr y).isNo = false) (h1 : op ≠ .eql) (h2 : op ≠ .neq) (hb : (binOp op t vx vy).run P w = .ok v w) :
    (execOp a.eval ⟨dst, .binOp op t x y yt, ty, pos, after, gd⟩).run P w = .ok (.value v) w := by
  have e1 : a.eval x = vx := by rw [ev_denv hF rfl hxno, hx]
  have e2 : a.eval y = vy := by rw [ev_denv hF rfl hyno, hy]
  cases op <;> first | exact absurd rfl h1 | exact absurd rfl h2 | simp [execOp, e1, e2, eqGuard, hb]
/-- x op y: what comes out is told by the prover -/
theorem go_bin {dst : Option Tmp} {op : BinOp} {t yt : TypeId} {x y : Operand} {ty : TypeId} {pos : String} {after : Array Edge} {gd : Option (Nat × Bool)} {vx vy : Value} (v : SV) (hv : v.good (blkAt st.res))
    (hg : guardS ops st.fr ⟨dst, .binOp op t x y yt, ty, pos, after, gd⟩ = .run)
    (hx : (ev st.fr x).den = vx) (hxno : (ev st.fr x).isNo = false) (hy : (ev st.fr y).den = vy) (hyno : (ev st.fr y).isNo = false) (h1 : op ≠ .eql) (h2 : op ≠ .neq) (hb : ∀ w, (binOp op t vx vy).run P w = .ok v.den w)
    (h : Go P E (.o ops l :: r) (st.put dst v) Q) : Go P E (.o ops (⟨dst, .binOp op t x y yt, ty, pos, after, gd⟩ :: l) :: r) st Q :=
  go_val (o := ⟨dst, .binOp op t x y yt, ty, pos, after, gd⟩) hg v hv (fun _ w hR => bin_run hR.fr hx hxno hy hyno h1 h2 (hb w)) h
theorem tk_bin {full : Bool} {held : List (Nat × Res)} {ro0 : List Asn} {q : Nat} {p : List (Nat × Bool)} {listed : List Bool} {dst : Option Tmp} {op : BinOp} {t yt : TypeId} {x y : Operand} {ty : TypeId} {pos : String} {after : Array Edge} {gd : Option (Nat × Bool)} {vx vy : Value} (v : SV) (hv : v.good (blkAt st.res))
    (hchk : (heldOk held st.res ∧ ro0 = st.ro) ∧ planOk ops full ((q, true) :: p) listed = true) (ho : ops.toList[q]? = some ⟨dst, .binOp op t x y yt, ty, pos, after, gd⟩)
    (hg : guardS ops st.fr ⟨dst, .binOp op t x y yt, ty, pos, after, gd⟩ = .run)
    (hx : (ev st.fr x).den = vx) (hxno : (ev st.fr x).isNo = false) (hy : (ev st.fr y).den = vy) (hyno : (ev st.fr y).isNo = false) (h1 : op ≠ .eql) (h2 : op ≠ .neq) (hb : ∀ w, (binOp op t vx vy).run P w = .ok v.den w)
    (h : Go P E (.d ops full held ro0 p (listed.set q true) :: r) (st.put dst v) Q) : Go P E (.d ops full held ro0 ((q, true) :: p) listed :: r) st Q :=
  tk_val (o := ⟨dst, .binOp op t x y yt, ty, pos, after, gd⟩) hchk ho hg v hv (fun _ w hF _ => bin_run hF hx hxno hy hyno h1 h2 (hb w)) h
theorem rem_run {t : TypeId} {k : IntKind} {a b : Int} (hb : b ≠ 0) (w : World) : (binOp .rem t (.int k a) (.int k b)).run P w = .ok (.int k (a.tmod b)) w := by
  simp [binOp, Op.intDiv, hb]
theorem quo_run {t : TypeId} {k : IntKind} {a b : Int} (hb : b ≠ 0) (w : World) : (binOp .quo t (.int k a) (.int k b)).run P w = .ok (.int k (k.wrap (a.tdiv b))) w := by
  simp [binOp, Op.intDiv, hb]
def bitsOf (op : BinOp) (k : IntKind) (a b : Int) : Int :=
  k.wrap ((match op with | .and => BitVec.ofInt k.bits a &&& BitVec.ofInt k.bits b | .or => BitVec.ofInt k.bits a ||| BitVec.ofInt k.bits b | .xor => BitVec.ofInt k.bits a ^^^ BitVec.ofInt k.bits b | _ => BitVec.ofInt k.bits a &&& ~~~(BitVec.ofInt k.bits b)).toNat : Nat)
theorem bits_run {op : BinOp} {t : TypeId} {k : IntKind} {a b : Int} (ho : op = .and ∨ op = .or ∨ op = .xor ∨ op = .andNot) (w : World) : (binOp op t (.int k a) (.int k b)).run P w = .ok (.int k (bitsOf op k a b)) w := by
  rcases ho with rfl | rfl | rfl | rfl <;> simp [binOp, Op.intBits, bitsOf]
theorem shl_run {t : TypeId} {k k' : IntKind} {a b : Int} (hb : 0 ≤ b) (w : World) : (binOp .shl t (.int k a) (.int k' b)).run P w = .ok (.int k (k.wrap (a * 2 ^ (min b.toNat k.bits)))) w := by
  simp [binOp, Op.shift, show ¬ b < 0 by omega]
theorem shr_run {t : TypeId} {k k' : IntKind} {a b : Int} (hb : 0 ≤ b) (w : World) : (binOp .shr t (.int k a) (.int k' b)).run P w = .ok (.int k (a.fdiv (2 ^ (min b.toNat k.bits)))) w := by
  simp [binOp, Op.shift, show ¬ b < 0 by omega]
theorem cat_run {t : TypeId} {a b : ByteArray} (hb : a.size + b.size ≤ 9223372036854775807) (w : World) : (binOp .add t (.string a) (.string b)).run P w = .ok (.string (a ++ b)) w := by
  have h3 : IntKind.i64.max = 9223372036854775807 := rfl
  have : ¬ (((a.size + b.size : Nat) : Int) > IntKind.i64.max) := by rw [h3]; omega
  simp only [binOp, Op.stringOp]
  rw [if_neg this]
  rfl
/-! slices of slices -/
/-- where x[lo:hi:mx] begins -/
def backA (A : Option Addr) (mx lo sz : Nat) : Option Addr := if mx = lo then A else A.map (·.add (lo * sz))
theorem go_back (hT : TbsOk P T) {dst : Option Tmp} {t : TypeId} {x : Operand} {lo hi mx : Option Operand} {ty : TypeId} {pos : String} {after : Array Edge} {gd : Option (Nat × Bool)} {A : Option Addr} {n c : Nat} {et sz : Nat} (lo' hi' mx' : Nat)
    (hg : guardS ops st.fr ⟨dst, .slice t x lo hi mx, ty, pos, after, gd⟩ = .run) (hx : (ev st.fr x).den = .slice A n c) (hxno : (ev st.fr x).isNo = false)
    (ht : (te T.tab t).map (·.k) = some (.slice et)) (he' : (te T.tab et).map (·.size) = some sz)
    (hlo : bound st.fr lo 0 lo') (hhi : bound st.fr hi n hi') (hmx : bound st.fr mx c mx') (hform : mx.isSome = true → hi.isSome = true) (h1 : lo' ≤ hi') (h2 : hi' ≤ mx') (h3 : mx' ≤ c)
    (h : Go P E (.o ops l :: r) (st.put dst (.va (.slice (backA A mx' lo' sz) (hi' - lo') (mx' - lo')))) Q) : Go P E (.o ops (⟨dst, .slice t x lo hi mx, ty, pos, after, gd⟩ :: l) :: r) st Q :=
  go_slice hT A _ n c lo' hi' mx' et sz hg hx (fun e => by rw [e] at hxno; cases hxno) ht he' hlo hhi hmx hform h1 h2 h3 rfl h
theorem tk_back (hT : TbsOk P T) {full : Bool} {held : List (Nat × Res)} {ro0 : List Asn} {q : Nat} {p : List (Nat × Bool)} {listed : List Bool} {dst : Option Tmp} {t : TypeId} {x : Operand} {lo hi mx : Option Operand} {ty : TypeId} {pos : String} {after : Array Edge} {gd : Option (Nat × Bool)} {A : Option Addr} {n c : Nat} {et sz : Nat} (lo' hi' mx' : Nat)
    (hchk : (heldOk held st.res ∧ ro0 = st.ro) ∧ planOk ops full ((q, true) :: p) listed = true) (ho : ops.toList[q]? = some ⟨dst, .slice t x lo hi mx, ty, pos, after, gd⟩)
    (hg : guardS ops st.fr ⟨dst, .slice t x lo hi mx, ty, pos, after, gd⟩ = .run) (hx : (ev st.fr x).den = .slice A n c) (hxno : (ev st.fr x).isNo = false)
    (ht : (te T.tab t).map (·.k) = some (.slice et)) (he' : (te T.tab et).map (·.size) = some sz)
    (hlo : bound st.fr lo 0 lo') (hhi : bound st.fr hi n hi') (hmx : bound st.fr mx c mx') (hform : mx.isSome = true → hi.isSome = true) (h1 : lo' ≤ hi') (h2 : hi' ≤ mx') (h3 : mx' ≤ c)
    (h : Go P E (.d ops full held ro0 p (listed.set q true) :: r) (st.put dst (.va (.slice (backA A mx' lo' sz) (hi' - lo') (mx' - lo')))) Q) : Go P E (.d ops full held ro0 ((q, true) :: p) listed :: r) st Q :=
  tk_slice hT A _ n c lo' hi' mx' et sz hchk ho hg hx (fun e => by rw [e] at hxno; cases hxno) ht he' hlo hhi hmx hform h1 h2 h3 rfl h
theorem rd_take {α : Type} {enc : α → List Value} {sz n k : Nat} {A : Option Addr} {L : List α} {h : Hp} (hlen : ∀ x, (enc x).length = sz) (p : (Rd sz A n (L.flatMap enc)).holds h) (hk : k ≤ n) : (Rd sz A k ((L.take k).flatMap enc)).holds h := by
  rw [← flat_take hlen]
  exact Rd.sub p hk
theorem rd_part {α : Type} {enc : α → List Value} {sz n lo m mx : Nat} {A : Option Addr} {L : List α} {h : Hp} (hlen : ∀ x, (enc x).length = sz) (p : (Rd sz A n (L.flatMap enc)).holds h) (hm : lo + m ≤ n) (hx : lo + m ≤ mx) : (Rd sz (backA A mx lo sz) m (((L.take (lo + m)).drop lo).flatMap enc)).holds h := by
  have q := rd_take hlen p hm
  rcases Nat.eq_zero_or_pos m with h0 | h0
  · subst h0
    have e : (L.take (lo + 0)).drop lo = [] := List.drop_eq_nil_of_le (by simp; omega)
    rw [e]
    exact Rd.nil _ _ _
  · obtain ⟨g, o, cur, e, fz, rfl, _⟩ := q.2.2 (by omega)
    have q2 := Rd.drop q (k := lo) (by omega)
    rw [flat_drop hlen, show lo + m - lo = m by omega] at q2
    unfold backA
    rw [if_neg (by omega)]
    simpa [addr_add] using q2
/-- a slot is told otherwise -/
theorem go_slot {todo : List It} (t : Nat) (x y : SV) (hx : st.fr[t]? = some x) (hno : x.isNo = false) (hxy : x.den = y.den) (hy : ∀ β, y.good β) (h : Go P E todo ⟨st.fr.set t y, st.res, st.ro⟩ Q) : Go P E todo st Q := fun a w hR => by
  refine h a w ⟨⟨by simp [hR.fr.size], fun i z hz => ?_, fun z hz => ?_, hR.fr.defers⟩, hR.res⟩
  · rw [List.getElem?_set] at hz
    split at hz
    · rename_i e
      subst e
      split at hz
      · cases hz
        have h1 := SV.den_of_is (hR.fr.is _ _ hx) (fun e => by rw [e] at hno; cases hno)
        rw [h1, hxy]
        exact SV.is_den _
      · cases hz
    · exact hR.fr.is i z hz
  · rcases List.mem_or_eq_of_mem_set hz with hz | rfl
    · exact hR.fr.good z hz
    · exact hy _
end
end Go.Sy

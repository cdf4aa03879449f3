/-
  What is proved: each operation that the machine carries out by itself does what the model's does. Conditions: none.
-/
import Derived.Test.YthknokcgclcbmaaSy4
namespace Go.Sy
open Go.RowKit

def sliceList (l : List SV) (off n : Nat) : List SV := (l.drop off).take n
/-- a struct's or an array's cells, as a value has them -/
def aggS : SV → Option (List SV)
  | .ag l => some l
  | .va (.agg a) => some (a.toList.map vaS)
  | _ => none
theorem aggS_den {x : SV} {l : List SV} (h : aggS x = some l) : x.den = .agg (SV.denL l).toArray := by
  cases x with
  | va x => cases x <;> simp_all [aggS, SV.den]; subst h; simp [SV.denL_eq, vaS_den, Function.comp_def]
  | ag l => simp_all [aggS, SV.den]
  | _ => simp_all [aggS]
theorem aggS_good {β : Nat → Option Nat} {x : SV} {l : List SV} (h : aggS x = some l) (hg : x.good β) : SV.goodL β l := by
  cases x with
  | va x => cases x <;> simp_all [aggS]; subst h; simp [SV.goodL_iff, vaS_good]
  | ag l' => simp_all [aggS]; subst h; exact hg
  | _ => simp_all [aggS]
theorem aggS_no {x : SV} {l : List SV} (h : aggS x = some l) : x ≠ .no := by rintro rfl; cases h

def partS (e : TE) (l : List SV) (off : Nat) : Option SV := if e.k.isAgg then some (.ag (sliceList l off e.size)) else l[off]?
theorem partS_ok {P : Program} {T : Tab} (hT : TabOk P T) {t : TypeId} {e : TE} (ht : te T t = some e) {l : List SV} {off : Nat} {x : SV} (h : partS e l off = some x) (w : World) :
    (part t (SV.denL l).toArray off).run P w = .ok x.den w := by
  obtain ⟨i, u, z, hi, hu, hz, hk, hs, _, _⟩ := te_spec hT ht
  unfold part
  rw [Sem.run_bind, isAgg_run P w hu]
  unfold partS at h
  rw [hk] at h
  cases ha : (tkOf u).isAgg
  · rw [ha] at h
    simp only [Bool.false_eq_true, if_false] at h
    simp [SV.denL_eq, h]
  · rw [ha] at h
    simp only [if_true] at h
    cases h
    have hsz : (sizeOf t).run P w = .ok i.size w := by simp [sizeOf, typeInfo, hi]
    simp only [Result.andThen_ok, if_true, Sem.run_bind, hsz, Sem.run_pure, SV.den]
    congr 3
    simp [SV.denL_eq, sliceList, hs, List.extract_eq_take_drop, List.map_take, List.map_drop, Nat.add_sub_cancel_left]
theorem goodL_sub {β : Nat → Option Nat} {l : List SV} (h : SV.goodL β l) (off n : Nat) : SV.goodL β (sliceList l off n) :=
  (SV.goodL_iff _ _).2 fun x hx => (SV.goodL_iff _ _).1 h x (List.mem_of_mem_drop (List.mem_of_mem_take hx))
theorem partS_good {β : Nat → Option Nat} {e : TE} {l : List SV} {off : Nat} {x : SV} (h : partS e l off = some x) (hg : SV.goodL β l) : x.good β := by
  unfold partS at h
  split at h
  · cases h; exact goodL_sub hg _ _
  · exact (SV.goodL_iff _ _).1 hg x (List.mem_of_getElem? h)

/-! pointers -/
def addPt (x : SV) (off : Nat) : Option SV :=
  match x with
  | .pt r b o => some (.pt r b (o + off))
  | .va (.pointer (some ⟨b, o, none⟩)) => some (.va (.pointer (some ⟨b, o + off, none⟩)))
  | _ => none
theorem addPt_spec0 {x y : SV} {off : Nat} (h : addPt x off = some y) : ∃ b o, x.den = .pointer (some ⟨b, o, none⟩) ∧ y.den = .pointer (some ⟨b, o + off, none⟩) := by
  unfold addPt at h
  split at h
  · cases h; exact ⟨_, _, rfl, rfl⟩
  · cases h; exact ⟨_, _, rfl, rfl⟩
  · cases h
def fieldOf (T : Tab) (s : TypeId) (f : Nat) : Option (Nat × TE) :=
  match te T s with
  | some e => match e.k with
    | .struct fs => match fs[f]? with
      | some (off, t) => match te T t with
        | some e' => some (off, e')
        | none => none
      | none => none
    | _ => none
  | none => none
theorem fieldOf_spec {P : Program} {T : Tab} (hT : TabOk P T) {s : TypeId} {f : Nat} {off : Nat} {e : TE} (h : fieldOf T s f = some (off, e)) :
    ∃ (fs : Array Field) (fd : Field), P.underlying s = some (.struct fs) ∧ fs[f]? = some fd ∧ fd.offset = off ∧ te T fd.type = some e := by
  unfold fieldOf at h
  split at h
  · rename_i e0 he0
    obtain ⟨i, u, z, hi, hu, hz, hk, _⟩ := te_spec hT he0
    split at h
    · rename_i fs hfs
      rw [hk] at hfs
      cases u <;> simp [tkOf] at hfs
      rename_i fa
      subst hfs
      split at h
      · rename_i o t hft
        split at h
        · rename_i e' he'
          cases h
          rw [List.getElem?_map] at hft
          cases hx : fa.toList[f]? with
          | none => rw [hx] at hft; cases hft
          | some fd =>
            rw [hx] at hft
            simp at hft
            obtain ⟨rfl, rfl⟩ := hft
            exact ⟨fa, fd, hu, by simpa using hx, rfl, he'⟩
        · cases h
      · cases h
    · cases h
  · cases h
theorem addr_add (b o j : Nat) : (⟨b, o, none⟩ : Addr).add j = ⟨b, o + j, none⟩ := by unfold Addr.add; split <;> simp_all
theorem addPt_spec {x y : SV} {off : Nat} (h : addPt x off = some y) : ∃ a : Addr, x.den = .pointer (some a) ∧ y.den = .pointer (some (a.add off)) := by
  obtain ⟨b, o, h1, h2⟩ := addPt_spec0 h
  exact ⟨_, h1, by rw [addr_add]; exact h2⟩
theorem addPt_good {β : Nat → Option Nat} {x y : SV} {off : Nat} (h : addPt x off = some y) (hg : x.good β) : y.good β := by
  unfold addPt at h
  split at h
  · cases h; exact hg
  · cases h; trivial
  · cases h
theorem addPt_no {x y : SV} {off : Nat} (h : addPt x off = some y) : x ≠ .no := by rintro rfl; cases h

def fieldAddrS (T : Tab) (s : TypeId) (x : SV) (f : Nat) : StepR :=
  match fieldOf T s f with
  | some (off, e) => if e.size = 0 then .no else match addPt x off with | some y => .ok y | none => .no
  | none => .no
theorem fieldAddrS_ok {P : Program} {T : Tab} (hT : TabOk P T) {o : Oper} {s : TypeId} {x : Operand} {f : Nat} (ho : o.op = .fieldAddr s x f) (st : St) : (fieldAddrS T s (ev st.fr x) f).Sound P o st := by
  unfold fieldAddrS
  split
  · rename_i off e he
    obtain ⟨fs, fd, hu, hf, ho', ht⟩ := fieldOf_spec hT he
    split
    · trivial
    · rename_i hsz
      split
      · rename_i y hy
        refine ok_of fun a w h => ?_
        obtain ⟨ad, h1, h2⟩ := addPt_spec hy
        have h3 := ev_den h rfl (addPt_no hy)
        obtain ⟨i, u, z, hi, hu', hz, hk, hs, _, _⟩ := te_spec hT ht
        refine ⟨y.den, ?_, SV.is_den _, addPt_good hy (ev_good h x)⟩
        rw [h2]
        simp only [execOp, ho, h3, h1, Instr.fieldAt, Sem.run_bind, run_underlying hu, Result.andThen_ok, hf, Instr.sureAddr, Sem.run_pure, fieldPlace]
        have hsz' : (sizeOf fd.type).run P w = .ok i.size w := by simp [sizeOf, typeInfo, hi]
        rw [hs] at hsz
        simp [hsz', hsz, ho']
      · trivial
  · trivial

def fieldS (T : Tab) (s : TypeId) (x : SV) (f : Nat) : StepR :=
  match fieldOf T s f, aggS x with
  | some (off, e), some l => (match partS e l off with | some y => .ok y | none => .no)
  | _, _ => .no
theorem fieldS_ok {P : Program} {T : Tab} (hT : TabOk P T) {o : Oper} {s : TypeId} {x : Operand} {f : Nat} (ho : o.op = .field s x f) (st : St) : (fieldS T s (ev st.fr x) f).Sound P o st := by
  unfold fieldS
  split
  · rename_i off e l he hl
    obtain ⟨fs, fd, hu, hf, ho', ht⟩ := fieldOf_spec hT he
    split
    · rename_i y hy
      refine ok_of fun a w h => ?_
      have h3 := ev_den h rfl (aggS_no hl)
      refine ⟨y.den, ?_, SV.is_den _, partS_good hy (aggS_good hl (ev_good h x))⟩
      subst ho'
      simp [execOp, ho, h3, aggS_den hl, Instr.field, run_underlying hu, hf, asAgg, partS_ok hT ht hy w]
    · trivial
  · trivial

def extractS (x : SV) (i : Nat) : StepR :=
  match x with
  | .tu l => match l[i]? with | some y => .ok y | none => .no
  | .va (.tuple a) => match a.toList[i]? with | some y => .ok (vaS y) | none => .no
  | _ => .no
theorem extractS_ok {P : Program} {o : Oper} {x : Operand} {i : Nat} (ho : o.op = .extract x i) (st : St) : (extractS (ev st.fr x) i).Sound P o st := by
  cases hx : ev st.fr x with
  | tu l =>
    simp only [extractS]
    split
    · rename_i y hy
      refine ok_of fun a w h => ?_
      refine ⟨y.den, ?_, SV.is_den _, ?_⟩
      · simp [execOp, ho, ev_den h hx (by simp), SV.den, Instr.extract, SV.denL_eq, hy]
      · have := ev_good h x; rw [hx] at this; exact (SV.goodL_iff _ _).1 this y (List.mem_of_getElem? hy)
    · trivial
  | va v =>
    cases v <;> try trivial
    rename_i vs
    simp only [extractS]
    split
    · rename_i y hy
      refine ok_of fun a w h => ?_
      refine ⟨(vaS y).den, ?_, SV.is_den _, vaS_good _ _⟩
      rw [vaS_den]
      have hy' : vs[i]? = some y := by simpa using hy
      simp [execOp, ho, ev_den h hx (by simp), SV.den, Instr.extract, hy']
    · trivial
  | _ => trivial

def nilCheckS (x : SV) : StepR :=
  match x with
  | .pt r b o => .ok (.pt r b o)
  | .va (.pointer (some a)) => .ok (.va (.pointer (some a)))
  | .fu (.func k) a c => .ok (.fu (.func k) a c)
  | .va (.func (.func k) a c) => .ok (.va (.func (.func k) a c))
  | _ => .no
theorem nilCheckS_ok {P : Program} {o : Oper} {x : Operand} (ho : o.op = .nilCheck x) (st : St) : (nilCheckS (ev st.fr x)).Sound P o st := by
  unfold nilCheckS
  split
  all_goals first
    | trivial
    | (rename_i hx
       refine ok_of fun a w h => ?_
       refine ⟨_, ?_, SV.is_den _, by have := ev_good h x; rw [hx] at this; exact this⟩
       simp [execOp, ho, ev_den h hx (by simp), SV.den])

def pickS (c a b : SV) : StepR :=
  match c with
  | .bl true => .ok a
  | .bl false => .ok b
  | _ => .no
theorem pickS_ok {P : Program} {o : Oper} {x y z : Operand} (ho : o.op = .pick x y z) (st : St) : (pickS (ev st.fr x) (ev st.fr y) (ev st.fr z)).Sound P o st := by
  unfold pickS
  split
  · rename_i hx
    refine ok_of fun a w h => ?_
    exact ⟨a.eval y, by simp [execOp, ho, ev_den h hx (by simp), SV.den, asBool], ev_is h y, ev_good h y⟩
  · rename_i hx
    refine ok_of fun a w h => ?_
    exact ⟨a.eval z, by simp [execOp, ho, ev_den h hx (by simp), SV.den, asBool], ev_is h z, ev_good h z⟩
  · trivial

def unS (op : UnOp) (x : SV) : StepR :=
  match op with
  | .not => match notS x with | some y => .ok y | none => .no
  | .neg => match x with | .va (.int k n) => .wrap k (0 - n) | _ => .no
  | _ => .no
theorem unS_ok {P : Program} {o : Oper} {op : UnOp} {t : TypeId} {x : Operand} (ho : o.op = .unOp op t x) (st : St) : (unS op (ev st.fr x)).Sound P o st := by
  cases op with
  | not =>
    simp only [unS]
    split
    · rename_i y hy
      refine ok_of fun a w h => ?_
      obtain ⟨b, h1, h2⟩ := notS_spec hy
      refine ⟨y.den, ?_, SV.is_den _, asBoolS_good h2⟩
      simp [execOp, ho, ev_den h rfl (asBoolS_no h1), asBoolS_den h1, asBoolS_den h2, Op.unary]
    · trivial
  | neg =>
    simp only [unS]
    split
    · rename_i k n hx
      intro a w h
      simp [execOp, ho, ev_den h hx (by simp), SV.den, Op.unary, Op.intArith]
    · trivial
  | _ => trivial

def convS (T : Tab) (src dst : TypeId) (x : SV) : StepR :=
  match te T src, te T dst with
  | some _, some d => match d.k, x with
    | .int k, .va (.int _ n) => .wrap k n
    | .string, .va (.string s) => .ok (.va (.string s))
    | _, _ => .no
  | _, _ => .no
theorem convS_ok {P : Program} {T : Tab} (hT : TabOk P T) {o : Oper} {src dst : TypeId} {x : Operand} (ho : o.op = .convert src dst x) (st : St) : (convS T src dst (ev st.fr x)).Sound P o st := by
  unfold convS
  split
  · rename_i s d hs hd
    obtain ⟨i, u, z, hi, hu, hz, hk, _⟩ := te_spec hT hs
    obtain ⟨i', u', z', hi', hu', hz', hk', _⟩ := te_spec hT hd
    split
    · rename_i k kk n hkk hx
      rw [hk'] at hkk
      cases u' <;> simp [tkOf] at hkk
      subst hkk
      intro a w h
      simp [execOp, ho, ev_den h hx (by simp), SV.den, convert, run_underlying hu, run_underlying hu', Conv.intToInt]
    · rename_i s hkk hx
      rw [hk'] at hkk
      cases u' <;> simp [tkOf] at hkk
      refine ok_of fun a w h => ?_
      refine ⟨.string s, ?_, rfl, trivial⟩
      simp [execOp, ho, ev_den h hx (by simp), SV.den, convert, run_underlying hu, run_underlying hu']
    · trivial
  · trivial
end Go.Sy

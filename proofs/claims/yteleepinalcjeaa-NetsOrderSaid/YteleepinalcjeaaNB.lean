/-
  What is proved: what the functions of the law's package do that compare messages. Conditions: none.
-/
import Derived.Test.YteleepinalcjeaaNA
namespace Go.Proofs.Yteleepinalcjeaa
open Go.Sy

/-- an entry: its epoch, its order's five numbers -/
abbrev Ent := Int × Int × Int × Int × Int × Int
def encE (e : Ent) : List Value := [.int .i64 e.1, .int .i64 e.2.1, .int .i64 e.2.2.1, .int .i64 e.2.2.2.1, .int .i64 e.2.2.2.2.1, .int .i64 e.2.2.2.2.2]
theorem encE_len (e : Ent) : (encE e).length = 6 := rfl
def entB (e f : Ent) : Bool := e.1 == f.1 && ((e.2.1 == f.2.1 && (e.2.2.1 == f.2.2.1 && (e.2.2.2.1 == f.2.2.2.1 && (e.2.2.2.2.1 == f.2.2.2.2.1 && (e.2.2.2.2.2 == f.2.2.2.2.2 && true))))) && true)
theorem entB_iff (e f : Ent) : entB e f = true ↔ e = f := by
  obtain ⟨a, b, c, d, g, h⟩ := e
  obtain ⟨a', b', c', d', g', h'⟩ := f
  simp [entB]
theorem ok32 : EqOk Try.prog 32 := ⟨by kernel_rfl, by kernel_rfl⟩
theorem ok40 : EqOk Try.prog 40 := ⟨by kernel_rfl, by kernel_rfl⟩
theorem ok34 : EqOk Try.prog 34 := ⟨by kernel_rfl, by kernel_rfl⟩
theorem eq32 (a b c d e a' b' c' d' e' : Int) (n : Nat) (w : World) : (Op.equalIn (n + 2) 32 (.agg #[.int .i64 a, .int .i64 b, .int .i64 c, .int .i64 d, .int .i64 e]) (.agg #[.int .i64 a', .int .i64 b', .int .i64 c', .int .i64 d', .int .i64 e'])).run Try.prog w
   = .ok (a == a' && (b == b' && (c == c' && (d == d' && (e == e' && true))))) w := by
  refine eq_struct ok32 rfl ?_
  iterate 5 refine eqF_int (by decide) Try.underlying3 rfl rfl ?_
  exact eqF_nil
theorem eq34 (a b c a' b' c' : Int) (n : Nat) (w : World) : (Op.equalIn (n + 2) 34 (.agg #[.int .i64 a, .int .i64 b, .int .i64 c]) (.agg #[.int .i64 a', .int .i64 b', .int .i64 c'])).run Try.prog w
   = .ok (a == a' && (b == b' && (c == c' && true))) w := by
  refine eq_struct ok34 rfl ?_
  iterate 3 refine eqF_int (by decide) Try.underlying3 rfl rfl ?_
  exact eqF_nil
theorem eq40 (e f : Ent) (n : Nat) (w : World) : (Op.equalIn (n + 3) 40 (.agg (encE e).toArray) (.agg (encE f).toArray)).run Try.prog w = .ok (entB e f) w := by
  refine eq_struct ok40 rfl ?_
  refine eqF_int (by decide) Try.underlying3 rfl rfl ?_
  refine eqF_agg (by decide) Try.underlying32 (i := (Try.prog.info? 32).get rfl) rfl rfl rfl rfl (eq32 _ _ _ _ _ _ _ _ _ _ n w) ?_
  exact eqF_nil

set_option maxRecDepth 100000 in
theorem sameEntries (A B : Option Addr) (es fs : List Ent) (c d : Nat) (hn : es.length ≤ 1000000000) :
    Triple Try.prog 14 [.slice A es.length c, .slice B fs.length d] [] [Rd 6 A es.length (es.flatMap encE), Rd 6 B fs.length (fs.flatMap encE)] Unit (fun _ => .bool (decide (es = fs))) (fun _ => True) (fun _ => []) := by
  refine triple_intro Try.tbs_ok Try.func14 rfl [.va (.slice A es.length c), .va (.slice B fs.length d)] [] ⟨trivial, trivial, trivial⟩ rfl (by simp) ?_
  intro E
  refine go Try.tbs_ok 1000 ?_
  refine ev_if_ne (fun h => ?_) (fun h => ?_)
  · refine go Try.tbs_ok 1000 ?_
    have h1 : decide (es = fs) = false := by
      rw [decide_eq_false_iff_not]
      rintro rfl
      exact h rfl
    rw [h1]
    exact ev_fin ⟨trivial, _, rfl, (), rfl, trivial, Frm.nil _⟩
  · have hl : es.length = fs.length := by omega
    refine go Try.tbs_ok 1000 ?_
    refine ev_stop (go_loop (ι := Nat) [5, 11, 12, 13, 14, 15, 16, 17, 18, 19, 20, 21, 22, 23, 24, 25] (fun i => [(5, .va (.int .i64 i))]) (fun _ => []) (fun i => i ≤ es.length ∧ es.take i = fs.take i) (fun i => es.length - i) 0 ⟨Nat.zero_le _, rfl⟩
      ⟨⟨by kernel_rfl, by kernel_rfl⟩, ⟨_, rfl⟩, ⟨_, rfl⟩, by kernel_rfl, by kernel_rfl⟩ (fun i hi => ?_))
    refine go Try.tbs_ok 1000 ?_
    refine ev_if_lt (fun hlt => ?_) (fun hge => ?_)
    · have hlt' : i < es.length := by omega
      have hlt2 : i < fs.length := by omega
      refine go Try.tbs_ok 1000 ?_
      refine ev_stop (go_draw Try.tbs_ok true [] [(0,true),(1,true),(2,true),(3,true),(4,true),(5,true),(6,true),(7,true),(8,true)] rfl ?_)
      refine go Try.tbs_ok 1000 ?_
      refine ev_need ⟨⟨trivial, rfl⟩, by kernel_rfl⟩ ?_
      refine ev_stop (tk_index Try.tbs_ok A es.length c .i64 i 40 6 (.inl 0) (Rd 6 A es.length (es.flatMap encE)) _ ⟨⟨trivial, rfl⟩, by kernel_rfl⟩ rfl rfl rfl rfl rfl rfl hlt' rfl (fun _ h => h) (fun g o hA => ?_))
      subst hA
      refine tk_load Try.tbs_ok g _ o (i * 6) 6 es.length _ (.inl 0) (Rd 6 (some ⟨g, o, none⟩) es.length (es.flatMap encE)) _ (encE es[i]) ⟨⟨trivial, rfl⟩, by kernel_rfl⟩ rfl rfl rfl rfl rfl (fun _ h => h) rfl (flat_get encE_len hlt' rfl) rfl (by omega) _ rfl ?_
      refine go Try.tbs_ok 1000 ?_
      refine ev_need ⟨⟨trivial, rfl⟩, by kernel_rfl⟩ ?_
      refine ev_stop (tk_index Try.tbs_ok B fs.length d .i64 i 40 6 (.inl 1) (Rd 6 B fs.length (fs.flatMap encE)) _ ⟨⟨trivial, rfl⟩, by kernel_rfl⟩ rfl rfl rfl rfl rfl rfl hlt2 rfl (fun _ h => h) (fun g2 o2 hB => ?_))
      subst hB
      refine tk_load Try.tbs_ok g2 _ o2 (i * 6) 6 fs.length _ (.inl 1) (Rd 6 (some ⟨g2, o2, none⟩) fs.length (fs.flatMap encE)) _ (encE fs[i]) ⟨⟨trivial, rfl⟩, by kernel_rfl⟩ rfl rfl rfl rfl rfl (fun _ h => h) rfl (flat_get encE_len hlt2 rfl) rfl (by omega) _ rfl ?_
      refine tk_val (o := _) ⟨⟨trivial, rfl⟩, by kernel_rfl⟩ rfl rfl (.bq (!(entB es[i] fs[i]))) trivial (fun a w hF _ => neq_run (ev_denv hF rfl rfl) (ev_denv hF rfl rfl) (by kernel_rfl) (eq40 _ _ 9997 w)) ?_
      refine go Try.tbs_ok 1000 ?_
      refine ev_need ⟨⟨trivial, rfl⟩, by kernel_rfl⟩ ?_
      refine ev_if (fun hb => ?_) (fun hb => ?_)
      · refine go Try.tbs_ok 1000 ?_
        have h1 : decide (es = fs) = false := by
          rw [decide_eq_false_iff_not]
          rintro rfl
          simp [(entB_iff _ _).2 rfl] at hb
        refine ev_fin ⟨trivial, _, rfl, (), congrArg Value.bool h1.symm, trivial, Frm.nil _⟩
      · refine go Try.tbs_ok 1000 ?_
        refine ev_w64 (by constructor <;> omega) ?_
        refine ev_fin (round_next (i + 1) ⟨by omega, ?_⟩ (by omega) ⟨⟨by kernel_rfl, by kernel_rfl⟩, ⟨_, rfl⟩, ⟨_, rfl⟩, by kernel_rfl, by kernel_rfl⟩)
        have h1 : es[i] = fs[i] := (entB_iff _ _).1 (by simpa using hb)
        rw [List.take_add_one, List.take_add_one, hi.2, List.getElem?_eq_getElem hlt', List.getElem?_eq_getElem hlt2, h1]
    · refine go Try.tbs_ok 1000 ?_
      have h1 : es = fs := by
        have h2 : i = es.length := by omega
        have h3 := hi.2
        rw [h2, List.take_length, hl, List.take_length] at h3
        exact h3
      have h2 : decide (es = fs) = true := decide_eq_true h1
      refine ev_fin (go Try.tbs_ok 1000 ?_)
      refine ev_fin ⟨trivial, _, rfl, (), congrArg Value.bool h2.symm, trivial, Frm.nil _⟩
/-- a message -/
structure Msg where
  s : MailS
  es : List Ent
  deriving DecidableEq
def ordB (m m' : MailS) : Bool := m.o1 == m'.o1 && (m.o2 == m'.o2 && (m.o3 == m'.o3 && (m.o4 == m'.o4 && (m.o5 == m'.o5 && true))))
def ansB (m m' : MailS) : Bool := m.a1 == m'.a1 && (m.a2 == m'.a2 && (m.a3 == m'.a3 && true))
set_option maxRecDepth 100000 in
set_option maxHeartbeats 4000000 in
theorem sameMail (m m' : MailS) (A B : Option Addr) (es fs : List Ent) (c d : Nat) (hn : es.length ≤ 1000000000) :
    Triple Try.prog 13 [mailV m A es.length c, mailV m' B fs.length d] [] [Rd 6 A es.length (es.flatMap encE), Rd 6 B fs.length (fs.flatMap encE)] Unit (fun _ => .bool (decide ((⟨m, es⟩ : Msg) = ⟨m', fs⟩))) (fun _ => True) (fun _ => []) := by
  refine triple_intro Try.tbs_ok Try.func13 rfl [.ag (mailSV m A es.length c), .ag (mailSV m' B fs.length d)] [] ⟨by simp [SV.good, SV.goodL, mailSV], by simp [SV.good, SV.goodL, mailSV], trivial⟩ rfl (by simp) ?_
  intro E
  refine go Try.tbs_ok 1000 ?_
  refine ev_new fun b1 => ?_
  refine ev_new fun b2 => ?_
  refine ev_if_eq (fun h0 => ?_) (fun h0 => ?ne)
  case ne =>
    refine go Try.tbs_ok 1000 ?_
    exact ev_fin ⟨trivial, _, rfl, (), congrArg Value.bool (decide_eq_false (fun e => h0 (congrArg (fun x : Msg => x.s.kind) e))).symm, trivial, Frm.nil _⟩
  refine go Try.tbs_ok 1000 ?_
  refine ev_if_eq (fun h1 => ?_) (fun h1 => ?ne)
  case ne =>
    refine go Try.tbs_ok 1000 ?_
    exact ev_fin ⟨trivial, _, rfl, (), congrArg Value.bool (decide_eq_false (fun e => h1 (congrArg (fun x : Msg => x.s.src) e))).symm, trivial, Frm.nil _⟩
  refine go Try.tbs_ok 1000 ?_
  refine ev_if_eq (fun h2 => ?_) (fun h2 => ?ne)
  case ne =>
    refine go Try.tbs_ok 1000 ?_
    exact ev_fin ⟨trivial, _, rfl, (), congrArg Value.bool (decide_eq_false (fun e => h2 (congrArg (fun x : Msg => x.s.dst) e))).symm, trivial, Frm.nil _⟩
  refine go Try.tbs_ok 1000 ?_
  refine ev_if_eq (fun h3 => ?_) (fun h3 => ?ne)
  case ne =>
    refine go Try.tbs_ok 1000 ?_
    exact ev_fin ⟨trivial, _, rfl, (), congrArg Value.bool (decide_eq_false (fun e => h3 (congrArg (fun x : Msg => x.s.stream) e))).symm, trivial, Frm.nil _⟩
  refine go Try.tbs_ok 1000 ?_
  refine ev_if_eq (fun h4 => ?_) (fun h4 => ?ne)
  case ne =>
    refine go Try.tbs_ok 1000 ?_
    exact ev_fin ⟨trivial, _, rfl, (), congrArg Value.bool (decide_eq_false (fun e => h4 (congrArg (fun x : Msg => x.s.epoch) e))).symm, trivial, Frm.nil _⟩
  refine go Try.tbs_ok 1000 ?_
  refine ev_if_eq (fun h5 => ?_) (fun h5 => ?ne)
  case ne =>
    refine go Try.tbs_ok 1000 ?_
    exact ev_fin ⟨trivial, _, rfl, (), congrArg Value.bool (decide_eq_false (fun e => h5 (congrArg (fun x : Msg => x.s.view) e))).symm, trivial, Frm.nil _⟩
  refine go Try.tbs_ok 1000 ?_
  refine ev_if_eq (fun h6 => ?_) (fun h6 => ?ne)
  case ne =>
    refine go Try.tbs_ok 1000 ?_
    exact ev_fin ⟨trivial, _, rfl, (), congrArg Value.bool (decide_eq_false (fun e => h6 (congrArg (fun x : Msg => x.s.base) e))).symm, trivial, Frm.nil _⟩
  refine go Try.tbs_ok 1000 ?_
  refine ev_if_eq (fun h7 => ?_) (fun h7 => ?ne)
  case ne =>
    refine go Try.tbs_ok 1000 ?_
    exact ev_fin ⟨trivial, _, rfl, (), congrArg Value.bool (decide_eq_false (fun e => h7 (congrArg (fun x : Msg => x.s.length) e))).symm, trivial, Frm.nil _⟩
  refine go Try.tbs_ok 1000 ?_
  refine ev_if_eq (fun h8 => ?_) (fun h8 => ?ne)
  case ne =>
    refine go Try.tbs_ok 1000 ?_
    exact ev_fin ⟨trivial, _, rfl, (), congrArg Value.bool (decide_eq_false (fun e => h8 (congrArg (fun x : Msg => x.s.stamp) e))).symm, trivial, Frm.nil _⟩
  refine go Try.tbs_ok 1000 ?_
  refine ev_call (sameEntries A B es fs c d hn) [] [.inl 0, .inl 1] (fun _ => []) rfl rfl (by decide) rfl (by simp) (fun x => rfl) (fun x => newsOk_nil _) (fun x => ⟨rfl, rfl, trivial⟩) (fun x hx => ?_)
  refine go Try.tbs_ok 1000 ?_
  refine ev_if_lt (fun h9 => ?_) (fun h9 => ?ne)
  case ne =>
    refine go Try.tbs_ok 1000 ?_
    exact ev_fin ⟨trivial, _, rfl, (), congrArg Value.bool (decide_eq_false (fun e => h9 (congrArg (fun x : Msg => x.es) e))).symm, trivial, Frm.nil _⟩
  refine go Try.tbs_ok 1000 ?_
  refine ev_stop (go_val rfl (.bq (ordB m m')) trivial (fun a w hR => eql_run (ev_denv hR.fr rfl rfl) (ev_denv hR.fr rfl rfl) (by kernel_rfl) (eq32 _ _ _ _ _ _ _ _ _ _ 9998 w)) ?_)
  refine go Try.tbs_ok 1000 ?_
  refine ev_if (fun h10 => ?_) (fun h10 => ?ne)
  case ne =>
    refine go Try.tbs_ok 1000 ?_
    exact ev_fin ⟨trivial, _, rfl, (), congrArg Value.bool (decide_eq_false (fun e => by rw [show m = m' from congrArg (fun x : Msg => x.s) e] at h10; simp [ordB] at h10)).symm, trivial, Frm.nil _⟩
  refine go Try.tbs_ok 1000 ?_
  refine ev_stop (go_val rfl (.bq (ansB m m')) trivial (fun a w hR => eql_run (ev_denv hR.fr rfl rfl) (ev_denv hR.fr rfl rfl) (by kernel_rfl) (eq34 _ _ _ _ _ _ 9998 w)) ?_)
  refine go Try.tbs_ok 1000 ?_
  refine ev_fin ⟨trivial, _, rfl, (), congrArg Value.bool ?_, trivial, Frm.nil _⟩
  cases m
  cases m'
  simp only [ordB, ansB, Bool.and_eq_true, beq_iff_eq, Bool.and_true] at *
  rw [Bool.eq_iff_iff]
  simp [*]
end Go.Proofs.Yteleepinalcjeaa

/-
  What is proved: lists of messages, and what compares them. Conditions: none.
-/
import Derived.Test.YteleepinalcjeaaNB
namespace Go.Proofs.Yteleepinalcjeaa
open Go.Sy

/-- a message that lies in memory: its entries' base and capacity -/
structure Item where
  s : MailS
  es : List Ent
  a : Option Addr
  c : Nat
def Item.msg (x : Item) : Msg := ⟨x.s, x.es⟩
def encI (x : Item) : List Value := mailL x.s x.a x.es.length x.c
theorem encI_len (x : Item) : (encI x).length = 18 := rfl
def Item.own (x : Item) : Asn := Own 40 6 x.a x.es.length (x.es.flatMap encE)
def Item.rd (x : Item) : Asn := Rd 6 x.a x.es.length (x.es.flatMap encE)
theorem Item.own_rd (x : Item) (h : Hp) (p : x.own.holds h) : x.rd.holds h := Own.rd p
/-- a message's entries are no more than -/
def few (l : List Item) : Prop := ∀ x ∈ l, x.es.length ≤ 1000000000

theorem twin' (m : MailS) (A : Option Addr) (n c : Nat) (cs : List Value) (hn : n ≤ 1000000000) :
    Triple Try.prog 31 [mailV m A n c] [] [Rd 6 A n cs] (Option Addr) (fun A2 => mailV m A2 n n) (fun A2 => A2 = none → A = none) (fun A2 => [Own 40 6 A2 n cs]) :=
  Triple.npure _ (List.mem_singleton.2 rfl) (p := A = none → n = 0 ∧ cs = []) (fun _ p e => Rd.pos p e) (fun h0 => twin m A n c cs hn h0)

theorem same_at {I J : List Item} (hI : few I) {i : Nat} (hi : i < I.length) (hj : i < J.length) :
    Triple Try.prog 13 [.agg (encI I[i]).toArray, .agg (encI J[i]).toArray] [] [Asn.star (I.map Item.rd), Asn.star (J.map Item.rd)] Unit (fun _ => .bool (decide (I[i].msg = J[i].msg))) (fun _ => True) (fun _ => []) := by
  refine (sameMail I[i].s J[i].s I[i].a J[i].a I[i].es J[i].es I[i].c J[i].c (hI _ (List.getElem_mem hi))).reads ?_
  intro A hA
  simp only [List.mem_cons, List.not_mem_nil, or_false] at hA
  rcases hA with rfl | rfl
  · exact ⟨_, List.mem_cons_self, fun h p => starH_mem (List.mem_map_of_mem (f := Item.rd) (List.getElem_mem hi)) p⟩
  · exact ⟨_, List.mem_cons_of_mem _ List.mem_cons_self, fun h p => starH_mem (List.mem_map_of_mem (f := Item.rd) (List.getElem_mem hj)) p⟩

set_option maxRecDepth 100000 in
theorem sameAll (A B : Option Addr) (I J : List Item) (c d : Nat) (hI : few I) (hn : I.length ≤ 1000000000) :
    Triple Try.prog 18 [.slice A I.length c, .slice B J.length d] [] [Rd 18 A I.length (I.flatMap encI), Rd 18 B J.length (J.flatMap encI), Asn.star (I.map Item.rd), Asn.star (J.map Item.rd)] Unit
      (fun _ => .bool (decide (I.map Item.msg = J.map Item.msg))) (fun _ => True) (fun _ => []) := by
  refine triple_intro Try.tbs_ok Try.func18 rfl [.va (.slice A I.length c), .va (.slice B J.length d)] [] ⟨trivial, trivial, trivial⟩ rfl (by simp) ?_
  intro E
  refine go Try.tbs_ok 1000 ?_
  refine ev_if_ne (fun h => ?_) (fun h => ?_)
  · refine go Try.tbs_ok 1000 ?_
    exact ev_fin ⟨trivial, _, rfl, (), congrArg Value.bool (decide_eq_false (fun e => h (by have := congrArg List.length e; simp only [List.length_map] at this; rw [this]))).symm, trivial, Frm.nil _⟩
  · have hl : I.length = J.length := by omega
    refine go Try.tbs_ok 1000 ?_
    refine ev_stop (go_loop (ι := Nat) [5, 11, 12, 13, 14, 15, 16, 17, 18, 19, 20, 21, 22, 23, 24, 25, 26] (fun i => [(5, .va (.int .i64 i))]) (fun _ => []) (fun i => i ≤ I.length ∧ (I.take i).map Item.msg = (J.take i).map Item.msg) (fun i => I.length - i) 0 ⟨Nat.zero_le _, rfl⟩
      ⟨⟨by kernel_rfl, by kernel_rfl⟩, ⟨_, rfl⟩, ⟨_, rfl⟩, by kernel_rfl, by kernel_rfl⟩ (fun i hi => ?_))
    refine go Try.tbs_ok 1000 ?_
    refine ev_if_lt (fun hlt => ?_) (fun hge => ?_)
    · have hlt' : i < I.length := by omega
      have hlt2 : i < J.length := by omega
      refine go Try.tbs_ok 1000 ?_
      refine ev_stop (go_draw Try.tbs_ok false [] [(0,true),(1,true),(2,true),(3,true),(4,true),(5,true),(6,true),(7,true),(8,false),(9,false)] rfl ?_)
      refine go Try.tbs_ok 1000 ?_
      refine ev_need ⟨⟨trivial, rfl⟩, by kernel_rfl⟩ ?_
      refine ev_stop (tk_index Try.tbs_ok A I.length c .i64 i 36 18 (.inl 0) (Rd 18 A I.length (I.flatMap encI)) _ ⟨⟨trivial, rfl⟩, by kernel_rfl⟩ rfl rfl rfl rfl rfl rfl hlt' rfl (fun _ h => h) (fun g o hA => ?_))
      subst hA
      refine tk_load Try.tbs_ok g _ o (i * 18) 18 I.length _ (.inl 0) (Rd 18 (some ⟨g, o, none⟩) I.length (I.flatMap encI)) _ (encI I[i]) ⟨⟨trivial, rfl⟩, by kernel_rfl⟩ rfl rfl rfl rfl rfl (fun _ h => h) rfl (flat_get encI_len hlt' rfl) rfl (by omega) _ rfl ?_
      refine go Try.tbs_ok 1000 ?_
      refine ev_need ⟨⟨trivial, rfl⟩, by kernel_rfl⟩ ?_
      refine ev_stop (tk_index Try.tbs_ok B J.length d .i64 i 36 18 (.inl 1) (Rd 18 B J.length (J.flatMap encI)) _ ⟨⟨trivial, rfl⟩, by kernel_rfl⟩ rfl rfl rfl rfl rfl rfl hlt2 rfl (fun _ h => h) (fun g2 o2 hB => ?_))
      subst hB
      refine tk_load Try.tbs_ok g2 _ o2 (i * 18) 18 J.length _ (.inl 1) (Rd 18 (some ⟨g2, o2, none⟩) J.length (J.flatMap encI)) _ (encI J[i]) ⟨⟨trivial, rfl⟩, by kernel_rfl⟩ rfl rfl rfl rfl rfl (fun _ h => h) rfl (flat_get encI_len hlt2 rfl) rfl (by omega) _ rfl ?_
      refine go Try.tbs_ok 1000 ?_
      refine ev_need ⟨⟨trivial, rfl⟩, by kernel_rfl⟩ ?_
      refine ev_call (same_at hI hlt' hlt2) [] [.inl 2, .inl 3] (fun _ => []) rfl rfl (by decide) rfl (by simp) (fun x => rfl) (fun x => newsOk_nil _) (fun x => trivial) (fun x hx => ?_)
      refine go Try.tbs_ok 1000 ?_
      refine ev_need ⟨⟨trivial, rfl⟩, by kernel_rfl⟩ ?_
      refine ev_need (by kernel_rfl) ?_
      refine ev_if (fun hb => ?_) (fun hb => ?_)
      · refine go Try.tbs_ok 1000 ?_
        refine ev_fin ⟨trivial, _, rfl, (), congrArg Value.bool (decide_eq_false (fun e => ?_)).symm, trivial, Frm.nil _⟩
        have h2 : (I.map Item.msg)[i]? = (J.map Item.msg)[i]? := by rw [e]
        rw [List.getElem?_map, List.getElem?_map, List.getElem?_eq_getElem hlt', List.getElem?_eq_getElem hlt2] at h2
        simp only [Option.map_some, Option.some.injEq] at h2
        simp [h2] at hb
      · refine go Try.tbs_ok 1000 ?_
        refine ev_w64 (by constructor <;> omega) ?_
        refine ev_fin (round_next (i + 1) ⟨by omega, ?_⟩ (by omega) ⟨⟨by kernel_rfl, by kernel_rfl⟩, ⟨_, rfl⟩, ⟨_, rfl⟩, by kernel_rfl, by kernel_rfl⟩)
        have h1 : I[i].msg = J[i].msg := by simpa using hb
        rw [List.take_add_one, List.take_add_one, List.map_append, List.map_append, hi.2, List.getElem?_eq_getElem hlt', List.getElem?_eq_getElem hlt2]
        simp [h1]
    · refine go Try.tbs_ok 1000 ?_
      have h1 : I.map Item.msg = J.map Item.msg := by
        have h2 : i = I.length := by omega
        have h3 := hi.2
        rw [h2, List.take_length, hl, List.take_length] at h3
        exact h3
      refine ev_fin (go Try.tbs_ok 1000 ?_)
      exact ev_fin ⟨trivial, _, rfl, (), congrArg Value.bool (decide_eq_true h1).symm, trivial, Frm.nil _⟩
end Go.Proofs.Yteleepinalcjeaa

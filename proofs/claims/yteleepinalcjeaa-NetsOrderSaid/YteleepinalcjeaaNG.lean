/-
  What is proved: what a net's exported functions do, told of the list of what is under way. Conditions: none.
-/
import Derived.Test.YteleepinalcjeaaNF
namespace Go.Proofs.Yteleepinalcjeaa
open Go.Sy

set_option maxRecDepth 100000 in
theorem send_full (p : Nat) (A : Option Addr) (n c : Nat) (hk : 512 ≤ n) (m : MailS) (B : Option Addr) (k d : Nat) :
    Triple Try.prog 20 [.pointer (some ⟨p, 0, none⟩), mailV m B k d] [Pt p 52 (net A n c)] [] Unit (fun _ => .bool false) (fun _ => True) (fun _ => [Pt p 52 (net A n c)]) := by
  refine triple_intro Try.tbs_ok Try.func20 rfl [.pt 0 p 0, .ag (mailSV m B k d)] [.box p 52 [.bl true, .va (.slice A n c)]] ⟨rfl, by simp [SV.good, SV.goodL, mailSV], trivial⟩ rfl (by simp [SV.good, SV.goodL]) ?_
  intro E
  refine go Try.tbs_ok 1000 ?_
  refine ev_new fun b1 => ?_
  refine ev_if_yes (by simp; omega) ?_
  refine go Try.tbs_ok 1000 ?_
  exact ev_fin ⟨trivial, _, rfl, (), rfl, trivial, Frm.sel [0] rfl (by decide)⟩
theorem send_full' (p : Nat) (L : List Item) (hk : 512 ≤ L.length) (m : MailS) (B : Option Addr) (k d : Nat) :
    Triple Try.prog 20 [.pointer (some ⟨p, 0, none⟩), mailV m B k d] [Net p L] [] Unit (fun _ => .bool false) (fun _ => True) (fun _ => [Net p L]) :=
  Triple.pre (fun _ => Net.out) fun x => ((send_full p x.1 L.length x.2 hk m B k d).frame [Row 36 18 x.1 L.length x.2 (L.flatMap encI), Asn.star (L.map Item.own)]).imp fun _ _ => ⟨(), rfl, trivial, fun _ q => Net.in rfl rfl q⟩

set_option maxRecDepth 100000 in
theorem look_out (p : Nat) (L : List Item) (i : Int) (hi : i < 0 ∨ (L.length : Int) ≤ i) :
    Triple Try.prog 23 [.pointer (some ⟨p, 0, none⟩), .int .i64 i] [Net p L] [] Unit (fun _ => .tuple #[zeroV, .bool false]) (fun _ => True) (fun _ => [Net p L]) := by
  refine triple_intro Try.tbs_ok Try.func23 rfl [.va (.pointer (some ⟨p, 0, none⟩)), .va (.int .i64 i)] [.fact (Net p L)] ⟨trivial, trivial, trivial⟩ rfl (by simp) ?_
  intro E
  refine go Try.tbs_ok 1000 ?_
  refine ev_new fun b1 => ?_
  refine ev_call (at_out' p L i hi none 0 0) [0] [] (fun _ => [.fact (Net p L)]) rfl rfl (by decide) rfl (by simp) (fun x => rfl) (fun x => newsOk_fact (newsOk_nil _)) (fun x => by repeat (first | exact trivial | refine ⟨rfl, ?_⟩)) (fun _ _ => ?_)
  refine go Try.tbs_ok 1000 ?_
  exact ev_fin ⟨trivial, _, rfl, (), rfl, trivial, Frm.sel [0] rfl (by decide)⟩
set_option maxRecDepth 100000 in
theorem look_in (p : Nat) (L : List Item) (hL : few L) (i : Nat) (hi : i < L.length) :
    Triple Try.prog 23 [.pointer (some ⟨p, 0, none⟩), .int .i64 i] [Net p L] [] (Option Addr) (fun A => .tuple #[(told L[i] A).val, .bool true]) (fun _ => True) (fun A => [Net p L, (told L[i] A).own]) := by
  refine triple_intro Try.tbs_ok Try.func23 rfl [.va (.pointer (some ⟨p, 0, none⟩)), .va (.int .i64 i)] [.fact (Net p L)] ⟨trivial, trivial, trivial⟩ rfl (by simp) ?_
  intro E
  refine go Try.tbs_ok 1000 ?_
  refine ev_new fun b1 => ?_
  refine ev_call (at_look' p L hL i hi) [0] [] (fun A => [.fact (Net p L), .fact (told L[i] A).own]) rfl rfl (by decide) rfl (by simp) (fun x => rfl) (fun x => newsOk_fact (newsOk_fact (newsOk_nil _))) (fun x => by repeat (first | exact trivial | refine ⟨rfl, ?_⟩)) (fun A _ => ?_)
  refine go Try.tbs_ok 1000 ?_
  exact ev_fin ⟨trivial, _, rfl, A, rfl, trivial, Frm.sel [0, 2] rfl (by decide)⟩
set_option maxRecDepth 100000 in
theorem take_out (p : Nat) (L : List Item) (i : Int) (hi : i < 0 ∨ (L.length : Int) ≤ i) :
    Triple Try.prog 22 [.pointer (some ⟨p, 0, none⟩), .int .i64 i] [Net p L] [] Unit (fun _ => .tuple #[zeroV, .bool false]) (fun _ => True) (fun _ => [Net p L]) := by
  refine triple_intro Try.tbs_ok Try.func22 rfl [.va (.pointer (some ⟨p, 0, none⟩)), .va (.int .i64 i)] [.fact (Net p L)] ⟨trivial, trivial, trivial⟩ rfl (by simp) ?_
  intro E
  refine go Try.tbs_ok 1000 ?_
  refine ev_new fun b1 => ?_
  refine ev_new fun b2 => ?_
  refine ev_call (at_out' p L i hi (some ⟨b2, 0, none⟩) 1 1) [0] [] (fun _ => [.fact (Net p L)]) rfl rfl (by decide) rfl (by simp) (fun x => rfl) (fun x => newsOk_fact (newsOk_nil _)) (fun x => by repeat (first | exact trivial | refine ⟨rfl, ?_⟩)) (fun _ _ => ?_)
  refine go Try.tbs_ok 1000 ?_
  exact ev_fin ⟨trivial, _, rfl, (), rfl, trivial, Frm.sel [0] rfl (by decide)⟩
set_option maxRecDepth 100000 in
theorem take_in (p : Nat) (L : List Item) (hL : few L) (hn : L.length ≤ 1000000000) (i : Nat) (hi : i < L.length) :
    Triple Try.prog 22 [.pointer (some ⟨p, 0, none⟩), .int .i64 i] [Net p L] [] (Option Addr) (fun A => .tuple #[(told L[i] A).val, .bool true]) (fun _ => True) (fun A => [Net p (L.eraseIdx i), (told L[i] A).own]) := by
  refine triple_intro Try.tbs_ok Try.func22 rfl [.va (.pointer (some ⟨p, 0, none⟩)), .va (.int .i64 i)] [.fact (Net p L)] ⟨trivial, trivial, trivial⟩ rfl (by simp) ?_
  intro E
  refine go Try.tbs_ok 1000 ?_
  refine ev_new fun b1 => ?_
  refine ev_new fun b2 => ?_
  refine ev_call (at_gone' p b2 L hL hn i hi) [0] [.inr 2] (fun A => [.fact (Net p (L.eraseIdx i)), .fact (told L[i] A).own]) rfl rfl (by decide) rfl (by simp) (fun x => rfl) (fun x => newsOk_fact (newsOk_fact (newsOk_nil _))) (fun x => by repeat (first | exact trivial | refine ⟨rfl, ?_⟩)) (fun A _ => ?_)
  refine go Try.tbs_ok 1000 ?_
  exact ev_fin ⟨trivial, _, rfl, A, rfl, trivial, Frm.sel [0, 3] rfl (by decide)⟩
set_option maxRecDepth 100000 in
theorem drop_out (p : Nat) (L : List Item) (i : Int) (hi : i < 0 ∨ (L.length : Int) ≤ i) :
    Triple Try.prog 24 [.pointer (some ⟨p, 0, none⟩), .int .i64 i] [Net p L] [] Unit (fun _ => .bool false) (fun _ => True) (fun _ => [Net p L]) := by
  refine triple_intro Try.tbs_ok Try.func24 rfl [.va (.pointer (some ⟨p, 0, none⟩)), .va (.int .i64 i)] [.fact (Net p L)] ⟨trivial, trivial, trivial⟩ rfl (by simp) ?_
  intro E
  refine go Try.tbs_ok 1000 ?_
  refine ev_new fun b2 => ?_
  refine ev_call (at_out' p L i hi (some ⟨b2, 0, none⟩) 1 1) [0] [] (fun _ => [.fact (Net p L)]) rfl rfl (by decide) rfl (by simp) (fun x => rfl) (fun x => newsOk_fact (newsOk_nil _)) (fun x => by repeat (first | exact trivial | refine ⟨rfl, ?_⟩)) (fun _ _ => ?_)
  refine go Try.tbs_ok 1000 ?_
  refine ev_new fun b3 => ?_
  exact ev_fin ⟨trivial, _, rfl, (), rfl, trivial, Frm.sel [0] rfl (by decide)⟩
set_option maxRecDepth 100000 in
theorem drop_in (p : Nat) (L : List Item) (hL : few L) (hn : L.length ≤ 1000000000) (i : Nat) (hi : i < L.length) :
    Triple Try.prog 24 [.pointer (some ⟨p, 0, none⟩), .int .i64 i] [Net p L] [] Unit (fun _ => .bool true) (fun _ => True) (fun _ => [Net p (L.eraseIdx i)]) := by
  refine triple_intro Try.tbs_ok Try.func24 rfl [.va (.pointer (some ⟨p, 0, none⟩)), .va (.int .i64 i)] [.fact (Net p L)] ⟨trivial, trivial, trivial⟩ rfl (by simp) ?_
  intro E
  refine go Try.tbs_ok 1000 ?_
  refine ev_new fun b2 => ?_
  refine ev_call (at_gone' p b2 L hL hn i hi) [0] [.inr 1] (fun A => [.fact (Net p (L.eraseIdx i)), .fact (told L[i] A).own]) rfl rfl (by decide) rfl (by simp) (fun x => rfl) (fun x => newsOk_fact (newsOk_fact (newsOk_nil _))) (fun x => by repeat (first | exact trivial | refine ⟨rfl, ?_⟩)) (fun A _ => ?_)
  refine go Try.tbs_ok 1000 ?_
  refine ev_new fun b3 => ?_
  exact ev_fin ⟨trivial, _, rfl, (), rfl, trivial, Frm.sel [0] rfl (by decide)⟩
set_option maxRecDepth 100000 in
theorem copy_out (p : Nat) (L : List Item) (i : Int) (hi : i < 0 ∨ (L.length : Int) ≤ i) :
    Triple Try.prog 21 [.pointer (some ⟨p, 0, none⟩), .int .i64 i] [Net p L] [] Unit (fun _ => .bool false) (fun _ => True) (fun _ => [Net p L]) := by
  refine triple_intro Try.tbs_ok Try.func21 rfl [.va (.pointer (some ⟨p, 0, none⟩)), .va (.int .i64 i)] [.fact (Net p L)] ⟨trivial, trivial, trivial⟩ rfl (by simp) ?_
  intro E
  refine go Try.tbs_ok 1000 ?_
  refine ev_call (at_out' p L i hi none 0 0) [0] [] (fun _ => [.fact (Net p L)]) rfl rfl (by decide) rfl (by simp) (fun x => rfl) (fun x => newsOk_fact (newsOk_nil _)) (fun x => by repeat (first | exact trivial | refine ⟨rfl, ?_⟩)) (fun _ _ => ?_)
  refine go Try.tbs_ok 1000 ?_
  refine ev_new fun b3 => ?_
  refine ev_if_no rfl ?_
  refine go Try.tbs_ok 1000 ?_
  exact ev_fin ⟨trivial, _, rfl, (), rfl, trivial, Frm.sel [0] rfl (by decide)⟩
set_option maxRecDepth 100000 in
theorem copy_full (p : Nat) (L : List Item) (hL : few L) (hk : 512 ≤ L.length) (i : Nat) (hi : i < L.length) :
    Triple Try.prog 21 [.pointer (some ⟨p, 0, none⟩), .int .i64 i] [Net p L] [] Unit (fun _ => .bool false) (fun _ => True) (fun _ => [Net p L]) := by
  refine triple_intro Try.tbs_ok Try.func21 rfl [.va (.pointer (some ⟨p, 0, none⟩)), .va (.int .i64 i)] [.fact (Net p L)] ⟨trivial, trivial, trivial⟩ rfl (by simp) ?_
  intro E
  refine go Try.tbs_ok 1000 ?_
  refine ev_call (at_look' p L hL i hi) [0] [] (fun A => [.fact (Net p L), .fact (told L[i] A).own]) rfl rfl (by decide) rfl (by simp) (fun x => rfl) (fun x => newsOk_fact (newsOk_fact (newsOk_nil _))) (fun x => by repeat (first | exact trivial | refine ⟨rfl, ?_⟩)) (fun A _ => ?_)
  refine go Try.tbs_ok 1000 ?_
  refine ev_new fun b3 => ?_
  refine ev_if_yes rfl ?_
  refine go Try.tbs_ok 1000 ?_
  refine ev_call (send_full' p L hk L[i].s A L[i].es.length L[i].es.length) [0] [] (fun _ => [.fact (Net p L)]) rfl rfl (by decide) rfl (by simp) (fun x => rfl) (fun x => newsOk_fact (newsOk_nil _)) (fun x => by repeat (first | exact trivial | refine ⟨rfl, ?_⟩)) (fun _ _ => ?_)
  refine go Try.tbs_ok 1000 ?_
  exact ev_fin ⟨trivial, _, rfl, (), rfl, trivial, Frm.sel [0] rfl (by decide)⟩
set_option maxRecDepth 100000 in
theorem copy_in (p : Nat) (L : List Item) (hL : few L) (hk : L.length < 512) (i : Nat) (hi : i < L.length) :
    Triple Try.prog 21 [.pointer (some ⟨p, 0, none⟩), .int .i64 i] [Net p L] [] (Option Addr) (fun _ => .bool true) (fun _ => True) (fun A => [Net p (L ++ [told L[i] A])]) := by
  refine triple_intro Try.tbs_ok Try.func21 rfl [.va (.pointer (some ⟨p, 0, none⟩)), .va (.int .i64 i)] [.fact (Net p L)] ⟨trivial, trivial, trivial⟩ rfl (by simp) ?_
  intro E
  refine go Try.tbs_ok 1000 ?_
  refine ev_call (at_look' p L hL i hi) [0] [] (fun A => [.fact (Net p L), .fact (told L[i] A).own]) rfl rfl (by decide) rfl (by simp) (fun x => rfl) (fun x => newsOk_fact (newsOk_fact (newsOk_nil _))) (fun x => by repeat (first | exact trivial | refine ⟨rfl, ?_⟩)) (fun A _ => ?_)
  refine go Try.tbs_ok 1000 ?_
  refine ev_new fun b3 => ?_
  refine ev_if_yes rfl ?_
  refine go Try.tbs_ok 1000 ?_
  refine ev_call ((send' p L hk L[i].s L[i].es A L[i].es.length (hL _ (List.getElem_mem hi))).reads (N' := [(told L[i] A).own]) (fun B hB => ⟨_, List.mem_singleton.2 rfl, fun _ q => by rw [List.mem_singleton.1 hB]; exact Own.rd q⟩)) [0] [.inr 1] (fun A => [.fact (Net p (L ++ [told L[i] A]))]) rfl rfl (by decide) rfl (by simp) (fun x => rfl) (fun x => newsOk_fact (newsOk_nil _)) (fun x => by repeat (first | exact trivial | refine ⟨rfl, ?_⟩)) (fun A2 _ => ?_)
  refine go Try.tbs_ok 1000 ?_
  exact ev_fin ⟨trivial, _, rfl, A2, rfl, trivial, Frm.sel [0] rfl (by decide)⟩
end Go.Proofs.Yteleepinalcjeaa

/-
  What is proved: what a net's functions do, told of the list of what is under way. Conditions: none.
-/
import Derived.Test.YteleepinalcjeaaNE
namespace Go.Proofs.Yteleepinalcjeaa
open Go.Sy

/-- p is a net, and this is under way -/
def Net (p : Nat) (L : List Item) : Asn := Asn.ex fun x : Option Addr × Nat => Asn.star [Pt p 52 (net x.1 L.length x.2), Row 36 18 x.1 L.length x.2 (L.flatMap encI), Asn.star (L.map Item.own)]
theorem Net.in {p : Nat} {L : List Item} {A : Option Addr} {n c : Nat} {cs : List Value} {r : List Asn} {h : Hp} (hn : n = L.length) (hcs : cs = L.flatMap encI) (q : Asn.starH (Pt p 52 (net A n c) :: Row 36 18 A n c cs :: Asn.star (L.map Item.own) :: r) h) : Asn.starH (Net p L :: r) h := by
  subst hn hcs
  exact starH_ex.2 ⟨(A, c), starH_star.2 q⟩
theorem Net.out {p : Nat} {L : List Item} {r : List Asn} {h : Hp} (q : Asn.starH (Net p L :: r) h) : ∃ x : Option Addr × Nat, Asn.starH (Pt p 52 (net x.1 L.length x.2) :: Row 36 18 x.1 L.length x.2 (L.flatMap encI) :: Asn.star (L.map Item.own) :: r) h := by
  obtain ⟨x, q⟩ := starH_ex.1 q
  exact ⟨x, starH_star.1 q⟩
theorem starH_sub {α : Type} (A : α → Asn) : ∀ {l m : List α} {h : Hp}, m.Sublist l → Asn.starH (l.map A) h → Asn.starH (m.map A) h
  | _, _, _, .slnil, q => q
  | _, _, _, .cons _ s, ⟨_, _, _, _, b, _, q⟩ => starH_sub A s (Asn.starH_mono _ b q)
  | _, _, _, .cons_cons _ s, ⟨h1, h2, d, a, b, p, q⟩ => ⟨h1, h2, d, a, b, p, starH_sub A s q⟩
theorem erase_enc (L : List Item) (i : Nat) : (L.flatMap encI).take (i * 18) ++ (L.flatMap encI).drop ((i + 1) * 18) = (L.eraseIdx i).flatMap encI := by
  rw [flat_take encI_len, flat_drop encI_len, List.eraseIdx_eq_take_drop_succ, List.flatMap_append]

theorem new' : Triple Try.prog 10 [] [] [] Nat (fun p => .pointer (some ⟨p, 0, none⟩)) (fun _ => True) (fun p => [Net p []]) :=
  new.imp fun p _ => ⟨p, rfl, trivial, fun h q => Net.in rfl rfl (by
    obtain ⟨h1, h2, d, a, b, q1, q2⟩ := q
    exact ⟨h1, h2, d, a, b, q1, Hp.emp, Hp.emp, Hp.emp_dis _, Hp.emp_le _, Hp.emp_le _, Row.nil _ _ _, Hp.emp, Hp.emp, Hp.emp_dis _, Hp.emp_le _, Hp.emp_le _, trivial, trivial⟩)⟩
theorem len' (p : Nat) (L : List Item) : Triple Try.prog 15 [.pointer (some ⟨p, 0, none⟩)] [Net p L] [] Unit (fun _ => .int .i64 L.length) (fun _ => True) (fun _ => [Net p L]) :=
  Triple.pre (fun _ => Net.out) fun x => ((len p x.1 L.length x.2).frame [Row 36 18 x.1 L.length x.2 (L.flatMap encI), Asn.star (L.map Item.own)]).imp fun _ _ => ⟨(), rfl, trivial, fun _ q => Net.in rfl rfl q⟩
theorem at_out' (p : Nat) (L : List Item) (i : Int) (hi : i < 0 ∨ (L.length : Int) ≤ i) (D : Option Addr) (k kc : Nat) :
    Triple Try.prog 32 [.pointer (some ⟨p, 0, none⟩), .int .i64 i, .slice D k kc] [Net p L] [] Unit (fun _ => .tuple #[zeroV, .bool false]) (fun _ => True) (fun _ => [Net p L]) :=
  Triple.pre (fun _ => Net.out) fun x => ((at_out p x.1 L.length x.2 i hi D k kc).frame [Row 36 18 x.1 L.length x.2 (L.flatMap encI), Asn.star (L.map Item.own)]).imp fun _ _ => ⟨(), rfl, trivial, fun _ q => Net.in rfl rfl q⟩
/-- a message as it is told: its entries in memory of their own -/
def told (x : Item) (A : Option Addr) : Item := ⟨x.s, x.es, A, x.es.length⟩
def Item.val (x : Item) : Value := mailV x.s x.a x.es.length x.c
theorem at_look' (p : Nat) (L : List Item) (hL : few L) (i : Nat) (hi : i < L.length) :
    Triple Try.prog 32 [.pointer (some ⟨p, 0, none⟩), .int .i64 i, .slice none 0 0] [Net p L] [] (Option Addr) (fun A => .tuple #[(told L[i] A).val, .bool true]) (fun _ => True) (fun A => [Net p L, (told L[i] A).own]) :=
  Triple.pre (fun _ => Net.out) fun x => (at_look p x.1 x.2 L hL i hi).imp fun A _ => ⟨A, rfl, trivial, fun _ q => Net.in rfl rfl q⟩
theorem at_gone' (p d : Nat) (L : List Item) (hL : few L) (hn : L.length ≤ 1000000000) (i : Nat) (hi : i < L.length) :
    Triple Try.prog 32 [.pointer (some ⟨p, 0, none⟩), .int .i64 i, .slice (some ⟨d, 0, none⟩) 1 1] [Net p L] [Pt d 63 (clos p)] (Option Addr) (fun A => .tuple #[(told L[i] A).val, .bool true]) (fun _ => True)
      (fun A => [Net p (L.eraseIdx i), (told L[i] A).own]) :=
  Triple.pre (fun _ => Net.out) fun x => (at_gone p d x.1 x.2 L hL hn i hi).imp fun A _ => ⟨A, rfl, trivial, fun _ q => Net.in (A := x.1) (c := x.2) (by rw [List.length_eraseIdx, if_pos hi]) (erase_enc L i) (by
    obtain ⟨h1, h2, d1, a1, b1, q1, h3, h4, d2, a2, b2, q2, h5, h6, d3, a3, b3, q3, q4⟩ := q
    exact ⟨h1, h2, d1, a1, b1, q1, h3, h4, d2, a2, b2, q2, h5, h6, d3, a3, b3, starH_sub Item.own (List.eraseIdx_sublist L i) q3, q4⟩)⟩
set_option maxRecDepth 100000 in
theorem send (p : Nat) (B : Option Addr) (k cap : Nat) (S : Asn) (cells : List Value) (hk : k < 512) (m : MailS) (A : Option Addr) (n c : Nat) (cs : List Value) (hn : n ≤ 1000000000) :
    Triple Try.prog 20 [.pointer (some ⟨p, 0, none⟩), mailV m A n c] [Pt p 52 [.bool true, .slice B k cap], Row 36 18 B k cap cells, S] [Rd 6 A n cs] (Option Addr × Option Addr × Nat) (fun _ => .bool true) (fun _ => True)
      (fun x => [Pt p 52 [.bool true, .slice x.2.1 (k + 1) x.2.2], Row 36 18 x.2.1 (k + 1) x.2.2 (cells ++ mailL m x.1 n n), S, Own 40 6 x.1 n cs]) := by
  refine triple_intro Try.tbs_ok Try.func20 rfl [.pt 0 p 0, .ag (mailSV m A n c)] [.box p 52 [.bl true, .va (.slice B k cap)], .fact (Row 36 18 B k cap cells), .fact S] ⟨rfl, by simp [SV.good, SV.goodL, mailSV], trivial⟩ rfl (by simp [SV.good, SV.goodL]) ?_
  intro E
  refine go Try.tbs_ok 1000 ?_
  refine ev_new fun b1 => ?_

  refine ev_if_no (by simp; omega) ?_
  refine go Try.tbs_ok 1000 ?_

  refine ev_stop (go_draw Try.tbs_ok false [0, 3] [(0,true),(1,true),(2,true),(3,true),(4,true),(5,true),(6,false),(7,false),(8,false),(9,false),(10,false),(11,false)] rfl ?_)
  refine go Try.tbs_ok 1000 ?_
  refine ev_need ⟨⟨⟨rfl, rfl, trivial⟩, rfl⟩, by kernel_rfl⟩ ?_

  refine ev_call (twin' m A n c cs hn) [] [.inl 0] (fun x => [.fact (Own 40 6 x n cs)]) rfl rfl (by decide) rfl (by simp) (fun x => rfl) (fun x => newsOk_fact (newsOk_nil _)) (fun x => ⟨rfl, rfl, trivial⟩) (fun x hx => ?_)
  refine go Try.tbs_ok 1000 ?_
  refine ev_need ⟨⟨⟨rfl, rfl, trivial⟩, rfl⟩, by kernel_rfl⟩ ?_

  refine ev_new fun b2 => ?_
  refine ev_need ⟨⟨⟨rfl, rfl, trivial⟩, rfl⟩, by kernel_rfl⟩ ?_
  refine ev_stop (go_append Try.tbs_ok [1] [] [Row 36 18 B k cap cells] B (some ⟨b2, 0, none⟩) k cap 1 1 cells (mailL m x n n) 36 18 _ (.inr 5) (Pt b2 36 (mailL m x n n)) rfl rfl (by simp [ev]) rfl (by simp [ev]) rfl rfl (by decide) rfl (by decide)
    (fun h p => starH_one.1 p) rfl (fun h p => Pt.rd p rfl) (k + 1) _ rfl rfl (by unfold maxLen; omega) (small (by omega) (by decide)) (fun _ _ => ⟨rfl, rfl, rfl, trivial⟩) (fun B2 cap2 _ hc => ?_))
  refine go Try.tbs_ok 1000 ?_
  refine ev_need ⟨⟨⟨rfl, rfl, trivial⟩, rfl⟩, by kernel_rfl⟩ ?_
  refine ev_need ⟨⟨⟨rfl, rfl, trivial⟩, rfl⟩, by kernel_rfl⟩ ?_
  refine ev_need ⟨⟨⟨rfl, rfl, trivial⟩, rfl⟩, by kernel_rfl⟩ ?_
  refine ev_need (by kernel_rfl) ?_
  refine ev_fin ⟨trivial, _, rfl, (x, B2, cap2), rfl, trivial, Frm.sel [0, 1, 2, 4] rfl (by decide)⟩
theorem send' (p : Nat) (L : List Item) (hk : L.length < 512) (m : MailS) (es : List Ent) (A : Option Addr) (c : Nat) (hn : es.length ≤ 1000000000) :
    Triple Try.prog 20 [.pointer (some ⟨p, 0, none⟩), mailV m A es.length c] [Net p L] [Rd 6 A es.length (es.flatMap encE)] (Option Addr) (fun _ => .bool true) (fun _ => True) (fun A2 => [Net p (L ++ [⟨m, es, A2, es.length⟩])]) :=
  Triple.pre (fun _ => Net.out) fun x => (send p x.1 L.length x.2 (Asn.star (L.map Item.own)) (L.flatMap encI) hk m A es.length c (es.flatMap encE) hn).imp fun y _ => ⟨y.1, rfl, trivial, fun _ q => Net.in (A := y.2.1) (c := y.2.2) (n := L.length + 1) (cs := L.flatMap encI ++ mailL m y.1 es.length es.length) (by simp) (by simp [encI]) (by
    obtain ⟨h1, h2, d1, a1, b1, q1, h3, h4, d2, a2, b2, q2, q3⟩ := q
    refine ⟨h1, h2, d1, a1, b1, q1, h3, h4, d2, a2, b2, q2, starH_one.2 ?_⟩
    show Asn.starH _ _
    rw [List.map_append]
    exact starH_star.1 q3)⟩
end Go.Proofs.Yteleepinalcjeaa

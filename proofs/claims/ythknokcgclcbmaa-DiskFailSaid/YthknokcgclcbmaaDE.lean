/-
  What is proved: how files are changed. Conditions: none.
-/
import Derived.Test.YthknokcgclcbmaaDD
namespace Go.Proofs.Ythknokcgclcbmaa
open Go.Sy

theorem row_shrink {e sz n k c : Nat} {A : Option Addr} {α : Type} {enc : α → List Value} (hlen : ∀ x, (enc x).length = sz) {L : List α} {h : Hp} (p : (Row e sz A n c (L.flatMap enc)).holds h) (hk : k ≤ n) : (Row e sz A k c ((L.take k).flatMap enc)).holds h := by
  obtain ⟨p1, p2, p3⟩ := p
  have hkn : k * sz ≤ n * sz := Nat.mul_le_mul_right _ hk
  refine ⟨?_, fun v hv => p2 v ?_, ?_⟩
  · rw [← flat_take hlen, List.length_take]; omega
  · rw [← flat_take hlen] at hv; exact List.mem_of_mem_take hv
  · rcases p3 with ⟨h1, h2, h3⟩ | ⟨g, cur, h1, h2, h3, h4, h5, h6⟩
    · exact .inl ⟨h1, by omega, h3⟩
    · exact .inr ⟨g, cur, h1, h2, by omega, h4, h5, by rw [← flat_take hlen, ← h6, List.take_take, Nat.min_eq_left hkn]⟩
theorem drop_eq {L : List Fl} {n at_ : Nat} (hn : n = L.length) (h : at_ < n) {k : Nat} (hk : k = n - (at_ + 1)) : ((L.take at_ ++ (((L.take (at_ + 1 + k)).drop (at_ + 1)).take k) ++ L.drop (at_ + k)).take (n - 1)) = L.eraseIdx at_ := by
  subst hk
  have h1 : at_ + 1 + (n - (at_ + 1)) = L.length := by omega
  have hl : (L.take at_).length = at_ := by rw [List.length_take]; omega
  have h2 : (L.drop (at_ + 1)).take (n - (at_ + 1)) = L.drop (at_ + 1) := List.take_of_length_le (by rw [List.length_drop]; omega)
  rw [h1, List.take_length, h2, List.take_append_of_le_length (by rw [List.length_append, hl, List.length_drop]; omega), List.take_of_length_le (by rw [List.length_append, hl, List.length_drop]; omega), List.eraseIdx_eq_take_drop_succ]
set_option maxRecDepth 100000 in
theorem dropT (p : Nat) (m s : Int) (dn : Bool) (A : Option Addr) (n c : Nat) (fv : Value) (B : Option Addr) (k d : Nat) (L : List Fl) (hn : n = L.length) (h1 : n ≤ 1000) (i : Nat) (hi : i < n) : Triple Try.prog 66 [.pointer (some ⟨p, 0, none⟩), .int .i64 (i : Nat)] [Pt p 53 [.int .i64 m, .int .i64 s, .bool dn, .slice A n c, fv, .slice B k d], Row 71 3 A n c (L.flatMap encF)] [] (Unit) (fun _ => .tuple #[]) (fun _ => True) (fun _ => [Pt p 53 [.int .i64 m, .int .i64 s, .bool dn, .slice A (n - 1) c, fv, .slice B k d], Row 71 3 A (n - 1) c ((L.eraseIdx i).flatMap encF)]) := by
  refine triple_intro Try.tbs_ok Try.func66 rfl [.pt 0 p 0, .va (.int .i64 (i : Nat))] [.box p 53 [.va (.int .i64 m), .va (.int .i64 s), .va (.bool dn), .va (.slice A n c), .va fv, .va (.slice B k d)], .fact (Row 71 3 A n c (L.flatMap encF))] ⟨rfl, trivial, trivial⟩ rfl (by simp [SV.good, SV.goodL]) ?_
  intro E
  refine go_know (.inr 1) (Row 71 3 A n c (L.flatMap encF)) rfl (p := n ≤ c) (fun _ p => Row.cap p) fun hc => ?_
  refine go_know (.inr 1) (Row 71 3 A n c (L.flatMap encF)) rfl (p := ∃ g, A = some ⟨g, 0, none⟩) (fun h p => Row.at0 h p (by omega)) ?_
  rintro ⟨g, rfl⟩
  refine go Try.tbs_ok 1000 ?_
  refine ev_stop (go_draw Try.tbs_ok false [0] [(0,true),(1,true),(2,true),(3,true),(4,true),(5,true),(6,true),(7,true),(8,true),(9,true),(10,true),(11,true),(12,true),(13,false)] rfl ?_)
  refine go Try.tbs_ok 1000 ?_
  refine ev_need ⟨⟨(by repeat (first | exact trivial | refine ⟨rfl, ?_⟩)), rfl⟩, by kernel_rfl⟩ ?_
  refine ev_stop (tk_back Try.tbs_ok (i) (n) (c) ⟨⟨(by repeat (first | exact trivial | refine ⟨rfl, ?_⟩)), rfl⟩, by kernel_rfl⟩ rfl rfl rfl rfl rfl rfl ⟨_, rfl⟩ rfl rfl (by decide) (by omega) (by omega) (by omega) ?_)
  refine go Try.tbs_ok 1000 ?_
  refine ev_need ⟨⟨(by repeat (first | exact trivial | refine ⟨rfl, ?_⟩)), rfl⟩, by kernel_rfl⟩ ?_
  refine ev_wrapN (i + 1) (by constructor <;> omega) (by rfl) ?_
  refine ev_stop (tk_back Try.tbs_ok (i + 1) (n) (c) ⟨⟨(by repeat (first | exact trivial | refine ⟨rfl, ?_⟩)), rfl⟩, by kernel_rfl⟩ rfl rfl rfl rfl rfl rfl ⟨_, rfl⟩ rfl rfl (by decide) (by omega) (by omega) (by omega) ?_)
  refine go Try.tbs_ok 1000 ?_
  refine ev_need ⟨⟨(by repeat (first | exact trivial | refine ⟨rfl, ?_⟩)), rfl⟩, by kernel_rfl⟩ ?_
  refine ev_stop (go_copyE (sz := 3) (enc := encF) Try.tbs_ok 1 (i) (n - (i + 1)) (.inr 1) (L) ((((L).take ((i + 1) + (n - (i + 1)))).drop (i + 1))) ((L).take (i) ++ ((((L).take ((i + 1) + (n - (i + 1)))).drop (i + 1))).take (n - (i + 1)) ++ (L).drop ((i) + (n - (i + 1)))) rfl rfl rfl rfl rfl rfl rfl (by decide) rfl (backA_at (by omega)) rfl (fun _ h => rd_part (lo := i + 1) (m := n - (i + 1)) (fun _ => rfl) (Row.rd h) (by omega) (by omega)) (fun _ => rfl) (by first | rfl | (show _ = min _ _; omega)) (by omega) rfl ?_)
  refine go Try.tbs_ok 1000 ?_
  refine ev_need (by kernel_rfl) ?_
  refine ev_stop (go_draw Try.tbs_ok false [0] [(0,true),(1,true),(2,true),(3,true),(4,true),(5,true),(6,true),(7,true),(8,true),(9,true),(10,true),(11,true),(12,true),(13,true),(14,false)] rfl ?_)
  refine go Try.tbs_ok 1000 ?_
  refine ev_need ⟨⟨(by repeat (first | exact trivial | refine ⟨rfl, ?_⟩)), rfl⟩, by kernel_rfl⟩ ?_
  refine ev_wrapN (n - 1) (by constructor <;> omega) (by omega) ?_
  refine ev_stop (tk_front Try.tbs_ok (n - 1) (c) ⟨⟨(by repeat (first | exact trivial | refine ⟨rfl, ?_⟩)), rfl⟩, by kernel_rfl⟩ rfl rfl rfl rfl rfl rfl rfl ⟨_, rfl⟩ rfl (by decide) (by omega) (by omega) ?_)
  refine go Try.tbs_ok 1000 ?_
  refine ev_need ⟨⟨(by repeat (first | exact trivial | refine ⟨rfl, ?_⟩)), rfl⟩, by kernel_rfl⟩ ?_
  refine ev_need (by kernel_rfl) ?_
  refine ev_fin ⟨trivial, _, rfl, (), rfl, trivial, Frm.imp (M := [Pt p 53 [.int .i64 m, .int .i64 s, .bool dn, .slice (some ⟨g, 0, none⟩) (n - 1) c, fv, .slice B k d], Row 71 3 (some ⟨g, 0, none⟩) n c ((L.take i ++ (((L.take (i + 1 + (n - (i + 1)))).drop (i + 1)).take (n - (i + 1))) ++ L.drop (i + (n - (i + 1)))).flatMap encF)]) [0, 1] rfl (by decide) (fun h q => ?_)⟩
  obtain ⟨h1', h2', d1, a, b, p1, q⟩ := q
  refine ⟨h1', h2', d1, a, b, p1, starH_one.2 ?_⟩
  rw [← drop_eq hn hi rfl]
  exact row_shrink (enc := encF) (sz := 3) (fun _ => rfl) (starH_one.1 q) (by omega)
set_option maxRecDepth 100000 in
theorem syncDo (p : Nat) (m s : Int) (dn : Bool) (A : Option Addr) (n c : Nat) (fv : Value) (B : Option Addr) (k d : Nat) (L : List Fl) (hn : n = L.length) (_h1 : n ≤ 1000) (bd ba i : Nat) (hi : i < L.length) : Triple Try.prog 68 [.pointer (some ⟨bd, 0, none⟩), .pointer (some ⟨ba, 0, none⟩)] [Pt p 53 [.int .i64 m, .int .i64 s, .bool dn, .slice A n c, fv, .slice B k d], Row 71 3 A n c (L.flatMap encF), Pt bd 25 [.pointer (some ⟨p, 0, none⟩)], Pt ba 3 [.int .i64 (i : Nat)]] [] (Unit) (fun _ => .tuple #[]) (fun _ => True) (fun _ => [Pt p 53 [.int .i64 m, .int .i64 s, .bool dn, .slice A n c, fv, .slice B k d], Row 71 3 A n c ((L.set i ⟨(L[i]'hi).n, (L[i]'hi).d, ((L[i]'hi).d.size : Nat)⟩).flatMap encF), Pt bd 25 [.pointer (some ⟨p, 0, none⟩)], Pt ba 3 [.int .i64 (i : Nat)]]) := by
  refine triple_intro Try.tbs_ok Try.func68 rfl [.pt 2 bd 0, .pt 3 ba 0] [.box p 53 [.va (.int .i64 m), .va (.int .i64 s), .va (.bool dn), .va (.slice A n c), .va fv, .va (.slice B k d)], .fact (Row 71 3 A n c (L.flatMap encF)), .box bd 25 [.pt 0 p 0], .box ba 3 [.va (.int .i64 (i : Nat))]] ⟨rfl, rfl, trivial⟩ rfl (by simp [SV.good, SV.goodL] <;> rfl) ?_
  intro E
  refine go Try.tbs_ok 1000 ?_
  refine ev_stop (go_draw Try.tbs_ok false [0, 1, 2, 3] [(0,true),(1,true),(2,true),(3,true),(4,true),(5,true),(6,true),(7,true),(8,true),(9,true),(10,true),(11,true),(12,true),(13,true),(14,true),(15,true),(16,false)] rfl ?_)
  refine go Try.tbs_ok 1000 ?_
  refine ev_need ⟨⟨(by repeat (first | exact trivial | refine ⟨rfl, ?_⟩)), rfl⟩, by kernel_rfl⟩ ?_
  refine ev_stop (tk_index0 (sz := 3) Try.tbs_ok (.inr 1) (i) ⟨⟨(by repeat (first | exact trivial | refine ⟨rfl, ?_⟩)), rfl⟩, by kernel_rfl⟩ rfl rfl rfl rfl rfl rfl rfl (by omega) rfl Row.at0 (fun g0 e1 => ?_))
  subst e1
  refine go Try.tbs_ok 1000 ?_
  refine ev_need ⟨⟨(by repeat (first | exact trivial | refine ⟨rfl, ?_⟩)), rfl⟩, by kernel_rfl⟩ ?_
  have l2 : i < (L).length := (by omega)
  refine ev_stop (tk_loadE Try.tbs_ok (.inr 1) (i) 1 ⟨⟨(by repeat (first | exact trivial | refine ⟨rfl, ?_⟩)), rfl⟩, by kernel_rfl⟩ rfl rfl rfl rfl rfl (fun _ h => Row.rd h) (by omega) (fun _ => rfl) (by omega) l2 (by decide) ?_)
  refine go Try.tbs_ok 1000 ?_
  refine ev_need ⟨⟨(by repeat (first | exact trivial | refine ⟨rfl, ?_⟩)), rfl⟩, by kernel_rfl⟩ ?_
  refine ev_stop (tk_atE (sz := 3) Try.tbs_ok (i) ⟨⟨(by repeat (first | exact trivial | refine ⟨rfl, ?_⟩)), rfl⟩, by kernel_rfl⟩ rfl rfl rfl rfl rfl rfl rfl (by omega) ?_)
  refine go Try.tbs_ok 1000 ?_
  refine ev_need ⟨⟨(by repeat (first | exact trivial | refine ⟨rfl, ?_⟩)), rfl⟩, by kernel_rfl⟩ ?_
  have l3 : i < (L).length := (by omega)
  refine ev_stop (go_storeR Try.tbs_ok 1 (i) 2 ({ n := L[i].n, d := L[i].d, s := (↑L[i].d.size : Int) : Fl }) rfl rfl rfl rfl rfl (by omega) (fun _ => rfl) (ones_of rfl) (by omega) l3 rfl (by decide) (ones_of rfl) rfl ?_)
  refine go Try.tbs_ok 1000 ?_
  refine ev_need (by kernel_rfl) ?_
  refine ev_fin ⟨trivial, _, rfl, (()), rfl, (by trivial), Frm.sel [0, 1, 2, 3] rfl (by decide)⟩
set_option maxRecDepth 100000 in
theorem truncDo (n c g : Nat) (L : List Fl) (hn : n = L.length) (_h1 : n ≤ 1000) (bf bn i : Nat) (q : Int) (hi : i < L.length) (hq : 0 ≤ q) (hq2 : q ≤ (L[i]'hi).d.size) : Triple Try.prog 70 [.pointer (some ⟨bf, 0, none⟩), .pointer (some ⟨bn, 0, none⟩)] [Row 71 3 (some ⟨g, 0, none⟩) n c ((L).flatMap encF), Pt bf 83 [.pointer (some ⟨g, 0 + i * 3, none⟩)], Pt bn 3 [.int .i64 q]] [] (Unit) (fun _ => .tuple #[]) (fun _ => True) (fun _ => [Row 71 3 (some ⟨g, 0, none⟩) n c ((L.set i ⟨(L[i]'hi).n, (L[i]'hi).d.extract 0 q.toNat, min (L[i]'hi).s q⟩).flatMap encF), Pt bf 83 [.pointer (some ⟨g, 0 + i * 3, none⟩)], Pt bn 3 [.int .i64 q]]) := by
  refine triple_intro Try.tbs_ok Try.func70 rfl [.pt 1 bf 0, .pt 2 bn 0] [.fact (Row 71 3 (some ⟨g, 0, none⟩) n c ((L).flatMap encF)), .box bf 83 [.va (.pointer (some ⟨g, 0 + i * 3, none⟩))], .box bn 3 [.va (.int .i64 q)]] ⟨rfl, rfl, trivial⟩ rfl (by simp [SV.good, SV.goodL]) ?_
  intro E
  refine go Try.tbs_ok 1000 ?_
  refine ev_stop (go_draw Try.tbs_ok false [1, 2] [(0,true),(1,true),(2,true),(3,true),(4,true),(6,true),(8,true),(9,true),(10,true),(12,true),(99,false),(0,true),(0,true),(0,true),(0,true),(0,true),(0,true),(0,true),(0,true),(0,true)] rfl ?_)
  refine go Try.tbs_ok 1000 ?_
  refine ev_need ⟨⟨(by repeat (first | exact trivial | refine ⟨rfl, ?_⟩)), rfl⟩, by kernel_rfl⟩ ?_
  refine ev_stop (go_fork 5 11 [(7,true),(11,false),(13,true),(14,false),(15,false),(16,false),(17,false),(18,false),(19,false)] [(13,true),(5,false),(7,false),(14,false),(15,false),(16,false),(17,false),(18,false),(19,false)] _ _ ⟨(by repeat (first | exact trivial | refine ⟨rfl, ?_⟩)), rfl⟩ (by kernel_rfl) rfl rfl rfl rfl ?_ ?_)
  refine go Try.tbs_ok 1000 ?_
  have l0 : i < (L).length := (by omega)
  refine ev_stop (go_loadE Try.tbs_ok (.inr 0) (i) 1 rfl rfl rfl rfl (fun _ h => Row.rd h) (by omega) (fun _ => rfl) (by omega) l0 (by decide) ?_)
  refine go Try.tbs_ok 1000 ?_
  refine ev_need ⟨⟨(by repeat (first | exact trivial | refine ⟨rfl, ?_⟩)), rfl⟩, by kernel_rfl⟩ ?_
  refine ev_stop (go_slot 8 _ (.va (.int IntKind.i64 ((q.toNat : Nat) : Int))) rfl rfl (congrArg (fun z => Value.int IntKind.i64 z) (show q = ((q.toNat : Nat) : Int) by first | omega | (simp only [List.getElem_set_self]; omega))) (fun _ => trivial) ?_)
  refine go Try.tbs_ok 1000 ?_
  refine ev_need ⟨⟨(by repeat (first | exact trivial | refine ⟨rfl, ?_⟩)), rfl⟩, by kernel_rfl⟩ ?_
  refine ev_stop (tk_sliceS Try.tbs_ok (0) (q.toNat) ⟨⟨(by repeat (first | exact trivial | refine ⟨rfl, ?_⟩)), rfl⟩, by kernel_rfl⟩ rfl rfl rfl rfl rfl rfl ⟨_, rfl⟩ (by omega) (by omega) ?_)
  refine go Try.tbs_ok 1000 ?_
  refine ev_need ⟨⟨(by repeat (first | exact trivial | refine ⟨rfl, ?_⟩)), rfl⟩, by kernel_rfl⟩ ?_
  have l1 : i < (L).length := (by omega)
  refine ev_stop (go_loadE Try.tbs_ok (.inr 0) (i) 2 rfl rfl rfl rfl (fun _ h => Row.rd h) (by omega) (fun _ => rfl) (by omega) l1 (by decide) ?_)
  refine go Try.tbs_ok 1000 ?_
  refine ev_need ⟨⟨(by repeat (first | exact trivial | refine ⟨rfl, ?_⟩)), rfl⟩, by kernel_rfl⟩ ?_
  refine ev_need ⟨⟨(by repeat (first | exact trivial | refine ⟨rfl, ?_⟩)), rfl⟩, by kernel_rfl⟩ ?_
  refine ev_need ⟨⟨(by repeat (first | exact trivial | refine ⟨rfl, ?_⟩)), rfl⟩, by kernel_rfl⟩ ?_
  have l2 : i < (L).length := (by omega)
  refine ev_stop (go_storeR Try.tbs_ok 0 (i) 1 ({ n := L[i].n, d := L[i].d.extract 0 q.toNat, s := L[i].s : Fl }) rfl rfl rfl rfl rfl (by omega) (fun _ => rfl) (ones_of rfl) (by omega) l2 rfl (by decide) (ones_of rfl) rfl ?_)
  refine go Try.tbs_ok 1000 ?_
  refine ev_need ⟨⟨(by repeat (first | exact trivial | refine ⟨rfl, ?_⟩)), rfl⟩, by kernel_rfl⟩ ?_
  refine ev_need ⟨⟨(by repeat (first | exact trivial | refine ⟨rfl, ?_⟩)), rfl⟩, by kernel_rfl⟩ ?_
  refine ev_need ⟨⟨(by repeat (first | exact trivial | refine ⟨rfl, ?_⟩)), rfl⟩, by kernel_rfl⟩ ?_
  have l3 : i < (L.set i { n := L[i].n, d := L[i].d.extract 0 q.toNat, s := L[i].s : Fl }).length := (by (simp only [List.length_set] <;> omega))
  refine ev_stop (go_storeR Try.tbs_ok 0 (i) 2 ({ n := (L.set i { n := L[i].n, d := L[i].d.extract 0 q.toNat, s := L[i].s : Fl })[i].n, d := (L.set i { n := L[i].n, d := L[i].d.extract 0 q.toNat, s := L[i].s : Fl })[i].d, s := min L[i].s q : Fl }) rfl rfl rfl rfl rfl (by omega) (fun _ => rfl) (ones_of rfl) (by omega) l3 rfl (by decide) (ones_of rfl) rfl ?_)
  refine go Try.tbs_ok 1000 ?_
  refine ev_need (by kernel_rfl) ?_
  rotate_left
  refine go Try.tbs_ok 1000 ?_
  have l4 : i < (L).length := (by omega)
  refine ev_stop (go_loadE Try.tbs_ok (.inr 0) (i) 2 rfl rfl rfl rfl (fun _ h => Row.rd h) (by omega) (fun _ => rfl) (by omega) l4 (by decide) ?_)
  refine go Try.tbs_ok 1000 ?_
  refine ev_need ⟨⟨(by repeat (first | exact trivial | refine ⟨rfl, ?_⟩)), rfl⟩, by kernel_rfl⟩ ?_
  have l5 : i < (L).length := (by omega)
  refine ev_stop (go_loadE Try.tbs_ok (.inr 0) (i) 1 rfl rfl rfl rfl (fun _ h => Row.rd h) (by omega) (fun _ => rfl) (by omega) l5 (by decide) ?_)
  refine go Try.tbs_ok 1000 ?_
  refine ev_need ⟨⟨(by repeat (first | exact trivial | refine ⟨rfl, ?_⟩)), rfl⟩, by kernel_rfl⟩ ?_
  refine ev_stop (go_slot 8 _ (.va (.int IntKind.i64 ((q.toNat : Nat) : Int))) rfl rfl (congrArg (fun z => Value.int IntKind.i64 z) (show q = ((q.toNat : Nat) : Int) by first | omega | (simp only [List.getElem_set_self]; omega))) (fun _ => trivial) ?_)
  refine go Try.tbs_ok 1000 ?_
  refine ev_stop (go_sliceS Try.tbs_ok (0) (q.toNat) rfl rfl rfl rfl rfl ⟨_, rfl⟩ (by omega) (by omega) ?_)
  refine go Try.tbs_ok 1000 ?_
  refine ev_need ⟨⟨(by repeat (first | exact trivial | refine ⟨rfl, ?_⟩)), rfl⟩, by kernel_rfl⟩ ?_
  refine ev_need ⟨⟨(by repeat (first | exact trivial | refine ⟨rfl, ?_⟩)), rfl⟩, by kernel_rfl⟩ ?_
  refine ev_need ⟨⟨(by repeat (first | exact trivial | refine ⟨rfl, ?_⟩)), rfl⟩, by kernel_rfl⟩ ?_
  have l6 : i < (L).length := (by omega)
  refine ev_stop (go_storeR Try.tbs_ok 0 (i) 1 ({ n := L[i].n, d := L[i].d.extract 0 q.toNat, s := L[i].s : Fl }) rfl rfl rfl rfl rfl (by omega) (fun _ => rfl) (ones_of rfl) (by omega) l6 rfl (by decide) (ones_of rfl) rfl ?_)
  refine go Try.tbs_ok 1000 ?_
  refine ev_need ⟨⟨(by repeat (first | exact trivial | refine ⟨rfl, ?_⟩)), rfl⟩, by kernel_rfl⟩ ?_
  refine ev_need ⟨⟨(by repeat (first | exact trivial | refine ⟨rfl, ?_⟩)), rfl⟩, by kernel_rfl⟩ ?_
  refine ev_need ⟨⟨(by repeat (first | exact trivial | refine ⟨rfl, ?_⟩)), rfl⟩, by kernel_rfl⟩ ?_
  have l7 : i < (L.set i { n := L[i].n, d := L[i].d.extract 0 q.toNat, s := L[i].s : Fl }).length := (by (simp only [List.length_set] <;> omega))
  refine ev_stop (go_storeR Try.tbs_ok 0 (i) 2 ({ n := (L.set i { n := L[i].n, d := L[i].d.extract 0 q.toNat, s := L[i].s : Fl })[i].n, d := (L.set i { n := L[i].n, d := L[i].d.extract 0 q.toNat, s := L[i].s : Fl })[i].d, s := min L[i].s q : Fl }) rfl rfl rfl rfl rfl (by omega) (fun _ => rfl) (ones_of rfl) (by omega) l7 rfl (by decide) (ones_of rfl) rfl ?_)
  refine go Try.tbs_ok 1000 ?_
  refine ev_need (by kernel_rfl) ?_
  rotate_left
  · simp only [List.getElem_set_self, List.set_set]
    refine ev_fin ⟨trivial, _, rfl, (()), rfl, (by trivial), Frm.sel [0, 1, 2] rfl (by decide)⟩
  · simp only [List.getElem_set_self, List.set_set]
    refine ev_fin ⟨trivial, _, rfl, (()), rfl, (by trivial), Frm.sel [0, 1, 2] rfl (by decide)⟩
set_option maxRecDepth 100000 in
theorem removeDo (p : Nat) (m s : Int) (dn : Bool) (A : Option Addr) (n c : Nat) (fv : Value) (B : Option Addr) (k d : Nat) (L : List Fl) (hn : n = L.length) (h1 : n ≤ 1000) (bd ba i : Nat) (hi : i < n) : Triple Try.prog 72 [.pointer (some ⟨bd, 0, none⟩), .pointer (some ⟨ba, 0, none⟩)] [Pt p 53 [.int .i64 m, .int .i64 s, .bool dn, .slice A n c, fv, .slice B k d], Row 71 3 A n c (L.flatMap encF), Pt bd 25 [.pointer (some ⟨p, 0, none⟩)], Pt ba 3 [.int .i64 (i : Nat)]] [] (Unit) (fun _ => .tuple #[]) (fun _ => True) (fun _ => [Pt p 53 [.int .i64 m, .int .i64 s, .bool dn, .slice A (n - 1) c, fv, .slice B k d], Row 71 3 A (n - 1) c ((L.eraseIdx i).flatMap encF), Pt bd 25 [.pointer (some ⟨p, 0, none⟩)], Pt ba 3 [.int .i64 (i : Nat)]]) := by
  have T1 := dropT p m s dn A n c fv B k d L hn h1 i hi
  refine triple_intro Try.tbs_ok Try.func72 rfl [.pt 2 bd 0, .pt 3 ba 0] [.box p 53 [.va (.int .i64 m), .va (.int .i64 s), .va (.bool dn), .va (.slice A n c), .va fv, .va (.slice B k d)], .fact (Row 71 3 A n c (L.flatMap encF)), .box bd 25 [.pt 0 p 0], .box ba 3 [.va (.int .i64 (i : Nat))]] ⟨rfl, rfl, trivial⟩ rfl (by simp [SV.good, SV.goodL] <;> rfl) ?_
  intro E
  refine go Try.tbs_ok 1000 ?_
  refine ev_call (T1 ) [0, 1] [] (fun v0_ => [.box (p) 53 [.va (Value.int IntKind.i64 m), .va (Value.int IntKind.i64 s), .bq (dn), .va (Value.slice A (n - 1) c), .va (fv), .va (Value.slice B k d)], .fact (Row 71 3 A (n - 1) c (List.flatMap encF (L.eraseIdx i)))]) rfl rfl (by decide) rfl (by simp) (fun _ => rfl) (fun _ => (newsOk_box (by simp [SV.good, SV.goodL]) (newsOk_fact (newsOk_nil _)))) (fun _ => (by repeat (first | exact trivial | refine ⟨rfl, ?_⟩))) (fun _ h0 => ?_)
  refine go Try.tbs_ok 1000 ?_
  refine ev_fin ⟨trivial, _, rfl, (()), rfl, (by trivial), Frm.sel [0, 1, 2, 3] rfl (by decide)⟩
end Go.Proofs.Ythknokcgclcbmaa

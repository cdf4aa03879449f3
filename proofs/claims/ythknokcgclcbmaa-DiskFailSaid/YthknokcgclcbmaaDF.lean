/-
  What is proved: bytes are appended, a file has another name. Conditions: none.
-/
import Derived.Test.YthknokcgclcbmaaDE
namespace Go.Proofs.Ythknokcgclcbmaa
open Go.Sy

set_option maxRecDepth 100000 in
theorem appendDoT (p : Nat) (m s : Int) (dn : Bool) (A : Option Addr) (n c : Nat) (fv : Value) (B : Option Addr) (k d : Nat) (L : List Fl) (hn : n = L.length) (_h1 : n ≤ 1000) (bk bd ba bx bs i : Nat) (x y : ByteArray) (hi : i < L.length) (hy : (L[i]'hi).d.size + y.size ≤ 1000000000) : Triple Try.prog 62 [.pointer (some ⟨bk, 0, none⟩), .pointer (some ⟨bd, 0, none⟩), .pointer (some ⟨ba, 0, none⟩), .pointer (some ⟨bx, 0, none⟩), .pointer (some ⟨bs, 0, none⟩)] [Pt p 53 [.int .i64 m, .int .i64 s, .bool dn, .slice A n c, fv, .slice B k d], Row 71 3 A n c (L.flatMap encF), Pt bk 4 [.bool true], Pt bd 25 [.pointer (some ⟨p, 0, none⟩)], Pt ba 3 [.int .i64 (i : Nat)], Pt bx 9 [.string x], Pt bs 9 [.string y]] [] (Unit) (fun _ => .tuple #[]) (fun _ => True) (fun _ => [Pt p 53 [.int .i64 m, .int .i64 s, .bool dn, .slice A n c, fv, .slice B k d], Row 71 3 A n c ((L.set i ⟨(L[i]'hi).n, (L[i]'hi).d ++ y, (L[i]'hi).s⟩).flatMap encF), Pt bk 4 [.bool true], Pt bd 25 [.pointer (some ⟨p, 0, none⟩)], Pt ba 3 [.int .i64 (i : Nat)], Pt bx 9 [.string x], Pt bs 9 [.string y]]) := by
  refine triple_intro Try.tbs_ok Try.func62 rfl [.pt 2 bk 0, .pt 3 bd 0, .pt 4 ba 0, .pt 5 bx 0, .pt 6 bs 0] [.box p 53 [.va (.int .i64 m), .va (.int .i64 s), .va (.bool dn), .va (.slice A n c), .va fv, .va (.slice B k d)], .fact (Row 71 3 A n c (L.flatMap encF)), .box bk 4 [.va (.bool true)], .box bd 25 [.pt 0 p 0], .box ba 3 [.va (.int .i64 (i : Nat))], .box bx 9 [.va (.string x)], .box bs 9 [.va (.string y)]] ⟨rfl, rfl, rfl, rfl, rfl, trivial⟩ rfl (by simp [SV.good, SV.goodL] <;> rfl) ?_
  intro E
  refine go Try.tbs_ok 1000 ?_
  refine ev_if_no rfl ?_
  refine go Try.tbs_ok 1000 ?_
  refine ev_stop (go_draw Try.tbs_ok false [0, 1, 3, 4, 6] [(0,true),(1,true),(2,true),(3,true),(4,true),(5,true),(6,true),(7,true),(8,true),(9,true),(10,true),(11,true),(12,false)] rfl ?_)
  refine go Try.tbs_ok 1000 ?_
  refine ev_need ⟨⟨(by repeat (first | exact trivial | refine ⟨rfl, ?_⟩)), rfl⟩, by kernel_rfl⟩ ?_
  refine ev_stop (tk_index0 (sz := 3) Try.tbs_ok (.inr 1) (i) ⟨⟨(by repeat (first | exact trivial | refine ⟨rfl, ?_⟩)), rfl⟩, by kernel_rfl⟩ rfl rfl rfl rfl rfl rfl rfl (by omega) rfl Row.at0 (fun g0 e1 => ?_))
  subst e1
  refine go Try.tbs_ok 1000 ?_
  refine ev_need ⟨⟨(by repeat (first | exact trivial | refine ⟨rfl, ?_⟩)), rfl⟩, by kernel_rfl⟩ ?_
  have l2 : i < (L).length := (by omega)
  refine ev_stop (tk_loadE Try.tbs_ok (.inr 1) (i) 1 ⟨⟨(by repeat (first | exact trivial | refine ⟨rfl, ?_⟩)), rfl⟩, by kernel_rfl⟩ rfl rfl rfl rfl rfl (fun _ h => Row.rd h) (by omega) (fun _ => rfl) (by omega) l2 (by decide) ?_)
  refine go Try.tbs_ok 1000 ?_
  refine ev_need ⟨⟨(by repeat (first | exact trivial | refine ⟨rfl, ?_⟩)), rfl⟩, by kernel_rfl⟩ ?_
  refine ev_stop (tk_bin (.va _) trivial ⟨⟨(by repeat (first | exact trivial | refine ⟨rfl, ?_⟩)), rfl⟩, by kernel_rfl⟩ rfl rfl rfl rfl rfl rfl (by decide) (by decide) (fun w => cat_run (by omega) w) ?_)
  refine go Try.tbs_ok 1000 ?_
  refine ev_need ⟨⟨(by repeat (first | exact trivial | refine ⟨rfl, ?_⟩)), rfl⟩, by kernel_rfl⟩ ?_
  refine ev_stop (tk_atE (sz := 3) Try.tbs_ok (i) ⟨⟨(by repeat (first | exact trivial | refine ⟨rfl, ?_⟩)), rfl⟩, by kernel_rfl⟩ rfl rfl rfl rfl rfl rfl rfl (by omega) ?_)
  refine go Try.tbs_ok 1000 ?_
  refine ev_need ⟨⟨(by repeat (first | exact trivial | refine ⟨rfl, ?_⟩)), rfl⟩, by kernel_rfl⟩ ?_
  have l3 : i < (L).length := (by omega)
  refine ev_stop (go_storeR Try.tbs_ok 1 (i) 1 ({ n := L[i].n, d := L[i].d ++ y, s := L[i].s : Fl }) rfl rfl rfl rfl rfl (by omega) (fun _ => rfl) (ones_of rfl) (by omega) l3 rfl (by decide) (ones_of rfl) rfl ?_)
  refine go Try.tbs_ok 1000 ?_
  refine ev_need (by kernel_rfl) ?_
  refine ev_fin ⟨trivial, _, rfl, (()), rfl, (by trivial), Frm.sel [0, 1, 2, 3, 4, 5, 6] rfl (by decide)⟩
set_option maxRecDepth 100000 in
theorem appendDoF (p : Nat) (m s : Int) (dn : Bool) (A : Option Addr) (n c : Nat) (fv : Value) (B : Option Addr) (k d : Nat) (L : List Fl) (hn : n = L.length) (h1 : n ≤ 1000) (bk bd ba bx bs i : Nat) (x y : ByteArray) (hi : i ≤ n) (hy : y.size ≤ 1000000000) : Triple Try.prog 62 [.pointer (some ⟨bk, 0, none⟩), .pointer (some ⟨bd, 0, none⟩), .pointer (some ⟨ba, 0, none⟩), .pointer (some ⟨bx, 0, none⟩), .pointer (some ⟨bs, 0, none⟩)] [Pt p 53 [.int .i64 m, .int .i64 s, .bool dn, .slice A n c, fv, .slice B k d], Row 71 3 A n c (L.flatMap encF), Pt bk 4 [.bool false], Pt bd 25 [.pointer (some ⟨p, 0, none⟩)], Pt ba 3 [.int .i64 (i : Nat)], Pt bx 9 [.string x], Pt bs 9 [.string y]] [] (Option Addr × Nat) (fun _ => .tuple #[]) (fun _ => True) (fun (A2, c2) => [Pt p 53 [.int .i64 m, .int .i64 s, .bool dn, .slice A2 (n + 1) c2, fv, .slice B k d], Row 71 3 A2 (n + 1) c2 ((L.take i ++ ⟨x, y, 0⟩ :: L.drop i).flatMap encF), Pt bk 4 [.bool false], Pt bd 25 [.pointer (some ⟨p, 0, none⟩)], Pt ba 3 [.int .i64 (i : Nat)], Pt bx 9 [.string x], Pt bs 9 [.string y]]) := by
  have T1 := fun vb => insertF A L n c i vb ⟨x, ByteArray.empty, 0⟩ hn h1 hi
  refine triple_intro Try.tbs_ok Try.func62 rfl [.pt 2 bk 0, .pt 3 bd 0, .pt 4 ba 0, .pt 5 bx 0, .pt 6 bs 0] [.box p 53 [.va (.int .i64 m), .va (.int .i64 s), .va (.bool dn), .va (.slice A n c), .va fv, .va (.slice B k d)], .fact (Row 71 3 A n c (L.flatMap encF)), .box bk 4 [.va (.bool false)], .box bd 25 [.pt 0 p 0], .box ba 3 [.va (.int .i64 (i : Nat))], .box bx 9 [.va (.string x)], .box bs 9 [.va (.string y)]] ⟨rfl, rfl, rfl, rfl, rfl, trivial⟩ rfl (by simp [SV.good, SV.goodL] <;> rfl) ?_
  intro E
  obtain ⟨J, hJ⟩ : ∃ J, J = L.take i ++ (⟨x, ByteArray.empty, 0⟩ : Fl) :: L.drop i := ⟨_, rfl⟩
  have hl : (L.take i).length = i := by rw [List.length_take]; omega
  have hJl : J.length = n + 1 := by
    rw [hJ, List.length_append, hl, List.length_cons, List.length_drop]; omega
  have hJi : J[i]'(by omega) = ⟨x, ByteArray.empty, 0⟩ := by
    simp only [hJ]
    rw [List.getElem_append_right (by omega)]
    simp [hl]
  have hJz : (J[i]'(by omega)).d.size + y.size ≤ 1000000000 := by
    rw [hJi]
    have : ByteArray.empty.size = 0 := rfl
    simp only [this]
    omega
  have e1 : J.set i ⟨(J[i]'(by omega)).n, (J[i]'(by omega)).d ++ y, (J[i]'(by omega)).s⟩ = L.take i ++ ⟨x, y, 0⟩ :: L.drop i := by
    rw [hJi, hJ, List.set_append_right _ _ (by omega), hl, Nat.sub_self, List.set_cons_zero]
    simp only [ByteArray.empty_append]
  simp only [← hJ] at T1
  refine go Try.tbs_ok 1000 ?_
  refine ev_if_yes rfl ?_
  refine go Try.tbs_ok 1000 ?_
  refine ev_stop (go_draw Try.tbs_ok false [0, 3, 4, 5] [(0,true),(1,true),(2,true),(3,true),(4,true),(5,true),(6,true),(7,true),(8,false),(9,false),(10,false),(11,false),(12,false)] rfl ?_)
  refine go Try.tbs_ok 1000 ?_
  refine ev_need ⟨⟨(by repeat (first | exact trivial | refine ⟨rfl, ?_⟩)), rfl⟩, by kernel_rfl⟩ ?_
  refine ev_new fun b0 => ?_
  refine ev_need ⟨⟨(by repeat (first | exact trivial | refine ⟨rfl, ?_⟩)), rfl⟩, by kernel_rfl⟩ ?_
  refine ev_callF (T1 (b0)) [1, 7] [] rfl rfl (by decide) rfl (by simp) (fun _ => (by repeat (first | exact trivial | refine ⟨rfl, ?_⟩))) (fun ⟨x1, x2⟩ h3 => ?_)
  refine go Try.tbs_ok 1000 ?_
  refine ev_need ⟨⟨(by repeat (first | exact trivial | refine ⟨rfl, ?_⟩)), rfl⟩, by kernel_rfl⟩ ?_
  refine ev_need ⟨⟨(by repeat (first | exact trivial | refine ⟨rfl, ?_⟩)), rfl⟩, by kernel_rfl⟩ ?_
  refine ev_need ⟨⟨(by repeat (first | exact trivial | refine ⟨rfl, ?_⟩)), rfl⟩, by kernel_rfl⟩ ?_
  refine ev_need (by kernel_rfl) ?_
  refine ev_stop (go_draw Try.tbs_ok false [0, 1, 3, 4, 6] [(0,true),(1,true),(2,true),(3,true),(4,true),(5,true),(6,true),(7,true),(8,true),(9,true),(10,true),(11,true),(12,false)] rfl ?_)
  refine go Try.tbs_ok 1000 ?_
  refine ev_need ⟨⟨(by repeat (first | exact trivial | refine ⟨rfl, ?_⟩)), rfl⟩, by kernel_rfl⟩ ?_
  refine ev_stop (tk_index0 (sz := 3) Try.tbs_ok (.inr 1) (i) ⟨⟨(by repeat (first | exact trivial | refine ⟨rfl, ?_⟩)), rfl⟩, by kernel_rfl⟩ rfl rfl rfl rfl rfl rfl rfl (by omega) rfl Row.at0 (fun g4 e5 => ?_))
  subst e5
  refine go Try.tbs_ok 1000 ?_
  refine ev_need ⟨⟨(by repeat (first | exact trivial | refine ⟨rfl, ?_⟩)), rfl⟩, by kernel_rfl⟩ ?_
  have l6 : i < (J).length := (by omega)
  refine ev_stop (tk_loadE Try.tbs_ok (.inr 1) (i) 1 ⟨⟨(by repeat (first | exact trivial | refine ⟨rfl, ?_⟩)), rfl⟩, by kernel_rfl⟩ rfl rfl rfl rfl rfl (fun _ h => Row.rd h) (by omega) (fun _ => rfl) (by omega) l6 (by decide) ?_)
  refine go Try.tbs_ok 1000 ?_
  refine ev_need ⟨⟨(by repeat (first | exact trivial | refine ⟨rfl, ?_⟩)), rfl⟩, by kernel_rfl⟩ ?_
  refine ev_stop (tk_bin (.va _) trivial ⟨⟨(by repeat (first | exact trivial | refine ⟨rfl, ?_⟩)), rfl⟩, by kernel_rfl⟩ rfl rfl rfl rfl rfl rfl (by decide) (by decide) (fun w => cat_run (by omega) w) ?_)
  refine go Try.tbs_ok 1000 ?_
  refine ev_need ⟨⟨(by repeat (first | exact trivial | refine ⟨rfl, ?_⟩)), rfl⟩, by kernel_rfl⟩ ?_
  refine ev_stop (tk_atE (sz := 3) Try.tbs_ok (i) ⟨⟨(by repeat (first | exact trivial | refine ⟨rfl, ?_⟩)), rfl⟩, by kernel_rfl⟩ rfl rfl rfl rfl rfl rfl rfl (by omega) ?_)
  refine go Try.tbs_ok 1000 ?_
  refine ev_need ⟨⟨(by repeat (first | exact trivial | refine ⟨rfl, ?_⟩)), rfl⟩, by kernel_rfl⟩ ?_
  have l7 : i < (J).length := (by omega)
  refine ev_stop (go_storeR Try.tbs_ok 1 (i) 1 ({ n := J[i].n, d := J[i].d ++ y, s := J[i].s : Fl }) rfl rfl rfl rfl rfl (by omega) (fun _ => rfl) (ones_of rfl) (by omega) l7 rfl (by decide) (ones_of rfl) rfl ?_)
  refine go Try.tbs_ok 1000 ?_
  refine ev_need (by kernel_rfl) ?_
  rw [e1]
  refine ev_fin ⟨trivial, _, rfl, ((some { block := g4, off := 0 : Addr }, x2)), rfl, (by trivial), Frm.sel [0, 1, 2, 3, 4, 5, 6] rfl (by decide)⟩
theorem has_pos {L : List Fl} (hs : riseF L) {x : ByteArray} (h : hasF L x = true) : ∃ h : posF L x < L.length, (L[posF L x]'h).n = x := by
  unfold hasF at h
  rw [List.any_eq_true] at h
  obtain ⟨y, hy, e⟩ := h
  have e := of_decide_eq_true e
  obtain ⟨k, hk, rfl⟩ := List.getElem_of_mem hy
  have h1 : ∀ y ∈ L.take k, ltS y.n x := fun y hy => by
    obtain ⟨j, hj, rfl⟩ := List.getElem_of_mem hy
    rw [List.length_take] at hj
    rw [List.getElem_take, ← e]
    exact List.pairwise_iff_getElem.1 hs j k (by omega) hk (by omega)
  have h2 : ∀ y ∈ L.drop k, ¬ ltS y.n x := fun y hy => by
    obtain ⟨j, hj, rfl⟩ := List.getElem_of_mem hy
    rw [List.length_drop] at hj
    rw [List.getElem_drop, ← e]
    rcases Nat.eq_zero_or_pos j with h0 | h0
    · subst h0; exact ltS.irrefl _
    · exact (List.pairwise_iff_getElem.1 hs k (k + j) hk (by omega) (by omega)).asymm
  have : posF L x = k := posF_of (by omega) h1 h2
  simp only [this]
  exact ⟨hk, e⟩
set_option maxRecDepth 100000 in
theorem renameDoT (p : Nat) (m s : Int) (dn : Bool) (A : Option Addr) (n c : Nat) (fv : Value) (B : Option Addr) (k d : Nat) (L : List Fl) (hn : n = L.length) (h1 : n ≤ 1000) (hs : riseF L) (bd ba bt i : Nat) (x : ByteArray) (hi : i < L.length) (hh : hasF (L.eraseIdx i) x = true) : Triple Try.prog 65 [.pointer (some ⟨bd, 0, none⟩), .pointer (some ⟨ba, 0, none⟩), .pointer (some ⟨bt, 0, none⟩)] [Pt p 53 [.int .i64 m, .int .i64 s, .bool dn, .slice A n c, fv, .slice B k d], Row 71 3 A n c (L.flatMap encF), Pt bd 25 [.pointer (some ⟨p, 0, none⟩)], Pt ba 3 [.int .i64 (i : Nat)], Pt bt 9 [.string x]] [] (Unit) (fun _ => .tuple #[]) (fun _ => True) (fun _ => [Pt p 53 [.int .i64 m, .int .i64 s, .bool dn, .slice A (n - 1) c, fv, .slice B k d], Row 71 3 A (n - 1) c (((L.eraseIdx i).set (posF (L.eraseIdx i) x) ⟨x, (L[i]'hi).d, (L[i]'hi).s⟩).flatMap encF), Pt bd 25 [.pointer (some ⟨p, 0, none⟩)], Pt ba 3 [.int .i64 (i : Nat)], Pt bt 9 [.string x]]) := by
  have T1 := dropT p m s dn A n c fv B k d L hn h1 i (by omega)
  have hl : (L.eraseIdx i).length = n - 1 := by rw [List.length_eraseIdx_of_lt hi]; omega
  have hsM : riseF (L.eraseIdx i) := List.Pairwise.sublist (List.eraseIdx_sublist _ _) hs
  have T2 := findT p m s dn A (n - 1) c fv B k d (L.eraseIdx i) x hl.symm (by omega) hsM
  rw [hh] at T2
  obtain ⟨hp, _⟩ := has_pos hsM hh
  refine triple_intro Try.tbs_ok Try.func65 rfl [.pt 2 bd 0, .pt 3 ba 0, .pt 4 bt 0] [.box p 53 [.va (.int .i64 m), .va (.int .i64 s), .va (.bool dn), .va (.slice A n c), .va fv, .va (.slice B k d)], .fact (Row 71 3 A n c (L.flatMap encF)), .box bd 25 [.pt 0 p 0], .box ba 3 [.va (.int .i64 (i : Nat))], .box bt 9 [.va (.string x)]] ⟨rfl, rfl, rfl, trivial⟩ rfl (by simp [SV.good, SV.goodL] <;> rfl) ?_
  intro E
  refine go Try.tbs_ok 1000 ?_
  refine ev_stop (go_draw Try.tbs_ok false [0, 1, 2, 3] [(0,true),(1,true),(2,true),(3,true),(4,true),(5,true),(6,true),(7,false),(8,false)] rfl ?_)
  refine go Try.tbs_ok 1000 ?_
  refine ev_need ⟨⟨(by repeat (first | exact trivial | refine ⟨rfl, ?_⟩)), rfl⟩, by kernel_rfl⟩ ?_
  refine ev_stop (tk_index0 (sz := 3) Try.tbs_ok (.inr 1) (i) ⟨⟨(by repeat (first | exact trivial | refine ⟨rfl, ?_⟩)), rfl⟩, by kernel_rfl⟩ rfl rfl rfl rfl rfl rfl rfl (by omega) rfl Row.at0 (fun g0 e1 => ?_))
  subst e1
  refine go Try.tbs_ok 1000 ?_
  refine ev_need ⟨⟨(by repeat (first | exact trivial | refine ⟨rfl, ?_⟩)), rfl⟩, by kernel_rfl⟩ ?_
  have l2 : i < (L).length := (by omega)
  refine ev_stop (tk_loadE Try.tbs_ok (.inr 1) (i) 0 ⟨⟨(by repeat (first | exact trivial | refine ⟨rfl, ?_⟩)), rfl⟩, by kernel_rfl⟩ rfl rfl rfl rfl rfl (fun _ h => Row.rd h) (by omega) (fun _ => rfl) (by omega) l2 (by decide) ?_)
  refine go Try.tbs_ok 1000 ?_
  refine ev_need ⟨⟨(by repeat (first | exact trivial | refine ⟨rfl, ?_⟩)), rfl⟩, by kernel_rfl⟩ ?_
  refine ev_new fun b3 => ?_
  refine ev_need ⟨⟨(by repeat (first | exact trivial | refine ⟨rfl, ?_⟩)), rfl⟩, by kernel_rfl⟩ ?_
  refine ev_need (by kernel_rfl) ?_
  refine ev_call (T1 ) [0, 1] [] (fun v0_ => [.box (p) 53 [.va (Value.int IntKind.i64 m), .va (Value.int IntKind.i64 s), .bq (dn), .va (Value.slice (some { block := g0, off := 0 : Addr }) (n - 1) c), .va (fv), .va (Value.slice B k d)], .fact (Row 71 3 (some { block := g0, off := 0 : Addr }) (n - 1) c (List.flatMap encF (L.eraseIdx i)))]) rfl rfl (by decide) rfl (by simp) (fun _ => rfl) (fun _ => (newsOk_box (by simp [SV.good, SV.goodL]) (newsOk_fact (newsOk_nil _)))) (fun _ => (by repeat (first | exact trivial | refine ⟨rfl, ?_⟩))) (fun _ h4 => ?_)
  refine go Try.tbs_ok 1000 ?_
  refine ev_call (T2 ) [0, 1] [] (fun v0_ => [.box (p) 53 [.va (Value.int IntKind.i64 m), .va (Value.int IntKind.i64 s), .bq (dn), .va (Value.slice (some { block := g0, off := 0 : Addr }) (n - 1) c), .va (fv), .va (Value.slice B k d)], .fact (Row 71 3 (some { block := g0, off := 0 : Addr }) (n - 1) c (List.flatMap encF (L.eraseIdx i)))]) rfl rfl (by decide) rfl (by simp) (fun _ => rfl) (fun _ => (newsOk_box (by simp [SV.good, SV.goodL]) (newsOk_fact (newsOk_nil _)))) (fun _ => (by repeat (first | exact trivial | refine ⟨rfl, ?_⟩))) (fun _ h5 => ?_)
  refine go Try.tbs_ok 1000 ?_
  refine ev_if_yes rfl ?_
  refine go Try.tbs_ok 1000 ?_
  refine ev_stop (go_draw Try.tbs_ok false [0, 2, 5] [(0,true),(1,true),(2,true),(3,true),(4,true),(5,true),(6,true),(7,false)] rfl ?_)
  refine go Try.tbs_ok 1000 ?_
  refine ev_need ⟨⟨(by repeat (first | exact trivial | refine ⟨rfl, ?_⟩)), rfl⟩, by kernel_rfl⟩ ?_
  refine ev_stop (tk_atE (sz := 3) Try.tbs_ok (posF (L.eraseIdx i) x) ⟨⟨(by repeat (first | exact trivial | refine ⟨rfl, ?_⟩)), rfl⟩, by kernel_rfl⟩ rfl rfl rfl rfl rfl rfl rfl (by omega) ?_)
  refine go Try.tbs_ok 1000 ?_
  refine ev_need ⟨⟨(by repeat (first | exact trivial | refine ⟨rfl, ?_⟩)), rfl⟩, by kernel_rfl⟩ ?_
  have l6 : posF (L.eraseIdx i) x < (L.eraseIdx i).length := (by omega)
  refine ev_stop (go_storeR Try.tbs_ok 1 (posF (L.eraseIdx i) x) 0 ({ n := x, d := L[i].d, s := L[i].s : Fl }) rfl rfl rfl rfl rfl (by omega) (fun _ => rfl) (ones_of rfl) (by omega) l6 rfl (by decide) (ones_of rfl) rfl ?_)
  refine go Try.tbs_ok 1000 ?_
  refine ev_need (by kernel_rfl) ?_
  refine ev_fin ⟨trivial, _, rfl, (()), rfl, (by trivial), Frm.sel [0, 1, 2, 3, 4] rfl (by decide)⟩
set_option maxRecDepth 100000 in
theorem renameDoF (p : Nat) (m s : Int) (dn : Bool) (A : Option Addr) (n c : Nat) (fv : Value) (B : Option Addr) (k d : Nat) (L : List Fl) (hn : n = L.length) (h1 : n ≤ 1000) (hs : riseF L) (bd ba bt i : Nat) (x : ByteArray) (hi : i < L.length) (hh : hasF (L.eraseIdx i) x = false) : Triple Try.prog 65 [.pointer (some ⟨bd, 0, none⟩), .pointer (some ⟨ba, 0, none⟩), .pointer (some ⟨bt, 0, none⟩)] [Pt p 53 [.int .i64 m, .int .i64 s, .bool dn, .slice A n c, fv, .slice B k d], Row 71 3 A n c (L.flatMap encF), Pt bd 25 [.pointer (some ⟨p, 0, none⟩)], Pt ba 3 [.int .i64 (i : Nat)], Pt bt 9 [.string x]] [] (Option Addr × Nat) (fun _ => .tuple #[]) (fun _ => True) (fun (A2, c2) => [Pt p 53 [.int .i64 m, .int .i64 s, .bool dn, .slice A2 (n - 1 + 1) c2, fv, .slice B k d], Row 71 3 A2 (n - 1 + 1) c2 (((L.eraseIdx i).take (posF (L.eraseIdx i) x) ++ ⟨x, (L[i]'hi).d, (L[i]'hi).s⟩ :: (L.eraseIdx i).drop (posF (L.eraseIdx i) x)).flatMap encF), Pt bd 25 [.pointer (some ⟨p, 0, none⟩)], Pt ba 3 [.int .i64 (i : Nat)], Pt bt 9 [.string x]]) := by
  have T1 := dropT p m s dn A n c fv B k d L hn h1 i (by omega)
  have hl : (L.eraseIdx i).length = n - 1 := by rw [List.length_eraseIdx_of_lt hi]; omega
  have hsM : riseF (L.eraseIdx i) := List.Pairwise.sublist (List.eraseIdx_sublist _ _) hs
  have T2 := findT p m s dn A (n - 1) c fv B k d (L.eraseIdx i) x hl.symm (by omega) hsM
  rw [hh] at T2
  have hp := posF_le (L.eraseIdx i) x
  have T3 := fun vb => insertF A (L.eraseIdx i) (n - 1) c (posF (L.eraseIdx i) x) vb ⟨x, L[i].d, L[i].s⟩ hl.symm (by omega) (by omega)
  refine triple_intro Try.tbs_ok Try.func65 rfl [.pt 2 bd 0, .pt 3 ba 0, .pt 4 bt 0] [.box p 53 [.va (.int .i64 m), .va (.int .i64 s), .va (.bool dn), .va (.slice A n c), .va fv, .va (.slice B k d)], .fact (Row 71 3 A n c (L.flatMap encF)), .box bd 25 [.pt 0 p 0], .box ba 3 [.va (.int .i64 (i : Nat))], .box bt 9 [.va (.string x)]] ⟨rfl, rfl, rfl, trivial⟩ rfl (by simp [SV.good, SV.goodL] <;> rfl) ?_
  intro E
  refine go Try.tbs_ok 1000 ?_
  refine ev_stop (go_draw Try.tbs_ok false [0, 1, 2, 3] [(0,true),(1,true),(2,true),(3,true),(4,true),(5,true),(6,true),(7,false),(8,false)] rfl ?_)
  refine go Try.tbs_ok 1000 ?_
  refine ev_need ⟨⟨(by repeat (first | exact trivial | refine ⟨rfl, ?_⟩)), rfl⟩, by kernel_rfl⟩ ?_
  refine ev_stop (tk_index0 (sz := 3) Try.tbs_ok (.inr 1) (i) ⟨⟨(by repeat (first | exact trivial | refine ⟨rfl, ?_⟩)), rfl⟩, by kernel_rfl⟩ rfl rfl rfl rfl rfl rfl rfl (by omega) rfl Row.at0 (fun g0 e1 => ?_))
  subst e1
  refine go Try.tbs_ok 1000 ?_
  refine ev_need ⟨⟨(by repeat (first | exact trivial | refine ⟨rfl, ?_⟩)), rfl⟩, by kernel_rfl⟩ ?_
  have l2 : i < (L).length := (by omega)
  refine ev_stop (tk_loadE Try.tbs_ok (.inr 1) (i) 0 ⟨⟨(by repeat (first | exact trivial | refine ⟨rfl, ?_⟩)), rfl⟩, by kernel_rfl⟩ rfl rfl rfl rfl rfl (fun _ h => Row.rd h) (by omega) (fun _ => rfl) (by omega) l2 (by decide) ?_)
  refine go Try.tbs_ok 1000 ?_
  refine ev_need ⟨⟨(by repeat (first | exact trivial | refine ⟨rfl, ?_⟩)), rfl⟩, by kernel_rfl⟩ ?_
  refine ev_new fun b3 => ?_
  refine ev_need ⟨⟨(by repeat (first | exact trivial | refine ⟨rfl, ?_⟩)), rfl⟩, by kernel_rfl⟩ ?_
  refine ev_need (by kernel_rfl) ?_
  refine ev_call (T1 ) [0, 1] [] (fun v0_ => [.box (p) 53 [.va (Value.int IntKind.i64 m), .va (Value.int IntKind.i64 s), .bq (dn), .va (Value.slice (some { block := g0, off := 0 : Addr }) (n - 1) c), .va (fv), .va (Value.slice B k d)], .fact (Row 71 3 (some { block := g0, off := 0 : Addr }) (n - 1) c (List.flatMap encF (L.eraseIdx i)))]) rfl rfl (by decide) rfl (by simp) (fun _ => rfl) (fun _ => (newsOk_box (by simp [SV.good, SV.goodL]) (newsOk_fact (newsOk_nil _)))) (fun _ => (by repeat (first | exact trivial | refine ⟨rfl, ?_⟩))) (fun _ h4 => ?_)
  refine go Try.tbs_ok 1000 ?_
  refine ev_call (T2 ) [0, 1] [] (fun v0_ => [.box (p) 53 [.va (Value.int IntKind.i64 m), .va (Value.int IntKind.i64 s), .bq (dn), .va (Value.slice (some { block := g0, off := 0 : Addr }) (n - 1) c), .va (fv), .va (Value.slice B k d)], .fact (Row 71 3 (some { block := g0, off := 0 : Addr }) (n - 1) c (List.flatMap encF (L.eraseIdx i)))]) rfl rfl (by decide) rfl (by simp) (fun _ => rfl) (fun _ => (newsOk_box (by simp [SV.good, SV.goodL]) (newsOk_fact (newsOk_nil _)))) (fun _ => (by repeat (first | exact trivial | refine ⟨rfl, ?_⟩))) (fun _ h5 => ?_)
  refine go Try.tbs_ok 1000 ?_
  refine ev_if_no rfl ?_
  refine go Try.tbs_ok 1000 ?_
  refine ev_stop (go_draw Try.tbs_ok false [0, 2, 5] [(0,true),(1,true),(2,true),(3,true),(4,true),(5,true),(6,true),(7,false),(8,false),(9,false),(10,false),(11,false)] rfl ?_)
  refine go Try.tbs_ok 1000 ?_
  refine ev_need ⟨⟨(by repeat (first | exact trivial | refine ⟨rfl, ?_⟩)), rfl⟩, by kernel_rfl⟩ ?_
  refine ev_new fun b6 => ?_
  refine ev_need ⟨⟨(by repeat (first | exact trivial | refine ⟨rfl, ?_⟩)), rfl⟩, by kernel_rfl⟩ ?_
  refine ev_callF (T3 (b6)) [1, 6] [] rfl rfl (by decide) rfl (by simp) (fun _ => (by repeat (first | exact trivial | refine ⟨rfl, ?_⟩))) (fun ⟨x7, x8⟩ h9 => ?_)
  refine go Try.tbs_ok 1000 ?_
  refine ev_need ⟨⟨(by repeat (first | exact trivial | refine ⟨rfl, ?_⟩)), rfl⟩, by kernel_rfl⟩ ?_
  refine ev_need ⟨⟨(by repeat (first | exact trivial | refine ⟨rfl, ?_⟩)), rfl⟩, by kernel_rfl⟩ ?_
  refine ev_need ⟨⟨(by repeat (first | exact trivial | refine ⟨rfl, ?_⟩)), rfl⟩, by kernel_rfl⟩ ?_
  refine ev_need (by kernel_rfl) ?_
  refine ev_fin ⟨trivial, _, rfl, ((x7, x8)), rfl, (by trivial), Frm.sel [0, 1, 2, 3, 4] rfl (by decide)⟩
end Go.Proofs.Ythknokcgclcbmaa

/-
  What is proved: the texts of this claim, part 6 of 7, each text behind the other. Conditions: none.
-/
import Derived.Test.YthknokcgclcbmaaPl5
namespace Go.Proofs.Ythknokcgclcbmaa
open Go.Sy
theorem posF_erase {L : List Fl} (hs : riseF L) {x : ByteArray} {i : Nat} (hi : i < L.length) (e : L[i].n = x) : posF (L.eraseIdx i) x = i := by
  subst e
  obtain ⟨h1, h2⟩ := posF_split hs L[i].n
  rw [(find_at hs hi).2] at h1 h2
  rw [List.eraseIdx_eq_take_drop_succ]
  refine posF_of (by rw [List.length_append, List.length_take]; omega) (fun y hy => ?_) (fun y hy => ?_)
  · rw [List.take_append_of_le_length (by rw [List.length_take]; omega), List.take_take, Nat.min_self] at hy
    exact h1 y hy
  · rw [List.drop_append, List.drop_of_length_le (by rw [List.length_take]; omega), List.length_take, Nat.min_eq_left (by omega), Nat.sub_self, List.drop_zero, List.nil_append] at hy
    refine h2 y ?_
    rw [List.drop_eq_getElem_cons hi]
    exact List.mem_cons_of_mem _ hy
theorem ins_erase {L : List Fl} (hs : riseF L) {f : Fl} {i : Nat} (hi : i < L.length) (e : L[i].n = f.n) : insF (L.eraseIdx i) f = L.set i f := by
  unfold insF
  rw [posF_erase hs hi e, List.eraseIdx_eq_take_drop_succ, List.take_append_of_le_length (by rw [List.length_take]; omega), List.take_take, Nat.min_self, List.drop_append, List.drop_of_length_le (by rw [List.length_take]; omega), List.length_take, Nat.min_eq_left (by omega), Nat.sub_self, List.drop_zero, List.nil_append, List.set_eq_take_append_cons_drop, if_pos hi]
theorem hasF_erase {L : List Fl} (hs : riseF L) {x : ByteArray} {i : Nat} (hi : i < L.length) (e : L[i].n = x) : hasF (L.eraseIdx i) x = false := by
  rw [hasF_no]
  intro f hf e2
  obtain ⟨_, h2⟩ := erase_mem hs hi hf
  exact h2 (by rw [e, e2])
theorem posF_ins (L : List Fl) (hs : riseF L) (f : Fl) : posF (insF L f) f.n = posF L f.n := by
  obtain ⟨h1, h2⟩ := posF_split hs f.n
  have hp := posF_le L f.n
  have hl : (L.take (posF L f.n)).length = posF L f.n := by rw [List.length_take]; omega
  refine posF_of (by rw [insF_len]; omega) (fun y hy => ?_) (fun y hy => ?_)
  · unfold insF at hy
    rw [List.take_append_of_le_length (by omega), List.take_of_length_le (by omega)] at hy
    exact h1 y hy
  · unfold insF at hy
    rw [List.drop_append, List.drop_of_length_le (by omega), hl, Nat.sub_self, List.nil_append, List.drop_zero] at hy
    rcases List.mem_cons.1 hy with rfl | hy
    · exact ltS.irrefl _
    · exact h2 y hy
theorem insF_at (L : List Fl) (f : Fl) : ∃ h : posF L f.n < (insF L f).length, (insF L f)[posF L f.n]'h = f := by
  have hp := posF_le L f.n
  have hl : (L.take (posF L f.n)).length = posF L f.n := by rw [List.length_take]; omega
  refine ⟨by rw [insF_len]; omega, ?_⟩
  unfold insF
  rw [List.getElem_append_right (by omega)]
  simp only [hl, Nat.sub_self, List.getElem_cons_zero]
theorem insF_set (L : List Fl) (f g : Fl) (e : g.n = f.n) : (insF L f).set (posF L f.n) g = insF L g := by
  have hp := posF_le L f.n
  have hl : (L.take (posF L f.n)).length = posF L f.n := by rw [List.length_take]; omega
  unfold insF
  rw [e, List.set_append_right _ _ (by omega), hl, Nat.sub_self, List.set_cons_zero]
theorem insF_has (L : List Fl) (f : Fl) : hasF (insF L f) f.n = true := hasF_iff.2 ⟨f, by unfold insF; simp, rfl⟩
set_option maxRecDepth 100000 in
theorem rName (x : ByteArray) : Triple Try.prog 74 [.string x] [] [] Unit (fun _ => .bool (!oddS x)) (fun _ => True) (fun _ => []) := by
  refine triple_intro Try.tbs_ok Try.func74 rfl [.va (.string x)] [] ⟨trivial, trivial⟩ rfl (by simp) ?_
  intro E
  refine go Try.tbs_ok 1000 ?_
  refine ev_if_lt (fun h0 => ?_) (fun h0 => ?_)
  refine go Try.tbs_ok 1000 ?_
  refine ev_fin ⟨trivial, _, rfl, (()), ?_, (by trivial), Frm.nil _⟩
  rotate_left
  refine go Try.tbs_ok 1000 ?_
  refine ev_fin ⟨trivial, _, rfl, (()), ?_, (by trivial), Frm.nil _⟩
  rotate_left
  · refine congrArg Value.bool ?_
    unfold oddS
    rw [decide_eq_false (show ¬ x.size = 0 by omega), Bool.false_or, Bool.eq_iff_iff, decide_eq_true_iff]
    simp
    omega
  · refine congrArg Value.bool ?_
    unfold oddS
    rw [decide_eq_true (show x.size = 0 by omega)]
    rfl
set_option maxRecDepth 100000 in
theorem rRenTN (r : Nat) (m s : Int) (A : Option Addr) (n c : Nat) (lf : Int) (B : Option Addr) (k d : Nat) (L : List Fl) (hn : n = L.length) (h1 : n ≤ 1000) (x y : ByteArray) (hs : riseF L) (hh : hasF L x = true) (hi : posF L x < L.length) (ho : oddS y = false) (hh2 : hasF (L.eraseIdx (posF L x)) y = true) : Triple Try.prog 46 [.pointer (some ⟨r, 0, none⟩), .string x, .string y] [Pt r 49 [.int .i64 m, .int .i64 s, .bool false, .slice A n c, .bool false, .int .i64 lf, .slice B k d], Row 82 3 A n c (L.flatMap encF)] [] (Option Addr × Nat) (fun _ => .int .i64 0) (fun _ => True) (fun (C, e) => [Pt r 49 [.int .i64 m, .int .i64 s, .bool false, .slice C (n - 1) e, .bool false, .int .i64 lf, .slice B k d], Row 82 3 C (n - 1) e (((L.eraseIdx (posF L x)).set (posF (L.eraseIdx (posF L x)) y) ⟨y, (L[posF L x]'hi).d, (L[posF L x]'hi).s⟩).flatMap encF)]) := by
  have TT := rThereOk r m s A n c false lf B k d L hn h1 x hs hh
  have TO := rName y
  rw [ho] at TO
  have TC := rChangeN r m s A n c lf B k d
  have hsM : riseF (L.eraseIdx (posF L x)) := List.Pairwise.sublist (List.eraseIdx_sublist _ _) hs
  have hl : (L.eraseIdx (posF L x)).length = n - 1 := by rw [List.length_eraseIdx_of_lt hi, hn]
  have TW := rWithout r m s false A n c false lf B k d L hn h1 (posF L x) (by omega)
  have TG := fun A c => rFind r m s false A (n - 1) c false lf B k d (L.eraseIdx (posF L x)) hl.symm (by omega) y hsM
  obtain ⟨hp2, ep2⟩ := has_pos hsM hh2
  rw [show ixF (L.eraseIdx (posF L x)) y = (posF (L.eraseIdx (posF L x)) y : Nat) from by unfold ixF; rw [hh2]; rfl] at TG
  have TV := fun A c => rWithout r m s false A (n - 1) c false lf B k d (L.eraseIdx (posF L x)) hl.symm (by omega) (posF (L.eraseIdx (posF L x)) y) (by omega)
  have TP := fun A c => rPut r m s false A (n - 1 - 1) c false lf B k d ((L.eraseIdx (posF L x)).eraseIdx (posF (L.eraseIdx (posF L x)) y)) (by rw [List.length_eraseIdx_of_lt hp2, hl]) (by omega) ⟨y, (L[posF L x]'hi).d, (L[posF L x]'hi).s⟩ (List.Pairwise.sublist (List.eraseIdx_sublist _ _) hsM) (hasF_erase hsM hp2 ep2)
  rw [ins_erase hsM hp2 (f := ⟨y, (L[posF L x]'hi).d, (L[posF L x]'hi).s⟩) ep2, show n - 1 - 1 + 1 = n - 1 by omega] at TP
  refine triple_intro Try.tbs_ok Try.func46 rfl [.pt 0 r 0, .va (.string x), .va (.string y)] [.box r 49 [.va (.int .i64 m), .va (.int .i64 s), .va (.bool false), .va (.slice A n c), .va (.bool false), .va (.int .i64 lf), .va (.slice B k d)], .fact (Row 82 3 A n c (L.flatMap encF))] ⟨rfl, trivial, trivial, trivial⟩ rfl (by simp [SV.good, SV.goodL]) ?_
  intro E
  refine go Try.tbs_ok 1000 ?_
  refine ev_call (TT ) [0, 1] [] (fun v0_ => [.box (r) 49 [.va (Value.int IntKind.i64 m), .va (Value.int IntKind.i64 s), .bl false, .va (Value.slice A n c), .bl false, .va (Value.int IntKind.i64 lf), .va (Value.slice B k d)], .fact (Row 82 3 A n c (List.flatMap encF L))]) rfl rfl (by decide) rfl (by simp) (fun _ => rfl) (fun _ => (newsOk_box (by simp [SV.good, SV.goodL]) (newsOk_fact (newsOk_nil _)))) (fun _ => (by repeat (first | exact trivial | refine ⟨rfl, ?_⟩))) (fun _ h0 => ?_)
  refine go Try.tbs_ok 1000 ?_
  refine ev_if_no rfl ?_
  refine go Try.tbs_ok 1000 ?_
  refine ev_callF (TO ) [] [] rfl rfl (by decide) rfl (by simp) (fun _ => (by repeat (first | exact trivial | refine ⟨rfl, ?_⟩))) (fun _ h1 => ?_)
  refine go Try.tbs_ok 1000 ?_
  refine ev_if_no rfl ?_
  refine go Try.tbs_ok 1000 ?_
  refine ev_call (TC ) [0] [] (fun v0_ => [.box (r) 49 [.va (Value.int IntKind.i64 m), .va (Value.int IntKind.i64 s), .bl false, .va (Value.slice A n c), .bl false, .va (Value.int IntKind.i64 lf), .va (Value.slice B k d)]]) rfl rfl (by decide) rfl (by simp) (fun _ => rfl) (fun _ => (newsOk_box (by simp [SV.good, SV.goodL]) (newsOk_nil _))) (fun _ => (by repeat (first | exact trivial | refine ⟨rfl, ?_⟩))) (fun _ h2 => ?_)
  refine go Try.tbs_ok 1000 ?_
  refine ev_if_no rfl ?_
  refine go Try.tbs_ok 1000 ?_
  refine ev_stop (go_index0 (sz := 3) Try.tbs_ok (.inr 1) (posF L x) rfl rfl rfl rfl rfl rfl (by omega) rfl Row.at0 (fun g3 e4 => ?_))
  subst e4
  refine go Try.tbs_ok 1000 ?_
  have l5 : posF L x < (L).length := (by omega)
  refine ev_stop (go_loadE Try.tbs_ok (.inr 1) (posF L x) 0 rfl rfl rfl rfl (fun _ h => Row.rd h) (by omega) (fun _ => rfl) (by omega) l5 (by decide) ?_)
  refine go Try.tbs_ok 1000 ?_
  refine ev_new fun b6 => ?_
  refine ev_call (TW ) [0, 1] [] (fun (v0_, v1_) => [.box (r) 49 [.va (Value.int IntKind.i64 m), .va (Value.int IntKind.i64 s), .bl false, .va (Value.slice (some { block := g3, off := 0 : Addr }) n c), .bl false, .va (Value.int IntKind.i64 lf), .va (Value.slice B k d)], .fact (Row 82 3 (some { block := g3, off := 0 : Addr }) n c (List.flatMap encF L)), .fact (Row 82 3 v0_ (n - 1) v1_ (List.flatMap encF (L.eraseIdx (posF L x))))]) rfl rfl (by decide) rfl (by simp) (fun _ => rfl) (fun _ => (newsOk_box (by simp [SV.good, SV.goodL]) (newsOk_fact (newsOk_fact (newsOk_nil _))))) (fun _ => (by repeat (first | exact trivial | refine ⟨rfl, ?_⟩))) (fun ⟨x7, x8⟩ h9 => ?_)
  refine go Try.tbs_ok 1000 ?_
  refine ev_call (TG (x7) (x8)) [0, 3] [] (fun v0_ => [.box (r) 49 [.va (Value.int IntKind.i64 m), .va (Value.int IntKind.i64 s), .bl false, .va (Value.slice x7 (n - 1) x8), .bl false, .va (Value.int IntKind.i64 lf), .va (Value.slice B k d)], .fact (Row 82 3 x7 (n - 1) x8 (List.flatMap encF (L.eraseIdx (posF L x))))]) rfl rfl (by decide) rfl (by simp) (fun _ => rfl) (fun _ => (newsOk_box (by simp [SV.good, SV.goodL]) (newsOk_fact (newsOk_nil _)))) (fun _ => (by repeat (first | exact trivial | refine ⟨rfl, ?_⟩))) (fun _ h10 => ?_)
  refine go Try.tbs_ok 1000 ?_
  refine ev_if_yes rfl ?_
  refine go Try.tbs_ok 1000 ?_
  refine ev_call (TV (x7) (x8)) [0, 3] [] (fun (v0_, v1_) => [.box (r) 49 [.va (Value.int IntKind.i64 m), .va (Value.int IntKind.i64 s), .bl false, .va (Value.slice x7 (n - 1) x8), .bl false, .va (Value.int IntKind.i64 lf), .va (Value.slice B k d)], .fact (Row 82 3 x7 (n - 1) x8 (List.flatMap encF (L.eraseIdx (posF L x)))), .fact (Row 82 3 v0_ (n - 1 - 1) v1_ (List.flatMap encF ((L.eraseIdx (posF L x)).eraseIdx (posF (L.eraseIdx (posF L x)) y))))]) rfl rfl (by decide) rfl (by simp) (fun _ => rfl) (fun _ => (newsOk_box (by simp [SV.good, SV.goodL]) (newsOk_fact (newsOk_fact (newsOk_nil _))))) (fun _ => (by repeat (first | exact trivial | refine ⟨rfl, ?_⟩))) (fun ⟨x11, x12⟩ h13 => ?_)
  refine go Try.tbs_ok 1000 ?_
  refine ev_call (TP (x11) (x12)) [0, 4] [] (fun (v0_, v1_) => [.box (r) 49 [.va (Value.int IntKind.i64 m), .va (Value.int IntKind.i64 s), .bl false, .va (Value.slice v0_ (n - 1) v1_), .bl false, .va (Value.int IntKind.i64 lf), .va (Value.slice B k d)], .fact (Row 82 3 v0_ (n - 1) v1_ (List.flatMap encF ((L.eraseIdx (posF L x)).set (posF (L.eraseIdx (posF L x)) y) { n := y, d := L[posF L x].d, s := L[posF L x].s : Fl })))]) rfl rfl (by decide) rfl (by simp) (fun _ => rfl) (fun _ => (newsOk_box (by simp [SV.good, SV.goodL]) (newsOk_fact (newsOk_nil _)))) (fun _ => (by repeat (first | exact trivial | refine ⟨rfl, ?_⟩))) (fun ⟨x14, x15⟩ h16 => ?_)
  refine go Try.tbs_ok 1000 ?_
  refine ev_fin ⟨trivial, _, rfl, ((x14, x15)), rfl, (by trivial), Frm.sel [0, 4] rfl (by decide)⟩
set_option maxRecDepth 100000 in
theorem rRenFN (r : Nat) (m s : Int) (A : Option Addr) (n c : Nat) (lf : Int) (B : Option Addr) (k d : Nat) (L : List Fl) (hn : n = L.length) (h1 : n ≤ 1000) (x y : ByteArray) (hs : riseF L) (hh : hasF L x = true) (hi : posF L x < L.length) (ho : oddS y = false) (hh2 : hasF (L.eraseIdx (posF L x)) y = false) : Triple Try.prog 46 [.pointer (some ⟨r, 0, none⟩), .string x, .string y] [Pt r 49 [.int .i64 m, .int .i64 s, .bool false, .slice A n c, .bool false, .int .i64 lf, .slice B k d], Row 82 3 A n c (L.flatMap encF)] [] (Option Addr × Nat) (fun _ => .int .i64 0) (fun _ => True) (fun (C, e) => [Pt r 49 [.int .i64 m, .int .i64 s, .bool false, .slice C (n - 1 + 1) e, .bool false, .int .i64 lf, .slice B k d], Row 82 3 C (n - 1 + 1) e ((insF (L.eraseIdx (posF L x)) ⟨y, (L[posF L x]'hi).d, (L[posF L x]'hi).s⟩).flatMap encF)]) := by
  have TT := rThereOk r m s A n c false lf B k d L hn h1 x hs hh
  have TO := rName y
  rw [ho] at TO
  have TC := rChangeN r m s A n c lf B k d
  have hsM : riseF (L.eraseIdx (posF L x)) := List.Pairwise.sublist (List.eraseIdx_sublist _ _) hs
  have hl : (L.eraseIdx (posF L x)).length = n - 1 := by rw [List.length_eraseIdx_of_lt hi, hn]
  have TW := rWithout r m s false A n c false lf B k d L hn h1 (posF L x) (by omega)
  have TG := fun A c => rFind r m s false A (n - 1) c false lf B k d (L.eraseIdx (posF L x)) hl.symm (by omega) y hsM
  rw [show ixF (L.eraseIdx (posF L x)) y = -1 from by unfold ixF; rw [hh2]; rfl] at TG
  have TP := fun A c => rPut r m s false A (n - 1) c false lf B k d (L.eraseIdx (posF L x)) hl.symm (by omega) ⟨y, (L[posF L x]'hi).d, (L[posF L x]'hi).s⟩ hsM hh2
  refine triple_intro Try.tbs_ok Try.func46 rfl [.pt 0 r 0, .va (.string x), .va (.string y)] [.box r 49 [.va (.int .i64 m), .va (.int .i64 s), .va (.bool false), .va (.slice A n c), .va (.bool false), .va (.int .i64 lf), .va (.slice B k d)], .fact (Row 82 3 A n c (L.flatMap encF))] ⟨rfl, trivial, trivial, trivial⟩ rfl (by simp [SV.good, SV.goodL]) ?_
  intro E
  refine go Try.tbs_ok 1000 ?_
  refine ev_call (TT ) [0, 1] [] (fun v0_ => [.box (r) 49 [.va (Value.int IntKind.i64 m), .va (Value.int IntKind.i64 s), .bl false, .va (Value.slice A n c), .bl false, .va (Value.int IntKind.i64 lf), .va (Value.slice B k d)], .fact (Row 82 3 A n c (List.flatMap encF L))]) rfl rfl (by decide) rfl (by simp) (fun _ => rfl) (fun _ => (newsOk_box (by simp [SV.good, SV.goodL]) (newsOk_fact (newsOk_nil _)))) (fun _ => (by repeat (first | exact trivial | refine ⟨rfl, ?_⟩))) (fun _ h0 => ?_)
  refine go Try.tbs_ok 1000 ?_
  refine ev_if_no rfl ?_
  refine go Try.tbs_ok 1000 ?_
  refine ev_callF (TO ) [] [] rfl rfl (by decide) rfl (by simp) (fun _ => (by repeat (first | exact trivial | refine ⟨rfl, ?_⟩))) (fun _ h1 => ?_)
  refine go Try.tbs_ok 1000 ?_
  refine ev_if_no rfl ?_
  refine go Try.tbs_ok 1000 ?_
  refine ev_call (TC ) [0] [] (fun v0_ => [.box (r) 49 [.va (Value.int IntKind.i64 m), .va (Value.int IntKind.i64 s), .bl false, .va (Value.slice A n c), .bl false, .va (Value.int IntKind.i64 lf), .va (Value.slice B k d)]]) rfl rfl (by decide) rfl (by simp) (fun _ => rfl) (fun _ => (newsOk_box (by simp [SV.good, SV.goodL]) (newsOk_nil _))) (fun _ => (by repeat (first | exact trivial | refine ⟨rfl, ?_⟩))) (fun _ h2 => ?_)
  refine go Try.tbs_ok 1000 ?_
  refine ev_if_no rfl ?_
  refine go Try.tbs_ok 1000 ?_
  refine ev_stop (go_index0 (sz := 3) Try.tbs_ok (.inr 1) (posF L x) rfl rfl rfl rfl rfl rfl (by omega) rfl Row.at0 (fun g3 e4 => ?_))
  subst e4
  refine go Try.tbs_ok 1000 ?_
  have l5 : posF L x < (L).length := (by omega)
  refine ev_stop (go_loadE Try.tbs_ok (.inr 1) (posF L x) 0 rfl rfl rfl rfl (fun _ h => Row.rd h) (by omega) (fun _ => rfl) (by omega) l5 (by decide) ?_)
  refine go Try.tbs_ok 1000 ?_
  refine ev_new fun b6 => ?_
  refine ev_call (TW ) [0, 1] [] (fun (v0_, v1_) => [.box (r) 49 [.va (Value.int IntKind.i64 m), .va (Value.int IntKind.i64 s), .bl false, .va (Value.slice (some { block := g3, off := 0 : Addr }) n c), .bl false, .va (Value.int IntKind.i64 lf), .va (Value.slice B k d)], .fact (Row 82 3 (some { block := g3, off := 0 : Addr }) n c (List.flatMap encF L)), .fact (Row 82 3 v0_ (n - 1) v1_ (List.flatMap encF (L.eraseIdx (posF L x))))]) rfl rfl (by decide) rfl (by simp) (fun _ => rfl) (fun _ => (newsOk_box (by simp [SV.good, SV.goodL]) (newsOk_fact (newsOk_fact (newsOk_nil _))))) (fun _ => (by repeat (first | exact trivial | refine ⟨rfl, ?_⟩))) (fun ⟨x7, x8⟩ h9 => ?_)
  refine go Try.tbs_ok 1000 ?_
  refine ev_call (TG (x7) (x8)) [0, 3] [] (fun v0_ => [.box (r) 49 [.va (Value.int IntKind.i64 m), .va (Value.int IntKind.i64 s), .bl false, .va (Value.slice x7 (n - 1) x8), .bl false, .va (Value.int IntKind.i64 lf), .va (Value.slice B k d)], .fact (Row 82 3 x7 (n - 1) x8 (List.flatMap encF (L.eraseIdx (posF L x))))]) rfl rfl (by decide) rfl (by simp) (fun _ => rfl) (fun _ => (newsOk_box (by simp [SV.good, SV.goodL]) (newsOk_fact (newsOk_nil _)))) (fun _ => (by repeat (first | exact trivial | refine ⟨rfl, ?_⟩))) (fun _ h10 => ?_)
  refine go Try.tbs_ok 1000 ?_
  refine ev_if_no rfl ?_
  refine go Try.tbs_ok 1000 ?_
  refine ev_call (TP (x7) (x8)) [0, 3] [] (fun (v0_, v1_) => [.box (r) 49 [.va (Value.int IntKind.i64 m), .va (Value.int IntKind.i64 s), .bl false, .va (Value.slice v0_ (n - 1 + 1) v1_), .bl false, .va (Value.int IntKind.i64 lf), .va (Value.slice B k d)], .fact (Row 82 3 v0_ (n - 1 + 1) v1_ (List.flatMap encF (insF (L.eraseIdx (posF L x)) { n := y, d := L[posF L x].d, s := L[posF L x].s : Fl })))]) rfl rfl (by decide) rfl (by simp) (fun _ => rfl) (fun _ => (newsOk_box (by simp [SV.good, SV.goodL]) (newsOk_fact (newsOk_nil _)))) (fun _ => (by repeat (first | exact trivial | refine ⟨rfl, ?_⟩))) (fun ⟨x11, x12⟩ h13 => ?_)
  refine go Try.tbs_ok 1000 ?_
  refine ev_fin ⟨trivial, _, rfl, ((x11, x12)), rfl, (by trivial), Frm.sel [0, 3] rfl (by decide)⟩
set_option maxRecDepth 100000 in
theorem rRenTG (r : Nat) (m s : Int) (A : Option Addr) (n c : Nat) (lf : Int) (B : Option Addr) (k d : Nat) (L : List Fl) (hn : n = L.length) (h1 : n ≤ 1000) (x y : ByteArray) (hs : riseF L) (hh : hasF L x = true) (hi : posF L x < L.length) (ho : oddS y = false) (hh2 : hasF (L.eraseIdx (posF L x)) y = true) (hq : 0 < lf) (hq2 : lf ≤ 9223372036854775807) : Triple Try.prog 46 [.pointer (some ⟨r, 0, none⟩), .string x, .string y] [Pt r 49 [.int .i64 m, .int .i64 s, .bool false, .slice A n c, .bool true, .int .i64 lf, .slice B k d], Row 82 3 A n c (L.flatMap encF)] [] (Option Addr × Nat) (fun _ => .int .i64 0) (fun _ => True) (fun (C, e) => [Pt r 49 [.int .i64 m, .int .i64 s, .bool false, .slice C (n - 1) e, .bool true, .int .i64 (lf - 1), .slice B k d], Row 82 3 C (n - 1) e (((L.eraseIdx (posF L x)).set (posF (L.eraseIdx (posF L x)) y) ⟨y, (L[posF L x]'hi).d, (L[posF L x]'hi).s⟩).flatMap encF)]) := by
  have TT := rThereOk r m s A n c true lf B k d L hn h1 x hs hh
  have TO := rName y
  rw [ho] at TO
  have TC := rChangeG r m s A n c lf B k d hq hq2
  have hsM : riseF (L.eraseIdx (posF L x)) := List.Pairwise.sublist (List.eraseIdx_sublist _ _) hs
  have hl : (L.eraseIdx (posF L x)).length = n - 1 := by rw [List.length_eraseIdx_of_lt hi, hn]
  have TW := rWithout r m s false A n c true (lf - 1) B k d L hn h1 (posF L x) (by omega)
  have TG := fun A c => rFind r m s false A (n - 1) c true (lf - 1) B k d (L.eraseIdx (posF L x)) hl.symm (by omega) y hsM
  obtain ⟨hp2, ep2⟩ := has_pos hsM hh2
  rw [show ixF (L.eraseIdx (posF L x)) y = (posF (L.eraseIdx (posF L x)) y : Nat) from by unfold ixF; rw [hh2]; rfl] at TG
  have TV := fun A c => rWithout r m s false A (n - 1) c true (lf - 1) B k d (L.eraseIdx (posF L x)) hl.symm (by omega) (posF (L.eraseIdx (posF L x)) y) (by omega)
  have TP := fun A c => rPut r m s false A (n - 1 - 1) c true (lf - 1) B k d ((L.eraseIdx (posF L x)).eraseIdx (posF (L.eraseIdx (posF L x)) y)) (by rw [List.length_eraseIdx_of_lt hp2, hl]) (by omega) ⟨y, (L[posF L x]'hi).d, (L[posF L x]'hi).s⟩ (List.Pairwise.sublist (List.eraseIdx_sublist _ _) hsM) (hasF_erase hsM hp2 ep2)
  rw [ins_erase hsM hp2 (f := ⟨y, (L[posF L x]'hi).d, (L[posF L x]'hi).s⟩) ep2, show n - 1 - 1 + 1 = n - 1 by omega] at TP
  refine triple_intro Try.tbs_ok Try.func46 rfl [.pt 0 r 0, .va (.string x), .va (.string y)] [.box r 49 [.va (.int .i64 m), .va (.int .i64 s), .va (.bool false), .va (.slice A n c), .va (.bool true), .va (.int .i64 lf), .va (.slice B k d)], .fact (Row 82 3 A n c (L.flatMap encF))] ⟨rfl, trivial, trivial, trivial⟩ rfl (by simp [SV.good, SV.goodL]) ?_
  intro E
  refine go Try.tbs_ok 1000 ?_
  refine ev_call (TT ) [0, 1] [] (fun v0_ => [.box (r) 49 [.va (Value.int IntKind.i64 m), .va (Value.int IntKind.i64 s), .bl false, .va (Value.slice A n c), .bl true, .va (Value.int IntKind.i64 lf), .va (Value.slice B k d)], .fact (Row 82 3 A n c (List.flatMap encF L))]) rfl rfl (by decide) rfl (by simp) (fun _ => rfl) (fun _ => (newsOk_box (by simp [SV.good, SV.goodL]) (newsOk_fact (newsOk_nil _)))) (fun _ => (by repeat (first | exact trivial | refine ⟨rfl, ?_⟩))) (fun _ h0 => ?_)
  refine go Try.tbs_ok 1000 ?_
  refine ev_if_no rfl ?_
  refine go Try.tbs_ok 1000 ?_
  refine ev_callF (TO ) [] [] rfl rfl (by decide) rfl (by simp) (fun _ => (by repeat (first | exact trivial | refine ⟨rfl, ?_⟩))) (fun _ h1 => ?_)
  refine go Try.tbs_ok 1000 ?_
  refine ev_if_no rfl ?_
  refine go Try.tbs_ok 1000 ?_
  refine ev_call (TC ) [0] [] (fun v0_ => [.box (r) 49 [.va (Value.int IntKind.i64 m), .va (Value.int IntKind.i64 s), .bl false, .va (Value.slice A n c), .bl true, .va (Value.int IntKind.i64 (lf - 1)), .va (Value.slice B k d)]]) rfl rfl (by decide) rfl (by simp) (fun _ => rfl) (fun _ => (newsOk_box (by simp [SV.good, SV.goodL]) (newsOk_nil _))) (fun _ => (by repeat (first | exact trivial | refine ⟨rfl, ?_⟩))) (fun _ h2 => ?_)
  refine go Try.tbs_ok 1000 ?_
  refine ev_if_no rfl ?_
  refine go Try.tbs_ok 1000 ?_
  refine ev_stop (go_index0 (sz := 3) Try.tbs_ok (.inr 1) (posF L x) rfl rfl rfl rfl rfl rfl (by omega) rfl Row.at0 (fun g3 e4 => ?_))
  subst e4
  refine go Try.tbs_ok 1000 ?_
  have l5 : posF L x < (L).length := (by omega)
  refine ev_stop (go_loadE Try.tbs_ok (.inr 1) (posF L x) 0 rfl rfl rfl rfl (fun _ h => Row.rd h) (by omega) (fun _ => rfl) (by omega) l5 (by decide) ?_)
  refine go Try.tbs_ok 1000 ?_
  refine ev_new fun b6 => ?_
  refine ev_call (TW ) [0, 1] [] (fun (v0_, v1_) => [.box (r) 49 [.va (Value.int IntKind.i64 m), .va (Value.int IntKind.i64 s), .bl false, .va (Value.slice (some { block := g3, off := 0 : Addr }) n c), .bl true, .va (Value.int IntKind.i64 (lf - 1)), .va (Value.slice B k d)], .fact (Row 82 3 (some { block := g3, off := 0 : Addr }) n c (List.flatMap encF L)), .fact (Row 82 3 v0_ (n - 1) v1_ (List.flatMap encF (L.eraseIdx (posF L x))))]) rfl rfl (by decide) rfl (by simp) (fun _ => rfl) (fun _ => (newsOk_box (by simp [SV.good, SV.goodL]) (newsOk_fact (newsOk_fact (newsOk_nil _))))) (fun _ => (by repeat (first | exact trivial | refine ⟨rfl, ?_⟩))) (fun ⟨x7, x8⟩ h9 => ?_)
  refine go Try.tbs_ok 1000 ?_
  refine ev_call (TG (x7) (x8)) [0, 3] [] (fun v0_ => [.box (r) 49 [.va (Value.int IntKind.i64 m), .va (Value.int IntKind.i64 s), .bl false, .va (Value.slice x7 (n - 1) x8), .bl true, .va (Value.int IntKind.i64 (lf - 1)), .va (Value.slice B k d)], .fact (Row 82 3 x7 (n - 1) x8 (List.flatMap encF (L.eraseIdx (posF L x))))]) rfl rfl (by decide) rfl (by simp) (fun _ => rfl) (fun _ => (newsOk_box (by simp [SV.good, SV.goodL]) (newsOk_fact (newsOk_nil _)))) (fun _ => (by repeat (first | exact trivial | refine ⟨rfl, ?_⟩))) (fun _ h10 => ?_)
  refine go Try.tbs_ok 1000 ?_
  refine ev_if_yes rfl ?_
  refine go Try.tbs_ok 1000 ?_
  refine ev_call (TV (x7) (x8)) [0, 3] [] (fun (v0_, v1_) => [.box (r) 49 [.va (Value.int IntKind.i64 m), .va (Value.int IntKind.i64 s), .bl false, .va (Value.slice x7 (n - 1) x8), .bl true, .va (Value.int IntKind.i64 (lf - 1)), .va (Value.slice B k d)], .fact (Row 82 3 x7 (n - 1) x8 (List.flatMap encF (L.eraseIdx (posF L x)))), .fact (Row 82 3 v0_ (n - 1 - 1) v1_ (List.flatMap encF ((L.eraseIdx (posF L x)).eraseIdx (posF (L.eraseIdx (posF L x)) y))))]) rfl rfl (by decide) rfl (by simp) (fun _ => rfl) (fun _ => (newsOk_box (by simp [SV.good, SV.goodL]) (newsOk_fact (newsOk_fact (newsOk_nil _))))) (fun _ => (by repeat (first | exact trivial | refine ⟨rfl, ?_⟩))) (fun ⟨x11, x12⟩ h13 => ?_)
  refine go Try.tbs_ok 1000 ?_
  refine ev_call (TP (x11) (x12)) [0, 4] [] (fun (v0_, v1_) => [.box (r) 49 [.va (Value.int IntKind.i64 m), .va (Value.int IntKind.i64 s), .bl false, .va (Value.slice v0_ (n - 1) v1_), .bl true, .va (Value.int IntKind.i64 (lf - 1)), .va (Value.slice B k d)], .fact (Row 82 3 v0_ (n - 1) v1_ (List.flatMap encF ((L.eraseIdx (posF L x)).set (posF (L.eraseIdx (posF L x)) y) { n := y, d := L[posF L x].d, s := L[posF L x].s : Fl })))]) rfl rfl (by decide) rfl (by simp) (fun _ => rfl) (fun _ => (newsOk_box (by simp [SV.good, SV.goodL]) (newsOk_fact (newsOk_nil _)))) (fun _ => (by repeat (first | exact trivial | refine ⟨rfl, ?_⟩))) (fun ⟨x14, x15⟩ h16 => ?_)
  refine go Try.tbs_ok 1000 ?_
  refine ev_fin ⟨trivial, _, rfl, ((x14, x15)), rfl, (by trivial), Frm.sel [0, 4] rfl (by decide)⟩
set_option maxRecDepth 100000 in
theorem rRenFG (r : Nat) (m s : Int) (A : Option Addr) (n c : Nat) (lf : Int) (B : Option Addr) (k d : Nat) (L : List Fl) (hn : n = L.length) (h1 : n ≤ 1000) (x y : ByteArray) (hs : riseF L) (hh : hasF L x = true) (hi : posF L x < L.length) (ho : oddS y = false) (hh2 : hasF (L.eraseIdx (posF L x)) y = false) (hq : 0 < lf) (hq2 : lf ≤ 9223372036854775807) : Triple Try.prog 46 [.pointer (some ⟨r, 0, none⟩), .string x, .string y] [Pt r 49 [.int .i64 m, .int .i64 s, .bool false, .slice A n c, .bool true, .int .i64 lf, .slice B k d], Row 82 3 A n c (L.flatMap encF)] [] (Option Addr × Nat) (fun _ => .int .i64 0) (fun _ => True) (fun (C, e) => [Pt r 49 [.int .i64 m, .int .i64 s, .bool false, .slice C (n - 1 + 1) e, .bool true, .int .i64 (lf - 1), .slice B k d], Row 82 3 C (n - 1 + 1) e ((insF (L.eraseIdx (posF L x)) ⟨y, (L[posF L x]'hi).d, (L[posF L x]'hi).s⟩).flatMap encF)]) := by
  have TT := rThereOk r m s A n c true lf B k d L hn h1 x hs hh
  have TO := rName y
  rw [ho] at TO
  have TC := rChangeG r m s A n c lf B k d hq hq2
  have hsM : riseF (L.eraseIdx (posF L x)) := List.Pairwise.sublist (List.eraseIdx_sublist _ _) hs
  have hl : (L.eraseIdx (posF L x)).length = n - 1 := by rw [List.length_eraseIdx_of_lt hi, hn]
  have TW := rWithout r m s false A n c true (lf - 1) B k d L hn h1 (posF L x) (by omega)
  have TG := fun A c => rFind r m s false A (n - 1) c true (lf - 1) B k d (L.eraseIdx (posF L x)) hl.symm (by omega) y hsM
  rw [show ixF (L.eraseIdx (posF L x)) y = -1 from by unfold ixF; rw [hh2]; rfl] at TG
  have TP := fun A c => rPut r m s false A (n - 1) c true (lf - 1) B k d (L.eraseIdx (posF L x)) hl.symm (by omega) ⟨y, (L[posF L x]'hi).d, (L[posF L x]'hi).s⟩ hsM hh2
  refine triple_intro Try.tbs_ok Try.func46 rfl [.pt 0 r 0, .va (.string x), .va (.string y)] [.box r 49 [.va (.int .i64 m), .va (.int .i64 s), .va (.bool false), .va (.slice A n c), .va (.bool true), .va (.int .i64 lf), .va (.slice B k d)], .fact (Row 82 3 A n c (L.flatMap encF))] ⟨rfl, trivial, trivial, trivial⟩ rfl (by simp [SV.good, SV.goodL]) ?_
  intro E
  refine go Try.tbs_ok 1000 ?_
  refine ev_call (TT ) [0, 1] [] (fun v0_ => [.box (r) 49 [.va (Value.int IntKind.i64 m), .va (Value.int IntKind.i64 s), .bl false, .va (Value.slice A n c), .bl true, .va (Value.int IntKind.i64 lf), .va (Value.slice B k d)], .fact (Row 82 3 A n c (List.flatMap encF L))]) rfl rfl (by decide) rfl (by simp) (fun _ => rfl) (fun _ => (newsOk_box (by simp [SV.good, SV.goodL]) (newsOk_fact (newsOk_nil _)))) (fun _ => (by repeat (first | exact trivial | refine ⟨rfl, ?_⟩))) (fun _ h0 => ?_)
  refine go Try.tbs_ok 1000 ?_
  refine ev_if_no rfl ?_
  refine go Try.tbs_ok 1000 ?_
  refine ev_callF (TO ) [] [] rfl rfl (by decide) rfl (by simp) (fun _ => (by repeat (first | exact trivial | refine ⟨rfl, ?_⟩))) (fun _ h1 => ?_)
  refine go Try.tbs_ok 1000 ?_
  refine ev_if_no rfl ?_
  refine go Try.tbs_ok 1000 ?_
  refine ev_call (TC ) [0] [] (fun v0_ => [.box (r) 49 [.va (Value.int IntKind.i64 m), .va (Value.int IntKind.i64 s), .bl false, .va (Value.slice A n c), .bl true, .va (Value.int IntKind.i64 (lf - 1)), .va (Value.slice B k d)]]) rfl rfl (by decide) rfl (by simp) (fun _ => rfl) (fun _ => (newsOk_box (by simp [SV.good, SV.goodL]) (newsOk_nil _))) (fun _ => (by repeat (first | exact trivial | refine ⟨rfl, ?_⟩))) (fun _ h2 => ?_)
  refine go Try.tbs_ok 1000 ?_
  refine ev_if_no rfl ?_
  refine go Try.tbs_ok 1000 ?_
  refine ev_stop (go_index0 (sz := 3) Try.tbs_ok (.inr 1) (posF L x) rfl rfl rfl rfl rfl rfl (by omega) rfl Row.at0 (fun g3 e4 => ?_))
  subst e4
  refine go Try.tbs_ok 1000 ?_
  have l5 : posF L x < (L).length := (by omega)
  refine ev_stop (go_loadE Try.tbs_ok (.inr 1) (posF L x) 0 rfl rfl rfl rfl (fun _ h => Row.rd h) (by omega) (fun _ => rfl) (by omega) l5 (by decide) ?_)
  refine go Try.tbs_ok 1000 ?_
  refine ev_new fun b6 => ?_
  refine ev_call (TW ) [0, 1] [] (fun (v0_, v1_) => [.box (r) 49 [.va (Value.int IntKind.i64 m), .va (Value.int IntKind.i64 s), .bl false, .va (Value.slice (some { block := g3, off := 0 : Addr }) n c), .bl true, .va (Value.int IntKind.i64 (lf - 1)), .va (Value.slice B k d)], .fact (Row 82 3 (some { block := g3, off := 0 : Addr }) n c (List.flatMap encF L)), .fact (Row 82 3 v0_ (n - 1) v1_ (List.flatMap encF (L.eraseIdx (posF L x))))]) rfl rfl (by decide) rfl (by simp) (fun _ => rfl) (fun _ => (newsOk_box (by simp [SV.good, SV.goodL]) (newsOk_fact (newsOk_fact (newsOk_nil _))))) (fun _ => (by repeat (first | exact trivial | refine ⟨rfl, ?_⟩))) (fun ⟨x7, x8⟩ h9 => ?_)
  refine go Try.tbs_ok 1000 ?_
  refine ev_call (TG (x7) (x8)) [0, 3] [] (fun v0_ => [.box (r) 49 [.va (Value.int IntKind.i64 m), .va (Value.int IntKind.i64 s), .bl false, .va (Value.slice x7 (n - 1) x8), .bl true, .va (Value.int IntKind.i64 (lf - 1)), .va (Value.slice B k d)], .fact (Row 82 3 x7 (n - 1) x8 (List.flatMap encF (L.eraseIdx (posF L x))))]) rfl rfl (by decide) rfl (by simp) (fun _ => rfl) (fun _ => (newsOk_box (by simp [SV.good, SV.goodL]) (newsOk_fact (newsOk_nil _)))) (fun _ => (by repeat (first | exact trivial | refine ⟨rfl, ?_⟩))) (fun _ h10 => ?_)
  refine go Try.tbs_ok 1000 ?_
  refine ev_if_no rfl ?_
  refine go Try.tbs_ok 1000 ?_
  refine ev_call (TP (x7) (x8)) [0, 3] [] (fun (v0_, v1_) => [.box (r) 49 [.va (Value.int IntKind.i64 m), .va (Value.int IntKind.i64 s), .bl false, .va (Value.slice v0_ (n - 1 + 1) v1_), .bl true, .va (Value.int IntKind.i64 (lf - 1)), .va (Value.slice B k d)], .fact (Row 82 3 v0_ (n - 1 + 1) v1_ (List.flatMap encF (insF (L.eraseIdx (posF L x)) { n := y, d := L[posF L x].d, s := L[posF L x].s : Fl })))]) rfl rfl (by decide) rfl (by simp) (fun _ => rfl) (fun _ => (newsOk_box (by simp [SV.good, SV.goodL]) (newsOk_fact (newsOk_nil _)))) (fun _ => (by repeat (first | exact trivial | refine ⟨rfl, ?_⟩))) (fun ⟨x11, x12⟩ h13 => ?_)
  refine go Try.tbs_ok 1000 ?_
  refine ev_fin ⟨trivial, _, rfl, ((x11, x12)), rfl, (by trivial), Frm.sel [0, 3] rfl (by decide)⟩
set_option maxRecDepth 100000 in
theorem rRenS (r : Nat) (m s : Int) (A : Option Addr) (n c : Nat) (lf : Int) (B : Option Addr) (k d : Nat) (L : List Fl) (hn : n = L.length) (h1 : n ≤ 1000) (x y : ByteArray) (hs : riseF L) (hh : hasF L x = true) (hi : posF L x < L.length) (ho : oddS y = false) (hq : lf = 0) (K : List Int) (hk : k = K.length) (hL : okF L) : Triple Try.prog 46 [.pointer (some ⟨r, 0, none⟩), .string x, .string y] [Pt r 49 [.int .i64 m, .int .i64 s, .bool false, .slice A n c, .bool true, .int .i64 lf, .slice B k d], Row 82 3 A n c (L.flatMap encF), Row 3 1 B k d (K.flatMap encN)] [] Unit (fun _ => .int .i64 41) (fun _ => True) (fun _ => [Pt r 49 [.int .i64 m, .int .i64 s, .bool true, .slice A n c, .bool false, .int .i64 lf, .slice B k d], Row 82 3 A n c ((crashF L K).flatMap encF), Row 3 1 B k d (K.flatMap encN)]) := by
  have TT := rThereOk r m s A n c true lf B k d L hn h1 x hs hh
  have TO := rName y
  rw [ho] at TO
  have TC := rChangeS r m s A n c lf B k d L hn h1 hq K hk hL
  refine triple_intro Try.tbs_ok Try.func46 rfl [.pt 0 r 0, .va (.string x), .va (.string y)] [.box r 49 [.va (.int .i64 m), .va (.int .i64 s), .va (.bool false), .va (.slice A n c), .va (.bool true), .va (.int .i64 lf), .va (.slice B k d)], .fact (Row 82 3 A n c (L.flatMap encF)), .fact (Row 3 1 B k d (K.flatMap encN))] ⟨rfl, trivial, trivial, trivial⟩ rfl (by simp [SV.good, SV.goodL]) ?_
  intro E
  refine go Try.tbs_ok 1000 ?_
  refine ev_call (TT ) [0, 1] [] (fun v0_ => [.box (r) 49 [.va (Value.int IntKind.i64 m), .va (Value.int IntKind.i64 s), .bl false, .va (Value.slice A n c), .bl true, .va (Value.int IntKind.i64 lf), .va (Value.slice B k d)], .fact (Row 82 3 A n c (List.flatMap encF L))]) rfl rfl (by decide) rfl (by simp) (fun _ => rfl) (fun _ => (newsOk_box (by simp [SV.good, SV.goodL]) (newsOk_fact (newsOk_nil _)))) (fun _ => (by repeat (first | exact trivial | refine ⟨rfl, ?_⟩))) (fun _ h0 => ?_)
  refine go Try.tbs_ok 1000 ?_
  refine ev_if_no rfl ?_
  refine go Try.tbs_ok 1000 ?_
  refine ev_callF (TO ) [] [] rfl rfl (by decide) rfl (by simp) (fun _ => (by repeat (first | exact trivial | refine ⟨rfl, ?_⟩))) (fun _ h1 => ?_)
  refine go Try.tbs_ok 1000 ?_
  refine ev_if_no rfl ?_
  refine go Try.tbs_ok 1000 ?_
  refine ev_call (TC ) [0, 1, 2] [] (fun v0_ => [.box (r) 49 [.va (Value.int IntKind.i64 m), .va (Value.int IntKind.i64 s), .bl true, .va (Value.slice A n c), .bl false, .va (Value.int IntKind.i64 lf), .va (Value.slice B k d)], .fact (Row 82 3 A n c (List.flatMap encF (crashF L K))), .fact (Row 3 1 B k d (List.flatMap encN K))]) rfl rfl (by decide) rfl (by simp) (fun _ => rfl) (fun _ => (newsOk_box (by simp [SV.good, SV.goodL]) (newsOk_fact (newsOk_fact (newsOk_nil _))))) (fun _ => (by repeat (first | exact trivial | refine ⟨rfl, ?_⟩))) (fun _ h2 => ?_)
  refine go Try.tbs_ok 1000 ?_
  refine ev_if_yes rfl ?_
  refine go Try.tbs_ok 1000 ?_
  refine ev_fin ⟨trivial, _, rfl, (()), rfl, (by trivial), Frm.sel [0, 1, 2] rfl (by decide)⟩
set_option maxHeartbeats 1000000 in
set_option maxRecDepth 100000 in
theorem rAppTN (r : Nat) (m s : Int) (A : Option Addr) (n c : Nat) (lf : Int) (B : Option Addr) (k d : Nat) (L : List Fl) (hn : n = L.length) (h1 : n ≤ 1000) (x y : ByteArray) (hs : riseF L) (ho : oddS x = false) (hb : sumD L ≤ 1000000000) (hm2 : m ≤ 1048576) (hy : (y.size : Int) ≤ m - sumD L) (hh : hasF L x = true) (hi : posF L x < L.length) : Triple Try.prog 51 [.pointer (some ⟨r, 0, none⟩), .string x, .string y] [Pt r 49 [.int .i64 m, .int .i64 s, .bool false, .slice A n c, .bool false, .int .i64 lf, .slice B k d], Row 82 3 A n c (L.flatMap encF)] [] Unit (fun _ => .int .i64 0) (fun _ => True) (fun _ => [Pt r 49 [.int .i64 m, .int .i64 s, .bool false, .slice A n c, .bool false, .int .i64 lf, .slice B k d], Row 82 3 A n c ((L.set (posF L x) ⟨(L[posF L x]'hi).n, (L[posF L x]'hi).d ++ y, (L[posF L x]'hi).s⟩).flatMap encF)]) := by
  have TO := rName x
  rw [ho] at TO
  have T1 := rFind r m s false A n c false lf B k d L hn h1 x hs
  have TS := rSize r m s false A n c false lf B k d L hn h1 hb
  rw [show ixF L x = (posF L x : Nat) from by unfold ixF; rw [hh]; rfl] at T1
  have hz := sumD_mem (List.getElem_mem hi)
  have TF := rFailsN r m s false A n c lf B k d
  refine triple_intro Try.tbs_ok Try.func51 rfl [.pt 0 r 0, .va (.string x), .va (.string y)] [.box r 49 [.va (.int .i64 m), .va (.int .i64 s), .va (.bool false), .va (.slice A n c), .va (.bool false), .va (.int .i64 lf), .va (.slice B k d)], .fact (Row 82 3 A n c (L.flatMap encF))] ⟨rfl, trivial, trivial, trivial⟩ rfl (by simp [SV.good, SV.goodL]) ?_
  intro E
  refine go Try.tbs_ok 1000 ?_
  refine ev_if_no rfl ?_
  refine go Try.tbs_ok 1000 ?_
  refine ev_callF (TO ) [] [] rfl rfl (by decide) rfl (by simp) (fun _ => (by repeat (first | exact trivial | refine ⟨rfl, ?_⟩))) (fun _ h0 => ?_)
  refine go Try.tbs_ok 1000 ?_
  refine ev_if_no rfl ?_
  refine go Try.tbs_ok 1000 ?_
  refine ev_call (T1 ) [0, 1] [] (fun v0_ => [.box (r) 49 [.va (Value.int IntKind.i64 m), .va (Value.int IntKind.i64 s), .bl false, .va (Value.slice A n c), .bl false, .va (Value.int IntKind.i64 lf), .va (Value.slice B k d)], .fact (Row 82 3 A n c (List.flatMap encF L))]) rfl rfl (by decide) rfl (by simp) (fun _ => rfl) (fun _ => (newsOk_box (by simp [SV.good, SV.goodL]) (newsOk_fact (newsOk_nil _)))) (fun _ => (by repeat (first | exact trivial | refine ⟨rfl, ?_⟩))) (fun _ h1 => ?_)
  refine go Try.tbs_ok 1000 ?_
  refine ev_stop (go_draw Try.tbs_ok true [0] [(0,true),(1,true),(2,true),(3,true),(4,true),(5,true),(6,true),(7,true),(8,true),(9,true),(10,true),(11,true),(12,true),(13,true),(14,true),(15,true),(16,true),(17,true),(18,false),(19,false),(20,false),(21,false)] rfl ?_)
  refine go Try.tbs_ok 1000 ?_
  refine ev_need ⟨⟨(by repeat (first | exact trivial | refine ⟨rfl, ?_⟩)), rfl⟩, by kernel_rfl⟩ ?_
  refine ev_if_no rfl ?_
  refine go Try.tbs_ok 1000 ?_
  refine ev_need ⟨⟨(by repeat (first | exact trivial | refine ⟨rfl, ?_⟩)), rfl⟩, by kernel_rfl⟩ ?_
  refine ev_call (TS ) [0, 1] [] (fun v0_ => [.box (r) 49 [.va (Value.int IntKind.i64 m), .va (Value.int IntKind.i64 s), .bl false, .va (Value.slice A n c), .bl false, .va (Value.int IntKind.i64 lf), .va (Value.slice B k d)], .fact (Row 82 3 A n c (List.flatMap encF L))]) rfl rfl (by decide) rfl (by simp) (fun _ => rfl) (fun _ => (newsOk_box (by simp [SV.good, SV.goodL]) (newsOk_fact (newsOk_nil _)))) (fun _ => (by repeat (first | exact trivial | refine ⟨rfl, ?_⟩))) (fun _ h2 => ?_)
  refine go Try.tbs_ok 1000 ?_
  refine ev_need ⟨⟨(by repeat (first | exact trivial | refine ⟨rfl, ?_⟩)), rfl⟩, by kernel_rfl⟩ ?_
  refine ev_w64 (by constructor <;> omega) ?_
  refine ev_need ⟨⟨(by repeat (first | exact trivial | refine ⟨rfl, ?_⟩)), rfl⟩, by kernel_rfl⟩ ?_
  refine ev_need ⟨⟨(by repeat (first | exact trivial | refine ⟨rfl, ?_⟩)), rfl⟩, by kernel_rfl⟩ ?_
  refine ev_need ⟨⟨(by repeat (first | exact trivial | refine ⟨rfl, ?_⟩)), rfl⟩, by kernel_rfl⟩ ?_
  refine ev_if_no (decide_eq_false (show ¬(↑y.size : Int) > m - (↑(sumD L) : Int) from (by omega))) ?_
  refine go Try.tbs_ok 1000 ?_
  refine ev_if_no rfl ?_
  refine go Try.tbs_ok 1000 ?_
  refine ev_stop (go_draw Try.tbs_ok false [0, 1] [(0,true),(1,true),(2,true),(3,true),(4,true),(5,true),(6,true),(7,true),(8,true),(9,true),(10,true),(11,true),(12,true),(13,true),(14,true),(15,true),(16,true),(17,false)] rfl ?_)
  refine go Try.tbs_ok 1000 ?_
  refine ev_need ⟨⟨(by repeat (first | exact trivial | refine ⟨rfl, ?_⟩)), rfl⟩, by kernel_rfl⟩ ?_
  refine ev_stop (tk_index0 (sz := 3) Try.tbs_ok (.inr 1) (posF L x) ⟨⟨(by repeat (first | exact trivial | refine ⟨rfl, ?_⟩)), rfl⟩, by kernel_rfl⟩ rfl rfl rfl rfl rfl rfl rfl (by omega) rfl Row.at0 (fun g3 e4 => ?_))
  subst e4
  refine go Try.tbs_ok 1000 ?_
  refine ev_need ⟨⟨(by repeat (first | exact trivial | refine ⟨rfl, ?_⟩)), rfl⟩, by kernel_rfl⟩ ?_
  have l5 : posF L x < (L).length := (by omega)
  refine ev_stop (tk_loadE Try.tbs_ok (.inr 1) (posF L x) 1 ⟨⟨(by repeat (first | exact trivial | refine ⟨rfl, ?_⟩)), rfl⟩, by kernel_rfl⟩ rfl rfl rfl rfl rfl (fun _ h => Row.rd h) (by omega) (fun _ => rfl) (by omega) l5 (by decide) ?_)
  refine go Try.tbs_ok 1000 ?_
  refine ev_need ⟨⟨(by repeat (first | exact trivial | refine ⟨rfl, ?_⟩)), rfl⟩, by kernel_rfl⟩ ?_
  refine ev_stop (tk_bin (.va _) trivial ⟨⟨(by repeat (first | exact trivial | refine ⟨rfl, ?_⟩)), rfl⟩, by kernel_rfl⟩ rfl rfl rfl rfl rfl rfl (by decide) (by decide) (fun w => cat_run (by omega) w) ?_)
  refine go Try.tbs_ok 1000 ?_
  refine ev_need ⟨⟨(by repeat (first | exact trivial | refine ⟨rfl, ?_⟩)), rfl⟩, by kernel_rfl⟩ ?_
  refine ev_stop (tk_atE (sz := 3) Try.tbs_ok (posF L x) ⟨⟨(by repeat (first | exact trivial | refine ⟨rfl, ?_⟩)), rfl⟩, by kernel_rfl⟩ rfl rfl rfl rfl rfl rfl rfl (by omega) ?_)
  refine go Try.tbs_ok 1000 ?_
  refine ev_need ⟨⟨(by repeat (first | exact trivial | refine ⟨rfl, ?_⟩)), rfl⟩, by kernel_rfl⟩ ?_
  have l6 : posF L x < (L).length := (by omega)
  refine ev_stop (go_storeR Try.tbs_ok 1 (posF L x) 1 ({ n := L[posF L x].n, d := L[posF L x].d ++ y, s := L[posF L x].s : Fl }) rfl rfl rfl rfl rfl (by omega) (fun _ => rfl) (ones_of rfl) (by omega) l6 rfl (by decide) (ones_of rfl) rfl ?_)
  refine go Try.tbs_ok 1000 ?_
  refine ev_need (by kernel_rfl) ?_
  refine ev_call (TF ) [0] [] (fun v0_ => [.box (r) 49 [.va (Value.int IntKind.i64 m), .va (Value.int IntKind.i64 s), .bl false, .va (Value.slice (some { block := g3, off := 0 : Addr }) n c), .bl false, .va (Value.int IntKind.i64 lf), .va (Value.slice B k d)]]) rfl rfl (by decide) rfl (by simp) (fun _ => rfl) (fun _ => (newsOk_box (by simp [SV.good, SV.goodL]) (newsOk_nil _))) (fun _ => (by repeat (first | exact trivial | refine ⟨rfl, ?_⟩))) (fun _ h7 => ?_)
  refine go Try.tbs_ok 1000 ?_
  refine ev_if_no rfl ?_
  refine go Try.tbs_ok 1000 ?_
  refine ev_fin ⟨trivial, _, rfl, (()), rfl, (by trivial), Frm.sel [0, 1] rfl (by decide)⟩
set_option maxHeartbeats 1000000 in
set_option maxRecDepth 100000 in
theorem rAppFN (r : Nat) (m s : Int) (A : Option Addr) (n c : Nat) (lf : Int) (B : Option Addr) (k d : Nat) (L : List Fl) (hn : n = L.length) (h1 : n ≤ 1000) (x y : ByteArray) (hs : riseF L) (ho : oddS x = false) (hb : sumD L ≤ 1000000000) (hm2 : m ≤ 1048576) (hy : (y.size : Int) ≤ m - sumD L) (hh : hasF L x = false) (h16 : n < 16) : Triple Try.prog 51 [.pointer (some ⟨r, 0, none⟩), .string x, .string y] [Pt r 49 [.int .i64 m, .int .i64 s, .bool false, .slice A n c, .bool false, .int .i64 lf, .slice B k d], Row 82 3 A n c (L.flatMap encF)] [] (Option Addr × Nat) (fun _ => .int .i64 0) (fun _ => True) (fun (C, e) => [Pt r 49 [.int .i64 m, .int .i64 s, .bool false, .slice C (n + 1) e, .bool false, .int .i64 lf, .slice B k d], Row 82 3 C (n + 1) e ((insF L ⟨x, y, 0⟩).flatMap encF)]) := by
  have TO := rName x
  rw [ho] at TO
  have T1 := rFind r m s false A n c false lf B k d L hn h1 x hs
  have TS := rSize r m s false A n c false lf B k d L hn h1 hb
  rw [show ixF L x = -1 from by unfold ixF; rw [hh]; rfl] at T1
  have hle : 0 ≤ (sumD L : Int) := Int.natCast_nonneg _
  have TP := rPut r m s false A n c false lf B k d L hn h1 ⟨x, ByteArray.empty, 0⟩ hs hh
  obtain ⟨J, hJ⟩ : ∃ J, J = insF L ⟨x, ByteArray.empty, 0⟩ := ⟨_, rfl⟩
  have hsJ : riseF J := by rw [hJ]; exact riseF_ins hs hh
  have hJl : n + 1 = J.length := by rw [hJ, insF_len, hn]
  have TG := fun A c => rFind r m s false A (n + 1) c false lf B k d J hJl (by omega) x hsJ
  have hJp : posF J x = posF L x := by rw [hJ]; exact posF_ins L hs ⟨x, ByteArray.empty, 0⟩
  obtain ⟨hq0, hq1⟩ := insF_at L ⟨x, ByteArray.empty, 0⟩
  have hpJ : posF L x < J.length := by rw [hJ]; exact hq0
  have hJe : J[posF L x]'hpJ = ⟨x, ByteArray.empty, 0⟩ := by simp only [hJ]; exact hq1
  have hsz : (J[posF L x]'hpJ).d.size + y.size ≤ 1000000000 := by
    rw [hJe]
    have : ByteArray.empty.size = 0 := rfl
    simp only [this]
    omega
  have e1 : J.set (posF L x) ⟨(J[posF L x]'hpJ).n, (J[posF L x]'hpJ).d ++ y, (J[posF L x]'hpJ).s⟩ = insF L ⟨x, y, 0⟩ := by
    rw [hJe, hJ]
    simp only [ByteArray.empty_append]
    exact insF_set L ⟨x, ByteArray.empty, 0⟩ ⟨x, y, 0⟩ rfl
  rw [show ixF J x = (posF L x : Nat) from by unfold ixF; rw [hJ, insF_has L ⟨x, ByteArray.empty, 0⟩, ← hJ, hJp]; rfl] at TG
  rw [← hJ] at TP
  have TF := fun A c => rFailsN r m s false A (n + 1) c lf B k d
  refine triple_intro Try.tbs_ok Try.func51 rfl [.pt 0 r 0, .va (.string x), .va (.string y)] [.box r 49 [.va (.int .i64 m), .va (.int .i64 s), .va (.bool false), .va (.slice A n c), .va (.bool false), .va (.int .i64 lf), .va (.slice B k d)], .fact (Row 82 3 A n c (L.flatMap encF))] ⟨rfl, trivial, trivial, trivial⟩ rfl (by simp [SV.good, SV.goodL]) ?_
  intro E
  refine go Try.tbs_ok 1000 ?_
  refine ev_if_no rfl ?_
  refine go Try.tbs_ok 1000 ?_
  refine ev_callF (TO ) [] [] rfl rfl (by decide) rfl (by simp) (fun _ => (by repeat (first | exact trivial | refine ⟨rfl, ?_⟩))) (fun _ h0 => ?_)
  refine go Try.tbs_ok 1000 ?_
  refine ev_if_no rfl ?_
  refine go Try.tbs_ok 1000 ?_
  refine ev_call (T1 ) [0, 1] [] (fun v0_ => [.box (r) 49 [.va (Value.int IntKind.i64 m), .va (Value.int IntKind.i64 s), .bl false, .va (Value.slice A n c), .bl false, .va (Value.int IntKind.i64 lf), .va (Value.slice B k d)], .fact (Row 82 3 A n c (List.flatMap encF L))]) rfl rfl (by decide) rfl (by simp) (fun _ => rfl) (fun _ => (newsOk_box (by simp [SV.good, SV.goodL]) (newsOk_fact (newsOk_nil _)))) (fun _ => (by repeat (first | exact trivial | refine ⟨rfl, ?_⟩))) (fun _ h1 => ?_)
  refine go Try.tbs_ok 1000 ?_
  refine ev_stop (go_draw Try.tbs_ok true [0] [(0,true),(1,true),(2,true),(3,true),(4,true),(5,true),(6,true),(7,true),(8,true),(9,true),(10,true),(11,true),(12,true),(13,true),(14,true),(15,true),(16,true),(17,true),(18,false),(19,false),(20,false),(21,false)] rfl ?_)
  refine go Try.tbs_ok 1000 ?_
  refine ev_need ⟨⟨(by repeat (first | exact trivial | refine ⟨rfl, ?_⟩)), rfl⟩, by kernel_rfl⟩ ?_
  refine ev_if_yes rfl ?_
  refine go Try.tbs_ok 1000 ?_
  refine ev_need ⟨⟨(by repeat (first | exact trivial | refine ⟨rfl, ?_⟩)), rfl⟩, by kernel_rfl⟩ ?_
  refine ev_if_no (decide_eq_false (show ¬(↑n : Int) ≥ 16 from (by omega))) ?_
  refine go Try.tbs_ok 1000 ?_
  refine ev_need ⟨⟨(by repeat (first | exact trivial | refine ⟨rfl, ?_⟩)), rfl⟩, by kernel_rfl⟩ ?_
  refine ev_call (TS ) [0, 1] [] (fun v0_ => [.box (r) 49 [.va (Value.int IntKind.i64 m), .va (Value.int IntKind.i64 s), .bl false, .va (Value.slice A n c), .bl false, .va (Value.int IntKind.i64 lf), .va (Value.slice B k d)], .fact (Row 82 3 A n c (List.flatMap encF L))]) rfl rfl (by decide) rfl (by simp) (fun _ => rfl) (fun _ => (newsOk_box (by simp [SV.good, SV.goodL]) (newsOk_fact (newsOk_nil _)))) (fun _ => (by repeat (first | exact trivial | refine ⟨rfl, ?_⟩))) (fun _ h2 => ?_)
  refine go Try.tbs_ok 1000 ?_
  refine ev_need ⟨⟨(by repeat (first | exact trivial | refine ⟨rfl, ?_⟩)), rfl⟩, by kernel_rfl⟩ ?_
  refine ev_w64 (by constructor <;> omega) ?_
  refine ev_need ⟨⟨(by repeat (first | exact trivial | refine ⟨rfl, ?_⟩)), rfl⟩, by kernel_rfl⟩ ?_
  refine ev_need ⟨⟨(by repeat (first | exact trivial | refine ⟨rfl, ?_⟩)), rfl⟩, by kernel_rfl⟩ ?_
  refine ev_need ⟨⟨(by repeat (first | exact trivial | refine ⟨rfl, ?_⟩)), rfl⟩, by kernel_rfl⟩ ?_
  refine ev_if_no (decide_eq_false (show ¬(↑y.size : Int) > m - (↑(sumD L) : Int) from (by omega))) ?_
  refine go Try.tbs_ok 1000 ?_
  refine ev_if_yes rfl ?_
  refine go Try.tbs_ok 1000 ?_
  refine ev_call (TP ) [0, 1] [] (fun (v0_, v1_) => [.box (r) 49 [.va (Value.int IntKind.i64 m), .va (Value.int IntKind.i64 s), .bl false, .va (Value.slice v0_ (n + 1) v1_), .bl false, .va (Value.int IntKind.i64 lf), .va (Value.slice B k d)], .fact (Row 82 3 v0_ (n + 1) v1_ (List.flatMap encF J))]) rfl rfl (by decide) rfl (by simp) (fun _ => rfl) (fun _ => (newsOk_box (by simp [SV.good, SV.goodL]) (newsOk_fact (newsOk_nil _)))) (fun _ => (by repeat (first | exact trivial | refine ⟨rfl, ?_⟩))) (fun ⟨x3, x4⟩ h5 => ?_)
  refine go Try.tbs_ok 1000 ?_
  refine ev_call (TG (x3) (x4)) [0, 1] [] (fun v0_ => [.box (r) 49 [.va (Value.int IntKind.i64 m), .va (Value.int IntKind.i64 s), .bl false, .va (Value.slice x3 (n + 1) x4), .bl false, .va (Value.int IntKind.i64 lf), .va (Value.slice B k d)], .fact (Row 82 3 x3 (n + 1) x4 (List.flatMap encF J))]) rfl rfl (by decide) rfl (by simp) (fun _ => rfl) (fun _ => (newsOk_box (by simp [SV.good, SV.goodL]) (newsOk_fact (newsOk_nil _)))) (fun _ => (by repeat (first | exact trivial | refine ⟨rfl, ?_⟩))) (fun _ h6 => ?_)
  refine go Try.tbs_ok 1000 ?_
  refine ev_stop (go_draw Try.tbs_ok false [0, 1] [(0,true),(1,true),(2,true),(3,true),(4,true),(5,true),(6,true),(7,true),(8,true),(9,true),(10,true),(11,true),(12,true),(13,true),(14,true),(15,true),(16,true),(17,false)] rfl ?_)
  refine go Try.tbs_ok 1000 ?_
  refine ev_need ⟨⟨(by repeat (first | exact trivial | refine ⟨rfl, ?_⟩)), rfl⟩, by kernel_rfl⟩ ?_
  refine ev_stop (tk_index0 (sz := 3) Try.tbs_ok (.inr 1) (posF L x) ⟨⟨(by repeat (first | exact trivial | refine ⟨rfl, ?_⟩)), rfl⟩, by kernel_rfl⟩ rfl rfl rfl rfl rfl rfl rfl (by omega) rfl Row.at0 (fun g7 e8 => ?_))
  subst e8
  refine go Try.tbs_ok 1000 ?_
  refine ev_need ⟨⟨(by repeat (first | exact trivial | refine ⟨rfl, ?_⟩)), rfl⟩, by kernel_rfl⟩ ?_
  have l9 : posF L x < (J).length := (by omega)
  refine ev_stop (tk_loadE Try.tbs_ok (.inr 1) (posF L x) 1 ⟨⟨(by repeat (first | exact trivial | refine ⟨rfl, ?_⟩)), rfl⟩, by kernel_rfl⟩ rfl rfl rfl rfl rfl (fun _ h => Row.rd h) (by omega) (fun _ => rfl) (by omega) l9 (by decide) ?_)
  refine go Try.tbs_ok 1000 ?_
  refine ev_need ⟨⟨(by repeat (first | exact trivial | refine ⟨rfl, ?_⟩)), rfl⟩, by kernel_rfl⟩ ?_
  refine ev_stop (tk_bin (.va _) trivial ⟨⟨(by repeat (first | exact trivial | refine ⟨rfl, ?_⟩)), rfl⟩, by kernel_rfl⟩ rfl rfl rfl rfl rfl rfl (by decide) (by decide) (fun w => cat_run (by omega) w) ?_)
  refine go Try.tbs_ok 1000 ?_
  refine ev_need ⟨⟨(by repeat (first | exact trivial | refine ⟨rfl, ?_⟩)), rfl⟩, by kernel_rfl⟩ ?_
  refine ev_stop (tk_atE (sz := 3) Try.tbs_ok (posF L x) ⟨⟨(by repeat (first | exact trivial | refine ⟨rfl, ?_⟩)), rfl⟩, by kernel_rfl⟩ rfl rfl rfl rfl rfl rfl rfl (by omega) ?_)
  refine go Try.tbs_ok 1000 ?_
  refine ev_need ⟨⟨(by repeat (first | exact trivial | refine ⟨rfl, ?_⟩)), rfl⟩, by kernel_rfl⟩ ?_
  have l10 : posF L x < (J).length := (by omega)
  refine ev_stop (go_storeR Try.tbs_ok 1 (posF L x) 1 ({ n := J[posF L x].n, d := J[posF L x].d ++ y, s := J[posF L x].s : Fl }) rfl rfl rfl rfl rfl (by omega) (fun _ => rfl) (ones_of rfl) (by omega) l10 rfl (by decide) (ones_of rfl) rfl ?_)
  refine go Try.tbs_ok 1000 ?_
  refine ev_need (by kernel_rfl) ?_
  rw [e1]
  refine ev_call (TF (some { block := g7, off := 0 : Addr }) (x4)) [0] [] (fun v0_ => [.box (r) 49 [.va (Value.int IntKind.i64 m), .va (Value.int IntKind.i64 s), .bl false, .va (Value.slice (some { block := g7, off := 0 : Addr }) (n + 1) x4), .bl false, .va (Value.int IntKind.i64 lf), .va (Value.slice B k d)]]) rfl rfl (by decide) rfl (by simp) (fun _ => rfl) (fun _ => (newsOk_box (by simp [SV.good, SV.goodL]) (newsOk_nil _))) (fun _ => (by repeat (first | exact trivial | refine ⟨rfl, ?_⟩))) (fun _ h100 => ?_)
  refine go Try.tbs_ok 1000 ?_
  refine ev_if_no rfl ?_
  refine go Try.tbs_ok 1000 ?_
  refine ev_fin ⟨trivial, _, rfl, ((some { block := g7, off := 0 : Addr }, x4)), rfl, (by trivial), Frm.sel [0, 1] rfl (by decide)⟩
set_option maxHeartbeats 1000000 in
set_option maxRecDepth 100000 in
theorem rAppTG (r : Nat) (m s : Int) (A : Option Addr) (n c : Nat) (lf : Int) (B : Option Addr) (k d : Nat) (L : List Fl) (hn : n = L.length) (h1 : n ≤ 1000) (x y : ByteArray) (hs : riseF L) (ho : oddS x = false) (hb : sumD L ≤ 1000000000) (hm2 : m ≤ 1048576) (hy : (y.size : Int) ≤ m - sumD L) (hh : hasF L x = true) (hi : posF L x < L.length) (hq : 0 < lf) (hq2 : lf ≤ 9223372036854775807) : Triple Try.prog 51 [.pointer (some ⟨r, 0, none⟩), .string x, .string y] [Pt r 49 [.int .i64 m, .int .i64 s, .bool false, .slice A n c, .bool true, .int .i64 lf, .slice B k d], Row 82 3 A n c (L.flatMap encF)] [] Unit (fun _ => .int .i64 0) (fun _ => True) (fun _ => [Pt r 49 [.int .i64 m, .int .i64 s, .bool false, .slice A n c, .bool true, .int .i64 (lf - 1), .slice B k d], Row 82 3 A n c ((L.set (posF L x) ⟨(L[posF L x]'hi).n, (L[posF L x]'hi).d ++ y, (L[posF L x]'hi).s⟩).flatMap encF)]) := by
  have TO := rName x
  rw [ho] at TO
  have T1 := rFind r m s false A n c true lf B k d L hn h1 x hs
  have TS := rSize r m s false A n c true lf B k d L hn h1 hb
  rw [show ixF L x = (posF L x : Nat) from by unfold ixF; rw [hh]; rfl] at T1
  have hz := sumD_mem (List.getElem_mem hi)
  have TF := rFailsG r m s false A n c lf B k d hq hq2
  refine triple_intro Try.tbs_ok Try.func51 rfl [.pt 0 r 0, .va (.string x), .va (.string y)] [.box r 49 [.va (.int .i64 m), .va (.int .i64 s), .va (.bool false), .va (.slice A n c), .va (.bool true), .va (.int .i64 lf), .va (.slice B k d)], .fact (Row 82 3 A n c (L.flatMap encF))] ⟨rfl, trivial, trivial, trivial⟩ rfl (by simp [SV.good, SV.goodL]) ?_
  intro E
  refine go Try.tbs_ok 1000 ?_
  refine ev_if_no rfl ?_
  refine go Try.tbs_ok 1000 ?_
  refine ev_callF (TO ) [] [] rfl rfl (by decide) rfl (by simp) (fun _ => (by repeat (first | exact trivial | refine ⟨rfl, ?_⟩))) (fun _ h0 => ?_)
  refine go Try.tbs_ok 1000 ?_
  refine ev_if_no rfl ?_
  refine go Try.tbs_ok 1000 ?_
  refine ev_call (T1 ) [0, 1] [] (fun v0_ => [.box (r) 49 [.va (Value.int IntKind.i64 m), .va (Value.int IntKind.i64 s), .bl false, .va (Value.slice A n c), .bl true, .va (Value.int IntKind.i64 lf), .va (Value.slice B k d)], .fact (Row 82 3 A n c (List.flatMap encF L))]) rfl rfl (by decide) rfl (by simp) (fun _ => rfl) (fun _ => (newsOk_box (by simp [SV.good, SV.goodL]) (newsOk_fact (newsOk_nil _)))) (fun _ => (by repeat (first | exact trivial | refine ⟨rfl, ?_⟩))) (fun _ h1 => ?_)
  refine go Try.tbs_ok 1000 ?_
  refine ev_stop (go_draw Try.tbs_ok true [0] [(0,true),(1,true),(2,true),(3,true),(4,true),(5,true),(6,true),(7,true),(8,true),(9,true),(10,true),(11,true),(12,true),(13,true),(14,true),(15,true),(16,true),(17,true),(18,false),(19,false),(20,false),(21,false)] rfl ?_)
  refine go Try.tbs_ok 1000 ?_
  refine ev_need ⟨⟨(by repeat (first | exact trivial | refine ⟨rfl, ?_⟩)), rfl⟩, by kernel_rfl⟩ ?_
  refine ev_if_no rfl ?_
  refine go Try.tbs_ok 1000 ?_
  refine ev_need ⟨⟨(by repeat (first | exact trivial | refine ⟨rfl, ?_⟩)), rfl⟩, by kernel_rfl⟩ ?_
  refine ev_call (TS ) [0, 1] [] (fun v0_ => [.box (r) 49 [.va (Value.int IntKind.i64 m), .va (Value.int IntKind.i64 s), .bl false, .va (Value.slice A n c), .bl true, .va (Value.int IntKind.i64 lf), .va (Value.slice B k d)], .fact (Row 82 3 A n c (List.flatMap encF L))]) rfl rfl (by decide) rfl (by simp) (fun _ => rfl) (fun _ => (newsOk_box (by simp [SV.good, SV.goodL]) (newsOk_fact (newsOk_nil _)))) (fun _ => (by repeat (first | exact trivial | refine ⟨rfl, ?_⟩))) (fun _ h2 => ?_)
  refine go Try.tbs_ok 1000 ?_
  refine ev_need ⟨⟨(by repeat (first | exact trivial | refine ⟨rfl, ?_⟩)), rfl⟩, by kernel_rfl⟩ ?_
  refine ev_w64 (by constructor <;> omega) ?_
  refine ev_need ⟨⟨(by repeat (first | exact trivial | refine ⟨rfl, ?_⟩)), rfl⟩, by kernel_rfl⟩ ?_
  refine ev_need ⟨⟨(by repeat (first | exact trivial | refine ⟨rfl, ?_⟩)), rfl⟩, by kernel_rfl⟩ ?_
  refine ev_need ⟨⟨(by repeat (first | exact trivial | refine ⟨rfl, ?_⟩)), rfl⟩, by kernel_rfl⟩ ?_
  refine ev_if_no (decide_eq_false (show ¬(↑y.size : Int) > m - (↑(sumD L) : Int) from (by omega))) ?_
  refine go Try.tbs_ok 1000 ?_
  refine ev_if_no rfl ?_
  refine go Try.tbs_ok 1000 ?_
  refine ev_stop (go_draw Try.tbs_ok false [0, 1] [(0,true),(1,true),(2,true),(3,true),(4,true),(5,true),(6,true),(7,true),(8,true),(9,true),(10,true),(11,true),(12,true),(13,true),(14,true),(15,true),(16,true),(17,false)] rfl ?_)
  refine go Try.tbs_ok 1000 ?_
  refine ev_need ⟨⟨(by repeat (first | exact trivial | refine ⟨rfl, ?_⟩)), rfl⟩, by kernel_rfl⟩ ?_
  refine ev_stop (tk_index0 (sz := 3) Try.tbs_ok (.inr 1) (posF L x) ⟨⟨(by repeat (first | exact trivial | refine ⟨rfl, ?_⟩)), rfl⟩, by kernel_rfl⟩ rfl rfl rfl rfl rfl rfl rfl (by omega) rfl Row.at0 (fun g3 e4 => ?_))
  subst e4
  refine go Try.tbs_ok 1000 ?_
  refine ev_need ⟨⟨(by repeat (first | exact trivial | refine ⟨rfl, ?_⟩)), rfl⟩, by kernel_rfl⟩ ?_
  have l5 : posF L x < (L).length := (by omega)
  refine ev_stop (tk_loadE Try.tbs_ok (.inr 1) (posF L x) 1 ⟨⟨(by repeat (first | exact trivial | refine ⟨rfl, ?_⟩)), rfl⟩, by kernel_rfl⟩ rfl rfl rfl rfl rfl (fun _ h => Row.rd h) (by omega) (fun _ => rfl) (by omega) l5 (by decide) ?_)
  refine go Try.tbs_ok 1000 ?_
  refine ev_need ⟨⟨(by repeat (first | exact trivial | refine ⟨rfl, ?_⟩)), rfl⟩, by kernel_rfl⟩ ?_
  refine ev_stop (tk_bin (.va _) trivial ⟨⟨(by repeat (first | exact trivial | refine ⟨rfl, ?_⟩)), rfl⟩, by kernel_rfl⟩ rfl rfl rfl rfl rfl rfl (by decide) (by decide) (fun w => cat_run (by omega) w) ?_)
  refine go Try.tbs_ok 1000 ?_
  refine ev_need ⟨⟨(by repeat (first | exact trivial | refine ⟨rfl, ?_⟩)), rfl⟩, by kernel_rfl⟩ ?_
  refine ev_stop (tk_atE (sz := 3) Try.tbs_ok (posF L x) ⟨⟨(by repeat (first | exact trivial | refine ⟨rfl, ?_⟩)), rfl⟩, by kernel_rfl⟩ rfl rfl rfl rfl rfl rfl rfl (by omega) ?_)
  refine go Try.tbs_ok 1000 ?_
  refine ev_need ⟨⟨(by repeat (first | exact trivial | refine ⟨rfl, ?_⟩)), rfl⟩, by kernel_rfl⟩ ?_
  have l6 : posF L x < (L).length := (by omega)
  refine ev_stop (go_storeR Try.tbs_ok 1 (posF L x) 1 ({ n := L[posF L x].n, d := L[posF L x].d ++ y, s := L[posF L x].s : Fl }) rfl rfl rfl rfl rfl (by omega) (fun _ => rfl) (ones_of rfl) (by omega) l6 rfl (by decide) (ones_of rfl) rfl ?_)
  refine go Try.tbs_ok 1000 ?_
  refine ev_need (by kernel_rfl) ?_
  refine ev_call (TF ) [0] [] (fun v0_ => [.box (r) 49 [.va (Value.int IntKind.i64 m), .va (Value.int IntKind.i64 s), .bl false, .va (Value.slice (some { block := g3, off := 0 : Addr }) n c), .bl true, .va (Value.int IntKind.i64 (lf - 1)), .va (Value.slice B k d)]]) rfl rfl (by decide) rfl (by simp) (fun _ => rfl) (fun _ => (newsOk_box (by simp [SV.good, SV.goodL]) (newsOk_nil _))) (fun _ => (by repeat (first | exact trivial | refine ⟨rfl, ?_⟩))) (fun _ h7 => ?_)
  refine go Try.tbs_ok 1000 ?_
  refine ev_if_no rfl ?_
  refine go Try.tbs_ok 1000 ?_
  refine ev_fin ⟨trivial, _, rfl, (()), rfl, (by trivial), Frm.sel [0, 1] rfl (by decide)⟩
set_option maxHeartbeats 1000000 in
set_option maxRecDepth 100000 in
theorem rAppFG (r : Nat) (m s : Int) (A : Option Addr) (n c : Nat) (lf : Int) (B : Option Addr) (k d : Nat) (L : List Fl) (hn : n = L.length) (h1 : n ≤ 1000) (x y : ByteArray) (hs : riseF L) (ho : oddS x = false) (hb : sumD L ≤ 1000000000) (hm2 : m ≤ 1048576) (hy : (y.size : Int) ≤ m - sumD L) (hh : hasF L x = false) (h16 : n < 16) (hq : 0 < lf) (hq2 : lf ≤ 9223372036854775807) : Triple Try.prog 51 [.pointer (some ⟨r, 0, none⟩), .string x, .string y] [Pt r 49 [.int .i64 m, .int .i64 s, .bool false, .slice A n c, .bool true, .int .i64 lf, .slice B k d], Row 82 3 A n c (L.flatMap encF)] [] (Option Addr × Nat) (fun _ => .int .i64 0) (fun _ => True) (fun (C, e) => [Pt r 49 [.int .i64 m, .int .i64 s, .bool false, .slice C (n + 1) e, .bool true, .int .i64 (lf - 1), .slice B k d], Row 82 3 C (n + 1) e ((insF L ⟨x, y, 0⟩).flatMap encF)]) := by
  have TO := rName x
  rw [ho] at TO
  have T1 := rFind r m s false A n c true lf B k d L hn h1 x hs
  have TS := rSize r m s false A n c true lf B k d L hn h1 hb
  rw [show ixF L x = -1 from by unfold ixF; rw [hh]; rfl] at T1
  have hle : 0 ≤ (sumD L : Int) := Int.natCast_nonneg _
  have TP := rPut r m s false A n c true lf B k d L hn h1 ⟨x, ByteArray.empty, 0⟩ hs hh
  obtain ⟨J, hJ⟩ : ∃ J, J = insF L ⟨x, ByteArray.empty, 0⟩ := ⟨_, rfl⟩
  have hsJ : riseF J := by rw [hJ]; exact riseF_ins hs hh
  have hJl : n + 1 = J.length := by rw [hJ, insF_len, hn]
  have TG := fun A c => rFind r m s false A (n + 1) c true lf B k d J hJl (by omega) x hsJ
  have hJp : posF J x = posF L x := by rw [hJ]; exact posF_ins L hs ⟨x, ByteArray.empty, 0⟩
  obtain ⟨hq0, hq1⟩ := insF_at L ⟨x, ByteArray.empty, 0⟩
  have hpJ : posF L x < J.length := by rw [hJ]; exact hq0
  have hJe : J[posF L x]'hpJ = ⟨x, ByteArray.empty, 0⟩ := by simp only [hJ]; exact hq1
  have hsz : (J[posF L x]'hpJ).d.size + y.size ≤ 1000000000 := by
    rw [hJe]
    have : ByteArray.empty.size = 0 := rfl
    simp only [this]
    omega
  have e1 : J.set (posF L x) ⟨(J[posF L x]'hpJ).n, (J[posF L x]'hpJ).d ++ y, (J[posF L x]'hpJ).s⟩ = insF L ⟨x, y, 0⟩ := by
    rw [hJe, hJ]
    simp only [ByteArray.empty_append]
    exact insF_set L ⟨x, ByteArray.empty, 0⟩ ⟨x, y, 0⟩ rfl
  rw [show ixF J x = (posF L x : Nat) from by unfold ixF; rw [hJ, insF_has L ⟨x, ByteArray.empty, 0⟩, ← hJ, hJp]; rfl] at TG
  rw [← hJ] at TP
  have TF := fun A c => rFailsG r m s false A (n + 1) c lf B k d hq hq2
  refine triple_intro Try.tbs_ok Try.func51 rfl [.pt 0 r 0, .va (.string x), .va (.string y)] [.box r 49 [.va (.int .i64 m), .va (.int .i64 s), .va (.bool false), .va (.slice A n c), .va (.bool true), .va (.int .i64 lf), .va (.slice B k d)], .fact (Row 82 3 A n c (L.flatMap encF))] ⟨rfl, trivial, trivial, trivial⟩ rfl (by simp [SV.good, SV.goodL]) ?_
  intro E
  refine go Try.tbs_ok 1000 ?_
  refine ev_if_no rfl ?_
  refine go Try.tbs_ok 1000 ?_
  refine ev_callF (TO ) [] [] rfl rfl (by decide) rfl (by simp) (fun _ => (by repeat (first | exact trivial | refine ⟨rfl, ?_⟩))) (fun _ h0 => ?_)
  refine go Try.tbs_ok 1000 ?_
  refine ev_if_no rfl ?_
  refine go Try.tbs_ok 1000 ?_
  refine ev_call (T1 ) [0, 1] [] (fun v0_ => [.box (r) 49 [.va (Value.int IntKind.i64 m), .va (Value.int IntKind.i64 s), .bl false, .va (Value.slice A n c), .bl true, .va (Value.int IntKind.i64 lf), .va (Value.slice B k d)], .fact (Row 82 3 A n c (List.flatMap encF L))]) rfl rfl (by decide) rfl (by simp) (fun _ => rfl) (fun _ => (newsOk_box (by simp [SV.good, SV.goodL]) (newsOk_fact (newsOk_nil _)))) (fun _ => (by repeat (first | exact trivial | refine ⟨rfl, ?_⟩))) (fun _ h1 => ?_)
  refine go Try.tbs_ok 1000 ?_
  refine ev_stop (go_draw Try.tbs_ok true [0] [(0,true),(1,true),(2,true),(3,true),(4,true),(5,true),(6,true),(7,true),(8,true),(9,true),(10,true),(11,true),(12,true),(13,true),(14,true),(15,true),(16,true),(17,true),(18,false),(19,false),(20,false),(21,false)] rfl ?_)
  refine go Try.tbs_ok 1000 ?_
  refine ev_need ⟨⟨(by repeat (first | exact trivial | refine ⟨rfl, ?_⟩)), rfl⟩, by kernel_rfl⟩ ?_
  refine ev_if_yes rfl ?_
  refine go Try.tbs_ok 1000 ?_
  refine ev_need ⟨⟨(by repeat (first | exact trivial | refine ⟨rfl, ?_⟩)), rfl⟩, by kernel_rfl⟩ ?_
  refine ev_if_no (decide_eq_false (show ¬(↑n : Int) ≥ 16 from (by omega))) ?_
  refine go Try.tbs_ok 1000 ?_
  refine ev_need ⟨⟨(by repeat (first | exact trivial | refine ⟨rfl, ?_⟩)), rfl⟩, by kernel_rfl⟩ ?_
  refine ev_call (TS ) [0, 1] [] (fun v0_ => [.box (r) 49 [.va (Value.int IntKind.i64 m), .va (Value.int IntKind.i64 s), .bl false, .va (Value.slice A n c), .bl true, .va (Value.int IntKind.i64 lf), .va (Value.slice B k d)], .fact (Row 82 3 A n c (List.flatMap encF L))]) rfl rfl (by decide) rfl (by simp) (fun _ => rfl) (fun _ => (newsOk_box (by simp [SV.good, SV.goodL]) (newsOk_fact (newsOk_nil _)))) (fun _ => (by repeat (first | exact trivial | refine ⟨rfl, ?_⟩))) (fun _ h2 => ?_)
  refine go Try.tbs_ok 1000 ?_
  refine ev_need ⟨⟨(by repeat (first | exact trivial | refine ⟨rfl, ?_⟩)), rfl⟩, by kernel_rfl⟩ ?_
  refine ev_w64 (by constructor <;> omega) ?_
  refine ev_need ⟨⟨(by repeat (first | exact trivial | refine ⟨rfl, ?_⟩)), rfl⟩, by kernel_rfl⟩ ?_
  refine ev_need ⟨⟨(by repeat (first | exact trivial | refine ⟨rfl, ?_⟩)), rfl⟩, by kernel_rfl⟩ ?_
  refine ev_need ⟨⟨(by repeat (first | exact trivial | refine ⟨rfl, ?_⟩)), rfl⟩, by kernel_rfl⟩ ?_
  refine ev_if_no (decide_eq_false (show ¬(↑y.size : Int) > m - (↑(sumD L) : Int) from (by omega))) ?_
  refine go Try.tbs_ok 1000 ?_
  refine ev_if_yes rfl ?_
  refine go Try.tbs_ok 1000 ?_
  refine ev_call (TP ) [0, 1] [] (fun (v0_, v1_) => [.box (r) 49 [.va (Value.int IntKind.i64 m), .va (Value.int IntKind.i64 s), .bl false, .va (Value.slice v0_ (n + 1) v1_), .bl true, .va (Value.int IntKind.i64 lf), .va (Value.slice B k d)], .fact (Row 82 3 v0_ (n + 1) v1_ (List.flatMap encF J))]) rfl rfl (by decide) rfl (by simp) (fun _ => rfl) (fun _ => (newsOk_box (by simp [SV.good, SV.goodL]) (newsOk_fact (newsOk_nil _)))) (fun _ => (by repeat (first | exact trivial | refine ⟨rfl, ?_⟩))) (fun ⟨x3, x4⟩ h5 => ?_)
  refine go Try.tbs_ok 1000 ?_
  refine ev_call (TG (x3) (x4)) [0, 1] [] (fun v0_ => [.box (r) 49 [.va (Value.int IntKind.i64 m), .va (Value.int IntKind.i64 s), .bl false, .va (Value.slice x3 (n + 1) x4), .bl true, .va (Value.int IntKind.i64 lf), .va (Value.slice B k d)], .fact (Row 82 3 x3 (n + 1) x4 (List.flatMap encF J))]) rfl rfl (by decide) rfl (by simp) (fun _ => rfl) (fun _ => (newsOk_box (by simp [SV.good, SV.goodL]) (newsOk_fact (newsOk_nil _)))) (fun _ => (by repeat (first | exact trivial | refine ⟨rfl, ?_⟩))) (fun _ h6 => ?_)
  refine go Try.tbs_ok 1000 ?_
  refine ev_stop (go_draw Try.tbs_ok false [0, 1] [(0,true),(1,true),(2,true),(3,true),(4,true),(5,true),(6,true),(7,true),(8,true),(9,true),(10,true),(11,true),(12,true),(13,true),(14,true),(15,true),(16,true),(17,false)] rfl ?_)
  refine go Try.tbs_ok 1000 ?_
  refine ev_need ⟨⟨(by repeat (first | exact trivial | refine ⟨rfl, ?_⟩)), rfl⟩, by kernel_rfl⟩ ?_
  refine ev_stop (tk_index0 (sz := 3) Try.tbs_ok (.inr 1) (posF L x) ⟨⟨(by repeat (first | exact trivial | refine ⟨rfl, ?_⟩)), rfl⟩, by kernel_rfl⟩ rfl rfl rfl rfl rfl rfl rfl (by omega) rfl Row.at0 (fun g7 e8 => ?_))
  subst e8
  refine go Try.tbs_ok 1000 ?_
  refine ev_need ⟨⟨(by repeat (first | exact trivial | refine ⟨rfl, ?_⟩)), rfl⟩, by kernel_rfl⟩ ?_
  have l9 : posF L x < (J).length := (by omega)
  refine ev_stop (tk_loadE Try.tbs_ok (.inr 1) (posF L x) 1 ⟨⟨(by repeat (first | exact trivial | refine ⟨rfl, ?_⟩)), rfl⟩, by kernel_rfl⟩ rfl rfl rfl rfl rfl (fun _ h => Row.rd h) (by omega) (fun _ => rfl) (by omega) l9 (by decide) ?_)
  refine go Try.tbs_ok 1000 ?_
  refine ev_need ⟨⟨(by repeat (first | exact trivial | refine ⟨rfl, ?_⟩)), rfl⟩, by kernel_rfl⟩ ?_
  refine ev_stop (tk_bin (.va _) trivial ⟨⟨(by repeat (first | exact trivial | refine ⟨rfl, ?_⟩)), rfl⟩, by kernel_rfl⟩ rfl rfl rfl rfl rfl rfl (by decide) (by decide) (fun w => cat_run (by omega) w) ?_)
  refine go Try.tbs_ok 1000 ?_
  refine ev_need ⟨⟨(by repeat (first | exact trivial | refine ⟨rfl, ?_⟩)), rfl⟩, by kernel_rfl⟩ ?_
  refine ev_stop (tk_atE (sz := 3) Try.tbs_ok (posF L x) ⟨⟨(by repeat (first | exact trivial | refine ⟨rfl, ?_⟩)), rfl⟩, by kernel_rfl⟩ rfl rfl rfl rfl rfl rfl rfl (by omega) ?_)
  refine go Try.tbs_ok 1000 ?_
  refine ev_need ⟨⟨(by repeat (first | exact trivial | refine ⟨rfl, ?_⟩)), rfl⟩, by kernel_rfl⟩ ?_
  have l10 : posF L x < (J).length := (by omega)
  refine ev_stop (go_storeR Try.tbs_ok 1 (posF L x) 1 ({ n := J[posF L x].n, d := J[posF L x].d ++ y, s := J[posF L x].s : Fl }) rfl rfl rfl rfl rfl (by omega) (fun _ => rfl) (ones_of rfl) (by omega) l10 rfl (by decide) (ones_of rfl) rfl ?_)
  refine go Try.tbs_ok 1000 ?_
  refine ev_need (by kernel_rfl) ?_
  rw [e1]
  refine ev_call (TF (some { block := g7, off := 0 : Addr }) (x4)) [0] [] (fun v0_ => [.box (r) 49 [.va (Value.int IntKind.i64 m), .va (Value.int IntKind.i64 s), .bl false, .va (Value.slice (some { block := g7, off := 0 : Addr }) (n + 1) x4), .bl true, .va (Value.int IntKind.i64 (lf - 1)), .va (Value.slice B k d)]]) rfl rfl (by decide) rfl (by simp) (fun _ => rfl) (fun _ => (newsOk_box (by simp [SV.good, SV.goodL]) (newsOk_nil _))) (fun _ => (by repeat (first | exact trivial | refine ⟨rfl, ?_⟩))) (fun _ h100 => ?_)
  refine go Try.tbs_ok 1000 ?_
  refine ev_if_no rfl ?_
  refine go Try.tbs_ok 1000 ?_
  refine ev_fin ⟨trivial, _, rfl, ((some { block := g7, off := 0 : Addr }, x4)), rfl, (by trivial), Frm.sel [0, 1] rfl (by decide)⟩
set_option maxHeartbeats 1000000 in
set_option maxRecDepth 100000 in
theorem rAppTS (r : Nat) (m s : Int) (A : Option Addr) (n c : Nat) (lf : Int) (B : Option Addr) (k d : Nat) (L : List Fl) (hn : n = L.length) (h1 : n ≤ 1000) (x y : ByteArray) (hs : riseF L) (ho : oddS x = false) (hb : sumD L ≤ 1000000000) (hm2 : m ≤ 1048576) (hy : (y.size : Int) ≤ m - sumD L) (hh : hasF L x = true) (hi : posF L x < L.length) (hq : lf = 0) (K : List Int) (hk : k = K.length) (hL : okF (L.set (posF L x) ⟨(L[posF L x]'hi).n, (L[posF L x]'hi).d ++ y, (L[posF L x]'hi).s⟩)) : Triple Try.prog 51 [.pointer (some ⟨r, 0, none⟩), .string x, .string y] [Pt r 49 [.int .i64 m, .int .i64 s, .bool false, .slice A n c, .bool true, .int .i64 lf, .slice B k d], Row 82 3 A n c (L.flatMap encF), Row 3 1 B k d (K.flatMap encN)] [] Unit (fun _ => .int .i64 41) (fun _ => True) (fun _ => [Pt r 49 [.int .i64 m, .int .i64 s, .bool true, .slice A n c, .bool false, .int .i64 lf, .slice B k d], Row 82 3 A n c ((crashF (L.set (posF L x) ⟨(L[posF L x]'hi).n, (L[posF L x]'hi).d ++ y, (L[posF L x]'hi).s⟩) K).flatMap encF), Row 3 1 B k d (K.flatMap encN)]) := by
  have TO := rName x
  rw [ho] at TO
  have T1 := rFind r m s false A n c true lf B k d L hn h1 x hs
  have TS := rSize r m s false A n c true lf B k d L hn h1 hb
  rw [show ixF L x = (posF L x : Nat) from by unfold ixF; rw [hh]; rfl] at T1
  have hz := sumD_mem (List.getElem_mem hi)
  have TF := rFailsS r m s false A n c lf B k d hq
  have TX := (rCrash r m s A n c true lf B k d (L.set (posF L x) ⟨(L[posF L x]'hi).n, (L[posF L x]'hi).d ++ y, (L[posF L x]'hi).s⟩) (by rw [List.length_set]; exact hn) h1 B k d K hk hL).reads (N' := [Row 3 1 B k d (K.flatMap encN)]) (fun X hX => ⟨_, List.mem_cons_self, fun _ q => by rw [List.mem_singleton.1 hX]; exact Row.rd q⟩)
  refine triple_intro Try.tbs_ok Try.func51 rfl [.pt 0 r 0, .va (.string x), .va (.string y)] [.box r 49 [.va (.int .i64 m), .va (.int .i64 s), .va (.bool false), .va (.slice A n c), .va (.bool true), .va (.int .i64 lf), .va (.slice B k d)], .fact (Row 82 3 A n c (L.flatMap encF)), .fact (Row 3 1 B k d (K.flatMap encN))] ⟨rfl, trivial, trivial, trivial⟩ rfl (by simp [SV.good, SV.goodL]) ?_
  intro E
  refine go Try.tbs_ok 1000 ?_
  refine ev_if_no rfl ?_
  refine go Try.tbs_ok 1000 ?_
  refine ev_callF (TO ) [] [] rfl rfl (by decide) rfl (by simp) (fun _ => (by repeat (first | exact trivial | refine ⟨rfl, ?_⟩))) (fun _ h0 => ?_)
  refine go Try.tbs_ok 1000 ?_
  refine ev_if_no rfl ?_
  refine go Try.tbs_ok 1000 ?_
  refine ev_call (T1 ) [0, 1] [] (fun v0_ => [.box (r) 49 [.va (Value.int IntKind.i64 m), .va (Value.int IntKind.i64 s), .bl false, .va (Value.slice A n c), .bl true, .va (Value.int IntKind.i64 lf), .va (Value.slice B k d)], .fact (Row 82 3 A n c (List.flatMap encF L))]) rfl rfl (by decide) rfl (by simp) (fun _ => rfl) (fun _ => (newsOk_box (by simp [SV.good, SV.goodL]) (newsOk_fact (newsOk_nil _)))) (fun _ => (by repeat (first | exact trivial | refine ⟨rfl, ?_⟩))) (fun _ h1 => ?_)
  refine go Try.tbs_ok 1000 ?_
  refine ev_stop (go_draw Try.tbs_ok true [0] [(0,true),(1,true),(2,true),(3,true),(4,true),(5,true),(6,true),(7,true),(8,true),(9,true),(10,true),(11,true),(12,true),(13,true),(14,true),(15,true),(16,true),(17,true),(18,false),(19,false),(20,false),(21,false)] rfl ?_)
  refine go Try.tbs_ok 1000 ?_
  refine ev_need ⟨⟨(by repeat (first | exact trivial | refine ⟨rfl, ?_⟩)), rfl⟩, by kernel_rfl⟩ ?_
  refine ev_if_no rfl ?_
  refine go Try.tbs_ok 1000 ?_
  refine ev_need ⟨⟨(by repeat (first | exact trivial | refine ⟨rfl, ?_⟩)), rfl⟩, by kernel_rfl⟩ ?_
  refine ev_call (TS ) [0, 1] [] (fun v0_ => [.box (r) 49 [.va (Value.int IntKind.i64 m), .va (Value.int IntKind.i64 s), .bl false, .va (Value.slice A n c), .bl true, .va (Value.int IntKind.i64 lf), .va (Value.slice B k d)], .fact (Row 82 3 A n c (List.flatMap encF L))]) rfl rfl (by decide) rfl (by simp) (fun _ => rfl) (fun _ => (newsOk_box (by simp [SV.good, SV.goodL]) (newsOk_fact (newsOk_nil _)))) (fun _ => (by repeat (first | exact trivial | refine ⟨rfl, ?_⟩))) (fun _ h2 => ?_)
  refine go Try.tbs_ok 1000 ?_
  refine ev_need ⟨⟨(by repeat (first | exact trivial | refine ⟨rfl, ?_⟩)), rfl⟩, by kernel_rfl⟩ ?_
  refine ev_w64 (by constructor <;> omega) ?_
  refine ev_need ⟨⟨(by repeat (first | exact trivial | refine ⟨rfl, ?_⟩)), rfl⟩, by kernel_rfl⟩ ?_
  refine ev_need ⟨⟨(by repeat (first | exact trivial | refine ⟨rfl, ?_⟩)), rfl⟩, by kernel_rfl⟩ ?_
  refine ev_need ⟨⟨(by repeat (first | exact trivial | refine ⟨rfl, ?_⟩)), rfl⟩, by kernel_rfl⟩ ?_
  refine ev_if_no (decide_eq_false (show ¬(↑y.size : Int) > m - (↑(sumD L) : Int) from (by omega))) ?_
  refine go Try.tbs_ok 1000 ?_
  refine ev_if_no rfl ?_
  refine go Try.tbs_ok 1000 ?_
  refine ev_stop (go_draw Try.tbs_ok false [0, 1] [(0,true),(1,true),(2,true),(3,true),(4,true),(5,true),(6,true),(7,true),(8,true),(9,true),(10,true),(11,true),(12,true),(13,true),(14,true),(15,true),(16,true),(17,false)] rfl ?_)
  refine go Try.tbs_ok 1000 ?_
  refine ev_need ⟨⟨(by repeat (first | exact trivial | refine ⟨rfl, ?_⟩)), rfl⟩, by kernel_rfl⟩ ?_
  refine ev_stop (tk_index0 (sz := 3) Try.tbs_ok (.inr 1) (posF L x) ⟨⟨(by repeat (first | exact trivial | refine ⟨rfl, ?_⟩)), rfl⟩, by kernel_rfl⟩ rfl rfl rfl rfl rfl rfl rfl (by omega) rfl Row.at0 (fun g3 e4 => ?_))
  subst e4
  refine go Try.tbs_ok 1000 ?_
  refine ev_need ⟨⟨(by repeat (first | exact trivial | refine ⟨rfl, ?_⟩)), rfl⟩, by kernel_rfl⟩ ?_
  have l5 : posF L x < (L).length := (by omega)
  refine ev_stop (tk_loadE Try.tbs_ok (.inr 1) (posF L x) 1 ⟨⟨(by repeat (first | exact trivial | refine ⟨rfl, ?_⟩)), rfl⟩, by kernel_rfl⟩ rfl rfl rfl rfl rfl (fun _ h => Row.rd h) (by omega) (fun _ => rfl) (by omega) l5 (by decide) ?_)
  refine go Try.tbs_ok 1000 ?_
  refine ev_need ⟨⟨(by repeat (first | exact trivial | refine ⟨rfl, ?_⟩)), rfl⟩, by kernel_rfl⟩ ?_
  refine ev_stop (tk_bin (.va _) trivial ⟨⟨(by repeat (first | exact trivial | refine ⟨rfl, ?_⟩)), rfl⟩, by kernel_rfl⟩ rfl rfl rfl rfl rfl rfl (by decide) (by decide) (fun w => cat_run (by omega) w) ?_)
  refine go Try.tbs_ok 1000 ?_
  refine ev_need ⟨⟨(by repeat (first | exact trivial | refine ⟨rfl, ?_⟩)), rfl⟩, by kernel_rfl⟩ ?_
  refine ev_stop (tk_atE (sz := 3) Try.tbs_ok (posF L x) ⟨⟨(by repeat (first | exact trivial | refine ⟨rfl, ?_⟩)), rfl⟩, by kernel_rfl⟩ rfl rfl rfl rfl rfl rfl rfl (by omega) ?_)
  refine go Try.tbs_ok 1000 ?_
  refine ev_need ⟨⟨(by repeat (first | exact trivial | refine ⟨rfl, ?_⟩)), rfl⟩, by kernel_rfl⟩ ?_
  have l6 : posF L x < (L).length := (by omega)
  refine ev_stop (go_storeR Try.tbs_ok 1 (posF L x) 1 ({ n := L[posF L x].n, d := L[posF L x].d ++ y, s := L[posF L x].s : Fl }) rfl rfl rfl rfl rfl (by omega) (fun _ => rfl) (ones_of rfl) (by omega) l6 rfl (by decide) (ones_of rfl) rfl ?_)
  refine go Try.tbs_ok 1000 ?_
  refine ev_need (by kernel_rfl) ?_
  refine ev_call (TF ) [0] [] (fun v0_ => [.box (r) 49 [.va (Value.int IntKind.i64 m), .va (Value.int IntKind.i64 s), .bl false, .va (Value.slice (some { block := g3, off := 0 : Addr }) n c), .bl true, .va (Value.int IntKind.i64 lf), .va (Value.slice B k d)]]) rfl rfl (by decide) rfl (by simp) (fun _ => rfl) (fun _ => (newsOk_box (by simp [SV.good, SV.goodL]) (newsOk_nil _))) (fun _ => (by repeat (first | exact trivial | refine ⟨rfl, ?_⟩))) (fun _ h7 => ?_)
  refine go Try.tbs_ok 1000 ?_
  refine ev_if_yes rfl ?_
  refine go Try.tbs_ok 1000 ?_
  refine ev_call (TX ) [0, 1] [.inr 2] (fun v0_ => [.box (r) 49 [.va (Value.int IntKind.i64 m), .va (Value.int IntKind.i64 s), .bl true, .va (Value.slice (some { block := g3, off := 0 : Addr }) n c), .bl false, .va (Value.int IntKind.i64 lf), .va (Value.slice B k d)], .fact (Row 82 3 (some { block := g3, off := 0 : Addr }) n c (List.flatMap encF (crashF (L.set (posF L x) { n := L[posF L x].n, d := L[posF L x].d ++ y, s := L[posF L x].s : Fl }) K)))]) rfl rfl (by decide) rfl (by simp) (fun _ => rfl) (fun _ => (newsOk_box (by simp [SV.good, SV.goodL]) (newsOk_fact (newsOk_nil _)))) (fun _ => (by repeat (first | exact trivial | refine ⟨rfl, ?_⟩))) (fun _ h8 => ?_)
  refine go Try.tbs_ok 1000 ?_
  refine ev_fin ⟨trivial, _, rfl, (()), rfl, (by trivial), Frm.sel [0, 1, 2] rfl (by decide)⟩
set_option maxHeartbeats 1000000 in
set_option maxRecDepth 100000 in
theorem rAppFS (r : Nat) (m s : Int) (A : Option Addr) (n c : Nat) (lf : Int) (B : Option Addr) (k d : Nat) (L : List Fl) (hn : n = L.length) (h1 : n ≤ 1000) (x y : ByteArray) (hs : riseF L) (ho : oddS x = false) (hb : sumD L ≤ 1000000000) (hm2 : m ≤ 1048576) (hy : (y.size : Int) ≤ m - sumD L) (hh : hasF L x = false) (h16 : n < 16) (hq : lf = 0) (K : List Int) (hk : k = K.length) (hL : okF (insF L ⟨x, y, 0⟩)) : Triple Try.prog 51 [.pointer (some ⟨r, 0, none⟩), .string x, .string y] [Pt r 49 [.int .i64 m, .int .i64 s, .bool false, .slice A n c, .bool true, .int .i64 lf, .slice B k d], Row 82 3 A n c (L.flatMap encF), Row 3 1 B k d (K.flatMap encN)] [] (Option Addr × Nat) (fun _ => .int .i64 41) (fun _ => True) (fun (C, e) => [Pt r 49 [.int .i64 m, .int .i64 s, .bool true, .slice C (n + 1) e, .bool false, .int .i64 lf, .slice B k d], Row 82 3 C (n + 1) e ((crashF (insF L ⟨x, y, 0⟩) K).flatMap encF), Row 3 1 B k d (K.flatMap encN)]) := by
  have TO := rName x
  rw [ho] at TO
  have T1 := rFind r m s false A n c true lf B k d L hn h1 x hs
  have TS := rSize r m s false A n c true lf B k d L hn h1 hb
  rw [show ixF L x = -1 from by unfold ixF; rw [hh]; rfl] at T1
  have hle : 0 ≤ (sumD L : Int) := Int.natCast_nonneg _
  have TP := rPut r m s false A n c true lf B k d L hn h1 ⟨x, ByteArray.empty, 0⟩ hs hh
  obtain ⟨J, hJ⟩ : ∃ J, J = insF L ⟨x, ByteArray.empty, 0⟩ := ⟨_, rfl⟩
  have hsJ : riseF J := by rw [hJ]; exact riseF_ins hs hh
  have hJl : n + 1 = J.length := by rw [hJ, insF_len, hn]
  have TG := fun A c => rFind r m s false A (n + 1) c true lf B k d J hJl (by omega) x hsJ
  have hJp : posF J x = posF L x := by rw [hJ]; exact posF_ins L hs ⟨x, ByteArray.empty, 0⟩
  obtain ⟨hq0, hq1⟩ := insF_at L ⟨x, ByteArray.empty, 0⟩
  have hpJ : posF L x < J.length := by rw [hJ]; exact hq0
  have hJe : J[posF L x]'hpJ = ⟨x, ByteArray.empty, 0⟩ := by simp only [hJ]; exact hq1
  have hsz : (J[posF L x]'hpJ).d.size + y.size ≤ 1000000000 := by
    rw [hJe]
    have : ByteArray.empty.size = 0 := rfl
    simp only [this]
    omega
  have e1 : J.set (posF L x) ⟨(J[posF L x]'hpJ).n, (J[posF L x]'hpJ).d ++ y, (J[posF L x]'hpJ).s⟩ = insF L ⟨x, y, 0⟩ := by
    rw [hJe, hJ]
    simp only [ByteArray.empty_append]
    exact insF_set L ⟨x, ByteArray.empty, 0⟩ ⟨x, y, 0⟩ rfl
  rw [show ixF J x = (posF L x : Nat) from by unfold ixF; rw [hJ, insF_has L ⟨x, ByteArray.empty, 0⟩, ← hJ, hJp]; rfl] at TG
  rw [← hJ] at TP
  have TF := fun A c => rFailsS r m s false A (n + 1) c lf B k d hq
  have TX := fun A c => (rCrash r m s A (n + 1) c true lf B k d (insF L ⟨x, y, 0⟩) (by rw [insF_len, hn]) (by omega) B k d K hk hL).reads (N' := [Row 3 1 B k d (K.flatMap encN)]) (fun X hX => ⟨_, List.mem_cons_self, fun _ q => by rw [List.mem_singleton.1 hX]; exact Row.rd q⟩)
  refine triple_intro Try.tbs_ok Try.func51 rfl [.pt 0 r 0, .va (.string x), .va (.string y)] [.box r 49 [.va (.int .i64 m), .va (.int .i64 s), .va (.bool false), .va (.slice A n c), .va (.bool true), .va (.int .i64 lf), .va (.slice B k d)], .fact (Row 82 3 A n c (L.flatMap encF)), .fact (Row 3 1 B k d (K.flatMap encN))] ⟨rfl, trivial, trivial, trivial⟩ rfl (by simp [SV.good, SV.goodL]) ?_
  intro E
  refine go Try.tbs_ok 1000 ?_
  refine ev_if_no rfl ?_
  refine go Try.tbs_ok 1000 ?_
  refine ev_callF (TO ) [] [] rfl rfl (by decide) rfl (by simp) (fun _ => (by repeat (first | exact trivial | refine ⟨rfl, ?_⟩))) (fun _ h0 => ?_)
  refine go Try.tbs_ok 1000 ?_
  refine ev_if_no rfl ?_
  refine go Try.tbs_ok 1000 ?_
  refine ev_call (T1 ) [0, 1] [] (fun v0_ => [.box (r) 49 [.va (Value.int IntKind.i64 m), .va (Value.int IntKind.i64 s), .bl false, .va (Value.slice A n c), .bl true, .va (Value.int IntKind.i64 lf), .va (Value.slice B k d)], .fact (Row 82 3 A n c (List.flatMap encF L))]) rfl rfl (by decide) rfl (by simp) (fun _ => rfl) (fun _ => (newsOk_box (by simp [SV.good, SV.goodL]) (newsOk_fact (newsOk_nil _)))) (fun _ => (by repeat (first | exact trivial | refine ⟨rfl, ?_⟩))) (fun _ h1 => ?_)
  refine go Try.tbs_ok 1000 ?_
  refine ev_stop (go_draw Try.tbs_ok true [0] [(0,true),(1,true),(2,true),(3,true),(4,true),(5,true),(6,true),(7,true),(8,true),(9,true),(10,true),(11,true),(12,true),(13,true),(14,true),(15,true),(16,true),(17,true),(18,false),(19,false),(20,false),(21,false)] rfl ?_)
  refine go Try.tbs_ok 1000 ?_
  refine ev_need ⟨⟨(by repeat (first | exact trivial | refine ⟨rfl, ?_⟩)), rfl⟩, by kernel_rfl⟩ ?_
  refine ev_if_yes rfl ?_
  refine go Try.tbs_ok 1000 ?_
  refine ev_need ⟨⟨(by repeat (first | exact trivial | refine ⟨rfl, ?_⟩)), rfl⟩, by kernel_rfl⟩ ?_
  refine ev_if_no (decide_eq_false (show ¬(↑n : Int) ≥ 16 from (by omega))) ?_
  refine go Try.tbs_ok 1000 ?_
  refine ev_need ⟨⟨(by repeat (first | exact trivial | refine ⟨rfl, ?_⟩)), rfl⟩, by kernel_rfl⟩ ?_
  refine ev_call (TS ) [0, 1] [] (fun v0_ => [.box (r) 49 [.va (Value.int IntKind.i64 m), .va (Value.int IntKind.i64 s), .bl false, .va (Value.slice A n c), .bl true, .va (Value.int IntKind.i64 lf), .va (Value.slice B k d)], .fact (Row 82 3 A n c (List.flatMap encF L))]) rfl rfl (by decide) rfl (by simp) (fun _ => rfl) (fun _ => (newsOk_box (by simp [SV.good, SV.goodL]) (newsOk_fact (newsOk_nil _)))) (fun _ => (by repeat (first | exact trivial | refine ⟨rfl, ?_⟩))) (fun _ h2 => ?_)
  refine go Try.tbs_ok 1000 ?_
  refine ev_need ⟨⟨(by repeat (first | exact trivial | refine ⟨rfl, ?_⟩)), rfl⟩, by kernel_rfl⟩ ?_
  refine ev_w64 (by constructor <;> omega) ?_
  refine ev_need ⟨⟨(by repeat (first | exact trivial | refine ⟨rfl, ?_⟩)), rfl⟩, by kernel_rfl⟩ ?_
  refine ev_need ⟨⟨(by repeat (first | exact trivial | refine ⟨rfl, ?_⟩)), rfl⟩, by kernel_rfl⟩ ?_
  refine ev_need ⟨⟨(by repeat (first | exact trivial | refine ⟨rfl, ?_⟩)), rfl⟩, by kernel_rfl⟩ ?_
  refine ev_if_no (decide_eq_false (show ¬(↑y.size : Int) > m - (↑(sumD L) : Int) from (by omega))) ?_
  refine go Try.tbs_ok 1000 ?_
  refine ev_if_yes rfl ?_
  refine go Try.tbs_ok 1000 ?_
  refine ev_call (TP ) [0, 1] [] (fun (v0_, v1_) => [.box (r) 49 [.va (Value.int IntKind.i64 m), .va (Value.int IntKind.i64 s), .bl false, .va (Value.slice v0_ (n + 1) v1_), .bl true, .va (Value.int IntKind.i64 lf), .va (Value.slice B k d)], .fact (Row 82 3 v0_ (n + 1) v1_ (List.flatMap encF J))]) rfl rfl (by decide) rfl (by simp) (fun _ => rfl) (fun _ => (newsOk_box (by simp [SV.good, SV.goodL]) (newsOk_fact (newsOk_nil _)))) (fun _ => (by repeat (first | exact trivial | refine ⟨rfl, ?_⟩))) (fun ⟨x3, x4⟩ h5 => ?_)
  refine go Try.tbs_ok 1000 ?_
  refine ev_call (TG (x3) (x4)) [0, 1] [] (fun v0_ => [.box (r) 49 [.va (Value.int IntKind.i64 m), .va (Value.int IntKind.i64 s), .bl false, .va (Value.slice x3 (n + 1) x4), .bl true, .va (Value.int IntKind.i64 lf), .va (Value.slice B k d)], .fact (Row 82 3 x3 (n + 1) x4 (List.flatMap encF J))]) rfl rfl (by decide) rfl (by simp) (fun _ => rfl) (fun _ => (newsOk_box (by simp [SV.good, SV.goodL]) (newsOk_fact (newsOk_nil _)))) (fun _ => (by repeat (first | exact trivial | refine ⟨rfl, ?_⟩))) (fun _ h6 => ?_)
  refine go Try.tbs_ok 1000 ?_
  refine ev_stop (go_draw Try.tbs_ok false [0, 1] [(0,true),(1,true),(2,true),(3,true),(4,true),(5,true),(6,true),(7,true),(8,true),(9,true),(10,true),(11,true),(12,true),(13,true),(14,true),(15,true),(16,true),(17,false)] rfl ?_)
  refine go Try.tbs_ok 1000 ?_
  refine ev_need ⟨⟨(by repeat (first | exact trivial | refine ⟨rfl, ?_⟩)), rfl⟩, by kernel_rfl⟩ ?_
  refine ev_stop (tk_index0 (sz := 3) Try.tbs_ok (.inr 1) (posF L x) ⟨⟨(by repeat (first | exact trivial | refine ⟨rfl, ?_⟩)), rfl⟩, by kernel_rfl⟩ rfl rfl rfl rfl rfl rfl rfl (by omega) rfl Row.at0 (fun g7 e8 => ?_))
  subst e8
  refine go Try.tbs_ok 1000 ?_
  refine ev_need ⟨⟨(by repeat (first | exact trivial | refine ⟨rfl, ?_⟩)), rfl⟩, by kernel_rfl⟩ ?_
  have l9 : posF L x < (J).length := (by omega)
  refine ev_stop (tk_loadE Try.tbs_ok (.inr 1) (posF L x) 1 ⟨⟨(by repeat (first | exact trivial | refine ⟨rfl, ?_⟩)), rfl⟩, by kernel_rfl⟩ rfl rfl rfl rfl rfl (fun _ h => Row.rd h) (by omega) (fun _ => rfl) (by omega) l9 (by decide) ?_)
  refine go Try.tbs_ok 1000 ?_
  refine ev_need ⟨⟨(by repeat (first | exact trivial | refine ⟨rfl, ?_⟩)), rfl⟩, by kernel_rfl⟩ ?_
  refine ev_stop (tk_bin (.va _) trivial ⟨⟨(by repeat (first | exact trivial | refine ⟨rfl, ?_⟩)), rfl⟩, by kernel_rfl⟩ rfl rfl rfl rfl rfl rfl (by decide) (by decide) (fun w => cat_run (by omega) w) ?_)
  refine go Try.tbs_ok 1000 ?_
  refine ev_need ⟨⟨(by repeat (first | exact trivial | refine ⟨rfl, ?_⟩)), rfl⟩, by kernel_rfl⟩ ?_
  refine ev_stop (tk_atE (sz := 3) Try.tbs_ok (posF L x) ⟨⟨(by repeat (first | exact trivial | refine ⟨rfl, ?_⟩)), rfl⟩, by kernel_rfl⟩ rfl rfl rfl rfl rfl rfl rfl (by omega) ?_)
  refine go Try.tbs_ok 1000 ?_
  refine ev_need ⟨⟨(by repeat (first | exact trivial | refine ⟨rfl, ?_⟩)), rfl⟩, by kernel_rfl⟩ ?_
  have l10 : posF L x < (J).length := (by omega)
  refine ev_stop (go_storeR Try.tbs_ok 1 (posF L x) 1 ({ n := J[posF L x].n, d := J[posF L x].d ++ y, s := J[posF L x].s : Fl }) rfl rfl rfl rfl rfl (by omega) (fun _ => rfl) (ones_of rfl) (by omega) l10 rfl (by decide) (ones_of rfl) rfl ?_)
  refine go Try.tbs_ok 1000 ?_
  refine ev_need (by kernel_rfl) ?_
  rw [e1]
  refine ev_call (TF (some { block := g7, off := 0 : Addr }) (x4)) [0] [] (fun v0_ => [.box (r) 49 [.va (Value.int IntKind.i64 m), .va (Value.int IntKind.i64 s), .bl false, .va (Value.slice (some { block := g7, off := 0 : Addr }) (n + 1) x4), .bl true, .va (Value.int IntKind.i64 lf), .va (Value.slice B k d)]]) rfl rfl (by decide) rfl (by simp) (fun _ => rfl) (fun _ => (newsOk_box (by simp [SV.good, SV.goodL]) (newsOk_nil _))) (fun _ => (by repeat (first | exact trivial | refine ⟨rfl, ?_⟩))) (fun _ h100 => ?_)
  refine go Try.tbs_ok 1000 ?_
  refine ev_if_yes rfl ?_
  refine go Try.tbs_ok 1000 ?_
  refine ev_call (TX (some { block := g7, off := 0 : Addr }) (x4)) [0, 1] [.inr 2] (fun v0_ => [.box (r) 49 [.va (Value.int IntKind.i64 m), .va (Value.int IntKind.i64 s), .bl true, .va (Value.slice (some { block := g7, off := 0 : Addr }) (n + 1) x4), .bl false, .va (Value.int IntKind.i64 lf), .va (Value.slice B k d)], .fact (Row 82 3 (some { block := g7, off := 0 : Addr }) (n + 1) x4 (List.flatMap encF (crashF (insF L { n := x, d := y, s := 0 : Fl }) K)))]) rfl rfl (by decide) rfl (by simp) (fun _ => rfl) (fun _ => (newsOk_box (by simp [SV.good, SV.goodL]) (newsOk_fact (newsOk_nil _)))) (fun _ => (by repeat (first | exact trivial | refine ⟨rfl, ?_⟩))) (fun _ h101 => ?_)
  refine go Try.tbs_ok 1000 ?_
  refine ev_fin ⟨trivial, _, rfl, ((some { block := g7, off := 0 : Addr }, x4)), rfl, (by trivial), Frm.sel [0, 1, 2] rfl (by decide)⟩
end Go.Proofs.Ythknokcgclcbmaa
namespace Go.Proofs.Ythknokcgclcbmaa
open Go.Sy
set_option maxRecDepth 100000 in
theorem rDownSync (r : Nat) (m s : Int) (A : Option Addr) (n c : Nat) (st : Bool) (lf : Int) (B : Option Addr) (k d : Nat) (x : ByteArray) : Triple Try.prog 44 [.pointer (some ⟨r, 0, none⟩), .string x] [Pt r 49 [.int .i64 m, .int .i64 s, .bool true, .slice A n c, .bool st, .int .i64 lf, .slice B k d]] [] Unit (fun _ => .int .i64 41) (fun _ => True) (fun _ => [Pt r 49 [.int .i64 m, .int .i64 s, .bool true, .slice A n c, .bool st, .int .i64 lf, .slice B k d]]) := by
  have TT := rThereDown r m s A n c st lf B k d x
  refine triple_intro Try.tbs_ok Try.func44 rfl [.pt 0 r 0, .va (.string x)] [.box r 49 [.va (.int .i64 m), .va (.int .i64 s), .va (.bool true), .va (.slice A n c), .va (.bool st), .va (.int .i64 lf), .va (.slice B k d)]] ⟨rfl, trivial, trivial⟩ rfl (by simp [SV.good, SV.goodL]) ?_
  intro E
  refine go Try.tbs_ok 1000 ?_
  refine ev_call (TT ) [0] [] (fun v0_ => [.box (r) 49 [.va (Value.int IntKind.i64 m), .va (Value.int IntKind.i64 s), .bl true, .va (Value.slice A n c), .bq (st), .va (Value.int IntKind.i64 lf), .va (Value.slice B k d)]]) rfl rfl (by decide) rfl (by simp) (fun _ => rfl) (fun _ => (newsOk_box (by simp [SV.good, SV.goodL]) (newsOk_nil _))) (fun _ => (by repeat (first | exact trivial | refine ⟨rfl, ?_⟩))) (fun _ h0 => ?_)
  refine go Try.tbs_ok 1000 ?_
  refine ev_if_no rfl ?_
  refine go Try.tbs_ok 1000 ?_
  refine ev_if_no rfl ?_
  refine go Try.tbs_ok 1000 ?_
  refine ev_fin ⟨trivial, _, rfl, (()), rfl, (by trivial), Frm.sel [0] rfl (by decide)⟩
set_option maxRecDepth 100000 in
theorem rGoneSync (r : Nat) (m s : Int) (A : Option Addr) (n c : Nat) (st : Bool) (lf : Int) (B : Option Addr) (k d : Nat) (L : List Fl) (hn : n = L.length) (h1 : n ≤ 1000) (x : ByteArray) (hs : riseF L) (hh : hasF L x = false) : Triple Try.prog 44 [.pointer (some ⟨r, 0, none⟩), .string x] [Pt r 49 [.int .i64 m, .int .i64 s, .bool false, .slice A n c, .bool st, .int .i64 lf, .slice B k d], Row 82 3 A n c (L.flatMap encF)] [] Unit (fun _ => .int .i64 4) (fun _ => True) (fun _ => [Pt r 49 [.int .i64 m, .int .i64 s, .bool false, .slice A n c, .bool st, .int .i64 lf, .slice B k d], Row 82 3 A n c (L.flatMap encF)]) := by
  have TT := rThereNo r m s A n c st lf B k d L hn h1 x hs hh
  refine triple_intro Try.tbs_ok Try.func44 rfl [.pt 0 r 0, .va (.string x)] [.box r 49 [.va (.int .i64 m), .va (.int .i64 s), .va (.bool false), .va (.slice A n c), .va (.bool st), .va (.int .i64 lf), .va (.slice B k d)], .fact (Row 82 3 A n c (L.flatMap encF))] ⟨rfl, trivial, trivial⟩ rfl (by simp [SV.good, SV.goodL]) ?_
  intro E
  refine go Try.tbs_ok 1000 ?_
  refine ev_call (TT ) [0, 1] [] (fun v0_ => [.box (r) 49 [.va (Value.int IntKind.i64 m), .va (Value.int IntKind.i64 s), .bl false, .va (Value.slice A n c), .bq (st), .va (Value.int IntKind.i64 lf), .va (Value.slice B k d)], .fact (Row 82 3 A n c (List.flatMap encF L))]) rfl rfl (by decide) rfl (by simp) (fun _ => rfl) (fun _ => (newsOk_box (by simp [SV.good, SV.goodL]) (newsOk_fact (newsOk_nil _)))) (fun _ => (by repeat (first | exact trivial | refine ⟨rfl, ?_⟩))) (fun _ h0 => ?_)
  refine go Try.tbs_ok 1000 ?_
  refine ev_if_no rfl ?_
  refine go Try.tbs_ok 1000 ?_
  refine ev_if_no rfl ?_
  refine go Try.tbs_ok 1000 ?_
  refine ev_fin ⟨trivial, _, rfl, (()), rfl, (by trivial), Frm.sel [0, 1] rfl (by decide)⟩
set_option maxRecDepth 100000 in
theorem rDownTruncate (r : Nat) (m s : Int) (A : Option Addr) (n c : Nat) (st : Bool) (lf : Int) (B : Option Addr) (k d : Nat) (x : ByteArray) (z : Int) : Triple Try.prog 45 [.pointer (some ⟨r, 0, none⟩), .string x, .int .i64 z] [Pt r 49 [.int .i64 m, .int .i64 s, .bool true, .slice A n c, .bool st, .int .i64 lf, .slice B k d]] [] Unit (fun _ => .int .i64 41) (fun _ => True) (fun _ => [Pt r 49 [.int .i64 m, .int .i64 s, .bool true, .slice A n c, .bool st, .int .i64 lf, .slice B k d]]) := by
  have TT := rThereDown r m s A n c st lf B k d x
  refine triple_intro Try.tbs_ok Try.func45 rfl [.pt 0 r 0, .va (.string x), .va (.int .i64 z)] [.box r 49 [.va (.int .i64 m), .va (.int .i64 s), .va (.bool true), .va (.slice A n c), .va (.bool st), .va (.int .i64 lf), .va (.slice B k d)]] ⟨rfl, trivial, trivial, trivial⟩ rfl (by simp [SV.good, SV.goodL]) ?_
  intro E
  refine go Try.tbs_ok 1000 ?_
  refine ev_call (TT ) [0] [] (fun v0_ => [.box (r) 49 [.va (Value.int IntKind.i64 m), .va (Value.int IntKind.i64 s), .bl true, .va (Value.slice A n c), .bq (st), .va (Value.int IntKind.i64 lf), .va (Value.slice B k d)]]) rfl rfl (by decide) rfl (by simp) (fun _ => rfl) (fun _ => (newsOk_box (by simp [SV.good, SV.goodL]) (newsOk_nil _))) (fun _ => (by repeat (first | exact trivial | refine ⟨rfl, ?_⟩))) (fun _ h0 => ?_)
  refine go Try.tbs_ok 1000 ?_
  refine ev_if_yes rfl ?_
  refine go Try.tbs_ok 1000 ?_
  refine ev_fin ⟨trivial, _, rfl, (()), rfl, (by trivial), Frm.sel [0] rfl (by decide)⟩
set_option maxRecDepth 100000 in
theorem rGoneTruncate (r : Nat) (m s : Int) (A : Option Addr) (n c : Nat) (st : Bool) (lf : Int) (B : Option Addr) (k d : Nat) (L : List Fl) (hn : n = L.length) (h1 : n ≤ 1000) (x : ByteArray) (z : Int) (hs : riseF L) (hh : hasF L x = false) : Triple Try.prog 45 [.pointer (some ⟨r, 0, none⟩), .string x, .int .i64 z] [Pt r 49 [.int .i64 m, .int .i64 s, .bool false, .slice A n c, .bool st, .int .i64 lf, .slice B k d], Row 82 3 A n c (L.flatMap encF)] [] Unit (fun _ => .int .i64 4) (fun _ => True) (fun _ => [Pt r 49 [.int .i64 m, .int .i64 s, .bool false, .slice A n c, .bool st, .int .i64 lf, .slice B k d], Row 82 3 A n c (L.flatMap encF)]) := by
  have TT := rThereNo r m s A n c st lf B k d L hn h1 x hs hh
  refine triple_intro Try.tbs_ok Try.func45 rfl [.pt 0 r 0, .va (.string x), .va (.int .i64 z)] [.box r 49 [.va (.int .i64 m), .va (.int .i64 s), .va (.bool false), .va (.slice A n c), .va (.bool st), .va (.int .i64 lf), .va (.slice B k d)], .fact (Row 82 3 A n c (L.flatMap encF))] ⟨rfl, trivial, trivial, trivial⟩ rfl (by simp [SV.good, SV.goodL]) ?_
  intro E
  refine go Try.tbs_ok 1000 ?_
  refine ev_call (TT ) [0, 1] [] (fun v0_ => [.box (r) 49 [.va (Value.int IntKind.i64 m), .va (Value.int IntKind.i64 s), .bl false, .va (Value.slice A n c), .bq (st), .va (Value.int IntKind.i64 lf), .va (Value.slice B k d)], .fact (Row 82 3 A n c (List.flatMap encF L))]) rfl rfl (by decide) rfl (by simp) (fun _ => rfl) (fun _ => (newsOk_box (by simp [SV.good, SV.goodL]) (newsOk_fact (newsOk_nil _)))) (fun _ => (by repeat (first | exact trivial | refine ⟨rfl, ?_⟩))) (fun _ h0 => ?_)
  refine go Try.tbs_ok 1000 ?_
  refine ev_if_yes rfl ?_
  refine go Try.tbs_ok 1000 ?_
  refine ev_fin ⟨trivial, _, rfl, (()), rfl, (by trivial), Frm.sel [0, 1] rfl (by decide)⟩
set_option maxRecDepth 100000 in
theorem rDownRename (r : Nat) (m s : Int) (A : Option Addr) (n c : Nat) (st : Bool) (lf : Int) (B : Option Addr) (k d : Nat) (x y : ByteArray) : Triple Try.prog 46 [.pointer (some ⟨r, 0, none⟩), .string x, .string y] [Pt r 49 [.int .i64 m, .int .i64 s, .bool true, .slice A n c, .bool st, .int .i64 lf, .slice B k d]] [] Unit (fun _ => .int .i64 41) (fun _ => True) (fun _ => [Pt r 49 [.int .i64 m, .int .i64 s, .bool true, .slice A n c, .bool st, .int .i64 lf, .slice B k d]]) := by
  have TT := rThereDown r m s A n c st lf B k d x
  refine triple_intro Try.tbs_ok Try.func46 rfl [.pt 0 r 0, .va (.string x), .va (.string y)] [.box r 49 [.va (.int .i64 m), .va (.int .i64 s), .va (.bool true), .va (.slice A n c), .va (.bool st), .va (.int .i64 lf), .va (.slice B k d)]] ⟨rfl, trivial, trivial, trivial⟩ rfl (by simp [SV.good, SV.goodL]) ?_
  intro E
  refine go Try.tbs_ok 1000 ?_
  refine ev_call (TT ) [0] [] (fun v0_ => [.box (r) 49 [.va (Value.int IntKind.i64 m), .va (Value.int IntKind.i64 s), .bl true, .va (Value.slice A n c), .bq (st), .va (Value.int IntKind.i64 lf), .va (Value.slice B k d)]]) rfl rfl (by decide) rfl (by simp) (fun _ => rfl) (fun _ => (newsOk_box (by simp [SV.good, SV.goodL]) (newsOk_nil _))) (fun _ => (by repeat (first | exact trivial | refine ⟨rfl, ?_⟩))) (fun _ h0 => ?_)
  refine go Try.tbs_ok 1000 ?_
  refine ev_if_yes rfl ?_
  refine go Try.tbs_ok 1000 ?_
  refine ev_fin ⟨trivial, _, rfl, (()), rfl, (by trivial), Frm.sel [0] rfl (by decide)⟩
set_option maxRecDepth 100000 in
theorem rGoneRename (r : Nat) (m s : Int) (A : Option Addr) (n c : Nat) (st : Bool) (lf : Int) (B : Option Addr) (k d : Nat) (L : List Fl) (hn : n = L.length) (h1 : n ≤ 1000) (x y : ByteArray) (hs : riseF L) (hh : hasF L x = false) : Triple Try.prog 46 [.pointer (some ⟨r, 0, none⟩), .string x, .string y] [Pt r 49 [.int .i64 m, .int .i64 s, .bool false, .slice A n c, .bool st, .int .i64 lf, .slice B k d], Row 82 3 A n c (L.flatMap encF)] [] Unit (fun _ => .int .i64 4) (fun _ => True) (fun _ => [Pt r 49 [.int .i64 m, .int .i64 s, .bool false, .slice A n c, .bool st, .int .i64 lf, .slice B k d], Row 82 3 A n c (L.flatMap encF)]) := by
  have TT := rThereNo r m s A n c st lf B k d L hn h1 x hs hh
  refine triple_intro Try.tbs_ok Try.func46 rfl [.pt 0 r 0, .va (.string x), .va (.string y)] [.box r 49 [.va (.int .i64 m), .va (.int .i64 s), .va (.bool false), .va (.slice A n c), .va (.bool st), .va (.int .i64 lf), .va (.slice B k d)], .fact (Row 82 3 A n c (L.flatMap encF))] ⟨rfl, trivial, trivial, trivial⟩ rfl (by simp [SV.good, SV.goodL]) ?_
  intro E
  refine go Try.tbs_ok 1000 ?_
  refine ev_call (TT ) [0, 1] [] (fun v0_ => [.box (r) 49 [.va (Value.int IntKind.i64 m), .va (Value.int IntKind.i64 s), .bl false, .va (Value.slice A n c), .bq (st), .va (Value.int IntKind.i64 lf), .va (Value.slice B k d)], .fact (Row 82 3 A n c (List.flatMap encF L))]) rfl rfl (by decide) rfl (by simp) (fun _ => rfl) (fun _ => (newsOk_box (by simp [SV.good, SV.goodL]) (newsOk_fact (newsOk_nil _)))) (fun _ => (by repeat (first | exact trivial | refine ⟨rfl, ?_⟩))) (fun _ h0 => ?_)
  refine go Try.tbs_ok 1000 ?_
  refine ev_if_yes rfl ?_
  refine go Try.tbs_ok 1000 ?_
  refine ev_fin ⟨trivial, _, rfl, (()), rfl, (by trivial), Frm.sel [0, 1] rfl (by decide)⟩
set_option maxRecDepth 100000 in
theorem rDownRemove (r : Nat) (m s : Int) (A : Option Addr) (n c : Nat) (st : Bool) (lf : Int) (B : Option Addr) (k d : Nat) (x : ByteArray) : Triple Try.prog 47 [.pointer (some ⟨r, 0, none⟩), .string x] [Pt r 49 [.int .i64 m, .int .i64 s, .bool true, .slice A n c, .bool st, .int .i64 lf, .slice B k d]] [] Unit (fun _ => .int .i64 41) (fun _ => True) (fun _ => [Pt r 49 [.int .i64 m, .int .i64 s, .bool true, .slice A n c, .bool st, .int .i64 lf, .slice B k d]]) := by
  have TT := rThereDown r m s A n c st lf B k d x
  refine triple_intro Try.tbs_ok Try.func47 rfl [.pt 0 r 0, .va (.string x)] [.box r 49 [.va (.int .i64 m), .va (.int .i64 s), .va (.bool true), .va (.slice A n c), .va (.bool st), .va (.int .i64 lf), .va (.slice B k d)]] ⟨rfl, trivial, trivial⟩ rfl (by simp [SV.good, SV.goodL]) ?_
  intro E
  refine go Try.tbs_ok 1000 ?_
  refine ev_call (TT ) [0] [] (fun v0_ => [.box (r) 49 [.va (Value.int IntKind.i64 m), .va (Value.int IntKind.i64 s), .bl true, .va (Value.slice A n c), .bq (st), .va (Value.int IntKind.i64 lf), .va (Value.slice B k d)]]) rfl rfl (by decide) rfl (by simp) (fun _ => rfl) (fun _ => (newsOk_box (by simp [SV.good, SV.goodL]) (newsOk_nil _))) (fun _ => (by repeat (first | exact trivial | refine ⟨rfl, ?_⟩))) (fun _ h0 => ?_)
  refine go Try.tbs_ok 1000 ?_
  refine ev_if_no rfl ?_
  refine go Try.tbs_ok 1000 ?_
  refine ev_if_no rfl ?_
  refine go Try.tbs_ok 1000 ?_
  refine ev_fin ⟨trivial, _, rfl, (()), rfl, (by trivial), Frm.sel [0] rfl (by decide)⟩
set_option maxRecDepth 100000 in
theorem rGoneRemove (r : Nat) (m s : Int) (A : Option Addr) (n c : Nat) (st : Bool) (lf : Int) (B : Option Addr) (k d : Nat) (L : List Fl) (hn : n = L.length) (h1 : n ≤ 1000) (x : ByteArray) (hs : riseF L) (hh : hasF L x = false) : Triple Try.prog 47 [.pointer (some ⟨r, 0, none⟩), .string x] [Pt r 49 [.int .i64 m, .int .i64 s, .bool false, .slice A n c, .bool st, .int .i64 lf, .slice B k d], Row 82 3 A n c (L.flatMap encF)] [] Unit (fun _ => .int .i64 4) (fun _ => True) (fun _ => [Pt r 49 [.int .i64 m, .int .i64 s, .bool false, .slice A n c, .bool st, .int .i64 lf, .slice B k d], Row 82 3 A n c (L.flatMap encF)]) := by
  have TT := rThereNo r m s A n c st lf B k d L hn h1 x hs hh
  refine triple_intro Try.tbs_ok Try.func47 rfl [.pt 0 r 0, .va (.string x)] [.box r 49 [.va (.int .i64 m), .va (.int .i64 s), .va (.bool false), .va (.slice A n c), .va (.bool st), .va (.int .i64 lf), .va (.slice B k d)], .fact (Row 82 3 A n c (L.flatMap encF))] ⟨rfl, trivial, trivial⟩ rfl (by simp [SV.good, SV.goodL]) ?_
  intro E
  refine go Try.tbs_ok 1000 ?_
  refine ev_call (TT ) [0, 1] [] (fun v0_ => [.box (r) 49 [.va (Value.int IntKind.i64 m), .va (Value.int IntKind.i64 s), .bl false, .va (Value.slice A n c), .bq (st), .va (Value.int IntKind.i64 lf), .va (Value.slice B k d)], .fact (Row 82 3 A n c (List.flatMap encF L))]) rfl rfl (by decide) rfl (by simp) (fun _ => rfl) (fun _ => (newsOk_box (by simp [SV.good, SV.goodL]) (newsOk_fact (newsOk_nil _)))) (fun _ => (by repeat (first | exact trivial | refine ⟨rfl, ?_⟩))) (fun _ h0 => ?_)
  refine go Try.tbs_ok 1000 ?_
  refine ev_if_no rfl ?_
  refine go Try.tbs_ok 1000 ?_
  refine ev_if_no rfl ?_
  refine go Try.tbs_ok 1000 ?_
  refine ev_fin ⟨trivial, _, rfl, (()), rfl, (by trivial), Frm.sel [0, 1] rfl (by decide)⟩
set_option maxRecDepth 100000 in
theorem rTruncArg (r : Nat) (m s : Int) (A : Option Addr) (n c : Nat) (st : Bool) (lf : Int) (B : Option Addr) (k d : Nat) (L : List Fl) (hn : n = L.length) (h1 : n ≤ 1000) (x : ByteArray) (z : Int) (hs : riseF L) (hh : hasF L x = true) (hi : posF L x < L.length) (hz : z < 0 ∨ (((L[posF L x]'hi).d.size : Nat) : Int) < z) : Triple Try.prog 45 [.pointer (some ⟨r, 0, none⟩), .string x, .int .i64 z] [Pt r 49 [.int .i64 m, .int .i64 s, .bool false, .slice A n c, .bool st, .int .i64 lf, .slice B k d], Row 82 3 A n c (L.flatMap encF)] [] Unit (fun _ => .int .i64 2) (fun _ => True) (fun _ => [Pt r 49 [.int .i64 m, .int .i64 s, .bool false, .slice A n c, .bool st, .int .i64 lf, .slice B k d], Row 82 3 A n c (L.flatMap encF)]) := by
  have TT := rThereOk r m s A n c st lf B k d L hn h1 x hs hh
  refine triple_intro Try.tbs_ok Try.func45 rfl [.pt 0 r 0, .va (.string x), .va (.int .i64 z)] [.box r 49 [.va (.int .i64 m), .va (.int .i64 s), .va (.bool false), .va (.slice A n c), .va (.bool st), .va (.int .i64 lf), .va (.slice B k d)], .fact (Row 82 3 A n c (L.flatMap encF))] ⟨rfl, trivial, trivial, trivial⟩ rfl (by simp [SV.good, SV.goodL]) ?_
  intro E
  refine go Try.tbs_ok 1000 ?_
  refine ev_call (TT ) [0, 1] [] (fun v0_ => [.box (r) 49 [.va (Value.int IntKind.i64 m), .va (Value.int IntKind.i64 s), .bl false, .va (Value.slice A n c), .bq (st), .va (Value.int IntKind.i64 lf), .va (Value.slice B k d)], .fact (Row 82 3 A n c (List.flatMap encF L))]) rfl rfl (by decide) rfl (by simp) (fun _ => rfl) (fun _ => (newsOk_box (by simp [SV.good, SV.goodL]) (newsOk_fact (newsOk_nil _)))) (fun _ => (by repeat (first | exact trivial | refine ⟨rfl, ?_⟩))) (fun _ h0 => ?_)
  refine go Try.tbs_ok 1000 ?_
  refine ev_if_no rfl ?_
  refine go Try.tbs_ok 1000 ?_
  refine ev_if_lt (fun h1 => ?_) (fun h1 => ?_)
  refine go Try.tbs_ok 1000 ?_
  refine ev_fin ⟨trivial, _, rfl, (()), rfl, (by trivial), Frm.sel [0, 1] rfl (by decide)⟩
  refine go Try.tbs_ok 1000 ?_
  refine ev_stop (go_index0 (sz := 3) Try.tbs_ok (.inr 1) (posF L x) rfl rfl rfl rfl rfl rfl (by omega) rfl Row.at0 (fun g2 e3 => ?_))
  subst e3
  refine go Try.tbs_ok 1000 ?_
  have l4 : posF L x < (L).length := (by omega)
  refine ev_stop (go_loadE Try.tbs_ok (.inr 1) (posF L x) 1 rfl rfl rfl rfl (fun _ h => Row.rd h) (by omega) (fun _ => rfl) (by omega) l4 (by decide) ?_)
  refine go Try.tbs_ok 1000 ?_
  refine ev_if_yes (decide_eq_true (show z > (↑L[posF L x].d.size : Int) from (by omega))) ?_
  refine go Try.tbs_ok 1000 ?_
  refine ev_fin ⟨trivial, _, rfl, (()), rfl, (by trivial), Frm.sel [0, 1] rfl (by decide)⟩
set_option maxRecDepth 100000 in
theorem rRenArg (r : Nat) (m s : Int) (A : Option Addr) (n c : Nat) (st : Bool) (lf : Int) (B : Option Addr) (k d : Nat) (L : List Fl) (hn : n = L.length) (h1 : n ≤ 1000) (x y : ByteArray) (hs : riseF L) (hh : hasF L x = true) (ho : oddS y = true) : Triple Try.prog 46 [.pointer (some ⟨r, 0, none⟩), .string x, .string y] [Pt r 49 [.int .i64 m, .int .i64 s, .bool false, .slice A n c, .bool st, .int .i64 lf, .slice B k d], Row 82 3 A n c (L.flatMap encF)] [] Unit (fun _ => .int .i64 2) (fun _ => True) (fun _ => [Pt r 49 [.int .i64 m, .int .i64 s, .bool false, .slice A n c, .bool st, .int .i64 lf, .slice B k d], Row 82 3 A n c (L.flatMap encF)]) := by
  have TT := rThereOk r m s A n c st lf B k d L hn h1 x hs hh
  have TO := rName y
  rw [ho] at TO
  refine triple_intro Try.tbs_ok Try.func46 rfl [.pt 0 r 0, .va (.string x), .va (.string y)] [.box r 49 [.va (.int .i64 m), .va (.int .i64 s), .va (.bool false), .va (.slice A n c), .va (.bool st), .va (.int .i64 lf), .va (.slice B k d)], .fact (Row 82 3 A n c (L.flatMap encF))] ⟨rfl, trivial, trivial, trivial⟩ rfl (by simp [SV.good, SV.goodL]) ?_
  intro E
  refine go Try.tbs_ok 1000 ?_
  refine ev_call (TT ) [0, 1] [] (fun v0_ => [.box (r) 49 [.va (Value.int IntKind.i64 m), .va (Value.int IntKind.i64 s), .bl false, .va (Value.slice A n c), .bq (st), .va (Value.int IntKind.i64 lf), .va (Value.slice B k d)], .fact (Row 82 3 A n c (List.flatMap encF L))]) rfl rfl (by decide) rfl (by simp) (fun _ => rfl) (fun _ => (newsOk_box (by simp [SV.good, SV.goodL]) (newsOk_fact (newsOk_nil _)))) (fun _ => (by repeat (first | exact trivial | refine ⟨rfl, ?_⟩))) (fun _ h0 => ?_)
  refine go Try.tbs_ok 1000 ?_
  refine ev_if_no rfl ?_
  refine go Try.tbs_ok 1000 ?_
  refine ev_callF (TO ) [] [] rfl rfl (by decide) rfl (by simp) (fun _ => (by repeat (first | exact trivial | refine ⟨rfl, ?_⟩))) (fun _ h1 => ?_)
  refine go Try.tbs_ok 1000 ?_
  refine ev_if_yes rfl ?_
  refine go Try.tbs_ok 1000 ?_
  refine ev_fin ⟨trivial, _, rfl, (()), rfl, (by trivial), Frm.sel [0, 1] rfl (by decide)⟩
set_option maxRecDepth 100000 in
theorem rReadDown (r : Nat) (m s : Int) (A : Option Addr) (n c : Nat) (st : Bool) (lf : Int) (B : Option Addr) (k d : Nat) (x : ByteArray) : Triple Try.prog 21 [.pointer (some ⟨r, 0, none⟩), .string x] [Pt r 49 [.int .i64 m, .int .i64 s, .bool true, .slice A n c, .bool st, .int .i64 lf, .slice B k d]] [] Unit (fun _ => .tuple #[.string .empty, .int .i64 41]) (fun _ => True) (fun _ => [Pt r 49 [.int .i64 m, .int .i64 s, .bool true, .slice A n c, .bool st, .int .i64 lf, .slice B k d]]) := by
  have TT := rThereDown r m s A n c st lf B k d x
  refine triple_intro Try.tbs_ok Try.func21 rfl [.pt 0 r 0, .va (.string x)] [.box r 49 [.va (.int .i64 m), .va (.int .i64 s), .va (.bool true), .va (.slice A n c), .va (.bool st), .va (.int .i64 lf), .va (.slice B k d)]] ⟨rfl, trivial, trivial⟩ rfl (by simp [SV.good, SV.goodL]) ?_
  intro E
  refine go Try.tbs_ok 1000 ?_
  refine ev_call (TT ) [0] [] (fun v0_ => [.box (r) 49 [.va (Value.int IntKind.i64 m), .va (Value.int IntKind.i64 s), .bl true, .va (Value.slice A n c), .bq (st), .va (Value.int IntKind.i64 lf), .va (Value.slice B k d)]]) rfl rfl (by decide) rfl (by simp) (fun _ => rfl) (fun _ => (newsOk_box (by simp [SV.good, SV.goodL]) (newsOk_nil _))) (fun _ => (by repeat (first | exact trivial | refine ⟨rfl, ?_⟩))) (fun _ h0 => ?_)
  refine go Try.tbs_ok 1000 ?_
  refine ev_if_yes rfl ?_
  refine go Try.tbs_ok 1000 ?_
  refine ev_fin ⟨trivial, _, rfl, (()), rfl, (by trivial), Frm.sel [0] rfl (by decide)⟩
set_option maxRecDepth 100000 in
theorem rReadGone (r : Nat) (m s : Int) (A : Option Addr) (n c : Nat) (st : Bool) (lf : Int) (B : Option Addr) (k d : Nat) (L : List Fl) (hn : n = L.length) (h1 : n ≤ 1000) (x : ByteArray) (hs : riseF L) (hh : hasF L x = false) : Triple Try.prog 21 [.pointer (some ⟨r, 0, none⟩), .string x] [Pt r 49 [.int .i64 m, .int .i64 s, .bool false, .slice A n c, .bool st, .int .i64 lf, .slice B k d], Row 82 3 A n c (L.flatMap encF)] [] Unit (fun _ => .tuple #[.string .empty, .int .i64 4]) (fun _ => True) (fun _ => [Pt r 49 [.int .i64 m, .int .i64 s, .bool false, .slice A n c, .bool st, .int .i64 lf, .slice B k d], Row 82 3 A n c (L.flatMap encF)]) := by
  have TT := rThereNo r m s A n c st lf B k d L hn h1 x hs hh
  refine triple_intro Try.tbs_ok Try.func21 rfl [.pt 0 r 0, .va (.string x)] [.box r 49 [.va (.int .i64 m), .va (.int .i64 s), .va (.bool false), .va (.slice A n c), .va (.bool st), .va (.int .i64 lf), .va (.slice B k d)], .fact (Row 82 3 A n c (L.flatMap encF))] ⟨rfl, trivial, trivial⟩ rfl (by simp [SV.good, SV.goodL]) ?_
  intro E
  refine go Try.tbs_ok 1000 ?_
  refine ev_call (TT ) [0, 1] [] (fun v0_ => [.box (r) 49 [.va (Value.int IntKind.i64 m), .va (Value.int IntKind.i64 s), .bl false, .va (Value.slice A n c), .bq (st), .va (Value.int IntKind.i64 lf), .va (Value.slice B k d)], .fact (Row 82 3 A n c (List.flatMap encF L))]) rfl rfl (by decide) rfl (by simp) (fun _ => rfl) (fun _ => (newsOk_box (by simp [SV.good, SV.goodL]) (newsOk_fact (newsOk_nil _)))) (fun _ => (by repeat (first | exact trivial | refine ⟨rfl, ?_⟩))) (fun _ h0 => ?_)
  refine go Try.tbs_ok 1000 ?_
  refine ev_if_yes rfl ?_
  refine go Try.tbs_ok 1000 ?_
  refine ev_fin ⟨trivial, _, rfl, (()), rfl, (by trivial), Frm.sel [0, 1] rfl (by decide)⟩
set_option maxRecDepth 100000 in
theorem rRead (r : Nat) (m s : Int) (A : Option Addr) (n c : Nat) (st : Bool) (lf : Int) (B : Option Addr) (k d : Nat) (L : List Fl) (hn : n = L.length) (h1 : n ≤ 1000) (x : ByteArray) (hs : riseF L) (hh : hasF L x = true) (hi : posF L x < L.length) : Triple Try.prog 21 [.pointer (some ⟨r, 0, none⟩), .string x] [Pt r 49 [.int .i64 m, .int .i64 s, .bool false, .slice A n c, .bool st, .int .i64 lf, .slice B k d], Row 82 3 A n c (L.flatMap encF)] [] Unit (fun _ => .tuple #[.string (L[posF L x]'hi).d, .int .i64 0]) (fun _ => True) (fun _ => [Pt r 49 [.int .i64 m, .int .i64 s, .bool false, .slice A n c, .bool st, .int .i64 lf, .slice B k d], Row 82 3 A n c (L.flatMap encF)]) := by
  have TT := rThereOk r m s A n c st lf B k d L hn h1 x hs hh
  refine triple_intro Try.tbs_ok Try.func21 rfl [.pt 0 r 0, .va (.string x)] [.box r 49 [.va (.int .i64 m), .va (.int .i64 s), .va (.bool false), .va (.slice A n c), .va (.bool st), .va (.int .i64 lf), .va (.slice B k d)], .fact (Row 82 3 A n c (L.flatMap encF))] ⟨rfl, trivial, trivial⟩ rfl (by simp [SV.good, SV.goodL]) ?_
  intro E
  refine go Try.tbs_ok 1000 ?_
  refine ev_call (TT ) [0, 1] [] (fun v0_ => [.box (r) 49 [.va (Value.int IntKind.i64 m), .va (Value.int IntKind.i64 s), .bl false, .va (Value.slice A n c), .bq (st), .va (Value.int IntKind.i64 lf), .va (Value.slice B k d)], .fact (Row 82 3 A n c (List.flatMap encF L))]) rfl rfl (by decide) rfl (by simp) (fun _ => rfl) (fun _ => (newsOk_box (by simp [SV.good, SV.goodL]) (newsOk_fact (newsOk_nil _)))) (fun _ => (by repeat (first | exact trivial | refine ⟨rfl, ?_⟩))) (fun _ h0 => ?_)
  refine go Try.tbs_ok 1000 ?_
  refine ev_if_no rfl ?_
  refine go Try.tbs_ok 1000 ?_
  refine ev_stop (go_index0 (sz := 3) Try.tbs_ok (.inr 1) (posF L x) rfl rfl rfl rfl rfl rfl (by omega) rfl Row.at0 (fun g1 e2 => ?_))
  subst e2
  refine go Try.tbs_ok 1000 ?_
  have l3 : posF L x < (L).length := (by omega)
  refine ev_stop (go_loadE Try.tbs_ok (.inr 1) (posF L x) 1 rfl rfl rfl rfl (fun _ h => Row.rd h) (by omega) (fun _ => rfl) (by omega) l3 (by decide) ?_)
  refine go Try.tbs_ok 1000 ?_
  refine ev_fin ⟨trivial, _, rfl, (()), rfl, (by trivial), Frm.sel [0, 1] rfl (by decide)⟩
set_option maxRecDepth 100000 in
theorem rAppDown (r : Nat) (m s : Int) (A : Option Addr) (n c : Nat) (st : Bool) (lf : Int) (B : Option Addr) (k d : Nat) (x y : ByteArray) : Triple Try.prog 51 [.pointer (some ⟨r, 0, none⟩), .string x, .string y] [Pt r 49 [.int .i64 m, .int .i64 s, .bool true, .slice A n c, .bool st, .int .i64 lf, .slice B k d]] [] Unit (fun _ => .int .i64 41) (fun _ => True) (fun _ => [Pt r 49 [.int .i64 m, .int .i64 s, .bool true, .slice A n c, .bool st, .int .i64 lf, .slice B k d]]) := by
  refine triple_intro Try.tbs_ok Try.func51 rfl [.pt 0 r 0, .va (.string x), .va (.string y)] [.box r 49 [.va (.int .i64 m), .va (.int .i64 s), .va (.bool true), .va (.slice A n c), .va (.bool st), .va (.int .i64 lf), .va (.slice B k d)]] ⟨rfl, trivial, trivial, trivial⟩ rfl (by simp [SV.good, SV.goodL]) ?_
  intro E
  refine go Try.tbs_ok 1000 ?_
  refine ev_if_yes rfl ?_
  refine go Try.tbs_ok 1000 ?_
  refine ev_fin ⟨trivial, _, rfl, (()), rfl, (by trivial), Frm.sel [0] rfl (by decide)⟩
set_option maxRecDepth 100000 in
theorem rAppArg (r : Nat) (m s : Int) (A : Option Addr) (n c : Nat) (st : Bool) (lf : Int) (B : Option Addr) (k d : Nat) (x y : ByteArray) (ho : oddS x = true) : Triple Try.prog 51 [.pointer (some ⟨r, 0, none⟩), .string x, .string y] [Pt r 49 [.int .i64 m, .int .i64 s, .bool false, .slice A n c, .bool st, .int .i64 lf, .slice B k d]] [] Unit (fun _ => .int .i64 2) (fun _ => True) (fun _ => [Pt r 49 [.int .i64 m, .int .i64 s, .bool false, .slice A n c, .bool st, .int .i64 lf, .slice B k d]]) := by
  have TO := rName x
  rw [ho] at TO
  refine triple_intro Try.tbs_ok Try.func51 rfl [.pt 0 r 0, .va (.string x), .va (.string y)] [.box r 49 [.va (.int .i64 m), .va (.int .i64 s), .va (.bool false), .va (.slice A n c), .va (.bool st), .va (.int .i64 lf), .va (.slice B k d)]] ⟨rfl, trivial, trivial, trivial⟩ rfl (by simp [SV.good, SV.goodL]) ?_
  intro E
  refine go Try.tbs_ok 1000 ?_
  refine ev_if_no rfl ?_
  refine go Try.tbs_ok 1000 ?_
  refine ev_callF (TO ) [] [] rfl rfl (by decide) rfl (by simp) (fun _ => (by repeat (first | exact trivial | refine ⟨rfl, ?_⟩))) (fun _ h0 => ?_)
  refine go Try.tbs_ok 1000 ?_
  refine ev_if_yes rfl ?_
  refine go Try.tbs_ok 1000 ?_
  refine ev_fin ⟨trivial, _, rfl, (()), rfl, (by trivial), Frm.sel [0] rfl (by decide)⟩
set_option maxRecDepth 100000 in
theorem rAppFull1 (r : Nat) (m s : Int) (A : Option Addr) (n c : Nat) (st : Bool) (lf : Int) (B : Option Addr) (k d : Nat) (L : List Fl) (hn : n = L.length) (h1 : n ≤ 1000) (x y : ByteArray) (hs : riseF L) (ho : oddS x = false) (hh : hasF L x = false) (h16 : n = 16) : Triple Try.prog 51 [.pointer (some ⟨r, 0, none⟩), .string x, .string y] [Pt r 49 [.int .i64 m, .int .i64 s, .bool false, .slice A n c, .bool st, .int .i64 lf, .slice B k d], Row 82 3 A n c (L.flatMap encF)] [] Unit (fun _ => .int .i64 40) (fun _ => True) (fun _ => [Pt r 49 [.int .i64 m, .int .i64 s, .bool false, .slice A n c, .bool st, .int .i64 lf, .slice B k d], Row 82 3 A n c (L.flatMap encF)]) := by
  have TO := rName x
  rw [ho] at TO
  have T1 := rFind r m s false A n c st lf B k d L hn h1 x hs
  rw [show ixF L x = -1 from by unfold ixF; rw [hh]; rfl] at T1
  refine triple_intro Try.tbs_ok Try.func51 rfl [.pt 0 r 0, .va (.string x), .va (.string y)] [.box r 49 [.va (.int .i64 m), .va (.int .i64 s), .va (.bool false), .va (.slice A n c), .va (.bool st), .va (.int .i64 lf), .va (.slice B k d)], .fact (Row 82 3 A n c (L.flatMap encF))] ⟨rfl, trivial, trivial, trivial⟩ rfl (by simp [SV.good, SV.goodL]) ?_
  intro E
  refine go Try.tbs_ok 1000 ?_
  refine ev_if_no rfl ?_
  refine go Try.tbs_ok 1000 ?_
  refine ev_callF (TO ) [] [] rfl rfl (by decide) rfl (by simp) (fun _ => (by repeat (first | exact trivial | refine ⟨rfl, ?_⟩))) (fun _ h0 => ?_)
  refine go Try.tbs_ok 1000 ?_
  refine ev_if_no rfl ?_
  refine go Try.tbs_ok 1000 ?_
  refine ev_call (T1 ) [0, 1] [] (fun v0_ => [.box (r) 49 [.va (Value.int IntKind.i64 m), .va (Value.int IntKind.i64 s), .bl false, .va (Value.slice A n c), .bq (st), .va (Value.int IntKind.i64 lf), .va (Value.slice B k d)], .fact (Row 82 3 A n c (List.flatMap encF L))]) rfl rfl (by decide) rfl (by simp) (fun _ => rfl) (fun _ => (newsOk_box (by simp [SV.good, SV.goodL]) (newsOk_fact (newsOk_nil _)))) (fun _ => (by repeat (first | exact trivial | refine ⟨rfl, ?_⟩))) (fun _ h1 => ?_)
  refine go Try.tbs_ok 1000 ?_
  refine ev_stop (go_draw Try.tbs_ok true [0] [(0,true),(1,true),(2,true),(3,true),(4,true),(5,true),(6,true),(7,true),(8,true),(9,true),(10,true),(11,true),(12,true),(13,true),(14,true),(15,true),(16,true),(17,true),(18,false),(19,false),(20,false),(21,false)] rfl ?_)
  refine go Try.tbs_ok 1000 ?_
  refine ev_need ⟨⟨(by repeat (first | exact trivial | refine ⟨rfl, ?_⟩)), rfl⟩, by kernel_rfl⟩ ?_
  refine ev_if_yes rfl ?_
  refine go Try.tbs_ok 1000 ?_
  refine ev_need ⟨⟨(by repeat (first | exact trivial | refine ⟨rfl, ?_⟩)), rfl⟩, by kernel_rfl⟩ ?_
  refine ev_if_yes (decide_eq_true (show (↑n : Int) ≥ 16 from (by omega))) ?_
  refine go Try.tbs_ok 1000 ?_
  refine ev_need ⟨⟨(by repeat (first | exact trivial | refine ⟨rfl, ?_⟩)), rfl⟩, by kernel_rfl⟩ ?_
  refine ev_need ⟨⟨(by repeat (first | exact trivial | refine ⟨rfl, ?_⟩)), rfl⟩, by kernel_rfl⟩ ?_
  refine ev_need ⟨⟨(by repeat (first | exact trivial | refine ⟨rfl, ?_⟩)), rfl⟩, by kernel_rfl⟩ ?_
  refine ev_need ⟨⟨(by repeat (first | exact trivial | refine ⟨rfl, ?_⟩)), rfl⟩, by kernel_rfl⟩ ?_
  refine ev_need ⟨⟨(by repeat (first | exact trivial | refine ⟨rfl, ?_⟩)), rfl⟩, by kernel_rfl⟩ ?_
  refine ev_fin ⟨trivial, _, rfl, (()), rfl, (by trivial), Frm.sel [0, 1] rfl (by decide)⟩
set_option maxRecDepth 100000 in
theorem rAppFull2T (r : Nat) (m s : Int) (A : Option Addr) (n c : Nat) (st : Bool) (lf : Int) (B : Option Addr) (k d : Nat) (L : List Fl) (hn : n = L.length) (h1 : n ≤ 1000) (x y : ByteArray) (hs : riseF L) (ho : oddS x = false) (hm : 0 < m) (hm2 : m ≤ 1048576) (hb : sumD L ≤ 1000000000) (hh : hasF L x = true) (hy : m - sumD L < (y.size : Int)) : Triple Try.prog 51 [.pointer (some ⟨r, 0, none⟩), .string x, .string y] [Pt r 49 [.int .i64 m, .int .i64 s, .bool false, .slice A n c, .bool st, .int .i64 lf, .slice B k d], Row 82 3 A n c (L.flatMap encF)] [] Unit (fun _ => .int .i64 40) (fun _ => True) (fun _ => [Pt r 49 [.int .i64 m, .int .i64 s, .bool false, .slice A n c, .bool st, .int .i64 lf, .slice B k d], Row 82 3 A n c (L.flatMap encF)]) := by
  have TO := rName x
  rw [ho] at TO
  have T1 := rFind r m s false A n c st lf B k d L hn h1 x hs
  rw [show ixF L x = (posF L x : Nat) from by unfold ixF; rw [hh]; rfl] at T1
  have TS := rSize r m s false A n c st lf B k d L hn h1 hb
  refine triple_intro Try.tbs_ok Try.func51 rfl [.pt 0 r 0, .va (.string x), .va (.string y)] [.box r 49 [.va (.int .i64 m), .va (.int .i64 s), .va (.bool false), .va (.slice A n c), .va (.bool st), .va (.int .i64 lf), .va (.slice B k d)], .fact (Row 82 3 A n c (L.flatMap encF))] ⟨rfl, trivial, trivial, trivial⟩ rfl (by simp [SV.good, SV.goodL]) ?_
  intro E
  refine go Try.tbs_ok 1000 ?_
  refine ev_if_no rfl ?_
  refine go Try.tbs_ok 1000 ?_
  refine ev_callF (TO ) [] [] rfl rfl (by decide) rfl (by simp) (fun _ => (by repeat (first | exact trivial | refine ⟨rfl, ?_⟩))) (fun _ h0 => ?_)
  refine go Try.tbs_ok 1000 ?_
  refine ev_if_no rfl ?_
  refine go Try.tbs_ok 1000 ?_
  refine ev_call (T1 ) [0, 1] [] (fun v0_ => [.box (r) 49 [.va (Value.int IntKind.i64 m), .va (Value.int IntKind.i64 s), .bl false, .va (Value.slice A n c), .bq (st), .va (Value.int IntKind.i64 lf), .va (Value.slice B k d)], .fact (Row 82 3 A n c (List.flatMap encF L))]) rfl rfl (by decide) rfl (by simp) (fun _ => rfl) (fun _ => (newsOk_box (by simp [SV.good, SV.goodL]) (newsOk_fact (newsOk_nil _)))) (fun _ => (by repeat (first | exact trivial | refine ⟨rfl, ?_⟩))) (fun _ h1 => ?_)
  refine go Try.tbs_ok 1000 ?_
  refine ev_stop (go_draw Try.tbs_ok true [0] [(0,true),(1,true),(2,true),(3,true),(4,true),(5,true),(6,true),(7,true),(8,true),(9,true),(10,true),(11,true),(12,true),(13,true),(14,true),(15,true),(16,true),(17,true),(18,false),(19,false),(20,false),(21,false)] rfl ?_)
  refine go Try.tbs_ok 1000 ?_
  refine ev_need ⟨⟨(by repeat (first | exact trivial | refine ⟨rfl, ?_⟩)), rfl⟩, by kernel_rfl⟩ ?_
  refine ev_if_no rfl ?_
  refine go Try.tbs_ok 1000 ?_
  refine ev_need ⟨⟨(by repeat (first | exact trivial | refine ⟨rfl, ?_⟩)), rfl⟩, by kernel_rfl⟩ ?_
  refine ev_call (TS ) [0, 1] [] (fun v0_ => [.box (r) 49 [.va (Value.int IntKind.i64 m), .va (Value.int IntKind.i64 s), .bl false, .va (Value.slice A n c), .bq (st), .va (Value.int IntKind.i64 lf), .va (Value.slice B k d)], .fact (Row 82 3 A n c (List.flatMap encF L))]) rfl rfl (by decide) rfl (by simp) (fun _ => rfl) (fun _ => (newsOk_box (by simp [SV.good, SV.goodL]) (newsOk_fact (newsOk_nil _)))) (fun _ => (by repeat (first | exact trivial | refine ⟨rfl, ?_⟩))) (fun _ h2 => ?_)
  refine go Try.tbs_ok 1000 ?_
  refine ev_need ⟨⟨(by repeat (first | exact trivial | refine ⟨rfl, ?_⟩)), rfl⟩, by kernel_rfl⟩ ?_
  refine ev_w64 (by constructor <;> omega) ?_
  refine ev_need ⟨⟨(by repeat (first | exact trivial | refine ⟨rfl, ?_⟩)), rfl⟩, by kernel_rfl⟩ ?_
  refine ev_need ⟨⟨(by repeat (first | exact trivial | refine ⟨rfl, ?_⟩)), rfl⟩, by kernel_rfl⟩ ?_
  refine ev_need ⟨⟨(by repeat (first | exact trivial | refine ⟨rfl, ?_⟩)), rfl⟩, by kernel_rfl⟩ ?_
  refine ev_if_yes (decide_eq_true (by with_reducible assumption)) ?_
  refine go Try.tbs_ok 1000 ?_
  refine ev_fin ⟨trivial, _, rfl, (()), rfl, (by trivial), Frm.sel [0, 1] rfl (by decide)⟩
set_option maxRecDepth 100000 in
theorem rAppFull2F (r : Nat) (m s : Int) (A : Option Addr) (n c : Nat) (st : Bool) (lf : Int) (B : Option Addr) (k d : Nat) (L : List Fl) (hn : n = L.length) (h1 : n ≤ 1000) (x y : ByteArray) (hs : riseF L) (ho : oddS x = false) (hm : 0 < m) (hm2 : m ≤ 1048576) (hb : sumD L ≤ 1000000000) (hh : hasF L x = false) (h16 : n < 16) (hy : m - sumD L < (y.size : Int)) : Triple Try.prog 51 [.pointer (some ⟨r, 0, none⟩), .string x, .string y] [Pt r 49 [.int .i64 m, .int .i64 s, .bool false, .slice A n c, .bool st, .int .i64 lf, .slice B k d], Row 82 3 A n c (L.flatMap encF)] [] Unit (fun _ => .int .i64 40) (fun _ => True) (fun _ => [Pt r 49 [.int .i64 m, .int .i64 s, .bool false, .slice A n c, .bool st, .int .i64 lf, .slice B k d], Row 82 3 A n c (L.flatMap encF)]) := by
  have TO := rName x
  rw [ho] at TO
  have T1 := rFind r m s false A n c st lf B k d L hn h1 x hs
  rw [show ixF L x = -1 from by unfold ixF; rw [hh]; rfl] at T1
  have TS := rSize r m s false A n c st lf B k d L hn h1 hb
  refine triple_intro Try.tbs_ok Try.func51 rfl [.pt 0 r 0, .va (.string x), .va (.string y)] [.box r 49 [.va (.int .i64 m), .va (.int .i64 s), .va (.bool false), .va (.slice A n c), .va (.bool st), .va (.int .i64 lf), .va (.slice B k d)], .fact (Row 82 3 A n c (L.flatMap encF))] ⟨rfl, trivial, trivial, trivial⟩ rfl (by simp [SV.good, SV.goodL]) ?_
  intro E
  refine go Try.tbs_ok 1000 ?_
  refine ev_if_no rfl ?_
  refine go Try.tbs_ok 1000 ?_
  refine ev_callF (TO ) [] [] rfl rfl (by decide) rfl (by simp) (fun _ => (by repeat (first | exact trivial | refine ⟨rfl, ?_⟩))) (fun _ h0 => ?_)
  refine go Try.tbs_ok 1000 ?_
  refine ev_if_no rfl ?_
  refine go Try.tbs_ok 1000 ?_
  refine ev_call (T1 ) [0, 1] [] (fun v0_ => [.box (r) 49 [.va (Value.int IntKind.i64 m), .va (Value.int IntKind.i64 s), .bl false, .va (Value.slice A n c), .bq (st), .va (Value.int IntKind.i64 lf), .va (Value.slice B k d)], .fact (Row 82 3 A n c (List.flatMap encF L))]) rfl rfl (by decide) rfl (by simp) (fun _ => rfl) (fun _ => (newsOk_box (by simp [SV.good, SV.goodL]) (newsOk_fact (newsOk_nil _)))) (fun _ => (by repeat (first | exact trivial | refine ⟨rfl, ?_⟩))) (fun _ h1 => ?_)
  refine go Try.tbs_ok 1000 ?_
  refine ev_stop (go_draw Try.tbs_ok true [0] [(0,true),(1,true),(2,true),(3,true),(4,true),(5,true),(6,true),(7,true),(8,true),(9,true),(10,true),(11,true),(12,true),(13,true),(14,true),(15,true),(16,true),(17,true),(18,false),(19,false),(20,false),(21,false)] rfl ?_)
  refine go Try.tbs_ok 1000 ?_
  refine ev_need ⟨⟨(by repeat (first | exact trivial | refine ⟨rfl, ?_⟩)), rfl⟩, by kernel_rfl⟩ ?_
  refine ev_if_yes rfl ?_
  refine go Try.tbs_ok 1000 ?_
  refine ev_need ⟨⟨(by repeat (first | exact trivial | refine ⟨rfl, ?_⟩)), rfl⟩, by kernel_rfl⟩ ?_
  refine ev_if_no (decide_eq_false (show ¬(↑n : Int) ≥ 16 from (by omega))) ?_
  refine go Try.tbs_ok 1000 ?_
  refine ev_need ⟨⟨(by repeat (first | exact trivial | refine ⟨rfl, ?_⟩)), rfl⟩, by kernel_rfl⟩ ?_
  refine ev_call (TS ) [0, 1] [] (fun v0_ => [.box (r) 49 [.va (Value.int IntKind.i64 m), .va (Value.int IntKind.i64 s), .bl false, .va (Value.slice A n c), .bq (st), .va (Value.int IntKind.i64 lf), .va (Value.slice B k d)], .fact (Row 82 3 A n c (List.flatMap encF L))]) rfl rfl (by decide) rfl (by simp) (fun _ => rfl) (fun _ => (newsOk_box (by simp [SV.good, SV.goodL]) (newsOk_fact (newsOk_nil _)))) (fun _ => (by repeat (first | exact trivial | refine ⟨rfl, ?_⟩))) (fun _ h2 => ?_)
  refine go Try.tbs_ok 1000 ?_
  refine ev_need ⟨⟨(by repeat (first | exact trivial | refine ⟨rfl, ?_⟩)), rfl⟩, by kernel_rfl⟩ ?_
  refine ev_w64 (by constructor <;> omega) ?_
  refine ev_need ⟨⟨(by repeat (first | exact trivial | refine ⟨rfl, ?_⟩)), rfl⟩, by kernel_rfl⟩ ?_
  refine ev_need ⟨⟨(by repeat (first | exact trivial | refine ⟨rfl, ?_⟩)), rfl⟩, by kernel_rfl⟩ ?_
  refine ev_need ⟨⟨(by repeat (first | exact trivial | refine ⟨rfl, ?_⟩)), rfl⟩, by kernel_rfl⟩ ?_
  refine ev_if_yes (decide_eq_true (by with_reducible assumption)) ?_
  refine go Try.tbs_ok 1000 ?_
  refine ev_fin ⟨trivial, _, rfl, (()), rfl, (by trivial), Frm.sel [0, 1] rfl (by decide)⟩
set_option maxRecDepth 100000 in
theorem rStartUp (r : Nat) (m s : Int) (A : Option Addr) (n c : Nat) (st : Bool) (lf : Int) (B : Option Addr) (k d : Nat) : Triple Try.prog 49 [.pointer (some ⟨r, 0, none⟩)] [Pt r 49 [.int .i64 m, .int .i64 s, .bool false, .slice A n c, .bool st, .int .i64 lf, .slice B k d]] [] Unit (fun _ => .int .i64 2) (fun _ => True) (fun _ => [Pt r 49 [.int .i64 m, .int .i64 s, .bool false, .slice A n c, .bool st, .int .i64 lf, .slice B k d]]) := by
  refine triple_intro Try.tbs_ok Try.func49 rfl [.pt 0 r 0] [.box r 49 [.va (.int .i64 m), .va (.int .i64 s), .va (.bool false), .va (.slice A n c), .va (.bool st), .va (.int .i64 lf), .va (.slice B k d)]] ⟨rfl, trivial⟩ rfl (by simp [SV.good, SV.goodL]) ?_
  intro E
  refine go Try.tbs_ok 1000 ?_
  refine ev_if_yes rfl ?_
  refine go Try.tbs_ok 1000 ?_
  refine ev_fin ⟨trivial, _, rfl, (()), rfl, (by trivial), Frm.sel [0] rfl (by decide)⟩
set_option maxRecDepth 100000 in
theorem rStartDown (r : Nat) (m s : Int) (A : Option Addr) (n c : Nat) (st : Bool) (lf : Int) (B : Option Addr) (k d : Nat) (h0 : 0 ≤ s) (h1 : s ≤ 1000000000) : Triple Try.prog 49 [.pointer (some ⟨r, 0, none⟩)] [Pt r 49 [.int .i64 m, .int .i64 s, .bool true, .slice A n c, .bool st, .int .i64 lf, .slice B k d]] [] Unit (fun _ => .int .i64 0) (fun _ => True) (fun _ => [Pt r 49 [.int .i64 m, .int .i64 (s + 1), .bool false, .slice A n c, .bool st, .int .i64 lf, .slice B k d]]) := by
  refine triple_intro Try.tbs_ok Try.func49 rfl [.pt 0 r 0] [.box r 49 [.va (.int .i64 m), .va (.int .i64 s), .va (.bool true), .va (.slice A n c), .va (.bool st), .va (.int .i64 lf), .va (.slice B k d)]] ⟨rfl, trivial⟩ rfl (by simp [SV.good, SV.goodL]) ?_
  intro E
  refine go Try.tbs_ok 1000 ?_
  refine ev_if_no rfl ?_
  refine go Try.tbs_ok 1000 ?_
  refine ev_w64 (by constructor <;> omega) ?_
  refine ev_fin ⟨trivial, _, rfl, (()), rfl, (by trivial), Frm.sel [0] rfl (by decide)⟩
set_option maxRecDepth 100000 in
theorem rFailDown (r : Nat) (m s : Int) (A : Option Addr) (n c : Nat) (st : Bool) (lf : Int) (B : Option Addr) (k d : Nat) (z : Int) (Q : Option Addr) (kq dq : Nat) : Triple Try.prog 50 [.pointer (some ⟨r, 0, none⟩), .int .i64 z, .slice Q kq dq] [Pt r 49 [.int .i64 m, .int .i64 s, .bool true, .slice A n c, .bool st, .int .i64 lf, .slice B k d]] [] Unit (fun _ => .int .i64 41) (fun _ => True) (fun _ => [Pt r 49 [.int .i64 m, .int .i64 s, .bool true, .slice A n c, .bool st, .int .i64 lf, .slice B k d]]) := by
  refine triple_intro Try.tbs_ok Try.func50 rfl [.pt 0 r 0, .va (.int .i64 z), .va (.slice Q kq dq)] [.box r 49 [.va (.int .i64 m), .va (.int .i64 s), .va (.bool true), .va (.slice A n c), .va (.bool st), .va (.int .i64 lf), .va (.slice B k d)]] ⟨rfl, trivial, trivial, trivial⟩ rfl (by simp [SV.good, SV.goodL]) ?_
  intro E
  refine go Try.tbs_ok 1000 ?_
  refine ev_if_yes rfl ?_
  refine go Try.tbs_ok 1000 ?_
  refine ev_fin ⟨trivial, _, rfl, (()), rfl, (by trivial), Frm.sel [0] rfl (by decide)⟩
set_option maxRecDepth 100000 in
theorem rFailArg (r : Nat) (m s : Int) (A : Option Addr) (n c : Nat) (st : Bool) (lf : Int) (B : Option Addr) (k d : Nat) (z : Int) (Q : Option Addr) (kq dq : Nat) (hz : z < 0) : Triple Try.prog 50 [.pointer (some ⟨r, 0, none⟩), .int .i64 z, .slice Q kq dq] [Pt r 49 [.int .i64 m, .int .i64 s, .bool false, .slice A n c, .bool st, .int .i64 lf, .slice B k d]] [] Unit (fun _ => .int .i64 2) (fun _ => True) (fun _ => [Pt r 49 [.int .i64 m, .int .i64 s, .bool false, .slice A n c, .bool st, .int .i64 lf, .slice B k d]]) := by
  refine triple_intro Try.tbs_ok Try.func50 rfl [.pt 0 r 0, .va (.int .i64 z), .va (.slice Q kq dq)] [.box r 49 [.va (.int .i64 m), .va (.int .i64 s), .va (.bool false), .va (.slice A n c), .va (.bool st), .va (.int .i64 lf), .va (.slice B k d)]] ⟨rfl, trivial, trivial, trivial⟩ rfl (by simp [SV.good, SV.goodL]) ?_
  intro E
  refine go Try.tbs_ok 1000 ?_
  refine ev_if_no rfl ?_
  refine go Try.tbs_ok 1000 ?_
  refine ev_if_yes (decide_eq_true (by with_reducible assumption)) ?_
  refine go Try.tbs_ok 1000 ?_
  refine ev_fin ⟨trivial, _, rfl, (()), rfl, (by trivial), Frm.sel [0] rfl (by decide)⟩
set_option maxRecDepth 100000 in
theorem rFailOk (r : Nat) (m s : Int) (A : Option Addr) (n c : Nat) (st : Bool) (lf : Int) (B : Option Addr) (k d : Nat) (z : Int) (Q : Option Addr) (kq dq : Nat) (K : List Int) (hz : 0 ≤ z) (hk : kq = K.length) (h1 : kq ≤ 100000) : Triple Try.prog 50 [.pointer (some ⟨r, 0, none⟩), .int .i64 z, .slice Q kq dq] [Pt r 49 [.int .i64 m, .int .i64 s, .bool false, .slice A n c, .bool st, .int .i64 lf, .slice B k d]] [Rd 1 Q kq (K.flatMap encN)] (Option Addr × Nat) (fun _ => .int .i64 0) (fun _ => True) (fun (C, e) => [Pt r 49 [.int .i64 m, .int .i64 s, .bool false, .slice A n c, .bool true, .int .i64 z, .slice C kq e], Row 3 1 C kq e (K.flatMap encN)]) := by
  refine triple_intro Try.tbs_ok Try.func50 rfl [.pt 0 r 0, .va (.int .i64 z), .va (.slice Q kq dq)] [.box r 49 [.va (.int .i64 m), .va (.int .i64 s), .va (.bool false), .va (.slice A n c), .va (.bool st), .va (.int .i64 lf), .va (.slice B k d)]] ⟨rfl, trivial, trivial, trivial⟩ rfl (by simp [SV.good, SV.goodL]) ?_
  intro E
  refine go Try.tbs_ok 1000 ?_
  refine ev_if_no rfl ?_
  refine go Try.tbs_ok 1000 ?_
  refine ev_if_no (decide_eq_false (show ¬z < 0 from (by omega))) ?_
  refine go Try.tbs_ok 1000 ?_
  refine ev_new fun b0 => ?_
  refine ev_stop (go_appendE (sz := 1) (M := [_]) (enc := encN) Try.tbs_ok [1] [some b0] (.inl 0) ([]) (K) (K) (kq) rfl rfl rfl rfl rfl rfl rfl (by decide) rfl (by decide) (fun _ p => Pt.row (starH_one.1 p) rfl (by decide)) rfl (fun _ h => h) (by first | rfl | simp) (by first | rfl | omega) (le_app (s := kq) (by omega) (by first | rfl | omega)) (le_appb (s := kq) (by omega) (by first | rfl | omega) (by decide)) (fun _ _ => (by repeat (first | exact trivial | refine ⟨rfl, ?_⟩))) (fun A1 c2 h3 => ?_))
  refine go Try.tbs_ok 1000 ?_
  refine ev_fin ⟨trivial, _, rfl, ((A1, c2)), rfl, (by trivial), Frm.sel [0, 2] rfl (by decide)⟩
set_option maxRecDepth 100000 in
theorem rNewErr (z : Int) (hz : z < 1 ∨ 1048576 < z) : Triple Try.prog 17 [.int .i64 z] [] [] (Unit) (fun _ => .tuple #[.pointer none, .int .i64 2]) (fun _ => True) (fun _ => []) := by
  refine triple_intro Try.tbs_ok Try.func17 rfl [.va (.int .i64 z)] [] ⟨trivial, trivial⟩ rfl (by simp) ?_
  intro E
  refine go Try.tbs_ok 1000 ?_
  refine ev_if_lt (fun h0 => ?_) (fun h0 => ?_)
  refine go Try.tbs_ok 1000 ?_
  refine ev_fin ⟨trivial, _, rfl, (()), rfl, (by trivial), Frm.nil _⟩
  refine go Try.tbs_ok 1000 ?_
  refine ev_if_yes (decide_eq_true (show z > 1048576 from (by omega))) ?_
  refine go Try.tbs_ok 1000 ?_
  refine ev_fin ⟨trivial, _, rfl, (()), rfl, (by trivial), Frm.nil _⟩
set_option maxRecDepth 100000 in
theorem rNewOk (z : Int) (hz : 1 ≤ z) (hz2 : z ≤ 1048576) : Triple Try.prog 17 [.int .i64 z] [] [] (Nat) (fun p => .tuple #[.pointer (some ⟨p, 0, none⟩), .int .i64 0]) (fun _ => True) (fun p => [Pt p 49 [.int .i64 z, .int .i64 0, .bool false, .slice none 0 0, .bool false, .int .i64 0, .slice none 0 0]]) := by
  refine triple_intro Try.tbs_ok Try.func17 rfl [.va (.int .i64 z)] [] ⟨trivial, trivial⟩ rfl (by simp) ?_
  intro E
  refine go Try.tbs_ok 1000 ?_
  refine ev_if_no (decide_eq_false (show ¬z < 1 from (by omega))) ?_
  refine go Try.tbs_ok 1000 ?_
  refine ev_if_no (decide_eq_false (show ¬z > 1048576 from (by omega))) ?_
  refine go Try.tbs_ok 1000 ?_
  refine ev_new fun b0 => ?_
  refine ev_fin ⟨trivial, _, rfl, (b0), rfl, (by trivial), Frm.sel [0] rfl (by decide)⟩
end Go.Proofs.Ythknokcgclcbmaa
namespace Go.Proofs.Ythknokcgclcbmaa
open Go.Sy
def ptR (r : Nat) (m s : Int) (dn : Bool) (A : Option Addr) (n c : Nat) (st : Bool) (lf : Int) (B : Option Addr) (k d : Nat) : Asn := Pt r 49 [.int .i64 m, .int .i64 s, .bool dn, .slice A n c, .bool st, .int .i64 lf, .slice B k d]
def rowR (A : Option Addr) (n c : Nat) (L : List Fl) : Asn := Row 82 3 A n c (L.flatMap encF)
structure RA where
  A : Option Addr
  c : Nat
  lf : Int
  B : Option Addr
  d : Nat
def refL (r : Nat) (D : DK) (x : RA) : List Asn := [ptR r D.most D.starts D.down x.A D.files.length x.c D.fails.isSome (D.fails.getD x.lf) x.B D.keep.length x.d, rowR x.A D.files.length x.c D.files, rowN x.B D.keep.length x.d D.keep]
/-- the document's disk is this one -/
def RefD (r : Nat) (D : DK) : Asn := Asn.ex fun x : RA => Asn.star (refL r D x)
theorem RefD.pre {r : Nat} {D : DK} (h : Hp) (q : Asn.starH [RefD r D] h) : ∃ x : RA, Asn.starH (refL r D x) h := by
  obtain ⟨x, q⟩ := starH_one.1 q
  exact ⟨x, star_holds.1 q⟩
theorem RefD.put {r : Nat} {D : DK} (x : RA) {h : Hp} (q : Asn.starH (refL r D x) h) : Asn.starH [RefD r D] h := starH_one.2 ⟨x, star_holds.2 q⟩
theorem liftR {r : Nat} {fn : FuncId} {args : List Value} (m s : Int) (L : List Fl) (fl : Option Int) (K : List Int) (late : Bool) (L2 : List Fl) (hfl : ∀ q, fl = some q → 0 ≤ q ∧ q ≤ 9223372036854775807)
    (hN : ∀ A c lf B d, Triple Try.prog fn args [ptR r m s false A L.length c false lf B K.length d, rowR A L.length c L] [] (Option Addr × Nat) (fun _ => .int .i64 0) (fun _ => True) (fun x => [ptR r m s false x.1 L2.length x.2 false lf B K.length d, rowR x.1 L2.length x.2 L2]))
    (hG : ∀ A c B d q, 0 < q → q ≤ 9223372036854775807 → Triple Try.prog fn args [ptR r m s false A L.length c true q B K.length d, rowR A L.length c L] [] (Option Addr × Nat) (fun _ => .int .i64 0) (fun _ => True) (fun x => [ptR r m s false x.1 L2.length x.2 true (q - 1) B K.length d, rowR x.1 L2.length x.2 L2]))
    (hS : ∀ A c B d q, q = 0 → Triple Try.prog fn args [ptR r m s false A L.length c true q B K.length d, rowR A L.length c L, rowN B K.length d K] [] (Option Addr × Nat) (fun _ => .int .i64 41) (fun _ => True) (fun x => [ptR r m s true x.1 (if late then L2 else L).length x.2 false q B K.length d, rowR x.1 (if late then L2 else L).length x.2 (crashF (if late then L2 else L) K), rowN B K.length d K])) :
    Triple Try.prog fn args [RefD r ⟨m, s, false, L, fl, K⟩] [] Unit (fun _ => .int .i64 (chg ⟨m, s, false, L, fl, K⟩ late L2).2) (fun _ => True) (fun _ => [RefD r (chg ⟨m, s, false, L, fl, K⟩ late L2).1]) := by
  refine Triple.pre RefD.pre fun ⟨A, c, lf, B, d⟩ => ?_
  cases fl with
  | none => exact ((hN A c lf B d).frame [rowN B K.length d K]).imp fun x _ => ⟨(), rfl, trivial, fun h q => RefD.put ⟨x.1, x.2, lf, B, d⟩ q⟩
  | some q =>
    obtain ⟨h1, h2⟩ := hfl q rfl
    unfold chg
    by_cases hq : 0 < q
    · simp only [hq, if_true]
      exact ((hG A c B d q hq h2).frame [rowN B K.length d K]).imp fun x _ => ⟨(), rfl, trivial, fun h q => RefD.put ⟨x.1, x.2, lf, B, d⟩ q⟩
    · simp only [hq, if_false]
      refine (hS A c B d q (by omega)).imp fun x _ => ⟨(), rfl, trivial, fun h p => RefD.put ⟨x.1, x.2, q, B, d⟩ ?_⟩
      unfold refL
      rw [show (crashF (if late = true then L2 else L) K).length = (if late then L2 else L).length from crashF_len _ _]
      exact p
theorem liftRAsk {r : Nat} {fn : FuncId} {args : List Value} {X : Type} {ret : X → Value} {good : X → Prop} (D : DK) (N : List Asn)
    (hN : ∀ A c st lf B d, Triple Try.prog fn args [ptR r D.most D.starts D.down A D.files.length c st lf B D.keep.length d, rowR A D.files.length c D.files] N X ret good (fun _ => [ptR r D.most D.starts D.down A D.files.length c st lf B D.keep.length d, rowR A D.files.length c D.files])) :
    Triple Try.prog fn args [RefD r D] N X ret good (fun _ => [RefD r D]) :=
  Triple.pre RefD.pre fun ⟨A, c, lf, B, d⟩ => ((hN A c _ _ B d).frame _).imp fun x hx => ⟨x, rfl, hx, fun _ q => RefD.put ⟨A, c, lf, B, d⟩ q⟩
theorem liftRPt {r : Nat} {fn : FuncId} {args : List Value} {X : Type} {ret : X → Value} {good : X → Prop} (D : DK) (N : List Asn)
    (hN : ∀ A c st lf B d, Triple Try.prog fn args [ptR r D.most D.starts D.down A D.files.length c st lf B D.keep.length d] N X ret good (fun _ => [ptR r D.most D.starts D.down A D.files.length c st lf B D.keep.length d])) :
    Triple Try.prog fn args [RefD r D] N X ret good (fun _ => [RefD r D]) :=
  Triple.pre RefD.pre fun ⟨A, c, lf, B, d⟩ => ((hN A c _ _ B d).frame _).imp fun x hx => ⟨x, rfl, hx, fun _ q => RefD.put ⟨A, c, lf, B, d⟩ q⟩
theorem qSync (r : Nat) (D : DK) (x : ByteArray) (hD : okD D) : Triple Try.prog 44 [.pointer (some ⟨r, 0, none⟩), .string x] [RefD r D] [] Unit (fun _ => .int .i64 (syncD D x).2) (fun _ => True) (fun _ => [RefD r (syncD D x).1]) := by
  have hF := hD.okF
  have hs := hD.rise
  have h1 : D.files.length ≤ 1000 := Nat.le_trans hD.few (by decide)
  have hfl := hD.fails
  obtain ⟨m, s, dn, L, fl, K⟩ := D
  simp only [syncD]
  cases dn with
  | true => exact liftRPt ⟨m, s, true, L, fl, K⟩ [] fun A c st lf B d => rDownSync r m s A L.length c st lf B K.length d x
  | false =>
    simp only [Bool.false_eq_true, if_false]
    cases hh : hasF L x with
    | false => exact liftRAsk ⟨m, s, false, L, fl, K⟩ [] fun A c st lf B d => rGoneSync r m s A L.length c st lf B K.length d L rfl h1 x hs hh
    | true =>
      obtain ⟨hi, _⟩ := has_pos hs hh
      rw [if_pos rfl, setF_eq hi]
      refine liftR m s L fl K false _ hfl (fun A c lf B d => ?_) (fun A c B d q hq hq2 => ?_) (fun A c B d q hq => ?_)
      · exact (rSyncN r m s A L.length c lf B K.length d L rfl h1 x hs hh hi).imp fun _ _ => ⟨(A, c), rfl, trivial, fun h q => by rw [List.length_set]; exact q⟩
      · exact (rSyncG r m s A L.length c q B K.length d L rfl h1 x hs hh hi hq hq2).imp fun _ _ => ⟨(A, c), rfl, trivial, fun h q => by rw [List.length_set]; exact q⟩
      · exact (rSyncS r m s A L.length c q B K.length d L rfl h1 x hs hh hi hq K rfl hF).imp fun _ _ => ⟨(A, c), rfl, trivial, fun h q => q⟩
theorem qTrunc (r : Nat) (D : DK) (x : ByteArray) (z : Int) (hD : okD D) : Triple Try.prog 45 [.pointer (some ⟨r, 0, none⟩), .string x, .int .i64 z] [RefD r D] [] Unit (fun _ => .int .i64 (truncD D x z).2) (fun _ => True) (fun _ => [RefD r (truncD D x z).1]) := by
  have hF := hD.okF
  have hs := hD.rise
  have h1 : D.files.length ≤ 1000 := Nat.le_trans hD.few (by decide)
  have hfl := hD.fails
  obtain ⟨m, s, dn, L, fl, K⟩ := D
  simp only [truncD]
  cases dn with
  | true => exact liftRPt ⟨m, s, true, L, fl, K⟩ [] fun A c st lf B d => rDownTruncate r m s A L.length c st lf B K.length d x z
  | false =>
    simp only [Bool.false_eq_true, if_false]
    cases hh : hasF L x with
    | false => exact liftRAsk ⟨m, s, false, L, fl, K⟩ [] fun A c st lf B d => rGoneTruncate r m s A L.length c st lf B K.length d L rfl h1 x z hs hh
    | true =>
      obtain ⟨hi, _⟩ := has_pos hs hh
      rw [if_pos rfl]
      rw [getF_eq hi]
      by_cases hz : z < 0 ∨ ((L[posF L x].d.size : Nat) : Int) < z
      · rw [if_pos hz]
        exact liftRAsk ⟨m, s, false, L, fl, K⟩ [] fun A c st lf B d => rTruncArg r m s A L.length c st lf B K.length d L rfl h1 x z hs hh hi hz
      · rw [if_neg hz, setF_eq hi]
        have hz1 : 0 ≤ z := by omega
        have hz2 : z ≤ L[posF L x].d.size := by omega
        refine liftR m s L fl K false _ hfl (fun A c lf B d => ?_) (fun A c B d q hq hq2 => ?_) (fun A c B d q hq => ?_)
        · exact (rTruncN r m s A L.length c lf B K.length d L rfl h1 x z hs hh hi hz1 hz2).imp fun _ _ => ⟨(A, c), rfl, trivial, fun h q => by rw [List.length_set]; exact q⟩
        · exact (rTruncG r m s A L.length c q B K.length d L rfl h1 x z hs hh hi hz1 hz2 hq hq2).imp fun _ _ => ⟨(A, c), rfl, trivial, fun h q => by rw [List.length_set]; exact q⟩
        · exact (rTruncS r m s A L.length c q B K.length d L rfl h1 x z hs hh hi hz1 hz2 hq K rfl hF).imp fun _ _ => ⟨(A, c), rfl, trivial, fun h q => q⟩
theorem qRem (r : Nat) (D : DK) (x : ByteArray) (hD : okD D) : Triple Try.prog 47 [.pointer (some ⟨r, 0, none⟩), .string x] [RefD r D] [] Unit (fun _ => .int .i64 (remD D x).2) (fun _ => True) (fun _ => [RefD r (remD D x).1]) := by
  have hF := hD.okF
  have hs := hD.rise
  have h1 : D.files.length ≤ 1000 := Nat.le_trans hD.few (by decide)
  have hfl := hD.fails
  obtain ⟨m, s, dn, L, fl, K⟩ := D
  simp only [remD]
  cases dn with
  | true => exact liftRPt ⟨m, s, true, L, fl, K⟩ [] fun A c st lf B d => rDownRemove r m s A L.length c st lf B K.length d x
  | false =>
    simp only [Bool.false_eq_true, if_false]
    cases hh : hasF L x with
    | false => exact liftRAsk ⟨m, s, false, L, fl, K⟩ [] fun A c st lf B d => rGoneRemove r m s A L.length c st lf B K.length d L rfl h1 x hs hh
    | true =>
      obtain ⟨hi, _⟩ := has_pos hs hh
      rw [if_pos rfl]
      have hl : (L.eraseIdx (posF L x)).length = L.length - 1 := by rw [List.length_eraseIdx_of_lt hi]
      refine liftR m s L fl K false _ hfl (fun A c lf B d => ?_) (fun A c B d q hq hq2 => ?_) (fun A c B d q hq => ?_)
      · exact (rRemN r m s A L.length c lf B K.length d L rfl h1 x hs hh hi).imp fun (C, e) _ => ⟨(C, e), rfl, trivial, fun h q => by rw [hl]; exact q⟩
      · exact (rRemG r m s A L.length c q B K.length d L rfl h1 x hs hh hi hq hq2).imp fun (C, e) _ => ⟨(C, e), rfl, trivial, fun h q => by rw [hl]; exact q⟩
      · exact (rRemS r m s A L.length c q B K.length d L rfl h1 x hs hh hi hq K rfl hF).imp fun _ _ => ⟨(A, c), rfl, trivial, fun h q => q⟩
theorem qRen (r : Nat) (D : DK) (x y : ByteArray) (hD : okD D) : Triple Try.prog 46 [.pointer (some ⟨r, 0, none⟩), .string x, .string y] [RefD r D] [] Unit (fun _ => .int .i64 (renD D x y).2) (fun _ => True) (fun _ => [RefD r (renD D x y).1]) := by
  have hF := hD.okF
  have hs := hD.rise
  have h1 : D.files.length ≤ 1000 := Nat.le_trans hD.few (by decide)
  have hfl := hD.fails
  obtain ⟨m, s, dn, L, fl, K⟩ := D
  simp only [renD]
  cases dn with
  | true => exact liftRPt ⟨m, s, true, L, fl, K⟩ [] fun A c st lf B d => rDownRename r m s A L.length c st lf B K.length d x y
  | false =>
    simp only [Bool.false_eq_true, if_false]
    cases hh : hasF L x with
    | false => exact liftRAsk ⟨m, s, false, L, fl, K⟩ [] fun A c st lf B d => rGoneRename r m s A L.length c st lf B K.length d L rfl h1 x y hs hh
    | true =>
      obtain ⟨hi, _⟩ := has_pos hs hh
      rw [if_pos rfl]
      cases ho : oddS y with
      | true => exact liftRAsk ⟨m, s, false, L, fl, K⟩ [] fun A c st lf B d => rRenArg r m s A L.length c st lf B K.length d L rfl h1 x y hs hh ho
      | false =>
        have hl : (L.eraseIdx (posF L x)).length = L.length - 1 := by rw [List.length_eraseIdx_of_lt hi]
        rw [renF_eq hi, if_neg (by decide)]
        unfold putFl
        cases hh2 : hasF (L.eraseIdx (posF L x)) y with
        | true =>
          rw [if_pos rfl]
          refine liftR m s L fl K false _ hfl (fun A c lf B d => ?_) (fun A c B d q hq hq2 => ?_) (fun A c B d q hq => ?_)
          · exact (rRenTN r m s A L.length c lf B K.length d L rfl h1 x y hs hh hi ho hh2).imp fun (C, e) _ => ⟨(C, e), rfl, trivial, fun h q => by rw [List.length_set, hl]; exact q⟩
          · exact (rRenTG r m s A L.length c q B K.length d L rfl h1 x y hs hh hi ho hh2 hq hq2).imp fun (C, e) _ => ⟨(C, e), rfl, trivial, fun h q => by rw [List.length_set, hl]; exact q⟩
          · exact (rRenS r m s A L.length c q B K.length d L rfl h1 x y hs hh hi ho hq K rfl hF).imp fun _ _ => ⟨(A, c), rfl, trivial, fun h q => q⟩
        | false =>
          rw [if_neg (by decide)]
          have hl2 : (insF (L.eraseIdx (posF L x)) ⟨y, L[posF L x].d, L[posF L x].s⟩).length = L.length - 1 + 1 := by rw [insF_len, hl]
          refine liftR m s L fl K false _ hfl (fun A c lf B d => ?_) (fun A c B d q hq hq2 => ?_) (fun A c B d q hq => ?_)
          · exact (rRenFN r m s A L.length c lf B K.length d L rfl h1 x y hs hh hi ho hh2).imp fun (C, e) _ => ⟨(C, e), rfl, trivial, fun h q => by rw [hl2]; exact q⟩
          · exact (rRenFG r m s A L.length c q B K.length d L rfl h1 x y hs hh hi ho hh2 hq hq2).imp fun (C, e) _ => ⟨(C, e), rfl, trivial, fun h q => by rw [hl2]; exact q⟩
          · exact (rRenS r m s A L.length c q B K.length d L rfl h1 x y hs hh hi ho hq K rfl hF).imp fun _ _ => ⟨(A, c), rfl, trivial, fun h q => q⟩
theorem qApp (r : Nat) (D : DK) (x y : ByteArray) (hD : okD D) (hy : y.size ≤ 100000000) : Triple Try.prog 51 [.pointer (some ⟨r, 0, none⟩), .string x, .string y] [RefD r D] [] Unit (fun _ => .int .i64 (appD D x y).2) (fun _ => True) (fun _ => [RefD r (appD D x y).1]) := by
  have hF := hD.okF
  have hs := hD.rise
  have hm := hD.most.1
  have hm2 := hD.most.2
  have hfew := hD.few
  have hroom := hD.room
  have h1 : D.files.length ≤ 1000 := Nat.le_trans hD.few (by decide)
  have hfl := hD.fails
  obtain ⟨m, s, dn, L, fl, K⟩ := D
  replace hF : okF L := hF
  replace hs : riseF L := hs
  replace hm : 0 < m := hm
  replace hm2 : m ≤ 1048576 := hm2
  replace hfew : L.length ≤ 16 := hfew
  replace hroom : (sumD L : Int) ≤ m := hroom
  replace h1 : L.length ≤ 1000 := h1
  simp only [appD]
  have hb : sumD L ≤ 1000000000 := by omega
  cases dn with
  | true => exact liftRPt ⟨m, s, true, L, fl, K⟩ [] fun A c st lf B d => rAppDown r m s A L.length c st lf B K.length d x y
  | false =>
    simp only [Bool.false_eq_true, if_false]
    cases ho : oddS x with
    | true => exact liftRPt ⟨m, s, false, L, fl, K⟩ [] fun A c st lf B d => rAppArg r m s A L.length c st lf B K.length d x y ho
    | false =>
      rw [if_neg (by decide)]
      cases hh : hasF L x with
      | true =>
        obtain ⟨hi, _⟩ := has_pos hs hh
        have ha : appF L x y = L.set (posF L x) ⟨L[posF L x].n, L[posF L x].d ++ y, L[posF L x].s⟩ := by
          unfold appF
          rw [if_pos hh, setF_eq hi]
        by_cases hz : m - sumD L < (y.size : Int)
        · rw [if_pos (.inr hz)]
          exact liftRAsk ⟨m, s, false, L, fl, K⟩ [] fun A c st lf B d => rAppFull2T r m s A L.length c st lf B K.length d L rfl h1 x y hs ho hm hm2 hb hh hz
        · rw [if_neg (by rintro (⟨h, _⟩ | h); · cases h
                         · exact hz h), ha]
          have hy2 : (y.size : Int) ≤ m - sumD L := by omega
          have hz2 : L[posF L x].d.size + y.size ≤ 1000000000 := by
            have := sumD_mem (List.getElem_mem hi)
            omega
          have hF2 : okF (L.set (posF L x) ⟨L[posF L x].n, L[posF L x].d ++ y, L[posF L x].s⟩) := fun f hf => by
            rcases List.mem_or_eq_of_mem_set hf with hf | rfl
            · exact hF f hf
            · have := hF _ (List.getElem_mem hi)
              simp only [ByteArray.size_append]
              omega
          refine liftR m s L fl K true _ hfl (fun A c lf B d => ?_) (fun A c B d q hq hq2 => ?_) (fun A c B d q hq => ?_)
          · exact (rAppTN r m s A L.length c lf B K.length d L rfl h1 x y hs ho hb hm2 hy2 hh hi).imp fun _ _ => ⟨(A, c), rfl, trivial, fun h q => by rw [List.length_set]; exact q⟩
          · exact (rAppTG r m s A L.length c q B K.length d L rfl h1 x y hs ho hb hm2 hy2 hh hi hq hq2).imp fun _ _ => ⟨(A, c), rfl, trivial, fun h q => by rw [List.length_set]; exact q⟩
          · exact (rAppTS r m s A L.length c q B K.length d L rfl h1 x y hs ho hb hm2 hy2 hh hi hq K rfl hF2).imp fun _ _ => ⟨(A, c), rfl, trivial, fun h q => by rw [if_pos rfl, List.length_set]; exact q⟩
      | false =>
        by_cases h16 : L.length = 16
        · rw [if_pos (.inl ⟨rfl, h16⟩)]
          exact liftRAsk ⟨m, s, false, L, fl, K⟩ [] fun A c st lf B d => rAppFull1 r m s A L.length c st lf B K.length d L rfl h1 x y hs ho hh h16
        · have h16' : L.length < 16 := by omega
          by_cases hz : m - sumD L < (y.size : Int)
          · rw [if_pos (.inr hz)]
            exact liftRAsk ⟨m, s, false, L, fl, K⟩ [] fun A c st lf B d => rAppFull2F r m s A L.length c st lf B K.length d L rfl h1 x y hs ho hm hm2 hb hh h16' hz
          · have ha : appF L x y = insF L ⟨x, y, 0⟩ := by
              unfold appF
              rw [if_neg (by rw [hh]; decide)]
            rw [if_neg (by rintro (⟨_, h⟩ | h); · exact h16 h
                           · exact hz h), ha]
            have hy2 : (y.size : Int) ≤ m - sumD L := by omega
            have hF2 : okF (insF L ⟨x, y, 0⟩) := fun f hf => by
              rcases insF_mem hf with rfl | hf
              · exact ⟨Int.le_refl _, Int.natCast_nonneg _, by simp only; omega⟩
              · exact hF f hf
            have hl := insF_len L ⟨x, y, 0⟩
            refine liftR m s L fl K true _ hfl (fun A c lf B d => ?_) (fun A c B d q hq hq2 => ?_) (fun A c B d q hq => ?_)
            · exact (rAppFN r m s A L.length c lf B K.length d L rfl h1 x y hs ho hb hm2 hy2 hh h16').imp fun (A2, c2) _ => ⟨(A2, c2), rfl, trivial, fun h q => by rw [hl]; exact q⟩
            · exact (rAppFG r m s A L.length c q B K.length d L rfl h1 x y hs ho hb hm2 hy2 hh h16' hq hq2).imp fun (A2, c2) _ => ⟨(A2, c2), rfl, trivial, fun h q => by rw [hl]; exact q⟩
            · exact (rAppFS r m s A L.length c q B K.length d L rfl h1 x y hs ho hb hm2 hy2 hh h16' hq K rfl hF2).imp fun (A2, c2) _ => ⟨(A2, c2), rfl, trivial, fun h q => by rw [if_pos rfl, hl]; exact q⟩
theorem qRead (r : Nat) (D : DK) (x : ByteArray) (hD : okD D) : Triple Try.prog 21 [.pointer (some ⟨r, 0, none⟩), .string x] [RefD r D] [] Unit (fun _ => .tuple #[.string (readD D x).1, .int .i64 (readD D x).2]) (fun _ => True) (fun _ => [RefD r D]) := by
  have hs := hD.rise
  have h1 : D.files.length ≤ 1000 := Nat.le_trans hD.few (by decide)
  obtain ⟨m, s, dn, L, fl, K⟩ := D
  simp only [readD]
  cases dn with
  | true => exact liftRPt ⟨m, s, true, L, fl, K⟩ [] fun A c st lf B d => rReadDown r m s A L.length c st lf B K.length d x
  | false =>
    simp only [Bool.false_eq_true, if_false]
    cases hh : hasF L x with
    | false => exact liftRAsk ⟨m, s, false, L, fl, K⟩ [] fun A c st lf B d => rReadGone r m s A L.length c st lf B K.length d L rfl h1 x hs hh
    | true =>
      obtain ⟨hi, _⟩ := has_pos hs hh
      rw [if_pos rfl, getF_eq hi]
      exact liftRAsk ⟨m, s, false, L, fl, K⟩ [] fun A c st lf B d => rRead r m s A L.length c st lf B K.length d L rfl h1 x hs hh hi
theorem qSize (r : Nat) (D : DK) (hD : okD D) : Triple Try.prog 24 [.pointer (some ⟨r, 0, none⟩)] [RefD r D] [] Unit (fun _ => .int .i64 (sumD D.files : Nat)) (fun _ => True) (fun _ => [RefD r D]) := by
  have hr := hD.room
  have hm2 := hD.most.2
  exact liftRAsk D [] fun A c st lf B d => rSize r D.most D.starts D.down A D.files.length c st lf B D.keep.length d D.files rfl (Nat.le_trans hD.few (by decide)) (by omega)
theorem qNames (r : Nat) (D : DK) (hD : okD D) : Triple Try.prog 22 [.pointer (some ⟨r, 0, none⟩)] [RefD r D] [] (Option Addr × Nat) (fun (C, e) => .slice C D.files.length e) (fun _ => True) (fun (C, e) => [RefD r D, Row 9 1 C D.files.length e ((D.files.map nameEG).flatMap encS)]) :=
  Triple.pre RefD.pre fun ⟨A, c, lf, B, d⟩ => ((rNames r D.most D.starts D.down A D.files.length c D.fails.isSome (D.fails.getD lf) B D.keep.length d D.files rfl (Nat.le_trans hD.few (by decide))).frame [rowN B D.keep.length d D.keep]).imp fun (C, e) _ => ⟨(C, e), rfl, trivial, fun h q => by
    obtain ⟨h1, h2, d1, a, b, p1, p2⟩ := (starH_append [_, _, _] [_]).1 (starH_tail (fun h q => starH_tail (fun h q => starH_swap q) q) q)
    exact ⟨h1, h2, d1, a, b, starH_one.1 (RefD.put ⟨A, c, lf, B, d⟩ p1), p2⟩⟩
theorem qLeft (r : Nat) (D : DK) (hD : okD D) : Triple Try.prog 23 [.pointer (some ⟨r, 0, none⟩)] [RefD r D] [] (Option Addr × Nat) (fun (C, e) => .slice C D.files.length e) (fun _ => True) (fun (C, e) => [RefD r D, Row 3 1 C D.files.length e ((D.files.map leftEG).flatMap encN)]) :=
  Triple.pre RefD.pre fun ⟨A, c, lf, B, d⟩ => ((rLeft r D.most D.starts D.down A D.files.length c D.fails.isSome (D.fails.getD lf) B D.keep.length d D.files rfl (Nat.le_trans hD.few (by decide)) hD.okF).frame [rowN B D.keep.length d D.keep]).imp fun (C, e) _ => ⟨(C, e), rfl, trivial, fun h q => by
    obtain ⟨h1, h2, d1, a, b, p1, p2⟩ := (starH_append [_, _, _] [_]).1 (starH_tail (fun h q => starH_tail (fun h q => starH_swap q) q) q)
    exact ⟨h1, h2, d1, a, b, starH_one.1 (RefD.put ⟨A, c, lf, B, d⟩ p1), p2⟩⟩
theorem qCrash (r : Nat) (D : DK) (Q : Option Addr) (kq dq : Nat) (K : List Int) (hD : okD D) (hk : kq = K.length) : Triple Try.prog 48 [.pointer (some ⟨r, 0, none⟩), .slice Q kq dq] [RefD r D] [Rd 1 Q kq (K.flatMap encN)] Unit (fun _ => .int .i64 (crashD D K).2) (fun _ => True) (fun _ => [RefD r (crashD D K).1]) := by
  have hF := hD.okF
  have h1 : D.files.length ≤ 1000 := Nat.le_trans hD.few (by decide)
  obtain ⟨m, s, dn, L, fl, K0⟩ := D
  simp only [crashD]
  cases dn with
  | true => exact (liftRPt ⟨m, s, true, L, fl, K0⟩ [] fun A c st lf B d => rCrashDown r m s A L.length c st lf B K0.length d Q kq dq).reads (fun _ h => (by cases h))
  | false =>
    simp only [Bool.false_eq_true, if_false]
    refine Triple.pre RefD.pre fun ⟨A, c, lf, B, d⟩ => ((rCrash r m s A L.length c fl.isSome (fl.getD lf) B K0.length d L rfl h1 Q kq dq K hk hF).frame [rowN B K0.length d K0]).imp fun _ _ => ⟨(), rfl, trivial, fun h q => RefD.put ⟨A, c, fl.getD lf, B, d⟩ ?_⟩
    unfold refL
    simp only [crashF_len]
    exact q
theorem qStart (r : Nat) (D : DK) (h0 : 0 ≤ D.starts) (h1 : D.starts ≤ 1000000000) : Triple Try.prog 49 [.pointer (some ⟨r, 0, none⟩)] [RefD r D] [] Unit (fun _ => .int .i64 (startD D).2) (fun _ => True) (fun _ => [RefD r (startD D).1]) := by
  obtain ⟨m, s, dn, L, fl, K⟩ := D
  simp only [startD]
  cases dn with
  | false => exact liftRPt ⟨m, s, false, L, fl, K⟩ [] fun A c st lf B d => rStartUp r m s A L.length c st lf B K.length d
  | true => exact Triple.pre RefD.pre fun ⟨A, c, lf, B, d⟩ => ((rStartDown r m s A L.length c fl.isSome (fl.getD lf) B K.length d h0 h1).frame _).imp fun _ _ => ⟨(), rfl, trivial, fun h q => RefD.put ⟨A, c, lf, B, d⟩ q⟩
theorem qFail (r : Nat) (D : DK) (z : Int) (Q : Option Addr) (kq dq : Nat) (K : List Int) (hk : kq = K.length) (hk2 : kq ≤ 100000) : Triple Try.prog 50 [.pointer (some ⟨r, 0, none⟩), .int .i64 z, .slice Q kq dq] [RefD r D] [Rd 1 Q kq (K.flatMap encN)] Unit (fun _ => .int .i64 (failD D z K).2) (fun _ => True) (fun _ => [RefD r (failD D z K).1]) := by
  obtain ⟨m, s, dn, L, fl, K0⟩ := D
  simp only [failD]
  cases dn with
  | true => exact (liftRPt ⟨m, s, true, L, fl, K0⟩ [] fun A c st lf B d => rFailDown r m s A L.length c st lf B K0.length d z Q kq dq).reads (fun _ h => (by cases h))
  | false =>
    simp only [Bool.false_eq_true, if_false]
    by_cases hz : z < 0
    · rw [if_pos hz]
      exact (liftRPt ⟨m, s, false, L, fl, K0⟩ [] fun A c st lf B d => rFailArg r m s A L.length c st lf B K0.length d z Q kq dq hz).reads (fun _ h => (by cases h))
    · rw [if_neg hz]
      refine Triple.pre RefD.pre fun ⟨A, c, lf, B, d⟩ => ((rFailOk r m s A L.length c fl.isSome (fl.getD lf) B K0.length d z Q kq dq K (by omega) hk hk2).frame [rowR A L.length c L, rowN B K0.length d K0]).imp fun (B2, d2) _ => ⟨(), rfl, trivial, fun h q => RefD.put ⟨A, c, z, B2, d2⟩ ?_⟩
      subst hk
      exact starH_drop [_, _, _] _ [] (starH_tail (fun h q => starH_swap q) q)
theorem qNew (z : Int) (hz : 1 ≤ z) (hz2 : z ≤ 1048576) : Triple Try.prog 17 [.int .i64 z] [] [] Nat (fun p => .tuple #[.pointer (some ⟨p, 0, none⟩), .int .i64 0]) (fun _ => True) (fun p => [RefD p ⟨z, 0, false, [], none, []⟩]) :=
  (rNewOk z hz hz2).imp fun p _ => ⟨p, rfl, trivial, fun h q => RefD.put ⟨none, 0, 0, none, 0⟩ ⟨h, Hp.emp, (Hp.emp_dis _).symm, Hp.le_refl _, Hp.emp_le _, starH_one.1 q, ⟨Hp.emp, Hp.emp, Hp.emp_dis _, Hp.emp_le _, Hp.emp_le _, Row.nil _ _ _, starH_one.2 (Row.nil _ _ _)⟩⟩⟩
end Go.Proofs.Ythknokcgclcbmaa

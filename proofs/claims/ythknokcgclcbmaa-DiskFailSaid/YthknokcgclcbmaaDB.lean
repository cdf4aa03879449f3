/-
  What is proved: a file is put among others. Conditions: none.
-/
import Derived.Test.YthknokcgclcbmaaDA
namespace Go.Proofs.Ythknokcgclcbmaa
open Go.Sy

theorem ins_grow {α : Type} {L : List α} {n i : Nat} (x z : α) (hn : n = L.length) (hi : i < n) :
    ((L.take i ++ List.replicate (n + 1 - i) z).take i ++ [x].take 1 ++ (L.take i ++ List.replicate (n + 1 - i) z).drop (i + 1)).take (i + 1) ++ ((L.take (i + (n - i))).drop i).take (n - i) ++
      ((L.take i ++ List.replicate (n + 1 - i) z).take i ++ [x].take 1 ++ (L.take i ++ List.replicate (n + 1 - i) z).drop (i + 1)).drop (i + 1 + (n - i)) = L.take i ++ x :: L.drop i := by
  have h1 : (L.take i ++ List.replicate (n + 1 - i) z).take i = L.take i := by
    rw [List.take_append_of_le_length (by rw [List.length_take]; omega), List.take_take, Nat.min_self]
  have hl : (L.take i).length = i := by rw [List.length_take]; omega
  rw [h1, show i + (n - i) = L.length by omega, List.take_length, show [x].take 1 = [x] from rfl]
  have h2 : (L.take i ++ [x]).length = i + 1 := by rw [List.length_append, hl]; rfl
  have h3 : ((L.take i ++ [x] ++ (L.take i ++ List.replicate (n + 1 - i) z).drop (i + 1)).take (i + 1)) = L.take i ++ [x] := by
    rw [← h2, List.take_append_of_le_length (Nat.le_refl _), List.take_length]
  have h4 : (L.drop i).take (n - i) = L.drop i := List.take_of_length_le (by rw [List.length_drop]; omega)
  have h5 : (L.take i ++ [x] ++ (L.take i ++ List.replicate (n + 1 - i) z).drop (i + 1)).drop (i + 1 + (n - i)) = [] := List.drop_of_length_le (by
    rw [List.length_append, h2, List.length_drop, List.length_append, hl, List.length_replicate]
    omega)
  rw [h3, h4, h5]
  simp
theorem ins_room {α : Type} {L : List α} {n i : Nat} (x : α) (hn : n = L.length) (hi : i < n) :
    (L.take (i + 1) ++ L.drop i).take i ++ [x].take 1 ++ (L.take (i + 1) ++ L.drop i).drop (i + 1) = L.take i ++ x :: L.drop i := by
  have hl : (L.take (i + 1)).length = i + 1 := by rw [List.length_take]; omega
  rw [List.take_append_of_le_length (by omega), List.take_take, Nat.min_eq_left (by omega), List.drop_append, List.drop_of_length_le (by omega), hl, Nat.sub_self, List.drop_zero]
  simp
set_option maxRecDepth 100000 in
theorem insertF (A : Option Addr) (L : List Fl) (n c i vb : Nat) (x : Fl) (hn : n = L.length) (h1 : n ≤ 1000) (hi : i ≤ n) :
    Triple Try.prog 63 [.slice A n c, .int .i64 i, .slice (some ⟨vb, 0, none⟩) 1 1] [Row 71 3 A n c (L.flatMap encF), Pt vb 71 (encF x)] [] (Option Addr × Nat) (fun (B, d) => .slice B (n + 1) d) (fun _ => True)
      (fun (B, d) => [Row 71 3 B (n + 1) d ((L.take i ++ x :: L.drop i).flatMap encF)]) := by
  refine triple_intro Try.tbs_ok Try.func63 rfl [.va (.slice A n c), .va (.int .i64 i), .sl 1 vb 0 1 1] [.fact (Row 71 3 A n c (L.flatMap encF)), .box vb 71 [.va (.string x.n), .va (.string x.d), .va (.int .i64 x.s)]] ⟨trivial, trivial, rfl, trivial⟩ rfl (by simp [SV.good, SV.goodL]) ?_
  intro E
  refine go_know (.inr 0) (Row 71 3 A n c (L.flatMap encF)) rfl (p := n ≤ c) (fun _ p => Row.cap p) fun hc => ?_
  refine go Try.tbs_ok 1000 ?_
  refine ev_stop (go_back Try.tbs_ok (i) (n) (c) rfl rfl rfl rfl rfl ⟨_, rfl⟩ rfl rfl (by decide) (by omega) (by omega) (by omega) ?_)
  refine go Try.tbs_ok 1000 ?_
  refine ev_if_no rfl ?_
  refine go Try.tbs_ok 1000 ?_
  refine ev_if_eq (fun h0 => ?_) (fun h0 => ?_)
  refine go Try.tbs_ok 1000 ?_
  refine ev_stop (go_appendE (sz := 3) (M := [_]) (enc := encF) Try.tbs_ok [0] [] (.inr 1) (L) ([x]) ((L) ++ ([x])) (n + 1) rfl rfl rfl rfl rfl rfl rfl (by decide) rfl (by decide) (fun _ p => starH_one.1 p) rfl (fun _ p => Pt.rd p rfl) (by first | rfl | simp) (by first | rfl | omega) (le_app (s := n + 1) (by omega) (by first | rfl | omega)) (le_appb (s := n + 1) (by omega) (by first | rfl | omega) (by decide)) (fun _ _ => (by repeat (first | exact trivial | refine ⟨rfl, ?_⟩))) (fun A1 c2 h3 => ?_))
  refine go Try.tbs_ok 1000 ?_
  rotate_left
  refine go Try.tbs_ok 1000 ?_
  refine ev_wrapN (n + 1) (by constructor <;> omega) (by rfl) ?_
  refine ev_stop (go_cap Try.tbs_ok rfl rfl rfl rfl ?_)
  refine go Try.tbs_ok 1000 ?_
  refine ev_if_lt (fun h4 => ?_) (fun h4 => ?_)
  refine go Try.tbs_ok 1000 ?_
  refine ev_stop (go_front Try.tbs_ok (i) (c) rfl rfl rfl rfl rfl rfl ⟨_, rfl⟩ rfl (by decide) (by omega) (by omega) ?_)
  refine go Try.tbs_ok 1000 ?_
  refine ev_wrapN (n + 1) (by constructor <;> omega) (by rfl) ?_
  refine ev_wrapN (n + 1 - i) (by constructor <;> omega) (by omega) ?_
  refine ev_stop (go_appendZ (sz := 3) (enc := encF) Try.tbs_ok (.inr 0) (((L).take (i))) ((((L).take (i))) ++ List.replicate (n + 1 - i) ({ n := ByteArray.empty, d := ByteArray.empty, s := 0 : Fl })) ({ n := ByteArray.empty, d := ByteArray.empty, s := 0 : Fl }) (i + (n + 1 - i)) rfl rfl rfl rfl rfl rfl rfl rfl (by decide) (fun _ => rfl) rfl rfl rfl (fun _ h => rd_take (k := i) (fun _ => rfl) (Row.rd h) (by omega)) (by omega) (by omega) rfl (by first | rfl | omega) (le_max (by omega)) (le_appb (s := i + (n + 1 - i)) (by omega) (by first | rfl | omega) (by decide)) (fun _ _ => (by repeat (first | exact trivial | refine ⟨rfl, ?_⟩))) (fun b5 c6 h7 => ?_))
  refine go Try.tbs_ok 1000 ?_
  refine ev_stop (go_back Try.tbs_ok (i) (i + (n + 1 - i)) (c6) rfl rfl rfl rfl rfl ⟨_, rfl⟩ rfl rfl (by decide) (by omega) (by omega) (by omega) ?_)
  refine go Try.tbs_ok 1000 ?_
  refine ev_stop (go_copyE (sz := 3) (enc := encF) Try.tbs_ok 2 (i) (1) (.inr 1) (List.take i L ++ List.replicate (n + 1 - i) { n := ByteArray.empty, d := ByteArray.empty, s := 0 : Fl }) ([x]) ((List.take i L ++ List.replicate (n + 1 - i) { n := ByteArray.empty, d := ByteArray.empty, s := 0 : Fl }).take (i) ++ ([x]).take (1) ++ (List.take i L ++ List.replicate (n + 1 - i) { n := ByteArray.empty, d := ByteArray.empty, s := 0 : Fl }).drop ((i) + (1))) rfl rfl rfl rfl rfl rfl rfl (by decide) rfl (backA_at (by omega)) rfl (fun _ p => Pt.rd p rfl) (fun _ => rfl) (by first | rfl | (show _ = min _ _; omega)) (by omega) rfl ?_)
  refine go Try.tbs_ok 1000 ?_
  refine ev_stop (go_draw Try.tbs_ok false [] [(0,true),(1,true),(2,true),(3,true),(4,true),(5,true),(6,true),(7,true),(8,false)] rfl ?_)
  refine go Try.tbs_ok 1000 ?_
  refine ev_need ⟨⟨(by repeat (first | exact trivial | refine ⟨rfl, ?_⟩)), rfl⟩, by kernel_rfl⟩ ?_
  refine ev_wrapN (i + 1) (by constructor <;> omega) (by rfl) ?_
  refine ev_stop (tk_back Try.tbs_ok (i + 1) (i + (n + 1 - i)) (c6) ⟨⟨(by repeat (first | exact trivial | refine ⟨rfl, ?_⟩)), rfl⟩, by kernel_rfl⟩ rfl rfl rfl rfl rfl rfl ⟨_, rfl⟩ rfl rfl (by decide) (by omega) (by omega) (by omega) ?_)
  refine go Try.tbs_ok 1000 ?_
  refine ev_need ⟨⟨(by repeat (first | exact trivial | refine ⟨rfl, ?_⟩)), rfl⟩, by kernel_rfl⟩ ?_
  refine ev_stop (tk_back Try.tbs_ok (i) (n) (c) ⟨⟨(by repeat (first | exact trivial | refine ⟨rfl, ?_⟩)), rfl⟩, by kernel_rfl⟩ rfl rfl rfl rfl rfl rfl ⟨_, rfl⟩ rfl rfl (by decide) (by omega) (by omega) (by omega) ?_)
  refine go Try.tbs_ok 1000 ?_
  refine ev_need ⟨⟨(by repeat (first | exact trivial | refine ⟨rfl, ?_⟩)), rfl⟩, by kernel_rfl⟩ ?_
  refine ev_stop (go_copyE (sz := 3) (enc := encF) Try.tbs_ok 2 (i + 1) (n - i) (.inr 0) (List.take i (List.take i L ++ List.replicate (n + 1 - i) { n := ByteArray.empty, d := ByteArray.empty, s := 0 : Fl }) ++ List.take 1 [x] ++ List.drop (i + 1) (List.take i L ++ List.replicate (n + 1 - i) { n := ByteArray.empty, d := ByteArray.empty, s := 0 : Fl })) ((((L).take ((i) + (n - i))).drop (i))) ((List.take i (List.take i L ++ List.replicate (n + 1 - i) { n := ByteArray.empty, d := ByteArray.empty, s := 0 : Fl }) ++ List.take 1 [x] ++ List.drop (i + 1) (List.take i L ++ List.replicate (n + 1 - i) { n := ByteArray.empty, d := ByteArray.empty, s := 0 : Fl })).take (i + 1) ++ ((((L).take ((i) + (n - i))).drop (i))).take (n - i) ++ (List.take i (List.take i L ++ List.replicate (n + 1 - i) { n := ByteArray.empty, d := ByteArray.empty, s := 0 : Fl }) ++ List.take 1 [x] ++ List.drop (i + 1) (List.take i L ++ List.replicate (n + 1 - i) { n := ByteArray.empty, d := ByteArray.empty, s := 0 : Fl })).drop ((i + 1) + (n - i))) rfl rfl rfl rfl rfl rfl rfl (by decide) rfl (backA_at (by omega)) rfl (fun _ h => rd_part (lo := i) (m := n - i) (fun _ => rfl) (Row.rd h) (by omega) (by omega)) (fun _ => rfl) (by first | rfl | (show _ = min _ _; omega)) (by omega) rfl ?_)
  refine go Try.tbs_ok 1000 ?_
  refine ev_need (by kernel_rfl) ?_
  rotate_left
  refine go Try.tbs_ok 1000 ?_
  refine ev_wrapN (n + 1) (by constructor <;> omega) (by rfl) ?_
  refine ev_stop (go_front Try.tbs_ok (n + 1) (c) rfl rfl rfl rfl rfl rfl ⟨_, rfl⟩ rfl (by decide) (by omega) (by omega) ?_)
  refine go Try.tbs_ok 1000 ?_
  refine ev_wrapN (i + 1) (by constructor <;> omega) (by rfl) ?_
  refine ev_stop (go_back Try.tbs_ok (i + 1) (n + 1) (c) rfl rfl rfl rfl rfl ⟨_, rfl⟩ rfl rfl (by decide) (by omega) (by omega) (by omega) ?_)
  refine go Try.tbs_ok 1000 ?_
  rotate_left
  · have e : L ++ [x] = L.take i ++ x :: L.drop i := by
      rw [show i = L.length by omega, List.take_length, List.drop_length]
    rw [e]
    refine ev_fin ⟨trivial, _, rfl, ((A1, c2)), rfl, (by trivial), Frm.sel [0] rfl (by decide)⟩
  · rw [show i + (n + 1 - i) = n + 1 by omega, ins_grow x _ hn (by omega)]
    refine ev_fin ⟨trivial, _, rfl, ((some { block := b5, off := 0 : Addr }, c6)), rfl, (by trivial), Frm.sel [2] rfl (by decide)⟩
  · have hn0 : 0 < n := by omega
    refine ev_stop (go_know (.inr 0) (Row 71 3 A n c (L.flatMap encF)) rfl (p := ∃ g, A = some ⟨g, 0, none⟩) (fun h p => Row.at0 h p hn0) ?_)
    rintro ⟨g, rfl⟩
    refine go_overlaps (sz := 3) (c := c) (o := (i + 1) * 3) (lb := n + 1 - (i + 1)) (cb := c - (i + 1)) Try.tbs_ok 1 0 Try.func82 rfl rfl rfl rfl rfl rfl rfl (congrArg (fun z => Value.slice z _ _) (backA_at (by omega))) rfl rfl rfl (by decide) rfl rfl (by omega) ?_
    refine go Try.tbs_ok 1000 ?_
    refine ev_stop (go_draw Try.tbs_ok false [] [(0,true),(1,true),(2,true),(3,true),(4,true),(5,true),(6,true),(7,true),(8,false)] rfl ?_)
    refine go Try.tbs_ok 1000 ?_
    refine ev_need ⟨⟨(by repeat (first | exact trivial | refine ⟨rfl, ?_⟩)), rfl⟩, by kernel_rfl⟩ ?_
    refine ev_wrapN (i + 1) (by constructor <;> omega) (by rfl) ?_
    refine ev_stop (tk_back Try.tbs_ok (i + 1) (n + 1) (c) ⟨⟨(by repeat (first | exact trivial | refine ⟨rfl, ?_⟩)), rfl⟩, by kernel_rfl⟩ rfl rfl rfl rfl rfl rfl ⟨_, rfl⟩ rfl rfl (by decide) (by omega) (by omega) (by omega) ?_)
    refine go Try.tbs_ok 1000 ?_
    refine ev_need ⟨⟨(by repeat (first | exact trivial | refine ⟨rfl, ?_⟩)), rfl⟩, by kernel_rfl⟩ ?_
    refine ev_stop (tk_back Try.tbs_ok (i) (n + 1) (c) ⟨⟨(by repeat (first | exact trivial | refine ⟨rfl, ?_⟩)), rfl⟩, by kernel_rfl⟩ rfl rfl rfl rfl rfl rfl ⟨_, rfl⟩ rfl rfl (by decide) (by omega) (by omega) (by omega) ?_)
    refine go Try.tbs_ok 1000 ?_
    refine ev_need ⟨⟨(by repeat (first | exact trivial | refine ⟨rfl, ?_⟩)), rfl⟩, by kernel_rfl⟩ ?_
    refine ev_stop (go_copyX (sz := 3) (enc := encF) Try.tbs_ok 0 (i + 1) (n - i) (.inr 0) L (L.drop i) (L.take (i + 1) ++ L.drop i) rfl rfl rfl rfl rfl rfl rfl (by decide) rfl (backA_at (by omega)) rfl (fun _ h => by
      have := rd_part (enc := encF) (L := L) (n := n) (lo := i) (m := n - i) (mx := c) (fun _ => rfl) (Row.rd (show (Row 71 3 (some ⟨g, 0, none⟩) n c (L.flatMap encF)).holds _ from h)) (by omega) (by omega)
      rw [show i + (n - i) = L.length by omega, List.take_length] at this
      exact this) (fun _ => rfl) (by show _ = min _ _; omega) (by omega) (by omega) (by omega) (by omega) (n + 1) (by omega) rfl ?_)
    have hl2 : (L.take (i + 1) ++ L.drop i).length = n + 1 := by rw [List.length_append, List.length_take, List.length_drop]; omega
    refine go Try.tbs_ok 1000 ?_
    refine ev_need (by kernel_rfl) ?_
    refine ev_stop (go_back Try.tbs_ok (i) (n + 1) (c) rfl rfl rfl rfl rfl ⟨_, rfl⟩ rfl rfl (by decide) (by omega) (by omega) (by omega) ?_)
    refine go Try.tbs_ok 1000 ?_
    refine ev_stop (go_copyE (sz := 3) (enc := encF) Try.tbs_ok 0 (i) (1) (.inr 1) (List.take (i + 1) L ++ List.drop i L) ([x]) ((List.take (i + 1) L ++ List.drop i L).take (i) ++ ([x]).take (1) ++ (List.take (i + 1) L ++ List.drop i L).drop ((i) + (1))) rfl rfl rfl rfl rfl rfl rfl (by decide) rfl (backA_at (by omega)) rfl (fun _ p => Pt.rd p rfl) (fun _ => rfl) (by first | rfl | (show _ = min _ _; omega)) (by omega) rfl ?_)
    refine go Try.tbs_ok 1000 ?_
    rw [ins_room x hn (by omega)]
    refine ev_fin ⟨trivial, _, rfl, ((some { block := g, off := 0 : Addr }, c)), rfl, (by trivial), Frm.sel [0] rfl (by decide)⟩
end Go.Proofs.Ythknokcgclcbmaa

/-
  What is proved: a disk fails, and crashes. Conditions: none.
-/
import Derived.Test.YthknokcgclcbmaaDC
namespace Go.Proofs.Ythknokcgclcbmaa
open Go.Sy

/-- what stays of a file: of what is not synced, at most so much -/
def keep1 (k : Option Int) (f : Fl) : Fl :=
  match k with
  | some k => ⟨f.n, f.d.extract 0 (f.s + max 0 (min k ((f.d.size : Int) - f.s))).toNat, f.s + max 0 (min k ((f.d.size : Int) - f.s))⟩
  | none => ⟨f.n, f.d.extract 0 f.s.toNat, f.s⟩
def crashF (L : List Fl) (K : List Int) : List Fl := L.mapIdx fun i f => keep1 K[i]? f
/-- bytes that are synced are some of a file's -/
def okF (L : List Fl) : Prop := ∀ f ∈ L, 0 ≤ f.s ∧ f.s ≤ f.d.size ∧ f.d.size ≤ 1000000000
def failV (nb : Nat) : Value := .func (.func 58) #[] #[.pointer (some ⟨nb, 0, none⟩)]
theorem crashF_len (L : List Fl) (K : List Int) : (crashF L K).length = L.length := List.length_mapIdx
theorem crashF_at (L : List Fl) (K : List Int) {j : Nat} (hj : j < L.length) : (crashF L K)[j]'(by rw [crashF_len]; exact hj) = keep1 K[j]? L[j] := List.getElem_mapIdx
theorem crashF_step {L : List Fl} {K : List Int} {j : Nat} (hj : j < L.length) (f : Fl) (hf : f = keep1 K[j]? L[j]) : ((crashF L K).take j ++ L.drop j).set j f = (crashF L K).take (j + 1) ++ L.drop (j + 1) := by
  have hl : ((crashF L K).take j).length = j := by rw [List.length_take, crashF_len]; omega
  rw [List.set_append_right _ _ (by omega), hl, Nat.sub_self, List.drop_eq_getElem_cons hj, List.set_cons_zero, ← List.take_append_getElem (show j < (crashF L K).length by rw [crashF_len]; exact hj), crashF_at L K hj, hf, List.append_assoc]
  rfl
theorem crashF_get {L : List Fl} {K : List Int} {j : Nat} (hj : j < L.length) {hx : j < ((crashF L K).take j ++ L.drop j).length} : ((crashF L K).take j ++ L.drop j)[j] = L[j] := by
  have hl : ((crashF L K).take j).length = j := by rw [List.length_take, crashF_len]; omega
  rw [List.getElem_append_right (by omega), List.getElem_drop]
  congr 1
  omega
set_option maxRecDepth 100000 in
theorem failT (nb : Nat) (q : Int) (h0 : -1000 ≤ q) (h1 : q ≤ 9223372036854775807) : Triple Try.prog 58 [.pointer (some ⟨nb, 0, none⟩)] [Pt nb 3 [.int .i64 q]] [] (Unit) (fun _ => .bool (decide (q - 1 < 0))) (fun _ => True) (fun _ => [Pt nb 3 [.int .i64 (q - 1)]]) := by
  refine triple_intro Try.tbs_ok Try.func58 rfl [.pt 0 nb 0] [.box nb 3 [.va (.int .i64 q)]] ⟨rfl, trivial⟩ rfl (by simp [SV.good, SV.goodL]) ?_
  intro E
  refine go Try.tbs_ok 1000 ?_
  refine ev_w64 (by constructor <;> omega) ?_
  refine ev_fin ⟨trivial, _, rfl, (()), rfl, (by trivial), Frm.sel [0] rfl (by decide)⟩
set_option maxRecDepth 100000 in
theorem crashT (p : Nat) (m s : Int) (A : Option Addr) (n c : Nat) (fv : Value) (B : Option Addr) (k d : Nat) (L : List Fl) (Q : Option Addr) (kq dq : Nat) (K : List Int) (hm : 0 < m) (hn : n = L.length) (h1 : n ≤ 1000) (hq : kq = K.length) (hL : okF L) : Triple Try.prog 30 [.pointer (some ⟨p, 0, none⟩), .slice Q kq dq] [Pt p 53 [.int .i64 m, .int .i64 s, .bool false, .slice A n c, fv, .slice B k d], Row 71 3 A n c (L.flatMap encF)] [Rd 1 Q kq (K.flatMap encN)] (Unit) (fun _ => .int .i64 0) (fun _ => True) (fun _ => [Pt p 53 [.int .i64 m, .int .i64 s, .bool true, .slice A n c, .nilFunc, .slice B k d], Row 71 3 A n c ((crashF L K).flatMap encF)]) := by
  have T1 := askP p m s false A n c fv B k d hm
  refine triple_intro Try.tbs_ok Try.func30 rfl [.pt 0 p 0, .va (.slice Q kq dq)] [.box p 53 [.va (.int .i64 m), .va (.int .i64 s), .va (.bool false), .va (.slice A n c), .va fv, .va (.slice B k d)], .fact (Row 71 3 A n c (L.flatMap encF))] ⟨rfl, trivial, trivial⟩ rfl (by simp [SV.good, SV.goodL]) ?_
  intro E
  refine go Try.tbs_ok 1000 ?_
  refine ev_call (T1 ) [0] [] (fun v0_ => [.box (p) 53 [.va (Value.int IntKind.i64 m), .va (Value.int IntKind.i64 s), .bl false, .va (Value.slice A n c), .va (fv), .va (Value.slice B k d)]]) rfl rfl (by decide) rfl (by simp) (fun _ => rfl) (fun _ => (newsOk_box (by simp [SV.good, SV.goodL]) (newsOk_nil _))) (fun _ => (by repeat (first | exact trivial | refine ⟨rfl, ?_⟩))) (fun _ h0 => ?_)
  refine go Try.tbs_ok 1000 ?_
  refine ev_if_no rfl ?_
  refine go Try.tbs_ok 1000 ?_
  refine ev_stop (go_loopR [6, 7, 24, 25, 26, 27, 28, 29, 30, 31, 32, 33, 34, 35, 36, 37, 38, 39, 40, 41, 42, 43, 44, 45, 46, 47, 48, 49, 50, 51, 52, 53, 54, 55, 56, 57, 58, 59, 60, 61, 62, 63, 64, 65, 66, 67, 68, 69, 70, 71, 72] (fun j => [(24, .va (.int .i64 (j : Nat)))]) (fun j => [(1, .fact (Row 71 3 A n c (((crashF L K).take j ++ L.drop j).flatMap encF)))]) (fun j => j ≤ n) (fun j => n - j) (0 : Nat) (Nat.zero_le _) ⟨⟨by kernel_rfl, by kernel_rfl⟩, ⟨_, rfl⟩, ⟨_, rfl⟩, by kernel_rfl, by kernel_rfl⟩ (fun j hj => ?_))
  refine go Try.tbs_ok 1000 ?_
  refine ev_if_lt (fun hlt => ?_) (fun hge => ?_)
  · have hjn : j < L.length := by
      have : (j : Int) < (n : Int) := hlt
      omega
    have hf := hL _ (List.getElem_mem hjn)
    obtain ⟨C, hC⟩ : ∃ C, C = (crashF L K).take j ++ L.drop j := ⟨_, rfl⟩
    have hCl : C.length = n := by rw [hC, List.length_append, List.length_take, crashF_len, List.length_drop]; omega
    have hCj : C[j]'(by omega) = L[j] := by simp only [hC]; exact crashF_get hjn
    rw [← hCj] at hf
    rw [← hC]
    have hj2 : j < C.length := by omega
    have e1 : ∀ hK : j < K.length, C.set j (⟨C[j].n, C[j].d.extract 0 (C[j].s + max 0 (min K[j] ((C[j].d.size : Int) - C[j].s))).toNat, C[j].s + max 0 (min K[j] ((C[j].d.size : Int) - C[j].s))⟩ : Fl) = (crashF L K).take (j + 1) ++ L.drop (j + 1) := fun hK => by
      rw [hCj, hC]
      exact crashF_step hjn _ (by rw [List.getElem?_eq_getElem hK]; rfl)
    have e2 : ¬ j < K.length → C.set j (⟨C[j].n, C[j].d.extract 0 C[j].s.toNat, C[j].s⟩ : Fl) = (crashF L K).take (j + 1) ++ L.drop (j + 1) := fun hK => by
      rw [hCj, hC]
      exact crashF_step hjn _ (by rw [List.getElem?_eq_none (by omega)]; rfl)
    refine go Try.tbs_ok 1000 ?_
    refine ev_stop (go_index0 (sz := 3) Try.tbs_ok (.inr 1) (j) rfl rfl rfl rfl rfl rfl (by omega) rfl Row.at0 (fun g40 e41 => ?_))
    subst e41
    refine go Try.tbs_ok 1000 ?_
    refine ev_if_lt (fun h42 => ?_) (fun h42 => ?_)
    refine go Try.tbs_ok 1000 ?_
    refine ev_stop (go_draw Try.tbs_ok false [1] [(0,true),(1,true),(2,true),(3,true),(4,true),(5,true),(6,true),(7,true),(8,true),(9,true),(10,true),(11,true),(12,true),(13,true),(14,true),(15,true),(16,true),(17,true),(18,true),(19,true),(20,true),(21,true),(22,true),(23,false)] rfl ?_)
    refine go Try.tbs_ok 1000 ?_
    refine ev_need ⟨⟨(by repeat (first | exact trivial | refine ⟨rfl, ?_⟩)), rfl⟩, by kernel_rfl⟩ ?_
    have l43 : j < (C).length := (by omega)
    refine ev_stop (tk_loadE Try.tbs_ok (.inr 0) (j) 2 ⟨⟨(by repeat (first | exact trivial | refine ⟨rfl, ?_⟩)), rfl⟩, by kernel_rfl⟩ rfl rfl rfl rfl rfl (fun _ h => Row.rd h) (by omega) (fun _ => rfl) (by omega) l43 (by decide) ?_)
    refine go Try.tbs_ok 1000 ?_
    refine ev_need ⟨⟨(by repeat (first | exact trivial | refine ⟨rfl, ?_⟩)), rfl⟩, by kernel_rfl⟩ ?_
    refine ev_stop (tk_indexE (sz := 1) Try.tbs_ok (.inl 0) (j) ⟨⟨(by repeat (first | exact trivial | refine ⟨rfl, ?_⟩)), rfl⟩, by kernel_rfl⟩ rfl rfl rfl rfl rfl rfl rfl (by omega) rfl (fun _ h => h) (fun g44 o46 e45 => ?_))
    subst e45
    refine go Try.tbs_ok 1000 ?_
    refine ev_need ⟨⟨(by repeat (first | exact trivial | refine ⟨rfl, ?_⟩)), rfl⟩, by kernel_rfl⟩ ?_
    have l47 : j < (K).length := (by omega)
    refine ev_stop (tk_loadE Try.tbs_ok (.inl 0) (j) 0 ⟨⟨(by repeat (first | exact trivial | refine ⟨rfl, ?_⟩)), rfl⟩, by kernel_rfl⟩ rfl rfl rfl rfl rfl (fun _ h => h) (by omega) (fun _ => rfl) (by omega) l47 (by decide) ?_)
    refine go Try.tbs_ok 1000 ?_
    refine ev_need ⟨⟨(by repeat (first | exact trivial | refine ⟨rfl, ?_⟩)), rfl⟩, by kernel_rfl⟩ ?_
    have l48 : j < (C).length := (by omega)
    refine ev_stop (tk_loadE Try.tbs_ok (.inr 0) (j) 1 ⟨⟨(by repeat (first | exact trivial | refine ⟨rfl, ?_⟩)), rfl⟩, by kernel_rfl⟩ rfl rfl rfl rfl rfl (fun _ h => Row.rd h) (by omega) (fun _ => rfl) (by omega) l48 (by decide) ?_)
    refine go Try.tbs_ok 1000 ?_
    refine ev_need ⟨⟨(by repeat (first | exact trivial | refine ⟨rfl, ?_⟩)), rfl⟩, by kernel_rfl⟩ ?_
    have l49 : j < (C).length := (by omega)
    refine ev_stop (tk_loadE Try.tbs_ok (.inr 0) (j) 2 ⟨⟨(by repeat (first | exact trivial | refine ⟨rfl, ?_⟩)), rfl⟩, by kernel_rfl⟩ rfl rfl rfl rfl rfl (fun _ h => Row.rd h) (by omega) (fun _ => rfl) (by omega) l49 (by decide) ?_)
    refine go Try.tbs_ok 1000 ?_
    refine ev_need ⟨⟨(by repeat (first | exact trivial | refine ⟨rfl, ?_⟩)), rfl⟩, by kernel_rfl⟩ ?_
    refine ev_w64 (by constructor <;> omega) ?_
    refine ev_w64 (by constructor <;> omega) ?_
    have l50 : j < (C).length := (by omega)
    refine ev_stop (go_storeR Try.tbs_ok 1 (j) 2 ({ n := C[j].n, d := C[j].d, s := C[j].s + max 0 (min K[j] ((↑C[j].d.size : Int) - C[j].s)) : Fl }) rfl rfl rfl rfl rfl (by omega) (fun _ => rfl) (ones_of rfl) (by omega) l50 rfl (by decide) (ones_of rfl) rfl ?_)
    refine go Try.tbs_ok 1000 ?_
    refine ev_need (by kernel_rfl) ?_
    refine ev_stop (go_draw Try.tbs_ok false [1] [(0,true),(1,true),(2,true),(3,true),(4,true),(5,true),(6,true),(7,true),(8,true),(9,true),(10,true),(11,true),(12,false)] rfl ?_)
    refine go Try.tbs_ok 1000 ?_
    refine ev_need ⟨⟨(by repeat (first | exact trivial | refine ⟨rfl, ?_⟩)), rfl⟩, by kernel_rfl⟩ ?_
    have l51 : j < (C.set j { n := C[j].n, d := C[j].d, s := C[j].s + max 0 (min K[j] ((↑C[j].d.size : Int) - C[j].s)) : Fl }).length := (by (simp only [List.length_set] <;> omega))
    refine ev_stop (tk_loadE Try.tbs_ok (.inr 0) (j) 1 ⟨⟨(by repeat (first | exact trivial | refine ⟨rfl, ?_⟩)), rfl⟩, by kernel_rfl⟩ rfl rfl rfl rfl rfl (fun _ h => Row.rd h) (by omega) (fun _ => rfl) (by omega) l51 (by decide) ?_)
    refine go Try.tbs_ok 1000 ?_
    refine ev_need ⟨⟨(by repeat (first | exact trivial | refine ⟨rfl, ?_⟩)), rfl⟩, by kernel_rfl⟩ ?_
    have l52 : j < (C.set j { n := C[j].n, d := C[j].d, s := C[j].s + max 0 (min K[j] ((↑C[j].d.size : Int) - C[j].s)) : Fl }).length := (by omega)
    refine ev_stop (tk_loadE Try.tbs_ok (.inr 0) (j) 2 ⟨⟨(by repeat (first | exact trivial | refine ⟨rfl, ?_⟩)), rfl⟩, by kernel_rfl⟩ rfl rfl rfl rfl rfl (fun _ h => Row.rd h) (by omega) (fun _ => rfl) (by omega) l52 (by decide) ?_)
    refine go Try.tbs_ok 1000 ?_
    refine ev_need ⟨⟨(by repeat (first | exact trivial | refine ⟨rfl, ?_⟩)), rfl⟩, by kernel_rfl⟩ ?_
    refine ev_stop (go_slot 68 _ (.va (.int IntKind.i64 (((C.set j { n := C[j].n, d := C[j].d, s := C[j].s + max 0 (min K[j] ((↑C[j].d.size : Int) - C[j].s)) : Fl })[j].s.toNat : Nat) : Int))) rfl rfl (congrArg (fun z => Value.int IntKind.i64 z) (show (C.set j { n := C[j].n, d := C[j].d, s := C[j].s + max 0 (min K[j] ((↑C[j].d.size : Int) - C[j].s)) : Fl })[j].s = (((C.set j { n := C[j].n, d := C[j].d, s := C[j].s + max 0 (min K[j] ((↑C[j].d.size : Int) - C[j].s)) : Fl })[j].s.toNat : Nat) : Int) by first | omega | (simp only [List.getElem_set_self]; omega))) (fun _ => trivial) ?_)
    refine go Try.tbs_ok 1000 ?_
    refine ev_need ⟨⟨(by repeat (first | exact trivial | refine ⟨rfl, ?_⟩)), rfl⟩, by kernel_rfl⟩ ?_
    refine ev_stop (tk_sliceS Try.tbs_ok (0) ((C.set j { n := C[j].n, d := C[j].d, s := C[j].s + max 0 (min K[j] ((↑C[j].d.size : Int) - C[j].s)) : Fl })[j].s.toNat) ⟨⟨(by repeat (first | exact trivial | refine ⟨rfl, ?_⟩)), rfl⟩, by kernel_rfl⟩ rfl rfl rfl rfl rfl rfl ⟨_, rfl⟩ (by omega) (by (simp only [List.getElem_set_self]; omega)) ?_)
    refine go Try.tbs_ok 1000 ?_
    refine ev_need ⟨⟨(by repeat (first | exact trivial | refine ⟨rfl, ?_⟩)), rfl⟩, by kernel_rfl⟩ ?_
    have l53 : j < (C.set j { n := C[j].n, d := C[j].d, s := C[j].s + max 0 (min K[j] ((↑C[j].d.size : Int) - C[j].s)) : Fl }).length := (by omega)
    refine ev_stop (go_storeR Try.tbs_ok 1 (j) 1 ({ n := (C.set j { n := C[j].n, d := C[j].d, s := C[j].s + max 0 (min K[j] ((↑C[j].d.size : Int) - C[j].s)) : Fl })[j].n, d := (C.set j { n := C[j].n, d := C[j].d, s := C[j].s + max 0 (min K[j] ((↑C[j].d.size : Int) - C[j].s)) : Fl })[j].d.extract 0 (C.set j { n := C[j].n, d := C[j].d, s := C[j].s + max 0 (min K[j] ((↑C[j].d.size : Int) - C[j].s)) : Fl })[j].s.toNat, s := (C.set j { n := C[j].n, d := C[j].d, s := C[j].s + max 0 (min K[j] ((↑C[j].d.size : Int) - C[j].s)) : Fl })[j].s : Fl }) rfl rfl rfl rfl rfl (by omega) (fun _ => rfl) (ones_of rfl) (by omega) l53 rfl (by decide) (ones_of rfl) rfl ?_)
    refine go Try.tbs_ok 1000 ?_
    refine ev_need (by kernel_rfl) ?_
    refine ev_wrapN (j + 1) (by constructor <;> omega) (by rfl) ?_
    rotate_left
    refine go Try.tbs_ok 1000 ?_
    refine ev_stop (go_draw Try.tbs_ok false [1] [(0,true),(1,true),(2,true),(3,true),(4,true),(5,true),(6,true),(7,true),(8,true),(9,true),(10,true),(11,true),(12,false)] rfl ?_)
    refine go Try.tbs_ok 1000 ?_
    refine ev_need ⟨⟨(by repeat (first | exact trivial | refine ⟨rfl, ?_⟩)), rfl⟩, by kernel_rfl⟩ ?_
    have l54 : j < (C).length := (by omega)
    refine ev_stop (tk_loadE Try.tbs_ok (.inr 0) (j) 1 ⟨⟨(by repeat (first | exact trivial | refine ⟨rfl, ?_⟩)), rfl⟩, by kernel_rfl⟩ rfl rfl rfl rfl rfl (fun _ h => Row.rd h) (by omega) (fun _ => rfl) (by omega) l54 (by decide) ?_)
    refine go Try.tbs_ok 1000 ?_
    refine ev_need ⟨⟨(by repeat (first | exact trivial | refine ⟨rfl, ?_⟩)), rfl⟩, by kernel_rfl⟩ ?_
    have l55 : j < (C).length := (by omega)
    refine ev_stop (tk_loadE Try.tbs_ok (.inr 0) (j) 2 ⟨⟨(by repeat (first | exact trivial | refine ⟨rfl, ?_⟩)), rfl⟩, by kernel_rfl⟩ rfl rfl rfl rfl rfl (fun _ h => Row.rd h) (by omega) (fun _ => rfl) (by omega) l55 (by decide) ?_)
    refine go Try.tbs_ok 1000 ?_
    refine ev_need ⟨⟨(by repeat (first | exact trivial | refine ⟨rfl, ?_⟩)), rfl⟩, by kernel_rfl⟩ ?_
    refine ev_stop (go_slot 68 _ (.va (.int IntKind.i64 ((C[j].s.toNat : Nat) : Int))) rfl rfl (congrArg (fun z => Value.int IntKind.i64 z) (show C[j].s = ((C[j].s.toNat : Nat) : Int) by first | omega | (simp only [List.getElem_set_self]; omega))) (fun _ => trivial) ?_)
    refine go Try.tbs_ok 1000 ?_
    refine ev_need ⟨⟨(by repeat (first | exact trivial | refine ⟨rfl, ?_⟩)), rfl⟩, by kernel_rfl⟩ ?_
    refine ev_stop (tk_sliceS Try.tbs_ok (0) (C[j].s.toNat) ⟨⟨(by repeat (first | exact trivial | refine ⟨rfl, ?_⟩)), rfl⟩, by kernel_rfl⟩ rfl rfl rfl rfl rfl rfl ⟨_, rfl⟩ (by omega) (by omega) ?_)
    refine go Try.tbs_ok 1000 ?_
    refine ev_need ⟨⟨(by repeat (first | exact trivial | refine ⟨rfl, ?_⟩)), rfl⟩, by kernel_rfl⟩ ?_
    have l56 : j < (C).length := (by omega)
    refine ev_stop (go_storeR Try.tbs_ok 1 (j) 1 ({ n := C[j].n, d := C[j].d.extract 0 C[j].s.toNat, s := C[j].s : Fl }) rfl rfl rfl rfl rfl (by omega) (fun _ => rfl) (ones_of rfl) (by omega) l56 rfl (by decide) (ones_of rfl) rfl ?_)
    refine go Try.tbs_ok 1000 ?_
    refine ev_need (by kernel_rfl) ?_
    refine ev_wrapN (j + 1) (by constructor <;> omega) (by rfl) ?_
    rotate_left
    · simp only [List.getElem_set_self, List.set_set]
      rw [e1 (by omega)]
      refine ev_fin (round_next (j + 1) (show j + 1 ≤ n from (by omega)) (show n - (j + 1) < n - j from (by omega)) ⟨⟨by kernel_rfl, by kernel_rfl⟩, ⟨_, rfl⟩, ⟨_, rfl⟩, by kernel_rfl, by kernel_rfl⟩)
    · rw [e2 (by omega)]
      refine ev_fin (round_next (j + 1) (show j + 1 ≤ n from (by omega)) (show n - (j + 1) < n - j from (by omega)) ⟨⟨by kernel_rfl, by kernel_rfl⟩, ⟨_, rfl⟩, ⟨_, rfl⟩, by kernel_rfl, by kernel_rfl⟩)
  · obtain rfl : j = n := by
      have : ¬ (j : Int) < (n : Int) := hge
      omega
    have e : (crashF L K).take j ++ L.drop j = crashF L K := by
      rw [List.take_of_length_le (by rw [crashF_len]; omega), List.drop_of_length_le (by omega), List.append_nil]
    rw [e]
    refine go Try.tbs_ok 1000 ?_
    refine ev_fin (go Try.tbs_ok 1000 ?_)
    refine ev_fin ⟨trivial, _, rfl, (()), rfl, (by trivial), Frm.sel [0, 1] rfl (by decide)⟩
end Go.Proofs.Ythknokcgclcbmaa

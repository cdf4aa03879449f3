/-
  What is proved: NetsCopy's walk. Conditions: none.
-/
import Derived.Test.YteleepinalcjeaaNW
import Derived.Test.YteleepinalcjeaaNY
import Derived.Test.YteleepinalcjeaaSyl
namespace Go.Proofs.Yteleepinalcjeaa
open Go.Sy

theorem sameMailO (m : Msg) (A : Option Addr) (y : Item) (hn : m.es.length ≤ 1000000000) :
    Triple Try.prog 13 [(m.at A).val, y.val] [] [(m.at A).own, Rd 6 y.a y.es.length (y.es.flatMap encE)] Unit (fun _ => .bool (decide (m = y.msg))) (fun _ => True) (fun _ => []) :=
  (sameMail m.s y.s A y.a m.es y.es m.es.length y.c hn).reads fun X hX => by
    simp only [List.mem_cons, List.not_mem_nil, or_false] at hX
    rcases hX with rfl | rfl
    · exact ⟨_, List.mem_cons_self, fun _ q => Own.rd q⟩
    · exact ⟨_, List.mem_cons_of_mem _ List.mem_cons_self, fun _ q => q⟩
set_option maxHeartbeats 8000000 in
set_option maxRecDepth 100000 in
theorem netsCopy (A : Option Addr) (I : List Item) (c : Nat) (at' : Nat) (hat : at' < 256) :
    Triple Try.prog 8 [.slice A I.length c, .int .u8 at'] [] [Rd 18 A I.length (I.flatMap encI), AllRd I] Unit (fun _ => .bool true) (fun _ => True) (fun _ => []) := by
  refine triple_intro Try.tbs_ok Try.func8 rfl [.va (.slice A I.length c), .va (.int .u8 at')] [] ⟨trivial, trivial, trivial⟩ rfl (by simp) ?_
  intro E
  refine go Try.tbs_ok 1000 ?_
  refine ev_if_lt (fun h0 => ?_) (fun h0 => ?_)
  refine go Try.tbs_ok 1000 ?_
  refine ev_callF (works ) [] [] rfl rfl (by decide) rfl (by simp) (fun _ => (by repeat (first | exact trivial | refine ⟨rfl, ?_⟩))) (fun _ h1 => ?_)
  refine go Try.tbs_ok 1000 ?_
  refine ev_fin ⟨trivial, _, rfl, (()), rfl, (by trivial), Frm.nil _⟩
  refine go Try.tbs_ok 1000 ?_
  refine ev_if_eq (fun h2 => ?_) (fun h2 => ?_)
  refine go Try.tbs_ok 1000 ?_
  refine ev_callF (works ) [] [] rfl rfl (by decide) rfl (by simp) (fun _ => (by repeat (first | exact trivial | refine ⟨rfl, ?_⟩))) (fun _ h3 => ?_)
  refine go Try.tbs_ok 1000 ?_
  refine ev_fin ⟨trivial, _, rfl, (()), rfl, (by trivial), Frm.nil _⟩
  refine go Try.tbs_ok 1000 ?_
  refine ev_callF (mNew ) [] [] rfl rfl (by decide) rfl (by simp) (fun _ => (by repeat (first | exact trivial | refine ⟨rfl, ?_⟩))) (fun x4 h5 => ?_)
  refine go Try.tbs_ok 1000 ?_
  refine ev_stop (go_loopR [4, 6, 20, 21, 22, 23, 24, 25, 26, 27, 28, 29, 30, 31, 32, 33, 34, 35, 36, 37, 38, 39] (fun (i, _) => [(6, .va (.int .i64 (i : Nat)))]) (fun (_, lst) => [(0, .fact (NetM x4 lst))]) (fun (i, lst) => i ≤ I.length ∧ lst = (I.take i).map Item.msg ∧ ∀ y ∈ I.take i, y.es.length ≤ 4000) (fun (i, _) => I.length - i) ((0, []) : Nat × List Msg) ⟨Nat.zero_le _, rfl, (fun _ h => by simp at h)⟩ ⟨⟨by kernel_rfl, by kernel_rfl⟩, ⟨_, rfl⟩, ⟨_, rfl⟩, by kernel_rfl, by kernel_rfl⟩ (fun x_ h_ => ?_))
  obtain ⟨i, lst⟩ := x_
  obtain ⟨hi, hlst, hle⟩ := h_
  have hll : lst.length = i := by rw [hlst, List.length_map, List.length_take]; omega
  refine go Try.tbs_ok 1000 ?_
  refine ev_if_lt (fun hlt => ?_) (fun hge => ?_)
  · have hil : i < I.length := by
      have : (i : Int) < (I.length : Int) := hlt
      omega
    refine go_more 1 (AllRd I) (Rd 6 I[i].a I[i].es.length (I[i].es.flatMap encE)) rfl (fun h p => p _ (List.getElem_mem hil)) ?_
    refine go Try.tbs_ok 1000 ?_
    refine ev_stop (go_indexE (sz := 18) Try.tbs_ok (.inl 0) (i) rfl rfl rfl rfl rfl rfl (by omega) rfl (fun _ h => h) (fun g40 o42 e41 => ?_))
    subst e41
    refine go Try.tbs_ok 1000 ?_
    have l43 : i < (I).length := (by omega)
    refine ev_stop (go_loadE Try.tbs_ok (.inl 0) (i) 0 rfl rfl rfl rfl (fun _ h => h) (by omega) (fun _ => rfl) (by omega) l43 (by decide) ?_)
    refine go Try.tbs_ok 1000 ?_
    refine ev_new fun b44 => ?_
    refine ev_callF (greatOne (b44) (0) (I[i].s) (I[i].a) (I[i].es.length) (I[i].c) (0)) [] [.inr 1] rfl rfl (by decide) rfl (by simp) (fun _ => (by repeat (first | exact trivial | refine ⟨rfl, ?_⟩))) (fun _ h45 => ?_)
    refine go Try.tbs_ok 1000 ?_
    refine ev_if_lt (fun h46 => ?_) (fun h46 => ?_)
    refine go Try.tbs_ok 1000 ?_
    refine ev_fin ⟨trivial, _, rfl, (()), rfl, (by trivial), Frm.nil _⟩
    refine go Try.tbs_ok 1000 ?_
    refine ev_stop (go_atE (sz := 18) Try.tbs_ok (i) rfl rfl rfl rfl rfl rfl (by omega) ?_)
    refine go Try.tbs_ok 1000 ?_
    have l47 : i < (I).length := (by omega)
    refine ev_stop (go_loadE Try.tbs_ok (.inl 0) (i) 0 rfl rfl rfl rfl (fun _ h => h) (by omega) (fun _ => rfl) (by omega) l47 (by decide) ?_)
    refine go Try.tbs_ok 1000 ?_
    refine ev_callF (mSend (x4) (lst) (show lst.length < 512 from (by omega)) (I[i].s) (I[i].es) (I[i].a) (I[i].c) (show I[i].es.length ≤ 1000000000 from (by omega))) [0] [.inl 2] rfl rfl (by decide) rfl (by simp) (fun _ => (by repeat (first | exact trivial | refine ⟨rfl, ?_⟩))) (fun _ h48 => ?_)
    refine go Try.tbs_ok 1000 ?_
    refine ev_if_no rfl ?_
    refine go Try.tbs_ok 1000 ?_
    refine ev_wrapN (i + 1) (by constructor <;> omega) (by rfl) ?_
    refine ev_fin (round_next ((i + 1, lst ++ [{ s := I[i].s, es := I[i].es }])) (?_ : i + 1 ≤ I.length ∧ lst ++ [{ s := I[i].s, es := I[i].es }] = List.map Item.msg (List.take (i + 1) I) ∧ ∀ (y : Item), y ∈ List.take (i + 1) I → y.es.length ≤ 4000) (show I.length - (i + 1) < I.length - i from (by omega)) ⟨⟨by kernel_rfl, by kernel_rfl⟩, ⟨_, rfl⟩, ⟨_, rfl⟩, by kernel_rfl, by kernel_rfl⟩)
    refine ⟨by omega, ?_, fun y hy => ?_⟩
    · rw [hlst, ← List.take_append_getElem hil, List.map_append]
      rfl
    · rw [← List.take_append_getElem hil] at hy
      rcases List.mem_append.1 hy with hy | hy
      · exact hle y hy
      · rw [List.mem_singleton.1 hy]; omega
  · have hiI : i = I.length := by
      have : ¬ (i : Int) < (I.length : Int) := hge
      omega
    subst hiI
    rw [List.take_length] at hlst hle
    have hn0 : 0 < I.length := by omega
    obtain ⟨k, hk⟩ : ∃ k, k = at' % I.length := ⟨_, rfl⟩
    have hkn : k < I.length := by rw [hk]; exact Nat.mod_lt _ hn0
    have hlk : lst[k]'(by omega) = I[k].msg := by simp [hlst]
    have hfl : fewM lst := fun m hm => by
      rw [hlst] at hm
      obtain ⟨y, hy, rfl⟩ := List.mem_map.1 hm
      exact Nat.le_trans (hle y hy) (by decide)
    obtain ⟨m0, hm0⟩ : ∃ m, m = I[k].msg := ⟨_, rfl⟩
    have hm0f : m0.es.length ≤ 1000000000 := by rw [hm0]; exact Nat.le_trans (hle _ (List.getElem_mem hkn)) (by decide)
    obtain ⟨M1, hM1⟩ : ∃ M, M = lst ++ [m0] := ⟨_, rfl⟩
    obtain ⟨M2, hM2⟩ : ∃ M, M = M1.eraseIdx k := ⟨_, rfl⟩
    obtain ⟨M3, hM3⟩ : ∃ M, M = M2.eraseIdx (I.length - 1) := ⟨_, rfl⟩
    have hl1 : M1.length = I.length + 1 := by rw [hM1]; simp; omega
    have hl2 : M2.length = I.length := by rw [hM2, List.length_eraseIdx, if_pos (by omega)]; omega
    have hl3 : M3.length = I.length - 1 := by rw [hM3, List.length_eraseIdx, if_pos (by omega)]; omega
    have hf1 : fewM M1 := fun m hm => by
      rw [hM1] at hm
      rcases List.mem_append.1 hm with hm | hm
      · exact hfl m hm
      · rw [List.mem_singleton.1 hm]; exact hm0f
    have hf2 : fewM M2 := by rw [hM2]; exact few_sub (List.eraseIdx_sublist _ _) hf1
    have T1 : Triple Try.prog 21 [.pointer (some ⟨x4, 0, none⟩), .int .i64 (k : Nat)] [NetM x4 lst] [] Unit (fun _ => .bool true) (fun _ => True) (fun _ => [NetM x4 M1]) := by
      rw [hM1, hm0, ← hlk]
      exact mCopy x4 lst hfl (by omega) k (by omega)
    have T2 : Triple Try.prog 22 [.pointer (some ⟨x4, 0, none⟩), .int .i64 (k : Nat)] [NetM x4 M1] [] (Option Addr) (fun A => .tuple #[(m0.at A).val, .bool true]) (fun _ => True) (fun A => [NetM x4 M2, (m0.at A).own]) := by
      have e : m0 = M1[k]'(by omega) := by
        rw [hm0, ← hlk]
        subst hM1
        rw [List.getElem_append_left (by omega)]
      rw [hM2, e]
      exact mTake x4 M1 hf1 (by omega) k (by omega)
    have T3 : Triple Try.prog 22 [.pointer (some ⟨x4, 0, none⟩), .int .i64 ((I.length - 1 : Nat) : Int)] [NetM x4 M2] [] (Option Addr) (fun A => .tuple #[(m0.at A).val, .bool true]) (fun _ => True) (fun A => [NetM x4 M3, (m0.at A).own]) := by
      have e1 : M2[I.length - 1]? = some m0 := by
        rw [hM2, List.getElem?_eraseIdx, if_neg (by omega), hM1, List.getElem?_append_right (by omega), show I.length - 1 + 1 - lst.length = 0 by omega]
        rfl
      have e : m0 = M2[I.length - 1]'(by omega) := by
        rw [List.getElem?_eq_getElem (by omega)] at e1
        injection e1 with e1
        exact e1.symm
      rw [hM3, e]
      exact mTake x4 M2 hf2 (by omega) _ (by omega)
    refine go_more 1 (AllRd I) (Rd 6 I[k].a I[k].es.length (I[k].es.flatMap encE)) rfl (fun h p => p _ (List.getElem_mem hkn)) ?_
    subst hk
    refine go Try.tbs_ok 1000 ?_
    refine ev_fin (go Try.tbs_ok 1000 ?_)
    refine ev_wrapN (at') (by constructor <;> omega) (by rfl) ?_
    refine ev_stop (go_bin (.va (.int _ (((at') % (I.length) : Nat) : Int))) trivial rfl rfl rfl rfl rfl (by decide) (by decide) (fun w => rem_run (show ¬(↑I.length : Int) = 0 from (by omega)) w) ?_)
    refine go Try.tbs_ok 1000 ?_
    refine ev_callF (T1 ) [0] [] rfl rfl (by decide) rfl (by simp) (fun _ => (by repeat (first | exact trivial | refine ⟨rfl, ?_⟩))) (fun _ h140 => ?_)
    refine go Try.tbs_ok 1000 ?_
    refine ev_if_no rfl ?_
    refine go Try.tbs_ok 1000 ?_
    refine ev_callF (mLen (x4) (M1)) [0] [] rfl rfl (by decide) rfl (by simp) (fun _ => (by repeat (first | exact trivial | refine ⟨rfl, ?_⟩))) (fun _ h141 => ?_)
    refine go Try.tbs_ok 1000 ?_
    refine ev_wrapN (I.length + 1) (by constructor <;> omega) (by rfl) ?_
    refine ev_if_no (ne_no (show (↑M1.length : Int) = (↑(I.length + 1) : Int) from (by omega))) ?_
    refine go Try.tbs_ok 1000 ?_
    refine ev_callF (T2 ) [0] [] rfl rfl (by decide) rfl (by simp) (fun _ => (by repeat (first | exact trivial | refine ⟨rfl, ?_⟩))) (fun x142 h143 => ?_)
    refine go Try.tbs_ok 1000 ?_
    refine ev_new fun b144 => ?_
    refine ev_stop (go_draw Try.tbs_ok true [2] [(0,true),(1,true),(2,true),(3,true),(4,true),(5,true),(6,true),(7,true),(8,false),(9,true),(10,true)] rfl ?_)
    refine go Try.tbs_ok 1000 ?_
    refine ev_need ⟨⟨(by repeat (first | exact trivial | refine ⟨rfl, ?_⟩)), rfl⟩, by kernel_rfl⟩ ?_
    refine ev_if_no rfl ?_
    refine go Try.tbs_ok 1000 ?_
    refine ev_need ⟨⟨(by repeat (first | exact trivial | refine ⟨rfl, ?_⟩)), rfl⟩, by kernel_rfl⟩ ?_
    refine ev_stop (tk_indexE (sz := 18) Try.tbs_ok (.inl 0) (at' % I.length) ⟨⟨(by repeat (first | exact trivial | refine ⟨rfl, ?_⟩)), rfl⟩, by kernel_rfl⟩ rfl rfl rfl rfl rfl rfl rfl (by omega) rfl (fun _ h => h) (fun g145 o147 e146 => ?_))
    subst e146
    refine go Try.tbs_ok 1000 ?_
    refine ev_need ⟨⟨(by repeat (first | exact trivial | refine ⟨rfl, ?_⟩)), rfl⟩, by kernel_rfl⟩ ?_
    have l148 : at' % I.length < (I).length := (by omega)
    refine ev_stop (tk_loadE Try.tbs_ok (.inl 0) (at' % I.length) 0 ⟨⟨(by repeat (first | exact trivial | refine ⟨rfl, ?_⟩)), rfl⟩, by kernel_rfl⟩ rfl rfl rfl rfl rfl (fun _ h => h) (by omega) (fun _ => rfl) (by omega) l148 (by decide) ?_)
    refine go Try.tbs_ok 1000 ?_
    refine ev_need ⟨⟨(by repeat (first | exact trivial | refine ⟨rfl, ?_⟩)), rfl⟩, by kernel_rfl⟩ ?_
    refine ev_callF (sameMailO (m0) (x142) (I[at' % I.length]) (by with_reducible assumption)) [] [.inr 1, .inl 2] rfl rfl (by decide) rfl (by simp) (fun _ => (by repeat (first | exact trivial | refine ⟨rfl, ?_⟩))) (fun _ h149 => ?_)
    refine go Try.tbs_ok 1000 ?_
    refine ev_need ⟨⟨(by repeat (first | exact trivial | refine ⟨rfl, ?_⟩)), rfl⟩, by kernel_rfl⟩ ?_
    refine ev_if_no (dec_no (by with_reducible assumption)) ?_
    refine go Try.tbs_ok 1000 ?_
    refine ev_callF (spoilD (m0) (x142) (by with_reducible assumption)) [1] [] rfl rfl (by decide) rfl (by simp) (fun _ => (by repeat (first | exact trivial | refine ⟨rfl, ?_⟩))) (fun _ h150 => ?_)
    refine go Try.tbs_ok 1000 ?_
    refine ev_wrapN (I.length - 1) (by constructor <;> omega) (by omega) ?_
    refine ev_callF (T3 ) [0] [] rfl rfl (by decide) rfl (by simp) (fun _ => (by repeat (first | exact trivial | refine ⟨rfl, ?_⟩))) (fun x151 h152 => ?_)
    refine go Try.tbs_ok 1000 ?_
    refine ev_stop (go_draw Try.tbs_ok false [2] [(0,true),(1,true),(2,true),(3,true),(4,true),(5,true),(6,true),(7,false),(8,true),(9,true),(10,true),(12,true),(13,true),(14,true),(11,false),(15,true),(16,true),(17,true),(18,false),(19,true),(20,false)] rfl ?_)
    refine go Try.tbs_ok 1000 ?_
    refine ev_need ⟨⟨(by repeat (first | exact trivial | refine ⟨rfl, ?_⟩)), rfl⟩, by kernel_rfl⟩ ?_
    refine ev_if_yes rfl ?_
    refine go Try.tbs_ok 1000 ?_
    refine ev_need ⟨⟨(by repeat (first | exact trivial | refine ⟨rfl, ?_⟩)), rfl⟩, by kernel_rfl⟩ ?_
    refine ev_stop (tk_atE (sz := 18) Try.tbs_ok (at' % I.length) ⟨⟨(by repeat (first | exact trivial | refine ⟨rfl, ?_⟩)), rfl⟩, by kernel_rfl⟩ rfl rfl rfl rfl rfl rfl rfl (by omega) ?_)
    refine go Try.tbs_ok 1000 ?_
    refine ev_need ⟨⟨(by repeat (first | exact trivial | refine ⟨rfl, ?_⟩)), rfl⟩, by kernel_rfl⟩ ?_
    have l153 : at' % I.length < (I).length := (by omega)
    refine ev_stop (tk_loadE Try.tbs_ok (.inl 0) (at' % I.length) 0 ⟨⟨(by repeat (first | exact trivial | refine ⟨rfl, ?_⟩)), rfl⟩, by kernel_rfl⟩ rfl rfl rfl rfl rfl (fun _ h => h) (by omega) (fun _ => rfl) (by omega) l153 (by decide) ?_)
    refine go Try.tbs_ok 1000 ?_
    refine ev_need ⟨⟨(by repeat (first | exact trivial | refine ⟨rfl, ?_⟩)), rfl⟩, by kernel_rfl⟩ ?_
    refine ev_callF (sameMailO (m0) (x151) (I[at' % I.length]) (by with_reducible assumption)) [] [.inr 3, .inl 2] rfl rfl (by decide) rfl (by simp) (fun _ => (by repeat (first | exact trivial | refine ⟨rfl, ?_⟩))) (fun _ h154 => ?_)
    refine go Try.tbs_ok 1000 ?_
    refine ev_need ⟨⟨(by repeat (first | exact trivial | refine ⟨rfl, ?_⟩)), rfl⟩, by kernel_rfl⟩ ?_
    refine ev_if_yes (decide_eq_true (by with_reducible assumption)) ?_
    refine go Try.tbs_ok 1000 ?_
    refine ev_need ⟨⟨(by repeat (first | exact trivial | refine ⟨rfl, ?_⟩)), rfl⟩, by kernel_rfl⟩ ?_
    refine ev_wrapN (I.length - 1) (by constructor <;> omega) (by omega) ?_
    refine ev_callF (mLen (x4) (M3)) [0] [] rfl rfl (by decide) rfl (by simp) (fun _ => (by repeat (first | exact trivial | refine ⟨rfl, ?_⟩))) (fun _ h155 => ?_)
    refine go Try.tbs_ok 1000 ?_
    refine ev_need ⟨⟨(by repeat (first | exact trivial | refine ⟨rfl, ?_⟩)), rfl⟩, by kernel_rfl⟩ ?_
    refine ev_if_yes (beq_iff_eq.2 (show (↑M3.length : Int) = (↑(I.length - 1) : Int) from (by omega))) ?_
    refine go Try.tbs_ok 1000 ?_
    refine ev_callF (works ) [] [] rfl rfl (by decide) rfl (by simp) (fun _ => (by repeat (first | exact trivial | refine ⟨rfl, ?_⟩))) (fun _ h156 => ?_)
    refine go Try.tbs_ok 1000 ?_
    refine ev_need ⟨⟨(by repeat (first | exact trivial | refine ⟨rfl, ?_⟩)), rfl⟩, by kernel_rfl⟩ ?_
    refine ev_need (by kernel_rfl) ?_
    refine ev_fin ⟨trivial, _, rfl, (()), rfl, (by trivial), Frm.nil _⟩
end Go.Proofs.Yteleepinalcjeaa

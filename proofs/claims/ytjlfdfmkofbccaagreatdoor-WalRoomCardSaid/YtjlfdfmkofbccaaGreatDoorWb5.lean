/-
  What is proved: the texts that the claims share, part 5 of 6, each text behind the other. Conditions: none.
-/
import Derived.Carry
import Derived.ChangeSame
import Derived.JoinedOf
import Derived.JoinedAt
import Derived.ChangeArms
import Derived.WideKeyArr2
import Derived.Test.YtjlfdfmkofbccaaGreatDoorCards
import Derived.Test.YtjlfdfmkofbccaaGreatDoorTie
import Derived.SevenTiedAt
import Derived.LaidLaws
import Derived.LaidMore
import Derived.Lib.LaidTab
import Derived.Stop.LaidErr
import Derived.OpenShut
import Derived.ChangeMaps5
import Derived.Test.YtjlfdfmkofbccaaGreatDoorWb4
namespace Go.Proofs.YtjlfdfmkofbccaaGreatDoor
open Go.Sy
theorem appW_ask {W : WK} {D : DK} {ps : List ByteArray} (h : askW W.s W.bad D = 41) : appW W D ps = (W, D, 41) := by
 unfold appW
 rw [h, if_pos (by decide)]
theorem appW_long {W : WK} {D : DK} {ps : List ByteArray} (h : askW W.s W.bad D = 0) (h1 : (framedM ps).2 ≠ 0) : appW W D ps = (W, D, (framedM ps).2) := by
 unfold appW
 rw [h, if_neg (by decide), if_pos h1]
theorem appW_none {W : WK} {D : DK} (h : askW W.s W.bad D = 0) : appW W D [] = (W, D, 0) := by
 unfold appW
 rw [h, if_neg (by decide), if_neg (by simp [framedM]), if_pos rfl]
theorem appW_some {W : WK} {D : DK} {ps : List ByteArray} (h : askW W.s W.bad D = 0) (h1 : (framedM ps).2 = 0) (h2 : ps ≠ []) : appW W D ps =
 if 0 < W.t ∧ (readD D (nmB 115 (W.b + W.t))).1.size < 16384 then
  let r := appD D (nmB 115 (W.b + W.t)) (framedM ps).1
  (⟨W.s, W.bad || badE r.2, W.b, W.t⟩, r.1, r.2)
 else
  let r := if 0 < W.t then syncD D (nmB 115 (W.b + W.t)) else (D, 0)
  if r.2 ≠ 0 then (⟨W.s, W.bad || badE r.2, W.b, W.t⟩, r.1, r.2)
  else if 15 ≤ r.1.files.length ∨ 999999999 ≤ W.b + W.t then (W, r.1, 40)
  else
   let r2 := appD r.1 (nmB 115 (W.b + W.t + 1)) (framedM ps).1
   (⟨W.s, W.bad || badE r2.2, W.b, if r2.2 = 0 then W.t + 1 else W.t⟩, r2.1, r2.2) := by
 rw [appW, h, if_neg (by decide), if_neg (by simpa using h1), if_neg h2]
abbrev AppT (p q : Nat) (A : Option Addr) (np cp : Nat) (ps : List ByteArray) (s : Int) (bad : Bool) (b t : Nat) (D : DK) (R : WK × DK × Int) : Prop :=
 Triple Tryz.prog 19 [.pointer (some ⟨p, 0, none⟩), .slice A np cp] [Pt p 49 [.pointer (some ⟨q, 0, none⟩), .int .i64 s, .bool bad, .int .i64 (b : Nat), .int .i64 (t : Nat)], DiskM q D] [TabA, Rd 1 A np (ps.flatMap encS)] Unit (fun _ => .int .i64 R.2.2) (fun _ => True) (fun _ => [Pt p 49 [.pointer (some ⟨q, 0, none⟩), .int .i64 R.1.s, .bool R.1.bad, .int .i64 (R.1.b : Nat), .int .i64 (R.1.t : Nat)], DiskM q R.2.1])
theorem nmB_pos (c : UInt8) (n : Nat) : 0 < (nmB c n).size := by
 unfold nmB
 rw [ByteArray.size_append]
 show 0 < 1 + _
 omega
theorem bad_zero (bad : Bool) : (bad || badE 0) = bad := by simp [badE]
set_option maxHeartbeats 8000000 in
set_option maxRecDepth 100000 in
theorem appWT (p q : Nat) (W : WK) (D : DK) (A : Option Addr) (ps : List ByteArray) (np cp : Nat) (hp : np = ps.length) (hp1 : np ≤ 10000) (hp2 : ∀ p ∈ ps, p.size ≤ 900000000) (hD : okD D) (hW : okW W) :
 Triple Tryz.prog 19 [.pointer (some ⟨p, 0, none⟩), .slice A np cp] [WalM p q W, DiskM q D] [TabA, Rd 1 A np (ps.flatMap encS)] Unit (fun _ => .int .i64 (appW W D ps).2.2) (fun _ => True) (fun _ => [WalM p q (appW W D ps).1, DiskM q (appW W D ps).2.1]) := by
 obtain ⟨s, bad, b, t⟩ := W
 replace hW : b + t ≤ 999999999 := hW
 have TA := askT p q s bad b t D hD
 have TE := endT p q s bad b t hW
 have TF := framedT A ps np cp hp hp1 hp2
 obtain ⟨R, hR⟩ : ∃ R, R = appW ⟨s, bad, b, t⟩ D ps := ⟨_, rfl⟩
 unfold WalM ptW
 unfold ptW at TA TE
 rw [← hR]
 show AppT p q A np cp ps s bad b t D R
 rcases ask_cases s bad D with h | h
 · rw [h] at TA
   by_cases hf : (framedM ps).2 = 0
   · rw [hf] at TF
     have hF := framed_size hf
     by_cases hn : ps = []
     · subst hn
       rw [appW_none h] at hR
       subst hR
       have h0 : np = 0 := hp
       refine triple_intro Tryz.tbs_ok Tryz.func19 rfl [.pt 0 p 0, .va (.slice A np cp)] [.box p 49 [.va (.pointer (some ⟨q, 0, none⟩)), .va (.int .i64 s), .bq bad, .va (.int .i64 (b : Nat)), .va (.int .i64 (t : Nat))], .fact (DiskM q D)] ⟨rfl, trivial, trivial⟩ rfl (by simp [SV.good, SV.goodL]) ?_
       intro E
       refine go Tryz.tbs_ok 1000 ?_
       refine ev_call (TA ) [0, 1] [] (fun v0_ => [.box (p) 49 [.va (Value.pointer (some { block := q, off := 0 : Addr })), .va (Value.int IntKind.i64 s), .bq (bad), .va (Value.int IntKind.i64 (↑b : Int)), .va (Value.int IntKind.i64 (↑t : Int))], .fact (DiskM q D)]) rfl rfl (by decide) rfl (by simp) (fun _ => rfl) (fun _ => (newsOk_box (by simp [SV.good, SV.goodL]) (newsOk_fact (newsOk_nil _)))) (fun _ => (by repeat (first | exact trivial | refine ⟨rfl, ?_⟩))) (fun _ h0 => ?_)
       refine go Tryz.tbs_ok 1000 ?_
       refine ev_if_no rfl ?_
       refine go Tryz.tbs_ok 1000 ?_
       refine ev_callF (TF ) [] [.inl 1] rfl rfl (by decide) rfl (by simp) (fun _ => (by repeat (first | exact trivial | refine ⟨rfl, ?_⟩))) (fun _ h1 => ?_)
       refine go Tryz.tbs_ok 1000 ?_
       refine ev_if_no rfl ?_
       refine go Tryz.tbs_ok 1000 ?_
       refine ev_if_yes (beq_iff_eq.2 (show (↑np : Int) = 0 from (by omega))) ?_
       refine go Tryz.tbs_ok 1000 ?_
       refine ev_fin ⟨trivial, _, rfl, (()), rfl, (by trivial), Frm.sel [0, 1] rfl (by decide)⟩
     · have hnp : 0 < np := by rw [hp]; exact List.length_pos_iff.2 hn
       rw [appW_some h hf hn] at hR
       obtain ⟨F, hFe⟩ : ∃ F, F = (framedM ps).1 := ⟨_, rfl⟩
       rw [← hFe] at hR hF TF
       have hF2 : F.size ≤ 100000000 := by rw [← hp] at hF; omega
       dsimp only at hR
       have TL := Proofs.YtjlfdfmkofbccaaGreatDoor.lastT b t (by omega)
       have TI := fun h => itoaT (b + t + 1) h
       have hz := fun h => decB_size (b + t + 1) h
       have h115 : (⟨#[115]⟩ : ByteArray).size = 1 := rfl
       obtain ⟨f, hfe⟩ : ∃ f : DK → DK × Int, f = fun D => appD D (nmB 115 (b + t + 1)) F := ⟨_, rfl⟩
       have TP : Triple Tryz.prog 51 [.pointer (some ⟨p, 0, none⟩), .string (⟨#[115]⟩ ++ decB (b + t + 1)), .string F] [] [] FnV (fun v => .func (.func v.1) #[] v.2) (fun _ => True) (fun v => [ChgA p q s b t v f]) := by
        rw [hfe]
        exact putF p q s b t (nmB 115 (b + t + 1)) F hF2
       have TO := fun bx va vc => one1 p q s b t bx va vc f
       have hfa : ∀ D, appD D (nmB 115 (b + t + 1)) F = f D := fun D => by rw [hfe]
       simp only [hfa] at hR
       clear hfa
       by_cases ht : t = 0
       · subst ht
         simp only [Nat.lt_irrefl, if_false, false_and, ne_eq, not_true_eq_false] at hR
         have e0 : endM b 0 = .empty := rfl
         rw [e0] at TE
         have TN := namesM q D hD
         by_cases hful : 15 ≤ D.files.length ∨ 999999999 ≤ b + 0
         · rw [if_pos hful] at hR
           subst hR
           refine triple_intro Tryz.tbs_ok Tryz.func19 rfl [.pt 0 p 0, .va (.slice A np cp)] [.box p 49 [.va (.pointer (some ⟨q, 0, none⟩)), .va (.int .i64 s), .bq bad, .va (.int .i64 (b : Nat)), .va (.int .i64 ((0 : Nat) : Int))], .fact (DiskM q D)] ⟨rfl, trivial, trivial⟩ rfl (by simp [SV.good, SV.goodL]) ?_
           intro E
           by_cases h15 : 15 ≤ D.files.length
           · refine go Tryz.tbs_ok 1000 ?_
             refine ev_call (TA ) [0, 1] [] (fun v0_ => [.box (p) 49 [.va (Value.pointer (some { block := q, off := 0 : Addr })), .va (Value.int IntKind.i64 s), .bq (bad), .va (Value.int IntKind.i64 (↑b : Int)), .va (Value.int IntKind.i64 (↑0 : Int))], .fact (DiskM q D)]) rfl rfl (by decide) rfl (by simp) (fun _ => rfl) (fun _ => (newsOk_box (by simp [SV.good, SV.goodL]) (newsOk_fact (newsOk_nil _)))) (fun _ => (by repeat (first | exact trivial | refine ⟨rfl, ?_⟩))) (fun _ h0 => ?_)
             refine go Tryz.tbs_ok 1000 ?_
             refine ev_if_no rfl ?_
             refine go Tryz.tbs_ok 1000 ?_
             refine ev_callF (TF ) [] [.inl 1] rfl rfl (by decide) rfl (by simp) (fun _ => (by repeat (first | exact trivial | refine ⟨rfl, ?_⟩))) (fun _ h1 => ?_)
             refine go Tryz.tbs_ok 1000 ?_
             refine ev_if_no rfl ?_
             refine go Tryz.tbs_ok 1000 ?_
             refine ev_if_no (beq_eq_false_iff_ne.2 (show ¬(↑np : Int) = 0 from (by omega))) ?_
             refine go Tryz.tbs_ok 1000 ?_
             refine ev_call (TE ) [0] [.inl 0] (fun v0_ => [.box (p) 49 [.va (Value.pointer (some { block := q, off := 0 : Addr })), .va (Value.int IntKind.i64 s), .bq (bad), .va (Value.int IntKind.i64 (↑b : Int)), .va (Value.int IntKind.i64 (↑0 : Int))]]) rfl rfl (by decide) rfl (by simp) (fun _ => rfl) (fun _ => (newsOk_box (by simp [SV.good, SV.goodL]) (newsOk_nil _))) (fun _ => (by repeat (first | exact trivial | refine ⟨rfl, ?_⟩))) (fun _ h2 => ?_)
             refine go Tryz.tbs_ok 1000 ?_
             refine ev_if_no rfl ?_
             refine go Tryz.tbs_ok 1000 ?_
             refine ev_callF (TN ) [1] [] rfl rfl (by decide) rfl (by simp) (fun _ => (by repeat (first | exact trivial | refine ⟨rfl, ?_⟩))) (fun ⟨x3, x4⟩ h5 => ?_)
             refine go Tryz.tbs_ok 1000 ?_
             refine ev_if_yes (decide_eq_true (show (↑D.files.length : Int) ≥ 15 from (by omega))) ?_
             refine go Tryz.tbs_ok 1000 ?_
             refine ev_fin ⟨trivial, _, rfl, (()), rfl, (by trivial), Frm.sel [0, 1] rfl (by decide)⟩
           · have h99 : 999999999 ≤ b + 0 := by omega
             refine go Tryz.tbs_ok 1000 ?_
             refine ev_call (TA ) [0, 1] [] (fun v0_ => [.box (p) 49 [.va (Value.pointer (some { block := q, off := 0 : Addr })), .va (Value.int IntKind.i64 s), .bq (bad), .va (Value.int IntKind.i64 (↑b : Int)), .va (Value.int IntKind.i64 (↑0 : Int))], .fact (DiskM q D)]) rfl rfl (by decide) rfl (by simp) (fun _ => rfl) (fun _ => (newsOk_box (by simp [SV.good, SV.goodL]) (newsOk_fact (newsOk_nil _)))) (fun _ => (by repeat (first | exact trivial | refine ⟨rfl, ?_⟩))) (fun _ h0 => ?_)
             refine go Tryz.tbs_ok 1000 ?_
             refine ev_if_no rfl ?_
             refine go Tryz.tbs_ok 1000 ?_
             refine ev_callF (TF ) [] [.inl 1] rfl rfl (by decide) rfl (by simp) (fun _ => (by repeat (first | exact trivial | refine ⟨rfl, ?_⟩))) (fun _ h1 => ?_)
             refine go Tryz.tbs_ok 1000 ?_
             refine ev_if_no rfl ?_
             refine go Tryz.tbs_ok 1000 ?_
             refine ev_if_no (beq_eq_false_iff_ne.2 (show ¬(↑np : Int) = 0 from (by omega))) ?_
             refine go Tryz.tbs_ok 1000 ?_
             refine ev_call (TE ) [0] [.inl 0] (fun v0_ => [.box (p) 49 [.va (Value.pointer (some { block := q, off := 0 : Addr })), .va (Value.int IntKind.i64 s), .bq (bad), .va (Value.int IntKind.i64 (↑b : Int)), .va (Value.int IntKind.i64 (↑0 : Int))]]) rfl rfl (by decide) rfl (by simp) (fun _ => rfl) (fun _ => (newsOk_box (by simp [SV.good, SV.goodL]) (newsOk_nil _))) (fun _ => (by repeat (first | exact trivial | refine ⟨rfl, ?_⟩))) (fun _ h2 => ?_)
             refine go Tryz.tbs_ok 1000 ?_
             refine ev_if_no rfl ?_
             refine go Tryz.tbs_ok 1000 ?_
             refine ev_callF (TN ) [1] [] rfl rfl (by decide) rfl (by simp) (fun _ => (by repeat (first | exact trivial | refine ⟨rfl, ?_⟩))) (fun ⟨x3, x4⟩ h5 => ?_)
             refine go Tryz.tbs_ok 1000 ?_
             refine ev_if_no (decide_eq_false (show ¬(↑D.files.length : Int) ≥ 15 from (by omega))) ?_
             refine go Tryz.tbs_ok 1000 ?_
             refine ev_callF (TL ) [] [] rfl rfl (by decide) rfl (by simp) (fun _ => (by repeat (first | exact trivial | refine ⟨rfl, ?_⟩))) (fun _ h6 => ?_)
             refine go Tryz.tbs_ok 1000 ?_
             refine ev_if_yes (decide_eq_true (show (↑(b + 0) : Int) ≥ 999999999 from (by omega))) ?_
             refine go Tryz.tbs_ok 1000 ?_
             refine ev_fin ⟨trivial, _, rfl, (()), rfl, (by trivial), Frm.sel [0, 1] rfl (by decide)⟩
         · rw [if_neg hful] at hR
           have TD := fun ia ic => doA p q s bad b ((0 : Nat) : Int) ia ic [f] D hD
           rw [run_one] at TD
           unfold ptW at TD
           obtain ⟨G, hG⟩ : ∃ G, G = f D := ⟨_, rfl⟩
           rw [← hG] at TD hR
           obtain ⟨bd, hbd⟩ : ∃ bd, bd = (bad || badE G.2) := ⟨_, rfl⟩
           rw [← hbd] at TD hR
           have h15 : ¬ 15 ≤ D.files.length := fun q => hful (.inl q)
           have h99 : ¬ 999999999 ≤ b + 0 := fun q => hful (.inr q)
           by_cases hg : G.2 = 0
           · rw [hg] at TD hR
             rw [if_pos rfl] at hR
             subst hR
             refine triple_intro Tryz.tbs_ok Tryz.func19 rfl [.pt 0 p 0, .va (.slice A np cp)] [.box p 49 [.va (.pointer (some ⟨q, 0, none⟩)), .va (.int .i64 s), .bq bad, .va (.int .i64 (b : Nat)), .va (.int .i64 ((0 : Nat) : Int))], .fact (DiskM q D)] ⟨rfl, trivial, trivial⟩ rfl (by simp [SV.good, SV.goodL]) ?_
             intro E
             refine go Tryz.tbs_ok 1000 ?_
             refine ev_call (TA ) [0, 1] [] (fun v0_ => [.box (p) 49 [.va (Value.pointer (some { block := q, off := 0 : Addr })), .va (Value.int IntKind.i64 s), .bq (bad), .va (Value.int IntKind.i64 (↑b : Int)), .va (Value.int IntKind.i64 (↑0 : Int))], .fact (DiskM q D)]) rfl rfl (by decide) rfl (by simp) (fun _ => rfl) (fun _ => (newsOk_box (by simp [SV.good, SV.goodL]) (newsOk_fact (newsOk_nil _)))) (fun _ => (by repeat (first | exact trivial | refine ⟨rfl, ?_⟩))) (fun _ h0 => ?_)
             refine go Tryz.tbs_ok 1000 ?_
             refine ev_if_no rfl ?_
             refine go Tryz.tbs_ok 1000 ?_
             refine ev_callF (TF ) [] [.inl 1] rfl rfl (by decide) rfl (by simp) (fun _ => (by repeat (first | exact trivial | refine ⟨rfl, ?_⟩))) (fun _ h1 => ?_)
             refine go Tryz.tbs_ok 1000 ?_
             refine ev_if_no rfl ?_
             refine go Tryz.tbs_ok 1000 ?_
             refine ev_if_no (beq_eq_false_iff_ne.2 (show ¬(↑np : Int) = 0 from (by omega))) ?_
             refine go Tryz.tbs_ok 1000 ?_
             refine ev_call (TE ) [0] [.inl 0] (fun v0_ => [.box (p) 49 [.va (Value.pointer (some { block := q, off := 0 : Addr })), .va (Value.int IntKind.i64 s), .bq (bad), .va (Value.int IntKind.i64 (↑b : Int)), .va (Value.int IntKind.i64 (↑0 : Int))]]) rfl rfl (by decide) rfl (by simp) (fun _ => rfl) (fun _ => (newsOk_box (by simp [SV.good, SV.goodL]) (newsOk_nil _))) (fun _ => (by repeat (first | exact trivial | refine ⟨rfl, ?_⟩))) (fun _ h2 => ?_)
             refine go Tryz.tbs_ok 1000 ?_
             refine ev_if_no rfl ?_
             refine go Tryz.tbs_ok 1000 ?_
             refine ev_callF (TN ) [1] [] rfl rfl (by decide) rfl (by simp) (fun _ => (by repeat (first | exact trivial | refine ⟨rfl, ?_⟩))) (fun ⟨x3, x4⟩ h5 => ?_)
             refine go Tryz.tbs_ok 1000 ?_
             refine ev_if_no (decide_eq_false (show ¬(↑D.files.length : Int) ≥ 15 from (by omega))) ?_
             refine go Tryz.tbs_ok 1000 ?_
             refine ev_callF (TL ) [] [] rfl rfl (by decide) rfl (by simp) (fun _ => (by repeat (first | exact trivial | refine ⟨rfl, ?_⟩))) (fun _ h6 => ?_)
             refine go Tryz.tbs_ok 1000 ?_
             refine ev_if_no (decide_eq_false (show ¬(↑(b + 0) : Int) ≥ 999999999 from (by omega))) ?_
             refine go Tryz.tbs_ok 1000 ?_
             refine ev_callF (TL ) [] [] rfl rfl (by decide) rfl (by simp) (fun _ => (by repeat (first | exact trivial | refine ⟨rfl, ?_⟩))) (fun _ h7 => ?_)
             refine go Tryz.tbs_ok 1000 ?_
             refine ev_wrapN (b + 0 + 1) (by constructor <;> omega) (by rfl) ?_
             refine ev_callF (TI (show b + 0 + 1 ≤ 9223372036854775807 from (by omega))) [] [.inl 0] rfl rfl (by decide) rfl (by simp) (fun _ => (by repeat (first | exact trivial | refine ⟨rfl, ?_⟩))) (fun _ h8 => ?_)
             refine go Tryz.tbs_ok 1000 ?_
             refine ev_stop (go_bin (.va _) trivial rfl rfl rfl rfl rfl (by decide) (by decide) (fun w => cat_run (by omega) w) ?_)
             refine go Tryz.tbs_ok 1000 ?_
             refine ev_callF (TP ) [] [] rfl rfl (by decide) rfl (by simp) (fun _ => (by repeat (first | exact trivial | refine ⟨rfl, ?_⟩))) (fun ⟨x9, x10⟩ h11 => ?_)
             refine go Tryz.tbs_ok 1000 ?_
             refine ev_new fun b12 => ?_
             refine ev_callF (TO (b12) (x9) (x10)) [3, 4] [] rfl rfl (by decide) rfl (by simp) (fun _ => (by repeat (first | exact trivial | refine ⟨rfl, ?_⟩))) (fun ⟨x13, x14⟩ h15 => ?_)
             refine go Tryz.tbs_ok 1000 ?_
             refine ev_call (TD (x13) (x14)) [0, 3, 1] [.inl 0] (fun v0_ => [.box (p) 49 [.va (Value.pointer (some { block := q, off := 0 : Addr })), .va (Value.int IntKind.i64 s), .bq (bd), .va (Value.int IntKind.i64 (↑b : Int)), .va (Value.int IntKind.i64 (↑0 : Int))], .fact (DiskM q G.fst)]) rfl rfl (by decide) rfl (by simp) (fun _ => rfl) (fun _ => (newsOk_box (by simp [SV.good, SV.goodL]) (newsOk_fact (newsOk_nil _)))) (fun _ => (by repeat (first | exact trivial | refine ⟨rfl, ?_⟩))) (fun _ h16 => ?_)
             refine go Tryz.tbs_ok 1000 ?_
             refine ev_if_yes rfl ?_
             refine go Tryz.tbs_ok 1000 ?_
             refine ev_wrapN (0 + 1) (by constructor <;> omega) (by rfl) ?_
             refine ev_fin ⟨trivial, _, rfl, (()), rfl, (by trivial), Frm.sel [0, 3] rfl (by decide)⟩
           · rw [if_neg hg] at hR
             subst hR
             refine triple_intro Tryz.tbs_ok Tryz.func19 rfl [.pt 0 p 0, .va (.slice A np cp)] [.box p 49 [.va (.pointer (some ⟨q, 0, none⟩)), .va (.int .i64 s), .bq bad, .va (.int .i64 (b : Nat)), .va (.int .i64 ((0 : Nat) : Int))], .fact (DiskM q D)] ⟨rfl, trivial, trivial⟩ rfl (by simp [SV.good, SV.goodL]) ?_
             intro E
             refine go Tryz.tbs_ok 1000 ?_
             refine ev_call (TA ) [0, 1] [] (fun v0_ => [.box (p) 49 [.va (Value.pointer (some { block := q, off := 0 : Addr })), .va (Value.int IntKind.i64 s), .bq (bad), .va (Value.int IntKind.i64 (↑b : Int)), .va (Value.int IntKind.i64 (↑0 : Int))], .fact (DiskM q D)]) rfl rfl (by decide) rfl (by simp) (fun _ => rfl) (fun _ => (newsOk_box (by simp [SV.good, SV.goodL]) (newsOk_fact (newsOk_nil _)))) (fun _ => (by repeat (first | exact trivial | refine ⟨rfl, ?_⟩))) (fun _ h0 => ?_)
             refine go Tryz.tbs_ok 1000 ?_
             refine ev_if_no rfl ?_
             refine go Tryz.tbs_ok 1000 ?_
             refine ev_callF (TF ) [] [.inl 1] rfl rfl (by decide) rfl (by simp) (fun _ => (by repeat (first | exact trivial | refine ⟨rfl, ?_⟩))) (fun _ h1 => ?_)
             refine go Tryz.tbs_ok 1000 ?_
             refine ev_if_no rfl ?_
             refine go Tryz.tbs_ok 1000 ?_
             refine ev_if_no (beq_eq_false_iff_ne.2 (show ¬(↑np : Int) = 0 from (by omega))) ?_
             refine go Tryz.tbs_ok 1000 ?_
             refine ev_call (TE ) [0] [.inl 0] (fun v0_ => [.box (p) 49 [.va (Value.pointer (some { block := q, off := 0 : Addr })), .va (Value.int IntKind.i64 s), .bq (bad), .va (Value.int IntKind.i64 (↑b : Int)), .va (Value.int IntKind.i64 (↑0 : Int))]]) rfl rfl (by decide) rfl (by simp) (fun _ => rfl) (fun _ => (newsOk_box (by simp [SV.good, SV.goodL]) (newsOk_nil _))) (fun _ => (by repeat (first | exact trivial | refine ⟨rfl, ?_⟩))) (fun _ h2 => ?_)
             refine go Tryz.tbs_ok 1000 ?_
             refine ev_if_no rfl ?_
             refine go Tryz.tbs_ok 1000 ?_
             refine ev_callF (TN ) [1] [] rfl rfl (by decide) rfl (by simp) (fun _ => (by repeat (first | exact trivial | refine ⟨rfl, ?_⟩))) (fun ⟨x3, x4⟩ h5 => ?_)
             refine go Tryz.tbs_ok 1000 ?_
             refine ev_if_no (decide_eq_false (show ¬(↑D.files.length : Int) ≥ 15 from (by omega))) ?_
             refine go Tryz.tbs_ok 1000 ?_
             refine ev_callF (TL ) [] [] rfl rfl (by decide) rfl (by simp) (fun _ => (by repeat (first | exact trivial | refine ⟨rfl, ?_⟩))) (fun _ h6 => ?_)
             refine go Tryz.tbs_ok 1000 ?_
             refine ev_if_no (decide_eq_false (show ¬(↑(b + 0) : Int) ≥ 999999999 from (by omega))) ?_
             refine go Tryz.tbs_ok 1000 ?_
             refine ev_callF (TL ) [] [] rfl rfl (by decide) rfl (by simp) (fun _ => (by repeat (first | exact trivial | refine ⟨rfl, ?_⟩))) (fun _ h7 => ?_)
             refine go Tryz.tbs_ok 1000 ?_
             refine ev_wrapN (b + 0 + 1) (by constructor <;> omega) (by rfl) ?_
             refine ev_callF (TI (show b + 0 + 1 ≤ 9223372036854775807 from (by omega))) [] [.inl 0] rfl rfl (by decide) rfl (by simp) (fun _ => (by repeat (first | exact trivial | refine ⟨rfl, ?_⟩))) (fun _ h8 => ?_)
             refine go Tryz.tbs_ok 1000 ?_
             refine ev_stop (go_bin (.va _) trivial rfl rfl rfl rfl rfl (by decide) (by decide) (fun w => cat_run (by omega) w) ?_)
             refine go Tryz.tbs_ok 1000 ?_
             refine ev_callF (TP ) [] [] rfl rfl (by decide) rfl (by simp) (fun _ => (by repeat (first | exact trivial | refine ⟨rfl, ?_⟩))) (fun ⟨x9, x10⟩ h11 => ?_)
             refine go Tryz.tbs_ok 1000 ?_
             refine ev_new fun b12 => ?_
             refine ev_callF (TO (b12) (x9) (x10)) [3, 4] [] rfl rfl (by decide) rfl (by simp) (fun _ => (by repeat (first | exact trivial | refine ⟨rfl, ?_⟩))) (fun ⟨x13, x14⟩ h15 => ?_)
             refine go Tryz.tbs_ok 1000 ?_
             refine ev_call (TD (x13) (x14)) [0, 3, 1] [.inl 0] (fun v0_ => [.box (p) 49 [.va (Value.pointer (some { block := q, off := 0 : Addr })), .va (Value.int IntKind.i64 s), .bq (bd), .va (Value.int IntKind.i64 (↑b : Int)), .va (Value.int IntKind.i64 (↑0 : Int))], .fact (DiskM q G.fst)]) rfl rfl (by decide) rfl (by simp) (fun _ => rfl) (fun _ => (newsOk_box (by simp [SV.good, SV.goodL]) (newsOk_fact (newsOk_nil _)))) (fun _ => (by repeat (first | exact trivial | refine ⟨rfl, ?_⟩))) (fun _ h16 => ?_)
             refine go Tryz.tbs_ok 1000 ?_
             refine ev_if_no (beq_eq_false_iff_ne.2 (by with_reducible assumption)) ?_
             refine go Tryz.tbs_ok 1000 ?_
             refine ev_fin ⟨trivial, _, rfl, (()), rfl, (by trivial), Frm.sel [0, 3] rfl (by decide)⟩
       · have ht0 : 0 < t := by omega
         have e0 : endM b t = nmB 115 (b + t) := by unfold endM; rw [if_neg ht]
         rw [e0] at TE
         obtain ⟨la, hla⟩ : ∃ la, la = nmB 115 (b + t) := ⟨_, rfl⟩
         have hlz : 0 < la.size := by rw [hla]; exact nmB_pos _ _
         have hle : ¬ la = (⟨#[]⟩ : ByteArray) := fun q => by rw [q] at hlz; exact absurd hlz (by decide)
         rw [← hla] at TE hR
         have TZ := sizeW p q s bad b t D la hD
         unfold ptW at TZ
         obtain ⟨z, hz1⟩ : ∃ z, z = (readD D la).1.size := ⟨_, rfl⟩
         rw [← hz1] at TZ hR
         by_cases hz2 : z < 16384
         · rw [if_pos ⟨ht0, hz2⟩] at hR
           obtain ⟨g, hge⟩ : ∃ g : DK → DK × Int, g = fun D => appD D la F := ⟨_, rfl⟩
           have TP2 := putF p q s b t la F hF2
           rw [← hge] at TP2
           have TO2 := fun bx va vc => one1 p q s b t bx va vc g
           have TD := fun ia ic => doA p q s bad b t ia ic [g] D hD
           rw [run_one] at TD
           unfold ptW at TD
           rw [show appD D la F = g D by rw [hge]] at hR
           obtain ⟨G, hG⟩ : ∃ G, G = g D := ⟨_, rfl⟩
           rw [← hG] at TD hR
           obtain ⟨bd, hbd⟩ : ∃ bd, bd = (bad || badE G.2) := ⟨_, rfl⟩
           rw [← hbd] at TD hR
           subst hR
           refine triple_intro Tryz.tbs_ok Tryz.func19 rfl [.pt 0 p 0, .va (.slice A np cp)] [.box p 49 [.va (.pointer (some ⟨q, 0, none⟩)), .va (.int .i64 s), .bq bad, .va (.int .i64 (b : Nat)), .va (.int .i64 (t : Nat))], .fact (DiskM q D)] ⟨rfl, trivial, trivial⟩ rfl (by simp [SV.good, SV.goodL]) ?_
           intro E
           refine go Tryz.tbs_ok 1000 ?_
           refine ev_call (TA ) [0, 1] [] (fun v0_ => [.box (p) 49 [.va (Value.pointer (some { block := q, off := 0 : Addr })), .va (Value.int IntKind.i64 s), .bq (bad), .va (Value.int IntKind.i64 (↑b : Int)), .va (Value.int IntKind.i64 (↑t : Int))], .fact (DiskM q D)]) rfl rfl (by decide) rfl (by simp) (fun _ => rfl) (fun _ => (newsOk_box (by simp [SV.good, SV.goodL]) (newsOk_fact (newsOk_nil _)))) (fun _ => (by repeat (first | exact trivial | refine ⟨rfl, ?_⟩))) (fun _ h0 => ?_)
           refine go Tryz.tbs_ok 1000 ?_
           refine ev_if_no rfl ?_
           refine go Tryz.tbs_ok 1000 ?_
           refine ev_callF (TF ) [] [.inl 1] rfl rfl (by decide) rfl (by simp) (fun _ => (by repeat (first | exact trivial | refine ⟨rfl, ?_⟩))) (fun _ h1 => ?_)
           refine go Tryz.tbs_ok 1000 ?_
           refine ev_if_no rfl ?_
           refine go Tryz.tbs_ok 1000 ?_
           refine ev_if_no (beq_eq_false_iff_ne.2 (show ¬(↑np : Int) = 0 from (by omega))) ?_
           refine go Tryz.tbs_ok 1000 ?_
           refine ev_call (TE ) [0] [.inl 0] (fun v0_ => [.box (p) 49 [.va (Value.pointer (some { block := q, off := 0 : Addr })), .va (Value.int IntKind.i64 s), .bq (bad), .va (Value.int IntKind.i64 (↑b : Int)), .va (Value.int IntKind.i64 (↑t : Int))]]) rfl rfl (by decide) rfl (by simp) (fun _ => rfl) (fun _ => (newsOk_box (by simp [SV.good, SV.goodL]) (newsOk_nil _))) (fun _ => (by repeat (first | exact trivial | refine ⟨rfl, ?_⟩))) (fun _ h2 => ?_)
           refine go Tryz.tbs_ok 1000 ?_
           refine ev_if_yes (dec_yes (by with_reducible assumption)) ?_
           refine go Tryz.tbs_ok 1000 ?_
           refine ev_call (TZ ) [0, 1] [] (fun v0_ => [.box (p) 49 [.va (Value.pointer (some { block := q, off := 0 : Addr })), .va (Value.int IntKind.i64 s), .bq (bad), .va (Value.int IntKind.i64 (↑b : Int)), .va (Value.int IntKind.i64 (↑t : Int))], .fact (DiskM q D)]) rfl rfl (by decide) rfl (by simp) (fun _ => rfl) (fun _ => (newsOk_box (by simp [SV.good, SV.goodL]) (newsOk_fact (newsOk_nil _)))) (fun _ => (by repeat (first | exact trivial | refine ⟨rfl, ?_⟩))) (fun _ h3 => ?_)
           refine go Tryz.tbs_ok 1000 ?_
           refine ev_if_yes (decide_eq_true (show (↑z : Int) < 16384 from (by omega))) ?_
           refine go Tryz.tbs_ok 1000 ?_
           refine ev_callF (TP2 ) [] [] rfl rfl (by decide) rfl (by simp) (fun _ => (by repeat (first | exact trivial | refine ⟨rfl, ?_⟩))) (fun ⟨x4, x5⟩ h6 => ?_)
           refine go Tryz.tbs_ok 1000 ?_
           refine ev_new fun b7 => ?_
           refine ev_callF (TO2 (b7) (x4) (x5)) [2, 3] [] rfl rfl (by decide) rfl (by simp) (fun _ => (by repeat (first | exact trivial | refine ⟨rfl, ?_⟩))) (fun ⟨x8, x9⟩ h10 => ?_)
           refine go Tryz.tbs_ok 1000 ?_
           refine ev_call (TD (x8) (x9)) [0, 2, 1] [.inl 0] (fun v0_ => [.box (p) 49 [.va (Value.pointer (some { block := q, off := 0 : Addr })), .va (Value.int IntKind.i64 s), .bq (bd), .va (Value.int IntKind.i64 (↑b : Int)), .va (Value.int IntKind.i64 (↑t : Int))], .fact (DiskM q G.fst)]) rfl rfl (by decide) rfl (by simp) (fun _ => rfl) (fun _ => (newsOk_box (by simp [SV.good, SV.goodL]) (newsOk_fact (newsOk_nil _)))) (fun _ => (by repeat (first | exact trivial | refine ⟨rfl, ?_⟩))) (fun _ h11 => ?_)
           refine go Tryz.tbs_ok 1000 ?_
           refine ev_fin ⟨trivial, _, rfl, (()), rfl, (by trivial), Frm.sel [0, 2] rfl (by decide)⟩
         · rw [if_neg (fun q => hz2 q.2), if_pos ht0] at hR
           obtain ⟨g, hge⟩ : ∃ g : DK → DK × Int, g = fun D => syncD D la := ⟨_, rfl⟩
           have TP2 := syncF p q s b t la
           rw [← hge] at TP2
           have TO2 := fun bx va vc => one1 p q s b t bx va vc g
           have TD2 := fun ia ic => doA p q s bad b t ia ic [g] D hD
           rw [run_one] at TD2
           unfold ptW at TD2
           have hD1 : okD (g D).1 := by rw [hge]; exact sync_ok hD _
           rw [show syncD D la = g D by rw [hge]] at hR
           obtain ⟨D1, hG1⟩ : ∃ D1, D1 = g D := ⟨_, rfl⟩
           rw [← hG1] at TD2 hR hD1
           by_cases hg : D1.2 = 0
           · rw [hg, bad_zero] at TD2
             rw [if_neg (by simpa using hg)] at hR
             have TN := namesM q D1.1 hD1
             by_cases hful : 15 ≤ D1.1.files.length ∨ 999999999 ≤ b + t
             · rw [if_pos hful] at hR
               subst hR
               refine triple_intro Tryz.tbs_ok Tryz.func19 rfl [.pt 0 p 0, .va (.slice A np cp)] [.box p 49 [.va (.pointer (some ⟨q, 0, none⟩)), .va (.int .i64 s), .bq bad, .va (.int .i64 (b : Nat)), .va (.int .i64 (t : Nat))], .fact (DiskM q D)] ⟨rfl, trivial, trivial⟩ rfl (by simp [SV.good, SV.goodL]) ?_
               intro E
               by_cases h15 : 15 ≤ D1.1.files.length
               · refine go Tryz.tbs_ok 1000 ?_
                 refine ev_call (TA ) [0, 1] [] (fun v0_ => [.box (p) 49 [.va (Value.pointer (some { block := q, off := 0 : Addr })), .va (Value.int IntKind.i64 s), .bq (bad), .va (Value.int IntKind.i64 (↑b : Int)), .va (Value.int IntKind.i64 (↑t : Int))], .fact (DiskM q D)]) rfl rfl (by decide) rfl (by simp) (fun _ => rfl) (fun _ => (newsOk_box (by simp [SV.good, SV.goodL]) (newsOk_fact (newsOk_nil _)))) (fun _ => (by repeat (first | exact trivial | refine ⟨rfl, ?_⟩))) (fun _ h0 => ?_)
                 refine go Tryz.tbs_ok 1000 ?_
                 refine ev_if_no rfl ?_
                 refine go Tryz.tbs_ok 1000 ?_
                 refine ev_callF (TF ) [] [.inl 1] rfl rfl (by decide) rfl (by simp) (fun _ => (by repeat (first | exact trivial | refine ⟨rfl, ?_⟩))) (fun _ h1 => ?_)
                 refine go Tryz.tbs_ok 1000 ?_
                 refine ev_if_no rfl ?_
                 refine go Tryz.tbs_ok 1000 ?_
                 refine ev_if_no (beq_eq_false_iff_ne.2 (show ¬(↑np : Int) = 0 from (by omega))) ?_
                 refine go Tryz.tbs_ok 1000 ?_
                 refine ev_call (TE ) [0] [.inl 0] (fun v0_ => [.box (p) 49 [.va (Value.pointer (some { block := q, off := 0 : Addr })), .va (Value.int IntKind.i64 s), .bq (bad), .va (Value.int IntKind.i64 (↑b : Int)), .va (Value.int IntKind.i64 (↑t : Int))]]) rfl rfl (by decide) rfl (by simp) (fun _ => rfl) (fun _ => (newsOk_box (by simp [SV.good, SV.goodL]) (newsOk_nil _))) (fun _ => (by repeat (first | exact trivial | refine ⟨rfl, ?_⟩))) (fun _ h2 => ?_)
                 refine go Tryz.tbs_ok 1000 ?_
                 refine ev_if_yes (dec_yes (by with_reducible assumption)) ?_
                 refine go Tryz.tbs_ok 1000 ?_
                 refine ev_call (TZ ) [0, 1] [] (fun v0_ => [.box (p) 49 [.va (Value.pointer (some { block := q, off := 0 : Addr })), .va (Value.int IntKind.i64 s), .bq (bad), .va (Value.int IntKind.i64 (↑b : Int)), .va (Value.int IntKind.i64 (↑t : Int))], .fact (DiskM q D)]) rfl rfl (by decide) rfl (by simp) (fun _ => rfl) (fun _ => (newsOk_box (by simp [SV.good, SV.goodL]) (newsOk_fact (newsOk_nil _)))) (fun _ => (by repeat (first | exact trivial | refine ⟨rfl, ?_⟩))) (fun _ h3 => ?_)
                 refine go Tryz.tbs_ok 1000 ?_
                 refine ev_if_no (decide_eq_false (show ¬(↑z : Int) < 16384 from (by omega))) ?_
                 refine go Tryz.tbs_ok 1000 ?_
                 refine ev_callF (TP2 ) [] [] rfl rfl (by decide) rfl (by simp) (fun _ => (by repeat (first | exact trivial | refine ⟨rfl, ?_⟩))) (fun ⟨x4, x5⟩ h6 => ?_)
                 refine go Tryz.tbs_ok 1000 ?_
                 refine ev_new fun b7 => ?_
                 refine ev_callF (TO2 (b7) (x4) (x5)) [2, 3] [] rfl rfl (by decide) rfl (by simp) (fun _ => (by repeat (first | exact trivial | refine ⟨rfl, ?_⟩))) (fun ⟨x8, x9⟩ h10 => ?_)
                 refine go Tryz.tbs_ok 1000 ?_
                 refine ev_call (TD2 (x8) (x9)) [0, 2, 1] [.inl 0] (fun v0_ => [.box (p) 49 [.va (Value.pointer (some { block := q, off := 0 : Addr })), .va (Value.int IntKind.i64 s), .bq (bad), .va (Value.int IntKind.i64 (↑b : Int)), .va (Value.int IntKind.i64 (↑t : Int))], .fact (DiskM q D1.fst)]) rfl rfl (by decide) rfl (by simp) (fun _ => rfl) (fun _ => (newsOk_box (by simp [SV.good, SV.goodL]) (newsOk_fact (newsOk_nil _)))) (fun _ => (by repeat (first | exact trivial | refine ⟨rfl, ?_⟩))) (fun _ h11 => ?_)
                 refine go Tryz.tbs_ok 1000 ?_
                 refine ev_if_no rfl ?_
                 refine go Tryz.tbs_ok 1000 ?_
                 refine ev_callF (TN ) [2] [] rfl rfl (by decide) rfl (by simp) (fun _ => (by repeat (first | exact trivial | refine ⟨rfl, ?_⟩))) (fun ⟨x12, x13⟩ h14 => ?_)
                 refine go Tryz.tbs_ok 1000 ?_
                 refine ev_if_yes (decide_eq_true (show (↑D1.fst.files.length : Int) ≥ 15 from (by omega))) ?_
                 refine go Tryz.tbs_ok 1000 ?_
                 refine ev_fin ⟨trivial, _, rfl, (()), rfl, (by trivial), Frm.sel [0, 2] rfl (by decide)⟩
               · have h99 : 999999999 ≤ b + t := by omega
                 refine go Tryz.tbs_ok 1000 ?_
                 refine ev_call (TA ) [0, 1] [] (fun v0_ => [.box (p) 49 [.va (Value.pointer (some { block := q, off := 0 : Addr })), .va (Value.int IntKind.i64 s), .bq (bad), .va (Value.int IntKind.i64 (↑b : Int)), .va (Value.int IntKind.i64 (↑t : Int))], .fact (DiskM q D)]) rfl rfl (by decide) rfl (by simp) (fun _ => rfl) (fun _ => (newsOk_box (by simp [SV.good, SV.goodL]) (newsOk_fact (newsOk_nil _)))) (fun _ => (by repeat (first | exact trivial | refine ⟨rfl, ?_⟩))) (fun _ h0 => ?_)
                 refine go Tryz.tbs_ok 1000 ?_
                 refine ev_if_no rfl ?_
                 refine go Tryz.tbs_ok 1000 ?_
                 refine ev_callF (TF ) [] [.inl 1] rfl rfl (by decide) rfl (by simp) (fun _ => (by repeat (first | exact trivial | refine ⟨rfl, ?_⟩))) (fun _ h1 => ?_)
                 refine go Tryz.tbs_ok 1000 ?_
                 refine ev_if_no rfl ?_
                 refine go Tryz.tbs_ok 1000 ?_
                 refine ev_if_no (beq_eq_false_iff_ne.2 (show ¬(↑np : Int) = 0 from (by omega))) ?_
                 refine go Tryz.tbs_ok 1000 ?_
                 refine ev_call (TE ) [0] [.inl 0] (fun v0_ => [.box (p) 49 [.va (Value.pointer (some { block := q, off := 0 : Addr })), .va (Value.int IntKind.i64 s), .bq (bad), .va (Value.int IntKind.i64 (↑b : Int)), .va (Value.int IntKind.i64 (↑t : Int))]]) rfl rfl (by decide) rfl (by simp) (fun _ => rfl) (fun _ => (newsOk_box (by simp [SV.good, SV.goodL]) (newsOk_nil _))) (fun _ => (by repeat (first | exact trivial | refine ⟨rfl, ?_⟩))) (fun _ h2 => ?_)
                 refine go Tryz.tbs_ok 1000 ?_
                 refine ev_if_yes (dec_yes (by with_reducible assumption)) ?_
                 refine go Tryz.tbs_ok 1000 ?_
                 refine ev_call (TZ ) [0, 1] [] (fun v0_ => [.box (p) 49 [.va (Value.pointer (some { block := q, off := 0 : Addr })), .va (Value.int IntKind.i64 s), .bq (bad), .va (Value.int IntKind.i64 (↑b : Int)), .va (Value.int IntKind.i64 (↑t : Int))], .fact (DiskM q D)]) rfl rfl (by decide) rfl (by simp) (fun _ => rfl) (fun _ => (newsOk_box (by simp [SV.good, SV.goodL]) (newsOk_fact (newsOk_nil _)))) (fun _ => (by repeat (first | exact trivial | refine ⟨rfl, ?_⟩))) (fun _ h3 => ?_)
                 refine go Tryz.tbs_ok 1000 ?_
                 refine ev_if_no (decide_eq_false (show ¬(↑z : Int) < 16384 from (by omega))) ?_
                 refine go Tryz.tbs_ok 1000 ?_
                 refine ev_callF (TP2 ) [] [] rfl rfl (by decide) rfl (by simp) (fun _ => (by repeat (first | exact trivial | refine ⟨rfl, ?_⟩))) (fun ⟨x4, x5⟩ h6 => ?_)
                 refine go Tryz.tbs_ok 1000 ?_
                 refine ev_new fun b7 => ?_
                 refine ev_callF (TO2 (b7) (x4) (x5)) [2, 3] [] rfl rfl (by decide) rfl (by simp) (fun _ => (by repeat (first | exact trivial | refine ⟨rfl, ?_⟩))) (fun ⟨x8, x9⟩ h10 => ?_)
                 refine go Tryz.tbs_ok 1000 ?_
                 refine ev_call (TD2 (x8) (x9)) [0, 2, 1] [.inl 0] (fun v0_ => [.box (p) 49 [.va (Value.pointer (some { block := q, off := 0 : Addr })), .va (Value.int IntKind.i64 s), .bq (bad), .va (Value.int IntKind.i64 (↑b : Int)), .va (Value.int IntKind.i64 (↑t : Int))], .fact (DiskM q D1.fst)]) rfl rfl (by decide) rfl (by simp) (fun _ => rfl) (fun _ => (newsOk_box (by simp [SV.good, SV.goodL]) (newsOk_fact (newsOk_nil _)))) (fun _ => (by repeat (first | exact trivial | refine ⟨rfl, ?_⟩))) (fun _ h11 => ?_)
                 refine go Tryz.tbs_ok 1000 ?_
                 refine ev_if_no rfl ?_
                 refine go Tryz.tbs_ok 1000 ?_
                 refine ev_callF (TN ) [2] [] rfl rfl (by decide) rfl (by simp) (fun _ => (by repeat (first | exact trivial | refine ⟨rfl, ?_⟩))) (fun ⟨x12, x13⟩ h14 => ?_)
                 refine go Tryz.tbs_ok 1000 ?_
                 refine ev_if_no (decide_eq_false (show ¬(↑D1.fst.files.length : Int) ≥ 15 from (by omega))) ?_
                 refine go Tryz.tbs_ok 1000 ?_
                 refine ev_callF (TL ) [] [] rfl rfl (by decide) rfl (by simp) (fun _ => (by repeat (first | exact trivial | refine ⟨rfl, ?_⟩))) (fun _ h15 => ?_)
                 refine go Tryz.tbs_ok 1000 ?_
                 refine ev_if_yes (decide_eq_true (show (↑(b + t) : Int) ≥ 999999999 from (by omega))) ?_
                 refine go Tryz.tbs_ok 1000 ?_
                 refine ev_fin ⟨trivial, _, rfl, (()), rfl, (by trivial), Frm.sel [0, 2] rfl (by decide)⟩
             · rw [if_neg hful] at hR
               have TD := fun ia ic => doA p q s bad b t ia ic [f] D1.1 hD1
               rw [run_one] at TD
               unfold ptW at TD
               obtain ⟨G, hG⟩ : ∃ G, G = f D1.1 := ⟨_, rfl⟩
               rw [← hG] at TD hR
               obtain ⟨bd, hbd⟩ : ∃ bd, bd = (bad || badE G.2) := ⟨_, rfl⟩
               rw [← hbd] at TD hR
               have h15 : ¬ 15 ≤ D1.1.files.length := fun q => hful (.inl q)
               have h99 : ¬ 999999999 ≤ b + t := fun q => hful (.inr q)
               by_cases hg : G.2 = 0
               · rw [hg] at TD hR
                 rw [if_pos rfl] at hR
                 subst hR
                 refine triple_intro Tryz.tbs_ok Tryz.func19 rfl [.pt 0 p 0, .va (.slice A np cp)] [.box p 49 [.va (.pointer (some ⟨q, 0, none⟩)), .va (.int .i64 s), .bq bad, .va (.int .i64 (b : Nat)), .va (.int .i64 (t : Nat))], .fact (DiskM q D)] ⟨rfl, trivial, trivial⟩ rfl (by simp [SV.good, SV.goodL]) ?_
                 intro E
                 refine go Tryz.tbs_ok 1000 ?_
                 refine ev_call (TA ) [0, 1] [] (fun v0_ => [.box (p) 49 [.va (Value.pointer (some { block := q, off := 0 : Addr })), .va (Value.int IntKind.i64 s), .bq (bad), .va (Value.int IntKind.i64 (↑b : Int)), .va (Value.int IntKind.i64 (↑t : Int))], .fact (DiskM q D)]) rfl rfl (by decide) rfl (by simp) (fun _ => rfl) (fun _ => (newsOk_box (by simp [SV.good, SV.goodL]) (newsOk_fact (newsOk_nil _)))) (fun _ => (by repeat (first | exact trivial | refine ⟨rfl, ?_⟩))) (fun _ h0 => ?_)
                 refine go Tryz.tbs_ok 1000 ?_
                 refine ev_if_no rfl ?_
                 refine go Tryz.tbs_ok 1000 ?_
                 refine ev_callF (TF ) [] [.inl 1] rfl rfl (by decide) rfl (by simp) (fun _ => (by repeat (first | exact trivial | refine ⟨rfl, ?_⟩))) (fun _ h1 => ?_)
                 refine go Tryz.tbs_ok 1000 ?_
                 refine ev_if_no rfl ?_
                 refine go Tryz.tbs_ok 1000 ?_
                 refine ev_if_no (beq_eq_false_iff_ne.2 (show ¬(↑np : Int) = 0 from (by omega))) ?_
                 refine go Tryz.tbs_ok 1000 ?_
                 refine ev_call (TE ) [0] [.inl 0] (fun v0_ => [.box (p) 49 [.va (Value.pointer (some { block := q, off := 0 : Addr })), .va (Value.int IntKind.i64 s), .bq (bad), .va (Value.int IntKind.i64 (↑b : Int)), .va (Value.int IntKind.i64 (↑t : Int))]]) rfl rfl (by decide) rfl (by simp) (fun _ => rfl) (fun _ => (newsOk_box (by simp [SV.good, SV.goodL]) (newsOk_nil _))) (fun _ => (by repeat (first | exact trivial | refine ⟨rfl, ?_⟩))) (fun _ h2 => ?_)
                 refine go Tryz.tbs_ok 1000 ?_
                 refine ev_if_yes (dec_yes (by with_reducible assumption)) ?_
                 refine go Tryz.tbs_ok 1000 ?_
                 refine ev_call (TZ ) [0, 1] [] (fun v0_ => [.box (p) 49 [.va (Value.pointer (some { block := q, off := 0 : Addr })), .va (Value.int IntKind.i64 s), .bq (bad), .va (Value.int IntKind.i64 (↑b : Int)), .va (Value.int IntKind.i64 (↑t : Int))], .fact (DiskM q D)]) rfl rfl (by decide) rfl (by simp) (fun _ => rfl) (fun _ => (newsOk_box (by simp [SV.good, SV.goodL]) (newsOk_fact (newsOk_nil _)))) (fun _ => (by repeat (first | exact trivial | refine ⟨rfl, ?_⟩))) (fun _ h3 => ?_)
                 refine go Tryz.tbs_ok 1000 ?_
                 refine ev_if_no (decide_eq_false (show ¬(↑z : Int) < 16384 from (by omega))) ?_
                 refine go Tryz.tbs_ok 1000 ?_
                 refine ev_callF (TP2 ) [] [] rfl rfl (by decide) rfl (by simp) (fun _ => (by repeat (first | exact trivial | refine ⟨rfl, ?_⟩))) (fun ⟨x4, x5⟩ h6 => ?_)
                 refine go Tryz.tbs_ok 1000 ?_
                 refine ev_new fun b7 => ?_
                 refine ev_callF (TO2 (b7) (x4) (x5)) [2, 3] [] rfl rfl (by decide) rfl (by simp) (fun _ => (by repeat (first | exact trivial | refine ⟨rfl, ?_⟩))) (fun ⟨x8, x9⟩ h10 => ?_)
                 refine go Tryz.tbs_ok 1000 ?_
                 refine ev_call (TD2 (x8) (x9)) [0, 2, 1] [.inl 0] (fun v0_ => [.box (p) 49 [.va (Value.pointer (some { block := q, off := 0 : Addr })), .va (Value.int IntKind.i64 s), .bq (bad), .va (Value.int IntKind.i64 (↑b : Int)), .va (Value.int IntKind.i64 (↑t : Int))], .fact (DiskM q D1.fst)]) rfl rfl (by decide) rfl (by simp) (fun _ => rfl) (fun _ => (newsOk_box (by simp [SV.good, SV.goodL]) (newsOk_fact (newsOk_nil _)))) (fun _ => (by repeat (first | exact trivial | refine ⟨rfl, ?_⟩))) (fun _ h11 => ?_)
                 refine go Tryz.tbs_ok 1000 ?_
                 refine ev_if_no rfl ?_
                 refine go Tryz.tbs_ok 1000 ?_
                 refine ev_callF (TN ) [2] [] rfl rfl (by decide) rfl (by simp) (fun _ => (by repeat (first | exact trivial | refine ⟨rfl, ?_⟩))) (fun ⟨x12, x13⟩ h14 => ?_)
                 refine go Tryz.tbs_ok 1000 ?_
                 refine ev_if_no (decide_eq_false (show ¬(↑D1.fst.files.length : Int) ≥ 15 from (by omega))) ?_
                 refine go Tryz.tbs_ok 1000 ?_
                 refine ev_callF (TL ) [] [] rfl rfl (by decide) rfl (by simp) (fun _ => (by repeat (first | exact trivial | refine ⟨rfl, ?_⟩))) (fun _ h15 => ?_)
                 refine go Tryz.tbs_ok 1000 ?_
                 refine ev_if_no (decide_eq_false (show ¬(↑(b + t) : Int) ≥ 999999999 from (by omega))) ?_
                 refine go Tryz.tbs_ok 1000 ?_
                 refine ev_callF (TL ) [] [] rfl rfl (by decide) rfl (by simp) (fun _ => (by repeat (first | exact trivial | refine ⟨rfl, ?_⟩))) (fun _ h16 => ?_)
                 refine go Tryz.tbs_ok 1000 ?_
                 refine ev_wrapN (b + t + 1) (by constructor <;> omega) (by rfl) ?_
                 refine ev_callF (TI (show b + t + 1 ≤ 9223372036854775807 from (by omega))) [] [.inl 0] rfl rfl (by decide) rfl (by simp) (fun _ => (by repeat (first | exact trivial | refine ⟨rfl, ?_⟩))) (fun _ h17 => ?_)
                 refine go Tryz.tbs_ok 1000 ?_
                 refine ev_stop (go_bin (.va _) trivial rfl rfl rfl rfl rfl (by decide) (by decide) (fun w => cat_run (by omega) w) ?_)
                 refine go Tryz.tbs_ok 1000 ?_
                 refine ev_callF (TP ) [] [] rfl rfl (by decide) rfl (by simp) (fun _ => (by repeat (first | exact trivial | refine ⟨rfl, ?_⟩))) (fun ⟨x18, x19⟩ h20 => ?_)
                 refine go Tryz.tbs_ok 1000 ?_
                 refine ev_new fun b21 => ?_
                 refine ev_callF (TO (b21) (x18) (x19)) [5, 6] [] rfl rfl (by decide) rfl (by simp) (fun _ => (by repeat (first | exact trivial | refine ⟨rfl, ?_⟩))) (fun ⟨x22, x23⟩ h24 => ?_)
                 refine go Tryz.tbs_ok 1000 ?_
                 refine ev_call (TD (x22) (x23)) [0, 5, 2] [.inl 0] (fun v0_ => [.box (p) 49 [.va (Value.pointer (some { block := q, off := 0 : Addr })), .va (Value.int IntKind.i64 s), .bq (bd), .va (Value.int IntKind.i64 (↑b : Int)), .va (Value.int IntKind.i64 (↑t : Int))], .fact (DiskM q G.fst)]) rfl rfl (by decide) rfl (by simp) (fun _ => rfl) (fun _ => (newsOk_box (by simp [SV.good, SV.goodL]) (newsOk_fact (newsOk_nil _)))) (fun _ => (by repeat (first | exact trivial | refine ⟨rfl, ?_⟩))) (fun _ h25 => ?_)
                 refine go Tryz.tbs_ok 1000 ?_
                 refine ev_if_yes rfl ?_
                 refine go Tryz.tbs_ok 1000 ?_
                 refine ev_wrapN (t + 1) (by constructor <;> omega) (by rfl) ?_
                 refine ev_fin ⟨trivial, _, rfl, (()), rfl, (by trivial), Frm.sel [0, 5] rfl (by decide)⟩
               · rw [if_neg hg] at hR
                 subst hR
                 refine triple_intro Tryz.tbs_ok Tryz.func19 rfl [.pt 0 p 0, .va (.slice A np cp)] [.box p 49 [.va (.pointer (some ⟨q, 0, none⟩)), .va (.int .i64 s), .bq bad, .va (.int .i64 (b : Nat)), .va (.int .i64 (t : Nat))], .fact (DiskM q D)] ⟨rfl, trivial, trivial⟩ rfl (by simp [SV.good, SV.goodL]) ?_
                 intro E
                 refine go Tryz.tbs_ok 1000 ?_
                 refine ev_call (TA ) [0, 1] [] (fun v0_ => [.box (p) 49 [.va (Value.pointer (some { block := q, off := 0 : Addr })), .va (Value.int IntKind.i64 s), .bq (bad), .va (Value.int IntKind.i64 (↑b : Int)), .va (Value.int IntKind.i64 (↑t : Int))], .fact (DiskM q D)]) rfl rfl (by decide) rfl (by simp) (fun _ => rfl) (fun _ => (newsOk_box (by simp [SV.good, SV.goodL]) (newsOk_fact (newsOk_nil _)))) (fun _ => (by repeat (first | exact trivial | refine ⟨rfl, ?_⟩))) (fun _ h0 => ?_)
                 refine go Tryz.tbs_ok 1000 ?_
                 refine ev_if_no rfl ?_
                 refine go Tryz.tbs_ok 1000 ?_
                 refine ev_callF (TF ) [] [.inl 1] rfl rfl (by decide) rfl (by simp) (fun _ => (by repeat (first | exact trivial | refine ⟨rfl, ?_⟩))) (fun _ h1 => ?_)
                 refine go Tryz.tbs_ok 1000 ?_
                 refine ev_if_no rfl ?_
                 refine go Tryz.tbs_ok 1000 ?_
                 refine ev_if_no (beq_eq_false_iff_ne.2 (show ¬(↑np : Int) = 0 from (by omega))) ?_
                 refine go Tryz.tbs_ok 1000 ?_
                 refine ev_call (TE ) [0] [.inl 0] (fun v0_ => [.box (p) 49 [.va (Value.pointer (some { block := q, off := 0 : Addr })), .va (Value.int IntKind.i64 s), .bq (bad), .va (Value.int IntKind.i64 (↑b : Int)), .va (Value.int IntKind.i64 (↑t : Int))]]) rfl rfl (by decide) rfl (by simp) (fun _ => rfl) (fun _ => (newsOk_box (by simp [SV.good, SV.goodL]) (newsOk_nil _))) (fun _ => (by repeat (first | exact trivial | refine ⟨rfl, ?_⟩))) (fun _ h2 => ?_)
                 refine go Tryz.tbs_ok 1000 ?_
                 refine ev_if_yes (dec_yes (by with_reducible assumption)) ?_
                 refine go Tryz.tbs_ok 1000 ?_
                 refine ev_call (TZ ) [0, 1] [] (fun v0_ => [.box (p) 49 [.va (Value.pointer (some { block := q, off := 0 : Addr })), .va (Value.int IntKind.i64 s), .bq (bad), .va (Value.int IntKind.i64 (↑b : Int)), .va (Value.int IntKind.i64 (↑t : Int))], .fact (DiskM q D)]) rfl rfl (by decide) rfl (by simp) (fun _ => rfl) (fun _ => (newsOk_box (by simp [SV.good, SV.goodL]) (newsOk_fact (newsOk_nil _)))) (fun _ => (by repeat (first | exact trivial | refine ⟨rfl, ?_⟩))) (fun _ h3 => ?_)
                 refine go Tryz.tbs_ok 1000 ?_
                 refine ev_if_no (decide_eq_false (show ¬(↑z : Int) < 16384 from (by omega))) ?_
                 refine go Tryz.tbs_ok 1000 ?_
                 refine ev_callF (TP2 ) [] [] rfl rfl (by decide) rfl (by simp) (fun _ => (by repeat (first | exact trivial | refine ⟨rfl, ?_⟩))) (fun ⟨x4, x5⟩ h6 => ?_)
                 refine go Tryz.tbs_ok 1000 ?_
                 refine ev_new fun b7 => ?_
                 refine ev_callF (TO2 (b7) (x4) (x5)) [2, 3] [] rfl rfl (by decide) rfl (by simp) (fun _ => (by repeat (first | exact trivial | refine ⟨rfl, ?_⟩))) (fun ⟨x8, x9⟩ h10 => ?_)
                 refine go Tryz.tbs_ok 1000 ?_
                 refine ev_call (TD2 (x8) (x9)) [0, 2, 1] [.inl 0] (fun v0_ => [.box (p) 49 [.va (Value.pointer (some { block := q, off := 0 : Addr })), .va (Value.int IntKind.i64 s), .bq (bad), .va (Value.int IntKind.i64 (↑b : Int)), .va (Value.int IntKind.i64 (↑t : Int))], .fact (DiskM q D1.fst)]) rfl rfl (by decide) rfl (by simp) (fun _ => rfl) (fun _ => (newsOk_box (by simp [SV.good, SV.goodL]) (newsOk_fact (newsOk_nil _)))) (fun _ => (by repeat (first | exact trivial | refine ⟨rfl, ?_⟩))) (fun _ h11 => ?_)
                 refine go Tryz.tbs_ok 1000 ?_
                 refine ev_if_no rfl ?_
                 refine go Tryz.tbs_ok 1000 ?_
                 refine ev_callF (TN ) [2] [] rfl rfl (by decide) rfl (by simp) (fun _ => (by repeat (first | exact trivial | refine ⟨rfl, ?_⟩))) (fun ⟨x12, x13⟩ h14 => ?_)
                 refine go Tryz.tbs_ok 1000 ?_
                 refine ev_if_no (decide_eq_false (show ¬(↑D1.fst.files.length : Int) ≥ 15 from (by omega))) ?_
                 refine go Tryz.tbs_ok 1000 ?_
                 refine ev_callF (TL ) [] [] rfl rfl (by decide) rfl (by simp) (fun _ => (by repeat (first | exact trivial | refine ⟨rfl, ?_⟩))) (fun _ h15 => ?_)
                 refine go Tryz.tbs_ok 1000 ?_
                 refine ev_if_no (decide_eq_false (show ¬(↑(b + t) : Int) ≥ 999999999 from (by omega))) ?_
                 refine go Tryz.tbs_ok 1000 ?_
                 refine ev_callF (TL ) [] [] rfl rfl (by decide) rfl (by simp) (fun _ => (by repeat (first | exact trivial | refine ⟨rfl, ?_⟩))) (fun _ h16 => ?_)
                 refine go Tryz.tbs_ok 1000 ?_
                 refine ev_wrapN (b + t + 1) (by constructor <;> omega) (by rfl) ?_
                 refine ev_callF (TI (show b + t + 1 ≤ 9223372036854775807 from (by omega))) [] [.inl 0] rfl rfl (by decide) rfl (by simp) (fun _ => (by repeat (first | exact trivial | refine ⟨rfl, ?_⟩))) (fun _ h17 => ?_)
                 refine go Tryz.tbs_ok 1000 ?_
                 refine ev_stop (go_bin (.va _) trivial rfl rfl rfl rfl rfl (by decide) (by decide) (fun w => cat_run (by omega) w) ?_)
                 refine go Tryz.tbs_ok 1000 ?_
                 refine ev_callF (TP ) [] [] rfl rfl (by decide) rfl (by simp) (fun _ => (by repeat (first | exact trivial | refine ⟨rfl, ?_⟩))) (fun ⟨x18, x19⟩ h20 => ?_)
                 refine go Tryz.tbs_ok 1000 ?_
                 refine ev_new fun b21 => ?_
                 refine ev_callF (TO (b21) (x18) (x19)) [5, 6] [] rfl rfl (by decide) rfl (by simp) (fun _ => (by repeat (first | exact trivial | refine ⟨rfl, ?_⟩))) (fun ⟨x22, x23⟩ h24 => ?_)
                 refine go Tryz.tbs_ok 1000 ?_
                 refine ev_call (TD (x22) (x23)) [0, 5, 2] [.inl 0] (fun v0_ => [.box (p) 49 [.va (Value.pointer (some { block := q, off := 0 : Addr })), .va (Value.int IntKind.i64 s), .bq (bd), .va (Value.int IntKind.i64 (↑b : Int)), .va (Value.int IntKind.i64 (↑t : Int))], .fact (DiskM q G.fst)]) rfl rfl (by decide) rfl (by simp) (fun _ => rfl) (fun _ => (newsOk_box (by simp [SV.good, SV.goodL]) (newsOk_fact (newsOk_nil _)))) (fun _ => (by repeat (first | exact trivial | refine ⟨rfl, ?_⟩))) (fun _ h25 => ?_)
                 refine go Tryz.tbs_ok 1000 ?_
                 refine ev_if_no (beq_eq_false_iff_ne.2 (by with_reducible assumption)) ?_
                 refine go Tryz.tbs_ok 1000 ?_
                 refine ev_fin ⟨trivial, _, rfl, (()), rfl, (by trivial), Frm.sel [0, 5] rfl (by decide)⟩
           · rw [if_pos (by simpa using hg)] at hR
             obtain ⟨bd, hbd⟩ : ∃ bd, bd = (bad || badE D1.2) := ⟨_, rfl⟩
             rw [← hbd] at TD2 hR
             subst hR
             refine triple_intro Tryz.tbs_ok Tryz.func19 rfl [.pt 0 p 0, .va (.slice A np cp)] [.box p 49 [.va (.pointer (some ⟨q, 0, none⟩)), .va (.int .i64 s), .bq bad, .va (.int .i64 (b : Nat)), .va (.int .i64 (t : Nat))], .fact (DiskM q D)] ⟨rfl, trivial, trivial⟩ rfl (by simp [SV.good, SV.goodL]) ?_
             intro E
             refine go Tryz.tbs_ok 1000 ?_
             refine ev_call (TA ) [0, 1] [] (fun v0_ => [.box (p) 49 [.va (Value.pointer (some { block := q, off := 0 : Addr })), .va (Value.int IntKind.i64 s), .bq (bad), .va (Value.int IntKind.i64 (↑b : Int)), .va (Value.int IntKind.i64 (↑t : Int))], .fact (DiskM q D)]) rfl rfl (by decide) rfl (by simp) (fun _ => rfl) (fun _ => (newsOk_box (by simp [SV.good, SV.goodL]) (newsOk_fact (newsOk_nil _)))) (fun _ => (by repeat (first | exact trivial | refine ⟨rfl, ?_⟩))) (fun _ h0 => ?_)
             refine go Tryz.tbs_ok 1000 ?_
             refine ev_if_no rfl ?_
             refine go Tryz.tbs_ok 1000 ?_
             refine ev_callF (TF ) [] [.inl 1] rfl rfl (by decide) rfl (by simp) (fun _ => (by repeat (first | exact trivial | refine ⟨rfl, ?_⟩))) (fun _ h1 => ?_)
             refine go Tryz.tbs_ok 1000 ?_
             refine ev_if_no rfl ?_
             refine go Tryz.tbs_ok 1000 ?_
             refine ev_if_no (beq_eq_false_iff_ne.2 (show ¬(↑np : Int) = 0 from (by omega))) ?_
             refine go Tryz.tbs_ok 1000 ?_
             refine ev_call (TE ) [0] [.inl 0] (fun v0_ => [.box (p) 49 [.va (Value.pointer (some { block := q, off := 0 : Addr })), .va (Value.int IntKind.i64 s), .bq (bad), .va (Value.int IntKind.i64 (↑b : Int)), .va (Value.int IntKind.i64 (↑t : Int))]]) rfl rfl (by decide) rfl (by simp) (fun _ => rfl) (fun _ => (newsOk_box (by simp [SV.good, SV.goodL]) (newsOk_nil _))) (fun _ => (by repeat (first | exact trivial | refine ⟨rfl, ?_⟩))) (fun _ h2 => ?_)
             refine go Tryz.tbs_ok 1000 ?_
             refine ev_if_yes (dec_yes (by with_reducible assumption)) ?_
             refine go Tryz.tbs_ok 1000 ?_
             refine ev_call (TZ ) [0, 1] [] (fun v0_ => [.box (p) 49 [.va (Value.pointer (some { block := q, off := 0 : Addr })), .va (Value.int IntKind.i64 s), .bq (bad), .va (Value.int IntKind.i64 (↑b : Int)), .va (Value.int IntKind.i64 (↑t : Int))], .fact (DiskM q D)]) rfl rfl (by decide) rfl (by simp) (fun _ => rfl) (fun _ => (newsOk_box (by simp [SV.good, SV.goodL]) (newsOk_fact (newsOk_nil _)))) (fun _ => (by repeat (first | exact trivial | refine ⟨rfl, ?_⟩))) (fun _ h3 => ?_)
             refine go Tryz.tbs_ok 1000 ?_
             refine ev_if_no (decide_eq_false (show ¬(↑z : Int) < 16384 from (by omega))) ?_
             refine go Tryz.tbs_ok 1000 ?_
             refine ev_callF (TP2 ) [] [] rfl rfl (by decide) rfl (by simp) (fun _ => (by repeat (first | exact trivial | refine ⟨rfl, ?_⟩))) (fun ⟨x4, x5⟩ h6 => ?_)
             refine go Tryz.tbs_ok 1000 ?_
             refine ev_new fun b7 => ?_
             refine ev_callF (TO2 (b7) (x4) (x5)) [2, 3] [] rfl rfl (by decide) rfl (by simp) (fun _ => (by repeat (first | exact trivial | refine ⟨rfl, ?_⟩))) (fun ⟨x8, x9⟩ h10 => ?_)
             refine go Tryz.tbs_ok 1000 ?_
             refine ev_call (TD2 (x8) (x9)) [0, 2, 1] [.inl 0] (fun v0_ => [.box (p) 49 [.va (Value.pointer (some { block := q, off := 0 : Addr })), .va (Value.int IntKind.i64 s), .bq (bd), .va (Value.int IntKind.i64 (↑b : Int)), .va (Value.int IntKind.i64 (↑t : Int))], .fact (DiskM q D1.fst)]) rfl rfl (by decide) rfl (by simp) (fun _ => rfl) (fun _ => (newsOk_box (by simp [SV.good, SV.goodL]) (newsOk_fact (newsOk_nil _)))) (fun _ => (by repeat (first | exact trivial | refine ⟨rfl, ?_⟩))) (fun _ h11 => ?_)
             refine go Tryz.tbs_ok 1000 ?_
             refine ev_if_yes (ne_yes (by with_reducible assumption)) ?_
             refine go Tryz.tbs_ok 1000 ?_
             refine ev_fin ⟨trivial, _, rfl, (()), rfl, (by trivial), Frm.sel [0, 2] rfl (by decide)⟩
   · rw [appW_long h hf] at hR
     subst hR
     refine triple_intro Tryz.tbs_ok Tryz.func19 rfl [.pt 0 p 0, .va (.slice A np cp)] [.box p 49 [.va (.pointer (some ⟨q, 0, none⟩)), .va (.int .i64 s), .bq bad, .va (.int .i64 (b : Nat)), .va (.int .i64 (t : Nat))], .fact (DiskM q D)] ⟨rfl, trivial, trivial⟩ rfl (by simp [SV.good, SV.goodL]) ?_
     intro E
     refine go Tryz.tbs_ok 1000 ?_
     refine ev_call (TA ) [0, 1] [] (fun v0_ => [.box (p) 49 [.va (Value.pointer (some { block := q, off := 0 : Addr })), .va (Value.int IntKind.i64 s), .bq (bad), .va (Value.int IntKind.i64 (↑b : Int)), .va (Value.int IntKind.i64 (↑t : Int))], .fact (DiskM q D)]) rfl rfl (by decide) rfl (by simp) (fun _ => rfl) (fun _ => (newsOk_box (by simp [SV.good, SV.goodL]) (newsOk_fact (newsOk_nil _)))) (fun _ => (by repeat (first | exact trivial | refine ⟨rfl, ?_⟩))) (fun _ h0 => ?_)
     refine go Tryz.tbs_ok 1000 ?_
     refine ev_if_no rfl ?_
     refine go Tryz.tbs_ok 1000 ?_
     refine ev_callF (TF ) [] [.inl 1] rfl rfl (by decide) rfl (by simp) (fun _ => (by repeat (first | exact trivial | refine ⟨rfl, ?_⟩))) (fun _ h1 => ?_)
     refine go Tryz.tbs_ok 1000 ?_
     refine ev_if_yes (ne_yes (by with_reducible assumption)) ?_
     refine go Tryz.tbs_ok 1000 ?_
     refine ev_fin ⟨trivial, _, rfl, (()), rfl, (by trivial), Frm.sel [0, 1] rfl (by decide)⟩
 · rw [appW_ask h] at hR
   rw [h] at TA
   subst hR
   refine triple_intro Tryz.tbs_ok Tryz.func19 rfl [.pt 0 p 0, .va (.slice A np cp)] [.box p 49 [.va (.pointer (some ⟨q, 0, none⟩)), .va (.int .i64 s), .bq bad, .va (.int .i64 (b : Nat)), .va (.int .i64 (t : Nat))], .fact (DiskM q D)] ⟨rfl, trivial, trivial⟩ rfl (by simp [SV.good, SV.goodL]) ?_
   intro E
   refine go Tryz.tbs_ok 1000 ?_
   refine ev_call (TA ) [0, 1] [] (fun v0_ => [.box (p) 49 [.va (Value.pointer (some { block := q, off := 0 : Addr })), .va (Value.int IntKind.i64 s), .bq (bad), .va (Value.int IntKind.i64 (↑b : Int)), .va (Value.int IntKind.i64 (↑t : Int))], .fact (DiskM q D)]) rfl rfl (by decide) rfl (by simp) (fun _ => rfl) (fun _ => (newsOk_box (by simp [SV.good, SV.goodL]) (newsOk_fact (newsOk_nil _)))) (fun _ => (by repeat (first | exact trivial | refine ⟨rfl, ?_⟩))) (fun _ h0 => ?_)
   refine go Tryz.tbs_ok 1000 ?_
   refine ev_if_yes rfl ?_
   refine go Tryz.tbs_ok 1000 ?_
   refine ev_fin ⟨trivial, _, rfl, (()), rfl, (by trivial), Frm.sel [0, 1] rfl (by decide)⟩
end Go.Proofs.YtjlfdfmkofbccaaGreatDoor
namespace Go.Proofs.YtjlfdfmkofbccaaGreatDoor
open Go.Sy
theorem runD_ok : ∀ {fs : List (DK → DK × Int)} {D : DK}, (∀ f ∈ fs, ∀ D, okD D → okD (f D).1) → okD D → okD (runD fs D).1
 | [], _, _, h => h
 |
  f :: fs, D, hf, h => by
  have h1 := hf f List.mem_cons_self D h
  unfold runD
  split
  · exact runD_ok (fun g hg => hf g (List.mem_cons_of_mem _ hg)) h1
  · exact h1
theorem remL_ok {L : List ByteArray} : ∀ f ∈ remL L, ∀ D, okD D → okD (f D).1 := fun f hf D h => by
 obtain ⟨x, _, rfl⟩ := List.mem_map.1 hf
 exact rem_ok h _
def cutAt (_t : Nat) (dat : List ByteArray) (e : ByteArray) (i : Nat) (cut : ByteArray) (en : Int) : Prop :=
 (cut = ⟨#[]⟩ ∧ en = 0 ∧ ∀ k x, k < i → dat[k]? = some x → wholeB x = true) ∨ (i = dat.length ∧ cut = e ∧ ∃ z : Nat, en = (z : Int) ∧ cutM dat = some z)
theorem cutAt_end {t : Nat} {dat : List ByteArray} {e cut : ByteArray} {en : Int} (h : cutAt t dat e dat.length cut en) : (cut = ⟨#[]⟩ ∧ en = 0 ∧ cutM dat = none) ∨ (cut = e ∧ ∃ z : Nat, en = (z : Int) ∧ cutM dat = some z) := by
 rcases h with ⟨h1, h2, h3⟩ | ⟨_, h2, h3⟩
 · refine .inl ⟨h1, h2, cutM_no fun x hx => ?_⟩
   obtain ⟨k, hk, rfl⟩ := List.getElem_of_mem hx
   exact h3 k _ hk (List.getElem?_eq_getElem hk)
 · exact .inr ⟨h2, h3⟩
theorem cutAt_whole {t : Nat} {dat : List ByteArray} {e cut : ByteArray} {en : Int} {i : Nat} (h : cutAt t dat e i cut en) (hi : i < dat.length) {x : ByteArray} (hx : dat[i]? = some x) (hw : wholeB x = true) : cutAt t dat e (i + 1) cut en := by
 rcases h with ⟨h1, h2, h3⟩ | ⟨h1, _⟩
 · refine .inl ⟨h1, h2, fun k y hk hy => ?_⟩
   rcases Nat.lt_or_ge k i with h4 | h4
   · exact h3 k y h4 hy
   · obtain rfl : k = i := by omega
     rw [hx] at hy
     cases hy
     exact hw
 · omega
theorem cutAt_torn {t : Nat} {dat : List ByteArray} {e : ByteArray} {i : Nat} {x : ByteArray} (hx : dat[i]? = some x) (hi : i + 1 = dat.length) (hw : wholeB x = false) : cutAt t dat e (i + 1) e ((wholeM x).2 : Nat) := by
 refine .inr ⟨hi, rfl, _, rfl, ?_⟩
 obtain ⟨h1, h2⟩ := List.getElem?_eq_some_iff.1 hx
 have := cutM_yes hi (by rw [h2]; exact hw)
 rwa [h2] at this
theorem stale_len (L : List ByteArray) : (staleM L).length ≤ L.length := by
 unfold staleM
 split
 · exact List.length_filter_le _ _
 · simp
theorem seg_last {b t i : Nat} (h : 0 < t) (hi : i + 1 = (segsM b t).length) (h2 : i < (segsM b t).length) : (segsM b t)[i] = endM b t := by
 have h3 := segs_end (b := b) h
 rw [List.getLast?_eq_getElem?, show (segsM b t).length - 1 = i by omega, List.getElem?_eq_getElem h2] at h3
 exact Option.some.inj h3
end Go.Proofs.YtjlfdfmkofbccaaGreatDoor
namespace Go.Proofs.YtjlfdfmkofbccaaGreatDoor
open Go.Sy
set_option maxHeartbeats 8000000 in
set_option maxRecDepth 100000 in
theorem openCutE (q : Nat) (D : DK) (hD : okD D) (h : D.down = false) (ho : okN (namesD D) = true) (hs : okSeg (tailsM (namesD D)) (dataD D) = true) (hre : (runD (remL (staleM (namesD D))) D).2 = 0) (zc : Nat) (hc : cutM (dataD D) = some zc)
 (R : DK × Int) (hR : R = truncD (runD (remL (staleM (namesD D))) D).1 (endM (baseM (namesD D)) (tailsM (namesD D))) (zc : Nat)) (hR2 : R.2 ≠ 0) : Triple Tryz.prog 12 [.pointer (some ⟨q, 0, none⟩)] [DiskM q D] [TabA] Unit (fun _ => .tuple #[.pointer none, .slice none 0 0, .int .i64 R.2]) (fun _ => True) (fun _ => [DiskM q R.1]) := by
 unfold dataD at hc
 have T1 := startsM q D hD
 have T2 := upM q D hD
 rw [h] at T2
 have T3 := namesM q D hD
 have hfew := hD.few
 unfold dataD at hs
 obtain ⟨L, hL⟩ : ∃ L, L = D.files.map nameEG := ⟨_, rfl⟩
 obtain ⟨n, hn⟩ : ∃ n, n = D.files.length := ⟨_, rfl⟩
 have hnl : n = L.length := by rw [hL, hn, List.length_map]
 have hLN : namesD D = L := hL.symm
 rw [hLN] at ho hs
 rw [← hL, ← hn] at T3
 have T4 := fun A c => lookR A L n c hnl (by omega)
 rw [ho] at T4
 have hbt := last_le L
 obtain ⟨b, hb⟩ : ∃ b, b = baseM L := ⟨_, rfl⟩
 obtain ⟨t, ht⟩ : ∃ t, t = tailsM L := ⟨_, rfl⟩
 rw [← hb, ← ht] at hbt hs T4
 have T5 := segsT b t (by omega) (by omega)
 obtain ⟨S, hS⟩ : ∃ S, S = segsM b t := ⟨_, rfl⟩
 rw [← hS] at hs T5
 obtain ⟨m, hm⟩ : ∃ m, m = S.length := ⟨_, rfl⟩
 rw [← hm] at T5
 have hm1 : m ≤ 16 := by rw [hm, hS, hb, ht]; have := segs_few L; omega
 obtain ⟨dat, hdat⟩ : ∃ dat, dat = S.map fun x => (readD D x).1 := ⟨_, rfl⟩
 rw [← hdat] at hs
 have hdl : dat.length = m := by rw [hdat, List.length_map, hm]
 have hget : ∀ i (hi : i < S.length), dat[i]? = some (readD D S[i]).1 := fun i hi => by rw [hdat, List.getElem?_map, List.getElem?_eq_getElem hi]; rfl
 rw [hLN, ← hb, ← ht, ← hS, ← hdat] at hc
 rw [hLN, ← hb, ← ht] at hR
 rw [hLN] at hre
 obtain ⟨la, hla⟩ : ∃ la, la = endM b t := ⟨_, rfl⟩
 have hlz : 0 < t → ¬ la = (⟨#[]⟩ : ByteArray) := fun ht q => by
  have := congrArg ByteArray.size q
  rw [hla] at this
  unfold endM at this
  rw [if_neg (by omega)] at this
  have h2 := nmB_pos 115 (b + t)
  rw [this] at h2
  exact absurd h2 (by decide)
 obtain ⟨sl, hsl⟩ : ∃ sl, sl = staleM L := ⟨_, rfl⟩
 rw [← hsl] at T4
 have hsn : sl.length ≤ 1000 := by rw [hsl]; have := stale_len L; omega
 obtain ⟨ns, hns⟩ : ∃ ns, ns = sl.length := ⟨_, rfl⟩
 rw [← hns] at T4 hsn
 have T8 := fun p A c => removedF p q D.starts (b : Nat) (t : Nat) A ns c sl hns (by omega)
 have T9 := fun p ia ic => doA p q D.starts false (b : Nat) (t : Nat) ia ic (remL sl) D hD
 unfold ptW at T9
 have hD1 : okD (runD (remL sl) D).1 := runD_ok remL_ok hD
 obtain ⟨r, hr⟩ : ∃ r, r = runD (remL sl) D := ⟨_, rfl⟩
 rw [← hr] at T9 hD1
 obtain ⟨bd, hbd⟩ : ∃ bd, bd = (false || badE r.2) := ⟨_, rfl⟩
 rw [← hbd] at T9
 obtain ⟨fs, hfs⟩ : ∃ fs, fs = remL sl := ⟨_, rfl⟩
 rw [← hfs] at T9
 replace T8 : ∀ p A c, Triple Tryz.prog 41 [.pointer (some ⟨p, 0, none⟩), .slice A ns c] [Row 9 1 A ns c (sl.flatMap encS)] [] FnV (fun v => .func (.func v.1) #[] v.2) (fun _ => True) (fun it => [IterA p q D.starts (b : Nat) (t : Nat) it fs]) := fun p A c => by
  rw [hfs]
  exact T8 p A c
 rw [← hsl, ← hfs, hfs, ← hr] at hre hR
 rw [← hla] at hR
 rw [hre] at T9
 have T10 := truncM q r.1 la (zc : Nat) hD1
 rw [← hR] at T10
 refine triple_intro Tryz.tbs_ok Tryz.func12 rfl [.va (.pointer (some ⟨q, 0, none⟩))] [.fact (DiskM q D)] ⟨trivial, trivial⟩ rfl (by simp) ?_
 intro E
 refine go_fact (Row 9 1 none 0 0 (([] : List ByteArray).flatMap encS)) (Row.nilE _ _) ?_
 refine go Tryz.tbs_ok 1000 ?_
 refine ev_callF (T1 ) [0] [] rfl rfl (by decide) rfl (by simp) (fun _ => (by repeat (first | exact trivial | refine ⟨rfl, ?_⟩))) (fun _ h0 => ?_)
 refine go Tryz.tbs_ok 1000 ?_
 refine ev_new fun b1 => ?_
 refine ev_callF (T2 ) [0] [] rfl rfl (by decide) rfl (by simp) (fun _ => (by repeat (first | exact trivial | refine ⟨rfl, ?_⟩))) (fun _ h2 => ?_)
 refine go Tryz.tbs_ok 1000 ?_
 refine ev_if_no rfl ?_
 refine go Tryz.tbs_ok 1000 ?_
 refine ev_callF (T3 ) [0] [] rfl rfl (by decide) rfl (by simp) (fun _ => (by repeat (first | exact trivial | refine ⟨rfl, ?_⟩))) (fun ⟨x3, x4⟩ h5 => ?_)
 refine go Tryz.tbs_ok 1000 ?_
 refine ev_callF (T4 (x3) (x4)) [] [.inl 0, .inr 3] rfl rfl (by decide) rfl (by simp) (fun _ => (by repeat (first | exact trivial | refine ⟨rfl, ?_⟩))) (fun ⟨x6, x7⟩ h8 => ?_)
 refine go Tryz.tbs_ok 1000 ?_
 refine ev_new fun b9 => ?_
 refine ev_if_no rfl ?_
 refine go Tryz.tbs_ok 1000 ?_
 refine ev_callF (T5 ) [] [.inl 0] rfl rfl (by decide) rfl (by simp) (fun _ => (by repeat (first | exact trivial | refine ⟨rfl, ?_⟩))) (fun ⟨x10, x11⟩ h12 => ?_)
 refine go Tryz.tbs_ok 1000 ?_
 refine ev_stop (go_loopR [2, 3, 4, 10, 11, 12, 13, 14, 15, 16, 17, 18, 23, 30, 33, 34, 40, 43, 47, 48, 49, 50, 51, 52, 53, 54, 55, 56, 57, 58, 59, 60, 61, 62, 63, 64, 65, 66, 67, 68, 69, 70, 71, 72, 73, 74, 75, 76, 77, 78, 79, 80, 81, 82] (fun (i, C, z, e, _, cut, en) => [(10, .va (.slice C z e)), (11, .va (.string cut)), (12, .va (.int .i64 en)), (47, .va (.int .i64 (i : Nat)))]) (fun (_, C, z, e, M, _) => [(1, .fact (Row 9 1 C z e (M.flatMap encS)))]) (fun (i, _, z, _, M, cut, en) => i ≤ m ∧ z = M.length ∧ z ≤ i * 2000000 ∧ M = payM (dat.take i) ∧ cutAt t dat la i cut en) (fun (i, _) => m - i) ((0, none, 0, 0, [], ⟨#[]⟩, 0) : Nat × Option Addr × Nat × Nat × List ByteArray × ByteArray × Int) ⟨Nat.zero_le _, rfl, Nat.zero_le _, rfl, .inl ⟨rfl, rfl, fun k x hk => absurd hk (by omega)⟩⟩ ⟨⟨by kernel_rfl, by kernel_rfl⟩, ⟨_, rfl⟩, ⟨_, rfl⟩, by kernel_rfl, by kernel_rfl⟩ (fun x_ h_ => ?_))
 obtain ⟨i, C, z, e, M, cut, en⟩ := x_
 obtain ⟨hi, hz, hz2, hM, hup⟩ := h_
 rcases Nat.lt_or_ge i m with him | him
 · have hiS : i < S.length := by omega
   obtain ⟨x, hx⟩ : ∃ x, x = (readD D S[i]).1 := ⟨_, rfl⟩
   have hxs := read_size hD S[i]
   have hgx := hget i hiS
   have T6 := readM q D S[i] hD
   rw [← hx] at hxs hgx T6
   have T7 := wholeT x (by omega)
   have hwl := whole_len x
   have hzl : z + (wholeM x).1.length ≤ (i + 1) * 2000000 := by rw [Nat.succ_mul]; omega
   have hzm : z + (wholeM x).1.length ≤ 100000000 := by have : (i + 1) * 2000000 ≤ 16 * 2000000 := Nat.mul_le_mul_right _ (by omega); omega
   have hst := payM_step (dat := dat) (i := i) (by omega)
   have hxe : dat[i]'(by omega) = x := by
    have := hgx
    rw [List.getElem?_eq_getElem (by omega)] at this
    exact Option.some.inj this
   rw [hxe, ← hM] at hst
   have hno : wholeB x = false → ¬ (i + 1 < m ∨ t = 0) := fun hw h2 => by
    have := okSeg_no (t := t) (dat := dat) (k := i) (by omega) (by rw [hxe]; exact hw) (by rw [hdl]; exact h2)
    rw [hs] at this
    cases this
   refine go Tryz.tbs_ok 1000 ?_
   refine ev_if_yes (decide_eq_true (show (↑i : Int) < (↑m : Int) from (by omega))) ?_
   refine go Tryz.tbs_ok 1000 ?_
   refine ev_stop (go_index0 (sz := 1) Tryz.tbs_ok (.inr 6) (i) rfl rfl rfl rfl rfl rfl (by omega) rfl Row.at0 (fun g60 e61 => ?_))
   subst e61
   refine go Tryz.tbs_ok 1000 ?_
   have l62 : i < (S).length := (by omega)
   refine ev_stop (go_loadE Tryz.tbs_ok (.inr 6) (i) 0 rfl rfl rfl rfl (fun _ h => Row.rd h) (by omega) (fun _ => rfl) (by omega) l62 (by decide) ?_)
   refine go Tryz.tbs_ok 1000 ?_
   refine ev_callF (T6 ) [0] [] rfl rfl (by decide) rfl (by simp) (fun _ => (by repeat (first | exact trivial | refine ⟨rfl, ?_⟩))) (fun _ h63 => ?_)
   refine go Tryz.tbs_ok 1000 ?_
   refine ev_callF (T7 ) [] [] rfl rfl (by decide) rfl (by simp) (fun _ => (by repeat (first | exact trivial | refine ⟨rfl, ?_⟩))) (fun ⟨x64, x65⟩ h66 => ?_)
   refine go Tryz.tbs_ok 1000 ?_
   refine ev_if_lt (fun h67 => ?_) (fun h67 => ?_)
   refine go Tryz.tbs_ok 1000 ?_
   refine ev_wrapN (m - 1) (by constructor <;> omega) (by omega) ?_
   refine ev_if_lt (fun h68 => ?_) (fun h68 => ?_)
   refine go Tryz.tbs_ok 1000 ?_
   rotate_left
   refine go Tryz.tbs_ok 1000 ?_
   refine ev_if_eq (fun h69 => ?_) (fun h69 => ?_)
   refine go Tryz.tbs_ok 1000 ?_
   rotate_left
   refine go Tryz.tbs_ok 1000 ?_
   refine ev_stop (go_appendE (sz := 1) (M := [_]) (enc := encS) Tryz.tbs_ok [1] [] (.inr 7) (M) ((wholeM x).fst) ((M) ++ ((wholeM x).fst)) (z + (wholeM x).fst.length) rfl rfl rfl rfl rfl rfl rfl (by decide) rfl (by decide) (fun _ p => starH_one.1 p) rfl (fun _ h => Row.rd h) (by first | rfl | simp) (by first | rfl | omega) (le_app (s := z + (wholeM x).fst.length) (by omega) (by first | rfl | omega)) (le_appb (s := z + (wholeM x).fst.length) (by omega) (by first | rfl | omega) (by decide)) (fun _ _ => (by repeat (first | exact trivial | refine ⟨rfl, ?_⟩))) (fun A70 c71 h72 => ?_))
   refine go Tryz.tbs_ok 1000 ?_
   refine ev_wrapN (i + 1) (by constructor <;> omega) (by rfl) ?_
   refine ev_fin (round_next ((i + 1, A70, z + (wholeM x).fst.length, c71, M ++ (wholeM x).fst, S[i], (↑(wholeM x).snd : Int))) (?_ : i + 1 ≤ m ∧ z + (wholeM x).fst.length = (M ++ (wholeM x).fst).length ∧ z + (wholeM x).fst.length ≤ (i + 1) * 2000000 ∧ M ++ (wholeM x).fst = payM (List.take (i + 1) dat) ∧ cutAt t dat la (i + 1) S[i] (↑(wholeM x).snd : Int)) (show m - (i + 1) < m - i from (by omega)) ⟨⟨by kernel_rfl, by kernel_rfl⟩, ⟨_, rfl⟩, ⟨_, rfl⟩, by kernel_rfl, by kernel_rfl⟩)
   rotate_left
   refine go Tryz.tbs_ok 1000 ?_
   refine ev_stop (go_appendE (sz := 1) (M := [_]) (enc := encS) Tryz.tbs_ok [1] [] (.inr 7) (M) ((wholeM x).fst) ((M) ++ ((wholeM x).fst)) (z + (wholeM x).fst.length) rfl rfl rfl rfl rfl rfl rfl (by decide) rfl (by decide) (fun _ p => starH_one.1 p) rfl (fun _ h => Row.rd h) (by first | rfl | simp) (by first | rfl | omega) (le_app (s := z + (wholeM x).fst.length) (by omega) (by first | rfl | omega)) (le_appb (s := z + (wholeM x).fst.length) (by omega) (by first | rfl | omega) (by decide)) (fun _ _ => (by repeat (first | exact trivial | refine ⟨rfl, ?_⟩))) (fun A73 c74 h75 => ?_))
   refine go Tryz.tbs_ok 1000 ?_
   refine ev_wrapN (i + 1) (by constructor <;> omega) (by rfl) ?_
   refine ev_fin (round_next ((i + 1, A73, z + (wholeM x).fst.length, c74, M ++ (wholeM x).fst, cut, en)) (?_ : i + 1 ≤ m ∧ z + (wholeM x).fst.length = (M ++ (wholeM x).fst).length ∧ z + (wholeM x).fst.length ≤ (i + 1) * 2000000 ∧ M ++ (wholeM x).fst = payM (List.take (i + 1) dat) ∧ cutAt t dat la (i + 1) cut en) (show m - (i + 1) < m - i from (by omega)) ⟨⟨by kernel_rfl, by kernel_rfl⟩, ⟨_, rfl⟩, ⟨_, rfl⟩, by kernel_rfl, by kernel_rfl⟩)
   rotate_left
   · exact absurd (by omega) (hno (whole_no (by omega)))
   · exact absurd (by omega) (hno (whole_no (by omega)))
   · refine ⟨by omega, by rw [List.length_append, hz], hzl, hst.symm, ?_⟩
     have hi1 : i + 1 = m := by omega
     have ht1 : 0 < t := by omega
     have hc : S[i] = la := by subst hS; rw [hla]; exact seg_last ht1 (by omega) _
     rw [hc]
     exact cutAt_torn hgx (by omega) (whole_no (by omega))
   · exact ⟨by omega, by rw [List.length_append, hz], hzl, hst.symm, cutAt_whole hup (by omega) hgx (whole_yes (by omega))⟩
 · obtain rfl : i = m := by omega
   rw [← hdl] at hup
   rcases cutAt_end hup with ⟨_, _, q3⟩ | ⟨q1, z', q2, q3⟩
   · rw [q3] at hc
     cases hc
   · rw [q3] at hc
     cases hc
     subst q1 q2
     have ht0 : 0 < t := by
      rcases Nat.eq_zero_or_pos t with h0 | h0
      · exfalso
        have hw : ∀ x ∈ dat, wholeB x = true := fun x hx => by
         obtain ⟨k, hk, rfl⟩ := List.getElem_of_mem hx
         cases hb2 : wholeB dat[k] with
         | true => rfl
         |
          false =>
          rw [okSeg_no hk hb2 (.inr h0)] at hs
          cases hs
        rw [cutM_no hw] at q3
        cases q3
      · exact h0
     have hlz2 := hlz ht0
     refine go Tryz.tbs_ok 1000 ?_
     refine ev_if_no (decide_eq_false (show ¬(↑i : Int) < (↑i : Int) from (by omega))) ?_
     refine go Tryz.tbs_ok 1000 ?_
     refine ev_fin (go Tryz.tbs_ok 1000 ?_)
     refine ev_callF (T8 (b1) (x6) (x7)) [4] [] rfl rfl (by decide) rfl (by simp) (fun _ => (by repeat (first | exact trivial | refine ⟨rfl, ?_⟩))) (fun ⟨x100, x101⟩ h102 => ?_)
     refine go Tryz.tbs_ok 1000 ?_
     refine ev_call (T9 (b1) (x100) (x101)) [2, 4, 0] [.inl 0] (fun v0_ => [.box (b1) 49 [.va (Value.pointer (some { block := q, off := 0 : Addr })), .va (Value.int IntKind.i64 D.starts), .bq (bd), .va (Value.int IntKind.i64 (↑b : Int)), .va (Value.int IntKind.i64 (↑t : Int))], .fact (DiskM q r.fst)]) rfl rfl (by decide) rfl (by simp) (fun _ => rfl) (fun _ => (newsOk_box (by simp [SV.good, SV.goodL]) (newsOk_fact (newsOk_nil _)))) (fun _ => (by repeat (first | exact trivial | refine ⟨rfl, ?_⟩))) (fun _ h103 => ?_)
     refine go Tryz.tbs_ok 1000 ?_
     refine ev_if_yes rfl ?_
     refine go Tryz.tbs_ok 1000 ?_
     refine ev_if_yes (dec_yes (by with_reducible assumption)) ?_
     refine go Tryz.tbs_ok 1000 ?_
     refine ev_callF (T10 ) [4] [] rfl rfl (by decide) rfl (by simp) (fun _ => (by repeat (first | exact trivial | refine ⟨rfl, ?_⟩))) (fun _ h104 => ?_)
     refine go Tryz.tbs_ok 1000 ?_
     refine ev_if_yes (ne_yes (by with_reducible assumption)) ?_
     refine go Tryz.tbs_ok 1000 ?_
     refine ev_fin ⟨trivial, _, rfl, (()), rfl, (by trivial), Frm.sel [4] rfl (by decide)⟩
set_option maxHeartbeats 8000000 in
set_option maxRecDepth 100000 in
theorem openCut (q : Nat) (D : DK) (hD : okD D) (h : D.down = false) (ho : okN (namesD D) = true) (hs : okSeg (tailsM (namesD D)) (dataD D) = true) (hre : (runD (remL (staleM (namesD D))) D).2 = 0) (zc : Nat) (hc : cutM (dataD D) = some zc)
 (R : DK × Int) (hR : R = truncD (runD (remL (staleM (namesD D))) D).1 (endM (baseM (namesD D)) (tailsM (namesD D))) (zc : Nat)) (hR2 : R.2 = 0) : Triple Tryz.prog 12 [.pointer (some ⟨q, 0, none⟩)] [DiskM q D] [TabA] (Nat × Option Addr × Nat) (fun (p, C, c) => .tuple #[.pointer (some ⟨p, 0, none⟩), .slice C (payM (dataD D)).length c, .int .i64 0]) (fun _ => True) (fun (p, C, c) => [WalM p q ⟨D.starts, false, baseM (namesD D), tailsM (namesD D)⟩, DiskM q R.1, Row 9 1 C (payM (dataD D)).length c ((payM (dataD D)).flatMap encS)]) := by
 unfold WalM ptW
 unfold dataD at hc ⊢
 have T1 := startsM q D hD
 have T2 := upM q D hD
 rw [h] at T2
 have T3 := namesM q D hD
 have hfew := hD.few
 unfold dataD at hs
 obtain ⟨L, hL⟩ : ∃ L, L = D.files.map nameEG := ⟨_, rfl⟩
 obtain ⟨n, hn⟩ : ∃ n, n = D.files.length := ⟨_, rfl⟩
 have hnl : n = L.length := by rw [hL, hn, List.length_map]
 have hLN : namesD D = L := hL.symm
 rw [hLN] at ho hs
 rw [← hL, ← hn] at T3
 have T4 := fun A c => lookR A L n c hnl (by omega)
 rw [ho] at T4
 have hbt := last_le L
 obtain ⟨b, hb⟩ : ∃ b, b = baseM L := ⟨_, rfl⟩
 obtain ⟨t, ht⟩ : ∃ t, t = tailsM L := ⟨_, rfl⟩
 rw [← hb, ← ht] at hbt hs T4
 have T5 := segsT b t (by omega) (by omega)
 obtain ⟨S, hS⟩ : ∃ S, S = segsM b t := ⟨_, rfl⟩
 rw [← hS] at hs T5
 obtain ⟨m, hm⟩ : ∃ m, m = S.length := ⟨_, rfl⟩
 rw [← hm] at T5
 have hm1 : m ≤ 16 := by rw [hm, hS, hb, ht]; have := segs_few L; omega
 obtain ⟨dat, hdat⟩ : ∃ dat, dat = S.map fun x => (readD D x).1 := ⟨_, rfl⟩
 rw [← hdat] at hs
 have hdl : dat.length = m := by rw [hdat, List.length_map, hm]
 have hget : ∀ i (hi : i < S.length), dat[i]? = some (readD D S[i]).1 := fun i hi => by rw [hdat, List.getElem?_map, List.getElem?_eq_getElem hi]; rfl
 rw [hLN, ← hb, ← ht, ← hS, ← hdat] at hc ⊢
 rw [hLN, ← hb, ← ht] at hR
 rw [hLN] at hre
 obtain ⟨la, hla⟩ : ∃ la, la = endM b t := ⟨_, rfl⟩
 have hlz : 0 < t → ¬ la = (⟨#[]⟩ : ByteArray) := fun ht q => by
  have := congrArg ByteArray.size q
  rw [hla] at this
  unfold endM at this
  rw [if_neg (by omega)] at this
  have h2 := nmB_pos 115 (b + t)
  rw [this] at h2
  exact absurd h2 (by decide)
 obtain ⟨sl, hsl⟩ : ∃ sl, sl = staleM L := ⟨_, rfl⟩
 rw [← hsl] at T4
 have hsn : sl.length ≤ 1000 := by rw [hsl]; have := stale_len L; omega
 obtain ⟨ns, hns⟩ : ∃ ns, ns = sl.length := ⟨_, rfl⟩
 rw [← hns] at T4 hsn
 have T8 := fun p A c => removedF p q D.starts (b : Nat) (t : Nat) A ns c sl hns (by omega)
 have T9 := fun p ia ic => doA p q D.starts false (b : Nat) (t : Nat) ia ic (remL sl) D hD
 unfold ptW at T9
 have hD1 : okD (runD (remL sl) D).1 := runD_ok remL_ok hD
 obtain ⟨r, hr⟩ : ∃ r, r = runD (remL sl) D := ⟨_, rfl⟩
 rw [← hr] at T9 hD1
 obtain ⟨bd, hbd⟩ : ∃ bd, bd = (false || badE r.2) := ⟨_, rfl⟩
 rw [← hbd] at T9
 obtain ⟨fs, hfs⟩ : ∃ fs, fs = remL sl := ⟨_, rfl⟩
 rw [← hfs] at T9
 replace T8 : ∀ p A c, Triple Tryz.prog 41 [.pointer (some ⟨p, 0, none⟩), .slice A ns c] [Row 9 1 A ns c (sl.flatMap encS)] [] FnV (fun v => .func (.func v.1) #[] v.2) (fun _ => True) (fun it => [IterA p q D.starts (b : Nat) (t : Nat) it fs]) := fun p A c => by
  rw [hfs]
  exact T8 p A c
 rw [← hsl, ← hfs, hfs, ← hr] at hre hR
 rw [← hla] at hR
 rw [hre, show (false || badE 0) = false from rfl] at hbd
 rw [hre, hbd] at T9
 have T10 := truncM q r.1 la (zc : Nat) hD1
 rw [← hR, hR2] at T10
 refine triple_intro Tryz.tbs_ok Tryz.func12 rfl [.va (.pointer (some ⟨q, 0, none⟩))] [.fact (DiskM q D)] ⟨trivial, trivial⟩ rfl (by simp) ?_
 intro E
 refine go_fact (Row 9 1 none 0 0 (([] : List ByteArray).flatMap encS)) (Row.nilE _ _) ?_
 refine go Tryz.tbs_ok 1000 ?_
 refine ev_callF (T1 ) [0] [] rfl rfl (by decide) rfl (by simp) (fun _ => (by repeat (first | exact trivial | refine ⟨rfl, ?_⟩))) (fun _ h0 => ?_)
 refine go Tryz.tbs_ok 1000 ?_
 refine ev_new fun b1 => ?_
 refine ev_callF (T2 ) [0] [] rfl rfl (by decide) rfl (by simp) (fun _ => (by repeat (first | exact trivial | refine ⟨rfl, ?_⟩))) (fun _ h2 => ?_)
 refine go Tryz.tbs_ok 1000 ?_
 refine ev_if_no rfl ?_
 refine go Tryz.tbs_ok 1000 ?_
 refine ev_callF (T3 ) [0] [] rfl rfl (by decide) rfl (by simp) (fun _ => (by repeat (first | exact trivial | refine ⟨rfl, ?_⟩))) (fun ⟨x3, x4⟩ h5 => ?_)
 refine go Tryz.tbs_ok 1000 ?_
 refine ev_callF (T4 (x3) (x4)) [] [.inl 0, .inr 3] rfl rfl (by decide) rfl (by simp) (fun _ => (by repeat (first | exact trivial | refine ⟨rfl, ?_⟩))) (fun ⟨x6, x7⟩ h8 => ?_)
 refine go Tryz.tbs_ok 1000 ?_
 refine ev_new fun b9 => ?_
 refine ev_if_no rfl ?_
 refine go Tryz.tbs_ok 1000 ?_
 refine ev_callF (T5 ) [] [.inl 0] rfl rfl (by decide) rfl (by simp) (fun _ => (by repeat (first | exact trivial | refine ⟨rfl, ?_⟩))) (fun ⟨x10, x11⟩ h12 => ?_)
 refine go Tryz.tbs_ok 1000 ?_
 refine ev_stop (go_loopR [2, 3, 4, 10, 11, 12, 13, 14, 15, 16, 17, 18, 23, 30, 33, 34, 40, 43, 47, 48, 49, 50, 51, 52, 53, 54, 55, 56, 57, 58, 59, 60, 61, 62, 63, 64, 65, 66, 67, 68, 69, 70, 71, 72, 73, 74, 75, 76, 77, 78, 79, 80, 81, 82] (fun (i, C, z, e, _, cut, en) => [(10, .va (.slice C z e)), (11, .va (.string cut)), (12, .va (.int .i64 en)), (47, .va (.int .i64 (i : Nat)))]) (fun (_, C, z, e, M, _) => [(1, .fact (Row 9 1 C z e (M.flatMap encS)))]) (fun (i, _, z, _, M, cut, en) => i ≤ m ∧ z = M.length ∧ z ≤ i * 2000000 ∧ M = payM (dat.take i) ∧ cutAt t dat la i cut en) (fun (i, _) => m - i) ((0, none, 0, 0, [], ⟨#[]⟩, 0) : Nat × Option Addr × Nat × Nat × List ByteArray × ByteArray × Int) ⟨Nat.zero_le _, rfl, Nat.zero_le _, rfl, .inl ⟨rfl, rfl, fun k x hk => absurd hk (by omega)⟩⟩ ⟨⟨by kernel_rfl, by kernel_rfl⟩, ⟨_, rfl⟩, ⟨_, rfl⟩, by kernel_rfl, by kernel_rfl⟩ (fun x_ h_ => ?_))
 obtain ⟨i, C, z, e, M, cut, en⟩ := x_
 obtain ⟨hi, hz, hz2, hM, hup⟩ := h_
 rcases Nat.lt_or_ge i m with him | him
 · have hiS : i < S.length := by omega
   obtain ⟨x, hx⟩ : ∃ x, x = (readD D S[i]).1 := ⟨_, rfl⟩
   have hxs := read_size hD S[i]
   have hgx := hget i hiS
   have T6 := readM q D S[i] hD
   rw [← hx] at hxs hgx T6
   have T7 := wholeT x (by omega)
   have hwl := whole_len x
   have hzl : z + (wholeM x).1.length ≤ (i + 1) * 2000000 := by rw [Nat.succ_mul]; omega
   have hzm : z + (wholeM x).1.length ≤ 100000000 := by have : (i + 1) * 2000000 ≤ 16 * 2000000 := Nat.mul_le_mul_right _ (by omega); omega
   have hst := payM_step (dat := dat) (i := i) (by omega)
   have hxe : dat[i]'(by omega) = x := by
    have := hgx
    rw [List.getElem?_eq_getElem (by omega)] at this
    exact Option.some.inj this
   rw [hxe, ← hM] at hst
   have hno : wholeB x = false → ¬ (i + 1 < m ∨ t = 0) := fun hw h2 => by
    have := okSeg_no (t := t) (dat := dat) (k := i) (by omega) (by rw [hxe]; exact hw) (by rw [hdl]; exact h2)
    rw [hs] at this
    cases this
   refine go Tryz.tbs_ok 1000 ?_
   refine ev_if_yes (decide_eq_true (show (↑i : Int) < (↑m : Int) from (by omega))) ?_
   refine go Tryz.tbs_ok 1000 ?_
   refine ev_stop (go_index0 (sz := 1) Tryz.tbs_ok (.inr 6) (i) rfl rfl rfl rfl rfl rfl (by omega) rfl Row.at0 (fun g60 e61 => ?_))
   subst e61
   refine go Tryz.tbs_ok 1000 ?_
   have l62 : i < (S).length := (by omega)
   refine ev_stop (go_loadE Tryz.tbs_ok (.inr 6) (i) 0 rfl rfl rfl rfl (fun _ h => Row.rd h) (by omega) (fun _ => rfl) (by omega) l62 (by decide) ?_)
   refine go Tryz.tbs_ok 1000 ?_
   refine ev_callF (T6 ) [0] [] rfl rfl (by decide) rfl (by simp) (fun _ => (by repeat (first | exact trivial | refine ⟨rfl, ?_⟩))) (fun _ h63 => ?_)
   refine go Tryz.tbs_ok 1000 ?_
   refine ev_callF (T7 ) [] [] rfl rfl (by decide) rfl (by simp) (fun _ => (by repeat (first | exact trivial | refine ⟨rfl, ?_⟩))) (fun ⟨x64, x65⟩ h66 => ?_)
   refine go Tryz.tbs_ok 1000 ?_
   refine ev_if_lt (fun h67 => ?_) (fun h67 => ?_)
   refine go Tryz.tbs_ok 1000 ?_
   refine ev_wrapN (m - 1) (by constructor <;> omega) (by omega) ?_
   refine ev_if_lt (fun h68 => ?_) (fun h68 => ?_)
   refine go Tryz.tbs_ok 1000 ?_
   rotate_left
   refine go Tryz.tbs_ok 1000 ?_
   refine ev_if_eq (fun h69 => ?_) (fun h69 => ?_)
   refine go Tryz.tbs_ok 1000 ?_
   rotate_left
   refine go Tryz.tbs_ok 1000 ?_
   refine ev_stop (go_appendE (sz := 1) (M := [_]) (enc := encS) Tryz.tbs_ok [1] [] (.inr 7) (M) ((wholeM x).fst) ((M) ++ ((wholeM x).fst)) (z + (wholeM x).fst.length) rfl rfl rfl rfl rfl rfl rfl (by decide) rfl (by decide) (fun _ p => starH_one.1 p) rfl (fun _ h => Row.rd h) (by first | rfl | simp) (by first | rfl | omega) (le_app (s := z + (wholeM x).fst.length) (by omega) (by first | rfl | omega)) (le_appb (s := z + (wholeM x).fst.length) (by omega) (by first | rfl | omega) (by decide)) (fun _ _ => (by repeat (first | exact trivial | refine ⟨rfl, ?_⟩))) (fun A70 c71 h72 => ?_))
   refine go Tryz.tbs_ok 1000 ?_
   refine ev_wrapN (i + 1) (by constructor <;> omega) (by rfl) ?_
   refine ev_fin (round_next ((i + 1, A70, z + (wholeM x).fst.length, c71, M ++ (wholeM x).fst, S[i], (↑(wholeM x).snd : Int))) (?_ : i + 1 ≤ m ∧ z + (wholeM x).fst.length = (M ++ (wholeM x).fst).length ∧ z + (wholeM x).fst.length ≤ (i + 1) * 2000000 ∧ M ++ (wholeM x).fst = payM (List.take (i + 1) dat) ∧ cutAt t dat la (i + 1) S[i] (↑(wholeM x).snd : Int)) (show m - (i + 1) < m - i from (by omega)) ⟨⟨by kernel_rfl, by kernel_rfl⟩, ⟨_, rfl⟩, ⟨_, rfl⟩, by kernel_rfl, by kernel_rfl⟩)
   rotate_left
   refine go Tryz.tbs_ok 1000 ?_
   refine ev_stop (go_appendE (sz := 1) (M := [_]) (enc := encS) Tryz.tbs_ok [1] [] (.inr 7) (M) ((wholeM x).fst) ((M) ++ ((wholeM x).fst)) (z + (wholeM x).fst.length) rfl rfl rfl rfl rfl rfl rfl (by decide) rfl (by decide) (fun _ p => starH_one.1 p) rfl (fun _ h => Row.rd h) (by first | rfl | simp) (by first | rfl | omega) (le_app (s := z + (wholeM x).fst.length) (by omega) (by first | rfl | omega)) (le_appb (s := z + (wholeM x).fst.length) (by omega) (by first | rfl | omega) (by decide)) (fun _ _ => (by repeat (first | exact trivial | refine ⟨rfl, ?_⟩))) (fun A73 c74 h75 => ?_))
   refine go Tryz.tbs_ok 1000 ?_
   refine ev_wrapN (i + 1) (by constructor <;> omega) (by rfl) ?_
   refine ev_fin (round_next ((i + 1, A73, z + (wholeM x).fst.length, c74, M ++ (wholeM x).fst, cut, en)) (?_ : i + 1 ≤ m ∧ z + (wholeM x).fst.length = (M ++ (wholeM x).fst).length ∧ z + (wholeM x).fst.length ≤ (i + 1) * 2000000 ∧ M ++ (wholeM x).fst = payM (List.take (i + 1) dat) ∧ cutAt t dat la (i + 1) cut en) (show m - (i + 1) < m - i from (by omega)) ⟨⟨by kernel_rfl, by kernel_rfl⟩, ⟨_, rfl⟩, ⟨_, rfl⟩, by kernel_rfl, by kernel_rfl⟩)
   rotate_left
   · exact absurd (by omega) (hno (whole_no (by omega)))
   · exact absurd (by omega) (hno (whole_no (by omega)))
   · refine ⟨by omega, by rw [List.length_append, hz], hzl, hst.symm, ?_⟩
     have hi1 : i + 1 = m := by omega
     have ht1 : 0 < t := by omega
     have hc : S[i] = la := by subst hS; rw [hla]; exact seg_last ht1 (by omega) _
     rw [hc]
     exact cutAt_torn hgx (by omega) (whole_no (by omega))
   · exact ⟨by omega, by rw [List.length_append, hz], hzl, hst.symm, cutAt_whole hup (by omega) hgx (whole_yes (by omega))⟩
 · obtain rfl : i = m := by omega
   rw [List.take_of_length_le (by omega)] at hM
   rw [← hM, ← hz]
   rw [← hdl] at hup
   rcases cutAt_end hup with ⟨_, _, q3⟩ | ⟨q1, z', q2, q3⟩
   · rw [q3] at hc
     cases hc
   · rw [q3] at hc
     cases hc
     subst q1 q2
     have ht0 : 0 < t := by
      rcases Nat.eq_zero_or_pos t with h0 | h0
      · exfalso
        have hw : ∀ x ∈ dat, wholeB x = true := fun x hx => by
         obtain ⟨k, hk, rfl⟩ := List.getElem_of_mem hx
         cases hb2 : wholeB dat[k] with
         | true => rfl
         |
          false =>
          rw [okSeg_no hk hb2 (.inr h0)] at hs
          cases hs
        rw [cutM_no hw] at q3
        cases q3
      · exact h0
     have hlz2 := hlz ht0
     refine go Tryz.tbs_ok 1000 ?_
     refine ev_if_no (decide_eq_false (show ¬(↑i : Int) < (↑i : Int) from (by omega))) ?_
     refine go Tryz.tbs_ok 1000 ?_
     refine ev_fin (go Tryz.tbs_ok 1000 ?_)
     refine ev_callF (T8 (b1) (x6) (x7)) [4] [] rfl rfl (by decide) rfl (by simp) (fun _ => (by repeat (first | exact trivial | refine ⟨rfl, ?_⟩))) (fun ⟨x100, x101⟩ h102 => ?_)
     refine go Tryz.tbs_ok 1000 ?_
     refine ev_call (T9 (b1) (x100) (x101)) [2, 4, 0] [.inl 0] (fun v0_ => [.box (b1) 49 [.va (Value.pointer (some { block := q, off := 0 : Addr })), .va (Value.int IntKind.i64 D.starts), .bl false, .va (Value.int IntKind.i64 (↑b : Int)), .va (Value.int IntKind.i64 (↑t : Int))], .fact (DiskM q r.fst)]) rfl rfl (by decide) rfl (by simp) (fun _ => rfl) (fun _ => (newsOk_box (by simp [SV.good, SV.goodL]) (newsOk_fact (newsOk_nil _)))) (fun _ => (by repeat (first | exact trivial | refine ⟨rfl, ?_⟩))) (fun _ h103 => ?_)
     refine go Tryz.tbs_ok 1000 ?_
     refine ev_if_yes rfl ?_
     refine go Tryz.tbs_ok 1000 ?_
     refine ev_if_yes (dec_yes (by with_reducible assumption)) ?_
     refine go Tryz.tbs_ok 1000 ?_
     refine ev_callF (T10 ) [4] [] rfl rfl (by decide) rfl (by simp) (fun _ => (by repeat (first | exact trivial | refine ⟨rfl, ?_⟩))) (fun _ h104 => ?_)
     refine go Tryz.tbs_ok 1000 ?_
     refine ev_if_no rfl ?_
     refine go Tryz.tbs_ok 1000 ?_
     refine ev_fin ⟨trivial, _, rfl, ((b1, C, e)), rfl, (by trivial), Frm.sel [2, 4, 1] rfl (by decide)⟩
set_option maxHeartbeats 8000000 in
set_option maxRecDepth 100000 in
theorem openWhole (q : Nat) (D : DK) (hD : okD D) (h : D.down = false) (ho : okN (namesD D) = true) (hs : okSeg (tailsM (namesD D)) (dataD D) = true) (hre : (runD (remL (staleM (namesD D))) D).2 = 0) (hc : cutM (dataD D) = none) : Triple Tryz.prog 12 [.pointer (some ⟨q, 0, none⟩)] [DiskM q D] [TabA] (Nat × Option Addr × Nat) (fun (p, C, c) => .tuple #[.pointer (some ⟨p, 0, none⟩), .slice C (payM (dataD D)).length c, .int .i64 0]) (fun _ => True) (fun (p, C, c) => [WalM p q ⟨D.starts, false, baseM (namesD D), tailsM (namesD D)⟩, DiskM q (runD (remL (staleM (namesD D))) D).1, Row 9 1 C (payM (dataD D)).length c ((payM (dataD D)).flatMap encS)]) := by
 unfold WalM ptW
 unfold dataD at hc ⊢
 have T1 := startsM q D hD
 have T2 := upM q D hD
 rw [h] at T2
 have T3 := namesM q D hD
 have hfew := hD.few
 unfold dataD at hs
 obtain ⟨L, hL⟩ : ∃ L, L = D.files.map nameEG := ⟨_, rfl⟩
 obtain ⟨n, hn⟩ : ∃ n, n = D.files.length := ⟨_, rfl⟩
 have hnl : n = L.length := by rw [hL, hn, List.length_map]
 have hLN : namesD D = L := hL.symm
 rw [hLN] at ho hs
 rw [← hL, ← hn] at T3
 have T4 := fun A c => lookR A L n c hnl (by omega)
 rw [ho] at T4
 have hbt := last_le L
 obtain ⟨b, hb⟩ : ∃ b, b = baseM L := ⟨_, rfl⟩
 obtain ⟨t, ht⟩ : ∃ t, t = tailsM L := ⟨_, rfl⟩
 rw [← hb, ← ht] at hbt hs T4
 have T5 := segsT b t (by omega) (by omega)
 obtain ⟨S, hS⟩ : ∃ S, S = segsM b t := ⟨_, rfl⟩
 rw [← hS] at hs T5
 obtain ⟨m, hm⟩ : ∃ m, m = S.length := ⟨_, rfl⟩
 rw [← hm] at T5
 have hm1 : m ≤ 16 := by rw [hm, hS, hb, ht]; have := segs_few L; omega
 obtain ⟨dat, hdat⟩ : ∃ dat, dat = S.map fun x => (readD D x).1 := ⟨_, rfl⟩
 rw [← hdat] at hs
 have hdl : dat.length = m := by rw [hdat, List.length_map, hm]
 have hget : ∀ i (hi : i < S.length), dat[i]? = some (readD D S[i]).1 := fun i hi => by rw [hdat, List.getElem?_map, List.getElem?_eq_getElem hi]; rfl
 rw [hLN] at hre ⊢
 rw [hLN] at hc
 rw [← hb, ← ht, ← hS, ← hdat] at hc ⊢
 obtain ⟨la, hla⟩ : ∃ la, la = endM b t := ⟨_, rfl⟩
 have hlz : 0 < t → ¬ la = (⟨#[]⟩ : ByteArray) := fun ht q => by
  have := congrArg ByteArray.size q
  rw [hla] at this
  unfold endM at this
  rw [if_neg (by omega)] at this
  have h2 := nmB_pos 115 (b + t)
  rw [this] at h2
  exact absurd h2 (by decide)
 obtain ⟨sl, hsl⟩ : ∃ sl, sl = staleM L := ⟨_, rfl⟩
 rw [← hsl] at T4
 have hsn : sl.length ≤ 1000 := by rw [hsl]; have := stale_len L; omega
 obtain ⟨ns, hns⟩ : ∃ ns, ns = sl.length := ⟨_, rfl⟩
 rw [← hns] at T4 hsn
 have T8 := fun p A c => removedF p q D.starts (b : Nat) (t : Nat) A ns c sl hns (by omega)
 have T9 := fun p ia ic => doA p q D.starts false (b : Nat) (t : Nat) ia ic (remL sl) D hD
 unfold ptW at T9
 have hD1 : okD (runD (remL sl) D).1 := runD_ok remL_ok hD
 obtain ⟨r, hr⟩ : ∃ r, r = runD (remL sl) D := ⟨_, rfl⟩
 rw [← hr] at T9 hD1
 obtain ⟨bd, hbd⟩ : ∃ bd, bd = (false || badE r.2) := ⟨_, rfl⟩
 rw [← hbd] at T9
 obtain ⟨fs, hfs⟩ : ∃ fs, fs = remL sl := ⟨_, rfl⟩
 rw [← hfs] at T9
 replace T8 : ∀ p A c, Triple Tryz.prog 41 [.pointer (some ⟨p, 0, none⟩), .slice A ns c] [Row 9 1 A ns c (sl.flatMap encS)] [] FnV (fun v => .func (.func v.1) #[] v.2) (fun _ => True) (fun it => [IterA p q D.starts (b : Nat) (t : Nat) it fs]) := fun p A c => by
  rw [hfs]
  exact T8 p A c
 rw [← hsl, ← hfs, hfs, ← hr] at hre ⊢
 rw [hre, show (false || badE 0) = false from rfl] at hbd
 rw [hre, hbd] at T9
 refine triple_intro Tryz.tbs_ok Tryz.func12 rfl [.va (.pointer (some ⟨q, 0, none⟩))] [.fact (DiskM q D)] ⟨trivial, trivial⟩ rfl (by simp) ?_
 intro E
 refine go_fact (Row 9 1 none 0 0 (([] : List ByteArray).flatMap encS)) (Row.nilE _ _) ?_
 refine go Tryz.tbs_ok 1000 ?_
 refine ev_callF (T1 ) [0] [] rfl rfl (by decide) rfl (by simp) (fun _ => (by repeat (first | exact trivial | refine ⟨rfl, ?_⟩))) (fun _ h0 => ?_)
 refine go Tryz.tbs_ok 1000 ?_
 refine ev_new fun b1 => ?_
 refine ev_callF (T2 ) [0] [] rfl rfl (by decide) rfl (by simp) (fun _ => (by repeat (first | exact trivial | refine ⟨rfl, ?_⟩))) (fun _ h2 => ?_)
 refine go Tryz.tbs_ok 1000 ?_
 refine ev_if_no rfl ?_
 refine go Tryz.tbs_ok 1000 ?_
 refine ev_callF (T3 ) [0] [] rfl rfl (by decide) rfl (by simp) (fun _ => (by repeat (first | exact trivial | refine ⟨rfl, ?_⟩))) (fun ⟨x3, x4⟩ h5 => ?_)
 refine go Tryz.tbs_ok 1000 ?_
 refine ev_callF (T4 (x3) (x4)) [] [.inl 0, .inr 3] rfl rfl (by decide) rfl (by simp) (fun _ => (by repeat (first | exact trivial | refine ⟨rfl, ?_⟩))) (fun ⟨x6, x7⟩ h8 => ?_)
 refine go Tryz.tbs_ok 1000 ?_
 refine ev_new fun b9 => ?_
 refine ev_if_no rfl ?_
 refine go Tryz.tbs_ok 1000 ?_
 refine ev_callF (T5 ) [] [.inl 0] rfl rfl (by decide) rfl (by simp) (fun _ => (by repeat (first | exact trivial | refine ⟨rfl, ?_⟩))) (fun ⟨x10, x11⟩ h12 => ?_)
 refine go Tryz.tbs_ok 1000 ?_
 refine ev_stop (go_loopR [2, 3, 4, 10, 11, 12, 13, 14, 15, 16, 17, 18, 23, 30, 33, 34, 40, 43, 47, 48, 49, 50, 51, 52, 53, 54, 55, 56, 57, 58, 59, 60, 61, 62, 63, 64, 65, 66, 67, 68, 69, 70, 71, 72, 73, 74, 75, 76, 77, 78, 79, 80, 81, 82] (fun (i, C, z, e, _, cut, en) => [(10, .va (.slice C z e)), (11, .va (.string cut)), (12, .va (.int .i64 en)), (47, .va (.int .i64 (i : Nat)))]) (fun (_, C, z, e, M, _) => [(1, .fact (Row 9 1 C z e (M.flatMap encS)))]) (fun (i, _, z, _, M, cut, en) => i ≤ m ∧ z = M.length ∧ z ≤ i * 2000000 ∧ M = payM (dat.take i) ∧ cutAt t dat la i cut en) (fun (i, _) => m - i) ((0, none, 0, 0, [], ⟨#[]⟩, 0) : Nat × Option Addr × Nat × Nat × List ByteArray × ByteArray × Int) ⟨Nat.zero_le _, rfl, Nat.zero_le _, rfl, .inl ⟨rfl, rfl, fun k x hk => absurd hk (by omega)⟩⟩ ⟨⟨by kernel_rfl, by kernel_rfl⟩, ⟨_, rfl⟩, ⟨_, rfl⟩, by kernel_rfl, by kernel_rfl⟩ (fun x_ h_ => ?_))
 obtain ⟨i, C, z, e, M, cut, en⟩ := x_
 obtain ⟨hi, hz, hz2, hM, hup⟩ := h_
 rcases Nat.lt_or_ge i m with him | him
 · have hiS : i < S.length := by omega
   obtain ⟨x, hx⟩ : ∃ x, x = (readD D S[i]).1 := ⟨_, rfl⟩
   have hxs := read_size hD S[i]
   have hgx := hget i hiS
   have T6 := readM q D S[i] hD
   rw [← hx] at hxs hgx T6
   have T7 := wholeT x (by omega)
   have hwl := whole_len x
   have hzl : z + (wholeM x).1.length ≤ (i + 1) * 2000000 := by rw [Nat.succ_mul]; omega
   have hzm : z + (wholeM x).1.length ≤ 100000000 := by have : (i + 1) * 2000000 ≤ 16 * 2000000 := Nat.mul_le_mul_right _ (by omega); omega
   have hst := payM_step (dat := dat) (i := i) (by omega)
   have hxe : dat[i]'(by omega) = x := by
    have := hgx
    rw [List.getElem?_eq_getElem (by omega)] at this
    exact Option.some.inj this
   rw [hxe, ← hM] at hst
   have hno : wholeB x = false → ¬ (i + 1 < m ∨ t = 0) := fun hw h2 => by
    have := okSeg_no (t := t) (dat := dat) (k := i) (by omega) (by rw [hxe]; exact hw) (by rw [hdl]; exact h2)
    rw [hs] at this
    cases this
   refine go Tryz.tbs_ok 1000 ?_
   refine ev_if_yes (decide_eq_true (show (↑i : Int) < (↑m : Int) from (by omega))) ?_
   refine go Tryz.tbs_ok 1000 ?_
   refine ev_stop (go_index0 (sz := 1) Tryz.tbs_ok (.inr 6) (i) rfl rfl rfl rfl rfl rfl (by omega) rfl Row.at0 (fun g60 e61 => ?_))
   subst e61
   refine go Tryz.tbs_ok 1000 ?_
   have l62 : i < (S).length := (by omega)
   refine ev_stop (go_loadE Tryz.tbs_ok (.inr 6) (i) 0 rfl rfl rfl rfl (fun _ h => Row.rd h) (by omega) (fun _ => rfl) (by omega) l62 (by decide) ?_)
   refine go Tryz.tbs_ok 1000 ?_
   refine ev_callF (T6 ) [0] [] rfl rfl (by decide) rfl (by simp) (fun _ => (by repeat (first | exact trivial | refine ⟨rfl, ?_⟩))) (fun _ h63 => ?_)
   refine go Tryz.tbs_ok 1000 ?_
   refine ev_callF (T7 ) [] [] rfl rfl (by decide) rfl (by simp) (fun _ => (by repeat (first | exact trivial | refine ⟨rfl, ?_⟩))) (fun ⟨x64, x65⟩ h66 => ?_)
   refine go Tryz.tbs_ok 1000 ?_
   refine ev_if_lt (fun h67 => ?_) (fun h67 => ?_)
   refine go Tryz.tbs_ok 1000 ?_
   refine ev_wrapN (m - 1) (by constructor <;> omega) (by omega) ?_
   refine ev_if_lt (fun h68 => ?_) (fun h68 => ?_)
   refine go Tryz.tbs_ok 1000 ?_
   rotate_left
   refine go Tryz.tbs_ok 1000 ?_
   refine ev_if_eq (fun h69 => ?_) (fun h69 => ?_)
   refine go Tryz.tbs_ok 1000 ?_
   rotate_left
   refine go Tryz.tbs_ok 1000 ?_
   refine ev_stop (go_appendE (sz := 1) (M := [_]) (enc := encS) Tryz.tbs_ok [1] [] (.inr 7) (M) ((wholeM x).fst) ((M) ++ ((wholeM x).fst)) (z + (wholeM x).fst.length) rfl rfl rfl rfl rfl rfl rfl (by decide) rfl (by decide) (fun _ p => starH_one.1 p) rfl (fun _ h => Row.rd h) (by first | rfl | simp) (by first | rfl | omega) (le_app (s := z + (wholeM x).fst.length) (by omega) (by first | rfl | omega)) (le_appb (s := z + (wholeM x).fst.length) (by omega) (by first | rfl | omega) (by decide)) (fun _ _ => (by repeat (first | exact trivial | refine ⟨rfl, ?_⟩))) (fun A70 c71 h72 => ?_))
   refine go Tryz.tbs_ok 1000 ?_
   refine ev_wrapN (i + 1) (by constructor <;> omega) (by rfl) ?_
   refine ev_fin (round_next ((i + 1, A70, z + (wholeM x).fst.length, c71, M ++ (wholeM x).fst, S[i], (↑(wholeM x).snd : Int))) (?_ : i + 1 ≤ m ∧ z + (wholeM x).fst.length = (M ++ (wholeM x).fst).length ∧ z + (wholeM x).fst.length ≤ (i + 1) * 2000000 ∧ M ++ (wholeM x).fst = payM (List.take (i + 1) dat) ∧ cutAt t dat la (i + 1) S[i] (↑(wholeM x).snd : Int)) (show m - (i + 1) < m - i from (by omega)) ⟨⟨by kernel_rfl, by kernel_rfl⟩, ⟨_, rfl⟩, ⟨_, rfl⟩, by kernel_rfl, by kernel_rfl⟩)
   rotate_left
   refine go Tryz.tbs_ok 1000 ?_
   refine ev_stop (go_appendE (sz := 1) (M := [_]) (enc := encS) Tryz.tbs_ok [1] [] (.inr 7) (M) ((wholeM x).fst) ((M) ++ ((wholeM x).fst)) (z + (wholeM x).fst.length) rfl rfl rfl rfl rfl rfl rfl (by decide) rfl (by decide) (fun _ p => starH_one.1 p) rfl (fun _ h => Row.rd h) (by first | rfl | simp) (by first | rfl | omega) (le_app (s := z + (wholeM x).fst.length) (by omega) (by first | rfl | omega)) (le_appb (s := z + (wholeM x).fst.length) (by omega) (by first | rfl | omega) (by decide)) (fun _ _ => (by repeat (first | exact trivial | refine ⟨rfl, ?_⟩))) (fun A73 c74 h75 => ?_))
   refine go Tryz.tbs_ok 1000 ?_
   refine ev_wrapN (i + 1) (by constructor <;> omega) (by rfl) ?_
   refine ev_fin (round_next ((i + 1, A73, z + (wholeM x).fst.length, c74, M ++ (wholeM x).fst, cut, en)) (?_ : i + 1 ≤ m ∧ z + (wholeM x).fst.length = (M ++ (wholeM x).fst).length ∧ z + (wholeM x).fst.length ≤ (i + 1) * 2000000 ∧ M ++ (wholeM x).fst = payM (List.take (i + 1) dat) ∧ cutAt t dat la (i + 1) cut en) (show m - (i + 1) < m - i from (by omega)) ⟨⟨by kernel_rfl, by kernel_rfl⟩, ⟨_, rfl⟩, ⟨_, rfl⟩, by kernel_rfl, by kernel_rfl⟩)
   rotate_left
   · exact absurd (by omega) (hno (whole_no (by omega)))
   · exact absurd (by omega) (hno (whole_no (by omega)))
   · refine ⟨by omega, by rw [List.length_append, hz], hzl, hst.symm, ?_⟩
     have hi1 : i + 1 = m := by omega
     have ht1 : 0 < t := by omega
     have hc : S[i] = la := by subst hS; rw [hla]; exact seg_last ht1 (by omega) _
     rw [hc]
     exact cutAt_torn hgx (by omega) (whole_no (by omega))
   · exact ⟨by omega, by rw [List.length_append, hz], hzl, hst.symm, cutAt_whole hup (by omega) hgx (whole_yes (by omega))⟩
 · obtain rfl : i = m := by omega
   rw [List.take_of_length_le (by omega)] at hM
   rw [← hM, ← hz]
   rw [← hdl] at hup
   rcases cutAt_end hup with ⟨q1, q2, q3⟩ | ⟨q1, z', q2, q3⟩
   · subst q1 q2
     refine go Tryz.tbs_ok 1000 ?_
     refine ev_if_no (decide_eq_false (show ¬(↑i : Int) < (↑i : Int) from (by omega))) ?_
     refine go Tryz.tbs_ok 1000 ?_
     refine ev_fin (go Tryz.tbs_ok 1000 ?_)
     refine ev_callF (T8 (b1) (x6) (x7)) [4] [] rfl rfl (by decide) rfl (by simp) (fun _ => (by repeat (first | exact trivial | refine ⟨rfl, ?_⟩))) (fun ⟨x100, x101⟩ h102 => ?_)
     refine go Tryz.tbs_ok 1000 ?_
     refine ev_call (T9 (b1) (x100) (x101)) [2, 4, 0] [.inl 0] (fun v0_ => [.box (b1) 49 [.va (Value.pointer (some { block := q, off := 0 : Addr })), .va (Value.int IntKind.i64 D.starts), .bl false, .va (Value.int IntKind.i64 (↑b : Int)), .va (Value.int IntKind.i64 (↑t : Int))], .fact (DiskM q r.fst)]) rfl rfl (by decide) rfl (by simp) (fun _ => rfl) (fun _ => (newsOk_box (by simp [SV.good, SV.goodL]) (newsOk_fact (newsOk_nil _)))) (fun _ => (by repeat (first | exact trivial | refine ⟨rfl, ?_⟩))) (fun _ h103 => ?_)
     refine go Tryz.tbs_ok 1000 ?_
     refine ev_if_yes rfl ?_
     refine go Tryz.tbs_ok 1000 ?_
     refine ev_if_no rfl ?_
     refine go Tryz.tbs_ok 1000 ?_
     refine ev_if_no rfl ?_
     refine go Tryz.tbs_ok 1000 ?_
     refine ev_fin ⟨trivial, _, rfl, ((b1, C, e)), rfl, (by trivial), Frm.sel [2, 4, 1] rfl (by decide)⟩
   · rw [q3] at hc
     cases hc
end Go.Proofs.YtjlfdfmkofbccaaGreatDoor
namespace Go.Proofs.YtjlfdfmkofbccaaGreatDoor
open Go.Sy
theorem openOk (q : Nat) (D : DK) (hD : okD D) (h : (openD D).2.1 = 0) : Triple Tryz.prog 12 [.pointer (some ⟨q, 0, none⟩)] [DiskM q D] [TabA] (Nat × Option Addr × Nat) (fun (p, C, c) => .tuple #[.pointer (some ⟨p, 0, none⟩), .slice C (openD D).2.2.2.length c, .int .i64 0]) (fun _ => True) (fun (p, C, c) => [WalM p q (openD D).2.2.1, DiskM q (openD D).1, Row 9 1 C (openD D).2.2.2.length c ((openD D).2.2.2.flatMap encS)]) := by
 unfold openD at h ⊢
 cases hd : D.down with
 |
  true =>
  rw [hd, if_pos rfl] at h
  cases h
 |
  false =>
  rw [hd, if_neg (by decide)] at h
  rw [if_neg (by decide)]
  cases ho : okN (namesD D) with
  |
   false =>
   rw [ho, if_pos (.inl rfl)] at h
   cases h
  |
   true =>
   cases hs : okSeg (tailsM (namesD D)) (dataD D) with
   |
    false =>
    rw [hs, if_pos (.inr rfl)] at h
    cases h
   |
    true =>
    rw [ho, hs, if_neg (by decide)] at h
    rw [if_neg (by decide)]
    by_cases hr : (runD (remL (staleM (namesD D))) D).2 = 0
    · rw [if_neg (by simpa using hr)] at h ⊢
      cases hc : cutM (dataD D) with
      | none => exact openWhole q D hD hd ho hs hr hc
      |
       some z =>
       rw [hc] at h
       exact openCut q D hD hd ho hs hr z hc _ rfl h
    · rw [if_pos hr] at h
      exact absurd h hr
end Go.Proofs.YtjlfdfmkofbccaaGreatDoor
namespace Go.Proofs.YtjlfdfmkofbccaaGreatDoor
open Go.Sy
def tB : ByteArray := ⟨#[116]⟩
def ckL3 (F : ByteArray) (n : Nat) : List (DK → DK × Int) := [fun D => appD D tB F, fun D => syncD D tB, fun D => renD D tB (nmB 99 n)]
def ckW (W : WK) (D : DK) (ps : List ByteArray) : WK × DK × Int :=
 if askW W.s W.bad D ≠ 0 then (W, D, askW W.s W.bad D)
 else if (framedM ps).2 ≠ 0 then (W, D, (framedM ps).2)
 else if 999999999 ≤ W.b + W.t then (W, D, 40)
 else
  let r := runD (ckL3 (framedM ps).1 (W.b + W.t + 1)) D
  if r.2 ≠ 0 then (⟨W.s, W.bad || badE r.2, W.b, W.t⟩, r.1, r.2)
  else
   let r2 := runD (remL (staleM (namesD r.1))) r.1
   (⟨W.s, W.bad || badE r2.2, baseM (namesD r.1), tailsM (namesD r.1)⟩, r2.1, r2.2)
theorem ckL3_ok {F : ByteArray} {n : Nat} : ∀ f ∈ ckL3 F n, ∀ D, okD D → okD (f D).1 := fun f hf D h => by
 simp only [ckL3, List.mem_cons, List.not_mem_nil, or_false] at hf
 rcases hf with rfl | rfl | rfl
 · exact app_ok h _ _
 · exact sync_ok h _
 · exact ren_ok h _ _
set_option maxRecDepth 100000 in
theorem renC (p q bw bn : Nat) (s : Int) (bad : Bool) (b t : Int) (n : Nat) (hn : n ≤ 999999999) (D : DK) (hD : okD D) :
 Triple Tryz.prog 55 [.pointer (some ⟨bw, 0, none⟩), .pointer (some ⟨bn, 0, none⟩)] [Pt bw 29 [.pointer (some ⟨p, 0, none⟩)], Pt bn 3 [.int .i64 (n : Nat)], ptW p q s bad b t, DiskM q D] [TabA] Unit (fun _ => .int .i64 (renD D tB (nmB 99 n)).2) (fun _ => True) (fun _ => [Pt bw 29 [.pointer (some ⟨p, 0, none⟩)], Pt bn 3 [.int .i64 (n : Nat)], ptW p q s bad b t, DiskM q (renD D tB (nmB 99 n)).1]) := by
 have T1 : Triple Tryz.prog 56 [.pointer (some ⟨q, 0, none⟩), .string ⟨#[116]⟩, .string (⟨#[99]⟩ ++ decB n)] [DiskM q D] [] Unit (fun _ => .int .i64 (renD D tB (nmB 99 n)).2) (fun _ => True) (fun _ => [DiskM q (renD D tB (nmB 99 n)).1]) := renM q D tB (nmB 99 n) hD
 have T2 := itoaT n (by omega)
 have hz := decB_size n (by omega)
 have h99 : (⟨#[99]⟩ : ByteArray).size = 1 := rfl
 obtain ⟨R, hR⟩ : ∃ R, R = renD D tB (nmB 99 n) := ⟨_, rfl⟩
 rw [← hR] at T1 ⊢
 refine triple_intro Tryz.tbs_ok Tryz.func55 rfl [.pt 0 bw 0, .pt 1 bn 0] [.box bw 29 [.pt 2 p 0], .box bn 3 [.va (.int .i64 (n : Nat))], .box p 49 [.va (.pointer (some ⟨q, 0, none⟩)), .va (.int .i64 s), .bq bad, .va (.int .i64 b), .va (.int .i64 t)], .fact (DiskM q D)] ⟨rfl, rfl, trivial⟩ rfl (by simp [SV.good, SV.goodL, blkAt, Res.blk]) ?_
 intro E
 refine go Tryz.tbs_ok 1000 ?_
 refine ev_stop (go_draw Tryz.tbs_ok false [0, 1, 2] [(0,true),(1,true),(2,true),(3,true),(4,true),(5,false),(6,false),(7,false),(8,false)] rfl ?_)
 refine go Tryz.tbs_ok 1000 ?_
 refine ev_need ⟨⟨(by repeat (first | exact trivial | refine ⟨rfl, ?_⟩)), rfl⟩, by kernel_rfl⟩ ?_
 refine ev_callF (T2 ) [] [.inl 0] rfl rfl (by decide) rfl (by simp) (fun _ => (by repeat (first | exact trivial | refine ⟨rfl, ?_⟩))) (fun _ h0 => ?_)
 refine go Tryz.tbs_ok 1000 ?_
 refine ev_need ⟨⟨(by repeat (first | exact trivial | refine ⟨rfl, ?_⟩)), rfl⟩, by kernel_rfl⟩ ?_
 refine ev_stop (go_bin (.va _) trivial rfl rfl rfl rfl rfl (by decide) (by decide) (fun w => cat_run (by omega) w) ?_)
 refine go Tryz.tbs_ok 1000 ?_
 refine ev_need ⟨⟨(by repeat (first | exact trivial | refine ⟨rfl, ?_⟩)), rfl⟩, by kernel_rfl⟩ ?_
 refine ev_callF (T1 ) [3] [] rfl rfl (by decide) rfl (by simp) (fun _ => (by repeat (first | exact trivial | refine ⟨rfl, ?_⟩))) (fun _ h1 => ?_)
 refine go Tryz.tbs_ok 1000 ?_
 refine ev_need ⟨⟨(by repeat (first | exact trivial | refine ⟨rfl, ?_⟩)), rfl⟩, by kernel_rfl⟩ ?_
 refine ev_need (by kernel_rfl) ?_
 refine ev_fin ⟨trivial, _, rfl, (()), rfl, (by trivial), Frm.sel [0, 1, 2, 3] rfl (by decide)⟩
end Go.Proofs.YtjlfdfmkofbccaaGreatDoor
namespace Go.Proofs.YtjlfdfmkofbccaaGreatDoor
open Go.Sy
abbrev BA := ByteArray
def FB (ps : List BA) : BA := strL (framesL ckL (ps.map fun p => p.data.toList))
def small (ps : List BA) : Prop := ∀ p ∈ ps, p.size ≤ 8192
theorem FB_nil : FB [] = .empty := ba_eq rfl
theorem FB_list (ps : List BA) : (FB ps).data.toList = framesL ckL (ps.map fun p => p.data.toList) := rfl
theorem FB_append (ps qs : List BA) : FB (ps ++ qs) = FB ps ++ FB qs := ba_eq (by rw [ba_app, FB_list, FB_list, FB_list, List.map_append, framesL_append])
theorem FB_size_append (ps qs : List BA) : (FB (ps ++ qs)).size = (FB ps).size + (FB qs).size := by rw [FB_append, ByteArray.size_append]
theorem FB_take_le (ps : List BA) (j : Nat) : (FB (ps.take j)).size ≤ (FB ps).size := by
 conv => rhs; rw [← List.take_append_drop j ps]
 rw [FB_size_append]
 omega
theorem FB_take_mono (ps : List BA) {i j : Nat} (h : i ≤ j) : (FB (ps.take i)).size ≤ (FB (ps.take j)).size := by
 have := FB_take_le (ps.take j) i
 rwa [List.take_take, Nat.min_eq_left h] at this
theorem back_map (ps : List BA) : (ps.map fun p => p.data.toList).map strL = ps := by
 rw [List.map_map]
 conv => rhs; rw [← List.map_id ps]
 exact List.map_congr_left fun p _ => list_strL p
theorem framed_small {ps : List BA} (h : small ps) : framedM ps = (FB ps, 0) := by
 unfold framedM
 rw [if_pos (List.all_eq_true.2 fun p hp => decide_eq_true (h p hp))]
 rfl
theorem framed_ok {ps : List BA} (h : (framedM ps).2 = 0) : small ps ∧ (framedM ps).1 = FB ps := by
 unfold framedM at h ⊢
 split at h
 · rename_i hp
   rw [if_pos hp]
   exact ⟨fun p hp2 => of_decide_eq_true (List.all_eq_true.1 hp p hp2), rfl⟩
 · cases h
theorem framed_err {ps : List BA} (h : (framedM ps).2 ≠ 0) : (framedM ps).2 = 3 := by
 unfold framedM at h ⊢
 split at h
 · exact absurd rfl h
 · rename_i hp
   rw [if_neg hp]
theorem small_map {ps : List BA} (h : small ps) : ∀ p ∈ ps.map (fun p => p.data.toList), p.length ≤ 8192 := fun p hp => by
 obtain ⟨q, hq, rfl⟩ := List.mem_map.1 hp
 rw [size_data]
 exact h q hq
theorem whole_FB {ps : List BA} (h : small ps) : wholeM (FB ps) = (ps, (FB ps).size) := by
 have := whole_frames ckL_len (ps.map fun p => p.data.toList) [] (small_map h)
 rw [List.append_nil, wholeL_none (l := []) rfl] at this
 unfold wholeM
 rw [FB_list, this]
 simp only [List.append_nil, Nat.add_zero, back_map]
 rw [← FB_list, size_data]
theorem wholeB_FB {ps : List BA} (h : small ps) : wholeB (FB ps) = true := by
 unfold wholeB
 rw [whole_FB h]
 exact decide_eq_true rfl
theorem whole_torn {ps : List BA} (h : small ps) {l r : BA} (e : l ++ r = FB ps) : ∃ k, k ≤ ps.length ∧ wholeM l = (ps.take k, (FB (ps.take k)).size) ∧ (FB (ps.take k)).size ≤ l.size ∧ ∀ j, j ≤ ps.length → (FB (ps.take j)).size ≤ l.size → j ≤ k := by
 have e2 : l.data.toList ++ r.data.toList = framesL ckL (ps.map fun p => p.data.toList) := by rw [← ba_app, e]; rfl
 obtain ⟨k, hk, hw, hmax⟩ := whole_cut ckL_len _ _ _ (small_map h) e2
 rw [List.length_map] at hk hmax
 have hs : ∀ j, (framesL ckL ((ps.map fun p => p.data.toList).take j)).length = (FB (ps.take j)).size := fun j => by
  rw [← List.map_take]
  exact (size_data (FB (ps.take j))).symm ▸ rfl
 refine ⟨k, hk, ?_, ?_, fun j hj hle => hmax j hj ?_⟩
 · unfold wholeM
   rw [hw, hs]
   simp only [← List.map_take, back_map]
 · have := (whole_len l).2
   unfold wholeM at this
   rw [hw] at this
   simp only [hs] at this
   exact this
 · rw [hs, size_data]
   exact hle
theorem torn_take {ps : List BA} {l r : BA} (e : l ++ r = FB ps) {k : Nat} (h : (FB (ps.take k)).size ≤ l.size) : l.extract 0 (FB (ps.take k)).size = FB (ps.take k) := by
 refine ba_eq ?_
 rw [ext_l, List.drop_zero]
 have e2 : l.data.toList ++ r.data.toList = (FB (ps.take k)).data.toList ++ (FB (ps.drop k)).data.toList := by rw [← ba_app, e, ← ba_app, ← FB_append, List.take_append_drop]
 have e3 := congrArg (fun x => x.take (FB (ps.take k)).size) e2
 rw [List.take_append_of_le_length (by rw [size_data]; exact h)] at e3
 rw [e3, ← size_data, List.take_left]
def full (L : List Fl) (names : List BA) (Ps : List (List BA)) : Prop := names.map (lk L) = Ps.map fun ps => some (FB ps, ((FB ps).size : Int))
structure Torn (L : List Fl) (b t : Nat) (init : List (List BA)) (last : List BA) (l : BA) (s : Int) : Prop where
 rise : riseF L
 lay : Lay (L.map (·.n)) b t
 few : (segsM b t).length ≤ 15
 smalls : (∀ ps ∈ init, small ps) ∧ small last
 zero : t = 0 → full L (segsM b 0) init ∧ last = []
 more : 0 < t → full L (segsM b (t - 1)) init ∧ lk L (nmB 115 (b + t)) = some (l, s) ∧ ∃ r, l ++ r = FB last
theorem segs_succ {b t : Nat} (h : 0 < t) : segsM b t = segsM b (t - 1) ++ [nmB 115 (b + t)] := by
 obtain ⟨k, rfl⟩ : ∃ k, t = k + 1 := ⟨t - 1, by omega⟩
 unfold segsM
 rw [List.range_succ, List.map_append, ← List.append_assoc, Nat.add_sub_cancel]
 simp only [List.map_cons, List.map_nil]
 rw [show b + 1 + k = b + (k + 1) by omega]
theorem names_fl (D : DK) : namesD D = D.files.map (·.n) := rfl
theorem read_lk {D : DK} (h : D.down = false) (hs : riseF D.files) (x : BA) : (readD D x).1 = match lk D.files x with | some v => v.1 | none => .empty := by
 unfold readD
 rw [h, if_neg (by decide), lk_has]
 cases hl : lk D.files x with
 | none => rfl
 |
  some v =>
  obtain ⟨hi, he⟩ := lk_at hs hl
  simp only [Option.isSome_some, if_true]
  rw [getF_eq hi, he]
theorem data_full {D : DK} (h : D.down = false) (hs : riseF D.files) {names : List BA} {Ps : List (List BA)} (hf : full D.files names Ps) : (names.map fun x => (readD D x).1) = Ps.map FB := by
 unfold full at hf
 induction names generalizing Ps with
 |
  nil =>
  cases Ps with
  | nil => rfl
  | cons p Ps => simp at hf
 |
  cons x names ih =>
  cases Ps with
  | nil => simp at hf
  |
   cons p Ps =>
   simp only [List.map_cons, List.cons.injEq] at hf
   simp only [List.map_cons]
   rw [ih hf.2, read_lk h hs, hf.1]
theorem Torn.data {D : DK} {b t : Nat} {init : List (List BA)} {last : List BA} {l : BA} {s : Int} (H : Torn D.files b t init last l s) (hu : D.down = false) : dataD D = init.map FB ++ if 0 < t then [l] else [] := by
 unfold dataD
 rw [names_fl, H.lay.base, H.lay.tails]
 rcases Nat.eq_zero_or_pos t with h0 | h0
 · rw [if_neg (by omega), List.append_nil]
   subst h0
   exact data_full hu H.rise (H.zero rfl).1
 · rw [if_pos h0, segs_succ h0, List.map_append, data_full hu H.rise (H.more h0).1]
   congr 1
   simp only [List.map_cons, List.map_nil]
   rw [read_lk hu H.rise, (H.more h0).2.1]
theorem Torn.okSeg {D : DK} {b t : Nat} {init : List (List BA)} {last : List BA} {l : BA} {s : Int} (H : Torn D.files b t init last l s) (hu : D.down = false) : okSeg t (dataD D) = true := by
 rw [H.data hu]
 have h1 : ∀ x ∈ init.map FB, wholeB x = true := fun x hx => by
  obtain ⟨ps, hp, rfl⟩ := List.mem_map.1 hx
  exact wholeB_FB (H.smalls.1 ps hp)
 rcases Nat.eq_zero_or_pos t with h0 | h0
 · rw [if_neg (by omega), List.append_nil]
   exact okSeg_yes h1
 · rw [if_pos h0]
   unfold Proofs.YtjlfdfmkofbccaaGreatDoor.okSeg
   rw [List.dropLast_concat]
   simp only [Bool.and_eq_true, Bool.or_eq_true, decide_eq_true_eq]
   exact ⟨List.all_eq_true.2 h1, .inl h0⟩
theorem pay_FB {Ps : List (List BA)} (h : ∀ ps ∈ Ps, small ps) : payM (Ps.map FB) = Ps.flatten := by
 unfold payM
 induction Ps with
 | nil => rfl
 |
  cons ps Ps ih =>
  simp only [List.map_cons, List.flatMap_cons, List.flatten_cons]
  rw [ih fun q hq => h q (List.mem_cons_of_mem _ hq), whole_FB (h ps List.mem_cons_self)]
/-! removals -/
theorem rem_calm {D : DK} (_hD : okD D) (hu : D.down = false) (hf : D.fails = none) {x : BA} {v : BA × Int} (h : lk D.files x = some v) : remD D x = (⟨D.most, D.starts, false, D.files.eraseIdx (posF D.files x), none, D.keep⟩, 0) := by
 unfold remD
 rw [hu, if_neg (by decide), lk_has, h]
 simp only [Option.isSome_some, if_true]
 unfold chg
 rw [hf, hu]
theorem rem_all : ∀ {S : List BA} {D : DK}, okD D → D.down = false → D.fails = none → S.Nodup → (∀ x ∈ S, ∃ v, lk D.files x = some v) →
 (runD (remL S) D).2 = 0 ∧ okD (runD (remL S) D).1 ∧ (runD (remL S) D).1.down = false ∧ (runD (remL S) D).1.fails = none ∧ (runD (remL S) D).1.starts = D.starts ∧ (runD (remL S) D).1.most = D.most ∧ (runD (remL S) D).1.keep = D.keep ∧ ∀ z, lk (runD (remL S) D).1.files z = if memB S z then none else lk D.files z
 | [], D, h1, h2, h3, _, _ => ⟨rfl, h1, h2, h3, rfl, rfl, rfl, fun z => rfl⟩
 |
  x :: S, D, h1, h2, h3, h4, h5 => by
  obtain ⟨v, hv⟩ := h5 x List.mem_cons_self
  have e := rem_calm h1 h2 h3 hv
  obtain ⟨n1, n2⟩ := List.nodup_cons.1 h4
  have hl : ∀ z, lk (D.files.eraseIdx (posF D.files x)) z = if z = x then none else lk D.files z := lk_erase h1.rise hv
  have hok : okD (⟨D.most, D.starts, false, D.files.eraseIdx (posF D.files x), none, D.keep⟩ : DK) := by
   have := rem_ok h1 x
   rwa [e] at this
  obtain ⟨i1, i2, i3, i4, i5, i6, i7, i8⟩ := rem_all (S := S) hok rfl rfl n2 (fun y hy => by
   obtain ⟨w, hw⟩ := h5 y (List.mem_cons_of_mem _ hy)
   exact ⟨w, by rw [hl, if_neg (fun q => n1 (by rw [← q]; exact hy))]; exact hw⟩)
  have er : runD (remL (x :: S)) D = runD (remL S) ⟨D.most, D.starts, false, D.files.eraseIdx (posF D.files x), none, D.keep⟩ := by
   show runD ((fun D => remD D x) :: remL S) D = _
   rw [runD]
   simp only [e, if_true]
  rw [er]
  refine ⟨i1, i2, i3, i4, i5, i6, i7, fun z => ?_⟩
  rw [i8, hl]
  have em : memB (x :: S) z = (decide (x = z) || memB S z) := rfl
  rw [em]
  by_cases hx : z = x
  · rw [if_pos hx, decide_eq_true hx.symm]
    simp
  · rw [if_neg hx, decide_eq_false (fun q => hx q.symm), Bool.false_or]
end Go.Proofs.YtjlfdfmkofbccaaGreatDoor
namespace Go.Proofs.YtjlfdfmkofbccaaGreatDoor
open Go.Sy
theorem mem_names {L : List Fl} {x : BA} : x ∈ L.map (·.n) ↔ lk L x ≠ none := by
 rw [Ne, lk_none]
 constructor
 · intro h q
   obtain ⟨f, hf, e⟩ := List.mem_map.1 h
   exact q f hf e
 · intro h
   refine Classical.byContradiction fun q => h fun f hf e => q (List.mem_map.2 ⟨f, hf, e⟩)
theorem full_congr {L L' : List Fl} {names : List BA} {Ps : List (List BA)} (h : ∀ x ∈ names, lk L' x = lk L x) (H : full L names Ps) : full L' names Ps := by
 unfold full at H ⊢
 rw [← H]
 exact List.map_congr_left h
theorem full_has {L : List Fl} {names : List BA} {Ps : List (List BA)} (H : full L names Ps) {x : BA} (h : x ∈ names) : ∃ ps ∈ Ps, lk L x = some (FB ps, ((FB ps).size : Int)) := by
 unfold full at H
 have h1 : lk L x ∈ names.map (lk L) := List.mem_map.2 ⟨x, h, rfl⟩
 rw [H] at h1
 obtain ⟨ps, hp, e⟩ := List.mem_map.1 h1
 exact ⟨ps, hp, e.symm⟩
theorem seg_in {b t : Nat} (h : 0 < t) {x : BA} (hx : x ∈ segsM b (t - 1)) : x ∈ segsM b t ∧ x ≠ nmB 115 (b + t) := by
 rw [segs_succ h]
 refine ⟨List.mem_append_left _ hx, fun e => ?_⟩
 have := segs_nodup b t
 rw [segs_succ h, List.nodup_append] at this
 exact this.2.2 x hx _ (List.mem_singleton_self _) e
theorem Torn.move {L L' : List Fl} {b t : Nat} {init : List (List BA)} {last last' : List BA} {l l' : BA} {s s' : Int} (H : Torn L b t init last l s) (hr : riseF L') (hsegs : ∀ x ∈ segsM b t, (0 < t → x ≠ nmB 115 (b + t)) → lk L' x = lk L x)
 (hend : 0 < t → lk L' (nmB 115 (b + t)) = some (l', s')) (hall : ∀ x, lk L' x ≠ none → x ∈ segsM b t ∨ staleB b x = true) (hsm : small last') (hl : 0 < t → ∃ r, l' ++ r = FB last') (h0 : t = 0 → last' = []) : Torn L' b t init last' l' s' := by
 refine ⟨hr, ⟨H.lay.few, fun x hx => mem_names.2 ?_, fun x hx => hall x (mem_names.1 hx)⟩, H.few, ⟨H.smalls.1, hsm⟩, fun ht => ⟨?_, h0 ht⟩, fun ht => ⟨?_, hend ht, hl ht⟩⟩
 · by_cases hq : 0 < t ∧ x = nmB 115 (b + t)
   · rw [hq.2, hend hq.1]
     simp
   · rw [hsegs x hx fun ht e => hq ⟨ht, e⟩]
     exact mem_names.1 (H.lay.segs x hx)
 · subst ht
   exact full_congr (fun x hx => hsegs x hx fun q => absurd q (by decide)) (H.zero rfl).1
 · exact full_congr (fun x hx => hsegs x (seg_in ht hx).1 fun _ => (seg_in ht hx).2) (H.more ht).1
theorem extract_all (x : BA) : x.extract 0 x.size = x := ba_eq (by rw [ext_l, List.drop_zero, ← size_data, List.take_length])
theorem Torn.crash {L : List Fl} {b t : Nat} {init : List (List BA)} {last : List BA} {l : BA} {s : Int} (H : Torn L b t init last l s) (hL : ∀ f ∈ L, 0 ≤ f.s ∧ f.s ≤ f.d.size) (K : List Int) :
 ∃ l' : BA, Torn (crashF L K) b t init last l' (l'.size : Nat) ∧ (0 < t → s ≤ (l'.size : Nat)) := by
 have hr : riseF (crashF L K) := riseF_names (crashF_names L K) H.rise
 have hfull : ∀ x, (∃ d : BA, lk L x = some (d, (d.size : Int))) → lk (crashF L K) x = lk L x := fun x ⟨d, hd⟩ => by
  rcases lk_crash hL K x with ⟨_, h2⟩ | ⟨v, w, h1, h2, k, h3, h4, h5⟩
  · rw [hd] at h2
    cases h2
  · rw [hd] at h1
    cases h1
    obtain rfl : k = d.size := by simp only at h3 h4; omega
    rw [h2, h5, hd]
    simp only
    rw [extract_all]
 have hsegs : ∀ x ∈ segsM b t, (0 < t → x ≠ nmB 115 (b + t)) → lk (crashF L K) x = lk L x := fun x hx hne => by
  refine hfull x ?_
  rcases Nat.eq_zero_or_pos t with h0 | h0
  · subst h0
    obtain ⟨ps, _, e⟩ := full_has (H.zero rfl).1 hx
    exact ⟨_, e⟩
  · rw [segs_succ h0] at hx
    rcases List.mem_append.1 hx with hx | hx
    · obtain ⟨ps, _, e⟩ := full_has (H.more h0).1 hx
      exact ⟨_, e⟩
    · exact absurd (List.mem_singleton.1 hx) (hne h0)
 have hall : ∀ x, lk (crashF L K) x ≠ none → x ∈ segsM b t ∨ staleB b x = true := fun x hx => by
  refine H.lay.all x (mem_names.2 ?_)
  rcases lk_crash hL K x with ⟨h1, _⟩ | ⟨v, w, h1, _⟩
  · exact absurd h1 hx
  · rw [h1]
    simp
 rcases Nat.eq_zero_or_pos t with h0 | h0
 · exact ⟨.empty, H.move hr hsegs (fun q => by omega) hall H.smalls.2 (fun q => by omega) (fun _ => (H.zero h0).2), fun q => by omega⟩
 · obtain ⟨h1, h2, r, h3⟩ := H.more h0
   rcases lk_crash hL K (nmB 115 (b + t)) with ⟨_, h4⟩ | ⟨v, w, h4, h5, k, h6, h7, h8⟩
   · rw [h2] at h4
     cases h4
   · rw [h2] at h4
     cases h4
     simp only at h6 h7
     have hk : (l.extract 0 k).size = k := by rw [ByteArray.size_extract]; omega
     refine ⟨l.extract 0 k, H.move hr hsegs (fun _ => by rw [h5, h8, hk]) hall H.smalls.2 (fun _ => ⟨l.extract k l.size ++ r, ?_⟩) (fun q => by omega), fun _ => by rw [hk]; exact h6⟩
     rw [← h3]
     refine ba_eq ?_
     rw [ba_app, ba_app, ba_app, ext_l, ext_l, ← size_data, List.take_length, List.drop_zero, ← List.append_assoc, List.take_append_drop]
structure Live (W : WK) (D : DK) (init : List (List BA)) (last : List BA) (j : Nat) : Prop where
 ok : okD D
 up : D.down = false
 st : D.starts = W.s
 nb : W.bad = false
 torn : ∃ s : Int, Torn D.files W.b W.t init last (FB last) s ∧ (0 < W.t → ((FB (last.take j)).size : Int) ≤ s)
 few : j ≤ last.length
 bare : ∀ x, lk D.files x ≠ none → x ∈ segsM W.b W.t
theorem Live.names {W : WK} {D : DK} {init : List (List BA)} {last : List BA} {j : Nat} (H : Live W D init last j) : Bare (namesD D) W.b W.t := by
 obtain ⟨s, h, _⟩ := H.torn
 exact ⟨h.lay.few, fun x => ⟨fun hx => H.bare x (mem_names.1 hx), fun hx => h.lay.segs x hx⟩⟩
theorem Live.okW {W : WK} {D : DK} {init : List (List BA)} {last : List BA} {j : Nat} (H : Live W D init last j) : Proofs.YtjlfdfmkofbccaaGreatDoor.okW W := H.names.1
theorem Live.ask {W : WK} {D : DK} {init : List (List BA)} {last : List BA} {j : Nat} (H : Live W D init last j) : askW W.s W.bad D = 0 := by
 unfold askW
 rw [H.nb, H.up, H.st]
 simp
theorem rise_nodup {L : List Fl} (h : riseF L) : (L.map (·.n)).Nodup := by
 refine List.Pairwise.map _ ?_ h
 exact fun a b hab => hab.ne
theorem Live.len {W : WK} {D : DK} {init : List (List BA)} {last : List BA} {j : Nat} (H : Live W D init last j) : D.files.length = (segsM W.b W.t).length := by
 have h1 := H.names
 have h2 := ((List.perm_ext_iff_of_nodup (rise_nodup H.ok.rise) (segs_nodup W.b W.t)).2 h1.2).length_eq
 rwa [List.length_map] at h2
theorem Live.opens {W : WK} {D : DK} {init : List (List BA)} {last : List BA} {j : Nat} (H : Live W D init last j) : openD D = (D, 0, ⟨D.starts, false, W.b, W.t⟩, init.flatten ++ last) := by
 obtain ⟨s, hT, _⟩ := H.torn
 have hb := H.names
 unfold openD
 rw [H.up, if_neg (by decide), if_neg]
 · rw [hb.stale]
   have hd := hT.data H.up
   have hc : cutM (dataD D) = none := by
    rw [hd]
    refine cutM_no fun x hx => ?_
    rcases List.mem_append.1 hx with hx | hx
    · obtain ⟨ps, hp, rfl⟩ := List.mem_map.1 hx
      exact wholeB_FB (hT.smalls.1 ps hp)
    · split at hx
      · rw [List.mem_singleton.1 hx]
        exact wholeB_FB hT.smalls.2
      · cases hx
   have hp : payM (dataD D) = init.flatten ++ last := by
    rw [hd]
    split
    · have : init.map FB ++ [FB last] = (init ++ [last]).map FB := by simp
      rw [this, pay_FB (fun ps hps => by
       rcases List.mem_append.1 hps with h | h
       · exact hT.smalls.1 ps h
       · rw [List.mem_singleton.1 h]; exact hT.smalls.2)]
      simp
    · rename_i ht
      rw [(hT.zero (by omega)).2, List.append_nil, List.append_nil, pay_FB hT.smalls.1]
   simp only [remL, List.map_nil, runD, hc, hp, ne_eq, not_true_eq_false, if_false]
   rw [names_fl, hT.lay.base, hT.lay.tails]
 · rw [names_fl, hT.lay.okN, hT.lay.tails, hT.okSeg H.up]
   decide
theorem Torn.opens {D : DK} {b t : Nat} {init : List (List BA)} {last : List BA} {l : BA} {s : Int} (hD : okD D) (hu : D.down = false) (hf : D.fails = none) (H : Torn D.files b t init last l s) (_hs : 0 < t → 0 ≤ s ∧ s ≤ (l.size : Nat)) :
 ∃ (k : Nat) (D' : DK), k ≤ last.length ∧ (0 < t → (FB (last.take k)).size ≤ l.size) ∧ (∀ j, j ≤ last.length → (0 < t → (FB (last.take j)).size ≤ l.size) → j ≤ k) ∧ openD D = (D', 0, ⟨D.starts, false, b, t⟩, init.flatten ++ last.take k) ∧ D'.fails = none ∧ D'.most = D.most ∧ D'.keep = D.keep ∧
  ∀ j, j ≤ k → (0 < t → ((FB (last.take j)).size : Int) ≤ s) → Live ⟨D.starts, false, b, t⟩ D' init (last.take k) j := by
 have hst := H.lay.stale
 have hnd : (D.files.map (·.n)).Nodup := rise_nodup H.rise
 obtain ⟨S, hS⟩ : ∃ S, S = staleM (namesD D) := ⟨_, rfl⟩
 have hSm : ∀ x, x ∈ S ↔ lk D.files x ≠ none ∧ staleB b x = true := fun x => by
  rw [hS, names_fl, hst, List.mem_filter, mem_names]
 obtain ⟨r1, r2, r3, r4, r5, r6, r7, r8⟩ := rem_all (S := S) hD hu hf (by rw [hS, names_fl, hst]; exact hnd.filter _) (fun x hx => Option.ne_none_iff_exists'.1 ((hSm x).1 hx).1)
 obtain ⟨D1, hD1⟩ : ∃ D1, D1 = (runD (remL S) D).1 := ⟨_, rfl⟩
 rw [← hD1] at r2 r3 r4 r5 r6 r7 r8
 have hseg : ∀ x ∈ segsM b t, lk D1.files x = lk D.files x := fun x hx => by
  rw [r8, if_neg]
  intro q
  have := ((hSm x).1 (memB_iff.1 q)).2
  rw [seg_fresh H.lay.few hx] at this
  cases this
 have hbare : ∀ x, lk D1.files x ≠ none → x ∈ segsM b t := fun x hx => by
  rw [r8] at hx
  split at hx
  · exact absurd rfl hx
  · rename_i hq
    rcases H.lay.all x (mem_names.2 hx) with h | h
    · exact h
    · exact absurd (memB_iff.2 ((hSm x).2 ⟨hx, h⟩)) hq
 have hdat := H.data hu
 have fin : ∀ (k : Nat) (D' : DK), k ≤ last.length → (t = 0 → k = 0) → okD D' → D'.down = false → D'.starts = D.starts → (∃ s' : Int, (0 < t → lk D'.files (nmB 115 (b + t)) = some (FB (last.take k), s') ∧ ∀ j, j ≤ k → ((FB (last.take j)).size : Int) ≤ s → ((FB (last.take j)).size : Int) ≤ s')) →
  (∀ x ∈ segsM b t, (0 < t → x ≠ nmB 115 (b + t)) → lk D'.files x = lk D.files x) → (∀ x, lk D'.files x ≠ none → x ∈ segsM b t) → ∀ j, j ≤ k → (0 < t → ((FB (last.take j)).size : Int) ≤ s) → Live ⟨D.starts, false, b, t⟩ D' init (last.take k) j := by
  intro k D' hk hk0 h1 h2 h3 ⟨s', h4⟩ h5 h6 j hj hjs
  refine ⟨h1, h2, h3, rfl, ⟨s', ?_, fun ht => ?_⟩, by rw [List.length_take]; omega, h6⟩
  · refine H.move h1.rise h5 (fun ht => (h4 ht).1) (fun x hx => .inl (h6 x hx)) (fun p hp => H.smalls.2 p (List.mem_of_mem_take hp)) (fun ht => ⟨.empty, ?_⟩) (fun ht => by rw [hk0 ht]; rfl)
    exact ba_eq (by rw [ba_app]; simp)
  · rw [List.take_take, Nat.min_eq_left hj]
    exact (h4 ht).2 j hj (hjs ht)
 have hinit : ∀ x ∈ init.map FB, wholeB x = true := fun x hx => by
  obtain ⟨ps, hp, rfl⟩ := List.mem_map.1 hx
  exact wholeB_FB (H.smalls.1 ps hp)
 have hopen : ∀ (k : Nat) (D' : DK), payM (dataD D) = init.flatten ++ last.take k → ((cutM (dataD D) = none ∧ D' = D1) ∨ ∃ z : Nat, cutM (dataD D) = some z ∧ truncD D1 (endM b t) (z : Nat) = (D', 0)) → openD D = (D', 0, ⟨D.starts, false, b, t⟩, init.flatten ++ last.take k) := by
  intro k D' hp hc
  unfold openD
  rw [hu, if_neg (by decide), if_neg]
  · rw [← hS]
    simp only [r1, ne_eq, not_true_eq_false, if_false]
    rw [← hD1, names_fl, H.lay.base, H.lay.tails, hp]
    rcases hc with ⟨hc, rfl⟩ | ⟨z, hc, hz⟩
    · rw [hc]
    · rw [hc]
      simp only [hz]
  · rw [names_fl, H.lay.okN, H.lay.tails, H.okSeg hu]
    decide
 rcases Nat.eq_zero_or_pos t with h0 | h0
 · obtain ⟨hf0, hl0⟩ := H.zero h0
   subst hl0
   rw [if_neg (by omega), List.append_nil] at hdat
   refine ⟨0, D1, Nat.zero_le _, fun q => by omega, fun j hj _ => hj, hopen 0 D1 ?_ (.inl ⟨by rw [hdat]; exact cutM_no hinit, rfl⟩), r4, r6, r7, fin 0 D1 (Nat.zero_le _) (fun _ => rfl) r2 r3 r5 ⟨0, fun q => by omega⟩ (fun x hx _ => hseg x hx) hbare⟩
   rw [hdat, pay_FB H.smalls.1]
   simp
 · obtain ⟨hfm, hle, r, hr⟩ := H.more h0
   rw [if_pos h0] at hdat
   obtain ⟨k, hk, hw, hkl, hmax⟩ := whole_torn H.smalls.2 hr
   have hkf := torn_take hr hkl
   have hpay : payM (dataD D) = init.flatten ++ last.take k := by
    rw [hdat]
    unfold payM
    rw [List.flatMap_append]
    have := pay_FB H.smalls.1
    unfold payM at this
    rw [this]
    simp [hw]
   have hend : endM b t = nmB 115 (b + t) := by unfold endM; rw [if_neg (by omega)]
   have hmemE : nmB 115 (b + t) ∈ segsM b t := by rw [segs_succ h0]; exact List.mem_append_right _ (List.mem_singleton_self _)
   have hle1 : lk D1.files (nmB 115 (b + t)) = some (l, s) := by rw [hseg _ hmemE]; exact hle
   have hlast : (dataD D).getLast? = some l := by rw [hdat]; simp
   by_cases hz : (FB (last.take k)).size = l.size
   · have hl : l = FB (last.take k) := by rw [← hkf, hz, extract_all]
     refine ⟨k, D1, hk, fun _ => hkl, fun j hj hjl => hmax j hj (hjl h0), hopen k D1 hpay (.inl ⟨?_, rfl⟩), r4, r6, r7, fin k D1 hk (fun q => by omega) r2 r3 r5 ⟨s, fun _ => ⟨by rw [← hl]; exact hle1, fun j _ h => h⟩⟩ (fun x hx _ => hseg x hx) hbare⟩
     unfold cutM
     rw [hlast]
     simp only
     rw [if_pos]
     unfold wholeB
     rw [hw]
     exact decide_eq_true hz
   · have hcut : cutM (dataD D) = some (FB (last.take k)).size := by
      unfold cutM
      rw [hlast]
      simp only
      rw [if_neg, hw]
      unfold wholeB
      rw [hw]
      simpa using hz
     obtain ⟨hi, he⟩ := lk_at r2.rise hle1
     have htr : truncD D1 (nmB 115 (b + t)) ((FB (last.take k)).size : Nat) = (⟨D1.most, D1.starts, false, setF D1.files (nmB 115 (b + t)) fun f => ⟨f.n, f.d.extract 0 (((FB (last.take k)).size : Nat) : Int).toNat, min f.s ((FB (last.take k)).size : Nat)⟩, none, D1.keep⟩, 0) := by
      unfold truncD
      rw [r3, if_neg (by decide), lk_has, hle1]
      simp only [Option.isSome_some, if_true]
      rw [getF_eq hi, he, if_neg (by simp only; omega)]
      unfold chg
      rw [r4, r3]
     obtain ⟨D2, hD2⟩ : ∃ D2, D2 = (truncD D1 (nmB 115 (b + t)) ((FB (last.take k)).size : Nat)).1 := ⟨_, rfl⟩
     have hok2 : okD D2 := by rw [hD2]; exact trunc_ok r2 _ _
     rw [htr] at hD2
     have hl2 : ∀ z, lk D2.files z = if z = nmB 115 (b + t) then some (FB (last.take k), min s ((FB (last.take k)).size : Nat)) else lk D1.files z := fun z => by
      rw [hD2]
      simp only
      rw [lk_setF r2.rise hle1 (g := fun f => ⟨f.n, f.d.extract 0 (((FB (last.take k)).size : Nat) : Int).toNat, min f.s ((FB (last.take k)).size : Nat)⟩) (fun _ => rfl)]
      simp only [Int.toNat_natCast, hkf]
     refine ⟨k, D2, hk, fun _ => hkl, fun j hj hjl => hmax j hj (hjl h0), hopen k D2 hpay (.inr ⟨_, hcut, by rw [hend, htr, hD2]⟩), by rw [hD2], by rw [hD2]; exact r6, by rw [hD2]; exact r7, fin k D2 hk (fun q => by omega) hok2 (by rw [hD2]) (by rw [hD2]; exact r5) ⟨min s ((FB (last.take k)).size : Nat), fun _ => ⟨by rw [hl2, if_pos rfl], fun j hj h => ?_⟩⟩ (fun x hx hne => by rw [hl2, if_neg (hne h0), hseg x hx]) (fun x hx => ?_)⟩
     · have := FB_take_mono last hj
       omega
     · rw [hl2] at hx
       split at hx
       · rename_i e
         rw [e]
         exact hmemE
       · exact hbare x hx
end Go.Proofs.YtjlfdfmkofbccaaGreatDoor
namespace Go.Proofs.YtjlfdfmkofbccaaGreatDoor
open Go.Sy
def Logs (W : WK) (D : DK) (have_ : List BA) (sure : Nat) : Prop := ∃ init last j, Live W D init last j ∧ init.flatten ++ last = have_ ∧ sure ≤ init.flatten.length + j
structure Brk (D : DK) (longer : List BA) (sure : Nat) : Prop where
 ok : okD D
 down : D.down = true
 fails : D.fails = none
 torn : ∃ b t init last l j, Torn D.files b t init last l (l.size : Nat) ∧ j ≤ last.length ∧ (0 < t → (FB (last.take j)).size ≤ l.size) ∧ sure ≤ init.flatten.length + j ∧ (init.flatten ++ last) <+: longer
theorem chg_cases {D : DK} (hu : D.down = false) (late : Bool) (L2 : List Fl) : (∃ fl, (D.fails = none → fl = none) ∧ chg D late L2 = (⟨D.most, D.starts, false, L2, fl, D.keep⟩, 0)) ∨ (D.fails ≠ none ∧ chg D late L2 = (⟨D.most, D.starts, true, crashF (if late then L2 else D.files) D.keep, none, D.keep⟩, 41)) := by
 unfold chg
 split
 · exact .inl ⟨none, fun _ => rfl, by rw [hu]⟩
 · rename_i q hq
   split
   · exact .inl ⟨some (q - 1), fun h => by (rw [hq] at h; cases h), by rw [hu]⟩
   · exact .inr ⟨by rw [hq]; simp, rfl⟩
theorem Brk.of {_D : DK} {K : List Int} {L : List Fl} {D' : DK} (h1 : okD D') (h2 : D'.down = true) (h3 : D'.fails = none) (h4 : D'.files = crashF L K) (hL : ∀ f ∈ L, 0 ≤ f.s ∧ f.s ≤ f.d.size)
 {b t : Nat} {init : List (List BA)} {last : List BA} {s : Int} (H : Torn L b t init last (FB last) s) {j : Nat} (hj : j ≤ last.length) (hjs : 0 < t → ((FB (last.take j)).size : Int) ≤ s) {longer : List BA} {sure : Nat} (hs : sure ≤ init.flatten.length + j) (hp : (init.flatten ++ last) <+: longer) : Brk D' longer sure := by
 obtain ⟨l', h5, h6⟩ := H.crash hL K
 refine ⟨h1, h2, h3, b, t, init, last, l', j, by rw [h4]; exact h5, hj, fun ht => ?_, hs, hp⟩
 have := h6 ht
 have := hjs ht
 omega
theorem Brk.opens {D : DK} {longer : List BA} {sure : Nat} (H : Brk D longer sure) : ∃ D2 W3 D3 l, startD D = (D2, 0) ∧ D2.starts = D.starts + 1 ∧ openD D2 = (D3, 0, W3, l) ∧ D3.starts = D2.starts ∧ Logs W3 D3 l l.length ∧ l <+: longer ∧ sure ≤ l.length ∧ okD D2 ∧ D3.fails = none ∧ D3.most = D.most := by
 obtain ⟨b, t, init, last, l, j, hT, hj, hjl, hs, hp⟩ := H.torn
 have e : startD D = (⟨D.most, D.starts + 1, false, D.files, D.fails, D.keep⟩, 0) := by unfold startD; rw [H.down]; rfl
 have hok2 : okD (⟨D.most, D.starts + 1, false, D.files, D.fails, D.keep⟩ : DK) := by
  have := start_ok H.ok
  rwa [e] at this
 obtain ⟨k, D', hk, hkl0, hmax, ho, hf, hmo, _, hL⟩ := Torn.opens (D := ⟨D.most, D.starts + 1, false, D.files, D.fails, D.keep⟩) hok2 rfl H.fails hT (fun _ => ⟨by omega, Int.le_refl _⟩)
 have hjk := hmax j hj hjl
 have hkl : 0 < t → ((FB (last.take k)).size : Int) ≤ (l.size : Nat) := fun ht => Int.ofNat_le.2 (hkl0 ht)
 refine ⟨_, _, D', _, e, rfl, ho, (hL 0 (Nat.zero_le _) (fun _ => by simp [FB_nil])).st, ⟨init, last.take k, k, hL k (Nat.le_refl _) hkl, rfl, ?_⟩, ?_, ?_, hok2, hf, hmo⟩
 · rw [List.length_append, List.length_take]
   omega
 · refine List.IsPrefix.trans ?_ hp
   exact (List.prefix_append_right_inj _).2 (List.take_prefix _ _)
 · rw [List.length_append, List.length_take]
   omega
theorem Logs.crash {W : WK} {D : DK} {l : List BA} {sure : Nat} (H : Logs W D l sure) (K : List Int) : (crashD D K).2 = 0 ∧ Brk (crashD D K).1 l sure ∧ (crashD D K).1.starts = D.starts := by
 obtain ⟨init, last, j, hL, e, hs⟩ := H
 obtain ⟨s, hT, hjs⟩ := hL.torn
 have ec : crashD D K = (⟨D.most, D.starts, true, crashF D.files K, none, D.keep⟩, 0) := by unfold crashD; rw [hL.up]; rfl
 have hok := crash_ok hL.ok K
 rw [ec] at hok ⊢
 exact ⟨rfl, Brk.of (_D := D) hok rfl rfl rfl hL.ok.sure hT hL.few hjs hs (by rw [e]; exact List.prefix_rfl), rfl⟩
theorem Live.last {W : WK} {D : DK} {init : List (List BA)} {last : List BA} {j : Nat} (H : Live W D init last j) (ht : 0 < W.t) : ∃ s : Int, lk D.files (nmB 115 (W.b + W.t)) = some (FB last, s) ∧ ((FB (last.take j)).size : Int) ≤ s ∧ s ≤ (FB last).size ∧ full D.files (segsM W.b (W.t - 1)) init := by
 obtain ⟨s, hT, hjs⟩ := H.torn
 obtain ⟨h1, h2, _⟩ := hT.more ht
 exact ⟨s, h2, hjs ht, (H.ok.sure _ (lk_mem h2)).2, h1⟩
theorem Live.other {W : WK} {D D' : DK} {init : List (List BA)} {last : List BA} {j : Nat} (H : Live W D init last j) (h1 : okD D') (h2 : D'.down = D.down) (h3 : D'.starts = D.starts) (h4 : D'.files = D.files) : Live W D' init last j :=
 ⟨h1, by rw [h2, H.up], by rw [h3, H.st], H.nb, by rw [h4]; exact H.torn, H.few, by rw [h4]; exact H.bare⟩
theorem Logs.fail {W : WK} {D : DK} {l : List BA} {sure : Nat} (H : Logs W D l sure) (z : Int) (hz : z ≤ 9223372036854775807) (K : List Int) : Logs W (failD D z K).1 l sure ∧ (failD D z K).1.starts = D.starts := by
 obtain ⟨init, last, j, hL, e, hs⟩ := H
 have hok := fail_ok hL.ok z hz K
 have hf : (failD D z K).1.files = D.files ∧ (failD D z K).1.down = D.down ∧ (failD D z K).1.starts = D.starts := by
  unfold failD
  split
  · exact ⟨rfl, rfl, rfl⟩
  · split <;> exact ⟨rfl, rfl, rfl⟩
 exact ⟨⟨init, last, j, hL.other hok hf.2.1 hf.2.2 hf.1, e, hs⟩, hf.2.2⟩
theorem Live.sync {W : WK} {D : DK} {init : List (List BA)} {last : List BA} {j : Nat} (H : Live W D init last j) (ht : 0 < W.t) :
 ((syncD D (nmB 115 (W.b + W.t))).2 = 0 ∧ Live W (syncD D (nmB 115 (W.b + W.t))).1 init last last.length ∧ (∀ x, (lk (syncD D (nmB 115 (W.b + W.t))).1.files x).map (·.1) = (lk D.files x).map (·.1)) ∧ (D.fails = none → (syncD D (nmB 115 (W.b + W.t))).1.fails = none)) ∨
 (D.fails ≠ none ∧ (syncD D (nmB 115 (W.b + W.t))).2 = 41 ∧ Brk (syncD D (nmB 115 (W.b + W.t))).1 (init.flatten ++ last) (init.flatten.length + j)) := by
 obtain ⟨s, hT, hjs⟩ := H.torn
 obtain ⟨s0, hl, _, _, hf⟩ := H.last ht
 have hok := sync_ok H.ok (nmB 115 (W.b + W.t))
 have e : syncD D (nmB 115 (W.b + W.t)) = chg D false (setF D.files (nmB 115 (W.b + W.t)) fun f => ⟨f.n, f.d, (f.d.size : Nat)⟩) := by
  unfold syncD
  rw [H.up, if_neg (by decide), lk_has, hl]
  rfl
 rw [e] at hok ⊢
 have hl2 : ∀ z, lk (setF D.files (nmB 115 (W.b + W.t)) fun f => ⟨f.n, f.d, (f.d.size : Nat)⟩) z = if z = nmB 115 (W.b + W.t) then some (FB last, ((FB last).size : Int)) else lk D.files z := fun z => lk_setF H.ok.rise hl (g := fun f => ⟨f.n, f.d, (f.d.size : Nat)⟩) (fun _ => rfl) z
 rcases chg_cases H.up false (setF D.files (nmB 115 (W.b + W.t)) fun f => ⟨f.n, f.d, (f.d.size : Nat)⟩) with ⟨fl, hfl, ec⟩ | ⟨hfn, ec⟩
 · left
   rw [ec] at hok ⊢
   have hb : ∀ x, lk (setF D.files (nmB 115 (W.b + W.t)) fun f => ⟨f.n, f.d, (f.d.size : Nat)⟩) x ≠ none → x ∈ segsM W.b W.t := fun x hx => by
    rw [hl2] at hx
    split at hx
    · rename_i e
      rw [e, segs_succ ht]
      exact List.mem_append_right _ (List.mem_singleton_self _)
    · exact H.bare x hx
   refine ⟨rfl, ⟨hok, rfl, H.st, H.nb, ⟨((FB last).size : Nat), ?_, fun _ => by rw [List.take_length]; exact Int.le_refl _⟩, Nat.le_refl _, hb⟩, fun x => ?_, hfl⟩
   · refine hT.move hok.rise (fun x _ hne => by rw [hl2, if_neg (hne ht)]) (fun _ => by rw [hl2, if_pos rfl]) (fun x hx => .inl (hb x hx)) hT.smalls.2 (fun _ => ⟨.empty, ba_eq (by rw [ba_app]; simp)⟩) (fun h0 => by omega)
   · simp only
     rw [hl2]
     split
     · rename_i e
       rw [e, hl]
       rfl
     · rfl
 · right
   rw [ec] at hok ⊢
   exact ⟨hfn, rfl, Brk.of (_D := D) hok rfl rfl rfl H.ok.sure hT H.few hjs (Nat.le_refl _) List.prefix_rfl⟩
end Go.Proofs.YtjlfdfmkofbccaaGreatDoor
namespace Go.Proofs.YtjlfdfmkofbccaaGreatDoor
open Go.Sy
def sameD (D D' : DK) : Prop := ∀ x, (lk D'.files x).map (·.1) = (lk D.files x).map (·.1)
theorem FB_add (ps qs : List BA) : FB ps ++ FB qs = FB (ps ++ qs) := (FB_append ps qs).symm
theorem nm_odd {c : UInt8} {n : Nat} (h : n ≤ 9999999999) : oddS (nmB c n) = false := by
 have h1 := nmB_size c n h
 have h2 := nmB_pos c n
 unfold oddS
 simp only [Bool.or_eq_false_iff, decide_eq_false_iff_not]
 omega
theorem Live.put {W : WK} {D : DK} {init : List (List BA)} {last : List BA} {j : Nat} (H : Live W D init last j) (ht : 0 < W.t) {ps : List BA} (hp : small ps) :
 (D.most - sumD D.files < ((FB ps).size : Int) ∧ appD D (nmB 115 (W.b + W.t)) (FB ps) = (D, 40)) ∨
 ((appD D (nmB 115 (W.b + W.t)) (FB ps)).2 = 0 ∧ Live W (appD D (nmB 115 (W.b + W.t)) (FB ps)).1 init (last ++ ps) j ∧ (D.fails = none → (appD D (nmB 115 (W.b + W.t)) (FB ps)).1.fails = none)) ∨
 (D.fails ≠ none ∧ (appD D (nmB 115 (W.b + W.t)) (FB ps)).2 = 41 ∧ Brk (appD D (nmB 115 (W.b + W.t)) (FB ps)).1 (init.flatten ++ last ++ ps) (init.flatten.length + j)) := by
 obtain ⟨s0, hl, hjs, hs0, hf⟩ := H.last ht
 obtain ⟨s, hT, _⟩ := H.torn
 have hfew := H.few
 have hok := app_ok H.ok (nmB 115 (W.b + W.t)) (FB ps)
 have hb9 := H.okW
 unfold Proofs.YtjlfdfmkofbccaaGreatDoor.okW at hb9
 have hodd := nm_odd (c := 115) (n := W.b + W.t) (by omega)
 have hhas : hasF D.files (nmB 115 (W.b + W.t)) = true := by rw [lk_has, hl]; rfl
 by_cases hroom : D.most - sumD D.files < ((FB ps).size : Int)
 · left
   refine ⟨hroom, ?_⟩
   unfold appD
   rw [H.up, if_neg (by decide), hodd, if_neg (by decide), if_pos (.inr hroom)]
 · right
   have e : appD D (nmB 115 (W.b + W.t)) (FB ps) = chg D true (appF D.files (nmB 115 (W.b + W.t)) (FB ps)) := by
    unfold appD
    rw [H.up, if_neg (by decide), hodd, if_neg (by decide), if_neg]
    rintro (⟨h1, _⟩ | h1)
    · rw [hhas] at h1
      cases h1
    · exact hroom h1
   rw [e] at hok ⊢
   obtain ⟨L2, hL2⟩ : ∃ L2, L2 = appF D.files (nmB 115 (W.b + W.t)) (FB ps) := ⟨_, rfl⟩
   have hl2 : ∀ z, lk L2 z = if z = nmB 115 (W.b + W.t) then some (FB (last ++ ps), s0) else lk D.files z := fun z => by
    rw [hL2, lk_app H.ok.rise, hl]
    simp only [FB_add]
   have hrise : riseF L2 := by
    rw [hL2]
    unfold appF
    rw [if_pos hhas]
    exact riseF_names (setF_names fun _ => rfl) H.ok.rise
   have hsure : ∀ f ∈ L2, 0 ≤ f.s ∧ f.s ≤ f.d.size := fun f hf => by
    have h1 := lk_of hrise hf
    rw [hl2] at h1
    split at h1
    · rename_i en
      have h2 := H.ok.sure _ (lk_mem hl)
      simp only [Option.some.injEq, Prod.mk.injEq] at h1
      rw [← h1.1, ← h1.2, FB_size_append]
      simp only at h2
      omega
    · exact H.ok.sure _ (lk_mem h1)
   have hb : ∀ x, lk L2 x ≠ none → x ∈ segsM W.b W.t := fun x hx => by
    rw [hl2] at hx
    split at hx
    · rename_i e
      rw [e, segs_succ ht]
      exact List.mem_append_right _ (List.mem_singleton_self _)
    · exact H.bare x hx
   have hT2 : Torn L2 W.b W.t init (last ++ ps) (FB (last ++ ps)) s0 := by
    refine hT.move hrise (fun x _ hne => by rw [hl2, if_neg (hne ht)]) (fun _ => by rw [hl2, if_pos rfl]) (fun x hx => .inl (hb x hx)) (fun p hp2 => ?_) (fun _ => ⟨.empty, ba_eq (by rw [ba_app]; simp)⟩) (fun h0 => by omega)
    rcases List.mem_append.1 hp2 with h | h
    · exact hT.smalls.2 p h
    · exact hp p h
   have hjs2 : 0 < W.t → ((FB ((last ++ ps).take j)).size : Int) ≤ s0 := fun _ => by
    rw [List.take_append_of_le_length H.few]
    exact hjs
   have hjl : j ≤ (last ++ ps).length := by rw [List.length_append]; omega
   rw [← hL2] at hok ⊢
   rcases chg_cases H.up true L2 with ⟨fl, hfl, ec⟩ | ⟨hfn, ec⟩
   · left
     rw [ec] at hok ⊢
     exact ⟨rfl, ⟨hok, rfl, H.st, H.nb, ⟨s0, hT2, hjs2⟩, hjl, hb⟩, hfl⟩
   · right
     rw [ec] at hok ⊢
     refine ⟨hfn, rfl, Brk.of (_D := D) hok rfl rfl rfl hsure hT2 hjl hjs2 (Nat.le_refl _) (by rw [List.append_assoc]; exact List.prefix_rfl)⟩
structure Whole (W : WK) (D : DK) (Ps : List (List BA)) : Prop where
 ok : okD D
 up : D.down = false
 st : D.starts = W.s
 nb : W.bad = false
 lay : Bare (namesD D) W.b W.t
 smalls : ∀ ps ∈ Ps, small ps
 full : Proofs.YtjlfdfmkofbccaaGreatDoor.full D.files (segsM W.b W.t) Ps
theorem Live.whole {W : WK} {D : DK} {init : List (List BA)} {last : List BA} (H : Live W D init last last.length) : ∃ Ps, Whole W D Ps ∧ Ps.flatten = init.flatten ++ last := by
 obtain ⟨s, hT, hjs⟩ := H.torn
 rcases Nat.eq_zero_or_pos W.t with h0 | h0
 · obtain ⟨h1, h2⟩ := hT.zero h0
   exact ⟨init, ⟨H.ok, H.up, H.st, H.nb, H.names, hT.smalls.1, by rw [h0]; exact h1⟩, by rw [h2, List.append_nil]⟩
 · obtain ⟨s0, hl, hj, hs0, hf⟩ := H.last h0
   rw [List.take_length] at hj
   obtain rfl : s0 = ((FB last).size : Int) := by omega
   refine ⟨init ++ [last], ⟨H.ok, H.up, H.st, H.nb, H.names, fun ps hps => ?_, ?_⟩, by simp⟩
   · rcases List.mem_append.1 hps with h | h
     · exact hT.smalls.1 ps h
     · rw [List.mem_singleton.1 h]; exact hT.smalls.2
   · unfold full at hf ⊢
     rw [segs_succ h0, List.map_append, List.map_append, hf]
     simp [hl]
theorem Whole.next {W : WK} {D : DK} {Ps : List (List BA)} (H : Whole W D Ps) {ps : List BA} (hp : small ps) (h9 : W.b + W.t < 999999999) (h15 : D.files.length < 15) :
 (D.most - sumD D.files < ((FB ps).size : Int) ∧ appD D (nmB 115 (W.b + W.t + 1)) (FB ps) = (D, 40)) ∨
 ((appD D (nmB 115 (W.b + W.t + 1)) (FB ps)).2 = 0 ∧ Live ⟨W.s, W.bad, W.b, W.t + 1⟩ (appD D (nmB 115 (W.b + W.t + 1)) (FB ps)).1 Ps ps 0 ∧ (D.fails = none → (appD D (nmB 115 (W.b + W.t + 1)) (FB ps)).1.fails = none)) ∨
 (D.fails ≠ none ∧ (appD D (nmB 115 (W.b + W.t + 1)) (FB ps)).2 = 41 ∧ Brk (appD D (nmB 115 (W.b + W.t + 1)) (FB ps)).1 (Ps.flatten ++ ps) Ps.flatten.length) := by
 have hok := app_ok H.ok (nmB 115 (W.b + W.t + 1)) (FB ps)
 have hodd := nm_odd (c := 115) (n := W.b + W.t + 1) (by omega)
 have hss : segsM W.b (W.t + 1) = segsM W.b W.t ++ [nmB 115 (W.b + W.t + 1)] := segs_succ (b := W.b) (t := W.t + 1) (by omega)
 have hnew : nmB 115 (W.b + W.t + 1) ∉ segsM W.b W.t := fun hx => by
  have := segs_nodup W.b (W.t + 1)
  rw [hss, List.nodup_append] at this
  exact this.2.2 _ hx _ (List.mem_singleton_self _) rfl
 have hno : lk D.files (nmB 115 (W.b + W.t + 1)) = none := by
  cases h : lk D.files (nmB 115 (W.b + W.t + 1)) with
  | none => rfl
  | some v => exact absurd ((H.lay.2 _).1 (mem_names.2 (by rw [h]; simp))) hnew
 have hhas : hasF D.files (nmB 115 (W.b + W.t + 1)) = false := by rw [lk_has, hno]; rfl
 have hlen : (segsM W.b W.t).length = D.files.length := by
  have h2 := ((List.perm_ext_iff_of_nodup (rise_nodup H.ok.rise) (segs_nodup W.b W.t)).2 H.lay.2).length_eq
  rw [List.length_map] at h2
  exact h2.symm
 by_cases hroom : D.most - sumD D.files < ((FB ps).size : Int)
 · left
   refine ⟨hroom, ?_⟩
   unfold appD
   rw [H.up, if_neg (by decide), hodd, if_neg (by decide), if_pos (.inr hroom)]
 · right
   have e : appD D (nmB 115 (W.b + W.t + 1)) (FB ps) = chg D true (appF D.files (nmB 115 (W.b + W.t + 1)) (FB ps)) := by
    unfold appD
    rw [H.up, if_neg (by decide), hodd, if_neg (by decide), if_neg]
    rintro (⟨_, h1⟩ | h1)
    · omega
    · exact hroom h1
   rw [e] at hok ⊢
   obtain ⟨L2, hL2⟩ : ∃ L2, L2 = appF D.files (nmB 115 (W.b + W.t + 1)) (FB ps) := ⟨_, rfl⟩
   have hl2 : ∀ z, lk L2 z = if z = nmB 115 (W.b + W.t + 1) then some (FB ps, 0) else lk D.files z := fun z => by
    rw [hL2, lk_app H.ok.rise, hno]
   have hrise : riseF L2 := by
    rw [hL2]
    unfold appF
    rw [if_neg (by rw [hhas]; decide)]
    exact riseF_ins H.ok.rise hhas
   have hsure : ∀ f ∈ L2, 0 ≤ f.s ∧ f.s ≤ f.d.size := fun f hf => by
    have h1 := lk_of hrise hf
    rw [hl2] at h1
    split at h1
    · simp only [Option.some.injEq, Prod.mk.injEq] at h1
      rw [← h1.2]
      exact ⟨Int.le_refl _, Int.natCast_nonneg _⟩
    · exact H.ok.sure _ (lk_mem h1)
   have hb : ∀ x, lk L2 x ≠ none → x ∈ segsM W.b (W.t + 1) := fun x hx => by
    rw [hss]
    rw [hl2] at hx
    split at hx
    · rename_i e
      rw [e]
      exact List.mem_append_right _ (List.mem_singleton_self _)
    · exact List.mem_append_left _ ((H.lay.2 x).1 (mem_names.2 hx))
   have hold : ∀ x ∈ segsM W.b W.t, lk L2 x = lk D.files x := fun x hx => by
    rw [hl2, if_neg (fun e => hnew (by rw [← e]; exact hx))]
   have hT2 : Torn L2 W.b (W.t + 1) Ps ps (FB ps) 0 := by
    refine ⟨hrise, ⟨by omega, fun x hx => mem_names.2 ?_, fun x hx => .inl (hb x (mem_names.1 hx))⟩, by rw [hss, List.length_append]; simp only [List.length_singleton]; omega, ⟨H.smalls, hp⟩, fun q => by omega, fun _ => ⟨?_, ?_, .empty, ba_eq (by rw [ba_app]; simp)⟩⟩
    · rw [hss] at hx
      rcases List.mem_append.1 hx with hx | hx
      · rw [hold x hx]
        exact mem_names.1 ((H.lay.2 x).2 hx)
      · rw [List.mem_singleton.1 hx, hl2, if_pos rfl]
        simp
    · exact full_congr hold H.full
    · show lk L2 (nmB 115 (W.b + W.t + 1)) = _
      rw [hl2, if_pos rfl]
   have hjs2 : 0 < W.t + 1 → ((FB (ps.take 0)).size : Int) ≤ 0 := fun _ => by
    rw [List.take_zero, FB_nil]
    exact Int.le_refl _
   rw [← hL2] at hok ⊢
   rcases chg_cases H.up true L2 with ⟨fl, hfl, ec⟩ | ⟨hfn, ec⟩
   · left
     rw [ec] at hok ⊢
     exact ⟨rfl, ⟨hok, rfl, H.st, H.nb, ⟨0, hT2, hjs2⟩, Nat.zero_le _, hb⟩, hfl⟩
   · right
     rw [ec] at hok ⊢
     exact ⟨hfn, rfl, Brk.of (_D := D) hok rfl rfl rfl hsure hT2 (Nat.zero_le _) hjs2 (Nat.le_refl _) List.prefix_rfl⟩
end Go.Proofs.YtjlfdfmkofbccaaGreatDoor
namespace Go.Proofs.YtjlfdfmkofbccaaGreatDoor
open Go.Sy
theorem bad40 (b : Bool) : (b || badE 40) = b := by simp [badE]
theorem sameD.refl (D : DK) : sameD D D := fun _ => rfl
theorem Logs.app {W : WK} {D : DK} {l : List BA} {sure : Nat} (H : Logs W D l sure) (ps : List BA) :
 ((appW W D ps).2.2 = 0 ∧ small ps ∧ Logs (appW W D ps).1 (appW W D ps).2.1 (l ++ ps) sure ∧ (D.fails = none → (appW W D ps).2.1.fails = none)) ∨
 (((appW W D ps).2.2 = 3 ∧ ¬ small ps ∨ (appW W D ps).2.2 = 40) ∧ (appW W D ps).1 = W ∧ Logs W (appW W D ps).2.1 l sure ∧ sameD D (appW W D ps).2.1 ∧ (D.fails = none → (appW W D ps).2.1.fails = none)) ∨
 (D.fails ≠ none ∧ (appW W D ps).2.2 = 41 ∧ Brk (appW W D ps).2.1 (l ++ ps) sure) := by
 obtain ⟨init, last, j, hL, hl, hs⟩ := H
 subst hl
 have hask := hL.ask
 by_cases hf : (framedM ps).2 = 0
 · obtain ⟨hsm, hFB⟩ := framed_ok hf
   by_cases hn : ps = []
   · subst hn
     rw [appW_none hask]
     exact .inl ⟨rfl, hsm, ⟨init, last, j, hL, by rw [List.append_nil], hs⟩, fun h => h⟩
   · rw [appW_some hask hf hn, hFB]
     dsimp only
     have hWe : ∀ e : Int, e = 0 ∨ e = 40 → (⟨W.s, W.bad || badE e, W.b, W.t⟩ : WK) = W := fun e he => by
      rcases he with rfl | rfl
      · rw [bad_zero]
      · rw [bad40]
     have next : ∀ (D1 : DK) (Ps : List (List BA)), Whole W D1 Ps → Ps.flatten = init.flatten ++ last → sure ≤ Ps.flatten.length → (sameD D D1) → Logs W D1 (init.flatten ++ last) sure → (D.fails = none → D1.fails = none) →
      let R := if 15 ≤ D1.files.length ∨ 999999999 ≤ W.b + W.t then (W, D1, 40) else
       (⟨W.s, W.bad || badE (appD D1 (nmB 115 (W.b + W.t + 1)) (FB ps)).2, W.b, if (appD D1 (nmB 115 (W.b + W.t + 1)) (FB ps)).2 = 0 then W.t + 1 else W.t⟩, (appD D1 (nmB 115 (W.b + W.t + 1)) (FB ps)).1, (appD D1 (nmB 115 (W.b + W.t + 1)) (FB ps)).2)
      (R.2.2 = 0 ∧ small ps ∧ Logs R.1 R.2.1 (init.flatten ++ last ++ ps) sure ∧ (D.fails = none → R.2.1.fails = none)) ∨ ((R.2.2 = 3 ∧ ¬ small ps ∨ R.2.2 = 40) ∧ R.1 = W ∧ Logs W R.2.1 (init.flatten ++ last) sure ∧ sameD D R.2.1 ∧ (D.fails = none → R.2.1.fails = none)) ∨ (D.fails ≠ none ∧ R.2.2 = 41 ∧ Brk R.2.1 (init.flatten ++ last ++ ps) sure) := by
      intro D1 Ps hw hfl hsu hsame hlog hca
      by_cases hful : 15 ≤ D1.files.length ∨ 999999999 ≤ W.b + W.t
      · rw [if_pos hful]
        exact .inr (.inl ⟨.inr rfl, rfl, hlog, hsame, hca⟩)
      · rw [if_neg hful]
        rcases hw.next hsm (by omega) (by omega) with ⟨_, h⟩ | ⟨h1, h2, h3⟩ | ⟨h0, h1, h2⟩
        · rw [h]
          exact .inr (.inl ⟨.inr rfl, by simp only; rw [if_neg (by decide), bad40], hlog, hsame, hca⟩)
        · refine .inl ⟨h1, hsm, ⟨Ps, ps, 0, ?_, by rw [hfl], by omega⟩, fun q => h3 (hca q)⟩
          simp only
          rw [h1, bad_zero, if_pos rfl]
          exact h2
        · refine .inr (.inr ⟨fun q => h0 (hca q), h1, ?_⟩)
          simp only
          rw [hfl] at h2 hsu
          obtain ⟨a1, a2, a3, b, t, i, la, lb, j2, a4, a5, a6, a7, a8⟩ := h2
          exact ⟨a1, a2, a3, b, t, i, la, lb, j2, a4, a5, a6, by omega, a8⟩
     by_cases ht : 0 < W.t
     · by_cases hz : (readD D (nmB 115 (W.b + W.t))).1.size < 16384
       · rw [if_pos ⟨ht, hz⟩]
         rcases hL.put ht hsm with ⟨_, h⟩ | ⟨h1, h2, h3⟩ | ⟨h0, h1, h2⟩
         · rw [h]
           exact .inr (.inl ⟨.inr rfl, hWe 40 (.inr rfl), ⟨init, last, j, hL, rfl, hs⟩, sameD.refl D, fun h => h⟩)
         · refine .inl ⟨h1, hsm, ⟨init, last ++ ps, j, ?_, by rw [List.append_assoc], hs⟩, h3⟩
           simp only
           rw [h1, hWe 0 (.inl rfl)]
           exact h2
         · obtain ⟨a1, a2, a3, b, t, i, la, lb, j2, a4, a5, a6, a7, a8⟩ := h2
           exact .inr (.inr ⟨h0, h1, a1, a2, a3, b, t, i, la, lb, j2, a4, a5, a6, by omega, a8⟩)
       · rw [if_neg (fun q => hz q.2), if_pos ht]
         rcases hL.sync ht with ⟨h1, h2, h3, h4⟩ | ⟨h0, h1, h2⟩
         · rw [if_neg (by simpa using h1)]
           obtain ⟨Ps, hw, hfl⟩ := h2.whole
           have hll := hL.few
           have hfl2 := congrArg List.length hfl
           rw [List.length_append] at hfl2
           exact next _ Ps hw hfl (by omega) h3 ⟨init, last, last.length, h2, rfl, by omega⟩ h4
         · rw [if_pos (by rw [h1]; decide)]
           refine .inr (.inr ⟨h0, h1, ?_⟩)
           obtain ⟨a1, a2, a3, b, t, i, la, lb, j2, a4, a5, a6, a7, a8⟩ := h2
           exact ⟨a1, a2, a3, b, t, i, la, lb, j2, a4, a5, a6, by omega, a8.trans (List.prefix_append _ _)⟩
     · have h0 : W.t = 0 := by omega
       rw [if_neg (fun q => ht q.1), if_neg ht]
       rw [if_neg (by simp)]
       obtain ⟨s, hT, _⟩ := hL.torn
       obtain ⟨hfu, hla⟩ := hT.zero h0
       subst hla
       have hj0 : j = 0 := Nat.le_zero.1 hL.few
       refine next D init ⟨hL.ok, hL.up, hL.st, hL.nb, hL.names, hT.smalls.1, by rw [h0]; exact hfu⟩ (by rw [List.append_nil]) (by omega) (sameD.refl D) ⟨init, [], j, hL, rfl, hs⟩ fun h => h
 · rw [appW_long hask hf]
   refine .inr (.inl ⟨.inl ⟨framed_err hf, fun q => hf (by rw [framed_small q])⟩, rfl, ⟨init, last, j, hL, rfl, hs⟩, sameD.refl D, fun h => h⟩)
theorem Logs.sync {W : WK} {D : DK} {l : List BA} {sure : Nat} (H : Logs W D l sure) :
 ((syncW W D).2.2 = 0 ∧ (syncW W D).1 = W ∧ Logs W (syncW W D).2.1 l l.length ∧ sameD D (syncW W D).2.1 ∧ (D.fails = none → (syncW W D).2.1.fails = none)) ∨ (D.fails ≠ none ∧ (syncW W D).2.2 = 41 ∧ Brk (syncW W D).2.1 l sure) := by
 obtain ⟨init, last, j, hL, hl, hs⟩ := H
 subst hl
 unfold syncW
 rw [hL.ask, if_neg (by decide)]
 by_cases ht : W.t = 0
 · rw [if_pos ht]
   obtain ⟨s, hT, _⟩ := hL.torn
   obtain ⟨_, hla⟩ := hT.zero ht
   subst hla
   exact .inl ⟨rfl, rfl, ⟨init, [], j, hL, rfl, by rw [List.append_nil]; omega⟩, sameD.refl D, fun h => h⟩
 · rw [if_neg ht]
   rcases hL.sync (by omega) with ⟨h1, h2, h3, h4⟩ | ⟨h0, h1, h2⟩
   · refine .inl ⟨h1, ?_, ⟨init, last, last.length, h2, rfl, by rw [List.length_append]; omega⟩, h3, h4⟩
     simp only
     rw [h1, bad_zero]
   · refine .inr ⟨h0, h1, ?_⟩
     obtain ⟨a1, a2, a3, b, t, i, la, lb, j2, a4, a5, a6, a7, a8⟩ := h2
     exact ⟨a1, a2, a3, b, t, i, la, lb, j2, a4, a5, a6, by omega, a8⟩
theorem rem_torn {b t : Nat} {init : List (List BA)} {last : List BA} {s : Int} : ∀ {S : List BA} {D : DK}, okD D → D.down = false → Torn D.files b t init last (FB last) s → S.Nodup → (∀ x ∈ S, staleB b x = true ∧ ∃ v, lk D.files x = some v) →
 ((runD (remL S) D).2 = 0 ∧ okD (runD (remL S) D).1 ∧ (runD (remL S) D).1.down = false ∧ (runD (remL S) D).1.starts = D.starts ∧ Torn (runD (remL S) D).1.files b t init last (FB last) s ∧ (∀ z, lk (runD (remL S) D).1.files z = if memB S z then none else lk D.files z) ∧ (D.fails = none → (runD (remL S) D).1.fails = none) ∧ (runD (remL S) D).1.most = D.most) ∨
 (D.fails ≠ none ∧ (runD (remL S) D).2 = 41 ∧ okD (runD (remL S) D).1 ∧ (runD (remL S) D).1.down = true ∧ (runD (remL S) D).1.fails = none ∧ ∃ L K, (runD (remL S) D).1.files = crashF L K ∧ (∀ f ∈ L, 0 ≤ f.s ∧ f.s ≤ f.d.size) ∧ Torn L b t init last (FB last) s)
 | [], D, h1, h2, h3, _, _ => .inl ⟨rfl, h1, h2, rfl, h3, fun z => rfl, fun h => h, rfl⟩
 |
  x :: S, D, h1, h2, h3, h4, h5 => by
  obtain ⟨hst, v, hv⟩ := h5 x List.mem_cons_self
  obtain ⟨n1, n2⟩ := List.nodup_cons.1 h4
  have hl : ∀ z, lk (D.files.eraseIdx (posF D.files x)) z = if z = x then none else lk D.files z := lk_erase h1.rise hv
  have hok := rem_ok h1 x
  have e : remD D x = chg D false (D.files.eraseIdx (posF D.files x)) := by
   unfold remD
   rw [h2, if_neg (by decide), lk_has, hv]
   rfl
  have er : runD (remL (x :: S)) D = if (remD D x).2 = 0 then runD (remL S) (remD D x).1 else remD D x := rfl
  rw [er]
  rw [e] at hok ⊢
  rcases chg_cases h2 false (D.files.eraseIdx (posF D.files x)) with ⟨fl, hfl, ec⟩ | ⟨hfn, ec⟩
  · rw [ec] at hok ⊢
    rw [if_pos rfl]
    have hne : ∀ y ∈ segsM b t, y ≠ x := fun y hy q => by
     have := seg_fresh h3.lay.few hy
     rw [q, hst] at this
     cases this
    have hT2 : Torn (D.files.eraseIdx (posF D.files x)) b t init last (FB last) s := by
     refine h3.move (rise_erase h1.rise _) (fun y hy _ => by rw [hl, if_neg (hne y hy)]) (fun ht => ?_) (fun y hy => ?_) h3.smalls.2 (fun _ => ⟨.empty, ba_eq (by rw [ba_app]; simp)⟩) (fun h0 => (h3.zero h0).2)
     · rw [hl, if_neg (hne _ (by rw [segs_succ ht]; exact List.mem_append_right _ (List.mem_singleton_self _)))]
       exact (h3.more ht).2.1
     · rw [hl] at hy
       split at hy
       · exact absurd rfl hy
       · exact h3.lay.all y (mem_names.2 hy)
    have hrest := rem_torn (S := S) (D := ⟨D.most, D.starts, false, D.files.eraseIdx (posF D.files x), fl, D.keep⟩) hok rfl hT2 n2 (fun y hy => by
     obtain ⟨q1, w, q2⟩ := h5 y (List.mem_cons_of_mem _ hy)
     exact ⟨q1, w, by rw [hl, if_neg (fun q => n1 (by rw [← q]; exact hy))]; exact q2⟩)
    rcases hrest with ⟨a1, a2, a3, a4, a5, a6, a7, a8⟩ | ⟨h0, h⟩
    · refine .inl ⟨a1, a2, a3, a4, a5, fun z => ?_, fun q => a7 (hfl q), a8⟩
      rw [a6, hl]
      have em : memB (x :: S) z = (decide (x = z) || memB S z) := rfl
      rw [em]
      by_cases hx : z = x
      · rw [if_pos hx, decide_eq_true hx.symm]
        simp
      · rw [if_neg hx, decide_eq_false (fun q => hx q.symm), Bool.false_or]
    · exact .inr ⟨fun q => h0 (hfl q), h⟩
  · rw [ec] at hok ⊢
    rw [if_neg (by simp)]
    exact .inr ⟨hfn, rfl, hok, rfl, rfl, D.files, D.keep, rfl, h1.sure, h3⟩
end Go.Proofs.YtjlfdfmkofbccaaGreatDoor
namespace Go.Proofs.YtjlfdfmkofbccaaGreatDoor
open Go.Sy
theorem tB_seg {b t : Nat} : tB ∉ segsM b t := fun h => by
 rcases segs_mem.1 h with ⟨_, e⟩ | ⟨i, _, e⟩
 · have := congrArg (fun x => x.data.toList) e
   rw [nmB_list] at this
   simp [tB] at this
 · have := congrArg (fun x => x.data.toList) e
   rw [nmB_list] at this
   simp [tB] at this
theorem tB_stale (b : Nat) : staleB b tB = true := stale_iff.2 (.inl rfl)
theorem tB_odd : oddS tB = false := by decide
theorem Torn.draft {L L' : List Fl} {b t : Nat} {init : List (List BA)} {last : List BA} {s : Int} (H : Torn L b t init last (FB last) s) (hr : riseF L') (h : ∀ z, z ≠ tB → lk L' z = lk L z) : Torn L' b t init last (FB last) s := by
 have hne : ∀ y ∈ segsM b t, y ≠ tB := fun y hy q => tB_seg (by rw [← q]; exact hy)
 refine H.move hr (fun y hy _ => h y (hne y hy)) (fun ht => ?_) (fun y hy => ?_) H.smalls.2 (fun _ => ⟨.empty, ba_eq (by rw [ba_app]; simp)⟩) (fun h0 => (H.zero h0).2)
 · rw [h _ (hne _ (by rw [segs_succ ht]; exact List.mem_append_right _ (List.mem_singleton_self _)))]
   exact (H.more ht).2.1
 · by_cases e : y = tB
   · rw [e]
     exact .inr (tB_stale b)
   · rw [h y e] at hy
     exact H.lay.all y (mem_names.2 hy)
theorem app_rise {D : DK} (h : okD D) (x y : BA) (_hx : oddS x = false) : riseF (appF D.files x y) := by
 unfold appF
 split
 · exact riseF_names (setF_names fun _ => rfl) h.rise
 · rename_i hh
   exact riseF_ins h.rise (by simpa using hh)
theorem app_sure {D : DK} (h : okD D) (x y : BA) (hx : oddS x = false) : ∀ f ∈ appF D.files x y, 0 ≤ f.s ∧ f.s ≤ f.d.size := fun f hf => by
 have h1 := lk_of (app_rise h x y hx) hf
 rw [lk_app h.rise] at h1
 split at h1
 · cases hl : lk D.files x with
   |
    none =>
    rw [hl] at h1
    simp only [Option.some.injEq, Prod.mk.injEq] at h1
    rw [← h1.2]
    exact ⟨Int.le_refl _, Int.natCast_nonneg _⟩
   |
    some v =>
    rw [hl] at h1
    have h2 := h.sure _ (lk_mem hl)
    simp only [Option.some.injEq, Prod.mk.injEq] at h1
    rw [← h1.1, ← h1.2, ByteArray.size_append]
    simp only at h2
    omega
 · exact h.sure _ (lk_mem h1)
theorem Torn.anew {L L' : List Fl} {b t n : Nat} {init : List (List BA)} {last : List BA} {s : Int} {ps : List BA} (H : Torn L b t init last (FB last) s) (hn : b + t < n) (hn9 : n ≤ 999999999) (hr : riseF L') (hp : small ps)
 (hc : lk L' (nmB 99 n) = some (FB ps, ((FB ps).size : Int))) (hall : ∀ z, lk L' z ≠ none → z = nmB 99 n ∨ lk L z ≠ none) : Torn L' n 0 [ps] [] (FB []) 0 := by
 have hs0 : segsM n 0 = [nmB 99 n] := by unfold segsM; rw [if_pos (by omega)]; rfl
 refine ⟨hr, ⟨by omega, fun x hx => mem_names.2 ?_, fun x hx => ?_⟩, by rw [hs0]; simp, ⟨fun q hq => by rw [List.mem_singleton.1 hq]; exact hp, fun p h => by cases h⟩, fun _ => ⟨?_, rfl⟩, fun q => absurd q (by decide)⟩
 · rw [hs0] at hx
   rw [List.mem_singleton.1 hx, hc]
   simp
 · rcases hall x (mem_names.1 hx) with h | h
   · rw [hs0, h]
     exact .inl (List.mem_singleton_self _)
   · right
     rcases H.lay.all x (mem_names.2 h) with h2 | h2
     · exact stale_old hn hn9 h2
     · rcases stale_iff.1 h2 with h3 | h3 | h3
       · exact stale_iff.2 (.inl h3)
       · exact stale_iff.2 (.inr (.inl (by omega)))
       · exact stale_iff.2 (.inr (.inr (by omega)))
 · unfold full
   rw [hs0]
   simp [hc]
theorem Live.ck {W : WK} {D : DK} {init : List (List BA)} {last : List BA} {j : Nat} (hL : Live W D init last j) {sure : Nat} (hs : sure ≤ init.flatten.length + j) (ps : List BA) :
 ((ckW W D ps).2.2 = 0 ∧ small ps ∧ (ckW W D ps).1 = ⟨W.s, W.bad, W.b + W.t + 1, 0⟩ ∧ Live (ckW W D ps).1 (ckW W D ps).2.1 [ps] [] 0 ∧ (D.fails = none → (ckW W D ps).2.1.fails = none) ∧ (ckW W D ps).2.1.most = D.most) ∨
 (((ckW W D ps).2.2 = 3 ∧ ¬ small ps ∨ (ckW W D ps).2.2 = 40 ∧ (999999999 ≤ W.b + W.t ∨ D.most - sumD D.files < ((FB ps).size : Int))) ∧ (ckW W D ps).1 = W ∧ (ckW W D ps).2.1 = D) ∨
 (D.fails ≠ none ∧ (ckW W D ps).2.2 = 41 ∧ (Brk (ckW W D ps).2.1 (init.flatten ++ last) sure ∨ Brk (ckW W D ps).2.1 ps ps.length)) := by
 obtain ⟨s, hT, hjs⟩ := hL.torn
 unfold ckW
 rw [hL.ask, if_neg (by decide)]
 by_cases hf : (framedM ps).2 = 0
 · obtain ⟨hsm, hFB⟩ := framed_ok hf
   rw [if_neg (by simpa using hf), hFB]
   by_cases h99 : 999999999 ≤ W.b + W.t
   · rw [if_pos h99]
     exact .inr (.inl ⟨.inr ⟨rfl, .inl h99⟩, rfl, rfl⟩)
   · rw [if_neg h99]
     dsimp only
     have h15 : D.files.length ≤ 15 := by
      have h1 := hL.len
      have h2 := hT.few
      omega
     have hno : lk D.files tB = none := by
      cases h : lk D.files tB with
      | none => rfl
      | some v => exact absurd (hL.bare tB (by rw [h]; simp)) tB_seg
     have brk : ∀ {D' : DK} {L : List Fl} {K : List Int}, okD D' → D'.down = true → D'.fails = none → D'.files = crashF L K → (∀ f ∈ L, 0 ≤ f.s ∧ f.s ≤ f.d.size) → Torn L W.b W.t init last (FB last) s → Brk D' (init.flatten ++ last) sure := fun h1 h2 h3 h4 h5 h6 =>
      Brk.of (_D := D) h1 h2 h3 h4 h5 h6 hL.few hjs hs List.prefix_rfl
     by_cases hroom : D.most - sumD D.files < ((FB ps).size : Int)
     · have e : appD D tB (FB ps) = (D, 40) := by
        unfold appD
        rw [hL.up, if_neg (by decide), tB_odd, if_neg (by decide), if_pos (.inr hroom)]
       have er : runD (ckL3 (FB ps) (W.b + W.t + 1)) D = (D, 40) := by
        show (if (appD D tB (FB ps)).2 = 0 then _ else appD D tB (FB ps)) = _
        rw [e, if_neg (by simp)]
       rw [er, if_pos (by simp)]
       exact .inr (.inl ⟨.inr ⟨rfl, .inr hroom⟩, by simp only; rw [bad40], rfl⟩)
     · have e : appD D tB (FB ps) = chg D true (appF D.files tB (FB ps)) := by
        unfold appD
        rw [hL.up, if_neg (by decide), tB_odd, if_neg (by decide), if_neg]
        rintro (⟨_, h1⟩ | h1)
        · omega
        · exact hroom h1
       have hok1 := app_ok hL.ok tB (FB ps)
       obtain ⟨L1, hL1⟩ : ∃ L1, L1 = appF D.files tB (FB ps) := ⟨_, rfl⟩
       have hl1 : ∀ z, lk L1 z = if z = tB then some (FB ps, 0) else lk D.files z := fun z => by rw [hL1, lk_app hL.ok.rise, hno]
       have hr1 : riseF L1 := by rw [hL1]; exact app_rise hL.ok _ _ tB_odd
       have hs1 : ∀ f ∈ L1, 0 ≤ f.s ∧ f.s ≤ f.d.size := by rw [hL1]; exact app_sure hL.ok _ _ tB_odd
       have hT1 : Torn L1 W.b W.t init last (FB last) s := hT.draft hr1 fun z hz => by rw [hl1, if_neg hz]
       rw [← hL1] at e
       rw [e] at hok1
       rcases chg_cases hL.up true L1 with ⟨fl, hfl, ec⟩ | ⟨hfn, ec⟩
       rotate_left
       · have er : runD (ckL3 (FB ps) (W.b + W.t + 1)) D = chg D true L1 := by
          show (if (appD D tB (FB ps)).2 = 0 then _ else appD D tB (FB ps)) = _
          rw [e, ec, if_neg (by simp)]
         rw [er]
         rw [ec] at hok1 ⊢
         rw [if_pos (by simp)]
         exact .inr (.inr ⟨hfn, rfl, .inl (brk hok1 rfl rfl rfl hs1 hT1)⟩)
       · obtain ⟨D1, hD1⟩ : ∃ D1 : DK, D1 = ⟨D.most, D.starts, false, L1, fl, D.keep⟩ := ⟨_, rfl⟩
         rw [← hD1] at ec
         rw [ec] at hok1
         replace hok1 : okD D1 := hok1
         have hf1 : D1.files = L1 := by rw [hD1]
         have hu1 : D1.down = false := by rw [hD1]
         have hst1 : D1.starts = D.starts := by rw [hD1]
         have er1 : runD (ckL3 (FB ps) (W.b + W.t + 1)) D = runD [fun D => syncD D tB, fun D => renD D tB (nmB 99 (W.b + W.t + 1))] D1 := by
          unfold ckL3
          rw [runD]
          simp only [e, ec, if_true]
         rw [er1]
         have hlt1 : lk D1.files tB = some (FB ps, 0) := by rw [hf1, hl1, if_pos rfl]
         have e2 : syncD D1 tB = chg D1 false (setF D1.files tB fun f => ⟨f.n, f.d, (f.d.size : Nat)⟩) := by
          unfold syncD
          rw [hu1, if_neg (by decide), lk_has, hlt1]
          rfl
         have hok2 := sync_ok hok1 tB
         obtain ⟨L2, hL2⟩ : ∃ L2, L2 = setF D1.files tB fun f => ⟨f.n, f.d, (f.d.size : Nat)⟩ := ⟨_, rfl⟩
         have hl2 : ∀ z, lk L2 z = if z = tB then some (FB ps, ((FB ps).size : Int)) else lk L1 z := fun z => by
          rw [hL2, lk_setF hok1.rise hlt1 (g := fun f => ⟨f.n, f.d, (f.d.size : Nat)⟩) (fun _ => rfl), hf1]
         have hr2 : riseF L2 := by rw [hL2]; exact riseF_names (setF_names fun _ => rfl) hok1.rise
         have hT2 : Torn L2 W.b W.t init last (FB last) s := hT1.draft hr2 fun z hz => by rw [hl2, if_neg hz]
         rw [← hL2] at e2
         rw [e2] at hok2
         rcases chg_cases hu1 false L2 with ⟨fl2, hfl2, ec2⟩ | ⟨hfn, ec2⟩
         rotate_left
         · have er : runD [fun D => syncD D tB, fun D => renD D tB (nmB 99 (W.b + W.t + 1))] D1 = chg D1 false L2 := by
            rw [runD]
            simp only [e2, ec2]
            rw [if_neg (by simp)]
           rw [er]
           rw [ec2] at hok2 ⊢
           rw [if_pos (by simp)]
           exact .inr (.inr ⟨fun q => hfn (by rw [hD1]; exact hfl q), rfl, .inl (brk hok2 rfl rfl rfl hok1.sure (by rw [hf1]; exact hT1))⟩)
         · obtain ⟨D2, hD2⟩ : ∃ D2 : DK, D2 = ⟨D1.most, D1.starts, false, L2, fl2, D1.keep⟩ := ⟨_, rfl⟩
           rw [← hD2] at ec2
           rw [ec2] at hok2
           replace hok2 : okD D2 := hok2
           have hf2 : D2.files = L2 := by rw [hD2]
           have hu2 : D2.down = false := by rw [hD2]
           have hst2 : D2.starts = D.starts := by rw [hD2]; exact hst1
           have er2 : runD [fun D => syncD D tB, fun D => renD D tB (nmB 99 (W.b + W.t + 1))] D1 = renD D2 tB (nmB 99 (W.b + W.t + 1)) := by
            rw [runD]
            simp only [e2, ec2, if_true]
            exact run_one (fun D => renD D tB (nmB 99 (W.b + W.t + 1))) D2
           rw [er2]
           have hlt2 : lk D2.files tB = some (FB ps, ((FB ps).size : Int)) := by rw [hf2, hl2, if_pos rfl]
           have hoc := nm_odd (c := 99) (n := W.b + W.t + 1) (by omega)
           have e3 : renD D2 tB (nmB 99 (W.b + W.t + 1)) = chg D2 false (renF D2.files tB (nmB 99 (W.b + W.t + 1))) := by
            unfold renD
            rw [hu2, if_neg (by decide), lk_has, hlt2]
            simp only [Option.isSome_some, if_true]
            rw [hoc, if_neg (by decide)]
           have hok3 := ren_ok hok2 tB (nmB 99 (W.b + W.t + 1))
           obtain ⟨L3, hL3⟩ : ∃ L3, L3 = renF D2.files tB (nmB 99 (W.b + W.t + 1)) := ⟨_, rfl⟩
           have hl3 : ∀ z, lk L3 z = if z = nmB 99 (W.b + W.t + 1) then some (FB ps, ((FB ps).size : Int)) else if z = tB then none else lk L2 z := fun z => by rw [hL3, lk_ren hok2.rise hlt2, hf2]
           rw [← hL3] at e3
           rw [e3] at hok3 ⊢
           rcases chg_cases hu2 false L3 with ⟨fl3, hfl3, ec3⟩ | ⟨hfn, ec3⟩
           rotate_left
           · rw [ec3] at hok3 ⊢
             rw [if_pos (by simp)]
             exact .inr (.inr ⟨fun q => hfn (by rw [hD2]; exact hfl2 (by rw [hD1]; exact hfl q)), rfl, .inl (brk hok3 rfl rfl rfl hok2.sure (by rw [hf2]; exact hT2))⟩)
           · rw [ec3] at hok3 ⊢
             rw [if_neg (by simp)]
             have hT3 : Torn L3 (W.b + W.t + 1) 0 [ps] [] (FB []) 0 := hT2.anew (by omega) (by omega) hok3.rise hsm (by rw [hl3, if_pos rfl]) fun z hz => by
              rw [hl3] at hz
              split at hz
              · rename_i q
                exact .inl q
              · split at hz
                · exact absurd rfl hz
                · exact .inr hz
             obtain ⟨D3, hD3⟩ : ∃ D3 : DK, D3 = ⟨D2.most, D2.starts, false, L3, fl3, D2.keep⟩ := ⟨_, rfl⟩
             have hf3 : D3.files = L3 := by rw [hD3]
             have hu3 : D3.down = false := by rw [hD3]
             have hst3 : D3.starts = D.starts := by rw [hD3]; exact hst2
             rw [← hD3] at hok3 ⊢
             replace hok3 : okD D3 := hok3
             rw [← hf3] at hT3
             have hbase : baseM (namesD D3) = W.b + W.t + 1 := hT3.lay.base
             have htail : tailsM (namesD D3) = 0 := hT3.lay.tails
             have hstal : staleM (namesD D3) = (namesD D3).filter (staleB (W.b + W.t + 1)) := hT3.lay.stale
             simp only
             rw [hbase, htail, hstal]
             have hSm : ∀ x, x ∈ (namesD D3).filter (staleB (W.b + W.t + 1)) ↔ lk D3.files x ≠ none ∧ staleB (W.b + W.t + 1) x = true := fun x => by rw [List.mem_filter, names_fl, mem_names]
             rcases rem_torn (S := (namesD D3).filter (staleB (W.b + W.t + 1))) hok3 hu3 hT3 ((rise_nodup hT3.rise).filter _) (fun x hx => ⟨((hSm x).1 hx).2, Option.ne_none_iff_exists'.1 ((hSm x).1 hx).1⟩) with ⟨a1, a2, a3, a4, a5, a6, a7, a8⟩ | ⟨a0, a1, a2, a3, a4, L, K, a5, a6, a7⟩
             · have hca : D.fails = none → D3.fails = none := fun q => by
                rw [hD3]
                exact hfl3 (by rw [hD2]; exact hfl2 (by rw [hD1]; exact hfl q))
               have hmo : D3.most = D.most := by rw [hD3, hD2, hD1]
               refine .inl ⟨a1, hsm, by rw [a1, bad_zero], ⟨a2, a3, ?_, ?_, ⟨0, a5, fun q => absurd q (by simp)⟩, Nat.le_refl _, fun x hx => ?_⟩, fun q => a7 (hca q), by rw [a8, hmo]⟩
               · rw [a4, hst3, hL.st]
               · simp only
                 rw [a1, bad_zero, hL.nb]
               · rw [a6] at hx
                 split at hx
                 · exact absurd rfl hx
                 · rename_i q
                   rcases hT3.lay.all x (mem_names.2 hx) with h | h
                   · exact h
                   · exact absurd (memB_iff.2 ((hSm x).2 ⟨hx, h⟩)) q
             · exact .inr (.inr ⟨fun q => a0 (by rw [hD3]; exact hfl3 (by rw [hD2]; exact hfl2 (by rw [hD1]; exact hfl q))), a1, .inr (Brk.of (_D := D) a2 a3 a4 a5 a6 a7 (Nat.le_refl _) (fun q => absurd q (by decide)) (by simp) (by simp))⟩)
 · rw [if_pos hf]
   exact .inr (.inl ⟨.inl ⟨framed_err hf, fun q => hf (by rw [framed_small q])⟩, rfl, rfl⟩)
theorem Logs.ck {W : WK} {D : DK} {l : List BA} {sure : Nat} (H : Logs W D l sure) (ps : List BA) :
 ((ckW W D ps).2.2 = 0 ∧ small ps ∧ Logs (ckW W D ps).1 (ckW W D ps).2.1 ps ps.length ∧ (D.fails = none → (ckW W D ps).2.1.fails = none)) ∨
 (((ckW W D ps).2.2 = 3 ∧ ¬ small ps ∨ (ckW W D ps).2.2 = 40) ∧ (ckW W D ps).1 = W ∧ (ckW W D ps).2.1 = D) ∨
 (D.fails ≠ none ∧ (ckW W D ps).2.2 = 41 ∧ (Brk (ckW W D ps).2.1 l sure ∨ Brk (ckW W D ps).2.1 ps ps.length)) := by
 obtain ⟨init, last, j, hL, hl, hs⟩ := H
 subst hl
 rcases hL.ck hs ps with ⟨h1, h2, _, h4, h5, _⟩ | ⟨h1, h2, h3⟩ | h
 · exact .inl ⟨h1, h2, ⟨[ps], [], 0, h4, by simp, by simp⟩, h5⟩
 · exact .inr (.inl ⟨h1.imp (fun h => h) (fun h => h.1), h2, h3⟩)
 · exact .inr (.inr h)
theorem Live.new {m : Int} (h1 : 1 ≤ m) (h2 : m ≤ 1048576) : Live ⟨0, false, 0, 0⟩ ⟨m, 0, false, [], none, []⟩ [] [] 0 := by
 have hs0 : segsM 0 0 = [] := rfl
 exact ⟨new_ok h1 h2, rfl, rfl, rfl, ⟨0, ⟨List.Pairwise.nil, ⟨by decide, fun x hx => (by rw [hs0] at hx; cases hx), fun x hx => (by cases hx)⟩, by rw [hs0]; decide, ⟨fun q hq => (by cases hq), fun q hq => (by cases hq)⟩, fun _ => ⟨rfl, rfl⟩, fun q => absurd q (by decide)⟩, fun q => absurd q (by decide)⟩, Nat.le_refl _, fun x hx => absurd rfl hx⟩
theorem Logs.new {m : Int} (h1 : 1 ≤ m) (h2 : m ≤ 1048576) : Logs ⟨0, false, 0, 0⟩ ⟨m, 0, false, [], none, []⟩ [] 0 := ⟨[], [], 0, Live.new h1 h2, rfl, Nat.le_refl _⟩
end Go.Proofs.YtjlfdfmkofbccaaGreatDoor
namespace Go.Proofs.YtjlfdfmkofbccaaGreatDoor
open Go.Sy
structure Calm (D D' : DK) (n : Int) : Prop where
 fails : D'.fails = none
 most : D'.most = D.most
 starts : D'.starts = D.starts
 sum : (sumD D'.files : Int) = sumD D.files + n
theorem chg_calm0 {D : DK} (hu : D.down = false) (hf : D.fails = none) (late : Bool) (L2 : List Fl) : chg D late L2 = (⟨D.most, D.starts, false, L2, none, D.keep⟩, 0) := by
 unfold chg
 rw [hf, hu]
theorem appD_calm {D : DK} (hD : okD D) (hu : D.down = false) (hf : D.fails = none) {x y : BA} (ho : oddS x = false) (hr : (sumD D.files : Int) + y.size ≤ D.most) (hh : hasF D.files x = true ∨ D.files.length ≠ 16) :
 (appD D x y).2 = 0 ∧ Calm D (appD D x y).1 y.size ∧ (appD D x y).1.files = appF D.files x y := by
 have e : appD D x y = (⟨D.most, D.starts, false, appF D.files x y, none, D.keep⟩, 0) := by
  unfold appD
  rw [hu, if_neg (by decide), ho, if_neg (by decide), if_neg, chg_calm0 hu hf]
  rintro (⟨h1, h2⟩ | h1)
  · rcases hh with h | h
    · rw [h] at h1
      cases h1
    · exact h h2
  · omega
 rw [e]
 refine ⟨rfl, ⟨rfl, rfl, rfl, ?_⟩, rfl⟩
 simp only
 rw [appF_sum hD.rise]
 omega
theorem syncD_calm {D : DK} (hD : okD D) (hu : D.down = false) (hf : D.fails = none) {x : BA} {v : BA × Int} (hv : lk D.files x = some v) : (syncD D x).2 = 0 ∧ Calm D (syncD D x).1 0 := by
 obtain ⟨hi, he⟩ := lk_at hD.rise hv
 have e : syncD D x = (⟨D.most, D.starts, false, setF D.files x fun f => ⟨f.n, f.d, (f.d.size : Nat)⟩, none, D.keep⟩, 0) := by
  unfold syncD
  rw [hu, if_neg (by decide), lk_has, hv]
  simp only [Option.isSome_some, if_true]
  rw [chg_calm0 hu hf]
 rw [e]
 refine ⟨rfl, rfl, rfl, rfl, ?_⟩
 simp only
 rw [setF_eq hi]
 have := sumD_set hi (⟨D.files[posF D.files x].n, D.files[posF D.files x].d, (D.files[posF D.files x].d.size : Nat)⟩ : Fl)
 simp only at this
 omega
theorem Live.more {W : WK} {D : DK} {init : List (List BA)} {last : List BA} {j : Nat} (H : Live W D init last j) (hf : D.fails = none) (ht : 0 < W.t) (hz : (FB last).size < 16384) {ps : List BA} (hp : small ps) (hn : ps ≠ []) (hr : (sumD D.files : Int) + (FB ps).size ≤ D.most) :
 ∃ D', appW W D ps = (W, D', 0) ∧ Live W D' init (last ++ ps) j ∧ Calm D D' (FB ps).size ∧ ∀ v, lk D.files (nmB 115 (W.b + W.t)) = some v → lk D'.files (nmB 115 (W.b + W.t)) = some (v.1 ++ FB ps, v.2) := by
 have hb9 := H.okW
 unfold Proofs.YtjlfdfmkofbccaaGreatDoor.okW at hb9
 obtain ⟨s0, hl, _⟩ := H.last ht
 obtain ⟨h1, h2, hfiles⟩ := appD_calm H.ok H.up hf (nm_odd (c := 115) (n := W.b + W.t) (by omega)) hr (.inl (by rw [lk_has, hl]; rfl))
 rcases H.put ht hp with ⟨_, h⟩ | ⟨_, h, _⟩ | ⟨_, h, _⟩
 · rw [h] at h1
   cases h1
 · refine ⟨_, ?_, h, h2, fun v hv => by rw [hfiles, lk_app H.ok.rise, if_pos rfl, hv]⟩
   rw [appW_some H.ask (by rw [framed_small hp]) hn, framed_small hp]
   have e : (readD D (nmB 115 (W.b + W.t))).1 = FB last := by rw [read_lk H.up H.ok.rise, hl]
   rw [e, if_pos ⟨ht, hz⟩]
   simp only [h1, bad_zero]
 · rw [h1] at h
   cases h
theorem Live.first {W : WK} {D : DK} {init : List (List BA)} (H : Live W D init [] 0) (hf : D.fails = none) (ht : W.t = 0) (h9 : W.b < 999999999) (h15 : D.files.length < 15) {ps : List BA} (hp : small ps) (hn : ps ≠ []) (hr : (sumD D.files : Int) + (FB ps).size ≤ D.most) :
 ∃ D', appW W D ps = (⟨W.s, W.bad, W.b, 1⟩, D', 0) ∧ Live ⟨W.s, W.bad, W.b, 1⟩ D' init ps 0 ∧ Calm D D' (FB ps).size := by
 obtain ⟨s, hT, _⟩ := H.torn
 obtain ⟨hfu, _⟩ := hT.zero ht
 have hw : Whole W D init := ⟨H.ok, H.up, H.st, H.nb, H.names, hT.smalls.1, by rw [ht]; exact hfu⟩
 obtain ⟨h1, h2, hfiles⟩ := appD_calm H.ok H.up hf (nm_odd (c := 115) (n := W.b + W.t + 1) (by omega)) hr (.inr (by omega))
 rcases hw.next hp (by omega) h15 with ⟨_, h⟩ | ⟨_, h, _⟩ | ⟨_, h, _⟩
 · rw [h] at h1
   cases h1
 · rw [ht] at h
   refine ⟨(appD D (nmB 115 (W.b + 0 + 1)) (FB ps)).1, ?_, h, by rw [ht] at h2; exact h2⟩
   rw [appW_some H.ask (by rw [framed_small hp]) hn, framed_small hp, ht]
   simp only [Nat.lt_irrefl, if_false, false_and, ne_eq, not_true_eq_false]
   rw [if_neg (by omega)]
   rw [ht] at h1
   simp only [h1, bad_zero, if_true]
 · rw [h1] at h
   cases h
theorem Live.grows {W : WK} {D : DK} {init : List (List BA)} {last : List BA} {j : Nat} (H : Live W D init last j) (hf : D.fails = none) (ht : 0 < W.t) (hz : ¬ (FB last).size < 16384) (h9 : W.b + W.t < 999999999) (h15 : D.files.length < 15) {ps : List BA} (hp : small ps) (hn : ps ≠ []) (hr : (sumD D.files : Int) + (FB ps).size ≤ D.most) :
 ∃ D' Ps, appW W D ps = (⟨W.s, W.bad, W.b, W.t + 1⟩, D', 0) ∧ Live ⟨W.s, W.bad, W.b, W.t + 1⟩ D' Ps ps 0 ∧ Calm D D' (FB ps).size ∧ Ps.flatten = init.flatten ++ last := by
 obtain ⟨s0, hl, _⟩ := H.last ht
 obtain ⟨g1, g2⟩ := syncD_calm H.ok H.up hf hl
 rcases H.sync ht with ⟨_, h2, h3, _⟩ | ⟨_, h, _⟩
 · obtain ⟨D1, hD1⟩ : ∃ D1, D1 = (syncD D (nmB 115 (W.b + W.t))).1 := ⟨_, rfl⟩
   rw [← hD1] at g2 h2
   obtain ⟨Ps, hw, hfl⟩ := h2.whole
   have hlen : D1.files.length = D.files.length := by rw [h2.len, H.len]
   have hsum := g2.sum
   obtain ⟨k1, k2, _⟩ := appD_calm h2.ok h2.up g2.fails (nm_odd (c := 115) (n := W.b + W.t + 1) (by omega)) (y := FB ps) (by rw [g2.most]; omega) (.inr (by omega))
   rcases hw.next hp h9 (by omega) with ⟨_, h⟩ | ⟨_, h, _⟩ | ⟨_, h, _⟩
   · rw [h] at k1
     cases k1
   · refine ⟨_, Ps, ?_, h, ⟨k2.fails, by rw [k2.most, g2.most], by rw [k2.starts, g2.starts], by rw [k2.sum]; omega⟩, hfl⟩
     rw [appW_some H.ask (by rw [framed_small hp]) hn, framed_small hp]
     have e : (readD D (nmB 115 (W.b + W.t))).1 = FB last := by rw [read_lk H.up H.ok.rise, hl]
     rw [e, if_neg (fun q => hz q.2), if_pos ht]
     dsimp only
     rw [g1, if_neg (by decide), ← hD1, if_neg (by omega)]
     simp only [k1, bad_zero, if_true]
   · rw [k1] at h
     cases h
 · rw [g1] at h
   cases h
theorem Live.syncs {W : WK} {D : DK} {init : List (List BA)} {last : List BA} {j : Nat} (H : Live W D init last j) (hf : D.fails = none) (ht : 0 < W.t) : ∃ D', syncW W D = (W, D', 0) ∧ Live W D' init last last.length ∧ Calm D D' 0 := by
 obtain ⟨s0, hl, _⟩ := H.last ht
 obtain ⟨g1, g2⟩ := syncD_calm H.ok H.up hf hl
 rcases H.sync ht with ⟨_, h2, h3, _⟩ | ⟨_, h, _⟩
 · refine ⟨_, ?_, h2, g2⟩
   unfold syncW
   rw [H.ask, if_neg (by decide), if_neg (by omega)]
   simp only [g1, bad_zero]
 · rw [g1] at h
   cases h
end Go.Proofs.YtjlfdfmkofbccaaGreatDoor
namespace Go.Proofs.YtjlfdfmkofbccaaGreatDoor
open Go.Sy
theorem FB_cons (p : BA) (ps : List BA) : (FB (p :: ps)).size = (putL (2 * p.size)).length + 4 + p.size + (FB ps).size := by
 have h : FB (p :: ps) = FB [p] ++ FB ps := by rw [FB_add]; rfl
 rw [h, ByteArray.size_append]
 have h2 : (FB [p]).size = (frameL ckL p.data.toList).length := by
  unfold FB
  rw [strL_size]
  simp [framesL]
 rw [h2]
 unfold frameL
 simp only [List.length_append, ckL_len, size_data]
 omega
theorem put_two : (putL 2).length = 1 := by rw [putL_small (by decide)]; rfl
theorem put_kilo : (putL 16384).length = 3 := by
 rw [putL_great (by decide), putL_great (by decide), putL_small (by decide)]
 rfl
def szF (L : List Fl) (x : BA) : Nat := match lk L x with | some v => v.1.size | none => 0
theorem sumD_names {L : List Fl} (h : riseF L) : sumD L = ((L.map (·.n)).map (szF L)).sum := by
 unfold sumD
 rw [List.map_map]
 congr 1
 refine List.map_congr_left fun f hf => ?_
 simp only [Function.comp_apply, szF]
 rw [lk_of h hf]
theorem perm_sum {l m : List Nat} (h : l.Perm m) : l.sum = m.sum := by
 induction h with
 | nil => rfl
 | cons x _ ih => rw [List.sum_cons, List.sum_cons, ih]
 | swap x y l => simp only [List.sum_cons]; omega
 | trans _ _ h1 h2 => rw [h1, h2]
theorem full_sum {L : List Fl} : ∀ {names : List BA} {Ps : List (List BA)}, full L names Ps → (names.map (szF L)).sum = (FB Ps.flatten).size
 | [], [], _ => by rw [List.flatten_nil, FB_nil]; rfl
 | [], p :: Ps, h => by simp [full] at h
 | x :: names, [], h => by simp [full] at h
 |
  x :: names, p :: Ps, h => by
  unfold full at h
  simp only [List.map_cons, List.cons.injEq] at h
  rw [List.map_cons, List.sum_cons, full_sum (names := names) (Ps := Ps) h.2, List.flatten_cons, FB_size_append]
  congr 1
  unfold szF
  rw [h.1]
theorem Live.segsum {W : WK} {D : DK} {init : List (List BA)} {last : List BA} {j : Nat} (H : Live W D init last j) : ((segsM W.b W.t).map (szF D.files)).sum = (FB (init.flatten ++ last)).size := by
 obtain ⟨s, hT, _⟩ := H.torn
 rcases Nat.eq_zero_or_pos W.t with h0 | h0
 · obtain ⟨h1, h2⟩ := hT.zero h0
   rw [h2, List.append_nil, h0]
   exact full_sum h1
 · obtain ⟨h1, h2, _⟩ := hT.more h0
   rw [segs_succ h0, List.map_append, List.sum_append, full_sum h1, FB_size_append]
   congr 1
   simp [szF, h2]
theorem Live.sum {W : WK} {D : DK} {init : List (List BA)} {last : List BA} {j : Nat} (H : Live W D init last j) : sumD D.files = (FB (init.flatten ++ last)).size := by
 rw [sumD_names H.ok.rise, ← H.segsum]
 exact perm_sum (((List.perm_ext_iff_of_nodup (rise_nodup H.ok.rise) (segs_nodup W.b W.t)).2 H.names.2).map _)
theorem sumS_eq {D : DK} (hu : D.down = false) (hs : riseF D.files) (L : List BA) : sumS D L = (L.map (szF D.files)).sum := by
 have key : ∀ (L : List BA) (a : Nat), L.foldl (fun n x => n + (readD D x).1.size) a = a + (L.map (szF D.files)).sum := by
  intro L
  induction L with
  | nil => intro a; simp
  |
   cons x L ih =>
   intro a
   rw [List.foldl_cons, ih, List.map_cons, List.sum_cons]
   have : (readD D x).1.size = szF D.files x := by
    rw [read_lk hu hs]
    unfold szF
    cases lk D.files x <;> rfl
   omega
 have := key L 0
 rw [Nat.zero_add] at this
 exact this
theorem Live.size {W : WK} {D : DK} {init : List (List BA)} {last : List BA} {j : Nat} (H : Live W D init last j) : sizeOfW W D = sumD D.files := by
 unfold sizeOfW
 rw [H.ask, if_neg (by decide), sumS_eq H.up H.ok.rise, H.segsum, H.sum]
theorem Live.segments {W : WK} {D : DK} {init : List (List BA)} {last : List BA} {j : Nat} (H : Live W D init last j) : segsW W D = D.files.length := by
 unfold segsW
 rw [H.ask, if_neg (by decide), H.len]
theorem Live.few15 {W : WK} {D : DK} {init : List (List BA)} {last : List BA} {j : Nat} (H : Live W D init last j) : D.files.length ≤ 15 ∧ W.t ≤ 15 := by
 obtain ⟨s, hT, _⟩ := H.torn
 have h1 := hT.few
 rw [H.len]
 refine ⟨h1, ?_⟩
 unfold segsM at h1
 simp only [List.length_append, List.length_map, List.length_range] at h1
 omega
theorem Live.anew {W : WK} {D : DK} {init : List (List BA)} {last : List BA} {j : Nat} (H : Live W D init last j) (hf : D.fails = none) (h9 : W.b + W.t < 999999999) {ps : List BA} (hp : small ps) (hr : (sumD D.files : Int) + (FB ps).size ≤ D.most) :
 ∃ D', ckW W D ps = (⟨W.s, W.bad, W.b + W.t + 1, 0⟩, D', 0) ∧ Live ⟨W.s, W.bad, W.b + W.t + 1, 0⟩ D' [ps] [] 0 ∧ D'.fails = none ∧ D'.most = D.most := by
 rcases H.ck (sure := 0) (Nat.zero_le _) ps with ⟨h1, _, h3, h4, h5, h6⟩ | ⟨h1, _⟩ | ⟨h1, _⟩
 · rw [h3] at h4
   exact ⟨_, Prod.ext h3 (Prod.ext rfl h1), h4, h5 hf, h6⟩
 · rcases h1 with ⟨_, h1⟩ | ⟨_, h1 | h1⟩
   · exact absurd hp h1
   · omega
   · omega
 · exact absurd hf h1
end Go.Proofs.YtjlfdfmkofbccaaGreatDoor
namespace Go.Proofs.YtjlfdfmkofbccaaGreatDoor
open Go.Sy
def z8 : BA := strL (List.replicate 8192 0)
theorem z8_size : z8.size = 8192 := by unfold z8; rw [strL_size, List.length_replicate]
def ch (c : UInt8) : BA := ⟨#[c]⟩
theorem ch_size (c : UInt8) : (ch c).size = 1 := rfl
theorem small_of {ps : List BA} (h : ps.all (fun p => decide (p.size ≤ 8192)) = true) : small ps := fun p hp => of_decide_eq_true (List.all_eq_true.1 h p hp)
theorem FB_one (c : UInt8) (ps : List BA) : (FB (ch c :: ps)).size = 6 + (FB ps).size := by
 rw [FB_cons, ch_size, put_two]
theorem FB_z (ps : List BA) : (FB (z8 :: ps)).size = 8199 + (FB ps).size := by
 rw [FB_cons, z8_size, put_kilo]
theorem FB_zero : (FB []).size = 0 := by rw [FB_nil]; rfl
theorem c3_is : nmB 99 3 = ⟨#[99, 51]⟩ := ba_eq (by rw [nmB_list, decL_small (by decide)]; rfl)
theorem s4_is : nmB 115 4 = ⟨#[115, 52]⟩ := ba_eq (by rw [nmB_list, decL_small (by decide)]; rfl)
def W0_ : WK := ⟨0, false, 0, 0⟩
def W1_ : WK := ⟨0, false, 0, 1⟩
def W6_ : WK := ⟨1, false, 0, 1⟩
def W8_ : WK := ⟨1, false, 0, 2⟩
def W9_ : WK := ⟨1, false, 3, 0⟩
def W10_ : WK := ⟨1, false, 3, 1⟩
def D0_ : DK := ⟨50000, 0, false, [], none, []⟩
theorem works_chain : ∃ D1 D2 D3 D4 D5 D6 D7 D8 D9 D10 : DK, (okD D0_ ∧ okD D1 ∧ okD D2 ∧ okD D3 ∧ okD D4 ∧ okD D5 ∧ okD D6 ∧ okD D7 ∧ okD D8 ∧ okD D9 ∧ okD D10) ∧
 openD D0_ = (D0_, 0, W0_, []) ∧ appW W0_ D0_ [ch 97, ch 98] = (W1_, D1, 0) ∧ syncW W1_ D1 = (W1_, D2, 0) ∧ appW W1_ D2 [ch 99] = (W1_, D3, 0) ∧ crashD D3 [3] = (D4, 0) ∧ startD D4 = (D5, 0) ∧ D4.starts = 0 ∧
 appW W1_ D5 [ch 100] = (W1_, D5, 41) ∧ openD D5 = (D6, 0, W6_, [ch 97, ch 98]) ∧ appW W6_ D6 [z8, z8] = (W6_, D7, 0) ∧ appW W6_ D7 [ch 101] = (W8_, D8, 0) ∧ segsW W8_ D8 = 2 ∧ ckW W8_ D8 [ch 120] = (W9_, D9, 0) ∧
 appW W9_ D9 [ch 121] = (W10_, D10, 0) ∧ openD D10 = (D10, 0, W10_, [ch 120, ch 121]) ∧ namesD D10 = [⟨#[99, 51]⟩, ⟨#[115, 52]⟩] := by
 have L0 : Live W0_ D0_ [] [] 0 := Live.new (by decide) (by decide)
 have z0 : sumD D0_.files = 0 := rfl
 have sab : small [ch 97, ch 98] := small_of (by decide)
 have fab : (FB [ch 97, ch 98]).size = 12 := by rw [FB_one, FB_one, FB_zero]
 obtain ⟨D1, e1, L1, c1⟩ := L0.first rfl rfl (by decide) (by decide) sab (by simp) (by rw [z0, fab]; decide)
 replace L1 : Live W1_ D1 [] [ch 97, ch 98] 0 := L1
 have m1 : D1.most = 50000 := c1.most
 obtain ⟨D2, e2, L2, c2⟩ := L1.syncs c1.fails (by decide)
 have m2 : D2.most = 50000 := by rw [c2.most, m1]
 have s2 := L2.sum
 simp only [List.flatten_nil, List.nil_append] at s2
 rw [fab] at s2
 have fc : (FB [ch 99]).size = 6 := by rw [FB_one, FB_zero]
 obtain ⟨D3, e3, L3, c3, l3⟩ := L2.more c2.fails (by decide) (by rw [fab]; decide) (small_of (by decide) : small [ch 99]) (by simp) (by rw [s2, fc, m2]; decide)
 have m3 : D3.most = 50000 := by rw [c3.most, m2]
 obtain ⟨s, hl2, hs1, hs2, _⟩ := L2.last (by decide)
 rw [List.take_length, fab] at hs1
 rw [fab] at hs2
 obtain rfl : s = 12 := by omega
 have hl3 := l3 _ hl2
 rw [FB_add] at hl3
 have fabc : (FB ([ch 97, ch 98] ++ [ch 99])).size = 18 := by rw [FB_size_append, fab, fc]
 obtain ⟨d, hd⟩ : ∃ d, d = FB ([ch 97, ch 98] ++ [ch 99]) := ⟨_, rfl⟩
 simp only at hl3
 rw [← hd] at hl3 fabc
 have hlen3 : D3.files.length = 1 := L3.len
 obtain ⟨f, hf⟩ := List.length_eq_one_iff.1 hlen3
 have hfe : f = ⟨nmB 115 (W1_.b + W1_.t), d, 12⟩ := by
  have := lk_mem hl3
  rw [hf] at this
  exact (List.mem_singleton.1 this).symm
 have e4 : crashD D3 [3] = (⟨D3.most, D3.starts, true, crashF D3.files [3], none, D3.keep⟩, 0) := by unfold crashD; rw [L3.up]; rfl
 obtain ⟨D4, hD4⟩ : ∃ D4, D4 = (crashD D3 [3]).1 := ⟨_, rfl⟩
 have ok4 : okD D4 := by rw [hD4]; exact crash_ok L3.ok _
 rw [e4] at hD4
 have e5 : startD D4 = (⟨D4.most, D4.starts + 1, false, D4.files, D4.fails, D4.keep⟩, 0) := by unfold startD; rw [hD4]; rfl
 obtain ⟨D5, hD5⟩ : ∃ D5, D5 = (startD D4).1 := ⟨_, rfl⟩
 have ok5 : okD D5 := by rw [hD5]; exact start_ok ok4
 rw [e5] at hD5
 have st4 : D4.starts = 0 := by rw [hD4]; exact L3.st
 have st5 : D5.starts = 1 := by rw [hD5]; simp only; rw [st4]; rfl
 have f5 : D5.files = crashF D3.files [3] := by rw [hD5, hD4]
 have m5 : D5.most = 50000 := by rw [hD5, hD4]; exact m3
 obtain ⟨sx, hT3, _⟩ := L3.torn
 obtain ⟨l', hT5, _⟩ := hT3.crash L3.ok.sure [3]
 rw [← f5] at hT5
 have hl5 : lk D5.files (nmB 115 (W1_.b + W1_.t)) = some (d.extract 0 15, 15) := by
  rw [f5, hf, hfe]
  unfold crashF keep1 lk
  simp [fabc]
  exact ⟨rfl, rfl⟩
 have hl' : l'.size = 15 := by
  have := (hT5.more (by decide)).2.1
  rw [hl5] at this
  simp only [Option.some.injEq, Prod.mk.injEq] at this
  omega
 obtain ⟨k, D6, hk, hkl, hmax, e6, f6, m6, _, hL6⟩ := Torn.opens ok5 (by rw [hD5]) (by rw [hD5, hD4]) hT5 (fun _ => ⟨by omega, Int.le_refl _⟩)
 have hk2 : 2 ≤ k := hmax 2 (by decide) (fun _ => by
  show (FB [ch 97, ch 98]).size ≤ _
  rw [fab, hl']
  decide)
 have hk3 : k ≠ 3 := fun e => by
  have := hkl (by decide)
  rw [e, hl'] at this
  have h3 : ([ch 97, ch 98] ++ [ch 99]).take 3 = [ch 97, ch 98] ++ [ch 99] := rfl
  rw [h3, ← hd, fabc] at this
  exact absurd this (by decide)
 have hk4 : k ≤ 3 := hk
 obtain rfl : k = 2 := by omega
 have t2 : ([ch 97, ch 98] ++ [ch 99]).take 2 = [ch 97, ch 98] := rfl
 rw [t2, st5] at e6
 have L6 := hL6 0 (by decide) (fun _ => by rw [List.take_zero, FB_zero]; omega)
 rw [t2, st5] at L6
 replace L6 : Live W6_ D6 [] [ch 97, ch 98] 0 := L6
 rw [m5] at m6
 have s6 := L6.sum
 simp only [List.flatten_nil, List.nil_append] at s6
 rw [fab] at s6
 have fzz : (FB [z8, z8]).size = 16398 := by rw [FB_z, FB_z, FB_zero]
 have szz : small [z8, z8] := fun p hp => by
  simp only [List.mem_cons, List.not_mem_nil, or_false, or_self] at hp
  rw [hp, z8_size]
  decide
 obtain ⟨D7, e7, L7, c7, _⟩ := L6.more f6 (by decide) (by rw [fab]; decide) szz (by simp) (by rw [s6, fzz, m6]; decide)
 have m7 : D7.most = 50000 := by rw [c7.most, m6]
 have s7 := L7.sum
 simp only [List.flatten_nil, List.nil_append] at s7
 rw [FB_size_append, fab, fzz] at s7
 have fe : (FB [ch 101]).size = 6 := by rw [FB_one, FB_zero]
 obtain ⟨D8, Ps, e8, L8, c8, hPs⟩ := L7.grows c7.fails (by decide) (by rw [FB_size_append, fab, fzz]; decide) (by decide) (by rw [L7.len]; decide) (small_of (by decide) : small [ch 101]) (by simp) (by rw [s7, fe, m7]; decide)
 replace L8 : Live W8_ D8 Ps [ch 101] 0 := L8
 have m8 : D8.most = 50000 := by rw [c8.most, m7]
 have s8 := L8.sum
 rw [hPs, FB_size_append, fe, List.flatten_nil, List.nil_append, FB_size_append, fab, fzz] at s8
 have n8 : segsW W8_ D8 = 2 := by rw [L8.segments, L8.len]; rfl
 have fx : (FB [ch 120]).size = 6 := by rw [FB_one, FB_zero]
 obtain ⟨D9, e9, L9, f9, m9⟩ := L8.anew c8.fails (by decide) (small_of (by decide) : small [ch 120]) (by rw [s8, fx, m8]; decide)
 replace L9 : Live W9_ D9 [[ch 120]] [] 0 := L9
 rw [m8] at m9
 have s9 := L9.sum
 simp only [List.flatten_cons, List.flatten_nil, List.append_nil] at s9
 rw [fx] at s9
 have fy : (FB [ch 121]).size = 6 := by rw [FB_one, FB_zero]
 obtain ⟨D10, e10, L10, c10⟩ := L9.first f9 rfl (by decide) (by rw [L9.len]; decide) (small_of (by decide) : small [ch 121]) (by simp) (by rw [s9, fy, m9]; decide)
 replace L10 : Live W10_ D10 [[ch 120]] [ch 121] 0 := L10
 have o10 := L10.opens
 rw [L10.st] at o10
 have hn10 : namesD D10 = [⟨#[99, 51]⟩, ⟨#[115, 52]⟩] := by
  have hb := L10.names
  unfold Bare at hb
  have hsg : segsM W10_.b W10_.t = [⟨#[99, 51]⟩, ⟨#[115, 52]⟩] := by rw [← c3_is, ← s4_is]; rfl
  rw [hsg] at hb
  have hlen : (namesD D10).length = 2 := by rw [names_fl, List.length_map, L10.len]; rfl
  obtain ⟨x, y, hxy⟩ : ∃ x y, namesD D10 = [x, y] := by
   match hN : namesD D10, hlen with
   | [x, y], _ => exact ⟨x, y, rfl⟩
  have hr : riseF D10.files := L10.ok.rise
  have hp : (namesD D10).Pairwise ltS := by rw [names_fl]; exact List.Pairwise.map _ (fun _ _ h => h) hr
  rw [hxy] at hp hb ⊢
  have hlt : ltS x y := (List.pairwise_cons.1 hp).1 y List.mem_cons_self
  have h1 := (hb.2 x).1 List.mem_cons_self
  have h2 := (hb.2 y).1 (List.mem_cons_of_mem _ List.mem_cons_self)
  have hlt2 : ltS (⟨#[99, 51]⟩ : BA) ⟨#[115, 52]⟩ := by unfold ltS; decide +kernel
  simp only [List.mem_cons, List.not_mem_nil, or_false] at h1 h2
  rcases h1 with rfl | rfl <;> rcases h2 with rfl | rfl
  · exact absurd hlt (ltS.irrefl _)
  · rfl
  · exact absurd hlt hlt2.asymm
  · exact absurd hlt (ltS.irrefl _)
 refine ⟨D1, D2, D3, D4, D5, D6, D7, D8, D9, D10, ⟨L0.ok, L1.ok, L2.ok, L3.ok, ok4, ok5, L6.ok, L7.ok, L8.ok, L9.ok, L10.ok⟩, L0.opens, e1, e2, e3, by rw [e4, hD4], by rw [e5, hD5], st4, ?_, e6, e7, e8, n8, e9, e10, o10, hn10⟩
 exact appW_ask (by unfold askW; rw [st5]; simp [W1_])
end Go.Proofs.YtjlfdfmkofbccaaGreatDoor
namespace Go.Proofs.YtjlfdfmkofbccaaGreatDoor
open Go.Sy
theorem one3 (p q : Nat) (s b t : Int) (bx bw bn : Nat) (n : Nat) (hn : n ≤ 999999999) (a1 : FuncId) (c1 : Array Value) (a2 : FuncId) (c2 : Array Value) (f1 f2 f3 : DK → DK × Int) (hf3 : f3 = fun D => renD D tB (nmB 99 n)) :
 Triple Tryz.prog 50 [.slice (some ⟨bx, 0, none⟩) 3 3] [ChgA p q s b t (a1, c1) f1, ChgA p q s b t (a2, c2) f2, Pt bn 3 [.int .i64 (n : Nat)], Pt bx 40 [.func (.func a1) #[] c1, .func (.func a2) #[] c2, .func (.func 55) #[] #[.pointer (some ⟨bw, 0, none⟩), .pointer (some ⟨bn, 0, none⟩)]]] [] FnV (fun v => .func (.func v.1) #[] v.2) (fun _ => True) (fun it => [IterK p q s b t (Pt bw 29 [.pointer (some ⟨p, 0, none⟩)]) it [f1, f2, f3]]) := by
 subst hf3
 refine Triple.pre (α := { C : Asn × Asn // ChgOf p q s b t C.1 (fnV (a1, c1)) f1 ∧ ChgOf p q s b t C.2 (fnV (a2, c2)) f2 }) (M := fun C => [C.1.1, C.1.2, Pt bn 3 [.int .i64 (n : Nat)], Pt bx 40 [.func (.func a1) #[] c1, .func (.func a2) #[] c2, .func (.func 55) #[] #[.pointer (some ⟨bw, 0, none⟩), .pointer (some ⟨bn, 0, none⟩)]]]) (fun h z => ?_) fun ⟨(C1, C2), h1, h2⟩ => ?_
 · obtain ⟨C1, z⟩ := starH_ex.1 z
   obtain ⟨h1, z⟩ := starH_pure.1 (starH_star.1 z)
   obtain ⟨C2, z⟩ := starH_ex.1 (starH_swap z)
   obtain ⟨h2, z⟩ := starH_pure.1 (starH_star.1 z)
   exact ⟨⟨(C1, C2), h1, h2⟩, starH_swap z⟩
 · refine ((oneF (some ⟨bx, 0, none⟩) 3 3).frame _).imp fun bs _ => ⟨(134, #[.pointer (some ⟨bs, 0, none⟩)]), rfl, trivial, fun h z => starH_one.2 ?_⟩
   obtain ⟨C, hC⟩ : ∃ C, C = Asn.star [C1, C2, Pt bw 29 [.pointer (some ⟨p, 0, none⟩)], Pt bn 3 [.int .i64 (n : Nat)]] := ⟨_, rfl⟩
   have g1 : ChgOf p q s b t C (fnV (a1, c1)) f1 := h1.wide (R := Asn.star [C2, Pt bw 29 [.pointer (some ⟨p, 0, none⟩)], Pt bn 3 [.int .i64 (n : Nat)]]) fun h => by
    rw [hC]
    exact ⟨fun z => starH_tail (fun _ z => starH_one.2 (star_holds.2 z)) (star_holds.1 z), fun z => star_holds.2 (starH_tail (fun _ z => star_holds.1 (starH_one.1 z)) z)⟩
   have g2 : ChgOf p q s b t C (fnV (a2, c2)) f2 := h2.wide (R := Asn.star [C1, Pt bw 29 [.pointer (some ⟨p, 0, none⟩)], Pt bn 3 [.int .i64 (n : Nat)]]) fun h => by
    rw [hC]
    exact ⟨fun z => starH_tail (fun _ z => starH_one.2 (star_holds.2 z)) (starH_swap (star_holds.1 z)), fun z => star_holds.2 (starH_swap (starH_tail (fun _ z => star_holds.1 (starH_one.1 z)) z))⟩
   have g3 : ChgOf p q s b t C (.func (.func 55) #[] #[.pointer (some ⟨bw, 0, none⟩), .pointer (some ⟨bn, 0, none⟩)]) (fun D => renD D tB (nmB 99 n)) := by
    refine ChgOf.wide (C := Asn.star [Pt bw 29 [.pointer (some ⟨p, 0, none⟩)], Pt bn 3 [.int .i64 (n : Nat)]]) (R := Asn.star [C1, C2]) ⟨_, _, rfl, show HasFn 55 from ⟨by decide, by decide, by decide⟩, fun D h => ren_ok h _ _, fun bad D hD => ?_⟩ fun h => ?_
    · exact (renC p q bw bn s bad b t n hn D hD).shape (fun h z => starH_star.1 z) (fun _ h z => starH_star.2 z)
    · rw [hC]
      constructor
      · intro z
        exact starH_star.2 (starH_perm (l := Asn.star [C1, C2] :: [Pt bw 29 [.pointer (some ⟨p, 0, none⟩)], Pt bn 3 [.int .i64 (n : Nat)]]) ((List.Perm.swap _ _ _).trans (.cons _ (.swap _ _ _))) (starH_star.2 (star_holds.1 z)))
      · intro z
        exact star_holds.2 ((starH_star (l := [C1, C2])).1 (starH_perm (l := [Pt bw 29 [.pointer (some ⟨p, 0, none⟩)], Pt bn 3 [.int .i64 (n : Nat)]] ++ [Asn.star [C1, C2]]) ((List.Perm.cons _ (.swap _ _ _)).trans (.swap _ _ _)) (starH_star.1 z)))
   have hI := valuesI p q bs s b t (some ⟨bx, 0, none⟩) 3 3 [(a1, c1), (a2, c2), (55, #[.pointer (some ⟨bw, 0, none⟩), .pointer (some ⟨bn, 0, none⟩)])] [f1, f2, fun D => renD D tB (nmB 99 n)] C rfl (by decide) rfl (fun i v' f' e1 e2 => by
    match i with
    | 0 => cases e1; cases e2; exact g1
    | 1 => cases e1; cases e2; exact g2
    | 2 => cases e1; cases e2; exact g3
    | i + 3 => simp at e1)
   obtain ⟨Rw, hRw⟩ : ∃ Rw, Rw = Row 40 1 (some ⟨bx, 0, none⟩) 3 3 ([(a1, c1), (a2, c2), ((55 : FuncId), (#[.pointer (some ⟨bw, 0, none⟩), .pointer (some ⟨bn, 0, none⟩)] : Array Value))].flatMap encV) := ⟨_, rfl⟩
   rw [← hRw] at hI
   refine ⟨Asn.star [Pt bs 133 [.slice (some ⟨bx, 0, none⟩) 3 3], Rw, C1, C2, Pt bn 3 [.int .i64 (n : Nat)]], star_holds.2 (starH_pure.2 ⟨hI.shape fun h => ?_, ?_⟩)⟩
   · constructor
     · intro z
       have z1 := (starH_star (l := [_, _, _, _, _])).1 (star_holds.1 z)
       refine star_holds.2 (starH_tail (fun _ z => starH_tail (fun _ z => ?_) z) z1)
       rw [hC]
       exact starH_one.2 (star_holds.2 (starH_tail (fun _ z => starH_tail (fun _ z => starH_swap z) z) z))
     · intro z
       have z1 := star_holds.1 z
       rw [hC] at z1
       refine star_holds.2 ((starH_star (l := [_, _, _, _, _])).2 (starH_tail (fun _ z => starH_tail (fun _ z => ?_) z) z1))
       exact starH_tail (fun _ z => starH_tail (fun _ z => starH_swap z) z) (star_holds.1 (starH_one.1 z))
   · refine starH_star.2 ?_
     have z1 : Asn.starH [Pt bs 133 [.slice (some ⟨bx, 0, none⟩) 3 3], C1, C2, Pt bn 3 [.int .i64 (n : Nat)], Rw] h := starH_tail (fun _ z => starH_tail (fun _ z => starH_tail (fun _ z => starH_tail (fun _ z => starH_one.2 (by
      rw [hRw]
      exact Pt.row (starH_one.1 z) (n := 3) rfl (by decide))) z) z) z) z
     refine starH_perm ?_ z1
     refine .cons _ ?_
     exact List.perm_append_comm (l₁ := [C1, C2, Pt bn 3 [.int .i64 (n : Nat)]]) (l₂ := [Rw])
end Go.Proofs.YtjlfdfmkofbccaaGreatDoor
namespace Go.Proofs.YtjlfdfmkofbccaaGreatDoor
open Go.Sy
abbrev CkT (p q : Nat) (A : Option Addr) (np cp : Nat) (ps : List ByteArray) (s : Int) (bad : Bool) (b t : Nat) (D : DK) (R : WK × DK × Int) : Prop :=
 Triple Tryz.prog 21 [.pointer (some ⟨p, 0, none⟩), .slice A np cp] [Pt p 49 [.pointer (some ⟨q, 0, none⟩), .int .i64 s, .bool bad, .int .i64 (b : Nat), .int .i64 (t : Nat)], DiskM q D] [TabA, Rd 1 A np (ps.flatMap encS)] Unit (fun _ => .int .i64 R.2.2) (fun _ => True) (fun _ => [Pt p 49 [.pointer (some ⟨q, 0, none⟩), .int .i64 R.1.s, .bool R.1.bad, .int .i64 (R.1.b : Nat), .int .i64 (R.1.t : Nat)], DiskM q R.2.1])
set_option maxHeartbeats 8000000 in
set_option maxRecDepth 100000 in
theorem ckWT (p q : Nat) (W : WK) (D : DK) (A : Option Addr) (ps : List ByteArray) (np cp : Nat) (hp : np = ps.length) (hp1 : np ≤ 10000) (hp2 : ∀ p ∈ ps, p.size ≤ 900000000) (hD : okD D) (hW : okW W) :
 Triple Tryz.prog 21 [.pointer (some ⟨p, 0, none⟩), .slice A np cp] [WalM p q W, DiskM q D] [TabA, Rd 1 A np (ps.flatMap encS)] Unit (fun _ => .int .i64 (ckW W D ps).2.2) (fun _ => True) (fun _ => [WalM p q (ckW W D ps).1, DiskM q (ckW W D ps).2.1]) := by
 obtain ⟨s, bad, b, t⟩ := W
 replace hW : b + t ≤ 999999999 := hW
 have TA := askT p q s bad b t D hD
 have TF := framedT A ps np cp hp hp1 hp2
 obtain ⟨R, hR⟩ : ∃ R, R = ckW ⟨s, bad, b, t⟩ D ps := ⟨_, rfl⟩
 unfold WalM ptW
 unfold ptW at TA
 rw [← hR]
 show CkT p q A np cp ps s bad b t D R
 unfold ckW at hR
 dsimp only at hR
 rcases ask_cases s bad D with h | h
 · rw [h] at TA hR
   rw [if_neg (by decide)] at hR
   by_cases hf : (framedM ps).2 = 0
   · rw [hf] at TF hR
     rw [if_neg (by decide)] at hR
     have hF := framed_size hf
     obtain ⟨F, hFe⟩ : ∃ F, F = (framedM ps).1 := ⟨_, rfl⟩
     rw [← hFe] at hR hF TF
     have hF2 : F.size ≤ 100000000 := by rw [← hp] at hF; omega
     have TL := Proofs.YtjlfdfmkofbccaaGreatDoor.lastT b t (by omega)
     by_cases h99 : 999999999 ≤ b + t
     · rw [if_pos h99] at hR
       subst hR
       refine triple_intro Tryz.tbs_ok Tryz.func21 rfl [.pt 0 p 0, .va (.slice A np cp)] [.box p 49 [.va (.pointer (some ⟨q, 0, none⟩)), .va (.int .i64 s), .bq bad, .va (.int .i64 (b : Nat)), .va (.int .i64 (t : Nat))], .fact (DiskM q D)] ⟨rfl, trivial, trivial⟩ rfl (by simp [SV.good, SV.goodL]) ?_
       intro E
       refine go Tryz.tbs_ok 1000 ?_
       refine ev_new fun b0 => ?_
       refine ev_call (TA ) [0, 1] [] (fun v0_ => [.box (p) 49 [.va (Value.pointer (some { block := q, off := 0 : Addr })), .va (Value.int IntKind.i64 s), .bq (bad), .va (Value.int IntKind.i64 (↑b : Int)), .va (Value.int IntKind.i64 (↑t : Int))], .fact (DiskM q D)]) rfl rfl (by decide) rfl (by simp) (fun _ => rfl) (fun _ => (newsOk_box (by simp [SV.good, SV.goodL]) (newsOk_fact (newsOk_nil _)))) (fun _ => (by repeat (first | exact trivial | refine ⟨rfl, ?_⟩))) (fun _ h1 => ?_)
       refine go Tryz.tbs_ok 1000 ?_
       refine ev_if_no rfl ?_
       refine go Tryz.tbs_ok 1000 ?_
       refine ev_callF (TF ) [] [.inl 1] rfl rfl (by decide) rfl (by simp) (fun _ => (by repeat (first | exact trivial | refine ⟨rfl, ?_⟩))) (fun _ h2 => ?_)
       refine go Tryz.tbs_ok 1000 ?_
       refine ev_if_no rfl ?_
       refine go Tryz.tbs_ok 1000 ?_
       refine ev_callF (TL ) [] [] rfl rfl (by decide) rfl (by simp) (fun _ => (by repeat (first | exact trivial | refine ⟨rfl, ?_⟩))) (fun _ h3 => ?_)
       refine go Tryz.tbs_ok 1000 ?_
       refine ev_if_yes (decide_eq_true (show (↑(b + t) : Int) ≥ 999999999 from (by omega))) ?_
       refine go Tryz.tbs_ok 1000 ?_
       refine ev_fin ⟨trivial, _, rfl, (()), rfl, (by trivial), Frm.sel [0, 1] rfl (by decide)⟩
     · rw [if_neg h99] at hR
       obtain ⟨f1, hf1⟩ : ∃ f : DK → DK × Int, f = fun D => appD D tB F := ⟨_, rfl⟩
       obtain ⟨f2, hf2⟩ : ∃ f : DK → DK × Int, f = fun D => syncD D tB := ⟨_, rfl⟩
       obtain ⟨f3, hf3⟩ : ∃ f : DK → DK × Int, f = fun D => renD D tB (nmB 99 (b + t + 1)) := ⟨_, rfl⟩
       have hD1 : okD (runD (ckL3 F (b + t + 1)) D).1 := runD_ok ckL3_ok hD
       have he : ckL3 F (b + t + 1) = [f1, f2, f3] := by rw [hf1, hf2, hf3]; rfl
       rw [he] at hR hD1
       have TP1 : Triple Tryz.prog 51 [.pointer (some ⟨p, 0, none⟩), .string ⟨#[116]⟩, .string F] [] [] FnV (fun v => .func (.func v.1) #[] v.2) (fun _ => True) (fun v => [ChgA p q s b t v f1]) := by
        rw [hf1]
        exact putF p q s b t tB F hF2
       have TP2 : Triple Tryz.prog 52 [.pointer (some ⟨p, 0, none⟩), .string ⟨#[116]⟩] [] [] FnV (fun v => .func (.func v.1) #[] v.2) (fun _ => True) (fun v => [ChgA p q s b t v f2]) := by
        rw [hf2]
        exact syncF p q s b t tB
       have TO := fun bx bw bn a1 c1 a2 c2 => one3 p q s b t bx bw bn (b + t + 1) (by omega) a1 c1 a2 c2 f1 f2 f3 hf3
       have TD := fun ia ic bw => doK p q s bad b t (Pt bw 29 [.pointer (some ⟨p, 0, none⟩)]) ia ic [f1, f2, f3] D hD
       unfold ptW at TD
       obtain ⟨G, hG⟩ : ∃ G, G = runD [f1, f2, f3] D := ⟨_, rfl⟩
       rw [← hG] at TD hR hD1
       by_cases hg : G.2 = 0
       · rw [hg, bad_zero] at TD
         rw [if_neg (by simpa using hg)] at hR
         have TN := namesM q G.1 hD1
         have hfew := hD1.few
         obtain ⟨L, hL⟩ : ∃ L, L = G.1.files.map nameEG := ⟨_, rfl⟩
         obtain ⟨n, hn⟩ : ∃ n, n = G.1.files.length := ⟨_, rfl⟩
         have hnl : n = L.length := by rw [hL, hn, List.length_map]
         have hLN : namesD G.1 = L := hL.symm
         rw [hLN] at hR
         rw [← hL, ← hn] at TN
         have TK := fun A c => lookR A L n c hnl (by omega)
         obtain ⟨o, ho⟩ : ∃ o, o = okN L := ⟨_, rfl⟩
         rw [← ho] at TK
         obtain ⟨b', hb'⟩ : ∃ b', b' = baseM L := ⟨_, rfl⟩
         obtain ⟨t', ht'⟩ : ∃ t', t' = tailsM L := ⟨_, rfl⟩
         obtain ⟨sl, hsl⟩ : ∃ sl, sl = staleM L := ⟨_, rfl⟩
         have hsn : sl.length ≤ 1000 := by rw [hsl]; have := stale_len L; omega
         rw [← hb', ← ht', ← hsl] at TK hR
         obtain ⟨ns, hns⟩ : ∃ ns, ns = sl.length := ⟨_, rfl⟩
         rw [← hns] at TK hsn
         obtain ⟨fs, hfs⟩ : ∃ fs, fs = remL sl := ⟨_, rfl⟩
         have T8 : ∀ A c, Triple Tryz.prog 41 [.pointer (some ⟨p, 0, none⟩), .slice A ns c] [Row 9 1 A ns c (sl.flatMap encS)] [] FnV (fun v => .func (.func v.1) #[] v.2) (fun _ => True) (fun it => [IterA p q s (b' : Nat) (t' : Nat) it fs]) := fun A c => by
          rw [hfs]
          exact removedF p q s (b' : Nat) (t' : Nat) A ns c sl hns (by omega)
         have T9 := fun ia ic => doA p q s bad (b' : Nat) (t' : Nat) ia ic fs G.1 hD1
         unfold ptW at T9
         rw [← hfs] at hR
         obtain ⟨H, hH⟩ : ∃ H, H = runD fs G.1 := ⟨_, rfl⟩
         rw [← hH] at T9 hR
         obtain ⟨bd, hbd⟩ : ∃ bd, bd = (bad || badE H.2) := ⟨_, rfl⟩
         rw [← hbd] at T9 hR
         subst hR
         refine triple_intro Tryz.tbs_ok Tryz.func21 rfl [.pt 0 p 0, .va (.slice A np cp)] [.box p 49 [.va (.pointer (some ⟨q, 0, none⟩)), .va (.int .i64 s), .bq bad, .va (.int .i64 (b : Nat)), .va (.int .i64 (t : Nat))], .fact (DiskM q D)] ⟨rfl, trivial, trivial⟩ rfl (by simp [SV.good, SV.goodL]) ?_
         intro E
         refine go Tryz.tbs_ok 1000 ?_
         refine ev_new fun b0 => ?_
         refine ev_call (TA ) [0, 1] [] (fun v0_ => [.box (p) 49 [.va (Value.pointer (some { block := q, off := 0 : Addr })), .va (Value.int IntKind.i64 s), .bq (bad), .va (Value.int IntKind.i64 (↑b : Int)), .va (Value.int IntKind.i64 (↑t : Int))], .fact (DiskM q D)]) rfl rfl (by decide) rfl (by simp) (fun _ => rfl) (fun _ => (newsOk_box (by simp [SV.good, SV.goodL]) (newsOk_fact (newsOk_nil _)))) (fun _ => (by repeat (first | exact trivial | refine ⟨rfl, ?_⟩))) (fun _ h1 => ?_)
         refine go Tryz.tbs_ok 1000 ?_
         refine ev_if_no rfl ?_
         refine go Tryz.tbs_ok 1000 ?_
         refine ev_callF (TF ) [] [.inl 1] rfl rfl (by decide) rfl (by simp) (fun _ => (by repeat (first | exact trivial | refine ⟨rfl, ?_⟩))) (fun _ h2 => ?_)
         refine go Tryz.tbs_ok 1000 ?_
         refine ev_if_no rfl ?_
         refine go Tryz.tbs_ok 1000 ?_
         refine ev_callF (TL ) [] [] rfl rfl (by decide) rfl (by simp) (fun _ => (by repeat (first | exact trivial | refine ⟨rfl, ?_⟩))) (fun _ h3 => ?_)
         refine go Tryz.tbs_ok 1000 ?_
         refine ev_if_no (decide_eq_false (show ¬(↑(b + t) : Int) ≥ 999999999 from (by omega))) ?_
         refine go Tryz.tbs_ok 1000 ?_
         refine ev_callF (TL ) [] [] rfl rfl (by decide) rfl (by simp) (fun _ => (by repeat (first | exact trivial | refine ⟨rfl, ?_⟩))) (fun _ h4 => ?_)
         refine go Tryz.tbs_ok 1000 ?_
         refine ev_wrapN (b + t + 1) (by constructor <;> omega) (by rfl) ?_
         refine ev_new fun b5 => ?_
         refine ev_stop (go_draw Tryz.tbs_ok false [2] [(0,true),(1,true),(2,true),(4,true),(6,true),(3,false),(5,false),(7,false),(8,false),(9,false),(10,false)] rfl ?_)
         refine go Tryz.tbs_ok 1000 ?_
         refine ev_need ⟨⟨(by repeat (first | exact trivial | refine ⟨rfl, ?_⟩)), rfl⟩, by kernel_rfl⟩ ?_
         refine ev_callF (TP1 ) [] [] rfl rfl (by decide) rfl (by simp) (fun _ => (by repeat (first | exact trivial | refine ⟨rfl, ?_⟩))) (fun ⟨x6, x7⟩ h8 => ?_)
         refine go Tryz.tbs_ok 1000 ?_
         refine ev_need ⟨⟨(by repeat (first | exact trivial | refine ⟨rfl, ?_⟩)), rfl⟩, by kernel_rfl⟩ ?_
         refine ev_callF (TP2 ) [] [] rfl rfl (by decide) rfl (by simp) (fun _ => (by repeat (first | exact trivial | refine ⟨rfl, ?_⟩))) (fun ⟨x9, x10⟩ h11 => ?_)
         refine go Tryz.tbs_ok 1000 ?_
         refine ev_need ⟨⟨(by repeat (first | exact trivial | refine ⟨rfl, ?_⟩)), rfl⟩, by kernel_rfl⟩ ?_
         refine ev_new fun b12 => ?_
         refine ev_need ⟨⟨(by repeat (first | exact trivial | refine ⟨rfl, ?_⟩)), rfl⟩, by kernel_rfl⟩ ?_
         refine ev_callF (TO (b12) (b0) (b5) (x6) (x7) (x9) (x10)) [4, 5, 3, 6] [] rfl rfl (by decide) rfl (by simp) (fun _ => (by repeat (first | exact trivial | refine ⟨rfl, ?_⟩))) (fun ⟨x13, x14⟩ h15 => ?_)
         refine go Tryz.tbs_ok 1000 ?_
         refine ev_need ⟨⟨(by repeat (first | exact trivial | refine ⟨rfl, ?_⟩)), rfl⟩, by kernel_rfl⟩ ?_
         refine ev_call (TD (x13) (x14) (b0)) [0, 1, 2, 4] [.inl 0] (fun v0_ => [.box (p) 49 [.va (Value.pointer (some { block := q, off := 0 : Addr })), .va (Value.int IntKind.i64 s), .bq (bad), .va (Value.int IntKind.i64 (↑b : Int)), .va (Value.int IntKind.i64 (↑t : Int))], .fact (DiskM q G.fst), .box (b0) 29 [SV.pt 0 p 0]]) rfl rfl (by decide) rfl (by simp) (fun _ => rfl) (fun _ => (newsOk_box (by repeat (first | exact trivial | refine ⟨rfl, ?_⟩ | refine ⟨trivial, ?_⟩)) (newsOk_fact (newsOk_box (by repeat (first | exact trivial | refine ⟨rfl, ?_⟩ | refine ⟨trivial, ?_⟩)) (newsOk_nil _))))) (fun _ => (by repeat (first | exact trivial | refine ⟨rfl, ?_⟩))) (fun _ h16 => ?_)
         refine go Tryz.tbs_ok 1000 ?_
         refine ev_need ⟨⟨(by repeat (first | exact trivial | refine ⟨rfl, ?_⟩)), rfl⟩, by kernel_rfl⟩ ?_
         refine ev_need (by kernel_rfl) ?_
         refine ev_if_no rfl ?_
         refine go Tryz.tbs_ok 1000 ?_
         refine ev_callF (TN ) [1] [] rfl rfl (by decide) rfl (by simp) (fun _ => (by repeat (first | exact trivial | refine ⟨rfl, ?_⟩))) (fun ⟨x17, x18⟩ h19 => ?_)
         refine go Tryz.tbs_ok 1000 ?_
         refine ev_callF (TK (x17) (x18)) [] [.inl 0, .inr 7] rfl rfl (by decide) rfl (by simp) (fun _ => (by repeat (first | exact trivial | refine ⟨rfl, ?_⟩))) (fun ⟨x20, x21⟩ h22 => ?_)
         refine go Tryz.tbs_ok 1000 ?_
         refine ev_new fun b23 => ?_
         refine ev_stop (go_draw Tryz.tbs_ok false [2] [(0,true),(1,true),(2,true),(3,false),(4,false),(5,false)] rfl ?_)
         refine go Tryz.tbs_ok 1000 ?_
         refine ev_need ⟨⟨(by repeat (first | exact trivial | refine ⟨rfl, ?_⟩)), rfl⟩, by kernel_rfl⟩ ?_
         refine ev_callF (T8 (x20) (x21)) [8] [] rfl rfl (by decide) rfl (by simp) (fun _ => (by repeat (first | exact trivial | refine ⟨rfl, ?_⟩))) (fun ⟨x24, x25⟩ h26 => ?_)
         refine go Tryz.tbs_ok 1000 ?_
         refine ev_need ⟨⟨(by repeat (first | exact trivial | refine ⟨rfl, ?_⟩)), rfl⟩, by kernel_rfl⟩ ?_
         refine ev_call (T9 (x24) (x25)) [0, 8, 1] [.inl 0] (fun v0_ => [.box (p) 49 [.va (Value.pointer (some { block := q, off := 0 : Addr })), .va (Value.int IntKind.i64 s), .bq (bd), .va (Value.int IntKind.i64 (↑b' : Int)), .va (Value.int IntKind.i64 (↑t' : Int))], .fact (DiskM q H.fst)]) rfl rfl (by decide) rfl (by simp) (fun _ => rfl) (fun _ => (newsOk_box (by simp [SV.good, SV.goodL]) (newsOk_fact (newsOk_nil _)))) (fun _ => (by repeat (first | exact trivial | refine ⟨rfl, ?_⟩))) (fun _ h27 => ?_)
         refine go Tryz.tbs_ok 1000 ?_
         refine ev_need ⟨⟨(by repeat (first | exact trivial | refine ⟨rfl, ?_⟩)), rfl⟩, by kernel_rfl⟩ ?_
         refine ev_need (by kernel_rfl) ?_
         refine ev_fin ⟨trivial, _, rfl, (()), rfl, (by trivial), Frm.sel [0, 8] rfl (by decide)⟩
       · rw [if_pos hg] at hR
         obtain ⟨bd, hbd⟩ : ∃ bd, bd = (bad || badE G.2) := ⟨_, rfl⟩
         rw [← hbd] at TD hR
         subst hR
         refine triple_intro Tryz.tbs_ok Tryz.func21 rfl [.pt 0 p 0, .va (.slice A np cp)] [.box p 49 [.va (.pointer (some ⟨q, 0, none⟩)), .va (.int .i64 s), .bq bad, .va (.int .i64 (b : Nat)), .va (.int .i64 (t : Nat))], .fact (DiskM q D)] ⟨rfl, trivial, trivial⟩ rfl (by simp [SV.good, SV.goodL]) ?_
         intro E
         refine go Tryz.tbs_ok 1000 ?_
         refine ev_new fun b0 => ?_
         refine ev_call (TA ) [0, 1] [] (fun v0_ => [.box (p) 49 [.va (Value.pointer (some { block := q, off := 0 : Addr })), .va (Value.int IntKind.i64 s), .bq (bad), .va (Value.int IntKind.i64 (↑b : Int)), .va (Value.int IntKind.i64 (↑t : Int))], .fact (DiskM q D)]) rfl rfl (by decide) rfl (by simp) (fun _ => rfl) (fun _ => (newsOk_box (by simp [SV.good, SV.goodL]) (newsOk_fact (newsOk_nil _)))) (fun _ => (by repeat (first | exact trivial | refine ⟨rfl, ?_⟩))) (fun _ h1 => ?_)
         refine go Tryz.tbs_ok 1000 ?_
         refine ev_if_no rfl ?_
         refine go Tryz.tbs_ok 1000 ?_
         refine ev_callF (TF ) [] [.inl 1] rfl rfl (by decide) rfl (by simp) (fun _ => (by repeat (first | exact trivial | refine ⟨rfl, ?_⟩))) (fun _ h2 => ?_)
         refine go Tryz.tbs_ok 1000 ?_
         refine ev_if_no rfl ?_
         refine go Tryz.tbs_ok 1000 ?_
         refine ev_callF (TL ) [] [] rfl rfl (by decide) rfl (by simp) (fun _ => (by repeat (first | exact trivial | refine ⟨rfl, ?_⟩))) (fun _ h3 => ?_)
         refine go Tryz.tbs_ok 1000 ?_
         refine ev_if_no (decide_eq_false (show ¬(↑(b + t) : Int) ≥ 999999999 from (by omega))) ?_
         refine go Tryz.tbs_ok 1000 ?_
         refine ev_callF (TL ) [] [] rfl rfl (by decide) rfl (by simp) (fun _ => (by repeat (first | exact trivial | refine ⟨rfl, ?_⟩))) (fun _ h4 => ?_)
         refine go Tryz.tbs_ok 1000 ?_
         refine ev_wrapN (b + t + 1) (by constructor <;> omega) (by rfl) ?_
         refine ev_new fun b5 => ?_
         refine ev_stop (go_draw Tryz.tbs_ok false [2] [(0,true),(1,true),(2,true),(4,true),(6,true),(3,false),(5,false),(7,false),(8,false),(9,false),(10,false)] rfl ?_)
         refine go Tryz.tbs_ok 1000 ?_
         refine ev_need ⟨⟨(by repeat (first | exact trivial | refine ⟨rfl, ?_⟩)), rfl⟩, by kernel_rfl⟩ ?_
         refine ev_callF (TP1 ) [] [] rfl rfl (by decide) rfl (by simp) (fun _ => (by repeat (first | exact trivial | refine ⟨rfl, ?_⟩))) (fun ⟨x6, x7⟩ h8 => ?_)
         refine go Tryz.tbs_ok 1000 ?_
         refine ev_need ⟨⟨(by repeat (first | exact trivial | refine ⟨rfl, ?_⟩)), rfl⟩, by kernel_rfl⟩ ?_
         refine ev_callF (TP2 ) [] [] rfl rfl (by decide) rfl (by simp) (fun _ => (by repeat (first | exact trivial | refine ⟨rfl, ?_⟩))) (fun ⟨x9, x10⟩ h11 => ?_)
         refine go Tryz.tbs_ok 1000 ?_
         refine ev_need ⟨⟨(by repeat (first | exact trivial | refine ⟨rfl, ?_⟩)), rfl⟩, by kernel_rfl⟩ ?_
         refine ev_new fun b12 => ?_
         refine ev_need ⟨⟨(by repeat (first | exact trivial | refine ⟨rfl, ?_⟩)), rfl⟩, by kernel_rfl⟩ ?_
         refine ev_callF (TO (b12) (b0) (b5) (x6) (x7) (x9) (x10)) [4, 5, 3, 6] [] rfl rfl (by decide) rfl (by simp) (fun _ => (by repeat (first | exact trivial | refine ⟨rfl, ?_⟩))) (fun ⟨x13, x14⟩ h15 => ?_)
         refine go Tryz.tbs_ok 1000 ?_
         refine ev_need ⟨⟨(by repeat (first | exact trivial | refine ⟨rfl, ?_⟩)), rfl⟩, by kernel_rfl⟩ ?_
         refine ev_call (TD (x13) (x14) (b0)) [0, 1, 2, 4] [.inl 0] (fun v0_ => [.box (p) 49 [.va (Value.pointer (some { block := q, off := 0 : Addr })), .va (Value.int IntKind.i64 s), .bq (bd), .va (Value.int IntKind.i64 (↑b : Int)), .va (Value.int IntKind.i64 (↑t : Int))], .fact (DiskM q G.fst), .box (b0) 29 [SV.pt 0 p 0]]) rfl rfl (by decide) rfl (by simp) (fun _ => rfl) (fun _ => (newsOk_box (by repeat (first | exact trivial | refine ⟨rfl, ?_⟩ | refine ⟨trivial, ?_⟩)) (newsOk_fact (newsOk_box (by repeat (first | exact trivial | refine ⟨rfl, ?_⟩ | refine ⟨trivial, ?_⟩)) (newsOk_nil _))))) (fun _ => (by repeat (first | exact trivial | refine ⟨rfl, ?_⟩))) (fun _ h16 => ?_)
         refine go Tryz.tbs_ok 1000 ?_
         refine ev_need ⟨⟨(by repeat (first | exact trivial | refine ⟨rfl, ?_⟩)), rfl⟩, by kernel_rfl⟩ ?_
         refine ev_need (by kernel_rfl) ?_
         refine ev_if_yes (ne_yes (by with_reducible assumption)) ?_
         refine go Tryz.tbs_ok 1000 ?_
         refine ev_fin ⟨trivial, _, rfl, (()), rfl, (by trivial), Frm.sel [0, 1] rfl (by decide)⟩
   · rw [if_pos hf] at hR
     subst hR
     refine triple_intro Tryz.tbs_ok Tryz.func21 rfl [.pt 0 p 0, .va (.slice A np cp)] [.box p 49 [.va (.pointer (some ⟨q, 0, none⟩)), .va (.int .i64 s), .bq bad, .va (.int .i64 (b : Nat)), .va (.int .i64 (t : Nat))], .fact (DiskM q D)] ⟨rfl, trivial, trivial⟩ rfl (by simp [SV.good, SV.goodL]) ?_
     intro E
     refine go Tryz.tbs_ok 1000 ?_
     refine ev_new fun b0 => ?_
     refine ev_call (TA ) [0, 1] [] (fun v0_ => [.box (p) 49 [.va (Value.pointer (some { block := q, off := 0 : Addr })), .va (Value.int IntKind.i64 s), .bq (bad), .va (Value.int IntKind.i64 (↑b : Int)), .va (Value.int IntKind.i64 (↑t : Int))], .fact (DiskM q D)]) rfl rfl (by decide) rfl (by simp) (fun _ => rfl) (fun _ => (newsOk_box (by simp [SV.good, SV.goodL]) (newsOk_fact (newsOk_nil _)))) (fun _ => (by repeat (first | exact trivial | refine ⟨rfl, ?_⟩))) (fun _ h1 => ?_)
     refine go Tryz.tbs_ok 1000 ?_
     refine ev_if_no rfl ?_
     refine go Tryz.tbs_ok 1000 ?_
     refine ev_callF (TF ) [] [.inl 1] rfl rfl (by decide) rfl (by simp) (fun _ => (by repeat (first | exact trivial | refine ⟨rfl, ?_⟩))) (fun _ h2 => ?_)
     refine go Tryz.tbs_ok 1000 ?_
     refine ev_if_yes (ne_yes (by with_reducible assumption)) ?_
     refine go Tryz.tbs_ok 1000 ?_
     refine ev_fin ⟨trivial, _, rfl, (()), rfl, (by trivial), Frm.sel [0, 1] rfl (by decide)⟩
 · rw [h] at TA hR
   rw [if_pos (by decide)] at hR
   subst hR
   refine triple_intro Tryz.tbs_ok Tryz.func21 rfl [.pt 0 p 0, .va (.slice A np cp)] [.box p 49 [.va (.pointer (some ⟨q, 0, none⟩)), .va (.int .i64 s), .bq bad, .va (.int .i64 (b : Nat)), .va (.int .i64 (t : Nat))], .fact (DiskM q D)] ⟨rfl, trivial, trivial⟩ rfl (by simp [SV.good, SV.goodL]) ?_
   intro E
   refine go Tryz.tbs_ok 1000 ?_
   refine ev_new fun b0 => ?_
   refine ev_call (TA ) [0, 1] [] (fun v0_ => [.box (p) 49 [.va (Value.pointer (some { block := q, off := 0 : Addr })), .va (Value.int IntKind.i64 s), .bq (bad), .va (Value.int IntKind.i64 (↑b : Int)), .va (Value.int IntKind.i64 (↑t : Int))], .fact (DiskM q D)]) rfl rfl (by decide) rfl (by simp) (fun _ => rfl) (fun _ => (newsOk_box (by simp [SV.good, SV.goodL]) (newsOk_fact (newsOk_nil _)))) (fun _ => (by repeat (first | exact trivial | refine ⟨rfl, ?_⟩))) (fun _ h1 => ?_)
   refine go Tryz.tbs_ok 1000 ?_
   refine ev_if_yes rfl ?_
   refine go Tryz.tbs_ok 1000 ?_
   refine ev_fin ⟨trivial, _, rfl, (()), rfl, (by trivial), Frm.sel [0, 1] rfl (by decide)⟩
end Go.Proofs.YtjlfdfmkofbccaaGreatDoor
namespace Go.Proofs.YtjlfdfmkofbccaaGreatDoor
open Go.Sy
theorem appLit (p q : Nat) {W W' : WK} {D D' : DK} {e : Int} (ps : List ByteArray) (bx n : Nat) (vs : List Value) (hvs : vs = ps.flatMap encS) (hn : n = ps.length) (h1 : n ≤ 10000) (h2 : ∀ p ∈ ps, p.size ≤ 900000000) (hD : okD D) (hW : okW W) (h : appW W D ps = (W', D', e)) :
 Triple Tryz.prog 19 [.pointer (some ⟨p, 0, none⟩), .slice (some ⟨bx, 0, none⟩) n n] [WalM p q W, DiskM q D] [TabA, Pt bx 9 vs] Unit (fun _ => .int .i64 e) (fun _ => True) (fun _ => [WalM p q W', DiskM q D']) := by
 have := (appWT p q W D (some ⟨bx, 0, none⟩) ps n n hn h1 h2 hD hW).reads (N' := [TabA, Pt bx 9 vs]) (fun X hX => by
  simp only [List.mem_cons, List.not_mem_nil, or_false] at hX
  rcases hX with rfl | rfl
  · exact ⟨_, List.mem_cons_self, fun _ q => q⟩
  · exact ⟨_, List.mem_cons_of_mem _ List.mem_cons_self, fun _ q => by rw [← hvs]; exact Pt.rd q (by rw [hvs, flat_len encS_len, hn])⟩)
 rw [h] at this
 exact this
theorem ckLit (p q : Nat) {W W' : WK} {D D' : DK} {e : Int} (ps : List ByteArray) (bx n : Nat) (vs : List Value) (hvs : vs = ps.flatMap encS) (hn : n = ps.length) (h1 : n ≤ 10000) (h2 : ∀ p ∈ ps, p.size ≤ 900000000) (hD : okD D) (hW : okW W) (h : ckW W D ps = (W', D', e)) :
 Triple Tryz.prog 21 [.pointer (some ⟨p, 0, none⟩), .slice (some ⟨bx, 0, none⟩) n n] [WalM p q W, DiskM q D] [TabA, Pt bx 9 vs] Unit (fun _ => .int .i64 e) (fun _ => True) (fun _ => [WalM p q W', DiskM q D']) := by
 have := (ckWT p q W D (some ⟨bx, 0, none⟩) ps n n hn h1 h2 hD hW).reads (N' := [TabA, Pt bx 9 vs]) (fun X hX => by
  simp only [List.mem_cons, List.not_mem_nil, or_false] at hX
  rcases hX with rfl | rfl
  · exact ⟨_, List.mem_cons_self, fun _ q => q⟩
  · exact ⟨_, List.mem_cons_of_mem _ List.mem_cons_self, fun _ q => by rw [← hvs]; exact Pt.rd q (by rw [hvs, flat_len encS_len, hn])⟩)
 rw [h] at this
 exact this
theorem openLit (q : Nat) {D D' : DK} {W : WK} {l : List ByteArray} (hD : okD D) (h : openD D = (D', 0, W, l)) :
 Triple Tryz.prog 12 [.pointer (some ⟨q, 0, none⟩)] [DiskM q D] [TabA] (Nat × Option Addr × Nat) (fun (p, C, c) => .tuple #[.pointer (some ⟨p, 0, none⟩), .slice C l.length c, .int .i64 0]) (fun _ => True) (fun (p, C, c) => [WalM p q W, DiskM q D', Row 9 1 C l.length c (l.flatMap encS)]) := by
 have := openOk q D hD (by rw [h])
 rw [h] at this
 exact this
theorem sameLit (A : Option Addr) (L M : List ByteArray) (m c n bx : Nat) (vs : List Value) (hvs : vs = M.flatMap encS) (hm : m = L.length) (hn : n = M.length) (h1 : m ≤ 1000000) (b : Bool) (hb : b = decide (L = M)) :
 Triple Tryz.prog 24 [.slice A m c, .slice (some ⟨bx, 0, none⟩) n n] [] [Row 9 1 A m c (L.flatMap encS), Pt bx 9 vs] Unit (fun _ => .bool b) (fun _ => True) (fun _ => []) := by
 rw [hb]
 exact (sameTexts A (some ⟨bx, 0, none⟩) L M m c n n hm hn h1).reads (fun X hX => by
  simp only [List.mem_cons, List.not_mem_nil, or_false] at hX
  rcases hX with rfl | rfl
  · exact ⟨_, List.mem_cons_self, fun _ q => Row.rd q⟩
  · exact ⟨_, List.mem_cons_of_mem _ List.mem_cons_self, fun _ q => by rw [← hvs]; exact Pt.rd q (by rw [hvs, flat_len encS_len, hn])⟩)
theorem tiny_le {ps : List ByteArray} (h : ps.all (fun p => decide (p.size ≤ 8192)) = true) : ∀ p ∈ ps, p.size ≤ 900000000 := fun p hp => Nat.le_trans (small_of h p hp) (by decide)
set_option maxHeartbeats 8000000 in
set_option maxRecDepth 100000 in
theorem worksT : Triple Tryz.prog 18 [] [] [TabA] Unit (fun _ => .bool true) (fun _ => True) (fun _ => []) := by
 obtain ⟨D1, D2, D3, D4, D5, D6, D7, D8, D9, D10, ⟨o0, o1, o2, o3, o4, o5, o6, o7, o8, o9, o10⟩, e0, e1, e2, e3, e4, e5, s4, e6, e7, e8, e9, e10, e11, e12, e13, e14⟩ := works_chain
 have T0 : Triple Tryz.prog 11 [.int .i64 50000] [] [] Nat (fun p => .tuple #[.pointer (some ⟨p, 0, none⟩), .int .i64 0]) (fun _ => True) (fun p => [DiskM p D0_]) := newM 50000 (by decide) (by decide)
 have T1 := fun q => openLit q o0 e0
 have T2 : ∀ p q bx, Triple Tryz.prog 19 [.pointer (some ⟨p, 0, none⟩), .slice (some ⟨bx, 0, none⟩) 2 2] [WalM p q W0_, DiskM q D0_] [TabA, Pt bx 9 [.string ⟨#[97]⟩, .string ⟨#[98]⟩]] Unit (fun _ => .int .i64 0) (fun _ => True) (fun _ => [WalM p q W1_, DiskM q D1]) := fun p q bx => appLit p q [ch 97, ch 98] bx 2 _ rfl rfl (by decide) (tiny_le (by decide)) o0 (by unfold okW; decide) e1
 have T3 : ∀ p q, Triple Tryz.prog 20 [.pointer (some ⟨p, 0, none⟩)] [WalM p q W1_, DiskM q D1] [TabA] Unit (fun _ => .int .i64 0) (fun _ => True) (fun _ => [WalM p q W1_, DiskM q D2]) := fun p q => by
  have := syncWT p q W1_ D1 o1 (by unfold okW; decide)
  rw [e2] at this
  exact this
 have T4 : ∀ p q bx, Triple Tryz.prog 19 [.pointer (some ⟨p, 0, none⟩), .slice (some ⟨bx, 0, none⟩) 1 1] [WalM p q W1_, DiskM q D2] [TabA, Pt bx 9 [.string ⟨#[99]⟩]] Unit (fun _ => .int .i64 0) (fun _ => True) (fun _ => [WalM p q W1_, DiskM q D3]) := fun p q bx => appLit p q [ch 99] bx 1 _ rfl rfl (by decide) (tiny_le (by decide)) o2 (by unfold okW; decide) e3
 have T5 : ∀ q bx, Triple Tryz.prog 13 [.pointer (some ⟨q, 0, none⟩), .slice (some ⟨bx, 0, none⟩) 1 1] [DiskM q D3] [Pt bx 3 [.int .i64 3]] Unit (fun _ => .int .i64 0) (fun _ => True) (fun _ => [DiskM q D4]) := fun q bx => by
  have := (crashM q D3 (some ⟨bx, 0, none⟩) 1 1 [3] o3 rfl).reads (N' := [Pt bx 3 [.int .i64 3]]) (fun X hX => ⟨_, List.mem_cons_self, fun _ q => by rw [List.mem_singleton.1 hX]; exact Pt.rd q rfl⟩)
  rw [e4] at this
  exact this
 have T6 : ∀ q, Triple Tryz.prog 14 [.pointer (some ⟨q, 0, none⟩)] [DiskM q D4] [] Unit (fun _ => .int .i64 0) (fun _ => True) (fun _ => [DiskM q D5]) := fun q => by
  have := startM q D4 o4 (by rw [s4]; decide) (by rw [s4]; decide)
  rw [e5] at this
  exact this
 have T7 : ∀ p q bx, Triple Tryz.prog 19 [.pointer (some ⟨p, 0, none⟩), .slice (some ⟨bx, 0, none⟩) 1 1] [WalM p q W1_, DiskM q D5] [TabA, Pt bx 9 [.string ⟨#[100]⟩]] Unit (fun _ => .int .i64 41) (fun _ => True) (fun _ => [WalM p q W1_, DiskM q D5]) := fun p q bx => appLit p q [ch 100] bx 1 _ rfl rfl (by decide) (tiny_le (by decide)) o5 (by unfold okW; decide) e6
 have T8 := fun q => openLit q o5 e7
 have T9 : ∀ A c bx, Triple Tryz.prog 24 [.slice A 2 c, .slice (some ⟨bx, 0, none⟩) 2 2] [] [Row 9 1 A 2 c ([ch 97, ch 98].flatMap encS), Pt bx 9 [.string ⟨#[97]⟩, .string ⟨#[98]⟩]] Unit (fun _ => .bool true) (fun _ => True) (fun _ => []) := fun A c bx => sameLit A [ch 97, ch 98] [ch 97, ch 98] 2 c 2 bx _ rfl rfl rfl (by decide) true (decide_eq_true rfl).symm
 have T10 : ∀ p q bx, Triple Tryz.prog 19 [.pointer (some ⟨p, 0, none⟩), .slice (some ⟨bx, 0, none⟩) 2 2] [WalM p q W6_, DiskM q D6] [TabA, Pt bx 9 [.string z8, .string z8]] Unit (fun _ => .int .i64 0) (fun _ => True) (fun _ => [WalM p q W6_, DiskM q D7]) := fun p q bx => appLit p q [z8, z8] bx 2 _ rfl rfl (by decide) (fun p hp => by
  simp only [List.mem_cons, List.not_mem_nil, or_false, or_self] at hp
  rw [hp, z8_size]
  decide) o6 (by unfold okW; decide) e8
 have T11 : ∀ p q bx, Triple Tryz.prog 19 [.pointer (some ⟨p, 0, none⟩), .slice (some ⟨bx, 0, none⟩) 1 1] [WalM p q W6_, DiskM q D7] [TabA, Pt bx 9 [.string ⟨#[101]⟩]] Unit (fun _ => .int .i64 0) (fun _ => True) (fun _ => [WalM p q W8_, DiskM q D8]) := fun p q bx => appLit p q [ch 101] bx 1 _ rfl rfl (by decide) (tiny_le (by decide)) o7 (by unfold okW; decide) e9
 have T12 : ∀ p q, Triple Tryz.prog 22 [.pointer (some ⟨p, 0, none⟩)] [WalM p q W8_, DiskM q D8] [TabA] Unit (fun _ => .int .i64 2) (fun _ => True) (fun _ => [WalM p q W8_, DiskM q D8]) := fun p q => by
  have := segsWT p q W8_ D8 o8 (by unfold okW; decide)
  rw [e10] at this
  exact this
 have T13 : ∀ p q bx, Triple Tryz.prog 21 [.pointer (some ⟨p, 0, none⟩), .slice (some ⟨bx, 0, none⟩) 1 1] [WalM p q W8_, DiskM q D8] [TabA, Pt bx 9 [.string ⟨#[120]⟩]] Unit (fun _ => .int .i64 0) (fun _ => True) (fun _ => [WalM p q W9_, DiskM q D9]) := fun p q bx => ckLit p q [ch 120] bx 1 _ rfl rfl (by decide) (tiny_le (by decide)) o8 (by unfold okW; decide) e11
 have T14 : ∀ p q bx, Triple Tryz.prog 19 [.pointer (some ⟨p, 0, none⟩), .slice (some ⟨bx, 0, none⟩) 1 1] [WalM p q W9_, DiskM q D9] [TabA, Pt bx 9 [.string ⟨#[121]⟩]] Unit (fun _ => .int .i64 0) (fun _ => True) (fun _ => [WalM p q W10_, DiskM q D10]) := fun p q bx => appLit p q [ch 121] bx 1 _ rfl rfl (by decide) (tiny_le (by decide)) o9 (by unfold okW; decide) e12
 have T15 := fun q => openLit q o10 e13
 have T16 : ∀ q, Triple Tryz.prog 26 [.pointer (some ⟨q, 0, none⟩)] [DiskM q D10] [] (Option Addr × Nat) (fun (C, e) => .slice C 2 e) (fun _ => True) (fun (C, e) => [DiskM q D10, Row 9 1 C 2 e ([⟨#[99, 51]⟩, ⟨#[115, 52]⟩].flatMap encS)]) := fun q => by
  have := namesM q D10 o10
  have hl : D10.files.length = 2 := by
   have h2 := congrArg List.length e14
   unfold namesD at h2
   rwa [List.length_map] at h2
  unfold namesD at e14
  rw [e14, hl] at this
  exact this
 have T17 : ∀ A c bx, Triple Tryz.prog 24 [.slice A 2 c, .slice (some ⟨bx, 0, none⟩) 2 2] [] [Row 9 1 A 2 c (([⟨#[99, 51]⟩, ⟨#[115, 52]⟩] : List ByteArray).flatMap encS), Pt bx 9 [.string ⟨#[99, 51]⟩, .string ⟨#[115, 52]⟩]] Unit (fun _ => .bool true) (fun _ => True) (fun _ => []) := fun A c bx => sameLit A [⟨#[99, 51]⟩, ⟨#[115, 52]⟩] [⟨#[99, 51]⟩, ⟨#[115, 52]⟩] 2 c 2 bx _ rfl rfl rfl (by decide) true (decide_eq_true rfl).symm
 have T18 : ∀ A c bx, Triple Tryz.prog 24 [.slice A 2 c, .slice (some ⟨bx, 0, none⟩) 2 2] [] [Row 9 1 A 2 c ([ch 120, ch 121].flatMap encS), Pt bx 9 [.string ⟨#[120]⟩, .string ⟨#[121]⟩]] Unit (fun _ => .bool true) (fun _ => True) (fun _ => []) := fun A c bx => sameLit A [ch 120, ch 121] [ch 120, ch 121] 2 c 2 bx _ rfl rfl rfl (by decide) true (decide_eq_true rfl).symm
 obtain ⟨zl, hzl⟩ : ∃ zl : List UInt8, zl = List.replicate 8192 0 := ⟨_, rfl⟩
 have hz8 : z8 = ⟨zl.toArray⟩ := by rw [hzl]; rfl
 rw [hz8] at T10
 have hlz : 8192 = zl.length := by rw [hzl, List.length_replicate]
 refine triple_intro Tryz.tbs_ok Tryz.func18 rfl [] [] trivial rfl (by simp) ?_
 intro E
 refine go Tryz.tbs_ok 1000 ?_
 refine ev_callF (T0 ) [] [] rfl rfl (by decide) rfl (by simp) (fun _ => (by repeat (first | exact trivial | refine ⟨rfl, ?_⟩))) (fun x0 h1 => ?_)
 refine go Tryz.tbs_ok 1000 ?_
 refine ev_callF (T1 (x0)) [0] [.inl 0] rfl rfl (by decide) rfl (by simp) (fun _ => (by repeat (first | exact trivial | refine ⟨rfl, ?_⟩))) (fun ⟨x2, x3, x4⟩ h5 => ?_)
 refine go Tryz.tbs_ok 1000 ?_
 refine ev_if_no rfl ?_
 refine go Tryz.tbs_ok 1000 ?_
 refine ev_if_no rfl ?_
 refine go Tryz.tbs_ok 1000 ?_
 refine ev_if_no rfl ?_
 refine go Tryz.tbs_ok 1000 ?_
 refine ev_new fun b6 => ?_
 refine ev_callF (T2 (x2) (x0) (b6)) [0, 1] [.inl 0, .inr 3] rfl rfl (by decide) rfl (by simp) (fun _ => (by repeat (first | exact trivial | refine ⟨rfl, ?_⟩))) (fun _ h7 => ?_)
 refine go Tryz.tbs_ok 1000 ?_
 refine ev_callF (T3 (x2) (x0)) [0, 1] [.inl 0] rfl rfl (by decide) rfl (by simp) (fun _ => (by repeat (first | exact trivial | refine ⟨rfl, ?_⟩))) (fun _ h8 => ?_)
 refine go Tryz.tbs_ok 1000 ?_
 refine ev_new fun b9 => ?_
 refine ev_callF (T4 (x2) (x0) (b9)) [0, 1] [.inl 0, .inr 4] rfl rfl (by decide) rfl (by simp) (fun _ => (by repeat (first | exact trivial | refine ⟨rfl, ?_⟩))) (fun _ h10 => ?_)
 refine go Tryz.tbs_ok 1000 ?_
 refine ev_new fun b11 => ?_
 refine ev_callF (T5 (x0) (b11)) [1] [.inr 5] rfl rfl (by decide) rfl (by simp) (fun _ => (by repeat (first | exact trivial | refine ⟨rfl, ?_⟩))) (fun _ h12 => ?_)
 refine go Tryz.tbs_ok 1000 ?_
 refine ev_callF (T6 (x0)) [1] [] rfl rfl (by decide) rfl (by simp) (fun _ => (by repeat (first | exact trivial | refine ⟨rfl, ?_⟩))) (fun _ h13 => ?_)
 refine go Tryz.tbs_ok 1000 ?_
 refine ev_new fun b14 => ?_
 refine ev_callF (T7 (x2) (x0) (b14)) [0, 1] [.inl 0, .inr 6] rfl rfl (by decide) rfl (by simp) (fun _ => (by repeat (first | exact trivial | refine ⟨rfl, ?_⟩))) (fun _ h15 => ?_)
 refine go Tryz.tbs_ok 1000 ?_
 refine ev_callF (T8 (x0)) [1] [.inl 0] rfl rfl (by decide) rfl (by simp) (fun _ => (by repeat (first | exact trivial | refine ⟨rfl, ?_⟩))) (fun ⟨x16, x17, x18⟩ h19 => ?_)
 refine go Tryz.tbs_ok 1000 ?_
 refine ev_if_no rfl ?_
 refine go Tryz.tbs_ok 1000 ?_
 refine ev_if_no rfl ?_
 refine go Tryz.tbs_ok 1000 ?_
 refine ev_if_no rfl ?_
 refine go Tryz.tbs_ok 1000 ?_
 refine ev_if_no rfl ?_
 refine go Tryz.tbs_ok 1000 ?_
 refine ev_if_no rfl ?_
 refine go Tryz.tbs_ok 1000 ?_
 refine ev_if_no rfl ?_
 refine go Tryz.tbs_ok 1000 ?_
 refine ev_if_no rfl ?_
 refine go Tryz.tbs_ok 1000 ?_
 refine ev_new fun b20 => ?_
 refine ev_callF (T9 (x17) (x18) (b20)) [] [.inr 8, .inr 9] rfl rfl (by decide) rfl (by simp) (fun _ => (by repeat (first | exact trivial | refine ⟨rfl, ?_⟩))) (fun _ h21 => ?_)
 refine go Tryz.tbs_ok 1000 ?_
 refine ev_if_no rfl ?_
 refine go Tryz.tbs_ok 1000 ?_
 refine ev_stop (go_make (sz := 1) Tryz.tbs_ok (8192) (8192) rfl rfl rfl rfl rfl rfl rfl rfl rfl (by omega) (le_max (by omega)) (le_bytes (by omega) (by decide)) (fun _ => (by repeat (first | exact trivial | refine ⟨rfl, ?_⟩))) (fun b22 => ?_))
 refine go Tryz.tbs_ok 1000 ?_
 have hrep : ((List.replicate 8192 ()).flatMap fun _ => [Value.int .u8 0]) = (List.replicate 8192 (0 : UInt8)).flatMap encC := flat_rep (enc := encC) (z := 0) 8192
 refine go_turn 10 (Row 5 1 (some ⟨b22, 0, none⟩) 8192 8192 ((List.replicate 8192 ()).flatMap fun _ => [.int .u8 0])) (fun _ : Unit => Row 5 1 (some ⟨b22, 0, none⟩) 8192 8192 (zl.flatMap encC)) rfl (fun h p => ⟨(), by rw [hzl, ← hrep]; exact p⟩) (fun _ => ?_)
 refine go Tryz.tbs_ok 1000 ?_
 refine ev_stop (go_stringOf Tryz.tbs_ok (zl) (.inr 10) rfl rfl rfl rfl rfl rfl rfl (by first | rfl | omega | (simp; omega)) (fun _ h => Row.rd h) ?_)
 refine go Tryz.tbs_ok 1000 ?_
 refine ev_new fun b30 => ?_
 refine ev_callF (T10 (x16) (x0) (b30)) [1, 7] [.inl 0, .inr 11] rfl rfl (by decide) rfl (by simp) (fun _ => (by repeat (first | exact trivial | refine ⟨rfl, ?_⟩))) (fun _ h31 => ?_)
 refine go Tryz.tbs_ok 1000 ?_
 refine ev_new fun b32 => ?_
 refine ev_callF (T11 (x16) (x0) (b32)) [1, 7] [.inl 0, .inr 12] rfl rfl (by decide) rfl (by simp) (fun _ => (by repeat (first | exact trivial | refine ⟨rfl, ?_⟩))) (fun _ h33 => ?_)
 refine go Tryz.tbs_ok 1000 ?_
 refine ev_callF (T12 (x16) (x0)) [1, 7] [.inl 0] rfl rfl (by decide) rfl (by simp) (fun _ => (by repeat (first | exact trivial | refine ⟨rfl, ?_⟩))) (fun _ h34 => ?_)
 refine go Tryz.tbs_ok 1000 ?_
 refine ev_new fun b35 => ?_
 refine ev_callF (T13 (x16) (x0) (b35)) [1, 7] [.inl 0, .inr 13] rfl rfl (by decide) rfl (by simp) (fun _ => (by repeat (first | exact trivial | refine ⟨rfl, ?_⟩))) (fun _ h36 => ?_)
 refine go Tryz.tbs_ok 1000 ?_
 refine ev_new fun b37 => ?_
 refine ev_callF (T14 (x16) (x0) (b37)) [1, 7] [.inl 0, .inr 14] rfl rfl (by decide) rfl (by simp) (fun _ => (by repeat (first | exact trivial | refine ⟨rfl, ?_⟩))) (fun _ h38 => ?_)
 refine go Tryz.tbs_ok 1000 ?_
 refine ev_callF (T15 (x0)) [7] [.inl 0] rfl rfl (by decide) rfl (by simp) (fun _ => (by repeat (first | exact trivial | refine ⟨rfl, ?_⟩))) (fun ⟨x39, x40, x41⟩ h42 => ?_)
 refine go Tryz.tbs_ok 1000 ?_
 refine ev_if_yes rfl ?_
 refine go Tryz.tbs_ok 1000 ?_
 refine ev_if_yes rfl ?_
 refine go Tryz.tbs_ok 1000 ?_
 refine ev_if_yes rfl ?_
 refine go Tryz.tbs_ok 1000 ?_
 refine ev_if_yes rfl ?_
 refine go Tryz.tbs_ok 1000 ?_
 refine ev_if_yes rfl ?_
 refine go Tryz.tbs_ok 1000 ?_
 refine ev_callF (T16 (x0)) [15] [] rfl rfl (by decide) rfl (by simp) (fun _ => (by repeat (first | exact trivial | refine ⟨rfl, ?_⟩))) (fun ⟨x43, x44⟩ h45 => ?_)
 refine go Tryz.tbs_ok 1000 ?_
 refine ev_new fun b46 => ?_
 refine ev_callF (T17 (x43) (x44) (b46)) [] [.inr 17, .inr 18] rfl rfl (by decide) rfl (by simp) (fun _ => (by repeat (first | exact trivial | refine ⟨rfl, ?_⟩))) (fun _ h47 => ?_)
 refine go Tryz.tbs_ok 1000 ?_
 refine ev_if_yes rfl ?_
 refine go Tryz.tbs_ok 1000 ?_
 refine ev_if_yes rfl ?_
 refine go Tryz.tbs_ok 1000 ?_
 refine ev_new fun b48 => ?_
 refine ev_callF (T18 (x40) (x41) (b48)) [] [.inr 16, .inr 19] rfl rfl (by decide) rfl (by simp) (fun _ => (by repeat (first | exact trivial | refine ⟨rfl, ?_⟩))) (fun _ h49 => ?_)
 refine go Tryz.tbs_ok 1000 ?_
 refine ev_fin ⟨trivial, _, rfl, (()), rfl, (by trivial), Frm.nil _⟩
end Go.Proofs.YtjlfdfmkofbccaaGreatDoor
namespace Go.Proofs.YtjlfdfmkofbccaaGreatDoor
open Go.Sy
structure ActW where
 k : Int
 L : List ByteArray
 A : Option Addr
 c : Nat
 z : Int
 K : List Int
 B : Option Addr
 d : Nat
instance : Inhabited ActW := ⟨⟨0, [], none, 0, 0, [], none, 0⟩⟩
def encW (x : ActW) : List Value := [.int .u8 x.k, .slice x.A x.L.length x.c, .int .i64 x.z, .slice x.B x.K.length x.d]
theorem encW_len (x : ActW) : (encW x).length = 4 := rfl
def ActW.rdL (x : ActW) : Asn := Rd 1 x.A x.L.length (x.L.flatMap encS)
def ActW.rdK (x : ActW) : Asn := Rd 1 x.B x.K.length (x.K.flatMap encN)
def ActsW (l : List ActW) : Asn := ⟨fun h => ∀ x ∈ l, x.rdL.holds h ∧ x.rdK.holds h, fun e p x hx => ⟨x.rdL.mono e (p x hx).1, x.rdK.mono e (p x hx).2⟩⟩
structure boundW (x : ActW) : Prop where
 L : x.L.length ≤ 50
 K : x.K.length ≤ 100
 p : ∀ p ∈ x.L, p.size ≤ 60000
set_option maxHeartbeats 4000000 in
set_option maxRecDepth 100000 in
theorem greatW (A : Option Addr) (l : List ActW) (n c : Nat) (hn : n = l.length) (h1 : n ≤ 9223372036854775807) :
 Triple Tryz.prog 10 [.slice A n c] [] [Rd 4 A n (l.flatMap encW), ActsW l] Bool (fun b => .bool b) (fun b => b = false → n ≤ 100 ∧ ∀ x ∈ l, boundW x) (fun _ => []) := by
 refine triple_intro Tryz.tbs_ok Tryz.func10 rfl [.va (.slice A n c)] [] ⟨trivial, trivial⟩ rfl (by simp) ?_
 intro E
 refine go Tryz.tbs_ok 1000 ?_
 refine ev_stop (go_loopR [2, 3, 4, 5, 6, 7, 8, 9, 10, 11, 12, 13, 14, 15, 16, 17, 18, 19, 20, 21, 22, 23, 24, 25, 26, 27, 28, 29, 30, 31, 32, 33, 34, 35, 36, 37, 38, 39, 40, 41, 42, 43, 44, 45] (fun (i, s) => [(3, .va (.int .i64 s)), (4, .va (.int .i64 (i : Nat)))]) (fun _ => []) (fun (i, s) => i ≤ n ∧ (0 ≤ s ∧ s ≤ 60000) ∧ ∀ x ∈ l.take i, boundW x) (fun (i, _) => n - i) ((0, 0) : Nat × Int) ⟨Nat.zero_le _, ⟨by decide, by decide⟩, by simp⟩ ⟨⟨by kernel_rfl, by kernel_rfl⟩, ⟨_, rfl⟩, ⟨_, rfl⟩, by kernel_rfl, by kernel_rfl⟩ (fun x_ h_ => ?_))
 obtain ⟨i, s⟩ := x_
 obtain ⟨hi, hs, h0⟩ := h_
 rcases Nat.lt_or_ge i n with hin | hin
 · have hil : i < l.length := by omega
   obtain ⟨x, hx⟩ : ∃ x, x = l[i] := ⟨_, rfl⟩
   refine go_more 1 (ActsW l) (Rd 1 l[i].A l[i].L.length (l[i].L.flatMap encS)) rfl (fun h p => (p _ (List.getElem_mem hil)).1) ?_
   refine go Tryz.tbs_ok 1000 ?_
   refine ev_if_yes (decide_eq_true (show (↑i : Int) < (↑n : Int) from (by omega))) ?_
   refine go Tryz.tbs_ok 1000 ?_
   refine ev_stop (go_indexE (sz := 4) Tryz.tbs_ok (.inl 0) (i) rfl rfl rfl rfl rfl rfl (by omega) rfl (fun _ h => h) (fun g20 o22 e21 => ?_))
   subst e21
   refine go Tryz.tbs_ok 1000 ?_
   have l23 : i < (l).length := (by omega)
   refine ev_stop (go_loadE Tryz.tbs_ok (.inl 0) (i) 0 rfl rfl rfl rfl (fun _ h => h) (by omega) (fun _ => rfl) (by omega) l23 (by decide) ?_)
   refine go Tryz.tbs_ok 1000 ?_
   refine ev_new fun b24 => ?_
   refine ev_if_lt (fun h25 => ?_) (fun h25 => ?_)
   refine go Tryz.tbs_ok 1000 ?_
   refine ev_fin ⟨trivial, _, rfl, (true), rfl, (by simp [*]), Frm.nil _⟩
   refine go Tryz.tbs_ok 1000 ?_
   refine ev_if_lt (fun h26 => ?_) (fun h26 => ?_)
   refine go Tryz.tbs_ok 1000 ?_
   refine ev_fin ⟨trivial, _, rfl, (true), rfl, (by simp [*]), Frm.nil _⟩
   refine go Tryz.tbs_ok 1000 ?_
   rw [← hx]
   have hK : x.K.length ≤ 100 := by rw [hx]; omega
   have hL : x.L.length ≤ 50 := by rw [hx]; omega
   have hst : ∀ y ∈ l.take (i + 1), y ∈ l.take i ∨ y = x := fun y hy => by
    rw [← List.take_append_getElem hil] at hy
    rcases List.mem_append.1 hy with hy | hy
    · exact .inl hy
    · rw [hx]; exact .inr (List.mem_singleton.1 hy)
   clear hx
   obtain ⟨xk, xL, xA, xc, xz, xK, xB, xd⟩ := x
   simp only at hK hL
   obtain ⟨m, hm⟩ : ∃ m, m = xL.length := ⟨_, rfl⟩
   simp only [← hm]
   refine ev_stop (go_loopR [2, 3, 6, 16, 27, 28, 29, 30, 31, 32, 33, 34, 35, 36, 37, 38, 39, 40, 41, 42, 43, 44, 45] (fun (k, u) => [(3, .va (.int .i64 u)), (6, .va (.int .i64 (k : Nat)))]) (fun _ => []) (fun (k, u) => k ≤ m ∧ (0 ≤ u ∧ u ≤ 60000) ∧ ∀ p ∈ xL.take k, p.size ≤ 60000) (fun (k, _) => m - k) ((0, s) : Nat × Int) ⟨Nat.zero_le _, hs, by simp⟩ ⟨⟨by kernel_rfl, by kernel_rfl⟩, ⟨_, rfl⟩, ⟨_, rfl⟩, by kernel_rfl, by kernel_rfl⟩ (fun x_ h_ => ?_))
   obtain ⟨k, u⟩ := x_
   obtain ⟨hk, hu, hp⟩ := h_
   refine go Tryz.tbs_ok 1000 ?_
   refine ev_if_lt (fun h60 => ?_) (fun h60 => ?_)
   refine go Tryz.tbs_ok 1000 ?_
   refine ev_w64 (by constructor <;> omega) ?_
   refine ev_stop (go_indexE (sz := 1) Tryz.tbs_ok (.inl 2) (k) rfl rfl rfl rfl rfl rfl (by omega) rfl (fun _ h => h) (fun g61 o63 e62 => ?_))
   subst e62
   refine go Tryz.tbs_ok 1000 ?_
   have l64 : k < (xL).length := (by omega)
   refine ev_stop (go_loadE Tryz.tbs_ok (.inl 2) (k) 0 rfl rfl rfl rfl (fun _ h => h) (by omega) (fun _ => rfl) (by omega) l64 (by decide) ?_)
   refine go Tryz.tbs_ok 1000 ?_
   refine ev_w64 (by constructor <;> omega) ?_
   refine ev_if_lt (fun h65 => ?_) (fun h65 => ?_)
   refine go Tryz.tbs_ok 1000 ?_
   refine ev_fin ⟨trivial, _, rfl, (true), rfl, (by simp [*]), Frm.nil _⟩
   refine go Tryz.tbs_ok 1000 ?_
   refine ev_wrapN (k + 1) (by constructor <;> omega) (by rfl) ?_
   refine ev_fin (round_next ((k + 1, u + 10 + min (↑xL[k].size : Int) 100000)) (?_ : k + 1 ≤ m ∧ (0 ≤ u + 10 + min (↑xL[k].size : Int) 100000 ∧ u + 10 + min (↑xL[k].size : Int) 100000 ≤ 60000) ∧ ∀ (p : ByteArray), p ∈ List.take (k + 1) xL → p.size ≤ 60000) (show m - (k + 1) < m - k from (by omega)) ⟨⟨by kernel_rfl, by kernel_rfl⟩, ⟨_, rfl⟩, ⟨_, rfl⟩, by kernel_rfl, by kernel_rfl⟩)
   rotate_left
   refine go Tryz.tbs_ok 1000 ?_
   refine ev_fin (go Tryz.tbs_ok 1000 ?_)
   refine ev_wrapN (i + 1) (by constructor <;> omega) (by rfl) ?_
   refine ev_fin (round_next ((i + 1, u)) (?_ : i + 1 ≤ n ∧ (0 ≤ u ∧ u ≤ 60000) ∧ ∀ (x : ActW), x ∈ List.take (i + 1) l → boundW x) (show n - (i + 1) < n - i from (by omega)) ⟨⟨by kernel_rfl, by kernel_rfl⟩, ⟨_, rfl⟩, ⟨_, rfl⟩, by kernel_rfl, by kernel_rfl⟩)
   rotate_left
   · refine ⟨by omega, ⟨by omega, by omega⟩, fun p hp2 => ?_⟩
     rw [← List.take_append_getElem (show k < xL.length by omega)] at hp2
     rcases List.mem_append.1 hp2 with h | h
     · exact hp p h
     · rw [List.mem_singleton.1 h]
       omega
   · refine ⟨by omega, hu, fun y hy => ?_⟩
     rcases hst y hy with h | h
     · exact h0 y h
     · rw [h]
       rw [List.take_of_length_le (by omega)] at hp
       exact ⟨hL, hK, hp⟩
 · obtain rfl : i = n := by omega
   rw [List.take_of_length_le (by omega)] at h0
   refine go Tryz.tbs_ok 1000 ?_
   refine ev_if_no (decide_eq_false (show ¬(↑i : Int) < (↑i : Int) from (by omega))) ?_
   refine go Tryz.tbs_ok 1000 ?_
   refine ev_fin (go Tryz.tbs_ok 1000 ?_)
   refine ev_fin ⟨trivial, _, rfl, (decide ((↑i : Int) > 100)), rfl, ?_, Frm.nil _⟩
   intro h
   rw [decide_eq_false_iff_not] at h
   exact ⟨by omega, h0⟩
end Go.Proofs.YtjlfdfmkofbccaaGreatDoor
namespace Go.Sy
open Go.RowKit Go.ChangeShapes Go.WideShapes
section
variable {H : Type} {enc : TypeId × Value → H} {P : Program}
def typesOk (P : Program) (ts : List TypeId) : Bool := ts.all fun t => P.readableRec t && decide (t < P.types.size)
theorem trodAll_below (hl : laidOutB P = true) {W W' : World} (hb : Below W.heap.size W W') (sp : Nat → Bool) :
 ∀ {ts : List TypeId} {vs : List Value} {ds : List (DataW H)} {ps : List MemPlace}, typesOk P ts = true → DataW.TrodAll enc P W 0 (fun _ => true) true ts vs ds ps → (∀ x ∈ ps, x.block < W.heap.size) → (∀ x ∈ ps, sp x.block = true) →
  DataW.TrodAll enc P W' 0 sp true ts vs ds ps
 | [], [], [], _, _, h, _, _ => h
 |
  t :: ts, v :: vs, d :: ds, _, ht, ⟨p, q, h1, h2, e⟩, hlt, hsp => by
  subst e
  simp only [typesOk, List.all_cons, Bool.and_eq_true, decide_eq_true_eq] at ht
  exact ⟨p, q, WideElems.Trod_stays hl ht.1.1 ht.1.2 h1 (fun x hx => hb.same (hlt x (List.mem_append_left _ hx))) (fun x hx => hsp x (List.mem_append_left _ hx)),
   trodAll_below hl hb sp (ts := ts) (by simpa [typesOk] using ht.2) h2 (fun x hx => hlt x (List.mem_append_right _ hx)) (fun x hx => hsp x (List.mem_append_right _ hx)), rfl⟩
 | [], [], _ :: _, _, _, h, _, _ => h.elim
 | [], _ :: _, [], _, _, h, _, _ => h.elim
 | [], _ :: _, _ :: _, _, _, h, _, _ => h.elim
 | _ :: _, [], [], _, _, h, _, _ => h.elim
 | _ :: _, [], _ :: _, _, _, h, _, _ => h.elim
 | _ :: _, _ :: _, [], _, _, h, _, _ => h.elim
theorem post_true {f : Func} {s : ChangeSpec} {apart fresh handsOn again : Bool} {W W' : World} {args : Array Value} {ds gs : List (DataW H)} {before : List MemPlace} {rt : TypeId}
 (hl : laidOutB P = true) (hts : typesOk P f.params.toList = true) (hvars : s.vars = []) (hrt : f.resultTypes = #[rt]) (hbool : P.underlying rt = some .bool)
 (hW : DataW.Whole enc P f.params.toList s.vars apart W args.toList ds gs before) (hb : Below W.heap.size W W')
 (hr : (s.fn H (ds ++ gs)).results = [.lit (.bool true)]) (ha : (s.fn H (ds ++ gs)).args = ds) (hv : (s.fn H (ds ++ gs)).vars = []) :
 s.post enc P f apart fresh handsOn again W args (.bool true) W' := by
 have hlt : ∀ p ∈ before, p.block < W.heap.size := fun p hp => hW.lt p hp
 have hold : ∀ p ∈ before, (fun b => decide (b < W.heap.size)) p.block = true := fun p hp => by simpa using hlt p hp
 have hW2 := hW
 obtain ⟨p, q, hA, hV, rfl, hz, hn⟩ := hW2
 rw [hvars] at hV
 obtain ⟨rfl, rfl⟩ := trodVars_none hV
 rw [List.append_nil] at hlt hold hz hn hW
 have hres : ∀ (b : Nat) (sp : Nat → Bool) (hd : Bool), DataW.TrodAll enc P W' b sp hd f.resultTypes.toList ((Value.bool true).resultList f.resultTypes.size) (s.fn H (ds ++ [])).results [] := fun b sp hd => by
  rw [hr, hrt]
  exact trodAll_mk1 (shut_bool hbool true)
 have hargs : ∀ sp : Nat → Bool, (∀ x ∈ p, sp x.block = true) → DataW.TrodAll enc P W' 0 sp true f.params.toList args.toList (s.fn H (ds ++ [])).args p := fun sp hsp => by
  rw [ha]
  exact trodAll_below hl hb sp hts hA hlt hsp
 have hvs : ∀ sp : Nat → Bool, DataW.TrodVars enc P W' sp s.vars (s.fn H (ds ++ [])).vars [] := fun sp => by rw [hv, hvars]; rfl
 have hok : ∀ (j : Nat) (t : TypeId) (r : Value), f.resultTypes[j]? = some t → ((Value.bool true).resultList f.resultTypes.size)[j]? = some r → Value.okWide P W' .any 0 t r := by
  intro j t r hj hr'
  rw [hrt] at hj hr'
  match j, hj, hr' with
  |
   0, hj, hr' =>
   simp [Value.resultList] at hj hr'
   subst hj; subst hr'
   exact okWide_bool_mk hbool true
 refine ⟨ds, [], p, [], p, [], hW, hres _ _ _, hargs _ hold, hvs _, World.keptBut_mono (fun x hx => ⟨hx, ?_⟩) (hb.frame (· ∈ p)), fun _ => ?_⟩
 · exact .inr (.inl hx)
 · refine ⟨hok, _, _, ([] ++ p) ++ [], ⟨[] ++ p, [], trodAll_append (hargs _ (fun _ _ => rfl)) (hres _ _ _), hvs _, rfl, ?_, ?_⟩, ?_⟩
   · intro b off hp
     have hin : MemPlace.cell b off ∈ p := by simpa using hp
     rw [hb.frozen (hlt _ hin)]
     exact hz b off hin
   · intro h
     simpa using hn h
   · intro x hx _
     simpa using hx
end
end Go.Sy
namespace Go.Sy
open Go.RowKit Go.ChangeShapes Go.WideShapes
def Sees (T : Tab) (w : World) : Nat → TypeId → List Value → Prop
 | 0, _, _ => True
 |
  F + 1, t, cs => match (te T t).map (fun e : TE => e.k) with
  | some (TK.int k) => ∃ n, cs = [.int k n] ∧ (Lit.int k n).wf = true
  | some TK.bool => ∃ b, cs = [.bool b]
  | some TK.string => ∃ s : ByteArray, cs = [.string s] ∧ s.size ≤ maxLen
  | some (TK.slice el) => cs = [.slice none 0 0] ∨ ∃ a n c, cs = [.slice (some a) n c] ∧ n ≤ c ∧ c ≤ maxLen ∧
   ∀ e', te T el = some e' → ∀ i, i < n → ∃ vs, w.cells? 0 (a.add (i * e'.size)) e'.size = some vs ∧ Sees T w F el vs
  | some (TK.struct fs) => ∀ f ∈ fs, ∀ e', te T f.2 = some e' → Sees T w F f.2 ((cs.drop f.1).take e'.size)
  | _ => True
theorem cellsOf_te {P : Program} {T : Tab} (hT : TabOk P T) {t : TypeId} {e : TE} (h : te T t = some e) : P.cellsOf t = e.size := by
 obtain ⟨i, u, z, h1, _, _, _, h2, _⟩ := te_spec hT h
 simp [Program.cellsOf, h1, h2]
theorem sees_of_trod {H : Type} {enc : TypeId × Value → H} {P : Program} {T : Tab} (hT : TabOk P T) {w : World} {sp : Nat → Bool} {held : Bool} :
 ∀ (F fuel : Nat) (t : TypeId) (cs : List Value) (x : DataW H × List MemPlace), DataW.trod enc P w 0 sp held fuel t cs = some x → Sees T w F t cs
 | 0, _, _, _, _, _ => trivial
 |
  F + 1, fuel, t, cs, x, h => by
  unfold Sees
  cases ht : te T t with
  | none => trivial
  |
   some e =>
   obtain ⟨i, u, z, hi, hu, hz, hk, hs, _⟩ := te_spec hT ht
   simp only [Option.map_some, hk]
   cases u with
   |
    int k =>
    obtain ⟨n, h1, _, h2⟩ := DataW.trod_int hu h
    exact ⟨n, h1, h2⟩
   |
    bool =>
    obtain ⟨b, h1, _⟩ := DataW.trod_bool hu h
    exact ⟨b, h1⟩
   |
    string =>
    obtain ⟨s, h1, _, h2⟩ := DataW.trod_string hu h
    exact ⟨s, h1, h2⟩
   |
    slice el =>
    rcases DataW.trod_slice hu h with ⟨h1, _⟩ | ⟨a, n, c, elems, rest, m, _, h1, _, _, h2, h3, h4, h5, _, _⟩
    · exact .inl h1
    · refine .inr ⟨a, n, c, h1, h2, h3, fun e' he' j hj => ?_⟩
      have h6 := h5 j hj
      rw [cellsOf_te hT he'] at h6
      have hlt : j < elems.length := by omega
      rw [List.getElem?_eq_getElem hlt] at h6
      cases hc : w.cells? 0 (a.add (j * e'.size)) e'.size with
      | none => rw [hc] at h6; cases h6
      |
       some vs =>
       rw [hc] at h6
       exact ⟨vs, rfl, sees_of_trod hT F m el vs _ h6⟩
   |
    struct fs =>
    obtain ⟨xs, n, _, _, hlen, hxl, hf⟩ := DataW.trod_struct hu h
    intro f hf' e' he'
    obtain ⟨g, hg, rfl⟩ := List.mem_map.1 hf'
    obtain ⟨j, hj⟩ := List.mem_iff_getElem?.1 hg
    have h6 := hf j g (by simpa using hj)
    rw [cellsOf_te hT he'] at h6
    have hlt : j < xs.length := by
     have := (List.getElem?_eq_some_iff.1 hj).1
     simp at this
     omega
    rw [List.getElem?_eq_getElem hlt] at h6
    exact sees_of_trod hT F n g.type _ _ h6
   | _ => trivial
end Go.Sy
namespace Go.Sy
open Go.RowKit Go.ChangeShapes Go.WideShapes
def leaves (T : Tab) : Nat → TypeId → List (Nat × TypeId)
 | 0, t => [(0, t)]
 |
  d + 1, t => match (te T t).map (fun e : TE => e.k) with
  | some (TK.struct fs) => fs.flatMap fun f => (leaves T d f.2).map fun p => (f.1 + p.1, p.2)
  | _ => [(0, t)]
theorem sees_down {T : Tab} {w : World} : ∀ (F : Nat) {t : TypeId} {cs : List Value}, Sees T w (F + 1) t cs → Sees T w F t cs
 | 0, _, _, _ => trivial
 |
  F + 1, t, cs, h => by
  unfold Sees at h ⊢
  cases hk : (te T t).map (fun e : TE => e.k) with
  | none => trivial
  |
   some k =>
   rw [hk] at h
   cases k with
   |
    slice el =>
    rcases h with h | ⟨a, n, c, h1, h2, h3, h4⟩
    · exact .inl h
    · exact .inr ⟨a, n, c, h1, h2, h3, fun e' he' i hi => let ⟨vs, hv, hs⟩ := h4 e' he' i hi; ⟨vs, hv, sees_down F hs⟩⟩
   | struct fs => exact fun f hf e' he' => sees_down F (h f hf e' he')
   | _ => exact h
theorem sees_downs {T : Tab} {w : World} {F : Nat} {t : TypeId} {cs : List Value} : ∀ (d : Nat), Sees T w (F + d) t cs → Sees T w F t cs
 | 0, h => h
 | d + 1, h => sees_downs d (sees_down (F + d) h)
def oneK : TK → Bool
 | .int _ => true
 | .bool => true
 | .string => true
 | .slice _ => true
 | _ => false
theorem sees_one {T : Tab} {w : World} {F : Nat} {t : TypeId} {cs : List Value} {k : TK} (hk : (te T t).map (fun e : TE => e.k) = some k) (ho : oneK k = true) (h : Sees T w (F + 1) t cs) : ∃ v, cs = [v] := by
 unfold Sees at h
 rw [hk] at h
 cases k <;> first | (cases ho; done) | (obtain ⟨n, h1, _⟩ := h; exact ⟨_, h1⟩; done) | (obtain ⟨n, h1⟩ := h; exact ⟨_, h1⟩; done) | (rcases h with h | ⟨a, n, c, h, _⟩ <;> exact ⟨_, h⟩)
theorem sees_leaf {T : Tab} {w : World} {F : Nat} {k : TK} (ho : oneK k = true) {u : TypeId} (hk : (te T u).map (fun e : TE => e.k) = some k) : ∀ (d : Nat) {t : TypeId} {cs : List Value} {o : Nat}, (o, u) ∈ leaves T d t → (∀ p ∈ leaves T d t, (te T p.2).isSome = true) → Sees T w (F + 1 + d) t cs → ∃ v, cs[o]? = some v ∧ Sees T w (F + 1) u [v]
 |
  0, t, cs, o, hm, _, h => by
  simp [leaves] at hm
  obtain ⟨rfl, rfl⟩ := hm
  obtain ⟨v, rfl⟩ := sees_one hk ho h
  exact ⟨v, rfl, h⟩
 |
  d + 1, t, cs, o, hm, hi, h => by
  have h0 := sees_downs (d + 1) h
  have h' : Sees T w (F + 1 + d + 1) t cs := h
  unfold leaves at hm hi
  unfold Sees at h'
  cases hkt : (te T t).map (fun e : TE => e.k) with
  |
   none =>
   rw [hkt] at hm
   simp at hm
   obtain ⟨rfl, rfl⟩ := hm
   rw [hk] at hkt; cases hkt
  |
   some kt =>
   rw [hkt] at hm hi h'
   have base : (o, u) ∈ [(0, t)] → ∃ v, cs[o]? = some v ∧ Sees T w (F + 1) u [v] := fun hm => by
    simp at hm
    obtain ⟨rfl, rfl⟩ := hm
    obtain ⟨v, rfl⟩ := sees_one hk ho h0
    exact ⟨v, rfl, h0⟩
   cases kt with
   |
    struct fs =>
    simp only [List.mem_flatMap, List.mem_map] at hm
    obtain ⟨f, hf, ⟨o', u'⟩, hp, he⟩ := hm
    simp only [Prod.mk.injEq] at he
    obtain ⟨rfl, rfl⟩ := he
    cases hte : te T f.2 with
    |
     none =>
     exfalso
     have h1 : leaves T d f.2 = [(0, f.2)] := by cases d <;> simp [leaves, hte]
     have h2 := hi (f.1 + 0, f.2) (List.mem_flatMap.2 ⟨f, hf, by rw [h1]; exact List.mem_map.2 ⟨(0, f.2), by simp, rfl⟩⟩)
     rw [hte] at h2; cases h2
    |
     some e' =>
     obtain ⟨v, hv, hs⟩ := sees_leaf ho hk d hp (fun p hp' => hi (f.1 + p.1, p.2) (List.mem_flatMap.2 ⟨f, hf, List.mem_map.2 ⟨p, hp', rfl⟩⟩)) (h' f hf e' hte)
     refine ⟨v, ?_, hs⟩
     rw [List.getElem?_take] at hv
     split at hv
     · rwa [List.getElem?_drop] at hv
     · cases hv
   | _ => exact base hm
theorem leaf_int {T : Tab} {w : World} {F d : Nat} {k : IntKind} {u t : TypeId} {cs : List Value} (hk : (te T u).map (fun e : TE => e.k) = some (.int k)) (hi : (leaves T d t).all (fun p => (te T p.2).isSome) = true) (h : Sees T w (F + 1 + d) t cs) (o : Nat) (hm : (o, u) ∈ leaves T d t) : ∃ n, cs[o]? = some (.int k n) ∧ (Lit.int k n).wf = true := by
 obtain ⟨v, hv, hs⟩ := sees_leaf rfl hk d hm (List.all_eq_true.1 hi) h
 unfold Sees at hs
 rw [hk] at hs
 obtain ⟨n, h1, h2⟩ := hs
 cases h1
 exact ⟨n, hv, h2⟩
theorem leaf_string {T : Tab} {w : World} {F d : Nat} {u t : TypeId} {cs : List Value} (hk : (te T u).map (fun e : TE => e.k) = some .string) (hi : (leaves T d t).all (fun p => (te T p.2).isSome) = true) (h : Sees T w (F + 1 + d) t cs) (o : Nat) (hm : (o, u) ∈ leaves T d t) : ∃ s : ByteArray, cs[o]? = some (.string s) ∧ s.size ≤ maxLen := by
 obtain ⟨v, hv, hs⟩ := sees_leaf rfl hk d hm (List.all_eq_true.1 hi) h
 unfold Sees at hs
 rw [hk] at hs
 obtain ⟨n, h1, h2⟩ := hs
 cases h1
 exact ⟨n, hv, h2⟩
theorem list_of_sees {T : Tab} {w : World} {F : Nat} {t el : TypeId} {e : TE} {cs : List Value} {α : Type} [Inhabited α] {enc : α → List Value} {G : α → Prop} (hk : (te T t).map (fun e : TE => e.k) = some (.slice el)) (he : te T el = some e) (h0 : 0 < e.size)
 (hlen : ∀ x, (enc x).length = e.size) (hone : ∀ x, (enc x).all Value.oneCell' = true)
 (hdec : ∀ vs, vs.length = e.size → Sees T w F el vs → ∃ x, vs = enc x ∧ G x) (h : Sees T w (F + 1) t cs) :
 ∃ A n c, ∃ l : List α, cs = [.slice A n c] ∧ l.length = n ∧ n ≤ c ∧ c ≤ maxLen ∧ (Rd e.size A n (l.flatMap enc)).holds (hp w) ∧ ∀ x ∈ l, G x := by
 unfold Sees at h
 rw [hk] at h
 rcases h with h | ⟨a, n, c, h1, h2, h3, h4⟩
 · exact ⟨none, 0, 0, [], h, rfl, Nat.le_refl _, Nat.zero_le _, Rd.nil _ _ _, fun _ h => by cases h⟩
 · have key : ∀ i, i < n → ∃ x, w.cells? 0 (a.add (i * e.size)) e.size = some (enc x) ∧ G x := fun i hi => by
    obtain ⟨vs, hv, hs⟩ := h4 e he i hi
    obtain ⟨x, rfl, hx⟩ := hdec vs (World.cells?_some hv).2.1 hs
    exact ⟨x, hv, hx⟩
   obtain ⟨f, hf⟩ : ∃ f : Nat → α, ∀ i, i < n → w.cells? 0 (a.add (i * e.size)) e.size = some (enc (f i)) ∧ G (f i) := by
    refine ⟨fun i => if hi : i < n then Classical.choose (key i hi) else default, fun i hi => ?_⟩
    simp only [hi, dite_true]
    exact Classical.choose_spec (key i hi)
   let l := (List.range n).map f
   have hll : l.length = n := by simp [l]
   refine ⟨some a, n, c, l, h1, hll, h2, h3, ⟨by rw [flat_len hlen, hll], fun v hv => ?_, fun hn => ?_⟩, fun x hx => ?_⟩
   · obtain ⟨x, _, hx⟩ := List.mem_flatMap.1 hv
     exact List.all_eq_true.1 (hone x) v hx
   · have hc0 := (World.cells?_some (hf 0 hn).1).2.2 0 h0
     have ha0 : a.add 0 = a := by unfold Addr.add; simp
     simp only [Nat.zero_mul, ha0] at hc0
     obtain ⟨g, o, sp⟩ := a
     have hx0 : (enc (f 0))[0]? ≠ none := by simp [hlen]; omega
     rw [← hc0] at hx0
     unfold World.cell? at hx0
     cases hw : w.heap[g]? with
     | none => simp [hw] at hx0
     |
      some ob =>
      cases ob <;> simp [hw] at hx0
      rename_i cur el' fz
      cases sp with
      | some s => simp at hx0
      |
       none =>
       refine ⟨g, o, cur, el', fz, rfl, hw, ?_⟩
       have hcell : ∀ j, w.cell? ⟨g, j, none⟩ = cur[j]? := fun j => by unfold World.cell?; simp [hw]
       have hget : ∀ k, k < n * e.size → cur[o + k]? = (l.flatMap enc)[k]? := fun k hk' => by
        have hq : k / e.size < n := by rw [Nat.div_lt_iff_lt_mul h0]; exact hk'
        have hm : k % e.size < e.size := Nat.mod_lt _ h0
        have h5 := (World.cells?_some (hf (k / e.size) hq).1).2.2 (k % e.size) hm
        rw [addr_add, addr_add, hcell, Nat.add_assoc, Nat.div_add_mod'] at h5
        rw [h5]
        have h6 : (enc (f (k / e.size)))[k % e.size]? = ((l.flatMap enc).drop (k / e.size * e.size))[k % e.size]? := by
         rw [flat_drop hlen]
         have : l.drop (k / e.size) = f (k / e.size) :: l.drop (k / e.size + 1) := by
          rw [List.drop_eq_getElem_cons (by rw [hll]; exact hq)]
          simp [l]
         rw [this, List.flatMap_cons, List.getElem?_append_left (by rw [hlen]; exact hm)]
        rw [h6, List.getElem?_drop, Nat.div_add_mod']
       have hL : (l.flatMap enc).length = n * e.size := by rw [flat_len hlen, hll]
       apply List.ext_getElem?
       intro k
       rcases Nat.lt_or_ge k (n * e.size) with hk' | hk'
       · rw [List.getElem?_take, if_pos hk', List.getElem?_drop, Array.getElem?_toList, hget k hk']
       · rw [List.getElem?_eq_none (by rw [List.length_take]; omega), List.getElem?_eq_none (by omega)]
   · obtain ⟨i, hi, rfl⟩ := List.mem_map.1 hx
     exact (hf i (List.mem_range.1 hi)).2
theorem leaf_slice {T : Tab} {w : World} {F d : Nat} {u t el : TypeId} {e : TE} {cs : List Value} {α : Type} [Inhabited α] {enc : α → List Value} {G : α → Prop} (hk : (te T u).map (fun e : TE => e.k) = some (.slice el)) (he : te T el = some e) (h0 : 0 < e.size)
 (hlen : ∀ x, (enc x).length = e.size) (hone : ∀ x, (enc x).all Value.oneCell' = true)
 (hdec : ∀ vs, vs.length = e.size → Sees T w F el vs → ∃ x, vs = enc x ∧ G x) (hi : (leaves T d t).all (fun p => (te T p.2).isSome) = true) (h : Sees T w (F + 1 + d) t cs) (o : Nat) (hm : (o, u) ∈ leaves T d t) :
 ∃ A n c, ∃ l : List α, cs[o]? = some (.slice A n c) ∧ l.length = n ∧ n ≤ c ∧ c ≤ maxLen ∧ (Rd e.size A n (l.flatMap enc)).holds (hp w) ∧ ∀ x ∈ l, G x := by
 obtain ⟨v, hv, hs⟩ := sees_leaf rfl hk d hm (List.all_eq_true.1 hi) h
 obtain ⟨A, n, c, l, h1, h2⟩ := list_of_sees hk he h0 hlen hone hdec hs
 cases h1
 exact ⟨A, n, c, l, hv, h2⟩
def AllAt (vs : List Value) : Nat → List Value → Prop
 | _, [] => True
 | k, x :: ws => vs[k]? = some x ∧ AllAt vs (k + 1) ws
theorem drop_of_at (vs : List Value) : ∀ (ws : List Value) (k : Nat), AllAt vs k ws → vs.length = k + ws.length → vs.drop k = ws
 | [], k, _, hl => List.drop_eq_nil_of_le (by simp at hl; omega)
 |
  x :: ws, k, h, hl => by
  have hk : k < vs.length := by simp at hl; omega
  have h1 := h.1
  rw [List.getElem?_eq_getElem hk] at h1
  rw [List.drop_eq_getElem_cons hk, drop_of_at vs ws (k + 1) h.2 (by simp at hl; omega)]
  simp at h1
  rw [h1]
theorem eq_of_at {vs ws : List Value} (hl : vs.length = ws.length) (h : AllAt vs 0 ws) : vs = ws := drop_of_at vs ws 0 h (by omega)
theorem wf_u8 {n : Int} (h : (Lit.int .u8 n).wf = true) : 0 ≤ n ∧ n < 256 := by
 simp only [Lit.wf, Bool.and_eq_true, decide_eq_true_eq] at h
 have h3 : IntKind.u8.min = 0 := rfl
 have h4 : IntKind.u8.max = 255 := rfl
 omega
theorem wf_u16 {n : Int} (h : (Lit.int .u16 n).wf = true) : 0 ≤ n ∧ n < 65536 := by
 simp only [Lit.wf, Bool.and_eq_true, decide_eq_true_eq] at h
 have h3 : IntKind.u16.min = 0 := rfl
 have h4 : IntKind.u16.max = 65535 := rfl
 omega
theorem wf_i64 {n : Int} (h : (Lit.int .i64 n).wf = true) : -9223372036854775808 ≤ n ∧ n ≤ 9223372036854775807 := by
 simp only [Lit.wf, Bool.and_eq_true, decide_eq_true_eq] at h
 have h3 : IntKind.i64.min = -9223372036854775808 := rfl
 have h4 : IntKind.i64.max = 9223372036854775807 := rfl
 omega
end Go.Sy
namespace Go.Proofs.YtjlfdfmkofbccaaGreatDoor
open Go.Sy Go.RowKit Go.ChangeShapes Go.WideShapes
theorem Tryz.own : ownKnob Tryz.prog.godebug = none := by kernel_rfl
theorem Tryz.laidOut : laidOutB Tryz.prog = true := by kernel_rfl
end Go.Proofs.YtjlfdfmkofbccaaGreatDoor
namespace Go.Proofs.YtjlfdfmkofbccaaGreatDoor
open Go.Sy Go.RowKit Go.ChangeShapes Go.WideShapes
theorem int_dec {w : World} {F : Nat} {vs : List Value} (hl : vs.length = 1) (h : Sees Tryz.tab w (F + 1) 3 vs) : ∃ x : Int, vs = encN x ∧ True := by
 obtain ⟨n0, e0, _⟩ := leaf_int (F := F) (d := 0) (k := .i64) (u := 3) rfl rfl h 0 (by decide)
 exact ⟨n0, eq_of_at hl (And.intro e0 trivial), trivial⟩
theorem str_dec {w : World} {F : Nat} {vs : List Value} (hl : vs.length = 1) (h : Sees Tryz.tab w (F + 1) 9 vs) : ∃ x : ByteArray, vs = encS x ∧ x.size ≤ maxLen := by
 obtain ⟨n0, e0, w0⟩ := leaf_string (F := F) (d := 0) (u := 9) rfl rfl h 0 (by decide)
 exact ⟨n0, eq_of_at hl (And.intro e0 trivial), w0⟩
theorem actW_dec {w : World} {F : Nat} {vs : List Value} (hl : vs.length = 4) (h : Sees Tryz.tab w (F + 1 + 1 + 1) 38 vs) : ∃ x : ActW, vs = encW x ∧ ((x.rdL.holds (hp w) ∧ x.rdK.holds (hp w)) ∧ (0 ≤ x.k ∧ x.k < 256 ∧ x.z ≤ 9223372036854775807)) := by
 obtain ⟨n0, e0, w0⟩ := leaf_int (F := F + 1) (d := 1) (k := .u8) (u := 5) rfl rfl h 0 (by decide)
 obtain ⟨A1, n1, c1, l1, e1, hn1, hc1, hm1, hr1, hg1⟩ := leaf_slice (F := F + 1) (d := 1) (u := 30) (el := 9) (enc := encS) (G := fun x => x.size ≤ maxLen) rfl rfl (by decide) encS_len (fun _ => rfl) (fun vs hl h => str_dec hl h) rfl h 1 (by decide)
 subst hn1
 obtain ⟨n2, e2, w2⟩ := leaf_int (F := F + 1) (d := 1) (k := .i64) (u := 3) rfl rfl h 2 (by decide)
 obtain ⟨A3, n3, c3, l3, e3, hn3, hc3, hm3, hr3, hg3⟩ := leaf_slice (F := F + 1) (d := 1) (u := 36) (el := 3) (enc := encN) (G := fun _ => True) rfl rfl (by decide) encN_len (fun _ => rfl) (fun vs hl h => int_dec hl h) rfl h 3 (by decide)
 subst hn3
 exact ⟨⟨n0, l1, A1, c1, n2, l3, A3, c3⟩, eq_of_at hl (And.intro e0 (And.intro e1 (And.intro e2 (And.intro e3 trivial)))), ⟨hr1, hr3⟩, (wf_u8 w0).1, (wf_u8 w0).2, (wf_i64 w2).2⟩
def inW (x : ActW) : Prop := 0 ≤ x.k ∧ x.k < 256 ∧ x.z ≤ 9223372036854775807
theorem actsW_in {w : World} {l : List ActW} (h : ∀ x ∈ l, (x.rdL.holds (hp w) ∧ x.rdK.holds (hp w)) ∧ (0 ≤ x.k ∧ x.k < 256 ∧ x.z ≤ 9223372036854775807)) : (ActsW l).holds (hp w) ∧ ∀ x ∈ l, inW x := ⟨fun x hx => (h x hx).1, fun x hx => (h x hx).2⟩
theorem maxLen_le {n c : Nat} (h : n ≤ c) (h2 : c ≤ maxLen) : n ≤ 9223372036854775807 := Nat.le_trans h h2
abbrev laidL : List (String × DataW Unit) := Rows.walNoneRow.laid
theorem door_met (os : Os) (args : Array Value) : laidMetH Tryz.prog laidL ((World.doorLaid Tryz.prog 400 os).forCall (fun _ _ => 0) ⟨#[], args, []⟩).memory := by
 rw [MakeChecks.laidMetH_plain _ _ _ (by kernel_rfl)]
 exact laidMet_of_run' 8 (by kernel_rfl) (by kernel_rfl)
theorem tab_of {W : World} (h : laidMetH Tryz.prog laidL W) : TabA.holds (hp W) := by
 rw [MakeChecks.laidMetH_plain _ _ _ (by kernel_rfl)] at h
 obtain ⟨g, hg, hgt⟩ : ∃ g, Tryz.prog.globalNamed "internal/strconv.uint64pow10" = some g ∧ (Tryz.prog.globals[g]?).map (·.type) = some 176 := ⟨0, by kernel_rfl, by kernel_rfl⟩
 have h3 : Lib.TabIs Tryz.prog W "internal/strconv.uint64pow10" .u64 Lib.pow10Tab := Lib.tabIs_of_head (g := g) (t := 176) (e := 160) (n := 20) hg hgt (by kernel_rfl) (by kernel_rfl) (by kernel_rfl) (by kernel_rfl) (laidMet.tail (laidMet.tail h))
 intro w hw
 have h4 : W.var? Tryz.prog "internal/strconv.uint64pow10" = some (Lib.pow10Tab.map fun z => Value.int .u64 z).toArray := h3
 show w.var? Tryz.prog "internal/strconv.uint64pow10" = some _
 unfold World.var? at h4 ⊢
 rw [hg] at h4 ⊢
 simp only [Option.bind_some] at h4 ⊢
 cases hx : W.heap[g]? with
 | none => rw [hx] at h4; cases h4
 |
  some o =>
  rw [hx] at h4
  have h5 : w.heap[g]? = some o := hw g o hx
  rw [h5]
  exact h4
end Go.Proofs.YtjlfdfmkofbccaaGreatDoor
namespace Go.Sy
open Go
theorem asnAt_any {res : List Res} {i : Nat} {x : Res} (h : res[i]? = some x) : asnAt res i = some x.asn := by unfold asnAt; rw [h]
theorem ev_moveD {P : Program} {E : Entry} {r : List It} {Q : Exit → St → Prop} {ι : Type} {I : ι → St} {Pre : ι → Prop} {m : ι → Nat} {i0 : ι} {st : St} (i j : Nat) {x : Res} {B : Asn} (hij : i ≠ j) (hi : st.res[i]? = some x) (hj : st.res[j]? = some (.fact B))
 (hb : blkLe st.res (place st.res [i, j] [.fact B, .dead none])) (h : outSat P E (Round P E r Q I Pre m i0) (.fin .normal ⟨st.fr, place st.res [i, j] [.fact B, .dead none], st.ro⟩)) : outSat P E (Round P E r Q I Pre m i0) (.fin .normal st) := fun a w hR => by
 have g : Round P E r Q I Pre m i0 .normal ⟨st.fr, place st.res [i, j] [.fact B, .dead none], st.ro⟩ := h
 obtain ⟨hs, hi', hres⟩ := hR.res
 obtain ⟨y, hs', hR'⟩ := place_ghost hres [i, j] (M := [x.asn, B]) (X := Unit) (fun _ => [.fact B, .dead none]) (by simp [asnAt_any hi, asnAt_fact hj]) (by simp [hij]) (fun h q => ⟨(), move_star q⟩) (fun _ => newsOk_fact fun x hx => by rw [List.mem_singleton.1 hx]; trivial) (fun _ => hb)
 exact g a w ⟨hR.fr.mono (blkLe_spec hb), hs', hi', hR'⟩
end Go.Sy

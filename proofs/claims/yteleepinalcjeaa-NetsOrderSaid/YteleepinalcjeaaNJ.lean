/-
  What is proved: the example with which each law ends comes out. Conditions: none.
-/
import Derived.Test.YteleepinalcjeaaNI
namespace Go.Proofs.Yteleepinalcjeaa
open Go.Sy

theorem sameAll_yes (A B : Option Addr) (I J : List Item) (c d : Nat) (hI : few I) (hn : I.length ≤ 1000000000) (h : I.map Item.msg = J.map Item.msg) :
    Triple Try.prog 18 [.slice A I.length c, .slice B J.length d] [] [Rd 18 A I.length (I.flatMap encI), Rd 18 B J.length (J.flatMap encI), Asn.star (I.map Item.rd), Asn.star (J.map Item.rd)] Unit
      (fun _ => .bool true) (fun _ => True) (fun _ => []) :=
  (sameAll A B I J c d hI hn).imp fun _ _ => ⟨(), by rw [decide_eq_true h], trivial, fun _ q => q⟩
theorem Triple.free {P : Program} {f : FuncId} {args : List Value} {M N : List Asn} {X : Type} {ret : X → Value} {good : X → Prop} {post : X → List Asn} (T : Triple P f args M N X ret good post) (h : ∀ A ∈ N, ∀ h, A.holds h) : Triple P f args M [] X ret good post :=
  fun w hm hn h1 h2 h3 h4 _ => T w hm hn h1 h2 h3 h4 fun A hA => h A hA hn
/-- a message of this kind, all else nothing -/
def kindM (k : Int) : MailS := ⟨k, 0, 0, 0, 0, 0, 0, 0, 0, 0, 0, 0, 0, 0, 0, 0, 0⟩
def bare (k : Int) : Msg := ⟨kindM k, []⟩
theorem send_bare (p : Nat) (l : List Msg) (hk : l.length < 512) (m : MailS) :
    Triple Try.prog 20 [.pointer (some ⟨p, 0, none⟩), mailV m none 0 0] [NetM p l] [] Unit (fun _ => .bool true) (fun _ => True) (fun _ => [NetM p (l ++ [⟨m, []⟩])]) :=
  Triple.free (mSend p l hk m [] none 0 (by simp)) fun A hA h => by rw [List.mem_singleton.1 hA]; exact Rd.nil 6 none h
theorem same_bare (m : MailS) (A B : Option Addr) : Triple Try.prog 13 [mailV m A 0 0, mailV m B 0 0] [] [] Unit (fun _ => .bool true) (fun _ => True) (fun _ => []) :=
  Triple.free ((sameMail m m A B [] [] 0 0 (by simp)).imp fun _ _ => ⟨(), by rw [decide_eq_true rfl], trivial, fun _ q => q⟩) fun X hX h => by
    simp only [List.mem_cons, List.not_mem_nil, or_false] at hX
    rcases hX with rfl | rfl
    · exact Rd.nil 6 A h
    · exact Rd.nil 6 B h
/-- the same, in memory -/
def bareI (k : Int) : Item := ⟨kindM k, [], none, 0⟩
theorem star_bare : ∀ (ks : List Int) (h : Hp), Asn.starH ((ks.map bareI).map Item.rd) h
  | [], _ => trivial
  | _ :: ks, h => ⟨Hp.emp, h, Hp.emp_dis _, Hp.emp_le _, Hp.le_refl _, Rd.nil 6 none _, star_bare ks h⟩
theorem fewM_bare (l : List Int) : fewM (l.map bare) := fun m hm => by
  obtain ⟨k, _, rfl⟩ := List.mem_map.1 hm
  simp [bare]
theorem all_same (A : Option Addr) (c b : Nat) (I : List Item) (ks : List Int) (h : I.map Item.msg = ks.map bare) (hk : ks.length ≤ 1000) :
    Triple Try.prog 18 [.slice A I.length c, .slice (some ⟨b, 0, none⟩) (ks.map bareI).length (ks.map bareI).length] [] [Row 36 18 A I.length c (I.flatMap encI), Pt b 36 ((ks.map bareI).flatMap encI), Asn.star (I.map Item.own)] Unit (fun _ => .bool true) (fun _ => True) (fun _ => []) := by
  have hl : I.length = ks.length := by have := congrArg List.length h; simpa using this
  refine (sameAll_yes A (some ⟨b, 0, none⟩) I (ks.map bareI) c _ (few_of (by rw [h]; exact fewM_bare ks)) (by omega) (by rw [h, List.map_map]; rfl)).reads ?_
  intro X hX
  simp only [List.mem_cons, List.not_mem_nil, or_false] at hX
  rcases hX with rfl | rfl | rfl | rfl
  · exact ⟨_, List.mem_cons_self, fun _ p => Row.rd p⟩
  · exact ⟨_, List.mem_cons_of_mem _ List.mem_cons_self, fun _ p => Pt.rd p (flat_len encI_len _)⟩
  · exact ⟨_, List.mem_cons_of_mem _ (List.mem_cons_of_mem _ List.mem_cons_self), fun _ p => starH_map Item.own_rd p⟩
  · exact ⟨_, List.mem_cons_self, fun h _ => star_bare ks h⟩
set_option maxRecDepth 100000 in
set_option maxHeartbeats 4000000 in
theorem works : Triple Try.prog 19 [] [] [] Unit (fun _ => .bool true) (fun _ => True) (fun _ => []) := by
  refine triple_intro Try.tbs_ok Try.func19 rfl [] [] trivial rfl (by simp) ?_
  intro E
  refine go Try.tbs_ok 1000 ?_
  refine ev_new fun b1 => ?_
  refine ev_new fun b2 => ?_
  refine ev_call mNew [] [] (fun p => [.fact (NetM p [])]) rfl rfl (by decide) rfl (by simp) (fun x => rfl) (fun x => newsOk_fact (newsOk_nil _)) (fun x => by repeat (first | exact trivial | refine ⟨rfl, ?_⟩)) (fun p _ => ?_)
  refine go Try.tbs_ok 1000 ?_
  refine ev_stop (go_cutF [8, 9, 10, 11, 12, 13, 14, 15, 16, 17, 18, 19, 20, 21, 22, 23, 24, 25, 26, 27, 28, 29, 30, 31, 32, 33, 34, 35, 36, 37, 38, 39, 40, 41, 42, 43, 44] [(44, .bq false)]
    [.box b1 36 (mailSV (kindM 1) none 0 0), .box b2 36 (mailSV (kindM 2) none 0 0), .fact (NetM p [bare 1, bare 2, bare 1])] ?_ ?_)
  · refine go Try.tbs_ok 1000 ?_
    refine ev_stop (go_draw Try.tbs_ok false [0, 1] [(0,true),(1,true),(2,true),(3,true),(4,true),(5,false),(6,true),(7,true),(8,true),(9,true),(10,true),(11,false),(12,true),(13,true),(14,true),(15,true),(16,false),(17,true),(18,true),(19,true),(20,true),(21,false),(22,true),(23,true),(24,true),(25,true),(27,true),(28,true),(29,true),(99,false),(0,true),(0,true),(0,true),(0,true)] rfl ?_)
    refine go Try.tbs_ok 1000 ?_
    refine ev_need ⟨⟨⟨rfl, rfl, trivial⟩, rfl⟩, by kernel_rfl⟩ ?_
    refine ev_call (send_bare p [] (by decide) (kindM 1)) [2] [] (fun _ => [.fact (NetM p [bare 1])]) rfl rfl (by decide) rfl (by simp) (fun x => rfl) (fun x => newsOk_fact (newsOk_nil _)) (fun x => by repeat (first | exact trivial | refine ⟨rfl, ?_⟩)) (fun _ _ => ?_)
    refine go Try.tbs_ok 1000 ?_
    refine ev_need ⟨⟨⟨rfl, rfl, trivial⟩, rfl⟩, by kernel_rfl⟩ ?_
    refine ev_if_no rfl ?_
    refine go Try.tbs_ok 1000 ?_
    refine ev_need ⟨⟨⟨rfl, rfl, trivial⟩, rfl⟩, by kernel_rfl⟩ ?_
    refine ev_call (send_bare p [bare 1] (by decide) (kindM 2)) [2] [] (fun _ => [.fact (NetM p [bare 1, bare 2])]) rfl rfl (by decide) rfl (by simp) (fun x => rfl) (fun x => newsOk_fact (newsOk_nil _)) (fun x => by repeat (first | exact trivial | refine ⟨rfl, ?_⟩)) (fun _ _ => ?_)
    refine go Try.tbs_ok 1000 ?_
    refine ev_need ⟨⟨⟨rfl, rfl, trivial⟩, rfl⟩, by kernel_rfl⟩ ?_
    refine ev_if_no rfl ?_
    refine go Try.tbs_ok 1000 ?_
    refine ev_need ⟨⟨⟨rfl, rfl, trivial⟩, rfl⟩, by kernel_rfl⟩ ?_
    refine ev_call (mCopy p [bare 1, bare 2] (fewM_bare [1, 2]) (by decide) 0 (by decide)) [2] [] (fun _ => [.fact (NetM p [bare 1, bare 2, bare 1])]) rfl rfl (by decide) rfl (by simp) (fun x => rfl) (fun x => newsOk_fact (newsOk_nil _)) (fun x => by repeat (first | exact trivial | refine ⟨rfl, ?_⟩)) (fun _ _ => ?_)
    refine go Try.tbs_ok 1000 ?_
    refine ev_need ⟨⟨⟨rfl, rfl, trivial⟩, rfl⟩, by kernel_rfl⟩ ?_
    refine ev_if_no rfl ?_
    refine go Try.tbs_ok 1000 ?_
    refine ev_need ⟨⟨⟨rfl, rfl, trivial⟩, rfl⟩, by kernel_rfl⟩ ?_
    refine ev_call (mLen p [bare 1, bare 2, bare 1]) [2] [] (fun _ => [.fact (NetM p [bare 1, bare 2, bare 1])]) rfl rfl (by decide) rfl (by simp) (fun x => rfl) (fun x => newsOk_fact (newsOk_nil _)) (fun x => by repeat (first | exact trivial | refine ⟨rfl, ?_⟩)) (fun _ _ => ?_)
    refine go Try.tbs_ok 1000 ?_
    refine ev_need ⟨⟨⟨rfl, rfl, trivial⟩, rfl⟩, by kernel_rfl⟩ ?_
    refine ev_if_no rfl ?_
    refine go Try.tbs_ok 1000 ?_
    refine ev_need ⟨⟨⟨rfl, rfl, trivial⟩, rfl⟩, by kernel_rfl⟩ ?_
    refine ev_stop (go_fork 26 30 [(30,false),(31,false),(32,false),(33,false)] [(26,false),(31,false),(32,false),(33,false)] _ _ ⟨⟨rfl, rfl, trivial⟩, rfl⟩ (by kernel_rfl) rfl rfl rfl rfl ?_ ?_)
    · refine go Try.tbs_ok 1000 ?_
      refine ev_call (mAll p [bare 1, bare 2, bare 1] (fewM_bare [1, 2, 1]) (by decide)) [2] [] (fun x => [.fact (NetM p [bare 1, bare 2, bare 1]), .fact (Row 36 18 x.2.1 x.1.length x.2.2 (x.1.flatMap encI)), .fact (Asn.star (x.1.map Item.own))]) rfl rfl (by decide) rfl (by simp) (fun x => rfl)
        (fun x => newsOk_fact (newsOk_fact (newsOk_fact (newsOk_nil _)))) (fun x => by repeat (first | exact trivial | refine ⟨rfl, ?_⟩)) (fun x hx => ?_)
      refine go Try.tbs_ok 1000 ?_
      refine ev_need ⟨⟨⟨rfl, rfl, trivial⟩, rfl⟩, by kernel_rfl⟩ ?_
      refine ev_new fun b3 => ?_
      refine ev_need ⟨⟨⟨rfl, rfl, trivial⟩, rfl⟩, by kernel_rfl⟩ ?_
      refine ev_call (all_same x.2.1 x.2.2 b3 x.1 [1, 2, 1] hx (by decide)) [] [.inr 3, .inr 5, .inr 4] (fun _ => []) rfl rfl (by decide) rfl (by simp) (fun x => rfl) (fun x => newsOk_nil _) (fun x => by repeat (first | exact trivial | refine ⟨rfl, ?_⟩)) (fun _ _ => ?_)
      refine go Try.tbs_ok 1000 ?_
      refine ev_need ⟨⟨⟨rfl, rfl, trivial⟩, rfl⟩, by kernel_rfl⟩ ?_
      refine ev_need ⟨⟨⟨rfl, rfl, trivial⟩, rfl⟩, by kernel_rfl⟩ ?_
      refine ev_need (by kernel_rfl) ?_
      exact ev_fin ⟨rfl, ⟨⟨by kernel_rfl, by kernel_rfl⟩, ⟨_, rfl⟩, ⟨_, rfl⟩, by kernel_rfl, by kernel_rfl⟩⟩
    · refine go Try.tbs_ok 1000 ?_
      refine ev_new fun b3 => ?_
      refine ev_need ⟨⟨⟨rfl, rfl, trivial⟩, rfl⟩, by kernel_rfl⟩ ?_
      refine ev_call (mAll p [bare 1, bare 2, bare 1] (fewM_bare [1, 2, 1]) (by decide)) [2] [] (fun x => [.fact (NetM p [bare 1, bare 2, bare 1]), .fact (Row 36 18 x.2.1 x.1.length x.2.2 (x.1.flatMap encI)), .fact (Asn.star (x.1.map Item.own))]) rfl rfl (by decide) rfl (by simp) (fun x => rfl)
        (fun x => newsOk_fact (newsOk_fact (newsOk_fact (newsOk_nil _)))) (fun x => by repeat (first | exact trivial | refine ⟨rfl, ?_⟩)) (fun x hx => ?_)
      refine go Try.tbs_ok 1000 ?_
      refine ev_need ⟨⟨⟨rfl, rfl, trivial⟩, rfl⟩, by kernel_rfl⟩ ?_
      refine ev_call (all_same x.2.1 x.2.2 b3 x.1 [1, 2, 1] hx (by decide)) [] [.inr 4, .inr 3, .inr 5] (fun _ => []) rfl rfl (by decide) rfl (by simp) (fun x => rfl) (fun x => newsOk_nil _) (fun x => by repeat (first | exact trivial | refine ⟨rfl, ?_⟩)) (fun _ _ => ?_)
      refine go Try.tbs_ok 1000 ?_
      refine ev_need ⟨⟨⟨rfl, rfl, trivial⟩, rfl⟩, by kernel_rfl⟩ ?_
      refine ev_need ⟨⟨⟨rfl, rfl, trivial⟩, rfl⟩, by kernel_rfl⟩ ?_
      refine ev_need (by kernel_rfl) ?_
      exact ev_fin ⟨rfl, ⟨⟨by kernel_rfl, by kernel_rfl⟩, ⟨_, rfl⟩, ⟨_, rfl⟩, by kernel_rfl, by kernel_rfl⟩⟩
  refine go Try.tbs_ok 1000 ?_
  refine ev_if_no rfl ?_
  refine go Try.tbs_ok 1000 ?_
  refine ev_call (mTake p [bare 1, bare 2, bare 1] (fewM_bare [1, 2, 1]) (by decide) 0 (by decide)) [2] [] (fun A => [.fact (NetM p [bare 2, bare 1]), .fact ((bare 1).at A).own]) rfl rfl (by decide) rfl (by simp) (fun x => rfl) (fun x => newsOk_fact (newsOk_fact (newsOk_nil _))) (fun x => by repeat (first | exact trivial | refine ⟨rfl, ?_⟩)) (fun A _ => ?_)
  refine go Try.tbs_ok 1000 ?_
  refine ev_new fun b4 => ?_
  refine ev_call (mLook p [bare 2, bare 1] (fewM_bare [2, 1]) 0 (by decide)) [2] [] (fun A => [.fact (NetM p [bare 2, bare 1]), .fact ((bare 2).at A).own]) rfl rfl (by decide) rfl (by simp) (fun x => rfl) (fun x => newsOk_fact (newsOk_fact (newsOk_nil _))) (fun x => by repeat (first | exact trivial | refine ⟨rfl, ?_⟩)) (fun A2 _ => ?_)
  refine go Try.tbs_ok 1000 ?_
  refine ev_new fun b6 => ?_
  refine ev_stop (go_draw Try.tbs_ok false [0, 1, 4, 6] [(0,true),(1,true),(2,true),(3,true),(4,false),(5,true),(6,true),(7,true),(8,true),(9,true),(10,true),(11,true),(12,false),(13,true),(14,true),(15,true),(16,false),(17,true),(18,true),(19,true),(20,true),(21,false),(22,true),(23,true),(24,true),(26,true),(99,false),(0,true),(0,true),(0,true),(0,true)] rfl ?_)
  refine go Try.tbs_ok 1000 ?_
  refine ev_need ⟨⟨⟨rfl, rfl, rfl, rfl, trivial⟩, rfl⟩, by kernel_rfl⟩ ?_
  refine ev_if_yes rfl ?_
  refine go Try.tbs_ok 1000 ?_
  refine ev_need ⟨⟨⟨rfl, rfl, rfl, rfl, trivial⟩, rfl⟩, by kernel_rfl⟩ ?_
  refine ev_call (same_bare (kindM 1) A none) [] [] (fun _ => []) rfl rfl (by decide) rfl (by simp) (fun x => rfl) (fun x => newsOk_nil _) (fun x => by repeat (first | exact trivial | refine ⟨rfl, ?_⟩)) (fun _ _ => ?_)
  refine go Try.tbs_ok 1000 ?_
  refine ev_need ⟨⟨⟨rfl, rfl, rfl, rfl, trivial⟩, rfl⟩, by kernel_rfl⟩ ?_
  refine ev_if_yes rfl ?_
  refine go Try.tbs_ok 1000 ?_
  refine ev_need ⟨⟨⟨rfl, rfl, rfl, rfl, trivial⟩, rfl⟩, by kernel_rfl⟩ ?_
  refine ev_if_yes rfl ?_
  refine go Try.tbs_ok 1000 ?_
  refine ev_need ⟨⟨⟨rfl, rfl, rfl, rfl, trivial⟩, rfl⟩, by kernel_rfl⟩ ?_
  refine ev_call (same_bare (kindM 2) A2 none) [] [] (fun _ => []) rfl rfl (by decide) rfl (by simp) (fun x => rfl) (fun x => newsOk_nil _) (fun x => by repeat (first | exact trivial | refine ⟨rfl, ?_⟩)) (fun _ _ => ?_)
  refine go Try.tbs_ok 1000 ?_
  refine ev_need ⟨⟨⟨rfl, rfl, rfl, rfl, trivial⟩, rfl⟩, by kernel_rfl⟩ ?_
  refine ev_if_yes rfl ?_
  refine go Try.tbs_ok 1000 ?_
  refine ev_need ⟨⟨⟨rfl, rfl, rfl, rfl, trivial⟩, rfl⟩, by kernel_rfl⟩ ?_
  refine ev_call (mDrop_out p [bare 2, bare 1] 5 (.inr (by decide))) [2] [] (fun _ => [.fact (NetM p [bare 2, bare 1])]) rfl rfl (by decide) rfl (by simp) (fun x => rfl) (fun x => newsOk_fact (newsOk_nil _)) (fun x => by repeat (first | exact trivial | refine ⟨rfl, ?_⟩)) (fun _ _ => ?_)
  refine go Try.tbs_ok 1000 ?_
  refine ev_need ⟨⟨⟨rfl, rfl, rfl, rfl, trivial⟩, rfl⟩, by kernel_rfl⟩ ?_
  refine ev_if_yes rfl ?_
  refine go Try.tbs_ok 1000 ?_
  refine ev_need ⟨⟨⟨rfl, rfl, rfl, rfl, trivial⟩, rfl⟩, by kernel_rfl⟩ ?_
  refine ev_call (mDrop p [bare 2, bare 1] (fewM_bare [2, 1]) (by decide) 0 (by decide)) [2] [] (fun _ => [.fact (NetM p [bare 1])]) rfl rfl (by decide) rfl (by simp) (fun x => rfl) (fun x => newsOk_fact (newsOk_nil _)) (fun x => by repeat (first | exact trivial | refine ⟨rfl, ?_⟩)) (fun _ _ => ?_)
  refine go Try.tbs_ok 1000 ?_
  refine ev_need ⟨⟨⟨rfl, rfl, rfl, rfl, trivial⟩, rfl⟩, by kernel_rfl⟩ ?_
  refine ev_if_yes rfl ?_
  refine go Try.tbs_ok 1000 ?_
  refine ev_need ⟨⟨⟨rfl, rfl, rfl, rfl, trivial⟩, rfl⟩, by kernel_rfl⟩ ?_
  refine ev_stop (go_fork 25 27 [(27,false),(28,false),(29,false),(30,false)] [(25,false),(28,false),(29,false),(30,false)] _ _ ⟨⟨rfl, rfl, rfl, rfl, trivial⟩, rfl⟩ (by kernel_rfl) rfl rfl rfl rfl ?_ ?_)
  · refine go Try.tbs_ok 1000 ?_
    refine ev_call (mAll p [bare 1] (fewM_bare [1]) (by decide)) [2] [] (fun x => [.fact (NetM p [bare 1]), .fact (Row 36 18 x.2.1 x.1.length x.2.2 (x.1.flatMap encI)), .fact (Asn.star (x.1.map Item.own))]) rfl rfl (by decide) rfl (by simp) (fun x => rfl) (fun x => newsOk_fact (newsOk_fact (newsOk_fact (newsOk_nil _)))) (fun x => by repeat (first | exact trivial | refine ⟨rfl, ?_⟩)) (fun x hx => ?_)
    refine go Try.tbs_ok 1000 ?_
    refine ev_need ⟨⟨⟨rfl, rfl, rfl, rfl, trivial⟩, rfl⟩, by kernel_rfl⟩ ?_
    refine ev_new fun b7 => ?_
    refine ev_need ⟨⟨⟨rfl, rfl, rfl, rfl, trivial⟩, rfl⟩, by kernel_rfl⟩ ?_
    refine ev_call (all_same x.2.1 x.2.2 b7 x.1 [1] hx (by decide)) [] [.inr 7, .inr 9, .inr 8] (fun _ => []) rfl rfl (by decide) rfl (by simp) (fun x => rfl) (fun x => newsOk_nil _) (fun x => by repeat (first | exact trivial | refine ⟨rfl, ?_⟩)) (fun _ _ => ?_)
    refine go Try.tbs_ok 1000 ?_
    refine ev_need ⟨⟨⟨rfl, rfl, rfl, rfl, trivial⟩, rfl⟩, by kernel_rfl⟩ ?_
    refine ev_need ⟨⟨⟨rfl, rfl, rfl, rfl, trivial⟩, rfl⟩, by kernel_rfl⟩ ?_
    refine ev_need (by kernel_rfl) ?_
    exact ev_fin ⟨trivial, _, rfl, (), rfl, trivial, Frm.nil _⟩
  · refine go Try.tbs_ok 1000 ?_
    refine ev_new fun b7 => ?_
    refine ev_need ⟨⟨⟨rfl, rfl, rfl, rfl, trivial⟩, rfl⟩, by kernel_rfl⟩ ?_
    refine ev_call (mAll p [bare 1] (fewM_bare [1]) (by decide)) [2] [] (fun x => [.fact (NetM p [bare 1]), .fact (Row 36 18 x.2.1 x.1.length x.2.2 (x.1.flatMap encI)), .fact (Asn.star (x.1.map Item.own))]) rfl rfl (by decide) rfl (by simp) (fun x => rfl) (fun x => newsOk_fact (newsOk_fact (newsOk_fact (newsOk_nil _)))) (fun x => by repeat (first | exact trivial | refine ⟨rfl, ?_⟩)) (fun x hx => ?_)
    refine go Try.tbs_ok 1000 ?_
    refine ev_need ⟨⟨⟨rfl, rfl, rfl, rfl, trivial⟩, rfl⟩, by kernel_rfl⟩ ?_
    refine ev_call (all_same x.2.1 x.2.2 b7 x.1 [1] hx (by decide)) [] [.inr 8, .inr 7, .inr 9] (fun _ => []) rfl rfl (by decide) rfl (by simp) (fun x => rfl) (fun x => newsOk_nil _) (fun x => by repeat (first | exact trivial | refine ⟨rfl, ?_⟩)) (fun _ _ => ?_)
    refine go Try.tbs_ok 1000 ?_
    refine ev_need ⟨⟨⟨rfl, rfl, rfl, rfl, trivial⟩, rfl⟩, by kernel_rfl⟩ ?_
    refine ev_need ⟨⟨⟨rfl, rfl, rfl, rfl, trivial⟩, rfl⟩, by kernel_rfl⟩ ?_
    refine ev_need (by kernel_rfl) ?_
    exact ev_fin ⟨trivial, _, rfl, (), rfl, trivial, Frm.nil _⟩
end Go.Proofs.Yteleepinalcjeaa

/-
  What is proved: the texts that the claims share, part 6 of 6, each text behind the other. Conditions: none.
-/
import Derived.Test.YtjlfdfmkofbccaaGreatDoorWb5
namespace Go.Proofs.YtjlfdfmkofbccaaGreatDoor
open Go.Sy
theorem know {f : FuncId} {args : List Value} {M N : List Asn} {X : Type} {ret : X → Value} {good : X → Prop} {post : X → List Asn} (T : Triple Tryz.prog f args M N X ret good post) {g : X → Prop} (h : ∀ x h, Asn.starH (post x) h → g x) : Triple Tryz.prog f args M N X ret g post :=
 fun w hm hn h1 h2 h3 h4 h5 => (T w hm hn h1 h2 h3 h4 h5).mono fun e w' he => by
  obtain ⟨x, hm', a, b, c, d⟩ := he
  exact ⟨x, hm', a, h x _ c, c, d⟩
theorem rdsR {f : FuncId} {args : List Value} {M : List Asn} {B C : Asn} {H : Option Addr} {nh ch e : Nat} {cs : List Value} {X : Type} {ret : X → Value} {good : X → Prop} {post : X → List Asn} (T : Triple Tryz.prog f args M [TabA, Rd 1 H nh cs, B, C] X ret good post) : Triple Tryz.prog f args M [TabA, Row e 1 H nh ch cs, B, C] X ret good post :=
 T.reads fun X hX => by
  simp only [List.mem_cons, List.not_mem_nil, or_false] at hX
  rcases hX with rfl | rfl | rfl | rfl
  · exact ⟨_, List.mem_cons_self, fun _ q => q⟩
  · exact ⟨_, List.mem_cons_of_mem _ List.mem_cons_self, fun _ q => Row.rd q⟩
  · exact ⟨_, List.mem_cons_of_mem _ (List.mem_cons_of_mem _ List.mem_cons_self), fun _ q => q⟩
  · exact ⟨_, List.mem_cons_of_mem _ (List.mem_cons_of_mem _ (List.mem_cons_of_mem _ List.mem_cons_self)), fun _ q => q⟩
theorem rdsR3 {f : FuncId} {args : List Value} {M : List Asn} {B : Asn} {H : Option Addr} {nh ch e : Nat} {cs : List Value} {X : Type} {ret : X → Value} {good : X → Prop} {post : X → List Asn} (T : Triple Tryz.prog f args M [TabA, Rd 1 H nh cs, B] X ret good post) : Triple Tryz.prog f args M [TabA, Row e 1 H nh ch cs, B] X ret good post :=
 T.reads fun X hX => by
  simp only [List.mem_cons, List.not_mem_nil, or_false] at hX
  rcases hX with rfl | rfl | rfl
  · exact ⟨_, List.mem_cons_self, fun _ q => q⟩
  · exact ⟨_, List.mem_cons_of_mem _ List.mem_cons_self, fun _ q => Row.rd q⟩
  · exact ⟨_, List.mem_cons_of_mem _ (List.mem_cons_of_mem _ List.mem_cons_self), fun _ q => q⟩
theorem chg_starts (D : DK) (late : Bool) (L2 : List Fl) : (chg D late L2).1.starts = D.starts ∧ (chg D late L2).1.most = D.most := by
 unfold chg
 split
 · exact ⟨rfl, rfl⟩
 · split <;> exact ⟨rfl, rfl⟩
theorem appD_starts (D : DK) (x y : BA) : (appD D x y).1.starts = D.starts := by
 unfold appD
 repeat' split
 all_goals first | rfl | exact (chg_starts _ _ _).1
theorem syncD_starts (D : DK) (x : BA) : (syncD D x).1.starts = D.starts := by
 unfold syncD
 repeat' split
 all_goals first | rfl | exact (chg_starts _ _ _).1
theorem renD_starts (D : DK) (x y : BA) : (renD D x y).1.starts = D.starts := by
 unfold renD
 repeat' split
 all_goals first | rfl | exact (chg_starts _ _ _).1
theorem remD_starts (D : DK) (x : BA) : (remD D x).1.starts = D.starts := by
 unfold remD
 repeat' split
 all_goals first | rfl | exact (chg_starts _ _ _).1
theorem runD_starts : ∀ {fs : List (DK → DK × Int)} {D : DK}, (∀ f ∈ fs, ∀ D, (f D).1.starts = D.starts) → (runD fs D).1.starts = D.starts
 | [], _, _ => rfl
 |
  f :: fs, D, hf => by
  have h1 := hf f List.mem_cons_self D
  unfold runD
  split
  · rw [runD_starts (fun g hg => hf g (List.mem_cons_of_mem _ hg)), h1]
  · exact h1
theorem remL_starts (L : List BA) (D : DK) : (runD (remL L) D).1.starts = D.starts := runD_starts fun f hf D => by
 obtain ⟨x, _, rfl⟩ := List.mem_map.1 hf
 exact remD_starts _ _
theorem ckL3_starts (F : BA) (n : Nat) (D : DK) : (runD (ckL3 F n) D).1.starts = D.starts := runD_starts fun f hf D => by
 simp only [ckL3, List.mem_cons, List.not_mem_nil, or_false] at hf
 rcases hf with rfl | rfl | rfl
 · exact appD_starts _ _ _
 · exact syncD_starts _ _
 · exact renD_starts _ _ _
theorem appW_starts (W : WK) (D : DK) (ps : List BA) : (appW W D ps).2.1.starts = D.starts := by
 unfold appW
 dsimp only
 obtain ⟨r, hr⟩ : ∃ r, r = (if 0 < W.t then syncD D (nmB 115 (W.b + W.t)) else (D, 0)) := ⟨_, rfl⟩
 rw [← hr]
 split
 · rfl
 split
 · rfl
 split
 · rfl
 split
 · exact appD_starts _ _ _
 have h1 : r.1.starts = D.starts := by
  rw [hr]
  split
  · exact syncD_starts _ _
  · rfl
 split
 · exact h1
 split
 · exact h1
 · rw [appD_starts]
   exact h1
theorem syncW_starts (W : WK) (D : DK) : (syncW W D).2.1.starts = D.starts := by
 unfold syncW
 dsimp only
 repeat' split
 all_goals first | rfl | exact syncD_starts _ _
theorem ckW_starts (W : WK) (D : DK) (ps : List BA) : (ckW W D ps).2.1.starts = D.starts := by
 unfold ckW
 dsimp only
 split
 · rfl
 split
 · rfl
 split
 · rfl
 split
 · exact ckL3_starts _ _ _
 · rw [remL_starts, ckL3_starts]
end Go.Proofs.YtjlfdfmkofbccaaGreatDoor
namespace Go.Proofs.YtjlfdfmkofbccaaGreatDoor
open Go.Sy
theorem Live.self {W : WK} {D : DK} {init : List (List BA)} {last : List BA} {j : Nat} (H : Live W D init last j) : openD D = (D, 0, W, init.flatten ++ last) := by
 have h := H.opens
 have hb := H.nb
 have hs := H.st
 obtain ⟨s, bad, b, t⟩ := W
 dsimp only at *
 subst hb hs
 exact h
theorem Logs.self {W : WK} {D : DK} {l : List BA} {sure : Nat} (H : Logs W D l sure) : openD D = (D, 0, W, l) := by
 obtain ⟨init, last, j, hL, hl, _⟩ := H
 rw [hL.self, hl]
theorem rdsR2 {f : FuncId} {args : List Value} {M : List Asn} {H : Option Addr} {nh ch e : Nat} {cs : List Value} {X : Type} {ret : X → Value} {good : X → Prop} {post : X → List Asn} (T : Triple Tryz.prog f args M [TabA, Rd 1 H nh cs] X ret good post) : Triple Tryz.prog f args M [TabA, Row e 1 H nh ch cs] X ret good post :=
 T.reads fun X hX => by
  simp only [List.mem_cons, List.not_mem_nil, or_false] at hX
  rcases hX with rfl | rfl
  · exact ⟨_, List.mem_cons_self, fun _ q => q⟩
  · exact ⟨_, List.mem_cons_of_mem _ List.mem_cons_self, fun _ q => Row.rd q⟩
theorem rdsNil {f : FuncId} {args : List Value} {M : List Asn} {X : Type} {ret : X → Value} {good : X → Prop} {post : X → List Asn} (T : Triple Tryz.prog f args M [TabA, Rd 1 none 0 (([] : List BA).flatMap encS)] X ret good post) : Triple Tryz.prog f args M [TabA] X ret good post :=
 T.reads fun X hX => by
  simp only [List.mem_cons, List.not_mem_nil, or_false] at hX
  rcases hX with rfl | rfl
  · exact ⟨_, List.mem_cons_self, fun _ q => q⟩
  · exact ⟨_, List.mem_cons_self, fun _ _ => Rd.nil _ _ _⟩
inductive Some1 (W : WK) (D : DK) : Prop
 | up (l : List BA) (h : Logs W D l 0) : Some1 W D
 | down (l : List BA) (hw : okW W) (h : Brk D l 0) : Some1 W D
theorem Some1.ok {W : WK} {D : DK} (H : Some1 W D) : okD D ∧ okW W := by
 rcases H with ⟨l, h⟩ | ⟨l, hw, h⟩
 · obtain ⟨_, _, _, hL, _⟩ := h
   exact ⟨hL.ok, hL.okW⟩
 · exact ⟨h.ok, hw⟩
theorem ask_down {s : Int} {bad : Bool} {D : DK} (h : D.down = true) : askW s bad D = 41 := by
 unfold askW
 rw [h, Bool.or_true, Bool.true_or, if_pos rfl]
theorem appW_w (W : WK) (D : DK) (ps : List BA) : (appW W D ps).1.b = W.b ∧ ((appW W D ps).1.t = W.t ∨ (appW W D ps).2.2 = 0 ∧ (appW W D ps).1.t = W.t + 1 ∧ W.b + W.t < 999999999) := by
 unfold appW
 dsimp only
 obtain ⟨r, hr⟩ : ∃ r, r = (if 0 < W.t then syncD D (nmB 115 (W.b + W.t)) else (D, 0)) := ⟨_, rfl⟩
 rw [← hr]
 split
 · exact ⟨rfl, .inl rfl⟩
 split
 · exact ⟨rfl, .inl rfl⟩
 split
 · exact ⟨rfl, .inl rfl⟩
 split
 · exact ⟨rfl, .inl rfl⟩
 split
 · exact ⟨rfl, .inl rfl⟩
 split
 · exact ⟨rfl, .inl rfl⟩
 · rename_i h
   refine ⟨rfl, ?_⟩
   dsimp only
   split
   · rename_i h0
     exact .inr ⟨h0, rfl, by omega⟩
   · exact .inl rfl
theorem appW_okW {W : WK} (D : DK) (ps : List BA) (h : okW W) : okW (appW W D ps).1 := by
 obtain ⟨h1, h2⟩ := appW_w W D ps
 unfold okW at h ⊢
 rcases h2 with h2 | ⟨_, h2, _⟩ <;> omega
theorem syncW_okW {W : WK} (D : DK) (h : okW W) : okW (syncW W D).1 := by
 unfold syncW
 dsimp only
 repeat' split
 all_goals exact h
theorem ckW_okW {W : WK} (D : DK) (ps : List BA) (h : okW W) : okW (ckW W D ps).1 := by
 unfold ckW
 dsimp only
 repeat' split
 all_goals first | exact h | exact last_le _
theorem appW_down {W : WK} {D : DK} (h : D.down = true) (ps : List BA) : appW W D ps = (W, D, 41) := by
 unfold appW
 rw [ask_down h, if_pos (by decide)]
theorem syncW_down {W : WK} {D : DK} (h : D.down = true) : syncW W D = (W, D, 41) := by
 unfold syncW
 rw [ask_down h, if_pos (by decide)]
theorem ckW_down {W : WK} {D : DK} (h : D.down = true) (ps : List BA) : ckW W D ps = (W, D, 41) := by
 unfold ckW
 rw [ask_down h, if_pos (by decide)]
theorem Brk.nil {D : DK} {l : List BA} {s : Nat} (h : Brk D l s) : Brk D l 0 := by
 obtain ⟨h1, h2, h3, b, t, init, last, x, j, a1, a2, a3, a4, a5⟩ := h
 exact ⟨h1, h2, h3, b, t, init, last, x, j, a1, a2, a3, Nat.zero_le _, a5⟩
theorem Logs.nil {W : WK} {D : DK} {l : List BA} {s : Nat} (h : Logs W D l s) : Logs W D l 0 := by
 obtain ⟨a, b, c, d, e, _⟩ := h
 exact ⟨a, b, c, d, e, Nat.zero_le _⟩
theorem Some1.app {W : WK} {D : DK} (H : Some1 W D) (ps : List BA) : Some1 (appW W D ps).1 (appW W D ps).2.1 := by
 have ho := appW_okW D ps H.ok.2
 rcases H with ⟨l, h⟩ | ⟨l, hw, h⟩
 · rcases h.app ps with ⟨_, _, h3, _⟩ | ⟨_, h2, h3, _, _⟩ | ⟨_, _, h3⟩
   · exact .up _ h3
   · rw [h2]
     exact .up _ h3
   · exact .down _ ho h3
 · rw [appW_down h.down]
   exact .down _ hw h
theorem Some1.sync {W : WK} {D : DK} (H : Some1 W D) : Some1 (syncW W D).1 (syncW W D).2.1 := by
 have ho := syncW_okW D H.ok.2
 rcases H with ⟨l, h⟩ | ⟨l, hw, h⟩
 · rcases h.sync with ⟨_, h2, h3, _, _⟩ | ⟨_, _, h3⟩
   · rw [h2]
     exact .up _ h3.nil
   · exact .down _ ho h3
 · rw [syncW_down h.down]
   exact .down _ hw h
theorem Some1.ck {W : WK} {D : DK} (H : Some1 W D) (ps : List BA) : Some1 (ckW W D ps).1 (ckW W D ps).2.1 := by
 have ho := ckW_okW D ps H.ok.2
 rcases H with ⟨l, h⟩ | ⟨l, hw, h⟩
 · rcases h.ck ps with ⟨_, _, h3, _⟩ | ⟨_, h2, h3⟩ | ⟨_, _, h3 | h3⟩
   · exact .up _ h3.nil
   · rw [h2, h3]
     exact .up _ h
   · exact .down _ ho h3
   · exact .down _ ho h3.nil
 · rw [ckW_down h.down]
   exact .down _ hw h
theorem Some1.fail {W : WK} {D : DK} (H : Some1 W D) (z : Int) (hz : z ≤ 9223372036854775807) (K : List Int) : Some1 W (failD D z K).1 ∧ (failD D z K).1.starts = D.starts := by
 rcases H with ⟨l, h⟩ | ⟨l, hw, h⟩
 · obtain ⟨h1, h2⟩ := h.fail z hz K
   exact ⟨.up _ h1, h2⟩
 · rw [show failD D z K = (D, 41) by unfold failD; rw [if_pos h.down]]
   exact ⟨.down _ hw h, rfl⟩
theorem FB_len : ∀ ps : List BA, ps.length * 4 ≤ (FB ps).size
 | [] => Nat.zero_le _
 |
  p :: ps => by
  have := FB_len ps
  rw [FB_cons, List.length_cons]
  omega
theorem Logs.small {W : WK} {D : DK} {l : List BA} {s : Nat} (H : Logs W D l s) : l.length ≤ 1000000 := by
 obtain ⟨_, _, _, hL, rfl, _⟩ := H
 have h1 := hL.sum
 have h2 := hL.ok.room
 have h3 := hL.ok.most.2
 have h4 := FB_len (List.flatten ‹_› ++ ‹_›)
 rw [← h1] at h4
 omega
theorem Logs.okk {W : WK} {D : DK} {l : List BA} {s : Nat} (H : Logs W D l s) : okD D ∧ okW W ∧ W.t ≤ 1000 := by
 obtain ⟨_, _, _, hL, _, _⟩ := H
 exact ⟨hL.ok, hL.okW, Nat.le_trans hL.few15.2 (by decide)⟩
theorem same2 (A B : Option Addr) (l : List BA) (n c m d : Nat) (hn : n = l.length) (hm : m = l.length) (h1 : n ≤ 1000000) :
 Triple Tryz.prog 24 [.slice A n c, .slice B m d] [] [Row 9 1 A n c (l.flatMap encS), Row 9 1 B m d (l.flatMap encS)] Unit (fun _ => .bool true) (fun _ => True) (fun _ => []) := by
 have T := (sameTexts A B l l n c m d hn hm h1).reads (N' := [Row 9 1 A n c (l.flatMap encS), Row 9 1 B m d (l.flatMap encS)]) (fun X hX => by
  simp only [List.mem_cons, List.not_mem_nil, or_false] at hX
  rcases hX with rfl | rfl
  · exact ⟨_, List.mem_cons_self, fun _ q => Row.rd q⟩
  · exact ⟨_, List.mem_cons_of_mem _ List.mem_cons_self, fun _ q => Row.rd q⟩)
 rw [decide_eq_true rfl] at T
 exact T
theorem Brk.twice {D : DK} {l : List BA} (H : Brk D l 0) : ∃ D2 W3 D3 l3, startD D = (D2, 0) ∧ okD D2 ∧ openD D2 = (D3, 0, W3, l3) ∧ okD D3 ∧ okW W3 ∧ W3.t ≤ 1000 ∧ openD D3 = (D3, 0, W3, l3) ∧ segsW W3 D3 = D3.files.length ∧ sizeOfW W3 D3 = sumD D3.files ∧ l3.length ≤ 1000000 := by
 obtain ⟨D2, W3, D3, l3, h1, _, h3, _, h5, h6, _, h8, _, _⟩ := H.opens
 obtain ⟨init, last, j, hL, hl, _⟩ := id h5
 exact ⟨D2, W3, D3, l3, h1, h8, h3, hL.ok, hL.okW, Nat.le_trans hL.few15.2 (by decide), h5.self, hL.segments, hL.size, h5.small⟩
theorem Some1.twice {W : WK} {D : DK} (H : Some1 W D) (K : List Int) : ∃ D1, (D.down = true ∧ D1 = D ∨ D.down = false ∧ crashD D K = (D1, 0)) ∧ okD D1 ∧ D1.starts = D.starts ∧ ∃ l, Brk D1 l 0 := by
 rcases H with ⟨l, h⟩ | ⟨l, hw, h⟩
 · obtain ⟨h1, h2, h3⟩ := h.crash K
   obtain ⟨_, _, _, hL, _, _⟩ := h
   exact ⟨_, .inr ⟨hL.up, Prod.ext rfl h1⟩, h2.ok, h3, l, h2⟩
 · exact ⟨D, .inl ⟨h.down, rfl⟩, h.ok, rfl, l, h⟩
structure Room (W : WK) (D : DK) (l : List BA) (i : Nat) : Prop where
 live : Logs W D l 0
 fails : D.fails = none
 few : W.b + W.t ≤ i
theorem Room.ok {W : WK} {D : DK} {l : List BA} {i : Nat} (H : Room W D l i) : okD D ∧ okW W ∧ W.t ≤ 1000 := by
 obtain ⟨_, _, _, hL, _, _⟩ := H.live
 exact ⟨hL.ok, hL.okW, Nat.le_trans hL.few15.2 (by decide)⟩
theorem Room.size {W : WK} {D : DK} {l : List BA} {i : Nat} (H : Room W D l i) : sizeOfW W D = (FB l).size ∧ sumD D.files = (FB l).size ∧ segsW W D = (segsM W.b W.t).length ∧ D.files.length = (segsM W.b W.t).length := by
 obtain ⟨_, _, _, hL, rfl, _⟩ := H.live
 exact ⟨hL.size.trans hL.sum, hL.sum, hL.segments.trans hL.len, hL.len⟩
theorem Room.smalls {W : WK} {D : DK} {l : List BA} {i : Nat} (H : Room W D l i) : Proofs.YtjlfdfmkofbccaaGreatDoor.small l := fun p hp => by
 obtain ⟨init, last, j, hL, rfl, _⟩ := H.live
 obtain ⟨_, hT, _⟩ := hL.torn
 rcases List.mem_append.1 hp with hp | hp
 · obtain ⟨ps, h1, h2⟩ := List.mem_flatten.1 hp
   exact hT.smalls.1 ps h1 p h2
 · exact hT.smalls.2 p hp
theorem Room.app {W : WK} {D : DK} {l : List BA} {i : Nat} (H : Room W D l i) {ps : List BA} (hp : small ps) : ((appW W D ps).2.2 = 0 ∧ Room (appW W D ps).1 (appW W D ps).2.1 (l ++ ps) (i + 1)) ∨ ((appW W D ps).2.2 = 40 ∧ (appW W D ps).1 = W ∧ Room W (appW W D ps).2.1 l i) := by
 obtain ⟨g1, g2⟩ := appW_w W D ps
 have hf := H.few
 rcases H.live.app ps with ⟨h1, _, h3, h4⟩ | ⟨h1, h2, h3, _, h5⟩ | ⟨h1, _, _⟩
 · exact .inl ⟨h1, h3, h4 H.fails, by rw [g1]; omega⟩
 · exact .inr ⟨h1.resolve_left fun q => q.2 hp, h2, h3, h5 H.fails, hf⟩
 · exact absurd H.fails h1
theorem Room.ck {W : WK} {D : DK} {l : List BA} {i : Nat} (H : Room W D l i) {ps : List BA} (hp : small ps) : ((ckW W D ps).2.2 = 0 ∧ Room (ckW W D ps).1 (ckW W D ps).2.1 ps (i + 1)) ∨ ckW W D ps = (W, D, 40) := by
 have hf := H.few
 obtain ⟨init, last, j, hL, rfl, _⟩ := H.live
 rcases hL.ck (Nat.zero_le _) ps with ⟨h1, _, h3, h4, h5, _⟩ | ⟨h1, h2, h3⟩ | ⟨h1, _, _⟩
 · exact .inl ⟨h1, ⟨[ps], [], 0, h4, by simp, Nat.zero_le _⟩, h5 H.fails, by rw [h3]; exact Nat.succ_le_succ hf⟩
 · exact .inr (Prod.ext h2 (Prod.ext h3 (by
    rcases h1 with q | q
    · exact absurd hp q.2
    · exact q.1)))
 · exact absurd H.fails h1
theorem Room.noneC {W : WK} {D : DK} {l : List BA} {i : Nat} (H : Room W D l i) (hi : i < 999999999) : ∃ W' D', ckW W D [] = (W', D', 0) ∧ Room W' D' [] (i + 1) ∧ sizeOfW W' D' = 0 ∧ segsW W' D' = 1 := by
 have hf := H.few
 obtain ⟨init, last, j, hL, rfl, _⟩ := H.live
 obtain ⟨D', h1, h2, h3, _⟩ := hL.anew H.fails (by omega) (ps := []) (fun p q => by cases q) (by have := hL.ok.room; rw [FB_nil]; have : (ByteArray.empty).size = 0 := rfl; omega)
 have hR : Room ⟨W.s, W.bad, W.b + W.t + 1, 0⟩ D' [] (i + 1) := ⟨⟨[[]], [], 0, h2, by simp, Nat.zero_le _⟩, h3, Nat.succ_le_succ hf⟩
 refine ⟨_, D', h1, hR, ?_, ?_⟩
 · rw [hR.size.1, FB_nil]
   rfl
 · rw [hR.size.2.2.1]
   unfold segsM
   rw [if_pos (by dsimp only; omega)]
   rfl
theorem Room.new {m : Int} (h1 : 1 ≤ m) (h2 : m ≤ 1048576) : Room ⟨0, false, 0, 0⟩ ⟨m, 0, false, [], Option.none, []⟩ [] 0 := ⟨Logs.new h1 h2, rfl, Nat.le_refl _⟩
end Go.Proofs.YtjlfdfmkofbccaaGreatDoor

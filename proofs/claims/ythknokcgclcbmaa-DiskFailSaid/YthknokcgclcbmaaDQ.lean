/-
  What is proved: DiskCrash's walk. Conditions: none.
-/
import Derived.Test.YthknokcgclcbmaaDP
namespace Go.Proofs.Ythknokcgclcbmaa
open Go.Sy

def startIf (D : DK) : DK := if D.down then (startD D).1 else D
theorem startIf_up (D : DK) : (startIf D).down = false := by
  unfold startIf startD
  cases h : D.down
  · simp [h]
  · simp
theorem startIf_ok {D : DK} (h : okD D) : okD (startIf D) := by
  unfold startIf
  split
  · exact start_ok h
  · exact h
def crashed (D : DK) (K : List Int) : DK := ⟨D.most, D.starts, true, crashF D.files K, none, D.keep⟩
def started (D : DK) : DK := ⟨D.most, D.starts + 1, false, D.files, D.fails, D.keep⟩
theorem crashD_up {D : DK} (h : D.down = false) (K : List Int) : crashD D K = (crashed D K, 0) := by unfold crashD; rw [h]; rfl
theorem crashD_down {D : DK} (h : D.down = true) (K : List Int) : crashD D K = (D, 41) := by unfold crashD; rw [h]; rfl
theorem startD_down {D : DK} (h : D.down = true) : startD D = (started D, 0) := by unfold startD; rw [h]; rfl
theorem crashed_ok {D : DK} (h : okD D) (hu : D.down = false) (K : List Int) : okD (crashed D K) := by
  have := crash_ok h K
  rwa [crashD_up hu] at this
theorem started_ok {D : DK} (h : okD D) (hu : D.down = true) : okD (started D) := by
  have := start_ok h
  rwa [startD_down hu] at this
theorem crashF_full {L : List Fl} (h : ∀ f ∈ L, 0 ≤ f.s ∧ f.s = f.d.size) (K : List Int) : (crashF L K).map datEG = L.map datEG := by
  apply List.ext_getElem
  · simp [crashF_len]
  · intro q h1 h2
    have hq : q < L.length := by simpa using h2
    rw [List.getElem_map, List.getElem_map, crashF_at L K hq]
    have h3 := h _ (List.getElem_mem hq)
    have e : ∀ a : Nat, a = L[q].d.size → L[q].d.extract 0 a = L[q].d := fun a e => by
      rw [e]
      exact ByteArray.extract_zero_size
    unfold keep1 datEG
    split
    · exact e _ (by omega)
    · exact e _ (by omega)
theorem crashF_left {L : List Fl} (h : ∀ f ∈ L, 0 ≤ f.s ∧ f.s ≤ f.d.size) (K : List Int) : ∀ f ∈ crashF L K, 0 ≤ f.s ∧ f.s = f.d.size := fun f hf => by
  obtain ⟨i, hi, rfl⟩ := List.getElem_of_mem hf
  rw [crashF_len] at hi
  rw [crashF_at L K hi]
  have := h _ (List.getElem_mem hi)
  have := keep1_ok this.1 this.2 K[i]?
  omega
set_option maxHeartbeats 8000000 in
set_option maxRecDepth 100000 in
theorem diskCrash (z : Int) (A : Option Addr) (l : List ActD) (n c : Nat) (Q : Option Addr) (kq dq : Nat) (K : List Int) (hz : 0 ≤ z) (hz2 : z ≤ 65535) (hn : n = l.length) (hn1 : n ≤ 9223372036854775807) (hl : ∀ x ∈ l, inA x) (hk : kq = K.length) (hk1 : kq ≤ 9223372036854775807) :
    Triple Try.prog 6 [.int .u16 z, .slice A n c, .slice Q kq dq] [] [Rd 6 A n (l.flatMap encA), Acts l, Rd 1 Q kq (K.flatMap encN)] Unit (fun _ => .bool true) (fun _ => True) (fun _ => []) := by
  have T0 := greatT A l n c hn hn1
  refine triple_intro Try.tbs_ok Try.func6 rfl [.va (.int .u16 z), .va (.slice A n c), .va (.slice Q kq dq)] [] ⟨trivial, trivial, trivial, trivial⟩ rfl (by simp) ?_
  intro E
  refine go Try.tbs_ok 1000 ?_
  refine ev_callF (T0 ) [] [.inl 0] rfl rfl (by decide) rfl (by simp) (fun _ => (by repeat (first | exact trivial | refine ⟨rfl, ?_⟩))) (fun x0 h1 => ?_)
  refine go Try.tbs_ok 1000 ?_
  refine ev_if (fun h2 => ?_) (fun h2 => ?_)
  refine go Try.tbs_ok 1000 ?_
  refine ev_fin ⟨trivial, _, rfl, (()), rfl, (by trivial), Frm.nil _⟩
  refine go Try.tbs_ok 1000 ?_
  refine ev_if_lt (fun h3 => ?_) (fun h3 => ?_)
  refine go Try.tbs_ok 1000 ?_
  refine ev_fin ⟨trivial, _, rfl, (()), rfl, (by trivial), Frm.nil _⟩
  refine go Try.tbs_ok 1000 ?_
  obtain ⟨hn150, hb⟩ := h1 h2
  have hF : ∀ x ∈ l, fineA x := fun x hx => fineA.of (hl x hx) (hb x hx)
  have TP := playedT z A l n c hz hz2 hn (by omega) hF
  have hf := playD_fine (m := 1 + z % 5000) (by omega) (by omega) hF n
  rw [List.take_of_length_le (by omega)] at hf
  obtain ⟨D, eD⟩ : ∃ D, D = playD (1 + z % 5000) l := ⟨_, rfl⟩
  rw [← eD] at TP hf
  have T1 := fun p => upM p D hf.good
  refine ev_callF (TP ) [] [.inl 0, .inl 1] rfl rfl (by decide) rfl (by simp) (fun _ => (by repeat (first | exact trivial | refine ⟨rfl, ?_⟩))) (fun x20 h21 => ?_)
  refine go Try.tbs_ok 1000 ?_
  refine ev_callF (T1 (x20)) [0] [] rfl rfl (by decide) rfl (by simp) (fun _ => (by repeat (first | exact trivial | refine ⟨rfl, ?_⟩))) (fun _ h22 => ?_)
  refine go Try.tbs_ok 1000 ?_
  refine ev_join [33, 34] (fun _ => []) (fun _ : Unit => [(0, .fact (DiskM x20 (startIf D)))]) (fun _ => True) (fun hif => ?_) (fun hif => ?_) (fun x_ h_ => ?_)
  · have hd : D.down = true := by simpa using hif
    have e : startIf D = (startD D).1 := by unfold startIf; rw [if_pos hd]
    have T2 := startM x20 D hf.good hf.lo (by have := hf.hi; omega)
    rw [e]
    refine go Try.tbs_ok 1000 ?_
    refine ev_callF (T2 ) [0] [] rfl rfl (by decide) rfl (by simp) (fun _ => (by repeat (first | exact trivial | refine ⟨rfl, ?_⟩))) (fun _ h40 => ?_)
    refine go Try.tbs_ok 1000 ?_
    refine ev_fin (join_next (()) (show True from (by assumption))  ⟨⟨by kernel_rfl, by kernel_rfl⟩, ⟨_, rfl⟩, ⟨_, rfl⟩, by kernel_rfl, by kernel_rfl⟩)
  · have hd : D.down = false := by simpa using hif
    have e : startIf D = D := by unfold startIf; rw [if_neg (by rw [hd]; decide)]
    rw [e]
    refine go Try.tbs_ok 1000 ?_
    refine ev_fin (join_next (()) (show True from (by assumption))  ⟨⟨by kernel_rfl, by kernel_rfl⟩, ⟨_, rfl⟩, ⟨_, rfl⟩, by kernel_rfl, by kernel_rfl⟩)
  have hu := startIf_up D
  have ok1 := startIf_ok hf.good
  have hst : 0 ≤ (startIf D).starts ∧ (startIf D).starts ≤ 151 := by
    have h1 := hf.lo
    have h2 := hf.hi
    unfold startIf
    split
    · rename_i h
      rw [startD_down h]
      simp only [started]
      omega
    · omega
  obtain ⟨D1, e1⟩ : ∃ D1, D1 = startIf D := ⟨_, rfl⟩
  rw [← e1] at hu ok1 hst ⊢
  obtain ⟨L, eL⟩ : ∃ L, L = D1.files := ⟨_, rfl⟩
  obtain ⟨n1, en⟩ : ∃ n1, n1 = L.length := ⟨_, rfl⟩
  have V1 := namesM x20 D1 ok1
  have V2 := leftM x20 D1 ok1
  have V3 := bytesT x20 D1 L n1 eL en ok1 hu
  have hfew := ok1.few
  have hsure := ok1.sure
  rw [← eL] at V1 V2 hfew hsure
  rw [← en] at V1 V2 hfew
  have V4 := crashM x20 D1 Q kq dq K ok1 hk
  rw [crashD_up hu] at V4
  have ok2 := crashed_ok ok1 hu K
  have V5 := upM x20 (crashed D1 K) ok2
  have V6 := crashM x20 (crashed D1 K) Q kq dq K ok2 hk
  rw [crashD_down rfl] at V6
  have V7 := startM x20 (crashed D1 K) ok2 hst.1 (show D1.starts ≤ _ by omega)
  rw [startD_down rfl] at V7
  have ok3 := started_ok ok2 rfl
  obtain ⟨M, eM⟩ : ∃ M, M = crashF L K := ⟨_, rfl⟩
  have eM3 : M = (started (crashed D1 K)).files := by rw [eM, eL]; rfl
  have hMl : n1 = M.length := by rw [eM, crashF_len, en]
  have V8 := bytesT x20 (started (crashed D1 K)) M n1 eM3 hMl ok3 rfl
  have V9 := namesM x20 (started (crashed D1 K)) ok3
  have hMn : M.map nameEG = L.map nameEG := by rw [eM]; exact crashF_names L K
  have W1 := leftM x20 (started (crashed D1 K)) ok3
  rw [← eM3] at V9 W1
  rw [← hMl] at V9 W1
  rw [hMn] at V9
  have W2 := fun A B c d => sameTextsR A B (L.map nameEG) (L.map nameEG) n1 c n1 d (by simp [en]) (by simp [en]) (by omega)
  rw [decide_eq_true rfl] at W2
  have hok := ok1.okF
  rw [← eL] at hok
  obtain ⟨W, eW⟩ : ∃ W, W = L.map datEG := ⟨_, rfl⟩
  obtain ⟨V, eV⟩ : ∃ V, V = L.map leftEG := ⟨_, rfl⟩
  obtain ⟨N, eN⟩ : ∃ N, N = M.map datEG := ⟨_, rfl⟩
  rw [← eW] at V3
  rw [← eV] at V2
  rw [← eN] at V8
  have hWl : W.length = n1 := by rw [eW, List.length_map, en]
  have hVl : V.length = n1 := by rw [eV, List.length_map, en]
  have hNl : N.length = n1 := by rw [eN, List.length_map, hMl]
  refine go Try.tbs_ok 1000 ?_
  refine ev_callF (V1 ) [0] [] rfl rfl (by decide) rfl (by simp) (fun _ => (by repeat (first | exact trivial | refine ⟨rfl, ?_⟩))) (fun ⟨x60, x61⟩ h62 => ?_)
  refine go Try.tbs_ok 1000 ?_
  refine ev_callF (V2 ) [0] [] rfl rfl (by decide) rfl (by simp) (fun _ => (by repeat (first | exact trivial | refine ⟨rfl, ?_⟩))) (fun ⟨x63, x64⟩ h65 => ?_)
  refine go Try.tbs_ok 1000 ?_
  refine ev_callF (V3 ) [0] [] rfl rfl (by decide) rfl (by simp) (fun _ => (by repeat (first | exact trivial | refine ⟨rfl, ?_⟩))) (fun ⟨x66, x67⟩ h68 => ?_)
  refine go Try.tbs_ok 1000 ?_
  refine ev_if_no rfl ?_
  refine go Try.tbs_ok 1000 ?_
  refine ev_if_no (ne_no (show (↑n1 : Int) = (↑n1 : Int) from (by omega))) ?_
  refine go Try.tbs_ok 1000 ?_
  refine ev_callF (V4 ) [0] [.inl 2] rfl rfl (by decide) rfl (by simp) (fun _ => (by repeat (first | exact trivial | refine ⟨rfl, ?_⟩))) (fun _ h69 => ?_)
  refine go Try.tbs_ok 1000 ?_
  refine ev_if_no rfl ?_
  refine go Try.tbs_ok 1000 ?_
  refine ev_callF (V5 ) [0] [] rfl rfl (by decide) rfl (by simp) (fun _ => (by repeat (first | exact trivial | refine ⟨rfl, ?_⟩))) (fun _ h70 => ?_)
  refine go Try.tbs_ok 1000 ?_
  refine ev_if_no rfl ?_
  refine go Try.tbs_ok 1000 ?_
  refine ev_callF (V6 ) [0] [.inl 2] rfl rfl (by decide) rfl (by simp) (fun _ => (by repeat (first | exact trivial | refine ⟨rfl, ?_⟩))) (fun _ h71 => ?_)
  refine go Try.tbs_ok 1000 ?_
  refine ev_if_no rfl ?_
  refine go Try.tbs_ok 1000 ?_
  refine ev_callF (V7 ) [0] [] rfl rfl (by decide) rfl (by simp) (fun _ => (by repeat (first | exact trivial | refine ⟨rfl, ?_⟩))) (fun _ h72 => ?_)
  refine go Try.tbs_ok 1000 ?_
  refine ev_if_no rfl ?_
  refine go Try.tbs_ok 1000 ?_
  refine ev_callF (V8 ) [0] [] rfl rfl (by decide) rfl (by simp) (fun _ => (by repeat (first | exact trivial | refine ⟨rfl, ?_⟩))) (fun ⟨x73, x74⟩ h75 => ?_)
  refine go Try.tbs_ok 1000 ?_
  refine ev_if_no rfl ?_
  refine go Try.tbs_ok 1000 ?_
  refine ev_callF (V9 ) [0] [] rfl rfl (by decide) rfl (by simp) (fun _ => (by repeat (first | exact trivial | refine ⟨rfl, ?_⟩))) (fun ⟨x76, x77⟩ h78 => ?_)
  refine go Try.tbs_ok 1000 ?_
  refine ev_callF (W2 (x76) (x60) (x77) (x61)) [] [.inr 5, .inr 1] rfl rfl (by decide) rfl (by simp) (fun _ => (by repeat (first | exact trivial | refine ⟨rfl, ?_⟩))) (fun _ h79 => ?_)
  refine go Try.tbs_ok 1000 ?_
  refine ev_if_no rfl ?_
  refine go Try.tbs_ok 1000 ?_
  refine ev_if_no (ne_no (show (↑n1 : Int) = (↑n1 : Int) from (by omega))) ?_
  refine go Try.tbs_ok 1000 ?_
  refine ev_stop (go_loopR [6, 13, 14, 39, 41, 74, 76, 95, 96, 97, 98, 99, 100, 101, 102, 103, 104, 105, 106, 107, 108, 109, 110, 111, 112, 113, 114, 115, 116, 117, 118, 119, 120, 121, 122, 123, 124, 125, 126, 127, 128, 129, 130, 131, 132, 133, 134, 135, 136] (fun i => [(13, .va (.int .i64 (i : Nat)))]) (fun _ => []) (fun i => i ≤ n1) (fun i => n1 - i) (0 : Nat) (Nat.zero_le _) ⟨⟨by kernel_rfl, by kernel_rfl⟩, ⟨_, rfl⟩, ⟨_, rfl⟩, by kernel_rfl, by kernel_rfl⟩ (fun i hi => ?_))
  refine go Try.tbs_ok 1000 ?_
  refine ev_if_lt (fun hlt => ?_) (fun hge => ?_)
  · have hil : i < L.length := by
      have : (i : Int) < (n1 : Int) := hlt
      omega
    have h0 := hok _ (List.getElem_mem hil)
    have eWi : W[i]'(by omega) = L[i].d := by simp only [eW, List.getElem_map, datEG]
    have eVi : V[i]'(by omega) = (L[i].d.size : Int) - L[i].s := by simp only [eV, List.getElem_map, leftEG]
    have eNi : N[i]'(by omega) = (keep1 K[i]? L[i]).d := by simp only [eN, eM, List.getElem_map, datEG, crashF_at L K hil]
    have hv : 0 ≤ V[i]'(by omega) ∧ V[i]'(by omega) ≤ (W[i]'(by omega)).size ∧ (W[i]'(by omega)).size ≤ 1000000000 := by
      rw [eWi, eVi]
      omega
    obtain ⟨hv1, hv2, hv3⟩ := hv
    by_cases hK : i < K.length
    · have he : N[i]'(by omega) = (W[i]'(by omega)).extract 0 (((W[i]'(by omega)).size : Int) - V[i]'(by omega) + max 0 (min K[i] (V[i]'(by omega)))).toNat := by
        rw [eNi, eWi, eVi, List.getElem?_eq_getElem hK]
        simp only [keep1]
        congr 2
        omega
      refine go Try.tbs_ok 1000 ?_
      refine ev_if_yes (decide_eq_true (show (↑i : Int) < (↑kq : Int) from (by omega))) ?_
      refine go Try.tbs_ok 1000 ?_
      refine ev_stop (go_draw Try.tbs_ok false [2] [(0,true),(1,true),(2,true),(3,true),(4,true),(5,true),(6,true),(7,true),(8,true),(9,true),(10,false)] rfl ?_)
      refine go Try.tbs_ok 1000 ?_
      refine ev_need ⟨⟨(by repeat (first | exact trivial | refine ⟨rfl, ?_⟩)), rfl⟩, by kernel_rfl⟩ ?_
      refine ev_stop (tk_indexE (sz := 1) Try.tbs_ok (.inl 2) (i) ⟨⟨(by repeat (first | exact trivial | refine ⟨rfl, ?_⟩)), rfl⟩, by kernel_rfl⟩ rfl rfl rfl rfl rfl rfl rfl (by omega) rfl (fun _ h => h) (fun g100 o102 e101 => ?_))
      subst e101
      refine go Try.tbs_ok 1000 ?_
      refine ev_need ⟨⟨(by repeat (first | exact trivial | refine ⟨rfl, ?_⟩)), rfl⟩, by kernel_rfl⟩ ?_
      have l103 : i < (K).length := (by omega)
      refine ev_stop (tk_loadE Try.tbs_ok (.inl 2) (i) 0 ⟨⟨(by repeat (first | exact trivial | refine ⟨rfl, ?_⟩)), rfl⟩, by kernel_rfl⟩ rfl rfl rfl rfl rfl (fun _ h => h) (by omega) (fun _ => rfl) (by omega) l103 (by decide) ?_)
      refine go Try.tbs_ok 1000 ?_
      refine ev_need ⟨⟨(by repeat (first | exact trivial | refine ⟨rfl, ?_⟩)), rfl⟩, by kernel_rfl⟩ ?_
      refine ev_stop (tk_index0 (sz := 1) Try.tbs_ok (.inr 2) (i) ⟨⟨(by repeat (first | exact trivial | refine ⟨rfl, ?_⟩)), rfl⟩, by kernel_rfl⟩ rfl rfl rfl rfl rfl rfl rfl (by omega) rfl Row.at0 (fun g104 e105 => ?_))
      subst e105
      refine go Try.tbs_ok 1000 ?_
      refine ev_need ⟨⟨(by repeat (first | exact trivial | refine ⟨rfl, ?_⟩)), rfl⟩, by kernel_rfl⟩ ?_
      have l106 : i < (V).length := (by omega)
      refine ev_stop (tk_loadE Try.tbs_ok (.inr 0) (i) 0 ⟨⟨(by repeat (first | exact trivial | refine ⟨rfl, ?_⟩)), rfl⟩, by kernel_rfl⟩ rfl rfl rfl rfl rfl (fun _ h => Row.rd h) (by omega) (fun _ => rfl) (by omega) l106 (by decide) ?_)
      refine go Try.tbs_ok 1000 ?_
      refine ev_need ⟨⟨(by repeat (first | exact trivial | refine ⟨rfl, ?_⟩)), rfl⟩, by kernel_rfl⟩ ?_
      refine ev_need (by kernel_rfl) ?_
      refine ev_stop (go_draw Try.tbs_ok true [0, 1, 2, 3, 4, 5] [(0,true),(1,true),(2,true),(3,true),(4,true),(5,true),(6,true),(7,true),(8,true),(9,true),(10,true),(11,true),(12,true),(13,true),(14,true),(15,true),(16,true),(17,true),(18,true),(19,true),(20,true),(21,true)] rfl ?_)
      refine go Try.tbs_ok 1000 ?_
      refine ev_need ⟨⟨(by repeat (first | exact trivial | refine ⟨rfl, ?_⟩)), rfl⟩, by kernel_rfl⟩ ?_
      refine ev_stop (tk_index0 (sz := 1) Try.tbs_ok (.inr 4) (i) ⟨⟨(by repeat (first | exact trivial | refine ⟨rfl, ?_⟩)), rfl⟩, by kernel_rfl⟩ rfl rfl rfl rfl rfl rfl rfl (by omega) rfl Row.at0 (fun g107 e108 => ?_))
      subst e108
      refine go Try.tbs_ok 1000 ?_
      refine ev_need ⟨⟨(by repeat (first | exact trivial | refine ⟨rfl, ?_⟩)), rfl⟩, by kernel_rfl⟩ ?_
      have l109 : i < (N).length := (by omega)
      refine ev_stop (tk_loadE Try.tbs_ok (.inr 4) (i) 0 ⟨⟨(by repeat (first | exact trivial | refine ⟨rfl, ?_⟩)), rfl⟩, by kernel_rfl⟩ rfl rfl rfl rfl rfl (fun _ h => Row.rd h) (by omega) (fun _ => rfl) (by omega) l109 (by decide) ?_)
      refine go Try.tbs_ok 1000 ?_
      refine ev_need ⟨⟨(by repeat (first | exact trivial | refine ⟨rfl, ?_⟩)), rfl⟩, by kernel_rfl⟩ ?_
      refine ev_stop (tk_index0 (sz := 1) Try.tbs_ok (.inr 3) (i) ⟨⟨(by repeat (first | exact trivial | refine ⟨rfl, ?_⟩)), rfl⟩, by kernel_rfl⟩ rfl rfl rfl rfl rfl rfl rfl (by omega) rfl Row.at0 (fun g110 e111 => ?_))
      subst e111
      refine go Try.tbs_ok 1000 ?_
      refine ev_need ⟨⟨(by repeat (first | exact trivial | refine ⟨rfl, ?_⟩)), rfl⟩, by kernel_rfl⟩ ?_
      have l112 : i < (W).length := (by omega)
      refine ev_stop (tk_loadE Try.tbs_ok (.inr 3) (i) 0 ⟨⟨(by repeat (first | exact trivial | refine ⟨rfl, ?_⟩)), rfl⟩, by kernel_rfl⟩ rfl rfl rfl rfl rfl (fun _ h => Row.rd h) (by omega) (fun _ => rfl) (by omega) l112 (by decide) ?_)
      refine go Try.tbs_ok 1000 ?_
      refine ev_need ⟨⟨(by repeat (first | exact trivial | refine ⟨rfl, ?_⟩)), rfl⟩, by kernel_rfl⟩ ?_
      refine ev_stop (tk_atE (sz := 1) Try.tbs_ok (i) ⟨⟨(by repeat (first | exact trivial | refine ⟨rfl, ?_⟩)), rfl⟩, by kernel_rfl⟩ rfl rfl rfl rfl rfl rfl rfl (by omega) ?_)
      refine go Try.tbs_ok 1000 ?_
      refine ev_need ⟨⟨(by repeat (first | exact trivial | refine ⟨rfl, ?_⟩)), rfl⟩, by kernel_rfl⟩ ?_
      have l113 : i < (W).length := (by omega)
      refine ev_stop (tk_loadE Try.tbs_ok (.inr 3) (i) 0 ⟨⟨(by repeat (first | exact trivial | refine ⟨rfl, ?_⟩)), rfl⟩, by kernel_rfl⟩ rfl rfl rfl rfl rfl (fun _ h => Row.rd h) (by omega) (fun _ => rfl) (by omega) l113 (by decide) ?_)
      refine go Try.tbs_ok 1000 ?_
      refine ev_need ⟨⟨(by repeat (first | exact trivial | refine ⟨rfl, ?_⟩)), rfl⟩, by kernel_rfl⟩ ?_
      refine ev_stop (tk_atE (sz := 1) Try.tbs_ok (i) ⟨⟨(by repeat (first | exact trivial | refine ⟨rfl, ?_⟩)), rfl⟩, by kernel_rfl⟩ rfl rfl rfl rfl rfl rfl rfl (by omega) ?_)
      refine go Try.tbs_ok 1000 ?_
      refine ev_need ⟨⟨(by repeat (first | exact trivial | refine ⟨rfl, ?_⟩)), rfl⟩, by kernel_rfl⟩ ?_
      have l114 : i < (V).length := (by omega)
      refine ev_stop (tk_loadE Try.tbs_ok (.inr 2) (i) 0 ⟨⟨(by repeat (first | exact trivial | refine ⟨rfl, ?_⟩)), rfl⟩, by kernel_rfl⟩ rfl rfl rfl rfl rfl (fun _ h => Row.rd h) (by omega) (fun _ => rfl) (by omega) l114 (by decide) ?_)
      refine go Try.tbs_ok 1000 ?_
      refine ev_need ⟨⟨(by repeat (first | exact trivial | refine ⟨rfl, ?_⟩)), rfl⟩, by kernel_rfl⟩ ?_
      refine ev_w64 (by constructor <;> omega) ?_
      refine ev_w64 (by constructor <;> omega) ?_
      refine ev_stop (go_slot 134 _ (.va (.int IntKind.i64 ((((↑W[i].size : Int) - V[i] + max 0 (min K[i] V[i])).toNat : Nat) : Int))) rfl rfl (congrArg (fun z => Value.int IntKind.i64 z) (show (↑W[i].size : Int) - V[i] + max 0 (min K[i] V[i]) = ((((↑W[i].size : Int) - V[i] + max 0 (min K[i] V[i])).toNat : Nat) : Int) by first | omega | (simp only [List.getElem_set_self]; omega))) (fun _ => trivial) ?_)
      refine go Try.tbs_ok 1000 ?_
      refine ev_need ⟨⟨(by repeat (first | exact trivial | refine ⟨rfl, ?_⟩)), rfl⟩, by kernel_rfl⟩ ?_
      refine ev_stop (tk_sliceS Try.tbs_ok (0) (((↑W[i].size : Int) - V[i] + max 0 (min K[i] V[i])).toNat) ⟨⟨(by repeat (first | exact trivial | refine ⟨rfl, ?_⟩)), rfl⟩, by kernel_rfl⟩ rfl rfl rfl rfl rfl rfl ⟨_, rfl⟩ (by omega) (by omega) ?_)
      refine go Try.tbs_ok 1000 ?_
      refine ev_need ⟨⟨(by repeat (first | exact trivial | refine ⟨rfl, ?_⟩)), rfl⟩, by kernel_rfl⟩ ?_
      refine ev_if_no (dec_no (by with_reducible assumption)) ?_
      refine go Try.tbs_ok 1000 ?_
      refine ev_wrapN (i + 1) (by constructor <;> omega) (by rfl) ?_
      refine ev_fin (round_next (i + 1) (show i + 1 ≤ n1 from (by omega)) (show n1 - (i + 1) < n1 - i from (by omega)) ⟨⟨by kernel_rfl, by kernel_rfl⟩, ⟨_, rfl⟩, ⟨_, rfl⟩, by kernel_rfl, by kernel_rfl⟩)
    · have he : N[i]'(by omega) = (W[i]'(by omega)).extract 0 (((W[i]'(by omega)).size : Int) - V[i]'(by omega) + 0).toNat := by
        rw [eNi, eWi, eVi, List.getElem?_eq_none (by omega)]
        simp only [keep1]
        congr 2
        omega
      refine go Try.tbs_ok 1000 ?_
      refine ev_if_no (decide_eq_false (show ¬(↑i : Int) < (↑kq : Int) from (by omega))) ?_
      refine go Try.tbs_ok 1000 ?_
      refine ev_stop (go_draw Try.tbs_ok true [0, 1, 2, 3, 4, 5] [(0,true),(1,true),(2,true),(3,true),(4,true),(5,true),(6,true),(7,true),(8,true),(9,true),(10,true),(11,true),(12,true),(13,true),(14,true),(15,true),(16,true),(17,true),(18,true),(19,true),(20,true),(21,true)] rfl ?_)
      refine go Try.tbs_ok 1000 ?_
      refine ev_need ⟨⟨(by repeat (first | exact trivial | refine ⟨rfl, ?_⟩)), rfl⟩, by kernel_rfl⟩ ?_
      refine ev_stop (tk_index0 (sz := 1) Try.tbs_ok (.inr 4) (i) ⟨⟨(by repeat (first | exact trivial | refine ⟨rfl, ?_⟩)), rfl⟩, by kernel_rfl⟩ rfl rfl rfl rfl rfl rfl rfl (by omega) rfl Row.at0 (fun g300 e301 => ?_))
      subst e301
      refine go Try.tbs_ok 1000 ?_
      refine ev_need ⟨⟨(by repeat (first | exact trivial | refine ⟨rfl, ?_⟩)), rfl⟩, by kernel_rfl⟩ ?_
      have l302 : i < (N).length := (by omega)
      refine ev_stop (tk_loadE Try.tbs_ok (.inr 4) (i) 0 ⟨⟨(by repeat (first | exact trivial | refine ⟨rfl, ?_⟩)), rfl⟩, by kernel_rfl⟩ rfl rfl rfl rfl rfl (fun _ h => Row.rd h) (by omega) (fun _ => rfl) (by omega) l302 (by decide) ?_)
      refine go Try.tbs_ok 1000 ?_
      refine ev_need ⟨⟨(by repeat (first | exact trivial | refine ⟨rfl, ?_⟩)), rfl⟩, by kernel_rfl⟩ ?_
      refine ev_stop (tk_index0 (sz := 1) Try.tbs_ok (.inr 3) (i) ⟨⟨(by repeat (first | exact trivial | refine ⟨rfl, ?_⟩)), rfl⟩, by kernel_rfl⟩ rfl rfl rfl rfl rfl rfl rfl (by omega) rfl Row.at0 (fun g303 e304 => ?_))
      subst e304
      refine go Try.tbs_ok 1000 ?_
      refine ev_need ⟨⟨(by repeat (first | exact trivial | refine ⟨rfl, ?_⟩)), rfl⟩, by kernel_rfl⟩ ?_
      have l305 : i < (W).length := (by omega)
      refine ev_stop (tk_loadE Try.tbs_ok (.inr 3) (i) 0 ⟨⟨(by repeat (first | exact trivial | refine ⟨rfl, ?_⟩)), rfl⟩, by kernel_rfl⟩ rfl rfl rfl rfl rfl (fun _ h => Row.rd h) (by omega) (fun _ => rfl) (by omega) l305 (by decide) ?_)
      refine go Try.tbs_ok 1000 ?_
      refine ev_need ⟨⟨(by repeat (first | exact trivial | refine ⟨rfl, ?_⟩)), rfl⟩, by kernel_rfl⟩ ?_
      refine ev_stop (tk_atE (sz := 1) Try.tbs_ok (i) ⟨⟨(by repeat (first | exact trivial | refine ⟨rfl, ?_⟩)), rfl⟩, by kernel_rfl⟩ rfl rfl rfl rfl rfl rfl rfl (by omega) ?_)
      refine go Try.tbs_ok 1000 ?_
      refine ev_need ⟨⟨(by repeat (first | exact trivial | refine ⟨rfl, ?_⟩)), rfl⟩, by kernel_rfl⟩ ?_
      have l306 : i < (W).length := (by omega)
      refine ev_stop (tk_loadE Try.tbs_ok (.inr 3) (i) 0 ⟨⟨(by repeat (first | exact trivial | refine ⟨rfl, ?_⟩)), rfl⟩, by kernel_rfl⟩ rfl rfl rfl rfl rfl (fun _ h => Row.rd h) (by omega) (fun _ => rfl) (by omega) l306 (by decide) ?_)
      refine go Try.tbs_ok 1000 ?_
      refine ev_need ⟨⟨(by repeat (first | exact trivial | refine ⟨rfl, ?_⟩)), rfl⟩, by kernel_rfl⟩ ?_
      refine ev_stop (tk_index0 (sz := 1) Try.tbs_ok (.inr 2) (i) ⟨⟨(by repeat (first | exact trivial | refine ⟨rfl, ?_⟩)), rfl⟩, by kernel_rfl⟩ rfl rfl rfl rfl rfl rfl rfl (by omega) rfl Row.at0 (fun g307 e308 => ?_))
      subst e308
      refine go Try.tbs_ok 1000 ?_
      refine ev_need ⟨⟨(by repeat (first | exact trivial | refine ⟨rfl, ?_⟩)), rfl⟩, by kernel_rfl⟩ ?_
      have l309 : i < (V).length := (by omega)
      refine ev_stop (tk_loadE Try.tbs_ok (.inr 2) (i) 0 ⟨⟨(by repeat (first | exact trivial | refine ⟨rfl, ?_⟩)), rfl⟩, by kernel_rfl⟩ rfl rfl rfl rfl rfl (fun _ h => Row.rd h) (by omega) (fun _ => rfl) (by omega) l309 (by decide) ?_)
      refine go Try.tbs_ok 1000 ?_
      refine ev_need ⟨⟨(by repeat (first | exact trivial | refine ⟨rfl, ?_⟩)), rfl⟩, by kernel_rfl⟩ ?_
      refine ev_w64 (by constructor <;> omega) ?_
      refine ev_w64 (by constructor <;> omega) ?_
      refine ev_stop (go_slot 134 _ (.va (.int IntKind.i64 ((((↑W[i].size : Int) - V[i] + 0).toNat : Nat) : Int))) rfl rfl (congrArg (fun z => Value.int IntKind.i64 z) (show (↑W[i].size : Int) - V[i] + 0 = ((((↑W[i].size : Int) - V[i] + 0).toNat : Nat) : Int) by first | omega | (simp only [List.getElem_set_self]; omega))) (fun _ => trivial) ?_)
      refine go Try.tbs_ok 1000 ?_
      refine ev_need ⟨⟨(by repeat (first | exact trivial | refine ⟨rfl, ?_⟩)), rfl⟩, by kernel_rfl⟩ ?_
      refine ev_stop (tk_sliceS Try.tbs_ok (0) (((↑W[i].size : Int) - V[i] + 0).toNat) ⟨⟨(by repeat (first | exact trivial | refine ⟨rfl, ?_⟩)), rfl⟩, by kernel_rfl⟩ rfl rfl rfl rfl rfl rfl ⟨_, rfl⟩ (by omega) (by omega) ?_)
      refine go Try.tbs_ok 1000 ?_
      refine ev_need ⟨⟨(by repeat (first | exact trivial | refine ⟨rfl, ?_⟩)), rfl⟩, by kernel_rfl⟩ ?_
      refine ev_if_no (dec_no (by with_reducible assumption)) ?_
      refine go Try.tbs_ok 1000 ?_
      refine ev_wrapN (i + 1) (by constructor <;> omega) (by rfl) ?_
      refine ev_fin (round_next (i + 1) (show i + 1 ≤ n1 from (by omega)) (show n1 - (i + 1) < n1 - i from (by omega)) ⟨⟨by kernel_rfl, by kernel_rfl⟩, ⟨_, rfl⟩, ⟨_, rfl⟩, by kernel_rfl, by kernel_rfl⟩)
  have hMs : ∀ f ∈ M, 0 ≤ f.s ∧ f.s = f.d.size := by rw [eM]; exact crashF_left hsure K
  obtain ⟨Z, eZ⟩ : ∃ Z, Z = M.map leftEG := ⟨_, rfl⟩
  have hZl : Z.length = n1 := by rw [eZ, List.length_map, hMl]
  have hZ : ∀ i (h : i < Z.length), Z[i] = 0 := fun i h => by
    have hi : i < M.length := by omega
    have := hMs _ (List.getElem_mem hi)
    simp only [eZ, List.getElem_map, leftEG]
    omega
  rw [← eZ] at W1
  have X1 := (crashM x20 (started (crashed D1 K)) none 0 0 [] ok3 rfl).nfree (fun X hX h => by rw [List.mem_singleton.1 hX]; exact Rd.nil _ _ _)
  rw [crashD_up rfl] at X1
  have ok4 := crashed_ok ok3 rfl []
  have X2 := startM x20 (crashed (started (crashed D1 K)) []) ok4 (show 0 ≤ D1.starts + 1 by omega) (show D1.starts + 1 ≤ _ by omega)
  rw [startD_down rfl] at X2
  have ok5 := started_ok ok4 rfl
  obtain ⟨M2, eM2⟩ : ∃ M2, M2 = crashF M [] := ⟨_, rfl⟩
  have X3 := bytesT x20 (started (crashed (started (crashed D1 K)) [])) M2 n1 (by rw [eM2, eM3]; rfl) (by rw [eM2, crashF_len, hMl]) ok5 rfl
  rw [eM2, crashF_full hMs, ← eN] at X3
  have X4 := fun A B c d => sameTextsR A B N N n1 c n1 d hNl.symm hNl.symm (by omega)
  rw [decide_eq_true rfl] at X4
  refine go Try.tbs_ok 1000 ?_
  refine ev_fin (go Try.tbs_ok 1000 ?_)
  refine ev_callF (W1 ) [0] [] rfl rfl (by decide) rfl (by simp) (fun _ => (by repeat (first | exact trivial | refine ⟨rfl, ?_⟩))) (fun ⟨x500, x501⟩ h502 => ?_)
  refine go Try.tbs_ok 1000 ?_
  refine ev_stop (go_loopR [6, 16, 139, 140, 141, 142, 143, 144, 145, 146, 147, 148, 149] (fun i => [(16, .va (.int .i64 (i : Nat)))]) (fun _ => []) (fun i => i ≤ n1) (fun i => n1 - i) (0 : Nat) (Nat.zero_le _) ⟨⟨by kernel_rfl, by kernel_rfl⟩, ⟨_, rfl⟩, ⟨_, rfl⟩, by kernel_rfl, by kernel_rfl⟩ (fun i2 hi2 => ?_))
  refine go Try.tbs_ok 1000 ?_
  refine ev_if_lt (fun hlt => ?_) (fun hge => ?_)
  · have hil : i2 < n1 := by
      have : (i2 : Int) < (n1 : Int) := hlt
      omega
    have hg := hZ i2 (by omega)
    refine go Try.tbs_ok 1000 ?_
    refine ev_stop (go_index0 (sz := 1) Try.tbs_ok (.inr 6) (i2) rfl rfl rfl rfl rfl rfl (by omega) rfl Row.at0 (fun g550 e551 => ?_))
    subst e551
    refine go Try.tbs_ok 1000 ?_
    have l552 : i2 < (Z).length := (by omega)
    refine ev_stop (go_loadE Try.tbs_ok (.inr 6) (i2) 0 rfl rfl rfl rfl (fun _ h => Row.rd h) (by omega) (fun _ => rfl) (by omega) l552 (by decide) ?_)
    refine go Try.tbs_ok 1000 ?_
    refine ev_if_no (ne_no (by with_reducible assumption)) ?_
    refine go Try.tbs_ok 1000 ?_
    refine ev_wrapN (i2 + 1) (by constructor <;> omega) (by rfl) ?_
    refine ev_fin (round_next (i2 + 1) (show i2 + 1 ≤ n1 from (by assumption)) (show n1 - (i2 + 1) < n1 - i2 from (by omega)) ⟨⟨by kernel_rfl, by kernel_rfl⟩, ⟨_, rfl⟩, ⟨_, rfl⟩, by kernel_rfl, by kernel_rfl⟩)
  · refine go Try.tbs_ok 1000 ?_
    refine ev_fin (go Try.tbs_ok 1000 ?_)
    refine ev_callF (X1 ) [0] [] rfl rfl (by decide) rfl (by simp) (fun _ => (by repeat (first | exact trivial | refine ⟨rfl, ?_⟩))) (fun _ h600 => ?_)
    refine go Try.tbs_ok 1000 ?_
    refine ev_if_no rfl ?_
    refine go Try.tbs_ok 1000 ?_
    refine ev_callF (X2 ) [0] [] rfl rfl (by decide) rfl (by simp) (fun _ => (by repeat (first | exact trivial | refine ⟨rfl, ?_⟩))) (fun _ h601 => ?_)
    refine go Try.tbs_ok 1000 ?_
    refine ev_if_no rfl ?_
    refine go Try.tbs_ok 1000 ?_
    refine ev_callF (X3 ) [0] [] rfl rfl (by decide) rfl (by simp) (fun _ => (by repeat (first | exact trivial | refine ⟨rfl, ?_⟩))) (fun ⟨x602, x603⟩ h604 => ?_)
    refine go Try.tbs_ok 1000 ?_
    refine ev_if_yes rfl ?_
    refine go Try.tbs_ok 1000 ?_
    refine ev_callF (X4 (x602) (x73) (x603) (x74)) [] [.inr 7, .inr 4] rfl rfl (by decide) rfl (by simp) (fun _ => (by repeat (first | exact trivial | refine ⟨rfl, ?_⟩))) (fun _ h605 => ?_)
    refine go Try.tbs_ok 1000 ?_
    refine ev_if_yes rfl ?_
    refine go Try.tbs_ok 1000 ?_
    refine ev_callF (works ) [] [] rfl rfl (by decide) rfl (by simp) (fun _ => (by repeat (first | exact trivial | refine ⟨rfl, ?_⟩))) (fun _ h606 => ?_)
    refine go Try.tbs_ok 1000 ?_
    refine ev_fin ⟨trivial, _, rfl, (()), rfl, (by trivial), Frm.nil _⟩
end Go.Proofs.Ythknokcgclcbmaa

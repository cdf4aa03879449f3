/-
  What is proved: NetsPlay's walk. Conditions: none.
-/
import Derived.Test.YteleepinalcjeaaNT
namespace Go.Proofs.Yteleepinalcjeaa
open Go.Sy

def Acts (l : List ActI) : Asn := ⟨fun h => ∀ x ∈ l, x.m.rd.holds h, fun e p x hx => x.m.rd.mono e (p x hx)⟩
theorem costs_es {l : List ActI} (h : costs l ≤ 4000) : ∀ x ∈ l, x.m.es.length ≤ 4000 := fun x hx => by
  have h1 : ∀ l : List ActI, x ∈ l → cost x ≤ costs l := fun l => by
    induction l with
    | nil => intro h; cases h
    | cons y l ih =>
      intro hx
      have e : costs (y :: l) = cost y + costs l := by simp [costs]
      rcases List.mem_cons.1 hx with rfl | hx
      · omega
      · have := ih hx; omega
  have := h1 l hx
  unfold cost at this
  omega
theorem look_few {l : List Msg} {N : Nat} (h : ∀ m ∈ l, m.es.length ≤ N) (i : Int) : (lookM l i).1.es.length ≤ N := by
  unfold lookM
  split
  · rename_i hi
    have : i.toNat < l.length := by have := hi.1; have := hi.2; omega
    simp only [List.getD_eq_getElem?_getD, List.getElem?_eq_getElem this, Option.getD_some]
    exact h _ (List.getElem_mem this)
  · exact Nat.zero_le _
theorem gone_few {l : List Msg} {N : Nat} (h : ∀ m ∈ l, m.es.length ≤ N) (i : Int) : ∀ m ∈ goneM l i, m.es.length ≤ N := by
  unfold goneM
  split
  · exact fun m hm => h m (List.mem_of_mem_eraseIdx hm)
  · exact h
theorem gone_len (l : List Msg) (i : Int) : (goneM l i).length ≤ l.length := by
  unfold goneM
  split
  · exact List.length_eraseIdx_le _ _
  · exact Nat.le_refl _
theorem send_few {l : List Msg} {N : Nat} (h : ∀ m ∈ l, m.es.length ≤ N) {m : Msg} (hm : m.es.length ≤ N) : (∀ y ∈ (sendM l m).1, y.es.length ≤ N) ∧ (sendM l m).1.length ≤ l.length + 1 ∧ (l.length ≤ 512 → (sendM l m).1.length ≤ 512) := by
  unfold sendM
  split
  · refine ⟨fun y hy => ?_, by simp, fun _ => by simp; omega⟩
    rcases List.mem_append.1 hy with hy | hy
    · exact h y hy
    · rw [List.mem_singleton.1 hy]; exact hm
  · exact ⟨h, Nat.le_succ _, id⟩
theorem copy_few {l : List Msg} {N : Nat} (h : ∀ m ∈ l, m.es.length ≤ N) (i : Int) : (∀ y ∈ (copyM l i).1, y.es.length ≤ N) ∧ (copyM l i).1.length ≤ l.length + 1 ∧ (l.length ≤ 512 → (copyM l i).1.length ≤ 512) := by
  unfold copyM
  split
  · rename_i hi
    refine send_few h ?_
    have : i.toNat < l.length := by have := hi.1; have := hi.2; omega
    simp only [List.getD_eq_getElem?_getD, List.getElem?_eq_getElem this, Option.getD_some]
    exact h _ (List.getElem_mem this)
  · exact ⟨h, Nat.le_succ _, id⟩
theorem act_few {l : List Msg} {N : Nat} (h : ∀ m ∈ l, m.es.length ≤ N) {m : Msg} (hm : m.es.length ≤ N) (k i : Int) : (actM l k m i).2.1.es.length ≤ N ∧ (∀ y ∈ (actM l k m i).1, y.es.length ≤ N) ∧ (actM l k m i).1.length ≤ l.length + 1 ∧ (l.length ≤ 512 → (actM l k m i).1.length ≤ 512) := by
  have hg := gone_len l i
  unfold actM
  split
  · exact ⟨look_few h i, h, Nat.le_succ _, id⟩
  · split
    · exact ⟨look_few h i, gone_few h i, Nat.le_trans hg (Nat.le_succ _), Nat.le_trans hg⟩
    · split
      · exact ⟨Nat.zero_le _, copy_few h i⟩
      · split
        · exact ⟨Nat.zero_le _, gone_few h i, Nat.le_trans hg (Nat.le_succ _), Nat.le_trans hg⟩
        · exact ⟨Nat.zero_le _, send_few h hm⟩
set_option maxHeartbeats 8000000 in
set_option maxRecDepth 100000 in
theorem netsPlay (A : Option Addr) (l : List ActI) (c : Nat) (hk : ∀ x ∈ l, 0 ≤ x.k ∧ x.k < 256) :
    Triple Try.prog 3 [.slice A l.length c] [] [Rd 20 A l.length (l.flatMap encA), Acts l] Unit (fun _ => .bool true) (fun _ => True) (fun _ => []) := by
  refine triple_intro Try.tbs_ok Try.func3 rfl [.va (.slice A l.length c)] [] ⟨trivial, trivial⟩ rfl (by simp) ?_
  intro E
  refine go Try.tbs_ok 1000 ?_
  refine ev_callF (great (A) (l) (c)) [] [.inl 0] rfl rfl (by decide) rfl (by simp) (fun _ => (by repeat (first | exact trivial | refine ⟨rfl, ?_⟩))) (fun _ h0 => ?_)
  refine go Try.tbs_ok 1000 ?_
  refine ev_if (fun h1 => ?_) (fun h1 => ?_)
  refine go Try.tbs_ok 1000 ?_
  refine ev_fin ⟨trivial, _, rfl, (()), rfl, (by trivial), Frm.nil _⟩
  refine go Try.tbs_ok 1000 ?_
  refine ev_callF (mNew ) [] [] rfl rfl (by decide) rfl (by simp) (fun _ => (by repeat (first | exact trivial | refine ⟨rfl, ?_⟩))) (fun x2 h3 => ?_)
  refine go Try.tbs_ok 1000 ?_
  refine ev_new fun b4 => ?_
  refine ev_stop (go_fact (Row 36 18 none 0 0 (([] : List Item).flatMap encI)) (Row.nilE _ _) (go_fact (Asn.star (([] : List Item).map Item.own)) (fun _ => trivial) ?_))
  have h8 : costs l ≤ 4000 ∧ l.length ≤ 800 := by simpa using h1
  have hes : ∀ x ∈ l, x.m.es.length ≤ 4000 := costs_es h8.1
  refine go Try.tbs_ok 1000 ?_
  refine ev_stop (go_loopR [2, 5, 6, 7, 8, 9, 10, 11, 12, 16, 18, 19, 20, 21, 22, 23, 24, 25, 26, 27, 28, 29, 30, 31, 32, 33, 34, 35, 36, 37, 38, 39, 40, 41, 42, 43, 44, 45, 46, 47, 48, 49, 50, 51, 52, 53, 54, 55, 56, 57, 58, 59, 60, 61, 62, 63, 64, 65, 66, 67, 68, 69, 70, 71, 72, 73, 74, 75, 76, 77, 78, 79, 80, 81, 82, 83, 84, 85, 86, 87, 88, 89, 90, 91, 92, 93, 94, 95, 96, 97, 98, 99, 100, 101, 102, 103, 104, 105, 106, 107, 108, 109, 110, 111, 112, 113, 114, 115, 116, 117, 118, 119, 120, 121, 122, 123, 124, 125, 126, 127, 128, 129, 130, 131, 132, 133, 134, 135, 136, 137, 138, 139, 140, 141, 142, 143, 144, 145] (fun (i, _, _, _, _, _, _) => [(5, .va (.int .i64 (i : Nat)))]) (fun (_, lst, L, G, A2, n, c2) => [(0, .fact (NetM x2 lst)), (1, .box b4 29 [.va (.slice A2 n c2)]), (2, .fact (Row 36 18 A2 n c2 (L.flatMap encI))), (3, .fact (Asn.star (G.map Item.own)))]) (fun (i, lst, L, G, _, n, _) => i ≤ l.length ∧ L.map Item.msg = lst ∧ n = L.length ∧ lst.length ≤ i ∧ lst.length ≤ 512 ∧ (∀ m ∈ lst, m.es.length ≤ 4000) ∧ ∀ y ∈ L, y ∈ G) (fun (i, _, _, _, _, _, _) => l.length - i) ((0, [], [], [], none, 0, 0) : Nat × List Msg × List Item × List Item × Option Addr × Nat × Nat) ⟨Nat.zero_le _, rfl, rfl, Nat.zero_le _, Nat.zero_le _, (fun _ h => by cases h), (fun _ h => by cases h)⟩ ⟨⟨by kernel_rfl, by kernel_rfl⟩, ⟨_, rfl⟩, ⟨_, rfl⟩, by kernel_rfl, by kernel_rfl⟩ (fun x_ h_ => ?_))
  obtain ⟨i, lst, L, G, A2, n, c2⟩ := x_
  obtain ⟨hi, hL, hn, hlen, h512, hle, hG⟩ := h_
  subst hL
  have hLl : L.length = (L.map Item.msg).length := by rw [List.length_map]
  have hfl : fewM (L.map Item.msg) := fun m hm => Nat.le_trans (hle m hm) (by decide)
  have hfL : few L := few_of hfl
  refine go Try.tbs_ok 1000 ?_
  refine ev_if_lt (fun hlt => ?_) (fun hge => ?_)
  · have hil : i < l.length := by
      have : (i : Int) < (l.length : Int) := hlt
      omega
    have hx4 : l[i].m.es.length ≤ 4000 := hes _ (List.getElem_mem hil)
    have hki := hk _ (List.getElem_mem hil)
    obtain ⟨R, hR⟩ : ∃ R, R = actM (L.map Item.msg) l[i].k ⟨l[i].m.s, l[i].m.es⟩ l[i].i := ⟨_, rfl⟩
    obtain ⟨hac, hac2, hac3, hac4⟩ := act_few hle (m := ⟨l[i].m.s, l[i].m.es⟩) hx4 l[i].k l[i].i
    rw [← hR] at hac hac2 hac3 hac4
    have hac5 : R.1.length ≤ 512 := hac4 h512
    have hac6 : fewM R.1 := fun m hm => Nat.le_trans (hac2 m hm) (by decide)
    have hac1 : R.2.1.es.length ≤ 1000000000 := Nat.le_trans hac (by decide)
    have T1 := doesP x2 (L.map Item.msg) hfl (by omega) l[i].k l[i].m.s l[i].m.es l[i].i hki (by omega) R hR
    have T2 := didU b4 L hfL (by omega) l[i].k l[i].m.s l[i].m.es l[i].i hki (by omega) R hR n hn
    refine go_more 1 (Acts l) (Rd 6 l[i].m.a l[i].m.es.length (l[i].m.es.flatMap encE)) rfl (fun h p => p _ (List.getElem_mem hil)) ?_
    refine go Try.tbs_ok 1000 ?_
    refine ev_stop (go_indexE (sz := 20) Try.tbs_ok (.inl 0) (i) rfl rfl rfl rfl rfl rfl (by omega) rfl (fun _ h => h) (fun g40 o42 e41 => ?_))
    subst e41
    refine go Try.tbs_ok 1000 ?_
    have l43 : i < (l).length := (by omega)
    refine ev_stop (go_loadE Try.tbs_ok (.inl 0) (i) 0 rfl rfl rfl rfl (fun _ h => h) (by omega) (fun _ => rfl) (by omega) l43 (by decide) ?_)
    refine go Try.tbs_ok 1000 ?_
    refine ev_new fun b44 => ?_
    refine ev_stop (go_draw Try.tbs_ok false [4] [(0,true),(1,true),(2,true),(3,true),(4,true),(6,true),(7,true),(8,true),(10,true),(13,true),(14,true),(15,true),(16,true),(99,false),(0,true),(0,true),(0,true),(0,true),(0,true),(0,true),(0,true)] rfl ?_)
    refine go Try.tbs_ok 1000 ?_
    refine ev_need ⟨⟨(by repeat (first | exact trivial | refine ⟨rfl, ?_⟩)), rfl⟩, by kernel_rfl⟩ ?_
    refine ev_wrapN (l[i].m.es.length + 1) (by constructor <;> omega) (by rfl) ?_
    refine ev_stop (go_fork 5 11 [(99,false),(0,true),(0,true),(0,true),(0,true),(0,true),(0,true)] [(5,false),(9,false),(12,false),(17,true),(18,true),(19,true),(20,false)] _ _ ⟨(by repeat (first | exact trivial | refine ⟨rfl, ?_⟩)), rfl⟩ (by kernel_rfl) rfl rfl rfl rfl ?_ ?_)
    refine go Try.tbs_ok 1000 ?_
    refine ev_stop (go_makeE (sz := 6) (enc := encE) Try.tbs_ok (0) (l[i].m.es.length + 1) ((0, 0, 0, 0, 0, 0)) rfl rfl rfl rfl rfl rfl rfl rfl rfl rfl (by omega) (le_max (by omega)) (le_bytes (by omega) (by decide)) (fun _ => (by repeat (first | exact trivial | refine ⟨rfl, ?_⟩))) (fun b45 => ?_))
    refine go Try.tbs_ok 1000 ?_
    refine ev_need ⟨⟨(by repeat (first | exact trivial | refine ⟨rfl, ?_⟩)), rfl⟩, by kernel_rfl⟩ ?_
    refine ev_stop (go_fork 9 11 [(11,false),(12,false),(17,true),(18,true),(19,true),(20,false)] [(9,false),(12,false),(17,true),(18,true),(19,true),(20,false)] _ _ ⟨(by repeat (first | exact trivial | refine ⟨rfl, ?_⟩)), rfl⟩ (by kernel_rfl) rfl rfl rfl rfl ?_ ?_)
    refine go Try.tbs_ok 1000 ?_
    refine ev_stop (go_appendE (sz := 6) (M := [_]) (enc := encE) Try.tbs_ok [5] [] (.inl 2) ([]) (l[i].m.es) (l[i].m.es) (l[i].m.es.length) rfl rfl rfl rfl rfl rfl rfl (by decide) rfl (by decide) (fun _ p => starH_one.1 p) rfl (fun _ h => h) (by first | rfl | simp) (by first | rfl | omega) (le_app (s := l[i].m.es.length) (by omega) (by first | rfl | omega)) (le_appb (s := l[i].m.es.length) (by omega) (by first | rfl | omega) (by decide)) (fun _ _ => (by repeat (first | exact trivial | refine ⟨rfl, ?_⟩))) (fun A46 c47 h48 => ?_))
    refine go Try.tbs_ok 1000 ?_
    refine ev_need ⟨⟨(by repeat (first | exact trivial | refine ⟨rfl, ?_⟩)), rfl⟩, by kernel_rfl⟩ ?_
    refine ev_new fun b49 => ?_
    refine ev_need ⟨⟨(by repeat (first | exact trivial | refine ⟨rfl, ?_⟩)), rfl⟩, by kernel_rfl⟩ ?_
    refine ev_stop (go_appendE (sz := 6) (M := [_]) (enc := encE) Try.tbs_ok [5] [] (.inr 6) (l[i].m.es) ([(-70, 0, 0, 0, 0, 0)]) ((l[i].m.es) ++ ([(-70, 0, 0, 0, 0, 0)])) (l[i].m.es.length + 1) rfl rfl rfl rfl rfl rfl rfl (by decide) rfl (by decide) (fun _ p => starH_one.1 p) rfl (fun _ p => Pt.rd p rfl) (by first | rfl | simp) (by first | rfl | omega) (le_app (s := l[i].m.es.length + 1) (by omega) (by first | rfl | omega)) (le_appb (s := l[i].m.es.length + 1) (by omega) (by first | rfl | omega) (by decide)) (fun _ _ => (by repeat (first | exact trivial | refine ⟨rfl, ?_⟩))) (fun A50 c51 h52 => ?_))
    refine go Try.tbs_ok 1000 ?_
    refine ev_need ⟨⟨(by repeat (first | exact trivial | refine ⟨rfl, ?_⟩)), rfl⟩, by kernel_rfl⟩ ?_
    refine ev_stop (tk_front Try.tbs_ok (l[i].m.es.length) (c51) ⟨⟨(by repeat (first | exact trivial | refine ⟨rfl, ?_⟩)), rfl⟩, by kernel_rfl⟩ rfl rfl rfl rfl rfl rfl rfl ⟨_, rfl⟩ rfl (by decide) (by omega) (by omega) ?_)
    refine go Try.tbs_ok 1000 ?_
    refine ev_need ⟨⟨(by repeat (first | exact trivial | refine ⟨rfl, ?_⟩)), rfl⟩, by kernel_rfl⟩ ?_
    refine ev_need (by kernel_rfl) ?_
    refine ev_callF (T1 (A50) (c51) (l[i].m.es.length + 1) (c51) ([(-70, 0, 0, 0, 0, 0)]) (by rfl)) [0] [.inr 5] rfl rfl (by decide) rfl (by simp) (fun _ => (by repeat (first | exact trivial | refine ⟨rfl, ?_⟩))) (fun x53 h54 => ?_)
    refine go Try.tbs_ok 1000 ?_
    refine ev_new fun b55 => ?_
    refine ev_stop (go_atE (sz := 20) Try.tbs_ok (i) rfl rfl rfl rfl rfl rfl (by omega) ?_)
    refine go Try.tbs_ok 1000 ?_
    have l56 : i < (l).length := (by omega)
    refine ev_stop (go_loadE Try.tbs_ok (.inl 0) (i) 0 rfl rfl rfl rfl (fun _ h => h) (by omega) (fun _ => rfl) (by omega) l56 (by decide) ?_)
    refine go Try.tbs_ok 1000 ?_
    refine ev_call (T2 (A2) (c2) (G) (by with_reducible assumption) (l[i].m.a) (l[i].m.c)) [1, 2, 3] [.inl 2] (fun (v0_, v1_, v2_, v3_, v4_, v5_) => [.box (b4) 29 [.va (Value.slice v3_ v4_ v5_)], .fact (Row 36 18 v3_ v4_ v5_ (List.flatMap encI v0_)), .fact (Asn.star (List.map Item.own v1_))]) rfl rfl (by decide) rfl (by simp) (fun _ => rfl) (fun _ => (newsOk_box (by simp [SV.good, SV.goodL]) (newsOk_fact (newsOk_fact (newsOk_nil _))))) (fun _ => (by repeat (first | exact trivial | refine ⟨rfl, ?_⟩))) (fun ⟨x57, x58, x59, x60, x61, x62⟩ ⟨h63, h64, h65, h66, h67, h68⟩ => ?_)
    refine go Try.tbs_ok 1000 ?_
    refine ev_new fun b69 => ?_
    refine ev_stop (go_draw Try.tbs_ok true [1, 4, 5, 8, 9] [(0,true),(1,true),(2,true),(3,true),(4,true),(5,true),(6,false),(7,true),(8,true),(9,true),(10,true),(11,true),(12,true),(13,true),(14,true),(15,true),(16,true),(17,true),(18,true),(19,false),(20,true),(21,true),(22,true),(23,true),(24,true),(25,true),(26,true),(27,true),(28,true),(29,true),(30,true),(31,true),(32,true),(33,true),(34,true),(35,true),(36,true),(37,true),(38,true),(39,true),(40,true),(41,true),(42,true),(44,true),(45,true),(46,true),(47,true),(48,true),(43,false),(49,true),(50,true)] rfl ?_)
    refine go Try.tbs_ok 1000 ?_
    refine ev_need ⟨⟨(by repeat (first | exact trivial | refine ⟨rfl, ?_⟩)), rfl⟩, by kernel_rfl⟩ ?_
    refine ev_if_no (bq_no (by rfl)) ?_
    refine go Try.tbs_ok 1000 ?_
    refine ev_need ⟨⟨(by repeat (first | exact trivial | refine ⟨rfl, ?_⟩)), rfl⟩, by kernel_rfl⟩ ?_
    refine ev_callF (sameMailG (R.snd.fst) (x53) (x59) (x58) (by with_reducible assumption) (by with_reducible assumption)) [] [.inr 7, .inr 3] rfl rfl (by decide) rfl (by simp) (fun _ => (by repeat (first | exact trivial | refine ⟨rfl, ?_⟩))) (fun _ h70 => ?_)
    refine go Try.tbs_ok 1000 ?_
    refine ev_need ⟨⟨(by repeat (first | exact trivial | refine ⟨rfl, ?_⟩)), rfl⟩, by kernel_rfl⟩ ?_
    refine ev_if_no (dec_no (by (symm; with_reducible assumption))) ?_
    refine go Try.tbs_ok 1000 ?_
    refine ev_need ⟨⟨(by repeat (first | exact trivial | refine ⟨rfl, ?_⟩)), rfl⟩, by kernel_rfl⟩ ?_
    refine ev_stop (tk_atE (sz := 20) Try.tbs_ok (i) ⟨⟨(by repeat (first | exact trivial | refine ⟨rfl, ?_⟩)), rfl⟩, by kernel_rfl⟩ rfl rfl rfl rfl rfl rfl rfl (by omega) ?_)
    refine go Try.tbs_ok 1000 ?_
    refine ev_need ⟨⟨(by repeat (first | exact trivial | refine ⟨rfl, ?_⟩)), rfl⟩, by kernel_rfl⟩ ?_
    have l71 : i < (l).length := (by omega)
    refine ev_stop (tk_loadE Try.tbs_ok (.inl 0) (i) 10 ⟨⟨(by repeat (first | exact trivial | refine ⟨rfl, ?_⟩)), rfl⟩, by kernel_rfl⟩ rfl rfl rfl rfl rfl (fun _ h => h) (by omega) (fun _ => rfl) (by omega) l71 (by decide) ?_)
    refine go Try.tbs_ok 1000 ?_
    refine ev_need ⟨⟨(by repeat (first | exact trivial | refine ⟨rfl, ?_⟩)), rfl⟩, by kernel_rfl⟩ ?_
    refine ev_callF (sameEntriesP (A50) (l[i].m.a) (l[i].m.es) (l[i].m.es) (c51) (l[i].m.c) (l[i].m.es.length + 1) (c51) ([(-70, 0, 0, 0, 0, 0)]) (by rfl) (show l[i].m.es.length ≤ 1000000000 from (by omega))) [] [.inr 5, .inl 2] rfl rfl (by decide) rfl (by simp) (fun _ => (by repeat (first | exact trivial | refine ⟨rfl, ?_⟩))) (fun _ h72 => ?_)
    refine go Try.tbs_ok 1000 ?_
    refine ev_need ⟨⟨(by repeat (first | exact trivial | refine ⟨rfl, ?_⟩)), rfl⟩, by kernel_rfl⟩ ?_
    refine ev_if_no (dec_no (by rfl)) ?_
    refine go Try.tbs_ok 1000 ?_
    refine ev_need ⟨⟨(by repeat (first | exact trivial | refine ⟨rfl, ?_⟩)), rfl⟩, by kernel_rfl⟩ ?_
    refine ev_wrapN (l[i].m.es.length + 1) (by constructor <;> omega) (by rfl) ?_
    refine ev_stop (tk_front Try.tbs_ok (l[i].m.es.length + 1) (c51) ⟨⟨(by repeat (first | exact trivial | refine ⟨rfl, ?_⟩)), rfl⟩, by kernel_rfl⟩ rfl rfl rfl rfl rfl rfl rfl ⟨_, rfl⟩ rfl (by decide) (by omega) (by omega) ?_)
    refine go Try.tbs_ok 1000 ?_
    refine ev_need ⟨⟨(by repeat (first | exact trivial | refine ⟨rfl, ?_⟩)), rfl⟩, by kernel_rfl⟩ ?_
    refine ev_stop (tk_index0 (sz := 6) Try.tbs_ok (.inr 5) (l[i].m.es.length) ⟨⟨(by repeat (first | exact trivial | refine ⟨rfl, ?_⟩)), rfl⟩, by kernel_rfl⟩ rfl rfl rfl rfl rfl rfl rfl (by omega) rfl Row.at0 (fun g73 e74 => ?_))
    subst e74
    refine go Try.tbs_ok 1000 ?_
    refine ev_need ⟨⟨(by repeat (first | exact trivial | refine ⟨rfl, ?_⟩)), rfl⟩, by kernel_rfl⟩ ?_
    have l75 : l[i].m.es.length < (l[i].m.es ++ [(-70, 0, 0, 0, 0, 0)]).length := (by (simp only [List.length_set, List.length_append, List.length_cons, List.length_nil, List.length_map, List.length_take, List.length_drop, List.length_replicate]; omega))
    refine ev_stop (tk_loadE Try.tbs_ok (.inr 2) (l[i].m.es.length) 0 ⟨⟨(by repeat (first | exact trivial | refine ⟨rfl, ?_⟩)), rfl⟩, by kernel_rfl⟩ rfl rfl rfl rfl rfl (fun _ h => Row.rd h) (by omega) (fun _ => rfl) (by omega) l75 (by decide) ?_)
    refine go Try.tbs_ok 1000 ?_
    refine ev_need ⟨⟨(by repeat (first | exact trivial | refine ⟨rfl, ?_⟩)), rfl⟩, by kernel_rfl⟩ ?_
    refine ev_if_no (ne_no (show (l[i].m.es ++ [(-70, 0, 0, 0, 0, 0)])[l[i].m.es.length].fst = -70 from (by (simp; done)))) ?_
    refine go Try.tbs_ok 1000 ?_
    refine ev_need ⟨⟨(by repeat (first | exact trivial | refine ⟨rfl, ?_⟩)), rfl⟩, by kernel_rfl⟩ ?_
    refine ev_callF (mLen (x2) (R.fst)) [0] [] rfl rfl (by decide) rfl (by simp) (fun _ => (by repeat (first | exact trivial | refine ⟨rfl, ?_⟩))) (fun _ h76 => ?_)
    refine go Try.tbs_ok 1000 ?_
    refine ev_need ⟨⟨(by repeat (first | exact trivial | refine ⟨rfl, ?_⟩)), rfl⟩, by kernel_rfl⟩ ?_
    refine ev_if_no (ne_no (show (↑R.fst.length : Int) = (↑x61 : Int) from (by omega))) ?_
    refine go Try.tbs_ok 1000 ?_
    refine ev_callF (spoilP (l[i].m.s) (some { block := g73, off := 0 }) (l[i].m.es) (c51) (l[i].m.es.length + 1) (c51) ([(-70, 0, 0, 0, 0, 0)]) (by rfl) (show l[i].m.es.length ≤ 1000000000 from (by omega))) [5] [] rfl rfl (by decide) rfl (by simp) (fun _ => (by repeat (first | exact trivial | refine ⟨rfl, ?_⟩))) (fun _ h77 => ?_)
    refine go Try.tbs_ok 1000 ?_
    refine ev_callF (spoilD (R.snd.fst) (x53) (by with_reducible assumption)) [7] [] rfl rfl (by decide) rfl (by simp) (fun _ => (by repeat (first | exact trivial | refine ⟨rfl, ?_⟩))) (fun _ h78 => ?_)
    refine go Try.tbs_ok 1000 ?_
    refine ev_if_ne (fun h79 => ?_) (fun h79 => ?_)
    refine go Try.tbs_ok 1000 ?_
    refine ev_wrapN (i + 1) (by constructor <;> omega) (by rfl) ?_
    refine ev_fin (round_next ((i + 1, R.fst, x57, x58, x60, x61, x62)) (?_ : i + 1 ≤ l.length ∧ List.map Item.msg x57 = R.fst ∧ x61 = x57.length ∧ R.fst.length ≤ i + 1 ∧ R.fst.length ≤ 512 ∧ (∀ (m : Msg), m ∈ R.fst → m.es.length ≤ 4000) ∧ ∀ (y : Item), y ∈ x57 → y ∈ x58) (show l.length - (i + 1) < l.length - i from (by omega)) ⟨⟨by kernel_rfl, by kernel_rfl⟩, ⟨_, rfl⟩, ⟨_, rfl⟩, by kernel_rfl, by kernel_rfl⟩)
    rotate_left
    refine go Try.tbs_ok 1000 ?_
    refine ev_callF (mAllF (x2) (R.fst) (by with_reducible assumption) (by with_reducible assumption)) [0] [] rfl rfl (by decide) rfl (by simp) (fun _ => (by repeat (first | exact trivial | refine ⟨rfl, ?_⟩))) (fun ⟨x80, x81, x82, x83⟩ ⟨h84, h85, h86, h87⟩ => ?_)
    refine go Try.tbs_ok 1000 ?_
    refine ev_callF (sameAllG (x81) (x60) (x80) (x57) (x58) (x82) (x83) (x61) (x62) (by with_reducible assumption) (show x80.length ≤ 1000000000 from (by omega)) (by with_reducible assumption) (by with_reducible assumption) (by with_reducible assumption)) [] [.inr 10, .inr 2, .inr 11, .inr 3] rfl rfl (by decide) rfl (by simp) (fun _ => (by repeat (first | exact trivial | refine ⟨rfl, ?_⟩))) (fun _ h88 => ?_)
    refine go Try.tbs_ok 1000 ?_
    refine ev_if_no (dec_no (by simp [*])) ?_
    refine go Try.tbs_ok 1000 ?_
    rotate_left
    refine go Try.tbs_ok 1000 ?_
    refine ev_new fun b89 => ?_
    refine ev_need ⟨⟨(by repeat (first | exact trivial | refine ⟨rfl, ?_⟩)), rfl⟩, by kernel_rfl⟩ ?_
    refine ev_stop (go_appendE (sz := 6) (M := [_]) (enc := encE) Try.tbs_ok [5] [] (.inl 2) ([]) (l[i].m.es) (l[i].m.es) (l[i].m.es.length) rfl rfl rfl rfl rfl rfl rfl (by decide) rfl (by decide) (fun _ p => starH_one.1 p) rfl (fun _ h => h) (by first | rfl | simp) (by first | rfl | omega) (le_app (s := l[i].m.es.length) (by omega) (by first | rfl | omega)) (le_appb (s := l[i].m.es.length) (by omega) (by first | rfl | omega) (by decide)) (fun _ _ => (by repeat (first | exact trivial | refine ⟨rfl, ?_⟩))) (fun A90 c91 h92 => ?_))
    refine go Try.tbs_ok 1000 ?_
    refine ev_need ⟨⟨(by repeat (first | exact trivial | refine ⟨rfl, ?_⟩)), rfl⟩, by kernel_rfl⟩ ?_
    refine ev_stop (go_appendE (sz := 6) (M := [_]) (enc := encE) Try.tbs_ok [5] [] (.inr 6) (l[i].m.es) ([(-70, 0, 0, 0, 0, 0)]) ((l[i].m.es) ++ ([(-70, 0, 0, 0, 0, 0)])) (l[i].m.es.length + 1) rfl rfl rfl rfl rfl rfl rfl (by decide) rfl (by decide) (fun _ p => starH_one.1 p) rfl (fun _ p => Pt.rd p rfl) (by first | rfl | simp) (by first | rfl | omega) (le_app (s := l[i].m.es.length + 1) (by omega) (by first | rfl | omega)) (le_appb (s := l[i].m.es.length + 1) (by omega) (by first | rfl | omega) (by decide)) (fun _ _ => (by repeat (first | exact trivial | refine ⟨rfl, ?_⟩))) (fun A93 c94 h95 => ?_))
    refine go Try.tbs_ok 1000 ?_
    refine ev_need ⟨⟨(by repeat (first | exact trivial | refine ⟨rfl, ?_⟩)), rfl⟩, by kernel_rfl⟩ ?_
    refine ev_stop (tk_front Try.tbs_ok (l[i].m.es.length) (c94) ⟨⟨(by repeat (first | exact trivial | refine ⟨rfl, ?_⟩)), rfl⟩, by kernel_rfl⟩ rfl rfl rfl rfl rfl rfl rfl ⟨_, rfl⟩ rfl (by decide) (by omega) (by omega) ?_)
    refine go Try.tbs_ok 1000 ?_
    refine ev_need ⟨⟨(by repeat (first | exact trivial | refine ⟨rfl, ?_⟩)), rfl⟩, by kernel_rfl⟩ ?_
    refine ev_need (by kernel_rfl) ?_
    refine ev_callF (T1 (A93) (c94) (l[i].m.es.length + 1) (c94) ([(-70, 0, 0, 0, 0, 0)]) (by rfl)) [0] [.inr 5] rfl rfl (by decide) rfl (by simp) (fun _ => (by repeat (first | exact trivial | refine ⟨rfl, ?_⟩))) (fun x96 h97 => ?_)
    refine go Try.tbs_ok 1000 ?_
    refine ev_new fun b98 => ?_
    refine ev_stop (go_atE (sz := 20) Try.tbs_ok (i) rfl rfl rfl rfl rfl rfl (by omega) ?_)
    refine go Try.tbs_ok 1000 ?_
    have l99 : i < (l).length := (by omega)
    refine ev_stop (go_loadE Try.tbs_ok (.inl 0) (i) 0 rfl rfl rfl rfl (fun _ h => h) (by omega) (fun _ => rfl) (by omega) l99 (by decide) ?_)
    refine go Try.tbs_ok 1000 ?_
    refine ev_call (T2 (A2) (c2) (G) (by with_reducible assumption) (l[i].m.a) (l[i].m.c)) [1, 2, 3] [.inl 2] (fun (v0_, v1_, v2_, v3_, v4_, v5_) => [.box (b4) 29 [.va (Value.slice v3_ v4_ v5_)], .fact (Row 36 18 v3_ v4_ v5_ (List.flatMap encI v0_)), .fact (Asn.star (List.map Item.own v1_))]) rfl rfl (by decide) rfl (by simp) (fun _ => rfl) (fun _ => (newsOk_box (by simp [SV.good, SV.goodL]) (newsOk_fact (newsOk_fact (newsOk_nil _))))) (fun _ => (by repeat (first | exact trivial | refine ⟨rfl, ?_⟩))) (fun ⟨x100, x101, x102, x103, x104, x105⟩ ⟨h106, h107, h108, h109, h110, h111⟩ => ?_)
    refine go Try.tbs_ok 1000 ?_
    refine ev_new fun b112 => ?_
    refine ev_stop (go_draw Try.tbs_ok true [1, 4, 5, 8, 9] [(0,true),(1,true),(2,true),(3,true),(4,true),(5,true),(6,false),(7,true),(8,true),(9,true),(10,true),(11,true),(12,true),(13,true),(14,true),(15,true),(16,true),(17,true),(18,true),(19,false),(20,true),(21,true),(22,true),(23,true),(24,true),(25,true),(26,true),(27,true),(28,true),(29,true),(30,true),(31,true),(32,true),(33,true),(34,true),(35,true),(36,true),(37,true),(38,true),(39,true),(40,true),(41,true),(42,true),(44,true),(45,true),(46,true),(47,true),(48,true),(43,false),(49,true),(50,true)] rfl ?_)
    refine go Try.tbs_ok 1000 ?_
    refine ev_need ⟨⟨(by repeat (first | exact trivial | refine ⟨rfl, ?_⟩)), rfl⟩, by kernel_rfl⟩ ?_
    refine ev_if_no (bq_no (by rfl)) ?_
    refine go Try.tbs_ok 1000 ?_
    refine ev_need ⟨⟨(by repeat (first | exact trivial | refine ⟨rfl, ?_⟩)), rfl⟩, by kernel_rfl⟩ ?_
    refine ev_callF (sameMailG (R.snd.fst) (x96) (x102) (x101) (by with_reducible assumption) (by with_reducible assumption)) [] [.inr 7, .inr 3] rfl rfl (by decide) rfl (by simp) (fun _ => (by repeat (first | exact trivial | refine ⟨rfl, ?_⟩))) (fun _ h113 => ?_)
    refine go Try.tbs_ok 1000 ?_
    refine ev_need ⟨⟨(by repeat (first | exact trivial | refine ⟨rfl, ?_⟩)), rfl⟩, by kernel_rfl⟩ ?_
    refine ev_if_no (dec_no (by (symm; with_reducible assumption))) ?_
    refine go Try.tbs_ok 1000 ?_
    refine ev_need ⟨⟨(by repeat (first | exact trivial | refine ⟨rfl, ?_⟩)), rfl⟩, by kernel_rfl⟩ ?_
    refine ev_stop (tk_atE (sz := 20) Try.tbs_ok (i) ⟨⟨(by repeat (first | exact trivial | refine ⟨rfl, ?_⟩)), rfl⟩, by kernel_rfl⟩ rfl rfl rfl rfl rfl rfl rfl (by omega) ?_)
    refine go Try.tbs_ok 1000 ?_
    refine ev_need ⟨⟨(by repeat (first | exact trivial | refine ⟨rfl, ?_⟩)), rfl⟩, by kernel_rfl⟩ ?_
    have l114 : i < (l).length := (by omega)
    refine ev_stop (tk_loadE Try.tbs_ok (.inl 0) (i) 10 ⟨⟨(by repeat (first | exact trivial | refine ⟨rfl, ?_⟩)), rfl⟩, by kernel_rfl⟩ rfl rfl rfl rfl rfl (fun _ h => h) (by omega) (fun _ => rfl) (by omega) l114 (by decide) ?_)
    refine go Try.tbs_ok 1000 ?_
    refine ev_need ⟨⟨(by repeat (first | exact trivial | refine ⟨rfl, ?_⟩)), rfl⟩, by kernel_rfl⟩ ?_
    refine ev_callF (sameEntriesP (A93) (l[i].m.a) (l[i].m.es) (l[i].m.es) (c94) (l[i].m.c) (l[i].m.es.length + 1) (c94) ([(-70, 0, 0, 0, 0, 0)]) (by rfl) (show l[i].m.es.length ≤ 1000000000 from (by omega))) [] [.inr 5, .inl 2] rfl rfl (by decide) rfl (by simp) (fun _ => (by repeat (first | exact trivial | refine ⟨rfl, ?_⟩))) (fun _ h115 => ?_)
    refine go Try.tbs_ok 1000 ?_
    refine ev_need ⟨⟨(by repeat (first | exact trivial | refine ⟨rfl, ?_⟩)), rfl⟩, by kernel_rfl⟩ ?_
    refine ev_if_no (dec_no (by rfl)) ?_
    refine go Try.tbs_ok 1000 ?_
    refine ev_need ⟨⟨(by repeat (first | exact trivial | refine ⟨rfl, ?_⟩)), rfl⟩, by kernel_rfl⟩ ?_
    refine ev_wrapN (l[i].m.es.length + 1) (by constructor <;> omega) (by rfl) ?_
    refine ev_stop (tk_front Try.tbs_ok (l[i].m.es.length + 1) (c94) ⟨⟨(by repeat (first | exact trivial | refine ⟨rfl, ?_⟩)), rfl⟩, by kernel_rfl⟩ rfl rfl rfl rfl rfl rfl rfl ⟨_, rfl⟩ rfl (by decide) (by omega) (by omega) ?_)
    refine go Try.tbs_ok 1000 ?_
    refine ev_need ⟨⟨(by repeat (first | exact trivial | refine ⟨rfl, ?_⟩)), rfl⟩, by kernel_rfl⟩ ?_
    refine ev_stop (tk_index0 (sz := 6) Try.tbs_ok (.inr 5) (l[i].m.es.length) ⟨⟨(by repeat (first | exact trivial | refine ⟨rfl, ?_⟩)), rfl⟩, by kernel_rfl⟩ rfl rfl rfl rfl rfl rfl rfl (by omega) rfl Row.at0 (fun g116 e117 => ?_))
    subst e117
    refine go Try.tbs_ok 1000 ?_
    refine ev_need ⟨⟨(by repeat (first | exact trivial | refine ⟨rfl, ?_⟩)), rfl⟩, by kernel_rfl⟩ ?_
    have l118 : l[i].m.es.length < (l[i].m.es ++ [(-70, 0, 0, 0, 0, 0)]).length := (by (simp only [List.length_set, List.length_append, List.length_cons, List.length_nil, List.length_map, List.length_take, List.length_drop, List.length_replicate]; omega))
    refine ev_stop (tk_loadE Try.tbs_ok (.inr 2) (l[i].m.es.length) 0 ⟨⟨(by repeat (first | exact trivial | refine ⟨rfl, ?_⟩)), rfl⟩, by kernel_rfl⟩ rfl rfl rfl rfl rfl (fun _ h => Row.rd h) (by omega) (fun _ => rfl) (by omega) l118 (by decide) ?_)
    refine go Try.tbs_ok 1000 ?_
    refine ev_need ⟨⟨(by repeat (first | exact trivial | refine ⟨rfl, ?_⟩)), rfl⟩, by kernel_rfl⟩ ?_
    refine ev_if_no (ne_no (show (l[i].m.es ++ [(-70, 0, 0, 0, 0, 0)])[l[i].m.es.length].fst = -70 from (by (simp; done)))) ?_
    refine go Try.tbs_ok 1000 ?_
    refine ev_need ⟨⟨(by repeat (first | exact trivial | refine ⟨rfl, ?_⟩)), rfl⟩, by kernel_rfl⟩ ?_
    refine ev_callF (mLen (x2) (R.fst)) [0] [] rfl rfl (by decide) rfl (by simp) (fun _ => (by repeat (first | exact trivial | refine ⟨rfl, ?_⟩))) (fun _ h119 => ?_)
    refine go Try.tbs_ok 1000 ?_
    refine ev_need ⟨⟨(by repeat (first | exact trivial | refine ⟨rfl, ?_⟩)), rfl⟩, by kernel_rfl⟩ ?_
    refine ev_if_no (ne_no (show (↑R.fst.length : Int) = (↑x104 : Int) from (by omega))) ?_
    refine go Try.tbs_ok 1000 ?_
    refine ev_callF (spoilP (l[i].m.s) (some { block := g116, off := 0 }) (l[i].m.es) (c94) (l[i].m.es.length + 1) (c94) ([(-70, 0, 0, 0, 0, 0)]) (by rfl) (show l[i].m.es.length ≤ 1000000000 from (by omega))) [5] [] rfl rfl (by decide) rfl (by simp) (fun _ => (by repeat (first | exact trivial | refine ⟨rfl, ?_⟩))) (fun _ h120 => ?_)
    refine go Try.tbs_ok 1000 ?_
    refine ev_callF (spoilD (R.snd.fst) (x96) (by with_reducible assumption)) [7] [] rfl rfl (by decide) rfl (by simp) (fun _ => (by repeat (first | exact trivial | refine ⟨rfl, ?_⟩))) (fun _ h121 => ?_)
    refine go Try.tbs_ok 1000 ?_
    refine ev_if_ne (fun h122 => ?_) (fun h122 => ?_)
    refine go Try.tbs_ok 1000 ?_
    refine ev_wrapN (i + 1) (by constructor <;> omega) (by rfl) ?_
    refine ev_fin (round_next ((i + 1, R.fst, x100, x101, x103, x104, x105)) (?_ : i + 1 ≤ l.length ∧ List.map Item.msg x100 = R.fst ∧ x104 = x100.length ∧ R.fst.length ≤ i + 1 ∧ R.fst.length ≤ 512 ∧ (∀ (m : Msg), m ∈ R.fst → m.es.length ≤ 4000) ∧ ∀ (y : Item), y ∈ x100 → y ∈ x101) (show l.length - (i + 1) < l.length - i from (by omega)) ⟨⟨by kernel_rfl, by kernel_rfl⟩, ⟨_, rfl⟩, ⟨_, rfl⟩, by kernel_rfl, by kernel_rfl⟩)
    rotate_left
    refine go Try.tbs_ok 1000 ?_
    refine ev_callF (mAllF (x2) (R.fst) (by with_reducible assumption) (by with_reducible assumption)) [0] [] rfl rfl (by decide) rfl (by simp) (fun _ => (by repeat (first | exact trivial | refine ⟨rfl, ?_⟩))) (fun ⟨x123, x124, x125, x126⟩ ⟨h127, h128, h129, h130⟩ => ?_)
    refine go Try.tbs_ok 1000 ?_
    refine ev_callF (sameAllG (x124) (x103) (x123) (x100) (x101) (x125) (x126) (x104) (x105) (by with_reducible assumption) (show x123.length ≤ 1000000000 from (by omega)) (by with_reducible assumption) (by with_reducible assumption) (by with_reducible assumption)) [] [.inr 10, .inr 2, .inr 11, .inr 3] rfl rfl (by decide) rfl (by simp) (fun _ => (by repeat (first | exact trivial | refine ⟨rfl, ?_⟩))) (fun _ h131 => ?_)
    refine go Try.tbs_ok 1000 ?_
    refine ev_if_no (dec_no (by simp [*])) ?_
    refine go Try.tbs_ok 1000 ?_
    rotate_left
    refine go Try.tbs_ok 1000 ?_
    refine ev_new fun b132 => ?_
    refine ev_need ⟨⟨(by repeat (first | exact trivial | refine ⟨rfl, ?_⟩)), rfl⟩, by kernel_rfl⟩ ?_
    refine ev_stop (go_makeE (sz := 6) (enc := encE) Try.tbs_ok (0) (l[i].m.es.length + 1) ((0, 0, 0, 0, 0, 0)) rfl rfl rfl rfl rfl rfl rfl rfl rfl rfl (by omega) (le_max (by omega)) (le_bytes (by omega) (by decide)) (fun _ => (by repeat (first | exact trivial | refine ⟨rfl, ?_⟩))) (fun b133 => ?_))
    refine go Try.tbs_ok 1000 ?_
    refine ev_need ⟨⟨(by repeat (first | exact trivial | refine ⟨rfl, ?_⟩)), rfl⟩, by kernel_rfl⟩ ?_
    refine ev_stop (go_appendE (sz := 6) (M := [_]) (enc := encE) Try.tbs_ok [6] [] (.inl 2) ([]) (l[i].m.es) (l[i].m.es) (l[i].m.es.length) rfl rfl rfl rfl rfl rfl rfl (by decide) rfl (by decide) (fun _ p => starH_one.1 p) rfl (fun _ h => h) (by first | rfl | simp) (by first | rfl | omega) (le_app (s := l[i].m.es.length) (by omega) (by first | rfl | omega)) (le_appb (s := l[i].m.es.length) (by omega) (by first | rfl | omega) (by decide)) (fun _ _ => (by repeat (first | exact trivial | refine ⟨rfl, ?_⟩))) (fun A134 c135 h136 => ?_))
    refine go Try.tbs_ok 1000 ?_
    refine ev_need ⟨⟨(by repeat (first | exact trivial | refine ⟨rfl, ?_⟩)), rfl⟩, by kernel_rfl⟩ ?_
    refine ev_stop (go_appendE (sz := 6) (M := [_]) (enc := encE) Try.tbs_ok [6] [] (.inr 5) (l[i].m.es) ([(-70, 0, 0, 0, 0, 0)]) ((l[i].m.es) ++ ([(-70, 0, 0, 0, 0, 0)])) (l[i].m.es.length + 1) rfl rfl rfl rfl rfl rfl rfl (by decide) rfl (by decide) (fun _ p => starH_one.1 p) rfl (fun _ p => Pt.rd p rfl) (by first | rfl | simp) (by first | rfl | omega) (le_app (s := l[i].m.es.length + 1) (by omega) (by first | rfl | omega)) (le_appb (s := l[i].m.es.length + 1) (by omega) (by first | rfl | omega) (by decide)) (fun _ _ => (by repeat (first | exact trivial | refine ⟨rfl, ?_⟩))) (fun A137 c138 h139 => ?_))
    refine go Try.tbs_ok 1000 ?_
    refine ev_need ⟨⟨(by repeat (first | exact trivial | refine ⟨rfl, ?_⟩)), rfl⟩, by kernel_rfl⟩ ?_
    refine ev_stop (tk_front Try.tbs_ok (l[i].m.es.length) (c138) ⟨⟨(by repeat (first | exact trivial | refine ⟨rfl, ?_⟩)), rfl⟩, by kernel_rfl⟩ rfl rfl rfl rfl rfl rfl rfl ⟨_, rfl⟩ rfl (by decide) (by omega) (by omega) ?_)
    refine go Try.tbs_ok 1000 ?_
    refine ev_need ⟨⟨(by repeat (first | exact trivial | refine ⟨rfl, ?_⟩)), rfl⟩, by kernel_rfl⟩ ?_
    refine ev_need (by kernel_rfl) ?_
    refine ev_callF (T1 (A137) (c138) (l[i].m.es.length + 1) (c138) ([(-70, 0, 0, 0, 0, 0)]) (by rfl)) [0] [.inr 6] rfl rfl (by decide) rfl (by simp) (fun _ => (by repeat (first | exact trivial | refine ⟨rfl, ?_⟩))) (fun x140 h141 => ?_)
    refine go Try.tbs_ok 1000 ?_
    refine ev_new fun b142 => ?_
    refine ev_stop (go_atE (sz := 20) Try.tbs_ok (i) rfl rfl rfl rfl rfl rfl (by omega) ?_)
    refine go Try.tbs_ok 1000 ?_
    have l143 : i < (l).length := (by omega)
    refine ev_stop (go_loadE Try.tbs_ok (.inl 0) (i) 0 rfl rfl rfl rfl (fun _ h => h) (by omega) (fun _ => rfl) (by omega) l143 (by decide) ?_)
    refine go Try.tbs_ok 1000 ?_
    refine ev_call (T2 (A2) (c2) (G) (by with_reducible assumption) (l[i].m.a) (l[i].m.c)) [1, 2, 3] [.inl 2] (fun (v0_, v1_, v2_, v3_, v4_, v5_) => [.box (b4) 29 [.va (Value.slice v3_ v4_ v5_)], .fact (Row 36 18 v3_ v4_ v5_ (List.flatMap encI v0_)), .fact (Asn.star (List.map Item.own v1_))]) rfl rfl (by decide) rfl (by simp) (fun _ => rfl) (fun _ => (newsOk_box (by simp [SV.good, SV.goodL]) (newsOk_fact (newsOk_fact (newsOk_nil _))))) (fun _ => (by repeat (first | exact trivial | refine ⟨rfl, ?_⟩))) (fun ⟨x144, x145, x146, x147, x148, x149⟩ ⟨h150, h151, h152, h153, h154, h155⟩ => ?_)
    refine go Try.tbs_ok 1000 ?_
    refine ev_new fun b156 => ?_
    refine ev_stop (go_draw Try.tbs_ok true [1, 4, 6, 8, 9] [(0,true),(1,true),(2,true),(3,true),(4,true),(5,true),(6,false),(7,true),(8,true),(9,true),(10,true),(11,true),(12,true),(13,true),(14,true),(15,true),(16,true),(17,true),(18,true),(19,false),(20,true),(21,true),(22,true),(23,true),(24,true),(25,true),(26,true),(27,true),(28,true),(29,true),(30,true),(31,true),(32,true),(33,true),(34,true),(35,true),(36,true),(37,true),(38,true),(39,true),(40,true),(41,true),(42,true),(44,true),(45,true),(46,true),(47,true),(48,true),(43,false),(49,true),(50,true)] rfl ?_)
    refine go Try.tbs_ok 1000 ?_
    refine ev_need ⟨⟨(by repeat (first | exact trivial | refine ⟨rfl, ?_⟩)), rfl⟩, by kernel_rfl⟩ ?_
    refine ev_if_no (bq_no (by rfl)) ?_
    refine go Try.tbs_ok 1000 ?_
    refine ev_need ⟨⟨(by repeat (first | exact trivial | refine ⟨rfl, ?_⟩)), rfl⟩, by kernel_rfl⟩ ?_
    refine ev_callF (sameMailG (R.snd.fst) (x140) (x146) (x145) (by with_reducible assumption) (by with_reducible assumption)) [] [.inr 7, .inr 3] rfl rfl (by decide) rfl (by simp) (fun _ => (by repeat (first | exact trivial | refine ⟨rfl, ?_⟩))) (fun _ h157 => ?_)
    refine go Try.tbs_ok 1000 ?_
    refine ev_need ⟨⟨(by repeat (first | exact trivial | refine ⟨rfl, ?_⟩)), rfl⟩, by kernel_rfl⟩ ?_
    refine ev_if_no (dec_no (by (symm; with_reducible assumption))) ?_
    refine go Try.tbs_ok 1000 ?_
    refine ev_need ⟨⟨(by repeat (first | exact trivial | refine ⟨rfl, ?_⟩)), rfl⟩, by kernel_rfl⟩ ?_
    refine ev_stop (tk_atE (sz := 20) Try.tbs_ok (i) ⟨⟨(by repeat (first | exact trivial | refine ⟨rfl, ?_⟩)), rfl⟩, by kernel_rfl⟩ rfl rfl rfl rfl rfl rfl rfl (by omega) ?_)
    refine go Try.tbs_ok 1000 ?_
    refine ev_need ⟨⟨(by repeat (first | exact trivial | refine ⟨rfl, ?_⟩)), rfl⟩, by kernel_rfl⟩ ?_
    have l158 : i < (l).length := (by omega)
    refine ev_stop (tk_loadE Try.tbs_ok (.inl 0) (i) 10 ⟨⟨(by repeat (first | exact trivial | refine ⟨rfl, ?_⟩)), rfl⟩, by kernel_rfl⟩ rfl rfl rfl rfl rfl (fun _ h => h) (by omega) (fun _ => rfl) (by omega) l158 (by decide) ?_)
    refine go Try.tbs_ok 1000 ?_
    refine ev_need ⟨⟨(by repeat (first | exact trivial | refine ⟨rfl, ?_⟩)), rfl⟩, by kernel_rfl⟩ ?_
    refine ev_callF (sameEntriesP (A137) (l[i].m.a) (l[i].m.es) (l[i].m.es) (c138) (l[i].m.c) (l[i].m.es.length + 1) (c138) ([(-70, 0, 0, 0, 0, 0)]) (by rfl) (show l[i].m.es.length ≤ 1000000000 from (by omega))) [] [.inr 6, .inl 2] rfl rfl (by decide) rfl (by simp) (fun _ => (by repeat (first | exact trivial | refine ⟨rfl, ?_⟩))) (fun _ h159 => ?_)
    refine go Try.tbs_ok 1000 ?_
    refine ev_need ⟨⟨(by repeat (first | exact trivial | refine ⟨rfl, ?_⟩)), rfl⟩, by kernel_rfl⟩ ?_
    refine ev_if_no (dec_no (by rfl)) ?_
    refine go Try.tbs_ok 1000 ?_
    refine ev_need ⟨⟨(by repeat (first | exact trivial | refine ⟨rfl, ?_⟩)), rfl⟩, by kernel_rfl⟩ ?_
    refine ev_wrapN (l[i].m.es.length + 1) (by constructor <;> omega) (by rfl) ?_
    refine ev_stop (tk_front Try.tbs_ok (l[i].m.es.length + 1) (c138) ⟨⟨(by repeat (first | exact trivial | refine ⟨rfl, ?_⟩)), rfl⟩, by kernel_rfl⟩ rfl rfl rfl rfl rfl rfl rfl ⟨_, rfl⟩ rfl (by decide) (by omega) (by omega) ?_)
    refine go Try.tbs_ok 1000 ?_
    refine ev_need ⟨⟨(by repeat (first | exact trivial | refine ⟨rfl, ?_⟩)), rfl⟩, by kernel_rfl⟩ ?_
    refine ev_stop (tk_index0 (sz := 6) Try.tbs_ok (.inr 6) (l[i].m.es.length) ⟨⟨(by repeat (first | exact trivial | refine ⟨rfl, ?_⟩)), rfl⟩, by kernel_rfl⟩ rfl rfl rfl rfl rfl rfl rfl (by omega) rfl Row.at0 (fun g160 e161 => ?_))
    subst e161
    refine go Try.tbs_ok 1000 ?_
    refine ev_need ⟨⟨(by repeat (first | exact trivial | refine ⟨rfl, ?_⟩)), rfl⟩, by kernel_rfl⟩ ?_
    have l162 : l[i].m.es.length < (l[i].m.es ++ [(-70, 0, 0, 0, 0, 0)]).length := (by (simp only [List.length_set, List.length_append, List.length_cons, List.length_nil, List.length_map, List.length_take, List.length_drop, List.length_replicate]; omega))
    refine ev_stop (tk_loadE Try.tbs_ok (.inr 2) (l[i].m.es.length) 0 ⟨⟨(by repeat (first | exact trivial | refine ⟨rfl, ?_⟩)), rfl⟩, by kernel_rfl⟩ rfl rfl rfl rfl rfl (fun _ h => Row.rd h) (by omega) (fun _ => rfl) (by omega) l162 (by decide) ?_)
    refine go Try.tbs_ok 1000 ?_
    refine ev_need ⟨⟨(by repeat (first | exact trivial | refine ⟨rfl, ?_⟩)), rfl⟩, by kernel_rfl⟩ ?_
    refine ev_if_no (ne_no (show (l[i].m.es ++ [(-70, 0, 0, 0, 0, 0)])[l[i].m.es.length].fst = -70 from (by (simp; done)))) ?_
    refine go Try.tbs_ok 1000 ?_
    refine ev_need ⟨⟨(by repeat (first | exact trivial | refine ⟨rfl, ?_⟩)), rfl⟩, by kernel_rfl⟩ ?_
    refine ev_callF (mLen (x2) (R.fst)) [0] [] rfl rfl (by decide) rfl (by simp) (fun _ => (by repeat (first | exact trivial | refine ⟨rfl, ?_⟩))) (fun _ h163 => ?_)
    refine go Try.tbs_ok 1000 ?_
    refine ev_need ⟨⟨(by repeat (first | exact trivial | refine ⟨rfl, ?_⟩)), rfl⟩, by kernel_rfl⟩ ?_
    refine ev_if_no (ne_no (show (↑R.fst.length : Int) = (↑x148 : Int) from (by omega))) ?_
    refine go Try.tbs_ok 1000 ?_
    refine ev_callF (spoilP (l[i].m.s) (some { block := g160, off := 0 }) (l[i].m.es) (c138) (l[i].m.es.length + 1) (c138) ([(-70, 0, 0, 0, 0, 0)]) (by rfl) (show l[i].m.es.length ≤ 1000000000 from (by omega))) [6] [] rfl rfl (by decide) rfl (by simp) (fun _ => (by repeat (first | exact trivial | refine ⟨rfl, ?_⟩))) (fun _ h164 => ?_)
    refine go Try.tbs_ok 1000 ?_
    refine ev_callF (spoilD (R.snd.fst) (x140) (by with_reducible assumption)) [7] [] rfl rfl (by decide) rfl (by simp) (fun _ => (by repeat (first | exact trivial | refine ⟨rfl, ?_⟩))) (fun _ h165 => ?_)
    refine go Try.tbs_ok 1000 ?_
    refine ev_if_ne (fun h166 => ?_) (fun h166 => ?_)
    refine go Try.tbs_ok 1000 ?_
    refine ev_wrapN (i + 1) (by constructor <;> omega) (by rfl) ?_
    refine ev_fin (round_next ((i + 1, R.fst, x144, x145, x147, x148, x149)) (?_ : i + 1 ≤ l.length ∧ List.map Item.msg x144 = R.fst ∧ x148 = x144.length ∧ R.fst.length ≤ i + 1 ∧ R.fst.length ≤ 512 ∧ (∀ (m : Msg), m ∈ R.fst → m.es.length ≤ 4000) ∧ ∀ (y : Item), y ∈ x144 → y ∈ x145) (show l.length - (i + 1) < l.length - i from (by omega)) ⟨⟨by kernel_rfl, by kernel_rfl⟩, ⟨_, rfl⟩, ⟨_, rfl⟩, by kernel_rfl, by kernel_rfl⟩)
    rotate_left
    refine go Try.tbs_ok 1000 ?_
    refine ev_callF (mAllF (x2) (R.fst) (by with_reducible assumption) (by with_reducible assumption)) [0] [] rfl rfl (by decide) rfl (by simp) (fun _ => (by repeat (first | exact trivial | refine ⟨rfl, ?_⟩))) (fun ⟨x167, x168, x169, x170⟩ ⟨h171, h172, h173, h174⟩ => ?_)
    refine go Try.tbs_ok 1000 ?_
    refine ev_callF (sameAllG (x168) (x147) (x167) (x144) (x145) (x169) (x170) (x148) (x149) (by with_reducible assumption) (show x167.length ≤ 1000000000 from (by omega)) (by with_reducible assumption) (by with_reducible assumption) (by with_reducible assumption)) [] [.inr 10, .inr 2, .inr 11, .inr 3] rfl rfl (by decide) rfl (by simp) (fun _ => (by repeat (first | exact trivial | refine ⟨rfl, ?_⟩))) (fun _ h175 => ?_)
    refine go Try.tbs_ok 1000 ?_
    refine ev_if_no (dec_no (by simp [*])) ?_
    refine go Try.tbs_ok 1000 ?_
    rotate_left
    · refine ⟨by omega, by assumption, by assumption, by omega, hac5, hac2, by assumption⟩
    · have hfw : few x80 := by assumption
      have hIn : x82 = x80.length := by assumption
      refine ev_stop (go_turn (X := Unit) 11 _ (fun _ => Asn.star ((x80.map shape).map OwnS)) rfl (fun h q => ⟨(), star_shape _ h q⟩) fun _ => ?_)
      obtain ⟨S, hS⟩ : ∃ S, S = x80.map shape := ⟨_, rfl⟩
      have hSf : ∀ s ∈ S, s.2 ≤ 1000000000 := fun s hs => by
        rw [hS] at hs
        obtain ⟨y, hy, rfl⟩ := List.mem_map.1 hs
        exact hfw y hy
      have hS0 : ∀ y ∈ x80, shape y ∈ S := fun y hy => by rw [hS]; exact List.mem_map_of_mem hy
      rw [← hS]
      have T3 := spoilS S hSf
      refine go Try.tbs_ok 1000 ?_
      refine ev_stop (go_loopR [12, 27, 38, 48, 50, 51, 52, 54, 59, 60, 61, 67, 68, 115, 116, 117, 118, 131, 132, 133, 134, 135, 136, 137, 138, 139, 140, 141, 142, 143, 144, 145] (fun (j, _) => [(12, .va (.int .i64 (j : Nat)))]) (fun (_, J) => [(10, .fact (Row 36 18 x81 x82 x83 (J.flatMap encI)))]) (fun (j, J) => j ≤ x82 ∧ J.length = x82 ∧ ∀ y ∈ J, shape y ∈ S) (fun (j, _) => x82 - j) ((0, x80) : Nat × List Item) ⟨Nat.zero_le _, hIn.symm, hS0⟩ ⟨⟨by kernel_rfl, by kernel_rfl⟩, ⟨_, rfl⟩, ⟨_, rfl⟩, by kernel_rfl, by kernel_rfl⟩ (fun x_ h_ => ?_))
      obtain ⟨j, J⟩ := x_
      obtain ⟨hj, hJl, hJ⟩ := h_
      refine go Try.tbs_ok 1000 ?_
      refine ev_if_lt (fun h300 => ?_) (fun h300 => ?_)
      refine go Try.tbs_ok 1000 ?_
      refine ev_stop (go_index0 (sz := 18) Try.tbs_ok (.inr 10) (j) rfl rfl rfl rfl rfl rfl (by omega) rfl Row.at0 (fun g301 e302 => ?_))
      subst e302
      refine go Try.tbs_ok 1000 ?_
      have l303 : j < (J).length := (by omega)
      refine ev_stop (go_loadE Try.tbs_ok (.inr 10) (j) 0 rfl rfl rfl rfl (fun _ h => Row.rd h) (by omega) (fun _ => rfl) (by omega) l303 (by decide) ?_)
      refine go Try.tbs_ok 1000 ?_
      refine ev_callF (T3 (J[j]) (show shape { s := { kind := J[j].s.kind, src := J[j].s.src, dst := J[j].s.dst, stream := J[j].s.stream, epoch := J[j].s.epoch, view := J[j].s.view, base := J[j].s.base, length := J[j].s.length, stamp := J[j].s.stamp, o1 := J[j].s.o1, o2 := J[j].s.o2, o3 := J[j].s.o3, o4 := J[j].s.o4, o5 := J[j].s.o5, a1 := J[j].s.a1, a2 := J[j].s.a2, a3 := J[j].s.a3 }, es := J[j].es, a := J[j].a, c := J[j].c } ∈ S from (by solve_by_elim [List.getElem_mem]))) [11] [] rfl rfl (by decide) rfl (by simp) (fun _ => (by repeat (first | exact trivial | refine ⟨rfl, ?_⟩))) (fun _ h304 => ?_)
      refine go Try.tbs_ok 1000 ?_
      refine ev_stop (go_atE (sz := 18) Try.tbs_ok (j) rfl rfl rfl rfl rfl rfl (by omega) ?_)
      refine go Try.tbs_ok 1000 ?_
      have l305 : j < (J).length := (by omega)
      refine ev_stop (go_storeR Try.tbs_ok 10 (j) 0 ({ s := { kind := -9, src := J[j].s.src, dst := J[j].s.dst, stream := J[j].s.stream, epoch := J[j].s.epoch, view := J[j].s.view, base := J[j].s.base, length := J[j].s.length, stamp := J[j].s.stamp, o1 := J[j].s.o1, o2 := J[j].s.o2, o3 := J[j].s.o3, o4 := J[j].s.o4, o5 := J[j].s.o5, a1 := J[j].s.a1, a2 := J[j].s.a2, a3 := J[j].s.a3 }, es := J[j].es, a := J[j].a, c := J[j].c }) rfl rfl rfl rfl rfl (by omega) (fun _ => rfl) (ones_of rfl) (by omega) l305 rfl (by decide) (ones_of rfl) rfl ?_)
      refine go Try.tbs_ok 1000 ?_
      refine ev_wrapN (j + 1) (by constructor <;> omega) (by rfl) ?_
      refine ev_fin (round_next ((j + 1, J.set j { s := { kind := -9, src := J[j].s.src, dst := J[j].s.dst, stream := J[j].s.stream, epoch := J[j].s.epoch, view := J[j].s.view, base := J[j].s.base, length := J[j].s.length, stamp := J[j].s.stamp, o1 := J[j].s.o1, o2 := J[j].s.o2, o3 := J[j].s.o3, o4 := J[j].s.o4, o5 := J[j].s.o5, a1 := J[j].s.a1, a2 := J[j].s.a2, a3 := J[j].s.a3 }, es := J[j].es, a := J[j].a, c := J[j].c })) (?_ : j + 1 ≤ x82 ∧ (J.set j { s := { kind := -9, src := J[j].s.src, dst := J[j].s.dst, stream := J[j].s.stream, epoch := J[j].s.epoch, view := J[j].s.view, base := J[j].s.base, length := J[j].s.length, stamp := J[j].s.stamp, o1 := J[j].s.o1, o2 := J[j].s.o2, o3 := J[j].s.o3, o4 := J[j].s.o4, o5 := J[j].s.o5, a1 := J[j].s.a1, a2 := J[j].s.a2, a3 := J[j].s.a3 }, es := J[j].es, a := J[j].a, c := J[j].c }).length = x82 ∧ ∀ (y : Item), y ∈ J.set j { s := { kind := -9, src := J[j].s.src, dst := J[j].s.dst, stream := J[j].s.stream, epoch := J[j].s.epoch, view := J[j].s.view, base := J[j].s.base, length := J[j].s.length, stamp := J[j].s.stamp, o1 := J[j].s.o1, o2 := J[j].s.o2, o3 := J[j].s.o3, o4 := J[j].s.o4, o5 := J[j].s.o5, a1 := J[j].s.a1, a2 := J[j].s.a2, a3 := J[j].s.a3 }, es := J[j].es, a := J[j].a, c := J[j].c } → shape y ∈ S) (show x82 - (j + 1) < x82 - j from (by omega)) ⟨⟨by kernel_rfl, by kernel_rfl⟩, ⟨_, rfl⟩, ⟨_, rfl⟩, by kernel_rfl, by kernel_rfl⟩)
      rotate_left
      refine go Try.tbs_ok 1000 ?_
      refine ev_fin (go Try.tbs_ok 1000 ?_)
      refine ev_wrapN (i + 1) (by constructor <;> omega) (by rfl) ?_
      refine ev_fin (round_next ((i + 1, R.fst, x57, x58, x60, x61, x62)) (?_ : i + 1 ≤ l.length ∧ List.map Item.msg x57 = R.fst ∧ x61 = x57.length ∧ R.fst.length ≤ i + 1 ∧ R.fst.length ≤ 512 ∧ (∀ (m : Msg), m ∈ R.fst → m.es.length ≤ 4000) ∧ ∀ (y : Item), y ∈ x57 → y ∈ x58) (show l.length - (i + 1) < l.length - i from (by omega)) ⟨⟨by kernel_rfl, by kernel_rfl⟩, ⟨_, rfl⟩, ⟨_, rfl⟩, by kernel_rfl, by kernel_rfl⟩)
      rotate_left
      · refine ⟨by omega, by simpa using hJl, fun y hy => ?_⟩
        rcases List.mem_or_eq_of_mem_set hy with hy | rfl
        · exact hJ y hy
        · have hjl : j < J.length := by omega
          exact hJ J[j] (List.getElem_mem hjl)
      · exact ⟨by omega, by assumption, by assumption, by omega, hac5, hac2, by assumption⟩
    · refine ⟨by omega, by assumption, by assumption, by omega, hac5, hac2, by assumption⟩
    · have hfw : few x123 := by assumption
      have hIn : x125 = x123.length := by assumption
      refine ev_stop (go_turn (X := Unit) 11 _ (fun _ => Asn.star ((x123.map shape).map OwnS)) rfl (fun h q => ⟨(), star_shape _ h q⟩) fun _ => ?_)
      obtain ⟨S, hS⟩ : ∃ S, S = x123.map shape := ⟨_, rfl⟩
      have hSf : ∀ s ∈ S, s.2 ≤ 1000000000 := fun s hs => by
        rw [hS] at hs
        obtain ⟨y, hy, rfl⟩ := List.mem_map.1 hs
        exact hfw y hy
      have hS0 : ∀ y ∈ x123, shape y ∈ S := fun y hy => by rw [hS]; exact List.mem_map_of_mem hy
      rw [← hS]
      have T3 := spoilS S hSf
      refine go Try.tbs_ok 1000 ?_
      refine ev_stop (go_loopR [12, 27, 38, 48, 50, 51, 52, 54, 59, 60, 61, 67, 68, 115, 116, 117, 118, 131, 132, 133, 134, 135, 136, 137, 138, 139, 140, 141, 142, 143, 144, 145] (fun (j, _) => [(12, .va (.int .i64 (j : Nat)))]) (fun (_, J) => [(10, .fact (Row 36 18 x124 x125 x126 (J.flatMap encI)))]) (fun (j, J) => j ≤ x125 ∧ J.length = x125 ∧ ∀ y ∈ J, shape y ∈ S) (fun (j, _) => x125 - j) ((0, x123) : Nat × List Item) ⟨Nat.zero_le _, hIn.symm, hS0⟩ ⟨⟨by kernel_rfl, by kernel_rfl⟩, ⟨_, rfl⟩, ⟨_, rfl⟩, by kernel_rfl, by kernel_rfl⟩ (fun x_ h_ => ?_))
      obtain ⟨j, J⟩ := x_
      obtain ⟨hj, hJl, hJ⟩ := h_
      refine go Try.tbs_ok 1000 ?_
      refine ev_if_lt (fun h500 => ?_) (fun h500 => ?_)
      refine go Try.tbs_ok 1000 ?_
      refine ev_stop (go_index0 (sz := 18) Try.tbs_ok (.inr 10) (j) rfl rfl rfl rfl rfl rfl (by omega) rfl Row.at0 (fun g501 e502 => ?_))
      subst e502
      refine go Try.tbs_ok 1000 ?_
      have l503 : j < (J).length := (by omega)
      refine ev_stop (go_loadE Try.tbs_ok (.inr 10) (j) 0 rfl rfl rfl rfl (fun _ h => Row.rd h) (by omega) (fun _ => rfl) (by omega) l503 (by decide) ?_)
      refine go Try.tbs_ok 1000 ?_
      refine ev_callF (T3 (J[j]) (show shape { s := { kind := J[j].s.kind, src := J[j].s.src, dst := J[j].s.dst, stream := J[j].s.stream, epoch := J[j].s.epoch, view := J[j].s.view, base := J[j].s.base, length := J[j].s.length, stamp := J[j].s.stamp, o1 := J[j].s.o1, o2 := J[j].s.o2, o3 := J[j].s.o3, o4 := J[j].s.o4, o5 := J[j].s.o5, a1 := J[j].s.a1, a2 := J[j].s.a2, a3 := J[j].s.a3 }, es := J[j].es, a := J[j].a, c := J[j].c } ∈ S from (by solve_by_elim [List.getElem_mem]))) [11] [] rfl rfl (by decide) rfl (by simp) (fun _ => (by repeat (first | exact trivial | refine ⟨rfl, ?_⟩))) (fun _ h504 => ?_)
      refine go Try.tbs_ok 1000 ?_
      refine ev_stop (go_atE (sz := 18) Try.tbs_ok (j) rfl rfl rfl rfl rfl rfl (by omega) ?_)
      refine go Try.tbs_ok 1000 ?_
      have l505 : j < (J).length := (by omega)
      refine ev_stop (go_storeR Try.tbs_ok 10 (j) 0 ({ s := { kind := -9, src := J[j].s.src, dst := J[j].s.dst, stream := J[j].s.stream, epoch := J[j].s.epoch, view := J[j].s.view, base := J[j].s.base, length := J[j].s.length, stamp := J[j].s.stamp, o1 := J[j].s.o1, o2 := J[j].s.o2, o3 := J[j].s.o3, o4 := J[j].s.o4, o5 := J[j].s.o5, a1 := J[j].s.a1, a2 := J[j].s.a2, a3 := J[j].s.a3 }, es := J[j].es, a := J[j].a, c := J[j].c }) rfl rfl rfl rfl rfl (by omega) (fun _ => rfl) (ones_of rfl) (by omega) l505 rfl (by decide) (ones_of rfl) rfl ?_)
      refine go Try.tbs_ok 1000 ?_
      refine ev_wrapN (j + 1) (by constructor <;> omega) (by rfl) ?_
      refine ev_fin (round_next ((j + 1, J.set j { s := { kind := -9, src := J[j].s.src, dst := J[j].s.dst, stream := J[j].s.stream, epoch := J[j].s.epoch, view := J[j].s.view, base := J[j].s.base, length := J[j].s.length, stamp := J[j].s.stamp, o1 := J[j].s.o1, o2 := J[j].s.o2, o3 := J[j].s.o3, o4 := J[j].s.o4, o5 := J[j].s.o5, a1 := J[j].s.a1, a2 := J[j].s.a2, a3 := J[j].s.a3 }, es := J[j].es, a := J[j].a, c := J[j].c })) (?_ : j + 1 ≤ x125 ∧ (J.set j { s := { kind := -9, src := J[j].s.src, dst := J[j].s.dst, stream := J[j].s.stream, epoch := J[j].s.epoch, view := J[j].s.view, base := J[j].s.base, length := J[j].s.length, stamp := J[j].s.stamp, o1 := J[j].s.o1, o2 := J[j].s.o2, o3 := J[j].s.o3, o4 := J[j].s.o4, o5 := J[j].s.o5, a1 := J[j].s.a1, a2 := J[j].s.a2, a3 := J[j].s.a3 }, es := J[j].es, a := J[j].a, c := J[j].c }).length = x125 ∧ ∀ (y : Item), y ∈ J.set j { s := { kind := -9, src := J[j].s.src, dst := J[j].s.dst, stream := J[j].s.stream, epoch := J[j].s.epoch, view := J[j].s.view, base := J[j].s.base, length := J[j].s.length, stamp := J[j].s.stamp, o1 := J[j].s.o1, o2 := J[j].s.o2, o3 := J[j].s.o3, o4 := J[j].s.o4, o5 := J[j].s.o5, a1 := J[j].s.a1, a2 := J[j].s.a2, a3 := J[j].s.a3 }, es := J[j].es, a := J[j].a, c := J[j].c } → shape y ∈ S) (show x125 - (j + 1) < x125 - j from (by omega)) ⟨⟨by kernel_rfl, by kernel_rfl⟩, ⟨_, rfl⟩, ⟨_, rfl⟩, by kernel_rfl, by kernel_rfl⟩)
      rotate_left
      refine go Try.tbs_ok 1000 ?_
      refine ev_fin (go Try.tbs_ok 1000 ?_)
      refine ev_wrapN (i + 1) (by constructor <;> omega) (by rfl) ?_
      refine ev_fin (round_next ((i + 1, R.fst, x100, x101, x103, x104, x105)) (?_ : i + 1 ≤ l.length ∧ List.map Item.msg x100 = R.fst ∧ x104 = x100.length ∧ R.fst.length ≤ i + 1 ∧ R.fst.length ≤ 512 ∧ (∀ (m : Msg), m ∈ R.fst → m.es.length ≤ 4000) ∧ ∀ (y : Item), y ∈ x100 → y ∈ x101) (show l.length - (i + 1) < l.length - i from (by omega)) ⟨⟨by kernel_rfl, by kernel_rfl⟩, ⟨_, rfl⟩, ⟨_, rfl⟩, by kernel_rfl, by kernel_rfl⟩)
      rotate_left
      · refine ⟨by omega, by simpa using hJl, fun y hy => ?_⟩
        rcases List.mem_or_eq_of_mem_set hy with hy | rfl
        · exact hJ y hy
        · have hjl : j < J.length := by omega
          exact hJ J[j] (List.getElem_mem hjl)
      · exact ⟨by omega, by assumption, by assumption, by omega, hac5, hac2, by assumption⟩
    · refine ⟨by omega, by assumption, by assumption, by omega, hac5, hac2, by assumption⟩
    · have hfw : few x167 := by assumption
      have hIn : x169 = x167.length := by assumption
      refine ev_stop (go_turn (X := Unit) 11 _ (fun _ => Asn.star ((x167.map shape).map OwnS)) rfl (fun h q => ⟨(), star_shape _ h q⟩) fun _ => ?_)
      obtain ⟨S, hS⟩ : ∃ S, S = x167.map shape := ⟨_, rfl⟩
      have hSf : ∀ s ∈ S, s.2 ≤ 1000000000 := fun s hs => by
        rw [hS] at hs
        obtain ⟨y, hy, rfl⟩ := List.mem_map.1 hs
        exact hfw y hy
      have hS0 : ∀ y ∈ x167, shape y ∈ S := fun y hy => by rw [hS]; exact List.mem_map_of_mem hy
      rw [← hS]
      have T3 := spoilS S hSf
      refine go Try.tbs_ok 1000 ?_
      refine ev_stop (go_loopR [12, 27, 38, 48, 50, 51, 52, 54, 59, 60, 61, 67, 68, 115, 116, 117, 118, 131, 132, 133, 134, 135, 136, 137, 138, 139, 140, 141, 142, 143, 144, 145] (fun (j, _) => [(12, .va (.int .i64 (j : Nat)))]) (fun (_, J) => [(10, .fact (Row 36 18 x168 x169 x170 (J.flatMap encI)))]) (fun (j, J) => j ≤ x169 ∧ J.length = x169 ∧ ∀ y ∈ J, shape y ∈ S) (fun (j, _) => x169 - j) ((0, x167) : Nat × List Item) ⟨Nat.zero_le _, hIn.symm, hS0⟩ ⟨⟨by kernel_rfl, by kernel_rfl⟩, ⟨_, rfl⟩, ⟨_, rfl⟩, by kernel_rfl, by kernel_rfl⟩ (fun x_ h_ => ?_))
      obtain ⟨j, J⟩ := x_
      obtain ⟨hj, hJl, hJ⟩ := h_
      refine go Try.tbs_ok 1000 ?_
      refine ev_if_lt (fun h700 => ?_) (fun h700 => ?_)
      refine go Try.tbs_ok 1000 ?_
      refine ev_stop (go_index0 (sz := 18) Try.tbs_ok (.inr 10) (j) rfl rfl rfl rfl rfl rfl (by omega) rfl Row.at0 (fun g701 e702 => ?_))
      subst e702
      refine go Try.tbs_ok 1000 ?_
      have l703 : j < (J).length := (by omega)
      refine ev_stop (go_loadE Try.tbs_ok (.inr 10) (j) 0 rfl rfl rfl rfl (fun _ h => Row.rd h) (by omega) (fun _ => rfl) (by omega) l703 (by decide) ?_)
      refine go Try.tbs_ok 1000 ?_
      refine ev_callF (T3 (J[j]) (show shape { s := { kind := J[j].s.kind, src := J[j].s.src, dst := J[j].s.dst, stream := J[j].s.stream, epoch := J[j].s.epoch, view := J[j].s.view, base := J[j].s.base, length := J[j].s.length, stamp := J[j].s.stamp, o1 := J[j].s.o1, o2 := J[j].s.o2, o3 := J[j].s.o3, o4 := J[j].s.o4, o5 := J[j].s.o5, a1 := J[j].s.a1, a2 := J[j].s.a2, a3 := J[j].s.a3 }, es := J[j].es, a := J[j].a, c := J[j].c } ∈ S from (by solve_by_elim [List.getElem_mem]))) [11] [] rfl rfl (by decide) rfl (by simp) (fun _ => (by repeat (first | exact trivial | refine ⟨rfl, ?_⟩))) (fun _ h704 => ?_)
      refine go Try.tbs_ok 1000 ?_
      refine ev_stop (go_atE (sz := 18) Try.tbs_ok (j) rfl rfl rfl rfl rfl rfl (by omega) ?_)
      refine go Try.tbs_ok 1000 ?_
      have l705 : j < (J).length := (by omega)
      refine ev_stop (go_storeR Try.tbs_ok 10 (j) 0 ({ s := { kind := -9, src := J[j].s.src, dst := J[j].s.dst, stream := J[j].s.stream, epoch := J[j].s.epoch, view := J[j].s.view, base := J[j].s.base, length := J[j].s.length, stamp := J[j].s.stamp, o1 := J[j].s.o1, o2 := J[j].s.o2, o3 := J[j].s.o3, o4 := J[j].s.o4, o5 := J[j].s.o5, a1 := J[j].s.a1, a2 := J[j].s.a2, a3 := J[j].s.a3 }, es := J[j].es, a := J[j].a, c := J[j].c }) rfl rfl rfl rfl rfl (by omega) (fun _ => rfl) (ones_of rfl) (by omega) l705 rfl (by decide) (ones_of rfl) rfl ?_)
      refine go Try.tbs_ok 1000 ?_
      refine ev_wrapN (j + 1) (by constructor <;> omega) (by rfl) ?_
      refine ev_fin (round_next ((j + 1, J.set j { s := { kind := -9, src := J[j].s.src, dst := J[j].s.dst, stream := J[j].s.stream, epoch := J[j].s.epoch, view := J[j].s.view, base := J[j].s.base, length := J[j].s.length, stamp := J[j].s.stamp, o1 := J[j].s.o1, o2 := J[j].s.o2, o3 := J[j].s.o3, o4 := J[j].s.o4, o5 := J[j].s.o5, a1 := J[j].s.a1, a2 := J[j].s.a2, a3 := J[j].s.a3 }, es := J[j].es, a := J[j].a, c := J[j].c })) (?_ : j + 1 ≤ x169 ∧ (J.set j { s := { kind := -9, src := J[j].s.src, dst := J[j].s.dst, stream := J[j].s.stream, epoch := J[j].s.epoch, view := J[j].s.view, base := J[j].s.base, length := J[j].s.length, stamp := J[j].s.stamp, o1 := J[j].s.o1, o2 := J[j].s.o2, o3 := J[j].s.o3, o4 := J[j].s.o4, o5 := J[j].s.o5, a1 := J[j].s.a1, a2 := J[j].s.a2, a3 := J[j].s.a3 }, es := J[j].es, a := J[j].a, c := J[j].c }).length = x169 ∧ ∀ (y : Item), y ∈ J.set j { s := { kind := -9, src := J[j].s.src, dst := J[j].s.dst, stream := J[j].s.stream, epoch := J[j].s.epoch, view := J[j].s.view, base := J[j].s.base, length := J[j].s.length, stamp := J[j].s.stamp, o1 := J[j].s.o1, o2 := J[j].s.o2, o3 := J[j].s.o3, o4 := J[j].s.o4, o5 := J[j].s.o5, a1 := J[j].s.a1, a2 := J[j].s.a2, a3 := J[j].s.a3 }, es := J[j].es, a := J[j].a, c := J[j].c } → shape y ∈ S) (show x169 - (j + 1) < x169 - j from (by omega)) ⟨⟨by kernel_rfl, by kernel_rfl⟩, ⟨_, rfl⟩, ⟨_, rfl⟩, by kernel_rfl, by kernel_rfl⟩)
      rotate_left
      refine go Try.tbs_ok 1000 ?_
      refine ev_fin (go Try.tbs_ok 1000 ?_)
      refine ev_wrapN (i + 1) (by constructor <;> omega) (by rfl) ?_
      refine ev_fin (round_next ((i + 1, R.fst, x144, x145, x147, x148, x149)) (?_ : i + 1 ≤ l.length ∧ List.map Item.msg x144 = R.fst ∧ x148 = x144.length ∧ R.fst.length ≤ i + 1 ∧ R.fst.length ≤ 512 ∧ (∀ (m : Msg), m ∈ R.fst → m.es.length ≤ 4000) ∧ ∀ (y : Item), y ∈ x144 → y ∈ x145) (show l.length - (i + 1) < l.length - i from (by omega)) ⟨⟨by kernel_rfl, by kernel_rfl⟩, ⟨_, rfl⟩, ⟨_, rfl⟩, by kernel_rfl, by kernel_rfl⟩)
      rotate_left
      · refine ⟨by omega, by simpa using hJl, fun y hy => ?_⟩
        rcases List.mem_or_eq_of_mem_set hy with hy | rfl
        · exact hJ y hy
        · have hjl : j < J.length := by omega
          exact hJ J[j] (List.getElem_mem hjl)
      · exact ⟨by omega, by assumption, by assumption, by omega, hac5, hac2, by assumption⟩
  · have hI : ∀ I : List Item, I.map Item.msg = L.map Item.msg → decide (I.map Item.msg = L.map Item.msg) = true := fun I h => decide_eq_true h
    refine go Try.tbs_ok 1000 ?_
    refine ev_fin (go Try.tbs_ok 1000 ?_)
    refine ev_stop (go_draw Try.tbs_ok false [1] [(0,true),(2,true),(3,true),(4,true),(5,true),(1,false),(6,false),(7,true),(8,false),(9,true),(10,false)] rfl ?_)
    refine go Try.tbs_ok 1000 ?_
    refine ev_need ⟨⟨(by repeat (first | exact trivial | refine ⟨rfl, ?_⟩)), rfl⟩, by kernel_rfl⟩ ?_
    refine ev_callF (mAllF (x2) (List.map Item.msg L) (by with_reducible assumption) (by with_reducible assumption)) [0] [] rfl rfl (by decide) rfl (by simp) (fun _ => (by repeat (first | exact trivial | refine ⟨rfl, ?_⟩))) (fun ⟨x900, x901, x902, x903⟩ ⟨h904, h905, h906, h907⟩ => ?_)
    refine go Try.tbs_ok 1000 ?_
    refine ev_need ⟨⟨(by repeat (first | exact trivial | refine ⟨rfl, ?_⟩)), rfl⟩, by kernel_rfl⟩ ?_
    refine ev_callF (sameAllG (x901) (A2) (x900) (L) (G) (x902) (x903) (n) (c2) (by with_reducible assumption) (show x900.length ≤ 1000000000 from (by omega)) (by with_reducible assumption) (by with_reducible assumption) (by with_reducible assumption)) [] [.inr 4, .inr 2, .inr 5, .inr 3] rfl rfl (by decide) rfl (by simp) (fun _ => (by repeat (first | exact trivial | refine ⟨rfl, ?_⟩))) (fun _ h908 => ?_)
    refine go Try.tbs_ok 1000 ?_
    refine ev_need ⟨⟨(by repeat (first | exact trivial | refine ⟨rfl, ?_⟩)), rfl⟩, by kernel_rfl⟩ ?_
    refine ev_if_yes (decide_eq_true (by with_reducible assumption)) ?_
    refine go Try.tbs_ok 1000 ?_
    refine ev_callF (works ) [] [] rfl rfl (by decide) rfl (by simp) (fun _ => (by repeat (first | exact trivial | refine ⟨rfl, ?_⟩))) (fun _ h909 => ?_)
    refine go Try.tbs_ok 1000 ?_
    refine ev_need ⟨⟨(by repeat (first | exact trivial | refine ⟨rfl, ?_⟩)), rfl⟩, by kernel_rfl⟩ ?_
    refine ev_need (by kernel_rfl) ?_
    refine ev_fin ⟨trivial, _, rfl, (()), rfl, (by trivial), Frm.nil _⟩
end Go.Proofs.Yteleepinalcjeaa

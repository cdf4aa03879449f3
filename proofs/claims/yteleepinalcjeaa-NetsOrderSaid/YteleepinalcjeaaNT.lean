/-
  What is proved: what NetsPlay calls, told as its walk wants it. Conditions: none.
-/
import Derived.Test.YteleepinalcjeaaNS
namespace Go.Proofs.Yteleepinalcjeaa
open Go.Sy

def AllRd (I : List Item) : Asn := ⟨fun h => ∀ x ∈ I, x.rd.holds h, fun e p x hx => x.rd.mono e (p x hx)⟩
theorem same_item {I J : List Item} (hI : few I) {i : Nat} (hi : i < I.length) (hj : i < J.length) :
    Triple Try.prog 13 [.agg (encI I[i]).toArray, .agg (encI J[i]).toArray] [] [AllRd I, AllRd J] Unit (fun _ => .bool (decide (I[i].msg = J[i].msg))) (fun _ => True) (fun _ => []) := by
  refine (sameMail I[i].s J[i].s I[i].a J[i].a I[i].es J[i].es I[i].c J[i].c (hI _ (List.getElem_mem hi))).reads ?_
  intro A hA
  simp only [List.mem_cons, List.not_mem_nil, or_false] at hA
  rcases hA with rfl | rfl
  · exact ⟨_, List.mem_cons_self, fun h p => p _ (List.getElem_mem hi)⟩
  · exact ⟨_, List.mem_cons_of_mem _ List.mem_cons_self, fun h p => p _ (List.getElem_mem hj)⟩
set_option maxRecDepth 100000 in
theorem sameAllR (A B : Option Addr) (I J : List Item) (c d : Nat) (hI : few I) (hn : I.length ≤ 1000000000) :
    Triple Try.prog 18 [.slice A I.length c, .slice B J.length d] [] [Rd 18 A I.length (I.flatMap encI), Rd 18 B J.length (J.flatMap encI), AllRd I, AllRd J] Unit
      (fun _ => .bool (decide (I.map Item.msg = J.map Item.msg))) (fun _ => True) (fun _ => []) := by
  refine triple_intro Try.tbs_ok Try.func18 rfl [.va (.slice A I.length c), .va (.slice B J.length d)] [] ⟨trivial, trivial, trivial⟩ rfl (by simp) ?_
  intro E
  refine go Try.tbs_ok 1000 ?_
  refine ev_if_ne (fun h0 => ?_) (fun h0 => ?_)
  refine go Try.tbs_ok 1000 ?_
  refine ev_fin ⟨trivial, _, rfl, (()), ?_, (by trivial), Frm.nil _⟩
  rotate_left
  refine go Try.tbs_ok 1000 ?_
  rotate_left
  · exact congrArg Value.bool (decide_eq_false (fun e => by
      have := congrArg List.length e
      simp only [List.length_map] at this
      omega)).symm
  · have hl : I.length = J.length := by omega
    refine ev_stop (go_loopR [4, 5, 11, 12, 13, 14, 15, 16, 17, 18, 19, 20, 21, 22, 23, 24, 25, 26] (fun i => [(5, .va (.int .i64 (i : Nat)))]) (fun _ => []) (fun i => i ≤ I.length ∧ (I.take i).map Item.msg = (J.take i).map Item.msg) (fun i => I.length - i) 0 ⟨Nat.zero_le _, rfl⟩ ⟨⟨by kernel_rfl, by kernel_rfl⟩, ⟨_, rfl⟩, ⟨_, rfl⟩, by kernel_rfl, by kernel_rfl⟩ (fun i h_ => ?_))
    obtain ⟨hi, hm⟩ := h_
    refine go Try.tbs_ok 1000 ?_
    refine ev_if_lt (fun h5 => ?_) (fun h5 => ?_)
    refine go Try.tbs_ok 1000 ?_
    refine ev_stop (go_draw Try.tbs_ok true [] [(0,true),(1,true),(2,true),(3,true),(4,true),(5,true),(6,true),(7,true),(8,false),(9,true)] rfl ?_)
    refine go Try.tbs_ok 1000 ?_
    refine ev_need ⟨⟨(by repeat (first | exact trivial | refine ⟨rfl, ?_⟩)), rfl⟩, by kernel_rfl⟩ ?_
    refine ev_stop (tk_indexE (sz := 18) Try.tbs_ok (.inl 0) (i) ⟨⟨(by repeat (first | exact trivial | refine ⟨rfl, ?_⟩)), rfl⟩, by kernel_rfl⟩ rfl rfl rfl rfl rfl rfl rfl (by omega) rfl (fun _ h => h) (fun g6 o8 e7 => ?_))
    subst e7
    refine go Try.tbs_ok 1000 ?_
    refine ev_need ⟨⟨(by repeat (first | exact trivial | refine ⟨rfl, ?_⟩)), rfl⟩, by kernel_rfl⟩ ?_
    have l9 : i < (I).length := (by omega)
    refine ev_stop (tk_loadE Try.tbs_ok (.inl 0) (i) 0 ⟨⟨(by repeat (first | exact trivial | refine ⟨rfl, ?_⟩)), rfl⟩, by kernel_rfl⟩ rfl rfl rfl rfl rfl (fun _ h => h) (by omega) (fun _ => rfl) (by omega) l9 (by decide) ?_)
    refine go Try.tbs_ok 1000 ?_
    refine ev_need ⟨⟨(by repeat (first | exact trivial | refine ⟨rfl, ?_⟩)), rfl⟩, by kernel_rfl⟩ ?_
    refine ev_stop (tk_indexE (sz := 18) Try.tbs_ok (.inl 1) (i) ⟨⟨(by repeat (first | exact trivial | refine ⟨rfl, ?_⟩)), rfl⟩, by kernel_rfl⟩ rfl rfl rfl rfl rfl rfl rfl (by omega) rfl (fun _ h => h) (fun g10 o12 e11 => ?_))
    subst e11
    refine go Try.tbs_ok 1000 ?_
    refine ev_need ⟨⟨(by repeat (first | exact trivial | refine ⟨rfl, ?_⟩)), rfl⟩, by kernel_rfl⟩ ?_
    have l13 : i < (J).length := (by omega)
    refine ev_stop (tk_loadE Try.tbs_ok (.inl 1) (i) 0 ⟨⟨(by repeat (first | exact trivial | refine ⟨rfl, ?_⟩)), rfl⟩, by kernel_rfl⟩ rfl rfl rfl rfl rfl (fun _ h => h) (by omega) (fun _ => rfl) (by omega) l13 (by decide) ?_)
    refine go Try.tbs_ok 1000 ?_
    refine ev_need ⟨⟨(by repeat (first | exact trivial | refine ⟨rfl, ?_⟩)), rfl⟩, by kernel_rfl⟩ ?_
    refine ev_callF (same_item (by with_reducible assumption) _ _) [] [.inl 2, .inl 3] rfl rfl (by decide) rfl (by simp) (fun _ => (by repeat (first | exact trivial | refine ⟨rfl, ?_⟩))) (fun _ h14 => ?_)
    refine go Try.tbs_ok 1000 ?_
    refine ev_need ⟨⟨(by repeat (first | exact trivial | refine ⟨rfl, ?_⟩)), rfl⟩, by kernel_rfl⟩ ?_
    refine ev_if (fun h15 => ?_) (fun h15 => ?_)
    refine go Try.tbs_ok 1000 ?_
    refine ev_fin ⟨trivial, _, rfl, (()), ?_, (by trivial), Frm.nil _⟩
    rotate_left
    refine go Try.tbs_ok 1000 ?_
    refine ev_wrapN (i + 1) (by constructor <;> omega) (by rfl) ?_
    refine ev_fin (round_next (i + 1) (?_ : i + 1 ≤ I.length ∧ List.map Item.msg (List.take (i + 1) I) = List.map Item.msg (List.take (i + 1) J)) (show I.length - (i + 1) < I.length - i from (by omega)) ⟨⟨by kernel_rfl, by kernel_rfl⟩, ⟨_, rfl⟩, ⟨_, rfl⟩, by kernel_rfl, by kernel_rfl⟩)
    rotate_left
    refine go Try.tbs_ok 1000 ?_
    refine ev_fin (go Try.tbs_ok 1000 ?_)
    refine ev_fin ⟨trivial, _, rfl, (()), ?_, (by trivial), Frm.nil _⟩
    rotate_left
    · refine congrArg Value.bool (decide_eq_false (fun e => ?_)).symm
      have h2 : (I.map Item.msg)[i]? = (J.map Item.msg)[i]? := by rw [e]
      rw [List.getElem?_map, List.getElem?_map, List.getElem?_eq_getElem l9, List.getElem?_eq_getElem l13] at h2
      simp only [Option.map_some, Option.some.injEq] at h2
      simp [h2] at h15
    · have h16 : I[i].msg = J[i].msg := by simpa using h15
      refine ⟨by omega, ?_⟩
      rw [← List.take_append_getElem l9, ← List.take_append_getElem l13, List.map_append, List.map_append, hm]
      simp [h16]
    · refine congrArg Value.bool (decide_eq_true ?_).symm
      obtain rfl : i = I.length := by omega
      rw [List.take_length, hl, List.take_length] at hm
      exact hm

/-- one of several is taken out, and comes back turned -/
theorem star_out {α : Type} (A : α → Asn) : ∀ (l : List α) (j : Nat) (hj : j < l.length) {h : Hp}, Asn.starH (l.map A) h → Asn.starH (A l[j] :: (l.eraseIdx j).map A) h
  | x :: l, 0, _, _, q => q
  | x :: l, j + 1, hj, h, q => by
    obtain ⟨h1, h2, d, a, b, p, q⟩ := q
    obtain ⟨h3, h4, d2, a2, b2, p2, q2⟩ := star_out A l j (by simpa using hj) q
    exact ⟨h3, Hp.join h1 h4, (Hp.join_dis (d.mono (Hp.le_refl _) a2) d2.symm).symm, a2.trans b, Hp.join_le a (b2.trans b), p2, h1, h4, d.mono (Hp.le_refl _) b2, Hp.le_join_left _ _, Hp.le_join_right (d.mono (Hp.le_refl _) b2), p, q2⟩
theorem star_in {α : Type} (A : α → Asn) : ∀ (l : List α) (j : Nat) (_ : j < l.length) (y : α) {h : Hp}, Asn.starH (A y :: (l.eraseIdx j).map A) h → Asn.starH ((l.set j y).map A) h
  | x :: l, 0, _, y, _, q => q
  | x :: l, j + 1, hj, y, h, q => by
    obtain ⟨h1, h2, d, a, b, p, q⟩ := q
    obtain ⟨h3, h4, d2, a2, b2, p2, q2⟩ := q
    exact ⟨h3, Hp.join h1 h4, (Hp.join_dis (d.mono (Hp.le_refl _) a2) d2.symm).symm, a2.trans b, Hp.join_le a (b2.trans b), p2, star_in A l j (by simpa using hj) y ⟨h1, h4, d.mono (Hp.le_refl _) b2, Hp.le_join_left _ _, Hp.le_join_right (d.mono (Hp.le_refl _) b2), p, q2⟩⟩
theorem spoilAt (I : List Item) (j : Nat) (hj : j < I.length) (hI : few I) :
    Triple Try.prog 16 [.agg (encI I[j]).toArray] [Asn.star (I.map Item.own)] [] (List Ent) (fun _ => .tuple #[]) (fun es => es.length = I[j].es.length) (fun es => [Asn.star ((I.set j { I[j] with es := es }).map Item.own)]) := by
  refine Triple.pre (M := fun _ : Unit => [I[j].own] ++ (I.eraseIdx j).map Item.own) (fun h q => ⟨(), star_out Item.own I j hj (star_holds.1 (starH_one.1 q))⟩) fun _ => ?_
  refine ((spoil I[j].s I[j].a I[j].es I[j].c (hI _ (List.getElem_mem hj))).frame _).imp fun es hes => ⟨es, rfl, hes, fun h q => starH_one.2 (star_holds.2 (star_in Item.own I j hj _ ?_))⟩
  show Asn.starH (Own 40 6 I[j].a es.length (es.flatMap encE) :: _) h
  rw [hes]
  exact q
def actL (k : Int) (s : MailS) (A : Option Addr) (n c : Nat) (i : Int) : List Value := .int .u8 k :: (mailL s A n c ++ [.int .i64 i])
theorem doesP (p : Nat) (l : List Msg) (hl : fewM l) (hn : l.length ≤ 1000000000) (k : Int) (s : MailS) (es : List Ent) (i : Int) (hk : 0 ≤ k ∧ k < 256) (hx : es.length ≤ 1000000000) (R : List Msg × Msg × Bool) (hR : R = actM l k ⟨s, es⟩ i) (a : Option Addr) (d m c : Nat) (M : List Ent) (hm : m = es.length + M.length) :
    Triple Try.prog 11 [.pointer (some ⟨p, 0, none⟩), .agg (actL k s a es.length d i).toArray] [NetM p l] [Row 40 6 a m c ((es ++ M).flatMap encE)] (Option Addr)
      (fun A => .tuple #[(R.2.1.at A).val, .bool R.2.2]) (fun _ => True) (fun A => [NetM p R.1, (R.2.1.at A).own]) := by
  subst hR
  exact (does p l hl hn ⟨k, ⟨s, es, a, d⟩, i⟩ hk hx).reads fun A hA => by
    rw [List.mem_singleton.1 hA]
    exact ⟨_, List.mem_singleton.2 rfl, fun h q => Own.rd (Row.frontE encE_len q (by simp only []; omega) rfl)⟩
/-- the same, what it is made of laid open -/
theorem didU (p : Nat) (L : List Item) (hL : few L) (hl : L.length ≤ 1000000000) (k : Int) (s : MailS) (es : List Ent) (i : Int) (hk : 0 ≤ k ∧ k < 256) (hx : es.length ≤ 1000000000) (R : List Msg × Msg × Bool) (hR : R = actM (L.map Item.msg) k ⟨s, es⟩ i) (n : Nat) (hn : n = L.length) (A : Option Addr) (c : Nat) (G : List Item) (hG : ∀ y ∈ L, y ∈ G) (a : Option Addr) (d : Nat) :
    Triple Try.prog 12 [.pointer (some ⟨p, 0, none⟩), .agg (actL k s a es.length d i).toArray] [Pt p 29 [.slice A n c], Row 36 18 A n c (L.flatMap encI), Asn.star (G.map Item.own)] [Rd 6 a es.length (es.flatMap encE)] (List Item × List Item × Item × Option Addr × Nat × Nat)
      (fun (_, _, y, _, _, _) => .tuple #[y.val, .bool R.2.2]) (fun (L2, G2, y, _, n2, _) => L2.map Item.msg = R.1 ∧ y.msg = R.2.1 ∧ (y ∈ G2 ∨ y = noI) ∧ (∀ y ∈ L2, y ∈ G2) ∧ n2 = L2.length ∧ n2 = R.1.length)
      (fun (L2, G2, _, A2, n2, c2) => [Pt p 29 [.slice A2 n2 c2], Row 36 18 A2 n2 c2 (L2.flatMap encI), Asn.star (G2.map Item.own)]) := by
  subst hn hR
  exact (Triple.pre (fun _ q => ⟨(), Ref.in hG q⟩) fun _ : Unit => did p L G hL hl ⟨k, ⟨s, es, a, d⟩, i⟩ hk hx).imp' fun ⟨L2, G2, y⟩ h ⟨h1, h2, h3⟩ q => by
    obtain ⟨⟨⟨A2, c2⟩, hG2⟩, q⟩ := Ref.out q
    exact ⟨(L2, G2, y, A2, L2.length, c2), rfl, ⟨h1, h2, h3, hG2, rfl, (@List.length_map _ _ L2 Item.msg).symm.trans (congrArg List.length h1)⟩, q⟩
/-- two messages, one out of all that the document's net made -/
theorem sameMailG (m : Msg) (A : Option Addr) (y : Item) (G : List Item) (hn : m.es.length ≤ 1000000000) (hG : y ∈ G ∨ y = noI) :
    Triple Try.prog 13 [(m.at A).val, y.val] [] [(m.at A).own, Asn.star (G.map Item.own)] Unit (fun _ => .bool (decide (m = y.msg))) (fun _ => True) (fun _ => []) :=
  (sameMail m.s y.s A y.a m.es y.es m.es.length y.c hn).reads fun X hX => by
    simp only [List.mem_cons, List.not_mem_nil, or_false] at hX
    rcases hX with rfl | rfl
    · exact ⟨_, List.mem_cons_self, fun _ q => Own.rd q⟩
    · refine ⟨_, List.mem_cons_of_mem _ List.mem_cons_self, fun h q => ?_⟩
      rcases hG with hG | rfl
      · exact Own.rd (starH_mem (l := G.map Item.own) (List.mem_map_of_mem (f := Item.own) hG) (star_holds.1 q))
      · exact Rd.nil _ _ _
theorem sameAllG (A B : Option Addr) (I J G : List Item) (n c m d : Nat) (hI : few I) (hi : I.length ≤ 1000000000) (hG : ∀ y ∈ J, y ∈ G) (hn : n = I.length) (hm : m = J.length) :
    Triple Try.prog 18 [.slice A n c, .slice B m d] [] [Row 36 18 A n c (I.flatMap encI), Row 36 18 B m d (J.flatMap encI), Asn.star (I.map Item.own), Asn.star (G.map Item.own)] Unit
      (fun _ => .bool (decide (I.map Item.msg = J.map Item.msg))) (fun _ => True) (fun _ => []) := by
  subst hn hm
  refine (sameAllR A B I J c d hI hi).reads fun X hX => ?_
  simp only [List.mem_cons, List.not_mem_nil, or_false] at hX
  rcases hX with rfl | rfl | rfl | rfl
  · exact ⟨Row 36 18 A I.length c (I.flatMap encI), by simp, fun _ q => Row.rd q⟩
  · exact ⟨Row 36 18 B J.length d (J.flatMap encI), by simp, fun _ q => Row.rd q⟩
  · exact ⟨Asn.star (I.map Item.own), by simp, fun _ q x hx => Own.rd (starH_mem (l := I.map Item.own) (List.mem_map_of_mem (f := Item.own) hx) (star_holds.1 q))⟩
  · exact ⟨Asn.star (G.map Item.own), by simp, fun _ q x hx => Own.rd (starH_mem (l := G.map Item.own) (List.mem_map_of_mem (f := Item.own) (hG x hx)) (star_holds.1 q))⟩
theorem sameEntriesP (A B : Option Addr) (es fs : List Ent) (c d : Nat) (m q : Nat) (M : List Ent) (hm : m = es.length + M.length) (hn : es.length ≤ 1000000000) :
    Triple Try.prog 14 [.slice A es.length c, .slice B fs.length d] [] [Row 40 6 A m q ((es ++ M).flatMap encE), Rd 6 B fs.length (fs.flatMap encE)] Unit (fun _ => .bool (decide (es = fs))) (fun _ => True) (fun _ => []) :=
  (sameEntries A B es fs c d hn).reads fun X hX => by
    simp only [List.mem_cons, List.not_mem_nil, or_false] at hX
    rcases hX with rfl | rfl
    · exact ⟨_, List.mem_cons_self, fun _ z => Own.rd (Row.frontE encE_len z (by omega) rfl)⟩
    · exact ⟨_, List.mem_cons_of_mem _ List.mem_cons_self, fun _ z => z⟩
theorem spoilP (s : MailS) (A : Option Addr) (es : List Ent) (d m c : Nat) (M : List Ent) (hm : m = es.length + M.length) (hn : es.length ≤ 1000000000) :
    Triple Try.prog 16 [mailV s A es.length d] [Row 40 6 A m c ((es ++ M).flatMap encE)] [] Unit (fun _ => .tuple #[]) (fun _ => True) (fun _ => []) :=
  Triple.pre (fun _ q => ⟨(), starH_one.2 (Row.frontE encE_len (starH_one.1 q) (by omega) rfl)⟩) fun _ : Unit => (spoil s A es d hn).imp fun _ _ => ⟨(), rfl, trivial, fun _ _ => trivial⟩
theorem spoilD (m : Msg) (A : Option Addr) (hn : m.es.length ≤ 1000000000) :
    Triple Try.prog 16 [(m.at A).val] [(m.at A).own] [] Unit (fun _ => .tuple #[]) (fun _ => True) (fun _ => []) :=
  (spoil m.s A m.es m.es.length hn).imp fun _ _ => ⟨(), rfl, trivial, fun _ _ => trivial⟩
theorem mAllF (p : Nat) (l : List Msg) (hl : fewM l) (hn : l.length ≤ 512) :
    Triple Try.prog 17 [.pointer (some ⟨p, 0, none⟩)] [NetM p l] [] (List Item × Option Addr × Nat × Nat) (fun (_, A, n, c) => .slice A n c) (fun (I, _, n, _) => I.map Item.msg = l ∧ few I ∧ n = I.length ∧ I.length ≤ 512)
      (fun (I, A, n, c) => [NetM p l, Row 36 18 A n c (I.flatMap encI), Asn.star (I.map Item.own)]) :=
  (mAll p l hl hn).imp fun (I, A, c) hI => ⟨(I, A, I.length, c), rfl, ⟨hI, few_of (by rw [show I.map Item.msg = l from hI]; exact hl), rfl, by
    have := congrArg List.length (show I.map Item.msg = l from hI)
    rw [List.length_map] at this
    omega⟩, fun _ q => q⟩
/-- entries of which the base and how many they are is known alone -/
def OwnS (s : Option Addr × Nat) : Asn := Asn.ex fun es : {es : List Ent // es.length = s.2} => Own 40 6 s.1 s.2 (es.1.flatMap encE)
def shape (x : Item) : Option Addr × Nat := (x.a, x.es.length)
theorem ownS_of (x : Item) (h : Hp) (q : x.own.holds h) : (OwnS (shape x)).holds h := ⟨⟨x.es, rfl⟩, q⟩
theorem star_shape (I : List Item) (h : Hp) (q : (Asn.star (I.map Item.own)).holds h) : (Asn.star ((I.map shape).map OwnS)).holds h := by
  rw [List.map_map]
  exact star_holds.2 (starH_map (fun x h q => ownS_of x h q) (star_holds.1 q))
theorem spoilS (S : List (Option Addr × Nat)) (hS : ∀ s ∈ S, s.2 ≤ 1000000000) (x : Item) (hx : shape x ∈ S) :
    Triple Try.prog 16 [x.val] [Asn.star (S.map OwnS)] [] Unit (fun _ => .tuple #[]) (fun _ => True) (fun _ => [Asn.star (S.map OwnS)]) := by
  obtain ⟨j, hj, e⟩ := List.getElem_of_mem hx
  refine Triple.pre (M := fun es : {es : List Ent // es.length = x.es.length} => [Own 40 6 x.a es.1.length (es.1.flatMap encE)] ++ (S.eraseIdx j).map OwnS) (fun h q => ?_) fun ⟨es, hes⟩ => ?_
  · have q2 := star_out OwnS S j hj (star_holds.1 (starH_one.1 q))
    rw [e] at q2
    obtain ⟨⟨es, hes⟩, q3⟩ := starH_ex.1 q2
    refine ⟨⟨es, hes⟩, ?_⟩
    show Asn.starH (Own 40 6 x.a es.length (es.flatMap encE) :: _) h
    rw [show es.length = x.es.length from hes]
    exact q3
  · have T := (spoil x.s x.a es x.c (by rw [hes]; exact hS _ hx)).frame ((S.eraseIdx j).map OwnS)
    rw [hes] at T
    have e2 : mailV x.s x.a x.es.length x.c = x.val := rfl
    rw [e2] at T
    refine (show Triple Try.prog 16 [x.val] ([Own 40 6 x.a es.length (es.flatMap encE)] ++ (S.eraseIdx j).map OwnS) [] _ _ _ _ by rw [hes]; exact T).imp fun fs hfs => ⟨(), rfl, trivial, fun h q => starH_one.2 (star_holds.2 ?_)⟩
    have q2 : Asn.starH (OwnS (shape x) :: (S.eraseIdx j).map OwnS) h := starH_ex.2 ⟨⟨fs, hfs⟩, q⟩
    have q3 := star_in OwnS S j hj (shape x) q2
    rw [← e, List.set_getElem_self] at q3
    exact q3
end Go.Proofs.Yteleepinalcjeaa

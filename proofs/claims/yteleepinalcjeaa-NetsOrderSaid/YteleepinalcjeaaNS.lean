/-
  What is proved: what an act does with the document's net. Conditions: none.
-/
import Derived.Test.YteleepinalcjeaaNR
namespace Go.Proofs.Yteleepinalcjeaa
open Go.Sy

/-- p is the document's net with messages L; G: all messages that it ever made -/
def Ref (p : Nat) (L G : List Item) : Asn := Asn.ex fun x : {x : Option Addr × Nat // ∀ y ∈ L, y ∈ G} =>
  Asn.star [Pt p 29 [.slice x.1.1 L.length x.1.2], Row 36 18 x.1.1 L.length x.1.2 (L.flatMap encI), Asn.star (G.map Item.own)]
theorem Ref.out {p : Nat} {L G : List Item} {h : Hp} (q : Asn.starH [Ref p L G] h) : ∃ x : {x : Option Addr × Nat // ∀ y ∈ L, y ∈ G}, Asn.starH ([Pt p 29 [.slice x.1.1 L.length x.1.2], Row 36 18 x.1.1 L.length x.1.2 (L.flatMap encI)] ++ [Asn.star (G.map Item.own)]) h := by
  obtain ⟨x, hx⟩ := starH_ex.1 q
  exact ⟨x, star_holds.1 (starH_one.1 hx)⟩
theorem Ref.in {p : Nat} {L G : List Item} {h : Hp} {A : Option Addr} {c : Nat} (hG : ∀ y ∈ L, y ∈ G) (q : Asn.starH [Pt p 29 [.slice A L.length c], Row 36 18 A L.length c (L.flatMap encI), Asn.star (G.map Item.own)] h) : Asn.starH [Ref p L G] h :=
  starH_ex.2 ⟨⟨(A, c), hG⟩, starH_one.2 (star_holds.2 q)⟩
theorem Ref.rd {p : Nat} {L G : List Item} {h : Hp} (q : (Ref p L G).holds h) {y : Item} (hy : y ∈ G ∨ y = noI) : y.rd.holds h := by
  rcases hy with hy | rfl
  · obtain ⟨x, hx⟩ := Ref.out (starH_one.2 q)
    exact Own.rd (starH_mem (l := G.map Item.own) (List.mem_map_of_mem (f := Item.own) hy) (star_holds.1 (starH_mem (A := Asn.star (G.map Item.own)) (by simp) hx)))
  · exact Rd.nil _ _ _
theorem Ref.reach {p : Nat} {L G : List Item} {h : Hp} (q : (Ref p L G).holds h) : ∀ y ∈ L, y ∈ G := by
  obtain ⟨x, _⟩ := Ref.out (starH_one.2 q)
  exact x.2
/-- one more message is owned -/
theorem grow {G : List Item} {y : Item} {X Y : Asn} {h : Hp} {c : Nat} (q : Asn.starH [X, Y, Row 40 6 y.a y.es.length c (y.es.flatMap encE), Asn.star (G.map Item.own)] h) : Asn.starH [X, Y, Asn.star ((G ++ [y]).map Item.own)] h := by
  obtain ⟨h1, h2, d, a, b, p1, q⟩ := q
  obtain ⟨h3, h4, d2, a2, b2, p2, q⟩ := q
  refine ⟨h1, h2, d, a, b, p1, h3, h4, d2, a2, b2, p2, star_snoc Item.own G y h4 (starH_swap ?_)⟩
  obtain ⟨h5, h6, d3, a3, b3, p3, q⟩ := q
  exact ⟨h5, h6, d3, a3, b3, Row.own p3, q⟩

theorem inM_iff (L : List Item) (i : Int) : inM (L.map Item.msg) i ↔ inI L i := by simp [inM, inI]
theorem map_look (L : List Item) (i : Int) : ((lookI L i).1.msg, (lookI L i).2) = lookM (L.map Item.msg) i := by
  unfold lookI lookM
  by_cases h : inI L i
  · rw [if_pos h, if_pos ((inM_iff L i).2 h)]
    have : i.toNat < L.length := by have := h.1; have := h.2; omega
    simp [List.getD_eq_getElem?_getD, this]
  · rw [if_neg h, if_neg (fun e => h ((inM_iff L i).1 e))]
    rfl
theorem map_gone (L : List Item) (i : Int) : (goneI L i).map Item.msg = goneM (L.map Item.msg) i := by
  unfold goneI goneM
  by_cases h : inI L i
  · rw [if_pos h, if_pos ((inM_iff L i).2 h), erase_map]
  · rw [if_neg h, if_neg (fun e => h ((inM_iff L i).1 e))]
theorem look_mem {L G : List Item} (hG : ∀ y ∈ L, y ∈ G) (i : Int) : (lookI L i).1 ∈ G ∨ (lookI L i).1 = noI := by
  unfold lookI
  split
  · rename_i h
    have : i.toNat < L.length := by have := h.2; have := h.1; omega
    simp only [List.getD_eq_getElem?_getD, List.getElem?_eq_getElem this, Option.getD_some]
    exact .inl (hG _ (List.getElem_mem this))
  · exact .inr rfl
theorem gone_mem {L G : List Item} (hG : ∀ y ∈ L, y ∈ G) (i : Int) : ∀ y ∈ goneI L i, y ∈ G := by
  unfold goneI
  split
  · exact fun y hy => hG y (List.mem_of_mem_eraseIdx hy)
  · exact hG

theorem sLook (p : Nat) (L G : List Item) (hL : L.length ≤ 1000000000) (i : Int) :
    Triple Try.prog 25 [.pointer (some ⟨p, 0, none⟩), .int .i64 i] [Ref p L G] [] Unit (fun _ => .tuple #[(lookI L i).1.val, .bool (lookI L i).2]) (fun _ => (lookI L i).1 ∈ G ∨ (lookI L i).1 = noI) (fun _ => [Ref p L G]) :=
  Triple.pre (fun _ => Ref.out) fun ⟨⟨A, c⟩, hG⟩ => ((rLook p A c L hL i).frame [Asn.star (G.map Item.own)]).imp fun _ _ => ⟨(), rfl, look_mem hG i, fun _ q => Ref.in hG q⟩
theorem sTake (p : Nat) (L G : List Item) (hL : L.length ≤ 1000000000) (i : Int) :
    Triple Try.prog 26 [.pointer (some ⟨p, 0, none⟩), .int .i64 i] [Ref p L G] [] Unit (fun _ => .tuple #[(lookI L i).1.val, .bool (lookI L i).2]) (fun _ => (lookI L i).1 ∈ G ∨ (lookI L i).1 = noI) (fun _ => [Ref p (goneI L i) G]) :=
  Triple.pre (fun _ => Ref.out) fun ⟨⟨A, c⟩, hG⟩ => ((rTake p A c L hL i).frame [Asn.star (G.map Item.own)]).imp fun ⟨A2, n2, c2⟩ hn => ⟨(), rfl, look_mem hG i, fun _ q => by
    obtain rfl : n2 = _ := hn
    exact Ref.in (gone_mem hG i) q⟩
theorem sDrop (p : Nat) (L G : List Item) (hL : L.length ≤ 1000000000) (i : Int) :
    Triple Try.prog 28 [.pointer (some ⟨p, 0, none⟩), .int .i64 i] [Ref p L G] [] Unit (fun _ => .bool (lookI L i).2) (fun _ => True) (fun _ => [Ref p (goneI L i) G]) :=
  Triple.pre (fun _ => Ref.out) fun ⟨⟨A, c⟩, hG⟩ => ((rDrop p A c L hL i).frame [Asn.star (G.map Item.own)]).imp fun ⟨A2, n2, c2⟩ hn => ⟨(), rfl, trivial, fun _ q => by
    obtain rfl : n2 = _ := hn
    exact Ref.in (gone_mem hG i) q⟩
theorem sSend (p : Nat) (L G : List Item) (m : MailS) (B : Option Addr) (d : Nat) (es : List Ent) (hn : es.length ≤ 1000000000) :
    Triple Try.prog 29 [.pointer (some ⟨p, 0, none⟩), mailV m B es.length d] [Ref p L G] [Rd 6 B es.length (es.flatMap encE)] (List Item × List Item) (fun _ => .bool (sendM (L.map Item.msg) ⟨m, es⟩).2) (fun x => x.1.map Item.msg = (sendM (L.map Item.msg) ⟨m, es⟩).1) (fun x => [Ref p x.1 x.2]) := by
  refine Triple.pre (fun _ => Ref.out) fun ⟨⟨A, c⟩, hG⟩ => ?_
  by_cases hk : L.length < 512
  · have e : sendM (L.map Item.msg) ⟨m, es⟩ = (L.map Item.msg ++ [⟨m, es⟩], true) := by unfold sendM; rw [List.length_map, if_pos hk]
    rw [e]
    exact ((rSend_room p A c L hk m B d es hn).frame [Asn.star (G.map Item.own)]).imp fun ⟨A2, c2, a, q⟩ _ => ⟨(L ++ [⟨m, es, a, q⟩], G ++ [⟨m, es, a, q⟩]), rfl, by simp [Item.msg], fun _ z => by
      have hl : (L ++ [(⟨m, es, a, q⟩ : Item)]).length = L.length + 1 := by simp
      refine Ref.in (A := A2) (c := c2) (fun y hy => ?_) (by rw [hl]; exact grow (y := ⟨m, es, a, q⟩) z)
      rcases List.mem_append.1 hy with hy | hy
      · exact List.mem_append_left _ (hG y hy)
      · exact List.mem_append_right _ hy⟩
  · have e : sendM (L.map Item.msg) ⟨m, es⟩ = (L.map Item.msg, false) := by unfold sendM; rw [List.length_map, if_neg hk]
    rw [e]
    have T := (rSend_full p A L.length c (by omega) m B es.length d).frame [Row 36 18 A L.length c (L.flatMap encI), Asn.star (G.map Item.own)]
    exact (T.imp (Y := List Item × List Item) (ret' := fun _ => .bool false) (good' := fun x => x.1.map Item.msg = L.map Item.msg) (post' := fun x => [Ref p x.1 x.2]) fun _ _ => ⟨(L, G), rfl, rfl, fun _ z => Ref.in hG z⟩).reads (fun A hA => by cases hA)
theorem sCopy (p : Nat) (L G : List Item) (hL : few L) (hl : L.length ≤ 1000000000) (i : Int) :
    Triple Try.prog 27 [.pointer (some ⟨p, 0, none⟩), .int .i64 i] [Ref p L G] [] (List Item × List Item) (fun _ => .bool (copyM (L.map Item.msg) i).2) (fun x => x.1.map Item.msg = (copyM (L.map Item.msg) i).1) (fun x => [Ref p x.1 x.2]) := by
  refine Triple.pre (fun _ => Ref.out) fun ⟨⟨A, c⟩, hG⟩ => ?_
  have F : ∀ (_ : ¬ inI L i ∨ 512 ≤ L.length), Triple Try.prog 27 [.pointer (some ⟨p, 0, none⟩), .int .i64 i] ([Pt p 29 [.slice A L.length c], Row 36 18 A L.length c (L.flatMap encI)] ++ [Asn.star (G.map Item.own)]) [] (List Item × List Item) (fun _ => .bool false) (fun x => x.1.map Item.msg = L.map Item.msg) (fun x => [Ref p x.1 x.2]) := fun h =>
    ((rCopy_not p A c L hl i h).frame [Asn.star (G.map Item.own)]).imp fun _ _ => ⟨(L, G), rfl, rfl, fun _ z => Ref.in hG z⟩
  rcases inI_cases L i with ⟨j, rfl, hj, h⟩ | ⟨h0, h⟩
  · have hm := (inM_iff L j).2 h
    by_cases hk : L.length < 512
    · have e : copyM (L.map Item.msg) j = (L.map Item.msg ++ [L[j].msg], true) := by
        unfold copyM sendM
        rw [if_pos hm, List.length_map, if_pos hk]
        simp [List.getD_eq_getElem?_getD, hj]
      rw [e]
      exact ((rCopy_room p A c L hk j hj (hL _ (List.getElem_mem hj))).lend [Asn.star (G.map Item.own)] (fun h q A hA => by
        rw [List.mem_singleton.1 hA]
        exact Own.rd (starH_mem (l := G.map Item.own) (List.mem_map_of_mem (f := Item.own) (hG _ (List.getElem_mem hj))) (star_holds.1 (starH_one.1 q))))).imp fun ⟨A2, c2, a, q⟩ _ => ⟨(L ++ [⟨L[j].s, L[j].es, a, q⟩], G ++ [⟨L[j].s, L[j].es, a, q⟩]), rfl, by simp [Item.msg], fun _ z => by
        have hl : (L ++ [(⟨L[j].s, L[j].es, a, q⟩ : Item)]).length = L.length + 1 := by simp
        refine Ref.in (A := A2) (c := c2) (fun y hy => ?_) (by rw [hl]; exact grow (y := ⟨L[j].s, L[j].es, a, q⟩) z)
        rcases List.mem_append.1 hy with hy | hy
        · exact List.mem_append_left _ (hG y hy)
        · exact List.mem_append_right _ hy⟩
    · have e : copyM (L.map Item.msg) j = (L.map Item.msg, false) := by
        unfold copyM sendM
        rw [if_pos hm, List.length_map, if_neg hk]
      rw [e]
      exact F (.inr (by omega))
  · have e : copyM (L.map Item.msg) i = (L.map Item.msg, false) := by
      unfold copyM
      rw [if_neg (fun e => h ((inM_iff L i).1 e))]
    rw [e]
    exact F (.inl h)
set_option maxRecDepth 100000 in
theorem did (p : Nat) (L G : List Item) (hL : few L) (hl : L.length ≤ 1000000000) (x : ActI) (hk : 0 ≤ x.k ∧ x.k < 256) (hx : x.m.es.length ≤ 1000000000) :
    Triple Try.prog 12 [.pointer (some ⟨p, 0, none⟩), .agg (encA x).toArray] [Ref p L G] [Rd 6 x.m.a x.m.es.length (x.m.es.flatMap encE)] (List Item × List Item × Item)
      (fun (_, _, y) => .tuple #[y.val, .bool (actM (L.map Item.msg) x.k x.m.msg x.i).2.2]) (fun (L2, G2, y) => L2.map Item.msg = (actM (L.map Item.msg) x.k x.m.msg x.i).1 ∧ y.msg = (actM (L.map Item.msg) x.k x.m.msg x.i).2.1 ∧ (y ∈ G2 ∨ y = noI)) (fun (L2, G2, _) => [Ref p L2 G2]) := by
  refine triple_intro Try.tbs_ok Try.func12 rfl [.va (.pointer (some ⟨p, 0, none⟩)), .ag (actSV x)] [.fact (Ref p L G)] ⟨trivial, by simp [SV.good, SV.goodL, actSV, mailSV], trivial⟩ rfl (by simp) ?_
  intro E
  have h9 := tmod9 hk
  refine go Try.tbs_ok 1000 ?_
  refine ev_new fun b0 => ?_
  refine ev_new fun b1 => ?_
  refine ev_if_eq (fun h2 => ?_) (fun h2 => ?_)
  refine go Try.tbs_ok 1000 ?_
  refine ev_callF (sLook (p) (L) (G) (by with_reducible assumption) (x.i)) [0] [] rfl rfl (by decide) rfl (by simp) (fun _ => (by repeat (first | exact trivial | refine ⟨rfl, ?_⟩))) (fun _ h3 => ?_)
  refine go Try.tbs_ok 1000 ?_
  rotate_left
  refine go Try.tbs_ok 1000 ?_
  refine ev_if_eq (fun h4 => ?_) (fun h4 => ?_)
  refine go Try.tbs_ok 1000 ?_
  refine ev_if_yes (beq_iff_eq.2 (by with_reducible assumption)) ?_
  refine go Try.tbs_ok 1000 ?_
  refine ev_callF (sTake (p) (L) (G) (by with_reducible assumption) (x.i)) [0] [] rfl rfl (by decide) rfl (by simp) (fun _ => (by repeat (first | exact trivial | refine ⟨rfl, ?_⟩))) (fun _ h5 => ?_)
  refine go Try.tbs_ok 1000 ?_
  rotate_left
  refine go Try.tbs_ok 1000 ?_
  refine ev_if_eq (fun h6 => ?_) (fun h6 => ?_)
  refine go Try.tbs_ok 1000 ?_
  refine ev_callF (sTake (p) (L) (G) (by with_reducible assumption) (x.i)) [0] [] rfl rfl (by decide) rfl (by simp) (fun _ => (by repeat (first | exact trivial | refine ⟨rfl, ?_⟩))) (fun _ h7 => ?_)
  refine go Try.tbs_ok 1000 ?_
  rotate_left
  refine go Try.tbs_ok 1000 ?_
  refine ev_if_eq (fun h8 => ?_) (fun h8 => ?_)
  refine go Try.tbs_ok 1000 ?_
  refine ev_callF (sCopy (p) (L) (G) (by with_reducible assumption) (by with_reducible assumption) (x.i)) [0] [] rfl rfl (by decide) rfl (by simp) (fun _ => (by repeat (first | exact trivial | refine ⟨rfl, ?_⟩))) (fun ⟨x9, x10⟩ h11 => ?_)
  refine go Try.tbs_ok 1000 ?_
  rotate_left
  refine go Try.tbs_ok 1000 ?_
  refine ev_if_eq (fun h12 => ?_) (fun h12 => ?_)
  refine go Try.tbs_ok 1000 ?_
  refine ev_callF (sDrop (p) (L) (G) (by with_reducible assumption) (x.i)) [0] [] rfl rfl (by decide) rfl (by simp) (fun _ => (by repeat (first | exact trivial | refine ⟨rfl, ?_⟩))) (fun _ h13 => ?_)
  refine go Try.tbs_ok 1000 ?_
  rotate_left
  refine go Try.tbs_ok 1000 ?_
  refine ev_callF (sSend (p) (L) (G) (x.m.s) (x.m.a) (x.m.c) (x.m.es) (by with_reducible assumption)) [0] [.inl 0] rfl rfl (by decide) rfl (by simp) (fun _ => (by repeat (first | exact trivial | refine ⟨rfl, ?_⟩))) (fun ⟨x14, x15⟩ h16 => ?_)
  refine go Try.tbs_ok 1000 ?_
  rotate_left
  · rw [show actM (L.map Item.msg) x.k x.m.msg x.i = (L.map Item.msg, (lookI L x.i).1.msg, (lookI L x.i).2) by unfold actM; rw [if_pos (by omega), ← map_look]]
    exact ev_fin ⟨trivial, _, rfl, (L, G, (lookI L x.i).1), rfl, ⟨rfl, rfl, by assumption⟩, Frm.sel [0] rfl (by decide)⟩
  · rw [show actM (L.map Item.msg) x.k x.m.msg x.i = (goneM (L.map Item.msg) x.i, (lookI L x.i).1.msg, (lookI L x.i).2) by unfold actM; rw [if_neg (by omega), if_pos (by omega), ← map_look]]
    exact ev_fin ⟨trivial, _, rfl, (goneI L x.i, G, (lookI L x.i).1), rfl, ⟨map_gone _ _, rfl, by assumption⟩, Frm.sel [0] rfl (by decide)⟩
  · rw [show actM (L.map Item.msg) x.k x.m.msg x.i = (goneM (L.map Item.msg) x.i, (lookI L x.i).1.msg, (lookI L x.i).2) by unfold actM; rw [if_neg (by omega), if_pos (by omega), ← map_look]]
    exact ev_fin ⟨trivial, _, rfl, (goneI L x.i, G, (lookI L x.i).1), rfl, ⟨map_gone _ _, rfl, by assumption⟩, Frm.sel [0] rfl (by decide)⟩
  · rw [show actM (L.map Item.msg) x.k x.m.msg x.i = ((copyM (L.map Item.msg) x.i).1, noM, (copyM (L.map Item.msg) x.i).2) by unfold actM; rw [if_neg (by omega), if_neg (by omega), if_pos (by omega)]]
    exact ev_fin ⟨trivial, _, rfl, (x9, x10, noI), rfl, ⟨by assumption, rfl, .inr rfl⟩, Frm.sel [0] rfl (by decide)⟩
  · rw [show actM (L.map Item.msg) x.k x.m.msg x.i = (goneM (L.map Item.msg) x.i, noM, (lookI L x.i).2) by unfold actM; rw [if_neg (by omega), if_neg (by omega), if_neg (by omega), if_pos (by omega), ← map_look]]
    exact ev_fin ⟨trivial, _, rfl, (goneI L x.i, G, noI), rfl, ⟨map_gone _ _, rfl, .inr rfl⟩, Frm.sel [0] rfl (by decide)⟩
  · rw [show actM (L.map Item.msg) x.k x.m.msg x.i = ((sendM (L.map Item.msg) x.m.msg).1, noM, (sendM (L.map Item.msg) x.m.msg).2) by unfold actM; rw [if_neg (by omega), if_neg (by omega), if_neg (by omega), if_neg (by omega)]]
    exact ev_fin ⟨trivial, _, rfl, (x14, x15, noI), rfl, ⟨by assumption, rfl, .inr rfl⟩, Frm.sel [0] rfl (by decide)⟩
end Go.Proofs.Yteleepinalcjeaa

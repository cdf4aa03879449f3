/-
  What is proved: what a net's functions do with the message at a place. Conditions: none.
-/
import Derived.Test.YteleepinalcjeaaND
namespace Go.Proofs.Yteleepinalcjeaa
open Go.Sy

def zeroV : Value := .agg zeroL.toArray
/-- what takes a message out of a net -/
def clos (p : Nat) : List Value := [.func (.func 33) #[.pointer (some ⟨p, 0, none⟩)] #[]]
theorem twin_at {L : List Item} (hL : few L) {i : Nat} (hi : i < L.length) :
    Triple Try.prog 31 [.agg (encI L[i]).toArray] [] [Asn.star (L.map Item.own)] (Option Addr) (fun A2 => mailV L[i].s A2 L[i].es.length L[i].es.length) (fun _ => True) (fun A2 => [Item.own ⟨L[i].s, L[i].es, A2, L[i].es.length⟩]) :=
  ((twin' L[i].s L[i].a L[i].es.length L[i].c (L[i].es.flatMap encE) (hL _ (List.getElem_mem hi))).reads (N' := [Asn.star (L.map Item.own)]) (fun A hA => ⟨_, List.mem_singleton.2 rfl, fun h p => by
    rw [List.mem_singleton.1 hA]
    exact Own.rd (starH_mem (List.mem_map_of_mem (f := Item.own) (List.getElem_mem hi)) p)⟩)).imp (fun x _ => ⟨x, rfl, trivial, fun _ p => p⟩)

set_option maxRecDepth 100000 in
theorem at_out (p : Nat) (A : Option Addr) (n c : Nat) (i : Int) (hi : i < 0 ∨ (n : Int) ≤ i) (D : Option Addr) (k kc : Nat) :
    Triple Try.prog 32 [.pointer (some ⟨p, 0, none⟩), .int .i64 i, .slice D k kc] [Pt p 52 (net A n c)] [] Unit (fun _ => .tuple #[zeroV, .bool false]) (fun _ => True) (fun _ => [Pt p 52 (net A n c)]) := by
  refine triple_intro Try.tbs_ok Try.func32 rfl [.pt 0 p 0, .va (.int .i64 i), .va (.slice D k kc)] [.box p 52 [.bl true, .va (.slice A n c)]] ⟨rfl, trivial, trivial, trivial⟩ rfl (by simp [SV.good, SV.goodL]) ?_
  intro E
  refine go Try.tbs_ok 1000 ?_
  refine ev_new fun b1 => ?_
  refine ev_if_lt (fun h => ?_) (fun h => ?_)
  · refine go Try.tbs_ok 1000 ?_
    exact ev_fin ⟨trivial, _, rfl, (), rfl, trivial, Frm.sel [0] rfl (by decide)⟩
  · refine go Try.tbs_ok 1000 ?_
    refine ev_call (len p A n c) [0] [] (fun _ => [.box p 52 [.bl true, .va (.slice A n c)]]) rfl rfl (by decide) rfl (by simp) (fun x => rfl) (fun x => newsOk_box (by simp [SV.goodL, SV.good]) (newsOk_nil _)) (fun x => by repeat (first | exact trivial | refine ⟨rfl, ?_⟩)) (fun x hx => ?_)
    refine go Try.tbs_ok 1000 ?_
    refine ev_if_yes (by simp; omega) ?_
    refine go Try.tbs_ok 1000 ?_
    exact ev_fin ⟨trivial, _, rfl, (), rfl, trivial, Frm.sel [0] rfl (by decide)⟩
set_option maxRecDepth 100000 in
theorem at_look (p : Nat) (A : Option Addr) (c : Nat) (L : List Item) (hL : few L) (i : Nat) (hi : i < L.length) :
    Triple Try.prog 32 [.pointer (some ⟨p, 0, none⟩), .int .i64 i, .slice none 0 0] [Pt p 52 (net A L.length c), Row 36 18 A L.length c (L.flatMap encI), Asn.star (L.map Item.own)] [] (Option Addr)
      (fun A2 => .tuple #[mailV L[i].s A2 L[i].es.length L[i].es.length, .bool true]) (fun _ => True)
      (fun A2 => [Pt p 52 (net A L.length c), Row 36 18 A L.length c (L.flatMap encI), Asn.star (L.map Item.own), Item.own ⟨L[i].s, L[i].es, A2, L[i].es.length⟩]) := by
  refine triple_intro Try.tbs_ok Try.func32 rfl [.pt 0 p 0, .va (.int .i64 i), .va (.slice none 0 0)] [.box p 52 [.bl true, .va (.slice A L.length c)], .fact (Row 36 18 A L.length c (L.flatMap encI)), .fact (Asn.star (L.map Item.own))] ⟨rfl, trivial, trivial, trivial⟩ rfl (by simp [SV.good, SV.goodL]) ?_
  intro E
  refine go Try.tbs_ok 1000 ?_
  refine ev_new fun b1 => ?_
  refine ev_if_lt (fun h => (by omega)) (fun h => ?_)
  refine go Try.tbs_ok 1000 ?_
  refine ev_call (len p A L.length c) [0] [] (fun _ => [.box p 52 [.bl true, .va (.slice A L.length c)]]) rfl rfl (by decide) rfl (by simp) (fun x => rfl) (fun x => newsOk_box (by simp [SV.goodL, SV.good]) (newsOk_nil _)) (fun x => by repeat (first | exact trivial | refine ⟨rfl, ?_⟩)) (fun x hx => ?_)
  refine go Try.tbs_ok 1000 ?_
  refine ev_if_no (by simp; omega) ?_
  refine go Try.tbs_ok 1000 ?_
  refine ev_stop (go_index Try.tbs_ok A L.length c .i64 i 36 18 (.inr 1) (Row 36 18 A L.length c (L.flatMap encI)) (L.flatMap encI) rfl rfl rfl rfl rfl hi rfl (fun _ p => Row.rd p) (fun g o hA => ?_))
  subst hA
  refine go_load Try.tbs_ok g _ o (i * 18) 18 L.length _ (.inr 1) (Row 36 18 (some ⟨g, o, none⟩) L.length c (L.flatMap encI)) _ (encI L[i]) rfl rfl rfl rfl (fun _ p => Row.rd p) rfl (flat_get encI_len hi rfl) rfl (by omega) _ rfl ?_
  refine go Try.tbs_ok 1000 ?_
  refine ev_call (twin_at hL hi) [] [.inr 2] (fun A2 => [.fact (Item.own ⟨L[i].s, L[i].es, A2, L[i].es.length⟩)]) rfl rfl (by decide) rfl (by simp) (fun x => rfl) (fun x => newsOk_fact (newsOk_nil _)) (fun x => by repeat (first | exact trivial | refine ⟨rfl, ?_⟩)) (fun A2 _ => ?_)
  refine go Try.tbs_ok 1000 ?_
  refine ev_new fun b2 => ?_
  refine ev_stop (go_rounds 0 ?_)
  refine go Try.tbs_ok 1000 ?_
  refine ev_if_no rfl ?_
  refine go Try.tbs_ok 1000 ?_
  refine ev_fin (go Try.tbs_ok 1000 ?_)
  exact ev_fin ⟨trivial, _, rfl, A2, rfl, trivial, Frm.sel [0, 1, 2, 4] rfl (by decide)⟩
set_option maxRecDepth 100000 in
theorem at_gone (p d : Nat) (A : Option Addr) (c : Nat) (L : List Item) (hL : few L) (hn : L.length ≤ 1000000000) (i : Nat) (hi : i < L.length) :
    Triple Try.prog 32 [.pointer (some ⟨p, 0, none⟩), .int .i64 i, .slice (some ⟨d, 0, none⟩) 1 1] [Pt p 52 (net A L.length c), Row 36 18 A L.length c (L.flatMap encI), Asn.star (L.map Item.own)] [Pt d 63 (clos p)] (Option Addr)
      (fun A2 => .tuple #[mailV L[i].s A2 L[i].es.length L[i].es.length, .bool true]) (fun _ => True)
      (fun A2 => [Pt p 52 (net A (L.length - 1) c), Row 36 18 A (L.length - 1) c ((L.flatMap encI).take (i * 18) ++ (L.flatMap encI).drop ((i + 1) * 18)), Asn.star (L.map Item.own), Item.own ⟨L[i].s, L[i].es, A2, L[i].es.length⟩]) := by
  refine triple_intro Try.tbs_ok Try.func32 rfl [.pt 0 p 0, .va (.int .i64 i), .va (.slice (some ⟨d, 0, none⟩) 1 1)] [.box p 52 [.bl true, .va (.slice A L.length c)], .fact (Row 36 18 A L.length c (L.flatMap encI)), .fact (Asn.star (L.map Item.own))] ⟨rfl, trivial, trivial, trivial⟩ rfl (by simp [SV.good, SV.goodL]) ?_
  intro E
  refine go Try.tbs_ok 1000 ?_
  refine ev_new fun b1 => ?_
  refine ev_if_lt (fun h => (by omega)) (fun h => ?_)
  refine go Try.tbs_ok 1000 ?_
  refine ev_call (len p A L.length c) [0] [] (fun _ => [.box p 52 [.bl true, .va (.slice A L.length c)]]) rfl rfl (by decide) rfl (by simp) (fun x => rfl) (fun x => newsOk_box (by simp [SV.goodL, SV.good]) (newsOk_nil _)) (fun x => by repeat (first | exact trivial | refine ⟨rfl, ?_⟩)) (fun x hx => ?_)
  refine go Try.tbs_ok 1000 ?_
  refine ev_if_no (by simp; omega) ?_
  refine go Try.tbs_ok 1000 ?_
  refine ev_stop (go_index Try.tbs_ok A L.length c .i64 i 36 18 (.inr 1) (Row 36 18 A L.length c (L.flatMap encI)) (L.flatMap encI) rfl rfl rfl rfl rfl hi rfl (fun _ p => Row.rd p) (fun g o hA => ?_))
  subst hA
  refine go_load Try.tbs_ok g _ o (i * 18) 18 L.length _ (.inr 1) (Row 36 18 (some ⟨g, o, none⟩) L.length c (L.flatMap encI)) _ (encI L[i]) rfl rfl rfl rfl (fun _ p => Row.rd p) rfl (flat_get encI_len hi rfl) rfl (by omega) _ rfl ?_
  refine go Try.tbs_ok 1000 ?_
  refine ev_call (twin_at hL hi) [] [.inr 2] (fun A2 => [.fact (Item.own ⟨L[i].s, L[i].es, A2, L[i].es.length⟩)]) rfl rfl (by decide) rfl (by simp) (fun x => rfl) (fun x => newsOk_fact (newsOk_nil _)) (fun x => by repeat (first | exact trivial | refine ⟨rfl, ?_⟩)) (fun A2 _ => ?_)
  refine go Try.tbs_ok 1000 ?_
  refine ev_new fun b2 => ?_
  refine ev_stop (go_rounds 1 ?_)
  refine go Try.tbs_ok 1000 ?_
  refine ev_if_yes rfl ?_
  refine go Try.tbs_ok 1000 ?_
  refine ev_stop (go_at Try.tbs_ok d 0 1 1 .i64 0 63 1 rfl rfl rfl rfl rfl (by decide) ?_)
  refine go_load Try.tbs_ok d _ 0 0 1 1 _ (.inl 0) (Pt d 63 (clos p)) (clos p) (clos p) rfl rfl rfl rfl (fun _ p => Pt.rd p rfl) rfl rfl rfl (by decide) _ rfl ?_
  refine go Try.tbs_ok 1000 ?_
  refine ev_call (gone p (some ⟨g, o, none⟩) L.length c (L.flatMap encI) i hi hn) [0, 1] [] (fun _ => [.box p 52 [.bl true, .va (.slice (some ⟨g, o, none⟩) (L.length - 1) c)], .fact (Row 36 18 (some ⟨g, o, none⟩) (L.length - 1) c ((L.flatMap encI).take (i * 18) ++ (L.flatMap encI).drop ((i + 1) * 18)))]) rfl rfl (by decide) rfl (by simp) (fun x => rfl)
    (fun x => newsOk_box (by simp [SV.goodL, SV.good]) (newsOk_fact (newsOk_nil _))) (fun x => by repeat (first | exact trivial | refine ⟨rfl, ?_⟩)) (fun _ _ => ?_)
  refine go Try.tbs_ok 1000 ?_
  refine ev_w64 (by decide) ?_
  refine ev_fin (go Try.tbs_ok 1000 ?_)
  refine ev_if_no rfl ?_
  refine go Try.tbs_ok 1000 ?_
  refine ev_fin (go Try.tbs_ok 1000 ?_)
  exact ev_fin ⟨trivial, _, rfl, A2, rfl, trivial, Frm.sel [0, 1, 2, 4] rfl (by decide)⟩
end Go.Proofs.Yteleepinalcjeaa

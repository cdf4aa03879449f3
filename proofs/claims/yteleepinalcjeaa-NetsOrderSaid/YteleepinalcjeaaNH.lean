/-
  What is proved: what All tells. Conditions: none.
-/
import Derived.Test.YteleepinalcjeaaNG
namespace Go.Proofs.Yteleepinalcjeaa
open Go.Sy

theorem star_snoc {α : Type} (A : α → Asn) (l : List α) (x : α) (h : Hp) (q : Asn.starH [Asn.star (l.map A), A x] h) : Asn.starH [Asn.star ((l ++ [x]).map A)] h := by
  refine starH_one.2 ?_
  show Asn.starH _ _
  rw [List.map_append]
  exact starH_star.1 q
set_option maxRecDepth 100000 in
theorem all (p : Nat) (A : Option Addr) (c : Nat) (L : List Item) (hL : few L) (hn : L.length ≤ 512) :
    Triple Try.prog 17 [.pointer (some ⟨p, 0, none⟩)] [Pt p 52 (net A L.length c), Row 36 18 A L.length c (L.flatMap encI), Asn.star (L.map Item.own)] [] (List Item × Option Addr × Nat)
      (fun x => .slice x.2.1 L.length x.2.2) (fun x => x.1.map Item.msg = L.map Item.msg)
      (fun x => [Pt p 52 (net A L.length c), Row 36 18 A L.length c (L.flatMap encI), Asn.star (L.map Item.own), Row 36 18 x.2.1 L.length x.2.2 (x.1.flatMap encI), Asn.star (x.1.map Item.own)]) := by
  refine triple_intro Try.tbs_ok Try.func17 rfl [.pt 0 p 0] [.box p 52 [.bl true, .va (.slice A L.length c)], .fact (Row 36 18 A L.length c (L.flatMap encI)), .fact (Asn.star (L.map Item.own))] ⟨rfl, trivial⟩ rfl (by simp [SV.good, SV.goodL]) ?_
  intro E
  refine go Try.tbs_ok 1000 ?_
  refine ev_call (mail p A L.length c) [0] [] (fun _ => [.box p 52 [.bl true, .va (.slice A L.length c)]]) rfl rfl (by decide) rfl (by simp) (fun x => rfl) (fun x => newsOk_box (by simp [SV.goodL, SV.good]) (newsOk_nil _)) (fun x => by repeat (first | exact trivial | refine ⟨rfl, ?_⟩)) (fun _ _ => ?_)
  refine go Try.tbs_ok 1000 ?_
  refine ev_stop (go_ghost [] (M := []) (X := Unit) (fun _ => [.fact (Row 36 18 none 0 0 []), .fact (Asn.star [])]) rfl (by decide) (fun h _ => ⟨(), Hp.emp, Hp.emp, Hp.emp_dis _, Hp.emp_le _, Hp.emp_le _, Row.nil _ _ _, Hp.emp, Hp.emp, Hp.emp_dis _, Hp.emp_le _, Hp.emp_le _, trivial, trivial⟩) (fun x => newsOk_fact (newsOk_fact (newsOk_nil _))) (fun x => by repeat (first | exact trivial | refine ⟨rfl, ?_⟩)) (fun _ => ?_))
  refine go_loop (ι := List Item × Option Addr × Nat) [3, 5, 9, 10, 11, 12, 13, 14, 15, 16, 17, 18] (fun x => [(3, .va (.slice x.2.1 x.1.length x.2.2)), (9, .va (.int .i64 x.1.length))])
    (fun x => [.box p 52 [.bl true, .va (.slice A L.length c)], .fact (Row 36 18 A L.length c (L.flatMap encI)), .fact (Asn.star (L.map Item.own)), .fact (Row 36 18 x.2.1 x.1.length x.2.2 (x.1.flatMap encI)), .fact (Asn.star (x.1.map Item.own))])
    (fun x => x.1.length ≤ L.length ∧ x.1.map Item.msg = (L.take x.1.length).map Item.msg) (fun x => L.length - x.1.length) ([], none, 0) ⟨Nat.zero_le _, rfl⟩ ⟨⟨by kernel_rfl, by kernel_rfl⟩, ⟨_, rfl⟩, ⟨_, rfl⟩, by kernel_rfl, by kernel_rfl⟩ ?_
  rintro ⟨K, B, d⟩ ⟨hK, hm⟩
  refine go Try.tbs_ok 1000 ?_
  refine ev_if_lt (fun hlt => ?_) (fun hge => ?_)
  · have hi : K.length < L.length := Int.ofNat_lt.1 hlt
    refine go Try.tbs_ok 1000 ?_
    refine ev_stop (go_index Try.tbs_ok A L.length c .i64 K.length 36 18 (.inr 1) (Row 36 18 A L.length c (L.flatMap encI)) (L.flatMap encI) rfl rfl rfl rfl rfl hi rfl (fun _ p => Row.rd p) (fun g o hA => ?_))
    subst hA
    refine go_load Try.tbs_ok g _ o (K.length * 18) 18 L.length _ (.inr 1) (Row 36 18 (some ⟨g, o, none⟩) L.length c (L.flatMap encI)) _ (encI L[K.length]) rfl rfl rfl rfl (fun _ p => Row.rd p) rfl (flat_get encI_len hi rfl) rfl (by omega) _ rfl ?_
    refine go Try.tbs_ok 1000 ?_
    refine ev_new fun b1 => ?_
    refine ev_call (twin_at hL hi) [] [.inr 2] (fun A2 => [.fact (told L[K.length] A2).own]) rfl rfl (by decide) rfl (by simp) (fun x => rfl) (fun x => newsOk_fact (newsOk_nil _)) (fun x => by repeat (first | exact trivial | refine ⟨rfl, ?_⟩)) (fun A2 _ => ?_)
    refine go Try.tbs_ok 1000 ?_
    refine ev_new fun b2 => ?_
    refine ev_stop (go_append Try.tbs_ok [3] [] [Row 36 18 B K.length d (K.flatMap encI)] B (some ⟨b2, 0, none⟩) K.length d 1 1 (K.flatMap encI) (encI (told L[K.length] A2)) 36 18 _ (.inr 7) (Pt b2 36 (encI (told L[K.length] A2))) rfl rfl (by simp [ev]) rfl (by simp [ev]) rfl rfl (by decide) rfl (by decide)
      (fun h p => starH_one.1 p) rfl (fun h p => Pt.rd p rfl) (K ++ [told L[K.length] A2]).length ((K ++ [told L[K.length] A2]).flatMap encI) (by simp) (by simp) (by unfold maxLen; omega) (small (by omega) (by decide)) (fun _ _ => by repeat (first | exact trivial | refine ⟨rfl, ?_⟩)) (fun B2 d2 _ hc => ?_))
    refine go_ghost [4, 6] (M := [Asn.star (K.map Item.own), (told L[K.length] A2).own]) (X := Unit) (fun _ => [.fact (Asn.star ((K ++ [told L[K.length] A2]).map Item.own))]) rfl (by decide) (fun h q => ⟨(), star_snoc Item.own K _ h q⟩) (fun x => newsOk_fact (newsOk_nil _)) (fun x => by repeat (first | exact trivial | refine ⟨rfl, ?_⟩)) (fun _ => ?_)
    refine go Try.tbs_ok 1000 ?_
    refine ev_wrap (z := ((K ++ [told L[K.length] A2]).length : Int)) (by rw [wrap64 (by constructor <;> simp <;> omega)]; simp) ?_
    refine ev_fin (round_next (K ++ [told L[K.length] A2], B2, d2) ⟨?_, ?_⟩ ?_ ⟨⟨by kernel_rfl, by kernel_rfl⟩, ⟨_, rfl⟩, ⟨_, rfl⟩, by kernel_rfl, by kernel_rfl⟩)
    · simp only [List.length_append, List.length_singleton]; omega
    · have hm : K.map Item.msg = (L.take K.length).map Item.msg := hm
      rw [List.map_append, hm, List.length_append, List.length_singleton, List.take_add_one, List.getElem?_eq_getElem hi, List.map_append]
      rfl
    · simp only [List.length_append, List.length_singleton]; omega
  · have hK : K.length ≤ L.length := hK
    have hge : ¬ (K.length : Int) < L.length := hge
    have hKL : K.length = L.length := by omega
    have hm : K.map Item.msg = (L.take K.length).map Item.msg := hm
    refine go Try.tbs_ok 1000 ?_
    refine ev_fin (go Try.tbs_ok 1000 ?_)
    rw [← hKL]
    exact ev_fin ⟨trivial, _, rfl, (K, B, d), rfl, by show K.map Item.msg = _; rw [hm, hKL, List.take_length], Frm.sel [0, 1, 2, 3, 4] rfl (by decide)⟩
theorem all' (p : Nat) (L : List Item) (hL : few L) (hn : L.length ≤ 512) :
    Triple Try.prog 17 [.pointer (some ⟨p, 0, none⟩)] [Net p L] [] (List Item × Option Addr × Nat) (fun x => .slice x.2.1 x.1.length x.2.2) (fun x => x.1.map Item.msg = L.map Item.msg)
      (fun x => [Net p L, Row 36 18 x.2.1 x.1.length x.2.2 (x.1.flatMap encI), Asn.star (x.1.map Item.own)]) :=
  Triple.pre (fun _ => Net.out) fun y => (all p y.1 y.2 L hL hn).imp fun x hx => by
    have h1 : x.1.length = L.length := by have := congrArg List.length hx; simpa using this
    refine ⟨x, by rw [h1], hx, fun h q => ?_⟩
    rw [h1]
    exact Net.in rfl rfl q
end Go.Proofs.Yteleepinalcjeaa

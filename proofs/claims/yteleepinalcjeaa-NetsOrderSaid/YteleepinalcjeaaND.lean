/-
  What is proved: what a net's own functions do. Conditions: none.
-/
import Derived.Test.YteleepinalcjeaaNC
namespace Go.Proofs.Yteleepinalcjeaa
open Go.Sy

/-- a net's cells -/
def net (A : Option Addr) (n c : Nat) : List Value := [.bool true, .slice A n c]
theorem new : Triple Try.prog 10 [] [] [] Nat (fun p => .pointer (some ⟨p, 0, none⟩)) (fun _ => True) (fun p => [Pt p 52 (net none 0 0)]) := by
  refine triple_intro Try.tbs_ok Try.func10 rfl [] [] trivial rfl (by simp) ?_
  intro E
  refine go Try.tbs_ok 1000 ?_
  refine ev_new fun b => ?_
  exact ev_fin ⟨trivial, _, rfl, b, rfl, trivial, Frm.sel [0] rfl (by decide)⟩
theorem mail (p : Nat) (A : Option Addr) (n c : Nat) : Triple Try.prog 30 [.pointer (some ⟨p, 0, none⟩)] [Pt p 52 (net A n c)] [] Unit (fun _ => .slice A n c) (fun _ => True) (fun _ => [Pt p 52 (net A n c)]) := by
  refine triple_intro Try.tbs_ok Try.func30 rfl [.pt 0 p 0] [.box p 52 [.bl true, .va (.slice A n c)]] ⟨rfl, trivial⟩ rfl (by simp [SV.good, SV.goodL]) ?_
  intro E
  refine go Try.tbs_ok 1000 ?_
  exact ev_fin ⟨trivial, _, rfl, (), rfl, trivial, Frm.sel [0] rfl (by decide)⟩
theorem len (p : Nat) (A : Option Addr) (n c : Nat) : Triple Try.prog 15 [.pointer (some ⟨p, 0, none⟩)] [Pt p 52 (net A n c)] [] Unit (fun _ => .int .i64 n) (fun _ => True) (fun _ => [Pt p 52 (net A n c)]) := by
  refine triple_intro Try.tbs_ok Try.func15 rfl [.pt 0 p 0] [.box p 52 [.bl true, .va (.slice A n c)]] ⟨rfl, trivial⟩ rfl (by simp [SV.good, SV.goodL]) ?_
  intro E
  refine go Try.tbs_ok 1000 ?_
  refine ev_call (mail p A n c) [0] [] (fun _ => [.box p 52 [.bl true, .va (.slice A n c)]]) rfl rfl (by decide) rfl (by simp) (fun x => rfl) (fun x => newsOk_box (by simp [SV.goodL, SV.good]) (newsOk_nil _)) (fun x => ⟨rfl, trivial⟩) (fun x hx => ?_)
  refine go Try.tbs_ok 1000 ?_
  exact ev_fin ⟨trivial, _, rfl, (), rfl, trivial, Frm.sel [0] rfl (by decide)⟩
/-- the message that is none: its cells -/
def zeroM : MailS := ⟨0, 0, 0, 0, 0, 0, 0, 0, 0, 0, 0, 0, 0, 0, 0, 0, 0⟩
def zeroL : List Value := mailL zeroM none 0 0
theorem over2 (a b d r z : List Value) (h : b.length = z.length) : over (over (a ++ b ++ d ++ r) a.length d) (a.length + d.length) z = (a ++ d) ++ (z ++ r) := by
  have h1 : over (a ++ b ++ d ++ r) a.length d = (a ++ d) ++ ((b ++ d).drop d.length ++ r) := by
    unfold over
    rw [show a ++ b ++ d ++ r = a ++ ((b ++ d) ++ r) by simp, List.take_left, ← List.drop_drop, List.drop_left, List.drop_append_of_le_length (by simp)]
  rw [h1]
  unfold over
  rw [List.take_append_of_le_length (by simp), List.take_of_length_le (by simp), show a.length + d.length = (a ++ d).length by simp, ← List.drop_drop, List.drop_left,
    List.drop_append_of_le_length (by simp; omega), List.drop_of_length_le (by simp; omega)]
  simp
set_option maxRecDepth 100000 in
set_option maxHeartbeats 1000000 in
theorem gone (p : Nat) (A : Option Addr) (n c : Nat) (cs : List Value) (i : Nat) (hi : i < n) (hn : n ≤ 1000000000) :
    Triple Try.prog 33 [.pointer (some ⟨p, 0, none⟩), .int .i64 i] [Pt p 52 (net A n c), Row 36 18 A n c cs] [] Unit (fun _ => .tuple #[]) (fun _ => True)
      (fun _ => [Pt p 52 (net A (n - 1) c), Row 36 18 A (n - 1) c (cs.take (i * 18) ++ cs.drop ((i + 1) * 18))]) := by
  refine Triple.mpure (p := (cs.length = n * 18 ∧ ∀ c ∈ cs, c.oneCell' = true) ∧ n ≤ c) (fun h p => ?_) (fun ⟨⟨hl, h1⟩, hnc⟩ => ?_)
  · have := starH_mem (List.mem_cons_of_mem _ List.mem_cons_self) p
    refine ⟨⟨this.1, this.2.1⟩, ?_⟩
    rcases this.2.2 with ⟨_, h1, h2⟩ | ⟨_, _, _, _, h1, _⟩
    · omega
    · exact h1
  refine triple_intro Try.tbs_ok Try.func33 rfl [.pt 0 p 0, .va (.int .i64 i)] [.box p 52 [.bl true, .va (.slice A n c)], .fact (Row 36 18 A n c cs)] ⟨rfl, trivial, trivial⟩ rfl (by simp [SV.good, SV.goodL]) ?_
  intro E
  refine go_ghost [1] (M := [Row 36 18 A n c cs]) (X := {x : Nat × List Value // A = some ⟨x.1, 0, none⟩ ∧ n ≤ c ∧ c ≤ maxLen ∧ cs.length + x.2.length = c * 18}) (fun x => [.fact (Blk x.1.1 36 (cs ++ x.1.2))]) rfl (by decide)
    (fun h p => by
      obtain ⟨x, h1, h2, h3, h4, h5⟩ := Row.open (starH_one.1 p) (by omega)
      exact ⟨⟨x, h1, h2, h3, h4⟩, starH_one.2 h5⟩) (fun x => newsOk_fact (newsOk_nil _)) (fun x => ⟨rfl, trivial⟩) ?_
  rintro ⟨⟨g, rest⟩, rfl, _, hcm, hcr⟩
  refine go Try.tbs_ok 1000 ?_
  refine ev_stop (go_draw Try.tbs_ok false [0] [(0,true),(1,true),(2,true),(3,true),(4,true),(5,true),(6,true),(7,true),(8,true),(9,true),(10,true),(11,true),(12,true),(13,false)] rfl ?_)
  refine go Try.tbs_ok 1000 ?_
  refine ev_need ⟨⟨⟨rfl, trivial⟩, rfl⟩, by kernel_rfl⟩ ?_
  refine ev_stop (tk_slice Try.tbs_ok (some ⟨g, 0, none⟩) (some ⟨g, i * 18, none⟩) n c i n c 36 18 ⟨⟨⟨rfl, trivial⟩, rfl⟩, by kernel_rfl⟩ rfl rfl rfl (by simp [ev]) rfl rfl ⟨_, rfl⟩ rfl rfl (by simp) (by omega) (by omega) (Nat.le_refl _) (by rw [if_neg (by omega)]; simp [addr_add]) ?_)
  refine go Try.tbs_ok 1000 ?_
  refine ev_need ⟨⟨⟨rfl, trivial⟩, rfl⟩, by kernel_rfl⟩ ?_
  refine ev_w64 (by constructor <;> omega) ?_
  refine ev_stop (tk_slice Try.tbs_ok (some ⟨g, 0, none⟩) (if c = i + 1 then some ⟨g, 0, none⟩ else some ⟨g, (i + 1) * 18, none⟩) n c (i + 1) n c 36 18 ⟨⟨⟨rfl, trivial⟩, rfl⟩, by kernel_rfl⟩ rfl rfl rfl (by simp [ev]) rfl rfl ⟨_, rfl⟩ rfl rfl (by simp) (by omega) (by omega) (Nat.le_refl _) (by split <;> simp [addr_add]) ?_)
  refine go Try.tbs_ok 1000 ?_
  refine ev_need ⟨⟨⟨rfl, trivial⟩, rfl⟩, by kernel_rfl⟩ ?_
  have hc1 : (cs.drop ((i + 1) * 18)).length = (n - (i + 1)) * 18 := by rw [List.length_drop, hl]; omega
  refine ev_stop (go_copy_in Try.tbs_ok 1 g 36 (i * 18) (n - i) (c - i) _ (n - (i + 1)) (c - (i + 1)) 36 18 (cs ++ rest) (cs.drop ((i + 1) * 18)) rfl rfl rfl rfl rfl rfl (by rw [hc1]; show _ = min _ _ * 18; rw [Nat.min_eq_left (by omega)])
    (by
      split
      · have h0 : cs.drop ((i + 1) * 18) = [] := List.eq_nil_of_length_eq_zero (by rw [hc1, show n - (i + 1) = 0 by omega])
        exact .inr ⟨0, rfl, by rw [h0]; rfl⟩
      · right
        refine ⟨_, rfl, ?_⟩
        rw [List.drop_append_of_le_length (by omega), List.take_left]) (by simp [hc1, hl]; omega) (fun v hv => h1 v (List.mem_of_mem_drop hv)) ⟨rfl, trivial⟩ ?_)
  refine go Try.tbs_ok 1000 ?_
  refine ev_need (by kernel_rfl) ?_
  refine ev_wrap (z := ((n - 1 : Nat) : Int)) (by rw [wrap64 (by constructor <;> omega)]; omega) ?_
  refine ev_stop (go_at Try.tbs_ok g 0 n c .i64 (n - 1) 36 18 rfl rfl rfl rfl rfl (by omega) ?_)
  refine go Try.tbs_ok 1000 ?_
  refine ev_stop (go_store Try.tbs_ok 1 g 36 (0 + (n - 1) * 18) (over (cs ++ rest) (i * 18) (List.drop ((i + 1) * 18) cs)) zeroL _ rfl rfl rfl rfl rfl rfl (by decide) rfl (by rw [over_len (by simp [hc1, hl]; omega)]; simp [zeroL, mailL, hl]; omega) ⟨rfl, trivial⟩ ?_)
  refine go Try.tbs_ok 1000 ?_
  refine ev_stop (go_slice Try.tbs_ok (some ⟨g, 0, none⟩) (some ⟨g, 0, none⟩) n c 0 (n - 1) c 36 18 rfl rfl (by simp [ev]) rfl rfl rfl ⟨_, rfl⟩ rfl (by simp) (Nat.zero_le _) (by omega) (Nat.le_refl _) (slice_zero _ _ _) ?_)
  refine go Try.tbs_ok 1000 ?_
  refine ev_fin ⟨trivial, _, rfl, (), rfl, trivial, Frm.imp (M := [Pt p 52 (net (some ⟨g, 0, none⟩) (n - 1) c), Blk g 36 (over (over (cs ++ rest) (i * 18) (cs.drop ((i + 1) * 18))) (0 + (n - 1) * 18) zeroL)]) [0, 1] rfl (by decide) ?_⟩
  rintro h ⟨k1, k2, d, e1, e2, q1, q2⟩
  have ht : (cs.take (i * 18)).length = i * 18 := by rw [List.length_take, hl]; omega
  have e3 : over (over (cs ++ rest) (i * 18) (cs.drop ((i + 1) * 18))) (0 + (n - 1) * 18) zeroL = (cs.take (i * 18) ++ cs.drop ((i + 1) * 18)) ++ (zeroL ++ rest) := by
    have := over2 (cs.take (i * 18)) ((cs.drop (i * 18)).take 18) (cs.drop ((i + 1) * 18)) rest zeroL (by simp [hl, zeroL, mailL]; omega)
    rw [ht, hc1, show i * 18 + (n - (i + 1)) * 18 = 0 + (n - 1) * 18 by omega] at this
    rw [← this, show (i + 1) * 18 = i * 18 + 18 by omega, ← List.drop_drop, List.append_assoc (cs.take (i * 18)), List.take_append_drop, List.take_append_drop]
  have q3 := starH_one.1 q2
  rw [e3] at q3
  refine ⟨k1, k2, d, e1, e2, q1, starH_one.2 (Row.close q3 ?_ (fun v hv => ?_) (by omega) hcm ?_)⟩
  · rw [List.length_append, ht, hc1]; omega
  · rcases List.mem_append.1 hv with hv | hv
    · exact h1 v (List.mem_of_mem_take hv)
    · exact h1 v (List.mem_of_mem_drop hv)
  · have : zeroL.length = 18 := rfl
    simp only [List.length_append, ht, hc1, this]
    simp only [hl] at hcr
    omega
end Go.Proofs.Yteleepinalcjeaa

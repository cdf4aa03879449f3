/-
  What is proved: archipelagolaw30.DeskReads answers true, whatever it is given. Conditions: none.
-/
import Derived.Test.YtaiialpdlobioaaGreatDoorYRdX
namespace Go.Proofs.YtaiialpdlobioaaGreatDoor
open Go.Sy Go.RowKit

theorem small_i64 {z : Int} (h1 : -1000000000 < z) (h2 : z < 1000000000) : i64 z := ⟨by omega, by omega⟩
/-- what is read are ints -/
theorem read_ok {x : ByteArray} {s : Stp} (h : readB x = some s) : StpOk s ∧ s.keep.length ≤ x.size := by
  obtain ⟨W, w, ws, hW⟩ := wds_of x
  have hlen := hW.len
  have hnum := hW.num
  rw [readB, hW.l, readW, show mkB w.data.toList = w from rfl] at h
  split at h
  · cases h
  · obtain ⟨⟨k, M⟩, h1, rfl⟩ := Option.map_eq_some_iff.1 h
    obtain ⟨M', h3, h4⟩ := Option.map_eq_some_iff.1 h1
    obtain ⟨rfl, rfl⟩ := Prod.mk.inj h4
    obtain ⟨hM, hz⟩ := nums_spec h3
    have hml : M'.length = ws.length := by rw [hM, List.length_map]
    have hg : ∀ i, i64 (M'.getD i 0) := fun i => by
      rw [List.getD_eq_getElem?_getD]
      cases hi : M'[i]? with
      | none => exact ⟨by decide, by decide⟩
      | some z =>
        have := hz z (List.mem_of_getElem? hi)
        exact small_i64 this.1 this.2
    have h0 : i64 0 := ⟨by decide, by decide⟩
    have hk : i64 (kindB w) := by
      have := kind_le w
      exact ⟨by omega, by omega⟩
    have hd : ∀ z ∈ M'.drop 1, i64 z := fun z h => by
      have := hz z (List.mem_of_mem_drop h)
      exact small_i64 this.1 this.2
    have hn : ∀ z ∈ ([] : List Int), i64 z := fun z h => by cases h
    dsimp only
    unfold layZ
    repeat' split
    · exact ⟨⟨⟨hk, h0, h0, hg 0, h0, h0, h0, h0, h0⟩, hn⟩, Nat.zero_le _⟩
    · exact ⟨⟨⟨hk, hg 0, h0, h0, hg 1, hg 2, hg 3, hg 4, hg 5⟩, hn⟩, Nat.zero_le _⟩
    · exact ⟨⟨⟨hk, hg 0, hg 1, h0, h0, h0, h0, h0, h0⟩, hn⟩, Nat.zero_le _⟩
    · exact ⟨⟨⟨hk, hg 0, hg 1, hg 2, h0, h0, h0, h0, h0⟩, hn⟩, Nat.zero_le _⟩
    · exact ⟨⟨⟨hk, hg 0, h0, h0, hg 2, hg 1, h0, h0, h0⟩, hn⟩, Nat.zero_le _⟩
    · exact ⟨⟨⟨hk, hg 0, h0, h0, h0, h0, h0, h0, h0⟩, hd⟩, by rw [List.length_drop]; omega⟩
    · exact ⟨⟨⟨hk, hg 0, h0, h0, h0, h0, h0, h0, h0⟩, hn⟩, Nat.zero_le _⟩
theorem read_none : readB ⟨#[]⟩ = none := by decide
theorem lineB_size {s : Stp} (h : StpOk s) (hk : s.keep.length ≤ 500) : (lineB s).size ≤ 100000 := by
  have h1 := take_len s
  have h2 := lineTo_size h (takeZ s).length
  rw [lineTo_all s _ (Nat.le_refl _)] at h2
  omega
set_option maxHeartbeats 16000000 in
set_option maxRecDepth 100000 in
theorem deskReads (x : ByteArray) (s : Stp) (hs : StpOk s) (A : Option Addr) (c : Nat) : Triple Tryz.prog 6 [.string x, .agg (stpC s A c).toArray] [] [EnvA, Rd 1 A s.keep.length (s.keep.flatMap encN)] Unit (fun _ => .bool true) (fun _ => True) (fun _ => []) := by
  have TL := livesT
  refine triple_intro Tryz.tbs_ok Tryz.func6 rfl [.va (.string x), .ag [.va (.int .i64 s.k), .va (.int .i64 s.site), .va (.int .i64 s.stream), .va (.int .i64 s.index), .va (.int .i64 s.oid), .va (.int .i64 s.ostream), .va (.int .i64 s.oexp), .va (.int .i64 s.okind), .va (.int .i64 s.oarg), .va (.slice A s.keep.length c)]] [] ⟨trivial, by repeat (first | exact trivial | refine ⟨trivial, ?_⟩), trivial⟩ rfl (by simp) ?_
  intro E
  by_cases h500 : 500 < x.size
  · refine go Tryz.tbs_ok 1000 ?_
    refine ev_new fun b0 => ?_
    refine ev_if_yes (decide_eq_true (show (↑x.size : Int) > 500 from (by omega))) ?_
    refine go Tryz.tbs_ok 1000 ?_
    refine ev_callF (TL ) [] [.inl 0] rfl rfl (by decide) rfl (by simp) (fun _ => (by repeat (first | exact trivial | refine ⟨rfl, ?_⟩))) (fun _ h1 => ?_)
    refine go Tryz.tbs_ok 1000 ?_
    refine ev_fin ⟨trivial, _, rfl, (()), rfl, (by trivial), Frm.nil _⟩
  by_cases h20 : 20 < s.keep.length
  · refine go Tryz.tbs_ok 1000 ?_
    refine ev_new fun b0 => ?_
    refine ev_if_no (decide_eq_false (show ¬(↑x.size : Int) > 500 from (by omega))) ?_
    refine go Tryz.tbs_ok 1000 ?_
    refine ev_if_yes (decide_eq_true (show (↑s.keep.length : Int) > 20 from (by omega))) ?_
    refine go Tryz.tbs_ok 1000 ?_
    refine ev_callF (TL ) [] [.inl 0] rfl rfl (by decide) rfl (by simp) (fun _ => (by repeat (first | exact trivial | refine ⟨rfl, ?_⟩))) (fun _ h1 => ?_)
    refine go Tryz.tbs_ok 1000 ?_
    refine ev_fin ⟨trivial, _, rfl, (()), rfl, (by trivial), Frm.nil _⟩
  have hx9 : x.size ≤ 100000 := by omega
  have hls := lineB_size hs (by omega)
  have hss := fun B C p q => sameStep s B C p q s.keep.length rfl (by omega)
  have h00 := rReadN ⟨#[]⟩ (by decide) read_none
  refine go_fact (Rd 1 none 0 (([] : List Int).flatMap encN)) (fun h => Row.rd (Row.nilE 3 1 h)) ?_
  cases hr : readB x with
  | none =>
    have T1 := readN x hx9 hr
    have T2 := rReadN x (by omega) hr
    have T3 := sameStep stp0 none none 0 0 0 rfl (by decide)
    by_cases hw : readB (lineB s) = some s
    · have T4 := writeY s hs A c s.keep.length rfl (by omega) hw
      have T5 := rReadY (lineB s) (by omega) s hw
      refine go Tryz.tbs_ok 1000 ?_
      refine ev_new fun b0 => ?_
      refine ev_if_no (decide_eq_false (show ¬(↑x.size : Int) > 500 from (by omega))) ?_
      refine go Tryz.tbs_ok 1000 ?_
      refine ev_if_no (decide_eq_false (show ¬(↑s.keep.length : Int) > 20 from (by omega))) ?_
      refine go Tryz.tbs_ok 1000 ?_
      refine ev_callF (T1 ) [] [.inl 0] rfl rfl (by decide) rfl (by simp) (fun _ => (by repeat (first | exact trivial | refine ⟨rfl, ?_⟩))) (fun _ h1 => ?_)
      refine go Tryz.tbs_ok 1000 ?_
      refine ev_new fun b2 => ?_
      refine ev_callF (T2 ) [] [] rfl rfl (by decide) rfl (by simp) (fun _ => (by repeat (first | exact trivial | refine ⟨rfl, ?_⟩))) (fun _ h3 => ?_)
      refine go Tryz.tbs_ok 1000 ?_
      refine ev_new fun b4 => ?_
      refine ev_if_no rfl ?_
      refine go Tryz.tbs_ok 1000 ?_
      refine ev_callF (T3 ) [] [.inr 0, .inr 0] rfl rfl (by decide) rfl (by simp) (fun _ => (by repeat (first | exact trivial | refine ⟨rfl, ?_⟩))) (fun _ h5 => ?_)
      refine go Tryz.tbs_ok 1000 ?_
      refine ev_if_no rfl ?_
      refine go Tryz.tbs_ok 1000 ?_
      refine ev_if_no rfl ?_
      refine go Tryz.tbs_ok 1000 ?_
      refine ev_callF (T4 ) [] [.inl 0, .inl 1] rfl rfl (by decide) rfl (by simp) (fun _ => (by repeat (first | exact trivial | refine ⟨rfl, ?_⟩))) (fun _ h6 => ?_)
      refine go Tryz.tbs_ok 1000 ?_
      refine ev_callF (T5 ) [] [] rfl rfl (by decide) rfl (by simp) (fun _ => (by repeat (first | exact trivial | refine ⟨rfl, ?_⟩))) (fun ⟨x7, x8⟩ h9 => ?_)
      refine go Tryz.tbs_ok 1000 ?_
      refine ev_new fun b10 => ?_
      refine ev_if_no rfl ?_
      refine go Tryz.tbs_ok 1000 ?_
      refine ev_if_yes rfl ?_
      refine go Tryz.tbs_ok 1000 ?_
      refine ev_if_yes rfl ?_
      refine go Tryz.tbs_ok 1000 ?_
      refine ev_callF (hss (A) (x7) (c) (x8)) [] [.inl 1, .inr 4] rfl rfl (by decide) rfl (by simp) (fun _ => (by repeat (first | exact trivial | refine ⟨rfl, ?_⟩))) (fun _ h11 => ?_)
      refine go Tryz.tbs_ok 1000 ?_
      refine ev_if_yes rfl ?_
      refine go Tryz.tbs_ok 1000 ?_
      refine ev_callF (TL ) [] [.inl 0] rfl rfl (by decide) rfl (by simp) (fun _ => (by repeat (first | exact trivial | refine ⟨rfl, ?_⟩))) (fun _ h12 => ?_)
      refine go Tryz.tbs_ok 1000 ?_
      refine ev_fin ⟨trivial, _, rfl, (()), rfl, (by trivial), Frm.nil _⟩
    · have T4 := writeN s hs A c s.keep.length rfl (by omega) hw
      refine go Tryz.tbs_ok 1000 ?_
      refine ev_new fun b0 => ?_
      refine ev_if_no (decide_eq_false (show ¬(↑x.size : Int) > 500 from (by omega))) ?_
      refine go Tryz.tbs_ok 1000 ?_
      refine ev_if_no (decide_eq_false (show ¬(↑s.keep.length : Int) > 20 from (by omega))) ?_
      refine go Tryz.tbs_ok 1000 ?_
      refine ev_callF (T1 ) [] [.inl 0] rfl rfl (by decide) rfl (by simp) (fun _ => (by repeat (first | exact trivial | refine ⟨rfl, ?_⟩))) (fun _ h1 => ?_)
      refine go Tryz.tbs_ok 1000 ?_
      refine ev_new fun b2 => ?_
      refine ev_callF (T2 ) [] [] rfl rfl (by decide) rfl (by simp) (fun _ => (by repeat (first | exact trivial | refine ⟨rfl, ?_⟩))) (fun _ h3 => ?_)
      refine go Tryz.tbs_ok 1000 ?_
      refine ev_new fun b4 => ?_
      refine ev_if_no rfl ?_
      refine go Tryz.tbs_ok 1000 ?_
      refine ev_callF (T3 ) [] [.inr 0, .inr 0] rfl rfl (by decide) rfl (by simp) (fun _ => (by repeat (first | exact trivial | refine ⟨rfl, ?_⟩))) (fun _ h5 => ?_)
      refine go Tryz.tbs_ok 1000 ?_
      refine ev_if_no rfl ?_
      refine go Tryz.tbs_ok 1000 ?_
      refine ev_if_no rfl ?_
      refine go Tryz.tbs_ok 1000 ?_
      refine ev_callF (T4 ) [] [.inl 0, .inl 1] rfl rfl (by decide) rfl (by simp) (fun _ => (by repeat (first | exact trivial | refine ⟨rfl, ?_⟩))) (fun _ h6 => ?_)
      refine go Tryz.tbs_ok 1000 ?_
      refine ev_callF (h00 ) [] [] rfl rfl (by decide) rfl (by simp) (fun _ => (by repeat (first | exact trivial | refine ⟨rfl, ?_⟩))) (fun _ h7 => ?_)
      refine go Tryz.tbs_ok 1000 ?_
      refine ev_new fun b8 => ?_
      refine ev_if_yes rfl ?_
      refine go Tryz.tbs_ok 1000 ?_
      refine ev_if_yes rfl ?_
      refine go Tryz.tbs_ok 1000 ?_
      refine ev_callF (TL ) [] [.inl 0] rfl rfl (by decide) rfl (by simp) (fun _ => (by repeat (first | exact trivial | refine ⟨rfl, ?_⟩))) (fun _ h9 => ?_)
      refine go Tryz.tbs_ok 1000 ?_
      refine ev_fin ⟨trivial, _, rfl, (()), rfl, (by trivial), Frm.nil _⟩
  | some b =>
    obtain ⟨hb1, hb2⟩ := read_ok hr
    have hlb := line_read hr
    have T1 := readY x hx9 b hr
    have T2 := rReadY x (by omega) b hr
    have T3 := fun B C p q => sameStep b B C p q b.keep.length rfl (by omega)
    have T6 := fun B p => writeY b hb1 B p b.keep.length rfl (by omega) (by rw [hlb]; exact hr)
    rw [hlb] at T6
    by_cases hw : readB (lineB s) = some s
    · have T4 := writeY s hs A c s.keep.length rfl (by omega) hw
      have T5 := rReadY (lineB s) (by omega) s hw
      refine go Tryz.tbs_ok 1000 ?_
      refine ev_new fun b0 => ?_
      refine ev_if_no (decide_eq_false (show ¬(↑x.size : Int) > 500 from (by omega))) ?_
      refine go Tryz.tbs_ok 1000 ?_
      refine ev_if_no (decide_eq_false (show ¬(↑s.keep.length : Int) > 20 from (by omega))) ?_
      refine go Tryz.tbs_ok 1000 ?_
      refine ev_callF (T1 ) [] [.inl 0] rfl rfl (by decide) rfl (by simp) (fun _ => (by repeat (first | exact trivial | refine ⟨rfl, ?_⟩))) (fun ⟨x1, x2⟩ h3 => ?_)
      refine go Tryz.tbs_ok 1000 ?_
      refine ev_new fun b4 => ?_
      refine ev_callF (T2 ) [] [] rfl rfl (by decide) rfl (by simp) (fun _ => (by repeat (first | exact trivial | refine ⟨rfl, ?_⟩))) (fun ⟨x5, x6⟩ h7 => ?_)
      refine go Tryz.tbs_ok 1000 ?_
      refine ev_new fun b8 => ?_
      refine ev_if_no rfl ?_
      refine go Tryz.tbs_ok 1000 ?_
      refine ev_callF (T3 (x1) (x5) (x2) (x6)) [] [.inr 2, .inr 4] rfl rfl (by decide) rfl (by simp) (fun _ => (by repeat (first | exact trivial | refine ⟨rfl, ?_⟩))) (fun _ h9 => ?_)
      refine go Tryz.tbs_ok 1000 ?_
      refine ev_if_no rfl ?_
      refine go Tryz.tbs_ok 1000 ?_
      refine ev_if_yes rfl ?_
      refine go Tryz.tbs_ok 1000 ?_
      refine ev_callF (T6 (x5) (x6)) [] [.inl 0, .inr 4] rfl rfl (by decide) rfl (by simp) (fun _ => (by repeat (first | exact trivial | refine ⟨rfl, ?_⟩))) (fun _ h10 => ?_)
      refine go Tryz.tbs_ok 1000 ?_
      refine ev_if_no rfl ?_
      refine go Tryz.tbs_ok 1000 ?_
      refine ev_if_no (dec_no (by rfl)) ?_
      refine go Tryz.tbs_ok 1000 ?_
      refine ev_callF (T4 ) [] [.inl 0, .inl 1] rfl rfl (by decide) rfl (by simp) (fun _ => (by repeat (first | exact trivial | refine ⟨rfl, ?_⟩))) (fun _ h11 => ?_)
      refine go Tryz.tbs_ok 1000 ?_
      refine ev_callF (T5 ) [] [] rfl rfl (by decide) rfl (by simp) (fun _ => (by repeat (first | exact trivial | refine ⟨rfl, ?_⟩))) (fun ⟨x12, x13⟩ h14 => ?_)
      refine go Tryz.tbs_ok 1000 ?_
      refine ev_new fun b15 => ?_
      refine ev_if_no rfl ?_
      refine go Tryz.tbs_ok 1000 ?_
      refine ev_if_yes rfl ?_
      refine go Tryz.tbs_ok 1000 ?_
      refine ev_if_yes rfl ?_
      refine go Tryz.tbs_ok 1000 ?_
      refine ev_callF (hss (A) (x12) (c) (x13)) [] [.inl 1, .inr 6] rfl rfl (by decide) rfl (by simp) (fun _ => (by repeat (first | exact trivial | refine ⟨rfl, ?_⟩))) (fun _ h16 => ?_)
      refine go Tryz.tbs_ok 1000 ?_
      refine ev_if_yes rfl ?_
      refine go Tryz.tbs_ok 1000 ?_
      refine ev_callF (TL ) [] [.inl 0] rfl rfl (by decide) rfl (by simp) (fun _ => (by repeat (first | exact trivial | refine ⟨rfl, ?_⟩))) (fun _ h17 => ?_)
      refine go Tryz.tbs_ok 1000 ?_
      refine ev_fin ⟨trivial, _, rfl, (()), rfl, (by trivial), Frm.nil _⟩
    · have T4 := writeN s hs A c s.keep.length rfl (by omega) hw
      refine go Tryz.tbs_ok 1000 ?_
      refine ev_new fun b0 => ?_
      refine ev_if_no (decide_eq_false (show ¬(↑x.size : Int) > 500 from (by omega))) ?_
      refine go Tryz.tbs_ok 1000 ?_
      refine ev_if_no (decide_eq_false (show ¬(↑s.keep.length : Int) > 20 from (by omega))) ?_
      refine go Tryz.tbs_ok 1000 ?_
      refine ev_callF (T1 ) [] [.inl 0] rfl rfl (by decide) rfl (by simp) (fun _ => (by repeat (first | exact trivial | refine ⟨rfl, ?_⟩))) (fun ⟨x1, x2⟩ h3 => ?_)
      refine go Tryz.tbs_ok 1000 ?_
      refine ev_new fun b4 => ?_
      refine ev_callF (T2 ) [] [] rfl rfl (by decide) rfl (by simp) (fun _ => (by repeat (first | exact trivial | refine ⟨rfl, ?_⟩))) (fun ⟨x5, x6⟩ h7 => ?_)
      refine go Tryz.tbs_ok 1000 ?_
      refine ev_new fun b8 => ?_
      refine ev_if_no rfl ?_
      refine go Tryz.tbs_ok 1000 ?_
      refine ev_callF (T3 (x1) (x5) (x2) (x6)) [] [.inr 2, .inr 4] rfl rfl (by decide) rfl (by simp) (fun _ => (by repeat (first | exact trivial | refine ⟨rfl, ?_⟩))) (fun _ h9 => ?_)
      refine go Tryz.tbs_ok 1000 ?_
      refine ev_if_no rfl ?_
      refine go Tryz.tbs_ok 1000 ?_
      refine ev_if_yes rfl ?_
      refine go Tryz.tbs_ok 1000 ?_
      refine ev_callF (T6 (x5) (x6)) [] [.inl 0, .inr 4] rfl rfl (by decide) rfl (by simp) (fun _ => (by repeat (first | exact trivial | refine ⟨rfl, ?_⟩))) (fun _ h10 => ?_)
      refine go Tryz.tbs_ok 1000 ?_
      refine ev_if_no rfl ?_
      refine go Tryz.tbs_ok 1000 ?_
      refine ev_if_no (dec_no (by rfl)) ?_
      refine go Tryz.tbs_ok 1000 ?_
      refine ev_callF (T4 ) [] [.inl 0, .inl 1] rfl rfl (by decide) rfl (by simp) (fun _ => (by repeat (first | exact trivial | refine ⟨rfl, ?_⟩))) (fun _ h11 => ?_)
      refine go Tryz.tbs_ok 1000 ?_
      refine ev_callF (h00 ) [] [] rfl rfl (by decide) rfl (by simp) (fun _ => (by repeat (first | exact trivial | refine ⟨rfl, ?_⟩))) (fun _ h12 => ?_)
      refine go Tryz.tbs_ok 1000 ?_
      refine ev_new fun b13 => ?_
      refine ev_if_yes rfl ?_
      refine go Tryz.tbs_ok 1000 ?_
      refine ev_if_yes rfl ?_
      refine go Tryz.tbs_ok 1000 ?_
      refine ev_callF (TL ) [] [.inl 0] rfl rfl (by decide) rfl (by simp) (fun _ => (by repeat (first | exact trivial | refine ⟨rfl, ?_⟩))) (fun _ h14 => ?_)
      refine go Tryz.tbs_ok 1000 ?_
      refine ev_fin ⟨trivial, _, rfl, (()), rfl, (by trivial), Frm.nil _⟩
end Go.Proofs.YtaiialpdlobioaaGreatDoor

/-
  What is proved: a disk, all in one: what is appended, read, told of it. Conditions: none.
-/
import Derived.Test.YthknokcgclcbmaaDJ
namespace Go.Proofs.Ythknokcgclcbmaa
open Go.Sy

theorem starH_tail {A : Asn} {l l' : List Asn} (hl : ∀ h, Asn.starH l h → Asn.starH l' h) {h : Hp} (q : Asn.starH (A :: l) h) : Asn.starH (A :: l') h := by
  obtain ⟨h1, h2, d, a, b, p, q⟩ := q
  exact ⟨h1, h2, d, a, b, p, hl _ q⟩
/-- the first becomes the last -/
theorem starH_sink (l : List Asn) {A : Asn} {h : Hp} (q : Asn.starH (A :: l) h) : Asn.starH (l ++ [A]) h := by
  induction l generalizing h with
  | nil => exact q
  | cons B l ih => exact starH_tail (fun h q => ih q) (starH_swap q)
theorem insF_len (L : List Fl) (f : Fl) : (insF L f).length = L.length + 1 := by
  have hp := posF_le L f.n
  unfold insF
  simp only [List.length_append, List.length_take, List.length_cons, List.length_drop]
  omega
theorem insF_mem {L : List Fl} {f g : Fl} (h : g ∈ insF L f) : g = f ∨ g ∈ L := by
  unfold insF at h
  rcases List.mem_append.1 h with h | h
  · exact .inr (List.mem_of_mem_take h)
  · rcases List.mem_cons.1 h with h | h
    · exact .inl h
    · exact .inr (List.mem_of_mem_drop h)
theorem appM (p : Nat) (D : DK) (x y : ByteArray) (ok : okD D) (hy : y.size ≤ 100000000) : Triple Try.prog 34 [.pointer (some ⟨p, 0, none⟩), .string x, .string y] [DiskM p D] [] Unit (fun _ => .int .i64 (appD D x y).2) (fun _ => True) (fun _ => [DiskM p (appD D x y).1]) := by
  have hF := ok.okF
  have hs := ok.rise
  have hm := ok.most.1
  have hm2 := ok.most.2
  have hfew := ok.few
  have hroom := ok.room
  have h1 : D.files.length ≤ 1000 := Nat.le_trans ok.few (by decide)
  have hfl := ok.fails
  obtain ⟨m, s, dn, L, fl, K⟩ := D
  replace hF : okF L := hF
  replace hs : riseF L := hs
  replace hm : 0 < m := hm
  replace hm2 : m ≤ 1048576 := hm2
  replace hfew : L.length ≤ 16 := hfew
  replace hroom : (sumD L : Int) ≤ m := hroom
  replace h1 : L.length ≤ 1000 := h1
  simp only [appD]
  have hb : sumD L ≤ 1000000000 := by omega
  cases dn with
  | true => exact liftPt ⟨m, s, true, L, fl, K⟩ [] fun A c fv B d => appendDown p m s A L.length c fv B K.length d x y hm
  | false =>
    simp only [Bool.false_eq_true, if_false]
    cases ho : oddS x with
    | true => exact liftAsk ⟨m, s, false, L, fl, K⟩ [] fun A c fv B d => appendArg p m s A L.length c fv B K.length d L rfl h1 x y hm hs ho
    | false =>
      rw [if_neg (by decide)]
      cases hh : hasF L x with
      | true =>
        obtain ⟨hi, _⟩ := has_pos hs hh
        have hFi := hF _ (List.getElem_mem hi)
        have ha : appF L x y = L.set (posF L x) ⟨L[posF L x].n, L[posF L x].d ++ y, L[posF L x].s⟩ := by
          unfold appF
          rw [if_pos hh, setF_eq hi]
        by_cases hz : m - sumD L < (y.size : Int)
        · rw [if_pos (.inr hz)]
          exact liftAsk ⟨m, s, false, L, fl, K⟩ [] fun A c fv B d => appendFull2T p m s A L.length c fv B K.length d L rfl h1 x y hm hm2 hb hs ho hh hz
        · rw [if_neg (by rintro (⟨h, _⟩ | h); · cases h
                         · exact hz h), ha]
          have hy2 : (y.size : Int) ≤ m - sumD L := by omega
          have hz2 : L[posF L x].d.size + y.size ≤ 1000000000 := by
            have := sumD_mem (List.getElem_mem hi)
            omega
          have hF2 : okF (L.set (posF L x) ⟨L[posF L x].n, L[posF L x].d ++ y, L[posF L x].s⟩) := fun f hf => by
            rcases List.mem_or_eq_of_mem_set hf with hf | rfl
            · exact hF f hf
            · simp only [ByteArray.size_append]
              omega
          refine liftChg m s L fl K true _ hfl (fun A c B d => ?_) (fun A c B d nb q hq hq2 => ?_) (fun A c B d nb q hq => ?_)
          · exact (appendTN p m s A L.length c B K.length d L rfl h1 x y hh ho hb hm2 hy2 hi hz2 hF2 hm hs).imp fun _ _ => ⟨(A, c), rfl, trivial, fun h q => by rw [List.length_set]; exact q⟩
          · exact (appendTG p m s A L.length c B K.length d L rfl h1 x y hh ho hb hm2 hy2 hi hz2 hF2 hm hs nb q K hq hq2).imp fun _ _ => ⟨(A, c), rfl, trivial, fun h q => by rw [List.length_set]; exact q⟩
          · exact (appendTS p m s A L.length c B K.length d L rfl h1 x y hh ho hb hm2 hy2 hi hz2 hF2 hm hs nb q K hq rfl).imp fun _ _ => ⟨(A, c), rfl, trivial, fun h q => by rw [if_pos rfl, List.length_set]; exact q⟩
      | false =>
        by_cases h16 : L.length = 16
        · rw [if_pos (.inl ⟨rfl, h16⟩)]
          exact liftAsk ⟨m, s, false, L, fl, K⟩ [] fun A c fv B d => appendFull1 p m s A L.length c fv B K.length d L rfl h1 x y hm hs ho hh h16
        · by_cases hz : m - sumD L < (y.size : Int)
          · rw [if_pos (.inr hz)]
            exact liftAsk ⟨m, s, false, L, fl, K⟩ [] fun A c fv B d => appendFull2F p m s A L.length c fv B K.length d L rfl h1 x y hm hm2 hb hs ho hh h16 hz
          · have ha : appF L x y = insF L ⟨x, y, 0⟩ := by
              unfold appF
              rw [if_neg (by rw [hh]; decide)]
            rw [if_neg (by rintro (⟨_, h⟩ | h); · exact h16 h
                           · exact hz h), ha]
            have hy2 : (y.size : Int) ≤ m - sumD L := by omega
            have hF2 : okF (insF L ⟨x, y, 0⟩) := fun f hf => by
              rcases insF_mem hf with rfl | hf
              · exact ⟨Int.le_refl _, Int.natCast_nonneg _, by simp only; omega⟩
              · exact hF f hf
            have hl := insF_len L ⟨x, y, 0⟩
            have h999 : L.length ≤ 999 := by omega
            refine liftChg m s L fl K true _ hfl (fun A c B d => ?_) (fun A c B d nb q hq hq2 => ?_) (fun A c B d nb q hq => ?_)
            · exact (appendFN p m s A L.length c B K.length d L rfl h1 x y hh ho hb hm2 hy2 h16 h999 hF2 hm hs).imp fun (A2, c2) _ => ⟨(A2, c2), rfl, trivial, fun h q => by rw [hl]; exact q⟩
            · exact (appendFG p m s A L.length c B K.length d L rfl h1 x y hh ho hb hm2 hy2 h16 h999 hF2 hm hs nb q K hq hq2).imp fun (A2, c2) _ => ⟨(A2, c2), rfl, trivial, fun h q => by rw [hl]; exact q⟩
            · exact (appendFS p m s A L.length c B K.length d L rfl h1 x y hh ho hb hm2 hy2 h16 h999 hF2 hm hs nb q K hq rfl).imp fun (A2, c2) _ => ⟨(A2, c2), rfl, trivial, fun h q => by rw [if_pos rfl, hl]; exact q⟩
theorem readM (p : Nat) (D : DK) (x : ByteArray) (ok : okD D) : Triple Try.prog 20 [.pointer (some ⟨p, 0, none⟩), .string x] [DiskM p D] [] Unit (fun _ => .tuple #[.string (readD D x).1, .int .i64 (readD D x).2]) (fun _ => True) (fun _ => [DiskM p D]) := by
  have hs := ok.rise
  have hm := ok.most.1
  have h1 : D.files.length ≤ 1000 := Nat.le_trans ok.few (by decide)
  obtain ⟨m, s, dn, L, fl, K⟩ := D
  simp only [readD]
  cases dn with
  | true => exact liftPt ⟨m, s, true, L, fl, K⟩ [] fun A c fv B d => readDown p m s A L.length c fv B K.length d x hm
  | false =>
    simp only [Bool.false_eq_true, if_false]
    cases hh : hasF L x with
    | false => exact liftAsk ⟨m, s, false, L, fl, K⟩ [] fun A c fv B d => readGone p m s A L.length c fv B K.length d L rfl h1 x hm hs hh
    | true =>
      obtain ⟨hi, _⟩ := has_pos hs hh
      rw [if_pos rfl, getF_eq hi]
      exact liftAsk ⟨m, s, false, L, fl, K⟩ [] fun A c fv B d => readT p m s A L.length c fv B K.length d L rfl h1 x hm hs hh hi
theorem sizeM (p : Nat) (D : DK) (ok : okD D) : Triple Try.prog 11 [.pointer (some ⟨p, 0, none⟩)] [DiskM p D] [] Unit (fun _ => .int .i64 (sumD D.files : Nat)) (fun _ => True) (fun _ => [DiskM p D]) := by
  have hr := ok.room
  have hm2 := ok.most.2
  exact liftAsk D [] fun A c fv B d => sizeT p D.most D.starts D.down A D.files.length c fv B D.keep.length d D.files ok.most.1 rfl (Nat.le_trans ok.few (by decide)) (by omega)
theorem upM (p : Nat) (D : DK) (ok : okD D) : Triple Try.prog 25 [.pointer (some ⟨p, 0, none⟩)] [DiskM p D] [] Unit (fun _ => .bool (!D.down)) (fun _ => True) (fun _ => [DiskM p D]) :=
  liftPt D [] fun A c fv B d => upT p D.most D.starts D.down A D.files.length c fv B D.keep.length d ok.most.1
theorem startsM (p : Nat) (D : DK) (ok : okD D) : Triple Try.prog 26 [.pointer (some ⟨p, 0, none⟩)] [DiskM p D] [] Unit (fun _ => .int .i64 D.starts) (fun _ => True) (fun _ => [DiskM p D]) :=
  liftPt D [] fun A c fv B d => startsT p D.most D.starts D.down A D.files.length c fv B D.keep.length d ok.most.1
theorem namesM (p : Nat) (D : DK) (ok : okD D) : Triple Try.prog 12 [.pointer (some ⟨p, 0, none⟩)] [DiskM p D] [] (Option Addr × Nat) (fun (C, e) => .slice C D.files.length e) (fun _ => True) (fun (C, e) => [DiskM p D, Row 9 1 C D.files.length e ((D.files.map nameEG).flatMap encS)]) :=
  Triple.pre DiskM.pre fun ⟨A, c, nb, B, d⟩ => ((namesT p D.most D.starts D.down A D.files.length c (fvOf D.fails nb) B D.keep.length d D.files ok.most.1 rfl (Nat.le_trans ok.few (by decide))).frame (failA D.fails nb ++ [rowN B D.keep.length d D.keep])).imp fun (C, e) _ => ⟨(C, e), rfl, trivial, fun h q => by
    have q2 := starH_tail (fun h q => starH_tail (fun h q => starH_sink (failA D.fails nb ++ [rowN B D.keep.length d D.keep]) q) q) q
    obtain ⟨h1, h2, d1, a, b, p1, p2⟩ := (starH_append (_ :: _ :: (failA D.fails nb ++ [rowN B D.keep.length d D.keep])) [_]).1 q2
    exact ⟨h1, h2, d1, a, b, starH_one.1 (DiskM.put ⟨A, c, nb, B, d⟩ p1), p2⟩⟩
theorem leftM (p : Nat) (D : DK) (ok : okD D) : Triple Try.prog 15 [.pointer (some ⟨p, 0, none⟩)] [DiskM p D] [] (Option Addr × Nat) (fun (C, e) => .slice C D.files.length e) (fun _ => True) (fun (C, e) => [DiskM p D, Row 3 1 C D.files.length e ((D.files.map leftEG).flatMap encN)]) :=
  Triple.pre DiskM.pre fun ⟨A, c, nb, B, d⟩ => ((leftT p D.most D.starts D.down A D.files.length c (fvOf D.fails nb) B D.keep.length d D.files ok.most.1 rfl (Nat.le_trans ok.few (by decide)) ok.okF).frame (failA D.fails nb ++ [rowN B D.keep.length d D.keep])).imp fun (C, e) _ => ⟨(C, e), rfl, trivial, fun h q => by
    have q2 := starH_tail (fun h q => starH_tail (fun h q => starH_sink (failA D.fails nb ++ [rowN B D.keep.length d D.keep]) q) q) q
    obtain ⟨h1, h2, d1, a, b, p1, p2⟩ := (starH_append (_ :: _ :: (failA D.fails nb ++ [rowN B D.keep.length d D.keep])) [_]).1 q2
    exact ⟨h1, h2, d1, a, b, starH_one.1 (DiskM.put ⟨A, c, nb, B, d⟩ p1), p2⟩⟩
theorem crashM (p : Nat) (D : DK) (Q : Option Addr) (kq dq : Nat) (K : List Int) (ok : okD D) (hk : kq = K.length) : Triple Try.prog 30 [.pointer (some ⟨p, 0, none⟩), .slice Q kq dq] [DiskM p D] [Rd 1 Q kq (K.flatMap encN)] Unit (fun _ => .int .i64 (crashD D K).2) (fun _ => True) (fun _ => [DiskM p (crashD D K).1]) := by
  have hF := ok.okF
  have hm := ok.most.1
  have h1 : D.files.length ≤ 1000 := Nat.le_trans ok.few (by decide)
  obtain ⟨m, s, dn, L, fl, K0⟩ := D
  simp only [crashD]
  cases dn with
  | true => exact (liftPt ⟨m, s, true, L, fl, K0⟩ [] fun A c fv B d => crashDown p m s A L.length c fv B K0.length d Q kq dq hm).reads (fun _ h => (by cases h))
  | false =>
    simp only [Bool.false_eq_true, if_false]
    refine Triple.pre DiskM.pre fun ⟨A, c, nb, B, d⟩ => ((crashT p m s A L.length c (fvOf fl nb) B K0.length d L Q kq dq K hm rfl h1 hk hF).frame _).imp fun _ _ => ⟨(), rfl, trivial, fun h q => DiskM.put ⟨A, c, nb, B, d⟩ ?_⟩
    simp only [crashF_len]
    cases fl with
    | none => exact q
    | some z => exact starH_drop [_, _] _ [_] q
theorem startM (p : Nat) (D : DK) (ok : okD D) (h0 : 0 ≤ D.starts) (h1 : D.starts ≤ 1000000000) : Triple Try.prog 28 [.pointer (some ⟨p, 0, none⟩)] [DiskM p D] [] Unit (fun _ => .int .i64 (startD D).2) (fun _ => True) (fun _ => [DiskM p (startD D).1]) := by
  have hm := ok.most.1
  obtain ⟨m, s, dn, L, fl, K⟩ := D
  simp only [startD]
  cases dn with
  | false => exact liftPt ⟨m, s, false, L, fl, K⟩ [] fun A c fv B d => startUp p m s A L.length c fv B K.length d hm
  | true => exact Triple.pre DiskM.pre fun ⟨A, c, nb, B, d⟩ => ((startDown p m s A L.length c (fvOf fl nb) B K.length d hm h0 h1).frame _).imp fun _ _ => ⟨(), rfl, trivial, fun h q => DiskM.put ⟨A, c, nb, B, d⟩ q⟩
theorem failM (p : Nat) (D : DK) (z : Int) (Q : Option Addr) (kq dq : Nat) (K : List Int) (ok : okD D) (hk : kq = K.length) (hk2 : kq ≤ 100000) : Triple Try.prog 32 [.pointer (some ⟨p, 0, none⟩), .int .i64 z, .slice Q kq dq] [DiskM p D] [Rd 1 Q kq (K.flatMap encN)] Unit (fun _ => .int .i64 (failD D z K).2) (fun _ => True) (fun _ => [DiskM p (failD D z K).1]) := by
  have hm := ok.most.1
  obtain ⟨m, s, dn, L, fl, K0⟩ := D
  simp only [failD]
  cases dn with
  | true => exact (liftPt ⟨m, s, true, L, fl, K0⟩ [] fun A c fv B d => failDown p m s A L.length c fv B K0.length d z Q kq dq hm).reads (fun _ h => (by cases h))
  | false =>
    simp only [Bool.false_eq_true, if_false]
    by_cases hz : z < 0
    · rw [if_pos hz]
      exact (liftPt ⟨m, s, false, L, fl, K0⟩ [] fun A c fv B d => failArg p m s A L.length c fv B K0.length d z Q kq dq hm hz).reads (fun _ h => (by cases h))
    · rw [if_neg hz]
      refine Triple.pre DiskM.pre fun ⟨A, c, nb, B, d⟩ => ((failOk p m s A L.length c (fvOf fl nb) B K0.length d z Q kq dq K hm (by omega) hk hk2).frame _).imp fun (nb2, B2, d2) _ => ⟨(), rfl, trivial, fun h q => DiskM.put ⟨A, c, nb2, B2, d2⟩ ?_⟩
      subst hk
      obtain ⟨h1, h2, d3, a, b, q1, q2⟩ := (starH_append [_, _, _, _] (failA fl nb ++ [rowN B K0.length d K0])).1 q
      exact Asn.starH_mono _ a (starH_tail (fun h q => starH_swap (starH_tail (fun h q => starH_swap q) q)) q1)
theorem newM (z : Int) (hz : 1 ≤ z) (hz2 : z ≤ 1048576) : Triple Try.prog 10 [.int .i64 z] [] [] Nat (fun p => .tuple #[.pointer (some ⟨p, 0, none⟩), .int .i64 0]) (fun _ => True) (fun p => [DiskM p ⟨z, 0, false, [], none, []⟩]) :=
  (newOk z hz hz2).imp fun p _ => ⟨p, rfl, trivial, fun h q => DiskM.put ⟨none, 0, 0, none, 0⟩ ⟨h, Hp.emp, (Hp.emp_dis _).symm, Hp.le_refl _, Hp.emp_le _, starH_one.1 q, ⟨Hp.emp, Hp.emp, Hp.emp_dis _, Hp.emp_le _, Hp.emp_le _, Row.nil _ _ _, starH_one.2 (Row.nil _ _ _)⟩⟩⟩
end Go.Proofs.Ythknokcgclcbmaa

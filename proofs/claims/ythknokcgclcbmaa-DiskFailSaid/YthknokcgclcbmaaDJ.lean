/-
  What is proved: a disk, all in one: what each of its functions makes of it. Conditions: none.
-/
import Derived.Test.YthknokcgclcbmaaDI
namespace Go.Proofs.Ythknokcgclcbmaa
open Go.Sy

/-- a disk -/
structure DK where
  most : Int
  starts : Int
  down : Bool
  files : List Fl
  fails : Option Int
  keep : List Int
  deriving DecidableEq
def ptD (p : Nat) (m s : Int) (dn : Bool) (A : Option Addr) (n c : Nat) (fv : Value) (B : Option Addr) (k d : Nat) : Asn := Pt p 53 [.int .i64 m, .int .i64 s, .bool dn, .slice A n c, fv, .slice B k d]
def rowF (A : Option Addr) (n c : Nat) (L : List Fl) : Asn := Row 71 3 A n c (L.flatMap encF)
def rowN (B : Option Addr) (k d : Nat) (K : List Int) : Asn := Row 3 1 B k d (K.flatMap encN)
def ptN (nb : Nat) (q : Int) : Asn := Pt nb 3 [.int .i64 q]
def fvOf (f : Option Int) (nb : Nat) : Value := match f with | none => .nilFunc | some _ => .func (.func 58) #[] #[.pointer (some ⟨nb, 0, none⟩)]
def failA (f : Option Int) (nb : Nat) : List Asn := match f with | none => [] | some q => [ptN nb q]
structure DA where
  A : Option Addr
  c : Nat
  nb : Nat
  B : Option Addr
  d : Nat
def DiskM (p : Nat) (D : DK) : Asn := Asn.ex fun x : DA => Asn.star ([ptD p D.most D.starts D.down x.A D.files.length x.c (fvOf D.fails x.nb) x.B D.keep.length x.d, rowF x.A D.files.length x.c D.files] ++ (failA D.fails x.nb ++ [rowN x.B D.keep.length x.d D.keep]))
theorem DiskM.pre {p : Nat} {D : DK} (h : Hp) (q : Asn.starH [DiskM p D] h) : ∃ x : DA, Asn.starH ([ptD p D.most D.starts D.down x.A D.files.length x.c (fvOf D.fails x.nb) x.B D.keep.length x.d, rowF x.A D.files.length x.c D.files] ++ (failA D.fails x.nb ++ [rowN x.B D.keep.length x.d D.keep])) h := by
  obtain ⟨x, q⟩ := starH_one.1 q
  exact ⟨x, star_holds.1 q⟩
theorem DiskM.put {p : Nat} {D : DK} (x : DA) {h : Hp} (q : Asn.starH ([ptD p D.most D.starts D.down x.A D.files.length x.c (fvOf D.fails x.nb) x.B D.keep.length x.d, rowF x.A D.files.length x.c D.files] ++ (failA D.fails x.nb ++ [rowN x.B D.keep.length x.d D.keep])) h) : Asn.starH [DiskM p D] h := starH_one.2 ⟨x, star_holds.2 q⟩
/-- one is forgotten -/
theorem starH_drop (l : List Asn) (A : Asn) (r : List Asn) {h : Hp} (q : Asn.starH (l ++ A :: r) h) : Asn.starH (l ++ r) h := by
  induction l generalizing h with
  | nil =>
    obtain ⟨h1, h2, d, a, b, p, q⟩ := q
    exact Asn.starH_mono _ b q
  | cons B l ih =>
    obtain ⟨h1, h2, d, a, b, p, q⟩ := q
    exact ⟨h1, h2, d, a, b, p, ih q⟩
/-- a change that is made, unless it fails -/
def chg (D : DK) (late : Bool) (L2 : List Fl) : DK × Int :=
  match D.fails with
  | none => (⟨D.most, D.starts, D.down, L2, none, D.keep⟩, 0)
  | some q => if 0 < q then (⟨D.most, D.starts, D.down, L2, some (q - 1), D.keep⟩, 0) else (⟨D.most, D.starts, true, crashF (if late then L2 else D.files) D.keep, none, D.keep⟩, 41)
theorem liftChg {p : Nat} {fn : FuncId} {args : List Value} (m s : Int) (L : List Fl) (fl : Option Int) (K : List Int) (late : Bool) (L2 : List Fl) (hfl : ∀ q, fl = some q → 0 ≤ q ∧ q ≤ 9223372036854775807)
    (hN : ∀ A c B d, Triple Try.prog fn args [ptD p m s false A L.length c .nilFunc B K.length d, rowF A L.length c L] [] (Option Addr × Nat) (fun _ => .int .i64 0) (fun _ => True) (fun x => [ptD p m s false x.1 L2.length x.2 .nilFunc B K.length d, rowF x.1 L2.length x.2 L2]))
    (hG : ∀ A c B d nb q, 0 < q → q ≤ 9223372036854775807 → Triple Try.prog fn args [ptD p m s false A L.length c (fvOf (some q) nb) B K.length d, rowF A L.length c L, ptN nb q, rowN B K.length d K] [] (Option Addr × Nat) (fun _ => .int .i64 0) (fun _ => True) (fun x => [ptD p m s false x.1 L2.length x.2 (fvOf (some q) nb) B K.length d, rowF x.1 L2.length x.2 L2, ptN nb (q - 1), rowN B K.length d K]))
    (hS : ∀ A c B d nb q, q = 0 → Triple Try.prog fn args [ptD p m s false A L.length c (fvOf (some q) nb) B K.length d, rowF A L.length c L, ptN nb q, rowN B K.length d K] [] (Option Addr × Nat) (fun _ => .int .i64 41) (fun _ => True) (fun x => [ptD p m s true x.1 (if late then L2 else L).length x.2 .nilFunc B K.length d, rowF x.1 (if late then L2 else L).length x.2 (crashF (if late then L2 else L) K), ptN nb (q - 1), rowN B K.length d K])) :
    Triple Try.prog fn args [DiskM p ⟨m, s, false, L, fl, K⟩] [] Unit (fun _ => .int .i64 (chg ⟨m, s, false, L, fl, K⟩ late L2).2) (fun _ => True) (fun _ => [DiskM p (chg ⟨m, s, false, L, fl, K⟩ late L2).1]) := by
  refine Triple.pre DiskM.pre fun ⟨A, c, nb, B, d⟩ => ?_
  cases fl with
  | none => exact ((hN A c B d).frame [rowN B K.length d K]).imp fun x _ => ⟨(), rfl, trivial, fun h q => DiskM.put ⟨x.1, x.2, nb, B, d⟩ q⟩
  | some q =>
    obtain ⟨h1, h2⟩ := hfl q rfl
    unfold chg
    by_cases hq : 0 < q
    · simp only [hq, if_true]
      exact (hG A c B d nb q hq h2).imp fun x _ => ⟨(), rfl, trivial, fun h q => DiskM.put ⟨x.1, x.2, nb, B, d⟩ q⟩
    · simp only [hq, if_false]
      refine (hS A c B d nb q (by omega)).imp fun x _ => ⟨(), rfl, trivial, fun h q => DiskM.put ⟨x.1, x.2, nb, B, d⟩ ?_⟩
      rw [show (crashF (if late = true then L2 else L) K).length = (if late then L2 else L).length from crashF_len _ _]
      exact starH_drop [_, _] _ [_] q
/-- a call that leaves the disk as it is -/
theorem liftAsk {p : Nat} {fn : FuncId} {args : List Value} {X : Type} {ret : X → Value} {good : X → Prop} (D : DK) (N : List Asn)
    (hN : ∀ A c fv B d, Triple Try.prog fn args [ptD p D.most D.starts D.down A D.files.length c fv B D.keep.length d, rowF A D.files.length c D.files] N X ret good (fun _ => [ptD p D.most D.starts D.down A D.files.length c fv B D.keep.length d, rowF A D.files.length c D.files])) :
    Triple Try.prog fn args [DiskM p D] N X ret good (fun _ => [DiskM p D]) :=
  Triple.pre DiskM.pre fun ⟨A, c, nb, B, d⟩ => ((hN A c _ B d).frame _).imp fun x hx => ⟨x, rfl, hx, fun _ q => DiskM.put ⟨A, c, nb, B, d⟩ q⟩
theorem liftPt {p : Nat} {fn : FuncId} {args : List Value} {X : Type} {ret : X → Value} {good : X → Prop} (D : DK) (N : List Asn)
    (hN : ∀ A c fv B d, Triple Try.prog fn args [ptD p D.most D.starts D.down A D.files.length c fv B D.keep.length d] N X ret good (fun _ => [ptD p D.most D.starts D.down A D.files.length c fv B D.keep.length d])) :
    Triple Try.prog fn args [DiskM p D] N X ret good (fun _ => [DiskM p D]) :=
  Triple.pre DiskM.pre fun ⟨A, c, nb, B, d⟩ => ((hN A c _ B d).frame _).imp fun x hx => ⟨x, rfl, hx, fun _ q => DiskM.put ⟨A, c, nb, B, d⟩ q⟩
/-- a disk is as it ought to be -/
structure okD (D : DK) : Prop where
  most : 0 < D.most ∧ D.most ≤ 1048576
  rise : riseF D.files
  sure : ∀ f ∈ D.files, 0 ≤ f.s ∧ f.s ≤ f.d.size
  room : (sumD D.files : Int) ≤ D.most
  few : D.files.length ≤ 16
  names : ∀ f ∈ D.files, oddS f.n = false
  fails : ∀ q, D.fails = some q → 0 ≤ q ∧ q ≤ 9223372036854775807
theorem sumD_mem {L : List Fl} {f : Fl} (h : f ∈ L) : f.d.size ≤ sumD L := by
  obtain ⟨j, hj, rfl⟩ := List.getElem_of_mem h
  have h1 := sumD_step hj
  have h2 := sumD_take L (j + 1)
  omega
theorem okD.okF {D : DK} (h : okD D) : Proofs.Ythknokcgclcbmaa.okF D.files := fun f hf => by
  have h1 := h.sure f hf
  have h2 := sumD_mem hf
  have h3 := h.room
  have h4 := h.most
  exact ⟨h1.1, h1.2, by omega⟩
/-! the files behind what is done -/
def setF (L : List Fl) (x : ByteArray) (g : Fl → Fl) : List Fl := match L[posF L x]? with | some f => L.set (posF L x) (g f) | none => L
def insF (L : List Fl) (f : Fl) : List Fl := L.take (posF L f.n) ++ f :: L.drop (posF L f.n)
def putFl (L : List Fl) (f : Fl) : List Fl := if hasF L f.n then L.set (posF L f.n) f else insF L f
def renF (L : List Fl) (x y : ByteArray) : List Fl := match L[posF L x]? with | some f => putFl (L.eraseIdx (posF L x)) ⟨y, f.d, f.s⟩ | none => L
def appF (L : List Fl) (x y : ByteArray) : List Fl := if hasF L x then setF L x (fun f => ⟨f.n, f.d ++ y, f.s⟩) else insF L ⟨x, y, 0⟩
theorem setF_eq {L : List Fl} {x : ByteArray} {g : Fl → Fl} (h : posF L x < L.length) : setF L x g = L.set (posF L x) (g L[posF L x]) := by
  unfold setF
  rw [List.getElem?_eq_getElem h]
def getF (L : List Fl) (x : ByteArray) : ByteArray := match L[posF L x]? with | some f => f.d | none => .empty
theorem getF_eq {L : List Fl} {x : ByteArray} (h : posF L x < L.length) : getF L x = L[posF L x].d := by
  unfold getF
  rw [List.getElem?_eq_getElem h]
/-! what the functions do -/
def syncD (D : DK) (x : ByteArray) : DK × Int := if D.down then (D, 41) else if hasF D.files x then chg D false (setF D.files x fun f => ⟨f.n, f.d, (f.d.size : Nat)⟩) else (D, 4)
def truncD (D : DK) (x : ByteArray) (z : Int) : DK × Int := if D.down then (D, 41) else if hasF D.files x then (if z < 0 ∨ ((getF D.files x).size : Int) < z then (D, 2) else chg D false (setF D.files x fun f => ⟨f.n, f.d.extract 0 z.toNat, min f.s z⟩)) else (D, 4)
def renD (D : DK) (x y : ByteArray) : DK × Int := if D.down then (D, 41) else if hasF D.files x then (if oddS y then (D, 2) else chg D false (renF D.files x y)) else (D, 4)
def remD (D : DK) (x : ByteArray) : DK × Int := if D.down then (D, 41) else if hasF D.files x then chg D false (D.files.eraseIdx (posF D.files x)) else (D, 4)
def appD (D : DK) (x y : ByteArray) : DK × Int := if D.down then (D, 41) else if oddS x then (D, 2) else if (hasF D.files x = false ∧ D.files.length = 16) ∨ D.most - sumD D.files < (y.size : Int) then (D, 40) else chg D true (appF D.files x y)
def readD (D : DK) (x : ByteArray) : ByteArray × Int := if D.down then (.empty, 41) else if hasF D.files x then (getF D.files x, 0) else (.empty, 4)
def crashD (D : DK) (K : List Int) : DK × Int := if D.down then (D, 41) else (⟨D.most, D.starts, true, crashF D.files K, none, D.keep⟩, 0)
def failD (D : DK) (z : Int) (K : List Int) : DK × Int := if D.down then (D, 41) else if z < 0 then (D, 2) else (⟨D.most, D.starts, D.down, D.files, some z, K⟩, 0)
def startD (D : DK) : DK × Int := if D.down then (⟨D.most, D.starts + 1, false, D.files, D.fails, D.keep⟩, 0) else (D, 2)
theorem syncM (p : Nat) (D : DK) (x : ByteArray) (ok : okD D) : Triple Try.prog 40 [.pointer (some ⟨p, 0, none⟩), .string x] [DiskM p D] [] Unit (fun _ => .int .i64 (syncD D x).2) (fun _ => True) (fun _ => [DiskM p (syncD D x).1]) := by
  have hF := ok.okF
  have hs := ok.rise
  have hm := ok.most.1
  have h1 : D.files.length ≤ 1000 := Nat.le_trans ok.few (by decide)
  have hfl := ok.fails
  obtain ⟨m, s, dn, L, fl, K⟩ := D
  simp only [syncD]
  cases dn with
  | true => exact liftPt ⟨m, s, true, L, fl, K⟩ [] fun A c fv B d => syncDown p m s A L.length c fv B K.length d x hm
  | false =>
    simp only [Bool.false_eq_true, if_false]
    cases hh : hasF L x with
    | false => exact liftAsk ⟨m, s, false, L, fl, K⟩ [] fun A c fv B d => syncGone p m s A L.length c fv B K.length d L rfl h1 x hm hs hh
    | true =>
      obtain ⟨hi, _⟩ := has_pos hs hh
      rw [if_pos rfl, setF_eq hi]
      refine liftChg m s L fl K false _ hfl (fun A c B d => ?_) (fun A c B d nb q hq hq2 => ?_) (fun A c B d nb q hq => ?_)
      · exact (syncN p m s A L.length c B K.length d L rfl h1 x hh hi hF hm hs).imp fun _ _ => ⟨(A, c), rfl, trivial, fun h q => by rw [List.length_set]; exact q⟩
      · exact (syncG p m s A L.length c B K.length d L rfl h1 x hh hi hF hm hs nb q K hq hq2).imp fun _ _ => ⟨(A, c), rfl, trivial, fun h q => by rw [List.length_set]; exact q⟩
      · exact (syncS p m s A L.length c B K.length d L rfl h1 x hh hi hF hm hs nb q K hq rfl).imp fun _ _ => ⟨(A, c), rfl, trivial, fun h q => q⟩
theorem truncM (p : Nat) (D : DK) (x : ByteArray) (z : Int) (ok : okD D) : Triple Try.prog 41 [.pointer (some ⟨p, 0, none⟩), .string x, .int .i64 z] [DiskM p D] [] Unit (fun _ => .int .i64 (truncD D x z).2) (fun _ => True) (fun _ => [DiskM p (truncD D x z).1]) := by
  have hF := ok.okF
  have hs := ok.rise
  have hm := ok.most.1
  have h1 : D.files.length ≤ 1000 := Nat.le_trans ok.few (by decide)
  have hfl := ok.fails
  obtain ⟨m, s, dn, L, fl, K⟩ := D
  simp only [truncD]
  cases dn with
  | true => exact liftPt ⟨m, s, true, L, fl, K⟩ [] fun A c fv B d => truncDown p m s A L.length c fv B K.length d x z hm
  | false =>
    simp only [Bool.false_eq_true, if_false]
    cases hh : hasF L x with
    | false => exact liftAsk ⟨m, s, false, L, fl, K⟩ [] fun A c fv B d => truncGone p m s A L.length c fv B K.length d L rfl h1 x z hm hs hh
    | true =>
      obtain ⟨hi, _⟩ := has_pos hs hh
      rw [if_pos rfl]
      rw [getF_eq hi]
      by_cases hz : z < 0 ∨ ((L[posF L x].d.size : Nat) : Int) < z
      · rw [if_pos hz]
        exact liftAsk ⟨m, s, false, L, fl, K⟩ [] fun A c fv B d => truncArg p m s A L.length c fv B K.length d L rfl h1 x z hm hs hh hi hz
      · rw [if_neg hz, setF_eq hi]
        have hz1 : 0 ≤ z := by omega
        have hz2 : z ≤ L[posF L x].d.size := by omega
        refine liftChg m s L fl K false _ hfl (fun A c B d => ?_) (fun A c B d nb q hq hq2 => ?_) (fun A c B d nb q hq => ?_)
        · exact (truncN p m s A L.length c B K.length d L rfl h1 x z hh hi hF hz1 hz2 hm hs).imp fun _ _ => ⟨(A, c), rfl, trivial, fun h q => by rw [List.length_set]; exact q⟩
        · exact (truncG p m s A L.length c B K.length d L rfl h1 x z hh hi hF hz1 hz2 hm hs nb q K hq hq2).imp fun _ _ => ⟨(A, c), rfl, trivial, fun h q => by rw [List.length_set]; exact q⟩
        · exact (truncS p m s A L.length c B K.length d L rfl h1 x z hh hi hF hz1 hz2 hm hs nb q K hq rfl).imp fun _ _ => ⟨(A, c), rfl, trivial, fun h q => q⟩
theorem remM (p : Nat) (D : DK) (x : ByteArray) (ok : okD D) : Triple Try.prog 42 [.pointer (some ⟨p, 0, none⟩), .string x] [DiskM p D] [] Unit (fun _ => .int .i64 (remD D x).2) (fun _ => True) (fun _ => [DiskM p (remD D x).1]) := by
  have hF := ok.okF
  have hs := ok.rise
  have hm := ok.most.1
  have h1 : D.files.length ≤ 1000 := Nat.le_trans ok.few (by decide)
  have hfl := ok.fails
  obtain ⟨m, s, dn, L, fl, K⟩ := D
  simp only [remD]
  cases dn with
  | true => exact liftPt ⟨m, s, true, L, fl, K⟩ [] fun A c fv B d => removeDown p m s A L.length c fv B K.length d x hm
  | false =>
    simp only [Bool.false_eq_true, if_false]
    cases hh : hasF L x with
    | false => exact liftAsk ⟨m, s, false, L, fl, K⟩ [] fun A c fv B d => removeGone p m s A L.length c fv B K.length d L rfl h1 x hm hs hh
    | true =>
      obtain ⟨hi, _⟩ := has_pos hs hh
      rw [if_pos rfl]
      have hl : (L.eraseIdx (posF L x)).length = L.length - 1 := by rw [List.length_eraseIdx_of_lt hi]
      refine liftChg m s L fl K false _ hfl (fun A c B d => ?_) (fun A c B d nb q hq hq2 => ?_) (fun A c B d nb q hq => ?_)
      · exact (removeN p m s A L.length c B K.length d L rfl h1 x hh hi hF hm hs).imp fun _ _ => ⟨(A, c), rfl, trivial, fun h q => by rw [hl]; exact q⟩
      · exact (removeG p m s A L.length c B K.length d L rfl h1 x hh hi hF hm hs nb q K hq hq2).imp fun _ _ => ⟨(A, c), rfl, trivial, fun h q => by rw [hl]; exact q⟩
      · exact (removeS p m s A L.length c B K.length d L rfl h1 x hh hi hF hm hs nb q K hq rfl).imp fun _ _ => ⟨(A, c), rfl, trivial, fun h q => q⟩
theorem renM (p : Nat) (D : DK) (x y : ByteArray) (ok : okD D) : Triple Try.prog 35 [.pointer (some ⟨p, 0, none⟩), .string x, .string y] [DiskM p D] [] Unit (fun _ => .int .i64 (renD D x y).2) (fun _ => True) (fun _ => [DiskM p (renD D x y).1]) := by
  have hF := ok.okF
  have hs := ok.rise
  have hm := ok.most.1
  have h1 : D.files.length ≤ 1000 := Nat.le_trans ok.few (by decide)
  have hfl := ok.fails
  obtain ⟨m, s, dn, L, fl, K⟩ := D
  simp only [renD]
  cases dn with
  | true => exact liftPt ⟨m, s, true, L, fl, K⟩ [] fun A c fv B d => renameDown p m s A L.length c fv B K.length d x y hm
  | false =>
    simp only [Bool.false_eq_true, if_false]
    cases hh : hasF L x with
    | false => exact liftAsk ⟨m, s, false, L, fl, K⟩ [] fun A c fv B d => renameGone p m s A L.length c fv B K.length d L rfl h1 x y hm hs hh
    | true =>
      obtain ⟨hi, _⟩ := has_pos hs hh
      rw [if_pos rfl]
      cases ho : oddS y with
      | true => exact liftAsk ⟨m, s, false, L, fl, K⟩ [] fun A c fv B d => renameArg p m s A L.length c fv B K.length d L rfl h1 x y hm hs hh ho
      | false =>
        have hl : (L.eraseIdx (posF L x)).length = L.length - 1 := by rw [List.length_eraseIdx_of_lt hi]
        have hp := posF_le (L.eraseIdx (posF L x)) y
        have hr : renF L x y = putFl (L.eraseIdx (posF L x)) ⟨y, L[posF L x].d, L[posF L x].s⟩ := by
          unfold renF
          rw [List.getElem?_eq_getElem hi]
        rw [hr, if_neg (by decide)]
        unfold putFl
        cases hh2 : hasF (L.eraseIdx (posF L x)) y with
        | true =>
          rw [if_pos rfl]
          refine liftChg m s L fl K false _ hfl (fun A c B d => ?_) (fun A c B d nb q hq hq2 => ?_) (fun A c B d nb q hq => ?_)
          · exact (renameTN p m s A L.length c B K.length d L rfl h1 x y hh hi hF ho hh2 hm hs).imp fun _ _ => ⟨(A, c), rfl, trivial, fun h q => by rw [List.length_set, hl]; exact q⟩
          · exact (renameTG p m s A L.length c B K.length d L rfl h1 x y hh hi hF ho hh2 hm hs nb q K hq hq2).imp fun _ _ => ⟨(A, c), rfl, trivial, fun h q => by rw [List.length_set, hl]; exact q⟩
          · exact (renameTS p m s A L.length c B K.length d L rfl h1 x y hh hi hF ho hh2 hm hs nb q K hq rfl).imp fun _ _ => ⟨(A, c), rfl, trivial, fun h q => q⟩
        | false =>
          rw [if_neg (by decide)]
          have hl2 : (insF (L.eraseIdx (posF L x)) ⟨y, L[posF L x].d, L[posF L x].s⟩).length = L.length - 1 + 1 := by
            unfold insF
            simp only [List.length_append, List.length_take, List.length_cons, List.length_drop]
            omega
          refine liftChg m s L fl K false _ hfl (fun A c B d => ?_) (fun A c B d nb q hq hq2 => ?_) (fun A c B d nb q hq => ?_)
          · exact (renameFN p m s A L.length c B K.length d L rfl h1 x y hh hi hF ho hh2 hm hs).imp fun (A2, c2) _ => ⟨(A2, c2), rfl, trivial, fun h q => by rw [hl2]; exact q⟩
          · exact (renameFG p m s A L.length c B K.length d L rfl h1 x y hh hi hF ho hh2 hm hs nb q K hq hq2).imp fun (A2, c2) _ => ⟨(A2, c2), rfl, trivial, fun h q => by rw [hl2]; exact q⟩
          · exact (renameFS p m s A L.length c B K.length d L rfl h1 x y hh hi hF ho hh2 hm hs nb q K hq rfl).imp fun _ _ => ⟨(A, c), rfl, trivial, fun h q => q⟩
end Go.Proofs.Ythknokcgclcbmaa

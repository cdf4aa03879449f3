/-
  What is proved: the table of who waits: a list of keys, each with who waits. Conditions: none.
-/
import Derived.Test.YtkjpfodnbjbmfaaRG
namespace Go.Proofs.Ytkjpfodnbjbmfaa
open Go.Sy Go.RowKit

/-- an entry, as it lies in memory -/
structure WI where
  s : Int
  i : Int
  l : List Int
  a : Option Addr
  c : Nat
def WI.key (x : WI) : Key := (x.s, x.i)
def WI.ent (x : WI) : Key × Value := (x.key, .slice x.a x.l.length x.c)
def WI.own (x : WI) : Asn := Row 3 1 x.a x.l.length x.c (x.l.flatMap encN)
def WI.abs (x : WI) : Key × List Int := (x.key, x.l)
abbrev WT := List (Key × List Int)
def TabM (p : Nat) (T : WT) : Asn := Asn.ex fun x : {x : Nat × List WI // x.2.map WI.abs = T} =>
  Asn.star [Pt p 46 [.map (some x.1.1)], MapA encK x.1.1 (x.1.2.map WI.ent), Asn.star (x.1.2.map WI.own)]
def findT (T : WT) (k : Key) : List Int := match ixOf (T.map (·.1)) k with | some j => ((T[j]?).map (·.2)).getD [] | none => []
def putT (T : WT) (k : Key) (l : List Int) : WT := match ixOf (T.map (·.1)) k with | some j => T.set j (k, l) | none => T ++ [(k, l)]
def delT (T : WT) (k : Key) : WT := match ixOf (T.map (·.1)) k with | some j => T.eraseIdx j | none => T
/-- one entry, apart from the others -/
structure Cut (p : Nat) (T : WT) (k : Key) where
  b : Nat
  es : List (Key × Value)
  A : Option Addr
  c : Nat
  rest : Asn
  hv : lookE es k (.slice none 0 0) = .slice A (findT T k).length c
  hlen : es.length = T.length
  same : ∀ h, Asn.starH [Pt p 46 [.map (some b)], MapA encK b es, Row 3 1 A (findT T k).length c ((findT T k).flatMap encN), rest] h → (TabM p T).holds h
  put : ∀ (B : Option Addr) (d : Nat) (l' : List Int) (h : Hp), Asn.starH [Pt p 46 [.map (some b)], MapA encK b (putE es k (.slice B l'.length d)), Row 3 1 B l'.length d (l'.flatMap encN), rest] h → (TabM p (putT T k l')).holds h
  del : ∀ h, Asn.starH [Pt p 46 [.map (some b)], MapA encK b (delE es k), rest] h → (TabM p (delT T k)).holds h
  delput : findT T k ≠ [] → ∀ v, delE (putE es k v) k = delE es k
theorem tab_close {p b : Nat} {I : List WI} {h : Hp} (q : Asn.starH [Pt p 46 [.map (some b)], MapA encK b (I.map WI.ent), Asn.star (I.map WI.own)] h) : (TabM p (I.map WI.abs)).holds h :=
  ⟨⟨(b, I), rfl⟩, star_holds.2 q⟩
theorem keys_ent (I : List WI) : (I.map WI.ent).map (·.1) = I.map WI.key := by rw [List.map_map]; rfl
theorem keys_abs (I : List WI) : (I.map WI.abs).map (·.1) = I.map WI.key := by rw [List.map_map]; rfl
/-- one of several is taken out, and comes back turned -/
theorem star_out {α : Type} (A : α → Asn) : ∀ (l : List α) (j : Nat) (hj : j < l.length) {h : Hp}, Asn.starH (l.map A) h → Asn.starH (A l[j] :: (l.eraseIdx j).map A) h
  | x :: l, 0, _, _, q => q
  | x :: l, j + 1, hj, h, q => by
    obtain ⟨h1, h2, d, a, b, p, q⟩ := q
    obtain ⟨h3, h4, d2, a2, b2, p2, q2⟩ := star_out A l j (by simpa using hj) q
    exact ⟨h3, Hp.join h1 h4, (Hp.join_dis (d.mono (Hp.le_refl _) a2) d2.symm).symm, a2.trans b, Hp.join_le a (b2.trans b), p2, h1, h4, d.mono (Hp.le_refl _) b2, Hp.le_join_left _ _, Hp.le_join_right (d.mono (Hp.le_refl _) b2), p, q2⟩
theorem star_in {α : Type} (A : α → Asn) : ∀ (l : List α) (j : Nat) (_ : j < l.length) (y : α) {h : Hp}, Asn.starH (A y :: (l.eraseIdx j).map A) h → Asn.starH ((l.set j y).map A) h
  | x :: l, 0, _, y, _, q => q
  | x :: l, j + 1, hj, y, h, q => by
    obtain ⟨h1, h2, d, a, b, p, q⟩ := q
    obtain ⟨h3, h4, d2, a2, b2, p2, q2⟩ := q
    exact ⟨h3, Hp.join h1 h4, (Hp.join_dis (d.mono (Hp.le_refl _) a2) d2.symm).symm, a2.trans b, Hp.join_le a (b2.trans b), p2, star_in A l j (by simpa using hj) y ⟨h1, h4, d.mono (Hp.le_refl _) b2, Hp.le_join_left _ _, Hp.le_join_right (d.mono (Hp.le_refl _) b2), p, q2⟩⟩
theorem starH_tail {A : Asn} {l l' : List Asn} (hl : ∀ h, Asn.starH l h → Asn.starH l' h) {h : Hp} (q : Asn.starH (A :: l) h) : Asn.starH (A :: l') h := by
  obtain ⟨h1, h2, d, a, b, p, q⟩ := q
  exact ⟨h1, h2, d, a, b, p, hl _ q⟩
theorem star_cons {A : Asn} {l : List Asn} {h : Hp} (q : Asn.starH [A, Asn.star l] h) : Asn.starH (A :: l) h := by
  obtain ⟨h1, h2, d, a, b, p, q⟩ := q
  exact ⟨h1, h2, d, a, b, p, star_holds.1 (starH_one.1 q)⟩
theorem cons_star {A : Asn} {l : List Asn} {h : Hp} (q : Asn.starH (A :: l) h) : Asn.starH [A, Asn.star l] h := by
  obtain ⟨h1, h2, d, a, b, p, q⟩ := q
  exact ⟨h1, h2, d, a, b, p, starH_one.2 (star_holds.2 q)⟩
theorem ix_set {κ ν : Type} [DecidableEq κ] {es : List (κ × ν)} {k : κ} {j : Nat} (h : ixOf (es.map (·.1)) k = some j) (v : ν) : (es.set j (k, v)).map (·.1) = es.map (·.1) := by
  obtain ⟨hj, hk⟩ := ixOf_lt h
  rw [List.map_set]
  apply List.ext_getElem
  · simp
  · intro q h1 h2
    rw [List.getElem_set]
    split
    · rename_i e; subst e; simpa using hk.symm
    · rfl
theorem cut {p : Nat} {T : WT} {h : Hp} (k : Key) (q : (TabM p T).holds h) : ∃ C : Cut p T k, Asn.starH [Pt p 46 [.map (some C.b)], MapA encK C.b C.es, Row 3 1 C.A (findT T k).length C.c ((findT T k).flatMap encN), C.rest] h := by
  obtain ⟨⟨⟨b, I⟩, rfl⟩, q⟩ := q
  replace q := star_holds.1 q
  cases hix : ixOf (I.map WI.key) k with
  | some j =>
    obtain ⟨hj', hk'⟩ := ixOf_lt hix
    have hj : j < I.length := by simpa using hj'
    have hk : I[j].key = k := by simpa using hk'
    have hf : findT (I.map WI.abs) k = I[j].l := by
      unfold findT
      rw [keys_abs, hix]
      simp [List.getElem?_eq_getElem hj, WI.abs]
    have hixe : ixOf ((I.map WI.ent).map (·.1)) k = some j := by rw [keys_ent]; exact hix
    have hixa : ixOf ((I.map WI.abs).map (·.1)) k = some j := by rw [keys_abs]; exact hix
    refine ⟨⟨b, I.map WI.ent, I[j].a, I[j].c, Asn.star ((I.eraseIdx j).map WI.own), ?_, by simp, ?_, ?_, ?_, ?_⟩, ?_⟩
    · unfold lookE
      rw [hixe, hf]
      simp [List.getElem?_eq_getElem hj, WI.ent]
    · intro h q
      refine tab_close (starH_tail (fun h q => starH_tail (fun h q => starH_one.2 (star_holds.2 ?_)) q) q)
      rw [hf] at q
      have := star_in WI.own I j hj I[j] (star_cons q)
      rwa [List.set_getElem_self] at this
    · intro B d l' h q
      have e1 : putE (I.map WI.ent) k (.slice B l'.length d) = (I.set j ⟨k.1, k.2, l', B, d⟩).map WI.ent := by
        unfold putE
        rw [hixe, List.map_set]
        rfl
      have e2 : putT (I.map WI.abs) k l' = (I.set j ⟨k.1, k.2, l', B, d⟩).map WI.abs := by
        unfold putT
        rw [hixa, List.map_set]
        rfl
      rw [e1] at q
      rw [e2]
      exact tab_close (starH_tail (fun h q => starH_tail (fun h q => starH_one.2 (star_holds.2 (star_in WI.own I j hj ⟨k.1, k.2, l', B, d⟩ (star_cons q)))) q) q)
    · intro h q
      have e1 : delE (I.map WI.ent) k = (I.eraseIdx j).map WI.ent := by
        unfold delE
        rw [hixe, List.map_eraseIdx']
      have e2 : delT (I.map WI.abs) k = (I.eraseIdx j).map WI.abs := by
        unfold delT
        rw [hixa, List.map_eraseIdx']
      rw [e1] at q
      rw [e2]
      exact tab_close q
    · intro _ v
      have e1 : putE (I.map WI.ent) k v = (I.map WI.ent).set j (k, v) := by unfold putE; rw [hixe]
      rw [e1]
      unfold delE
      rw [ix_set hixe, hixe]
      simp only []
      rw [List.eraseIdx_set_eq]
    · refine starH_tail (fun h q => starH_tail (fun h q => ?_) q) q
      show Asn.starH [Row 3 1 I[j].a (findT (I.map WI.abs) k).length I[j].c ((findT (I.map WI.abs) k).flatMap encN), Asn.star ((I.eraseIdx j).map WI.own)] h
      rw [hf]
      exact cons_star (star_out WI.own I j hj (star_holds.1 (starH_one.1 q)))
  | none =>
    have hixe : ixOf ((I.map WI.ent).map (·.1)) k = none := by rw [keys_ent]; exact hix
    have hixa : ixOf ((I.map WI.abs).map (·.1)) k = none := by rw [keys_abs]; exact hix
    have hf : findT (I.map WI.abs) k = [] := by
      unfold findT
      rw [hixa]
    refine ⟨⟨b, I.map WI.ent, none, 0, Asn.star (I.map WI.own), ?_, by simp, ?_, ?_, ?_, ?_⟩, ?_⟩
    · unfold lookE
      rw [hixe, hf]
      rfl
    · intro h q
      refine tab_close (starH_tail (fun h q => starH_tail (fun h q => ?_) q) q)
      obtain ⟨h1, h2, d, a, b, p, q⟩ := q
      exact Asn.starH_mono _ b q
    · intro B d l' h q
      have e1 : putE (I.map WI.ent) k (.slice B l'.length d) = (I ++ [(⟨k.1, k.2, l', B, d⟩ : WI)]).map WI.ent := by
        unfold putE
        rw [hixe, List.map_append]
        rfl
      have e2 : putT (I.map WI.abs) k l' = (I ++ [(⟨k.1, k.2, l', B, d⟩ : WI)]).map WI.abs := by
        unfold putT
        rw [hixa, List.map_append]
        rfl
      rw [e1] at q
      rw [e2]
      refine tab_close (starH_tail (fun h q => starH_tail (fun h q => starH_one.2 (star_holds.2 ?_)) q) q)
      rw [List.map_append]
      obtain ⟨h1, h2, d, a, b, p, q⟩ := q
      exact (starH_append _ _).2 ⟨h2, h1, d.symm, b, a, star_holds.1 (starH_one.1 q), starH_one.2 p⟩
    · intro h q
      have e1 : delE (I.map WI.ent) k = I.map WI.ent := by unfold delE; rw [hixe]
      have e2 : delT (I.map WI.abs) k = I.map WI.abs := by unfold delT; rw [hixa]
      rw [e1] at q
      rw [e2]
      exact tab_close q
    · intro hne
      exact absurd hf hne
    · refine starH_tail (fun h q => starH_tail (fun h q => ?_) q) q
      show Asn.starH [Row 3 1 none (findT (I.map WI.abs) k).length 0 ((findT (I.map WI.abs) k).flatMap encN), Asn.star (I.map WI.own)] h
      rw [hf]
      exact ⟨Hp.emp, h, Hp.emp_dis _, Hp.emp_le _, Hp.le_refl _, Row.nil _ _ _, q⟩
/-! what the functions do, all in one -/
def waitT (T : WT) (k : Key) (o : Int) : WT × Int :=
  if o < -1 ∨ 7 ≤ o then (T, 2) else if o ∈ findT T k then (T, 0) else if findT T k = [] ∧ 64 ≤ T.length then (T, 3) else (putT T k (insI (findT T k) o), 0)
def dropT (T : WT) (k : Key) (o : Int) : WT × Bool :=
  if o ∈ findT T k then ((if (findT T k).filter (· != o) = [] then delT T k else putT T k ((findT T k).filter (· != o))), true) else (T, false)
/-- lists rise, and are not long -/
def okL (T : WT) (k : Key) : Prop := (findT T k).Pairwise (· < ·) ∧ (findT T k).length ≤ 1000
theorem pre1 {p : Nat} {T : WT} (k : Key) (h : Hp) (q : Asn.starH [TabM p T] h) : ∃ C : Cut p T k, Asn.starH ([Pt p 46 [.map (some C.b)], MapA encK C.b C.es, Row 3 1 C.A (findT T k).length C.c ((findT T k).flatMap encN)] ++ [C.rest]) h := cut k (starH_one.1 q)
theorem tLen (p : Nat) (T : WT) : Triple Try.prog 10 [.pointer (some ⟨p, 0, none⟩)] [TabM p T] [] Unit (fun _ => .int .i64 (T.length : Nat)) (fun _ => True) (fun _ => [TabM p T]) := by
  refine Triple.pre (α := {x : Nat × List WI // x.2.map WI.abs = T}) (M := fun x => [Pt p 46 [.map (some x.1.1)], MapA encK x.1.1 (x.1.2.map WI.ent)] ++ [Asn.star (x.1.2.map WI.own)]) (fun h q => ?_) fun ⟨⟨b, I⟩, hI⟩ => ?_
  · obtain ⟨x, q⟩ := starH_one.1 q
    exact ⟨x, star_holds.1 q⟩
  · refine ((len1 p b (I.map WI.ent)).frame _).imp fun _ _ => ⟨(), ?_, trivial, fun h q => starH_one.2 ?_⟩
    · rw [← hI, List.length_map, List.length_map]
    · have := tab_close (p := p) (b := b) (I := I) q
      rwa [show I.map WI.abs = T from hI] at this
theorem tHas (p : Nat) (T : WT) (s i o : Int) (hT : okL T (s, i)) : Triple Try.prog 19 [.pointer (some ⟨p, 0, none⟩), .int .i64 s, .int .i64 i, .int .i64 o] [TabM p T] [] Unit (fun _ => .bool (decide (o ∈ findT T (s, i)))) (fun _ => True) (fun _ => [TabM p T]) :=
  Triple.pre (pre1 (s, i)) fun C => ((has1 p C.b C.es s i o C.A (findT T (s, i)) _ C.c rfl hT.2 C.hv).frame _).imp fun _ _ => ⟨(), rfl, trivial, fun h q => starH_one.2 (C.same h q)⟩
theorem tTake (p : Nat) (T : WT) (s i : Int) : Triple Try.prog 11 [.pointer (some ⟨p, 0, none⟩), .int .i64 s, .int .i64 i] [TabM p T] [] (Option Addr × Nat × Nat) (fun (A, n, c) => .slice A n c) (fun (_, n, _) => n = (findT T (s, i)).length)
    (fun (A, n, c) => [TabM p (delT T (s, i)), Row 3 1 A n c ((findT T (s, i)).flatMap encN)]) :=
  Triple.pre (pre1 (s, i)) fun C => ((take1 p C.b C.es s i C.A (findT T (s, i)) _ C.c C.hv).frame _).imp fun _ _ => ⟨(C.A, (findT T (s, i)).length, C.c), rfl, rfl, fun h q => by
    have q2 := starH_tail (fun h q => starH_tail (fun h q => starH_swap q) q) q
    obtain ⟨h1, h2, d, a, b, p1, p2⟩ := (starH_append [_, _, _] [_]).1 q2
    exact ⟨h1, h2, d, a, b, C.del _ p1, p2⟩⟩
theorem tWait (p : Nat) (T : WT) (s i o : Int) (hT : okL T (s, i)) (R : WT × Int) (hR : R = waitT T (s, i) o) : Triple Try.prog 9 [.pointer (some ⟨p, 0, none⟩), .int .i64 s, .int .i64 i, .int .i64 o] [TabM p T] [] Unit (fun _ => .int .i64 R.2) (fun _ => True) (fun _ => [TabM p R.1]) := by
  subst hR
  refine Triple.pre (pre1 (s, i)) fun C => ?_
  unfold waitT
  by_cases h1 : o < -1 ∨ 7 ≤ o
  · rw [if_pos h1]
    exact ((wait_arg p C.b s i o h1).frame _).imp fun _ _ => ⟨(), rfl, trivial, fun h q => starH_one.2 (C.same h q)⟩
  · rw [if_neg h1]
    by_cases h2 : o ∈ findT T (s, i)
    · rw [if_pos h2]
      exact ((wait_ok p C.b C.es s i o C.A (findT T (s, i)) _ C.c rfl hT.2 hT.1 C.hv h1 h2).frame _).imp fun _ _ => ⟨(), rfl, trivial, fun h q => starH_one.2 (C.same h q)⟩
    · rw [if_neg h2]
      by_cases h3 : findT T (s, i) = [] ∧ 64 ≤ T.length
      · rw [if_pos h3]
        have hv := C.hv
        have hs := C.same
        rw [h3.1] at hv hs ⊢
        exact ((wait_long p C.b C.es s i o C.A C.c hv h1 (by rw [C.hlen]; exact h3.2)).frame _).imp fun _ _ => ⟨(), rfl, trivial, fun h q => starH_one.2 (hs h q)⟩
      · rw [if_neg h3]
        have hl : 0 < (findT T (s, i)).length ∨ C.es.length < 64 := by
          rw [C.hlen]
          rcases Nat.eq_zero_or_pos (findT T (s, i)).length with h | h
          · exact .inr (by
              have : ¬ 64 ≤ T.length := fun h4 => h3 ⟨List.eq_nil_of_length_eq_zero h, h4⟩
              omega)
          · exact .inl h
        have hi : (insI (findT T (s, i)) o).length = (findT T (s, i)).length + 1 := by
          have := posI_le (findT T (s, i)) o
          unfold insI
          rw [List.length_append, List.length_take, List.length_cons, List.length_drop]
          omega
        refine ((wait_put p C.b C.es s i o C.A (findT T (s, i)) _ C.c rfl hT.2 hT.1 C.hv h1 h2 hl).frame _).imp fun (B, d) _ => ⟨(), rfl, trivial, fun h q => starH_one.2 (C.put B d _ h ?_)⟩
        rw [hi]
        exact q
theorem tDrop (p : Nat) (T : WT) (s i o : Int) (hT : okL T (s, i)) (R : WT × Bool) (hR : R = dropT T (s, i) o) : Triple Try.prog 16 [.pointer (some ⟨p, 0, none⟩), .int .i64 s, .int .i64 i, .int .i64 o] [TabM p T] [] Unit (fun _ => .bool R.2) (fun _ => True) (fun _ => [TabM p R.1]) := by
  subst hR
  refine Triple.pre (pre1 (s, i)) fun C => ?_
  unfold dropT
  by_cases h2 : o ∈ findT T (s, i)
  · rw [if_pos h2]
    by_cases h3 : (findT T (s, i)).filter (· != o) = []
    · rw [if_pos h3]
      refine ((drop_last p C.b C.es s i o C.A (findT T (s, i)) _ C.c rfl hT.2 C.hv h2 h3.symm).frame _).imp fun _ _ => ⟨(), rfl, trivial, fun h q => starH_one.2 (C.del h ?_)⟩
      rw [← C.delput (fun e => by rw [e] at h2; cases h2) (.slice C.A 0 C.c)]
      exact q
    · rw [if_neg h3]
      have h0 : 0 < ((findT T (s, i)).filter (· != o)).length := Nat.pos_of_ne_zero fun e => h3 (List.eq_nil_of_length_eq_zero e)
      exact ((drop_yes p C.b C.es s i o C.A (findT T (s, i)) _ _ _ C.c rfl hT.2 C.hv h2 rfl rfl h0).frame _).imp fun _ _ => ⟨(), rfl, trivial, fun h q => starH_one.2 (C.put _ _ _ h q)⟩
  · rw [if_neg h2]
    exact ((drop_no p C.b C.es s i o C.A (findT T (s, i)) _ C.c rfl hT.2 C.hv h2).frame _).imp fun _ _ => ⟨(), rfl, trivial, fun h q => starH_one.2 (C.same h q)⟩
theorem tNew : Triple Try.prog 8 [] [] [] Nat (fun p => .pointer (some ⟨p, 0, none⟩)) (fun _ => True) (fun p => [TabM p []]) :=
  newT.imp fun (p, b) _ => ⟨p, rfl, trivial, fun h q => starH_one.2 (tab_close (I := []) (b := b) (by
    obtain ⟨h1, h2, d, a, b, p, q⟩ := q
    exact ⟨h1, h2, d, a, b, p, cons_star (l := []) (starH_one.2 (starH_one.1 q)) |> fun q => by
      obtain ⟨h3, h4, d, a, b, p, q⟩ := q
      exact ⟨h3, h4, d, a, b, p, q⟩⟩))⟩
end Go.Proofs.Ytkjpfodnbjbmfaa

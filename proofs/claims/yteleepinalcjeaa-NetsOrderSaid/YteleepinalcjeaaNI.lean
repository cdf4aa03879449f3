/-
  What is proved: what a net's functions do, told of the messages alone. Conditions: none.
-/
import Derived.Test.YteleepinalcjeaaNH
namespace Go.Proofs.Yteleepinalcjeaa
open Go.Sy

/-- a message that is told: its entries in memory of their own -/
def Msg.at (m : Msg) (A : Option Addr) : Item := ⟨m.s, m.es, A, m.es.length⟩
/-- p is a net, and these messages are under way -/
def NetM (p : Nat) (l : List Msg) : Asn := Asn.ex fun L : {L : List Item // L.map Item.msg = l} => Net p L.1
theorem NetM.out {p : Nat} {l : List Msg} {r : List Asn} {h : Hp} (q : Asn.starH (NetM p l :: r) h) : ∃ L : {L : List Item // L.map Item.msg = l}, Asn.starH (Net p L.1 :: r) h := starH_ex.1 q
theorem NetM.in {p : Nat} {l : List Msg} {r : List Asn} {h : Hp} {L : List Item} (hL : L.map Item.msg = l) (q : Asn.starH (Net p L :: r) h) : Asn.starH (NetM p l :: r) h := starH_ex.2 ⟨⟨L, hL⟩, q⟩
/-- each message has no more entries than -/
def fewM (l : List Msg) : Prop := ∀ m ∈ l, m.es.length ≤ 1000000000
theorem few_of {L : List Item} (h : fewM (L.map Item.msg)) : few L := fun x hx => h x.msg (List.mem_map_of_mem hx)
theorem erase_map {α β : Type} (f : α → β) : ∀ (l : List α) (i : Nat), (l.eraseIdx i).map f = (l.map f).eraseIdx i
  | [], _ => rfl
  | _ :: _, 0 => rfl
  | _ :: l, i + 1 => by simp [erase_map f l i]

theorem mNew : Triple Try.prog 10 [] [] [] Nat (fun p => .pointer (some ⟨p, 0, none⟩)) (fun _ => True) (fun p => [NetM p []]) :=
  new'.imp fun p _ => ⟨p, rfl, trivial, fun _ q => NetM.in rfl q⟩
theorem mLen (p : Nat) (l : List Msg) : Triple Try.prog 15 [.pointer (some ⟨p, 0, none⟩)] [NetM p l] [] Unit (fun _ => .int .i64 l.length) (fun _ => True) (fun _ => [NetM p l]) :=
  Triple.pre (fun _ => NetM.out) fun ⟨L, hL⟩ => by
    subst hL
    exact (len' p L).imp fun _ _ => ⟨(), by simp, trivial, fun _ q => NetM.in rfl q⟩
theorem mSend (p : Nat) (l : List Msg) (hk : l.length < 512) (m : MailS) (es : List Ent) (A : Option Addr) (c : Nat) (hn : es.length ≤ 1000000000) :
    Triple Try.prog 20 [.pointer (some ⟨p, 0, none⟩), mailV m A es.length c] [NetM p l] [Rd 6 A es.length (es.flatMap encE)] Unit (fun _ => .bool true) (fun _ => True) (fun _ => [NetM p (l ++ [⟨m, es⟩])]) :=
  Triple.pre (fun _ => NetM.out) fun ⟨L, hL⟩ => by
    subst hL
    exact (send' p L (by simpa using hk) m es A c hn).imp fun _ _ => ⟨(), rfl, trivial, fun _ q => NetM.in (by rw [List.map_append]; rfl) q⟩
theorem mSend_full (p : Nat) (l : List Msg) (hk : 512 ≤ l.length) (m : MailS) (B : Option Addr) (k d : Nat) :
    Triple Try.prog 20 [.pointer (some ⟨p, 0, none⟩), mailV m B k d] [NetM p l] [] Unit (fun _ => .bool false) (fun _ => True) (fun _ => [NetM p l]) :=
  Triple.pre (fun _ => NetM.out) fun ⟨L, hL⟩ => by
    subst hL
    exact (send_full' p L (by simpa using hk) m B k d).imp fun _ _ => ⟨(), rfl, trivial, fun _ q => NetM.in rfl q⟩
theorem mLook_out (p : Nat) (l : List Msg) (i : Int) (hi : i < 0 ∨ (l.length : Int) ≤ i) :
    Triple Try.prog 23 [.pointer (some ⟨p, 0, none⟩), .int .i64 i] [NetM p l] [] Unit (fun _ => .tuple #[zeroV, .bool false]) (fun _ => True) (fun _ => [NetM p l]) :=
  Triple.pre (fun _ => NetM.out) fun ⟨L, hL⟩ => by
    subst hL
    exact (look_out p L i (by simpa using hi)).imp fun _ _ => ⟨(), rfl, trivial, fun _ q => NetM.in rfl q⟩
theorem mLook (p : Nat) (l : List Msg) (hl : fewM l) (i : Nat) (hi : i < l.length) :
    Triple Try.prog 23 [.pointer (some ⟨p, 0, none⟩), .int .i64 i] [NetM p l] [] (Option Addr) (fun A => .tuple #[(l[i].at A).val, .bool true]) (fun _ => True) (fun A => [NetM p l, (l[i].at A).own]) :=
  Triple.pre (fun _ => NetM.out) fun ⟨L, hL⟩ => by
    subst hL
    have hi' : i < L.length := by simpa using hi
    have e : (L.map Item.msg)[i] = L[i].msg := by simp
    rw [e]
    exact (look_in p L (few_of hl) i hi').imp fun A _ => ⟨A, rfl, trivial, fun _ q => NetM.in rfl q⟩
theorem mTake_out (p : Nat) (l : List Msg) (i : Int) (hi : i < 0 ∨ (l.length : Int) ≤ i) :
    Triple Try.prog 22 [.pointer (some ⟨p, 0, none⟩), .int .i64 i] [NetM p l] [] Unit (fun _ => .tuple #[zeroV, .bool false]) (fun _ => True) (fun _ => [NetM p l]) :=
  Triple.pre (fun _ => NetM.out) fun ⟨L, hL⟩ => by
    subst hL
    exact (take_out p L i (by simpa using hi)).imp fun _ _ => ⟨(), rfl, trivial, fun _ q => NetM.in rfl q⟩
theorem mTake (p : Nat) (l : List Msg) (hl : fewM l) (hn : l.length ≤ 1000000000) (i : Nat) (hi : i < l.length) :
    Triple Try.prog 22 [.pointer (some ⟨p, 0, none⟩), .int .i64 i] [NetM p l] [] (Option Addr) (fun A => .tuple #[(l[i].at A).val, .bool true]) (fun _ => True) (fun A => [NetM p (l.eraseIdx i), (l[i].at A).own]) :=
  Triple.pre (fun _ => NetM.out) fun ⟨L, hL⟩ => by
    subst hL
    have hi' : i < L.length := by simpa using hi
    have e : (L.map Item.msg)[i] = L[i].msg := by simp
    rw [e]
    exact (take_in p L (few_of hl) (by simpa using hn) i hi').imp fun A _ => ⟨A, rfl, trivial, fun _ q => NetM.in (erase_map _ _ _) q⟩
theorem mDrop_out (p : Nat) (l : List Msg) (i : Int) (hi : i < 0 ∨ (l.length : Int) ≤ i) :
    Triple Try.prog 24 [.pointer (some ⟨p, 0, none⟩), .int .i64 i] [NetM p l] [] Unit (fun _ => .bool false) (fun _ => True) (fun _ => [NetM p l]) :=
  Triple.pre (fun _ => NetM.out) fun ⟨L, hL⟩ => by
    subst hL
    exact (drop_out p L i (by simpa using hi)).imp fun _ _ => ⟨(), rfl, trivial, fun _ q => NetM.in rfl q⟩
theorem mDrop (p : Nat) (l : List Msg) (hl : fewM l) (hn : l.length ≤ 1000000000) (i : Nat) (hi : i < l.length) :
    Triple Try.prog 24 [.pointer (some ⟨p, 0, none⟩), .int .i64 i] [NetM p l] [] Unit (fun _ => .bool true) (fun _ => True) (fun _ => [NetM p (l.eraseIdx i)]) :=
  Triple.pre (fun _ => NetM.out) fun ⟨L, hL⟩ => by
    subst hL
    exact (drop_in p L (few_of hl) (by simpa using hn) i (by simpa using hi)).imp fun _ _ => ⟨(), rfl, trivial, fun _ q => NetM.in (erase_map _ _ _) q⟩
theorem mCopy_out (p : Nat) (l : List Msg) (i : Int) (hi : i < 0 ∨ (l.length : Int) ≤ i) :
    Triple Try.prog 21 [.pointer (some ⟨p, 0, none⟩), .int .i64 i] [NetM p l] [] Unit (fun _ => .bool false) (fun _ => True) (fun _ => [NetM p l]) :=
  Triple.pre (fun _ => NetM.out) fun ⟨L, hL⟩ => by
    subst hL
    exact (copy_out p L i (by simpa using hi)).imp fun _ _ => ⟨(), rfl, trivial, fun _ q => NetM.in rfl q⟩
theorem mCopy_full (p : Nat) (l : List Msg) (hl : fewM l) (hk : 512 ≤ l.length) (i : Nat) (hi : i < l.length) :
    Triple Try.prog 21 [.pointer (some ⟨p, 0, none⟩), .int .i64 i] [NetM p l] [] Unit (fun _ => .bool false) (fun _ => True) (fun _ => [NetM p l]) :=
  Triple.pre (fun _ => NetM.out) fun ⟨L, hL⟩ => by
    subst hL
    exact (copy_full p L (few_of hl) (by simpa using hk) i (by simpa using hi)).imp fun _ _ => ⟨(), rfl, trivial, fun _ q => NetM.in rfl q⟩
theorem mCopy (p : Nat) (l : List Msg) (hl : fewM l) (hk : l.length < 512) (i : Nat) (hi : i < l.length) :
    Triple Try.prog 21 [.pointer (some ⟨p, 0, none⟩), .int .i64 i] [NetM p l] [] Unit (fun _ => .bool true) (fun _ => True) (fun _ => [NetM p (l ++ [l[i]])]) :=
  Triple.pre (fun _ => NetM.out) fun ⟨L, hL⟩ => by
    subst hL
    exact (copy_in p L (few_of hl) (by simpa using hk) i (by simpa using hi)).imp fun A _ => ⟨(), rfl, trivial, fun _ q => NetM.in (by simp [told, Item.msg]) q⟩
theorem mAll (p : Nat) (l : List Msg) (hl : fewM l) (hn : l.length ≤ 512) :
    Triple Try.prog 17 [.pointer (some ⟨p, 0, none⟩)] [NetM p l] [] (List Item × Option Addr × Nat) (fun x => .slice x.2.1 x.1.length x.2.2) (fun x => x.1.map Item.msg = l)
      (fun x => [NetM p l, Row 36 18 x.2.1 x.1.length x.2.2 (x.1.flatMap encI), Asn.star (x.1.map Item.own)]) :=
  Triple.pre (fun _ => NetM.out) fun ⟨L, hL⟩ => by
    subst hL
    exact (all' p L (few_of hl) (by simpa using hn)).imp fun x hx => ⟨x, rfl, hx, fun _ q => NetM.in rfl q⟩
end Go.Proofs.Yteleepinalcjeaa

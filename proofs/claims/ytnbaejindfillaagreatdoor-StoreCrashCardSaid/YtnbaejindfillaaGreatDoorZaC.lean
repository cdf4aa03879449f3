/-
  What is proved: storeCrash_card. Conditions: none.
-/
import Derived.WalkKit
import Derived.OrdersHeld
import Derived.Deep.LoopGhost
import Derived.Maps.AppendAt
import Derived.Laws.StructEq
import Derived.Laws.CopyRow
import Derived.LoopN
import Derived.Laws.MakeOwn
import Derived.Lib.Overlaps
import Derived.MapKept
import Derived.Test.YtnbaejindfillaaGreatDoorRows
import Derived.RangeFuncLeaves
import Derived.RangeFuncRecord
import Derived.RangeFuncCalls
import Derived.TacticsIn
import Derived.Scope
import Derived.Lib.AppendStr
import Derived.Lib.UnsafeStr
import Derived.Lib.Builder
import Derived.Laws.IdiomStrings
import Derived.Laws.BytesArg
import Derived.ArgAppend
import Derived.Shelf.LaysM
import Derived.Shelf.Strconv.Itoa3
import Derived.Test.YtnbaejindfillaaGreatDoorProg
import Derived.Lib.AppendIntMem
import Derived.Carry
import Derived.ChangeSame
import Derived.JoinedOf
import Derived.JoinedAt
import Derived.ChangeArms
import Derived.WideKeyArr2
import Derived.Test.YtnbaejindfillaaGreatDoorCards
import Derived.Test.YtnbaejindfillaaGreatDoorTie
import Derived.SevenTiedAt
import Derived.LaidLaws
import Derived.LaidMore
import Derived.Lib.LaidTab
import Derived.Stop.LaidErr
import Derived.OpenShut
import Derived.ChangeMaps5
import Derived.Test.YtnbaejindfillaaGreatDoorZaC6
set_option maxRecDepth 100000
namespace Go.Sy
open Go.RowKit
theorem ap {l:List Asn} {A:Asn} (hA:A∈l) {h:Hp} (p:Asn.starH l h):A.holds h:=by
 obtain ⟨hs,h1,_,h3⟩:=Asn.starH_split l p
 obtain ⟨i,hi⟩:=List.mem_iff_getElem?.1 hA
 exact A.mono (h1 i) (h3 i A hi)
section
variable {P:Program} {T:Tbs} {E:Entry} {Q:Exit->St->Prop} {ops:Array Oper} {l:List Oper} {r:List It} {st:St}
end
theorem aU:∀ {l:List Rec} {x y:Sta} (k:Nat),writeS x l=some y->∃ z,writeS x (l.take k)=some z
 | [],x,y,k,h=>⟨x,by rw [List.take_nil];rfl⟩
 | r::l,x,y,0,h=>⟨x,rfl⟩
 |
  r::l,x,y,k+1,h=>by
  simp only [writeS,List.take_succ_cons] at h ⊢
  cases hs:stepS x r with
  | none=>rw [hs] at h;cases h
  | some z=>rw [hs] at h;exact aU k h
/-! a checkpoint -/
end Go.Sy
namespace Go.Proofs.YtnbaejindfillaaGreatDoor
open Go.Sy
theorem db {f:FuncId} {args:List Value} {M:List Asn} {B C:Asn} {H:Option Addr} {nh ch e:Nat} {cs:List Value} {X:Type} {ret:X->Value} {good:X->Prop} {post:X->List Asn} (T:Triple Tryz.prog f args M [TabA,Rd 1 H nh cs,B,C] X ret good post):Triple Tryz.prog f args M [TabA,Row e 1 H nh ch cs,B,C] X ret good post :=
 T.reads λ X hX=>by
  simp only [List.mem_cons,List.not_mem_nil,or_false] at hX
  rcases hX with rfl | rfl | rfl | rfl
  . exact ⟨_,List.mem_cons_self,λ _ q=>q⟩
  . exact ⟨_,List.mem_cons_of_mem _ List.mem_cons_self,λ _ q=>Row.rd q⟩
  . exact ⟨_,List.mem_cons_of_mem _ (List.mem_cons_of_mem _ List.mem_cons_self),λ _ q=>q⟩
  exact ⟨_,List.mem_cons_of_mem _ (List.mem_cons_of_mem _ (List.mem_cons_of_mem _ List.mem_cons_self)),λ _ q=>q⟩
theorem ar (D:DK) (late:Bool) (L2:List Fl):(chg D late L2).1.starts=D.starts/\(chg D late L2).1.most=D.most:=by
 unfold chg
 split
 . exact ⟨rfl,rfl⟩
 split<;>exact ⟨rfl,rfl⟩
theorem bG (D:DK) (x y:BA):(appD D x y).1.starts=D.starts:=by
 unfold appD
 repeat' split
 all_goals first | rfl | exact (ar _ _ _).1
theorem br (D:DK) (x:BA):(syncD D x).1.starts=D.starts:=by
 unfold syncD
 repeat' split
 all_goals first | rfl | exact (ar _ _ _).1
theorem bB (D:DK) (x y:BA):(renD D x y).1.starts=D.starts:=by
 unfold renD
 repeat' split
 all_goals first | rfl | exact (ar _ _ _).1
theorem bC (D:DK) (x:BA):(remD D x).1.starts=D.starts:=by
 unfold remD
 repeat' split
 all_goals first | rfl | exact (ar _ _ _).1
theorem ax:∀ {fs:List (DK->DK × Int)} {D:DK},(∀ f∈fs,∀ D,(f D).1.starts=D.starts)->(runD fs D).1.starts=D.starts
 | [],_,_=>rfl
 |
  f::fs,D,hf=>by
  have h1:=hf f List.mem_cons_self D
  unfold runD
  split
  . rw [ax (λ g hg=>hf g (List.mem_cons_of_mem _ hg)),h1]
  exact h1
theorem bF (L:List BA) (D:DK):(runD (remL L) D).1.starts=D.starts:=ax λ f hf D=>by
 obtain ⟨x,_,rfl⟩:=List.mem_map.1 hf
 exact bC _ _
theorem aQ (F:BA) (n:Nat) (D:DK):(runD (ckL3 F n) D).1.starts=D.starts:=ax λ f hf D=>by
 simp only [ckL3,List.mem_cons,List.not_mem_nil,or_false] at hf
 rcases hf with rfl | rfl | rfl
 . exact bG _ _ _
 . exact br _ _
 exact bB _ _ _
theorem bM (W:WK) (D:DK) (ps:List BA):(ckW W D ps).2.1.starts=D.starts:=by
 unfold ckW
 dsimp only
 split
 . rfl
 split
 . rfl
 split
 . rfl
 split
 . exact aQ _ _ _
 rw [bF,aQ]
open Go.Sy Go.RowKit Go.ChangeShapes Go.WideShapes
instance:Inhabited Ent:=⟨⟨0,0,0,0,0,0⟩⟩
instance:Inhabited Spt:=⟨⟨0,0⟩⟩
theorem cx (x:Ent):(encE x).length=6:=rfl
theorem cy (x:Spt):(encP x).length=2:=rfl
theorem cN {w:World} {F:Nat} {vs:List Value} (hl:vs.length=1) (h:Sees Tryz.tab w (F+1) 3 vs):∃ x:Int,vs=encN x/\True:=by
 obtain ⟨n0,e0,_⟩:=leaf_int (F:=F) (d:=0) (k:=.i64) (u:=3) rfl rfl h 0 (by decide)
 exact ⟨n0,eq_of_at hl (And.intro e0 trivial),trivial⟩
theorem cM {w:World} {F:Nat} {vs:List Value} (hl:vs.length=2) (h:Sees Tryz.tab w (F+1+1) 72 vs):∃ x:Spt,vs=encP x/\(True):=by
 obtain ⟨n0,e0,w0⟩:=leaf_int (F:=F) (d:=1) (k:=.i64) (u:=3) rfl rfl h 0 (by decide)
 obtain ⟨n1,e1,w1⟩:=leaf_int (F:=F) (d:=1) (k:=.i64) (u:=3) rfl rfl h 1 (by decide)
 exact ⟨⟨n0,n1⟩,eq_of_at hl (And.intro e0 (And.intro e1 trivial)),trivial⟩
theorem cD {w:World} {F:Nat} {vs:List Value} (hl:vs.length=6) (h:Sees Tryz.tab w (F+1+2) 101 vs):∃ x:Ent,vs=encE x/\(True):=by
 obtain ⟨n0,e0,w0⟩:=leaf_int (F:=F) (d:=2) (k:=.i64) (u:=3) rfl rfl h 0 (by decide)
 obtain ⟨n1,e1,w1⟩:=leaf_int (F:=F) (d:=2) (k:=.i64) (u:=3) rfl rfl h 1 (by decide)
 obtain ⟨n2,e2,w2⟩:=leaf_int (F:=F) (d:=2) (k:=.i64) (u:=3) rfl rfl h 2 (by decide)
 obtain ⟨n3,e3,w3⟩:=leaf_int (F:=F) (d:=2) (k:=.i64) (u:=3) rfl rfl h 3 (by decide)
 obtain ⟨n4,e4,w4⟩:=leaf_int (F:=F) (d:=2) (k:=.i64) (u:=3) rfl rfl h 4 (by decide)
 obtain ⟨n5,e5,w5⟩:=leaf_int (F:=F) (d:=2) (k:=.i64) (u:=3) rfl rfl h 5 (by decide)
 exact ⟨⟨n0,n1,n2,n3,n4,n5⟩,eq_of_at hl (And.intro e0 (And.intro e1 (And.intro e2 (And.intro e3 (And.intro e4 (And.intro e5 trivial)))))),trivial⟩
theorem cK {w:World} {F:Nat} {vs:List Value} (hl:vs.length=8) (h:Sees Tryz.tab w (F+1+1+1+1+1) 54 vs):∃ x:RecS,vs=encR x/\((x.rdL.holds (hp w)/\x.rdF.holds (hp w))/\x.r.L.length<=reachBytes):=by
 obtain ⟨n0,e0,w0⟩:=leaf_int (F:=F+1+1+1) (d:=1) (k:=.i64) (u:=3) rfl rfl h 0 (by decide)
 obtain ⟨n1,e1,w1⟩:=leaf_int (F:=F+1+1+1) (d:=1) (k:=.i64) (u:=3) rfl rfl h 1 (by decide)
 obtain ⟨n2,e2,w2⟩:=leaf_int (F:=F+1+1+1) (d:=1) (k:=.i64) (u:=3) rfl rfl h 2 (by decide)
 obtain ⟨n3,e3,w3⟩:=leaf_int (F:=F+1+1+1) (d:=1) (k:=.i64) (u:=3) rfl rfl h 3 (by decide)
 obtain ⟨n4,e4,w4⟩:=leaf_int (F:=F+1+1+1) (d:=1) (k:=.i64) (u:=3) rfl rfl h 4 (by decide)
 obtain ⟨n5,e5,w5⟩:=leaf_int (F:=F+1+1+1) (d:=1) (k:=.i64) (u:=3) rfl rfl h 5 (by decide)
 obtain ⟨A6,n6,c6,l6,e6,hn6,hc6,hm6,hr6,hg6⟩:=leaf_slice (F:=F+1+1+1) (d:=1) (u:=30) (el:=101) (enc:=encE) (G:=λ _=>True) rfl rfl (by decide) cx (λ _=>rfl) (λ vs hl h=>cD hl h) rfl h 6 (by decide)
 subst hn6
 obtain ⟨A7,n7,c7,l7,e7,hn7,hc7,hm7,hr7,hg7⟩:=leaf_slice (F:=F+1+1+1) (d:=1) (u:=34) (el:=72) (enc:=encP) (G:=λ _=>True) rfl rfl (by decide) cy (λ _=>rfl) (λ vs hl h=>cM hl h) rfl h 7 (by decide)
 subst hn7
 exact ⟨⟨⟨n0,n1,n2,n3,n4,n5,l6,l7⟩,A6,c6,A7,c7⟩,eq_of_at hl (And.intro e0 (And.intro e1 (And.intro e2 (And.intro e3 (And.intro e4 (And.intro e5 (And.intro e6 (And.intro e7 trivial)))))))),⟨hr6,hr7⟩,hm6.2⟩
theorem cw {w:World} {l:List ActA} (h:∀ x∈l,(x.rdA.holds (hp w)/\(RecsRd x.L).holds (hp w)/\x.rdK.holds (hp w))/\(0<=x.k/\x.k<256)/\∀ y∈x.L,y.r.L.length<=reachBytes):(ActsA l).holds (hp w)/\(∀ x∈l,∀ y∈x.L,y.r.L.length<=140737488351232)/\∀ x∈l,0<=x.k/\x.k<256:=⟨λ x hx=>(h x hx).1,λ x hx=>(h x hx).2.2,λ x hx=>(h x hx).2.1⟩
theorem bW {n c:Nat} (h:n<=c) (h2:c<=maxLen/\n<=reachBytes):n<=9223372036854775807:=Nat.le_trans h h2.1
theorem cq:bytesOk Tryz.prog Tryz.tbs.tab=true:=by kernel_rfl
theorem cV {l:List Nat} (h:l.all (· <= reachBytes)=true):∀ k∈l,k<=reachBytes:=λ k hk=>of_decide_eq_true (List.all_eq_true.1 h k hk)
abbrev cS:List (String × DataW Unit):=Rows.storeNoneRow.laid
theorem cr (os:Os) (args:Array Value):laidMetH Tryz.prog cS ((World.doorLaid Tryz.prog 400 os).forCall (λ _ _=>0) ⟨#[],args,[]⟩).memory:=by
 rw [MakeChecks.laidMetH_plain _ _ _ (by kernel_rfl)]
 exact laidMet_of_run' 8 (by kernel_rfl) (by kernel_rfl)
theorem cX {W:World} (h:laidMetH Tryz.prog cS W):TabA.holds (hp W):=by
 rw [MakeChecks.laidMetH_plain _ _ _ (by kernel_rfl)] at h
 obtain ⟨g,hg,hgt⟩:∃ g,Tryz.prog.globalNamed "internal/strconv.uint64pow10" = some g/\(Tryz.prog.globals[g]?).map (·.type)=some 227:=⟨0,by kernel_rfl,by kernel_rfl⟩
 have h3:Lib.TabIs Tryz.prog W "internal/strconv.uint64pow10" .u64 Lib.pow10Tab:=Lib.tabIs_of_head (g:=g) (t:=227) (e:=189) (n:=20) hg hgt (by kernel_rfl) (by kernel_rfl) (by kernel_rfl) (by kernel_rfl) (laidMet.tail (laidMet.tail h))
 intro w hw
 have h4:W.var? Tryz.prog "internal/strconv.uint64pow10" = some (Lib.pow10Tab.map λ z=>Value.int .u64 z).toArray:=h3
 show w.var? Tryz.prog "internal/strconv.uint64pow10" = some _
 unfold World.var? at h4 ⊢
 rw [hg] at h4 ⊢
 simp only [Option.bind_some] at h4 ⊢
 cases hx:W.heap[g]? with
 | none=>rw [hx] at h4;cases h4
 |
  some o =>
  rw [hx] at h4
  have h5:w.heap[g]? = some o:=hw g o hx
  rw [h5]
  exact h4
open Go.Sy Go.RowKit
theorem ci {l:List Nat} {k:Nat} (h:k∈l):k<=l.sum:=by
 induction l with
 | nil=>cases h
 |
  cons a l ih =>
  rw [List.sum_cons]
  rcases List.mem_cons.1 h with rfl | h
  . omega
  have:=ih h
  omega
theorem cm {l:List ActA} {x:ActA} (h:x∈l):entsR x.L<=entsA l:=ci (List.mem_map_of_mem h)
theorem cv {L:List RecS} {y:RecS} (h:y∈L):y.r.L.length<=entsR L:=ci (List.mem_map_of_mem h)
theorem cu {l:List ActA} {x:ActA} (hx:x∈l) (hf:Fit x) (he:entsA l<=1500):∀ y∈x.L,y.r.L.length<=2000/\y.r.F.length<=100000:=λ y hy=>by
 have h1:=cm hx
 have h2:=cv hy
 have h3:=hf.feed y hy
 omega
theorem bi {x:StaS} (h:okS x.abs) {j:Nat} {g:RegS} (hg:x.regs[j]? = some g):g.r.L.length<=1000:=by
 have h1:=h.regs g.r (by rw [abs_R];exact List.mem_map_of_mem (List.mem_of_getElem? hg))
 have:=wholeE_len (okR_of h1).2.2.2.1
 omega
def av (l:List ActA):Nat:=(l.map λ x=>47*x.L.length+30*entsR x.L).sum
theorem au {l:List ActA} {k:Nat} (h:k<l.length):av (l.take (k+1))=av (l.take k)+(47*l[k].L.length+30*entsR l[k].L):=by
 unfold av
 rw [<-List.take_append_getElem h,List.map_append,List.sum_append,List.map_cons,List.map_nil,List.sum_cons,List.sum_nil,Nat.add_zero]
theorem bA:∀ {l:List ActA},(∀ x∈l,Fit x)->av l<=282*l.length+30*entsA l
 | [],_=>Nat.le_refl _
 |
  x::l,h=>by
  have h1:=bA (l:=l) λ y hy=>h y (List.mem_cons_of_mem _ hy)
  have h2:=(h x List.mem_cons_self).recs
  simp only [av,entsA,List.map_cons,List.sum_cons,List.length_cons] at h1 ⊢
  omega
theorem aR:∀ (l:List Nat) (k:Nat),(l.take k).sum<=l.sum
 | [],k=>by simp
 | a::l,0=>by simp
 |
  a::l,k+1=>by
  have:=aR l k
  simp only [List.take_succ_cons,List.sum_cons]
  omega
theorem cc {l:List ActA} (h:∀ x∈l,Fit x) (hn:l.length<=40) (he:entsA l<=1500) (k:Nat):av (l.take k)<=56280:=by
 have h1:=bA h
 have h2:=aR (l.map λ x=>47*x.L.length+30*entsR x.L) k
 rw [<-List.map_take] at h2
 unfold av at h1 ⊢
 omega
theorem c4 {A B C D E F:Asn} {h:Hp} (p:Asn.starH [A,B,C,D,E,F] h):Asn.starH [D,E,F,Asn.tt,Asn.tt,Asn.tt] h:=by
 obtain ⟨_,h2,_,_,a2,_,_,h3,_,_,a3,_,_,h4,_,_,a4,_,q⟩:=p
 exact (starH_append [D,E,F] [Asn.tt,Asn.tt,Asn.tt]).2 ⟨h4,Hp.emp,Hp.dis_emp _,(a4.trans a3).trans a2,Hp.emp_le _,q,Hp.emp,Hp.emp,Hp.dis_emp _,Hp.le_refl _,Hp.le_refl _,trivial,Hp.emp,Hp.emp,Hp.dis_emp _,Hp.le_refl _,Hp.le_refl _,trivial,starH_one.2 trivial⟩
theorem cT (x:Ent):Triple Tryz.prog 173 [.agg (encO x).toArray] [] [] Unit (λ _=>.bool (okO x)) (λ _=>True) (λ _=>[]):=by
 obtain ⟨e,id,st,ex,k,a⟩:=x
 obtain ⟨R,hR⟩:∃ R,R=okO ⟨e,id,st,ex,k,a⟩:=⟨_,rfl⟩
 rw [<-hR]
 unfold okO at hR
 simp only at hR
 refine aT Tryz.func173 [.ag [vI id,vI st,vI ex,vI k,vI a]] [] (λ E=>?_) ⟨⟨trivial,trivial,trivial,trivial,trivial,trivial⟩,trivial⟩
 refine aG ?_
 refine ev_new λ b10=>?_
 refine ev_if_lt (λ h11=>?_) (λ h11=>?_)
 refine aG ?_
 refine ev_if_lt (λ h12=>?_) (λ h12=>?_)
 refine aG ?_
 refine ev_if_lt (λ h13=>?_) (λ h13=>?_)
 refine aG ?_
 refine ev_if_lt (λ h14=>?_) (λ h14=>?_)
 refine aG ?_
 refine ev_if_lt (λ h15=>?_) (λ h15=>?_)
 refine aG ?_
 refine ev_if_lt (λ h16=>?_) (λ h16=>?_)
 refine aG ?_
 refine ev_if_lt (λ h17=>?_) (λ h17=>?_)
 refine aG ?_
 refine ev_if_lt (λ h18=>?_) (λ h18=>?_)
 refine aG ?_
 refine ev_if_lt (λ h19=>?_) (λ h19=>?_)
 refine aG ?_
 refine ev_fin ⟨trivial,_,rfl,(()),?_,(by trivial),Frm.nil _⟩
 rotate_left
 refine aG ?_
 refine ev_fin ⟨trivial,_,rfl,(()),?_,(by trivial),Frm.nil _⟩
 rotate_left
 refine aG ?_
 refine ev_fin ⟨trivial,_,rfl,(()),?_,(by trivial),Frm.nil _⟩
 rotate_left
 refine aG ?_
 refine ev_fin ⟨trivial,_,rfl,(()),?_,(by trivial),Frm.nil _⟩
 rotate_left
 refine aG ?_
 refine ev_fin ⟨trivial,_,rfl,(()),?_,(by trivial),Frm.nil _⟩
 rotate_left
 refine aG ?_
 refine ev_fin ⟨trivial,_,rfl,(()),?_,(by trivial),Frm.nil _⟩
 rotate_left
 refine aG ?_
 refine ev_fin ⟨trivial,_,rfl,(()),?_,(by trivial),Frm.nil _⟩
 rotate_left
 refine aG ?_
 refine ev_fin ⟨trivial,_,rfl,(()),?_,(by trivial),Frm.nil _⟩
 rotate_left
 refine aG ?_
 refine ev_fin ⟨trivial,_,rfl,(()),?_,(by trivial),Frm.nil _⟩
 rotate_left
 refine aG ?_
 refine ev_fin ⟨trivial,_,rfl,(()),?_,(by trivial),Frm.nil _⟩
 rotate_left
 all_goals (show Value.bool _=Value.bool R;congr 1;rw [hR];first | grind | (simp [*];first | done | omega))
theorem cH (x:Ent):Triple Tryz.prog 150 [.agg (encO x).toArray] [] [] Unit (λ _=>.int .i64 (if okO x=true then 0 else 2)) (λ _=>True) (λ _=>[]):=by
 have T1:=cT x
 obtain ⟨e,id,st,ex,k,a⟩:=x
 obtain ⟨R,hR⟩:∃ R,R=okO ⟨e,id,st,ex,k,a⟩:=⟨_,rfl⟩
 rw [<-hR] at T1 ⊢
 refine aT Tryz.func150 [.ag [vI id,vI st,vI ex,vI k,vI a]] [] (λ E=>?_) ⟨⟨trivial,trivial,trivial,trivial,trivial,trivial⟩,trivial⟩
 cases R with
 | true =>
  refine go Tryz.tbs_ok 1000 ?_
  refine ev_new λ b10=>?_
  refine aC T1 [] [] λ _ h11=>?_
  refine aI ?_
  refine ev_fin ⟨trivial,_,rfl,(()),rfl,(by trivial),Frm.nil _⟩
 | false =>
  refine go Tryz.tbs_ok 1000 ?_
  refine ev_new λ b20=>?_
  refine aC T1 [] [] λ _ h21=>?_
  refine aJ ?_
  refine ev_fin ⟨trivial,_,rfl,(()),rfl,(by trivial),Frm.nil _⟩
def aX (L:List Ent) (s:Int):Bool:=L.all λ x=>decide (1<=x.e)&&decide (x.e<=1048576)&&decide (x.st=s)&&okO x
theorem cd {L:List Ent} {s:Int} {i:Nat} (h:i<L.length):aX (L.take (i+1)) s=(aX (L.take i) s&&(decide (1<=L[i].e)&&decide (L[i].e<=1048576)&&decide (L[i].st=s)&&okO L[i])):=by
 unfold aX
 rw [<-List.take_append_getElem h,List.all_append]
 simp only [List.all_cons,List.all_nil,Bool.and_true]
theorem cO {L:List Ent} {s:Int} {i:Nat} (h:i<L.length) (hno:(decide (1<=L[i].e)&&decide (L[i].e<=1048576)&&decide (L[i].st=s)&&okO L[i])=false):aX L s=false:=by
 unfold aX
 rw [List.all_eq_false]
 exact ⟨L[i],List.getElem_mem h,by rw [hno];decide⟩
set_option maxHeartbeats 4000000 in
theorem cZ (C:Option Addr) (L:List Ent) (m d:Nat) (s most:Int) (hm:m=L.length) (h1:m<=1000000) :
 Triple Tryz.prog 149 [.slice C m d,.int .i64 s,.int .i64 most] [] [Rd 6 C m (L.flatMap encE)] Unit (λ _=>.bool (decide ((m:Int)<=most)&&aX L s)) (λ _=>True) (λ _=>[]):=by
 obtain ⟨R,hR⟩:∃ R,R=(decide ((m:Int)<=most)&&aX L s):=⟨_,rfl⟩
 rw [<-hR]
 refine aT Tryz.func149 [vL C m d,vI s,vI most] [] (λ E=>?_) ⟨trivial,trivial,trivial,trivial⟩
 refine aG ?_
 refine ev_if_lt (λ h10=>?_) (λ h10=>?_)
 refine aG ?_
 refine ev_fin ⟨trivial,_,rfl,(()),?_,(by trivial),Frm.nil _⟩
 rotate_left
 refine aG ?_
 rotate_left
 . show Value.bool _=Value.bool R
   rw [hR,decide_eq_false (by omega)]
   rfl
 refine ev_stop (go_loopR [6,7,12,13,14,15,16,17,18,19,20,21,22,23,24,25,26,27,28,29,30,31,32,33,34,35,36,37,38,39,40,41,42,43] (λ i=>[(7,vI (i:Nat))]) (λ _=>[]) (λ i=>i<=m/\aX (L.take i) s=true) (λ i=>m-i) (0:Nat) ⟨Nat.zero_le _,rfl⟩ aS (λ i h_=>?_))
 obtain ⟨hi,hE⟩:=h_
 rcases Nat.lt_or_ge i m with him | him
 . have hil:i<L.length:=by omega
   have ht:=cd (s:=s) hil
   have hno:=cO (s:=s) hil
   have T1:=cT L[i]
   obtain ⟨w,hw⟩:∃ w,w=okO L[i]:=⟨_,rfl⟩
   rw [<-hw] at T1 ht hno
   refine aG ?_
   refine aJ ?_ (decide_eq_true (show (↑i:Int)<(↑m:Int) from (by omega)))
   refine ev_stop (go_indexE (sz:=6) Tryz.tbs_ok (.inl 0) (i) rfl rfl rfl rfl rfl rfl (by omega) rfl (λ _ h=>h) (λ g20 o22 e21=>?_))
   subst e21
   refine aG ?_
   have l23:i<(L).length:=(by omega)
   refine ev_stop (go_loadE Tryz.tbs_ok (.inl 0) (i) 0 rfl rfl rfl rfl (λ _ h=>h) (by omega) (λ _=>rfl) (by omega) l23 (by decide) ?_)
   refine aG ?_
   refine ev_inline Tryz.tbs_ok Tryz.func148 rfl rfl ?_
   refine aG ?_
   refine ev_if_lt (λ h24=>?_) (λ h24=>?_)
   refine aG ?_
   refine ev_fin ⟨trivial,aL,_,rfl,?_⟩
   refine aG ?_
   refine ev_if_nd (λ h25=>?_) (λ h25=>?_)
   refine aG ?_
   refine ev_fin ⟨trivial,_,rfl,(()),?_,(by trivial),Frm.nil _⟩
   rotate_left
   refine aG ?_
   refine ev_stop (go_atE (sz:=6) Tryz.tbs_ok (i) rfl rfl rfl rfl rfl rfl (by omega) ?_)
   refine aG ?_
   have l26:i<(L).length:=(by omega)
   refine ev_stop (go_loadE Tryz.tbs_ok (.inl 0) (i) 1 rfl rfl rfl rfl (λ _ h=>h) (by omega) (λ _=>rfl) (by omega) l26 (by decide) ?_)
   refine aG ?_
   refine aC T1 [] [] λ _ h27=>?_
   refine ev_if (λ h28=>?_) (λ h28=>?_)
   refine aG ?_
   refine ev_fin ⟨trivial,_,rfl,(()),?_,(by trivial),Frm.nil _⟩
   rotate_left
   refine aG ?_
   refine ev_stop (go_atE (sz:=6) Tryz.tbs_ok (i) rfl rfl rfl rfl rfl rfl (by omega) ?_)
   refine aG ?_
   have l29:i<(L).length:=(by omega)
   refine ev_stop (go_loadE Tryz.tbs_ok (.inl 0) (i) 2 rfl rfl rfl rfl (λ _ h=>h) (by omega) (λ _=>rfl) (by omega) l29 (by decide) ?_)
   refine aG ?_
   refine ev_if_ne (λ h30=>?_) (λ h30=>?_)
   refine aG ?_
   refine ev_fin ⟨trivial,_,rfl,(()),?_,(by trivial),Frm.nil _⟩
   rotate_left
   refine aG ?_
   refine wN (i+1) ?_
   refine ev_fin (round_next (i+1) (?_:i+1<=m/\aX (List.take (i+1) L) s=true) (show m-(i+1)<m-i from (by omega)) aS)
   rotate_left
   refine aG ?_
   refine ev_fin ⟨trivial,aL,_,rfl,?_⟩
   refine aG ?_
   refine ev_fin ⟨trivial,_,rfl,(()),?_,(by trivial),Frm.nil _⟩
   rotate_left
   all_goals first | (show Value.bool _=Value.bool R;rw [hR,hno (by grind)];simp;done) | exact ⟨by omega,by rw [ht,hE];grind⟩
 rw [List.take_of_length_le (by omega)] at hE
 refine aG ?_
 refine aI ?_ (decide_eq_false (show ¬(↑i:Int)<(↑m:Int) from (by omega)))
 refine ev_fin (go Tryz.tbs_ok 1000 ?_)
 refine ev_fin ⟨trivial,_,rfl,(()),?_,(by trivial),Frm.nil _⟩
 show Value.bool _=Value.bool R
 rw [hR,hE,decide_eq_true (by omega)]
 rfl
set_option maxHeartbeats 8000000 in
theorem c9 (x:RecS) (h4:x.r.k≠4) (h5:x.r.k≠5) (hl:x.r.L.length<=1000000):Triple Tryz.prog 108 [.agg (encR x).toArray] [] [x.rdL] Unit (λ _=>.bool (mayR x.r)) (λ _=>True) (λ _=>[]):=by
 obtain ⟨⟨k,s,e,v,f,n,L,F⟩,A,a,B,b⟩:=x
 simp only at h4 h5 hl
 obtain ⟨m,hm⟩:∃ m,m=L.length:=⟨_,rfl⟩
 obtain ⟨m',hm'⟩:∃ m,m=F.length:=⟨_,rfl⟩
 have T1:=λ most=>cZ A L m a s most hm (by rw [hm];exact hl)
 obtain ⟨w,hw⟩:∃ w,w=aX L s:=⟨_,rfl⟩
 obtain ⟨R,hR⟩:∃ R,R=mayR ⟨k,s,e,v,f,n,L,F⟩:=⟨_,rfl⟩
 rw [<-hw] at T1
 rw [<-hR]
 unfold mayR at hR
 simp only at hR
 rw [if_neg h4,if_neg h5,show logE L s f=(decide (0<=f)&&decide (f<=64)&&decide ((m:Int)<=64-f)&&w) by rw [hw,hm];rfl,<-hm,<-hm'] at hR
 unfold encR RecS.rdL
 simp only [<-hm,<-hm']
 refine aT Tryz.func108 [.ag [vI k,vI s,vI e,vI v,vI f,vI n,vL A m a,vL B m' b]] [] (λ E=>?_) ⟨⟨trivial,trivial,trivial,trivial,trivial,trivial,trivial,trivial,trivial⟩,trivial⟩
 refine aG ?_
 refine ev_new λ b10=>?_
 refine aJ ?_ (ne_yes (by with_reducible assumption))
 refine ev_inline Tryz.tbs_ok Tryz.func147 rfl rfl ?_
 refine aG ?_
 refine ev_if_lt (λ h11=>?_) (λ h11=>?_)
 refine aG ?_
 refine ev_fin ⟨trivial,aL,_,rfl,?_⟩
 refine aG ?_
 refine ev_if_nd (λ h12=>?_) (λ h12=>?_)
 refine aG ?_
 refine ev_fin ⟨trivial,_,rfl,(()),?_,(by trivial),Frm.nil _⟩
 rotate_left
 refine aG ?_
 refine aJ ?_ (ne_yes (by with_reducible assumption))
 refine ev_if_lt (λ h13=>?_) (λ h13=>?_)
 refine aG ?_
 refine ev_fin ⟨trivial,_,rfl,(()),?_,(by trivial),Frm.nil _⟩
 rotate_left
 refine aG ?_
 refine ev_if_eq (λ h14=>?_) (λ h14=>?_)
 refine aG ?_
 refine ev_inline Tryz.tbs_ok Tryz.func148 rfl rfl ?_
 refine aG ?_
 refine ev_if_lt (λ h15=>?_) (λ h15=>?_)
 refine aG ?_
 refine ev_fin ⟨trivial,aL,_,rfl,?_⟩
 refine aG ?_
 refine ev_if_lt (λ h16=>?_) (λ h16=>?_)
 refine aG ?_
 refine ev_if_eq (λ h17=>?_) (λ h17=>?_)
 refine aG ?_
 refine ev_if_eq (λ h18=>?_) (λ h18=>?_)
 refine aG ?_
 refine ev_if_eq (λ h19=>?_) (λ h19=>?_)
 refine aG ?_
 refine ev_fin ⟨trivial,_,rfl,(()),?_,(by trivial),Frm.nil _⟩
 rotate_left
 refine aG ?_
 refine ev_fin ⟨trivial,_,rfl,(()),?_,(by trivial),Frm.nil _⟩
 rotate_left
 refine aG ?_
 refine ev_fin ⟨trivial,_,rfl,(()),?_,(by trivial),Frm.nil _⟩
 rotate_left
 refine aG ?_
 refine ev_fin ⟨trivial,_,rfl,(()),?_,(by trivial),Frm.nil _⟩
 rotate_left
 refine aG ?_
 refine ev_fin ⟨trivial,_,rfl,(()),?_,(by trivial),Frm.nil _⟩
 rotate_left
 refine aG ?_
 refine ev_fin ⟨trivial,aL,_,rfl,?_⟩
 refine aG ?_
 refine ev_fin ⟨trivial,_,rfl,(()),?_,(by trivial),Frm.nil _⟩
 rotate_left
 refine aG ?_
 refine ev_if_eq (λ h20=>?_) (λ h20=>?_)
 refine aG ?_
 refine ev_inline Tryz.tbs_ok Tryz.func148 rfl rfl ?_
 refine aG ?_
 refine ev_if_lt (λ h21=>?_) (λ h21=>?_)
 refine aG ?_
 refine ev_fin ⟨trivial,aL,_,rfl,?_⟩
 refine aG ?_
 refine ev_if_lt (λ h22=>?_) (λ h22=>?_)
 refine aG ?_
 refine ev_if_eq (λ h23=>?_) (λ h23=>?_)
 refine aG ?_
 refine ev_if_lt (λ h24=>?_) (λ h24=>?_)
 refine aG ?_
 refine ev_if_lt (λ h25=>?_) (λ h25=>?_)
 refine aG ?_
 refine ev_if_eq (λ h26=>?_) (λ h26=>?_)
 refine aG ?_
 refine w6 ?_
 refine aC (T1 (64-f)) [] [.inl 0] λ _ h27=>?_
 refine ev_fin ⟨trivial,_,rfl,(()),?_,(by trivial),Frm.nil _⟩
 rotate_left
 refine aG ?_
 refine ev_fin ⟨trivial,_,rfl,(()),?_,(by trivial),Frm.nil _⟩
 rotate_left
 refine aG ?_
 refine ev_fin ⟨trivial,_,rfl,(()),?_,(by trivial),Frm.nil _⟩
 rotate_left
 refine aG ?_
 refine ev_fin ⟨trivial,_,rfl,(()),?_,(by trivial),Frm.nil _⟩
 rotate_left
 refine aG ?_
 refine ev_fin ⟨trivial,_,rfl,(()),?_,(by trivial),Frm.nil _⟩
 rotate_left
 refine aG ?_
 refine ev_fin ⟨trivial,_,rfl,(()),?_,(by trivial),Frm.nil _⟩
 rotate_left
 refine aG ?_
 refine ev_fin ⟨trivial,aL,_,rfl,?_⟩
 refine aG ?_
 refine ev_fin ⟨trivial,_,rfl,(()),?_,(by trivial),Frm.nil _⟩
 rotate_left
 refine aG ?_
 refine ev_if_eq (λ h28=>?_) (λ h28=>?_)
 refine aG ?_
 refine ev_if_eq (λ h29=>?_) (λ h29=>?_)
 refine aG ?_
 refine ev_if_eq (λ h30=>?_) (λ h30=>?_)
 refine aG ?_
 refine ev_if_eq (λ h31=>?_) (λ h31=>?_)
 refine aG ?_
 refine ev_if_lt (λ h32=>?_) (λ h32=>?_)
 refine aG ?_
 refine ev_if_lt (λ h33=>?_) (λ h33=>?_)
 refine aG ?_
 refine ev_fin ⟨trivial,_,rfl,(()),?_,(by trivial),Frm.nil _⟩
 rotate_left
 refine aG ?_
 refine ev_fin ⟨trivial,_,rfl,(()),?_,(by trivial),Frm.nil _⟩
 rotate_left
 refine aG ?_
 refine ev_fin ⟨trivial,_,rfl,(()),?_,(by trivial),Frm.nil _⟩
 rotate_left
 refine aG ?_
 refine ev_fin ⟨trivial,_,rfl,(()),?_,(by trivial),Frm.nil _⟩
 rotate_left
 refine aG ?_
 refine ev_fin ⟨trivial,_,rfl,(()),?_,(by trivial),Frm.nil _⟩
 rotate_left
 refine aG ?_
 refine ev_fin ⟨trivial,_,rfl,(()),?_,(by trivial),Frm.nil _⟩
 rotate_left
 refine aG ?_
 refine aI ?_ (beq_eq_false_iff_ne.2 (by with_reducible assumption))
 refine aI ?_ (beq_eq_false_iff_ne.2 (by with_reducible assumption))
 refine ev_fin ⟨trivial,_,rfl,(()),?_,(by trivial),Frm.nil _⟩
 rotate_left
 refine aG ?_
 refine ev_fin ⟨trivial,aL,_,rfl,?_⟩
 refine aG ?_
 refine ev_fin ⟨trivial,_,rfl,(()),?_,(by trivial),Frm.nil _⟩
 rotate_left
 all_goals (show Value.bool _=Value.bool R;congr 1;rw [hR];first | grind | (simp [*];first | done | omega))
theorem bj (x:RecS) (h4:x.r.k≠4) (h5:x.r.k≠5) (hl:x.r.L.length<=1000000):Triple Tryz.prog 67 [.agg (encR x).toArray] [] [x.rdL] Unit (λ _=>.int .i64 (if mayR x.r=true then 0 else 2)) (λ _=>True) (λ _=>[]):=by
 have T1:=c9 x h4 h5 hl
 obtain ⟨R,hR⟩:∃ R,R=mayR x.r:=⟨_,rfl⟩
 rw [<-hR] at T1 ⊢
 clear hR
 obtain ⟨⟨k,s,e,v,f,n,L,F⟩,A,a,B,b⟩:=x
 unfold encR RecS.rdL at *
 simp only at T1 ⊢
 refine aT Tryz.func67 [.ag [vI k,vI s,vI e,vI v,vI f,vI n,vL A L.length a,vL B F.length b]] [] (λ E=>?_) ⟨⟨trivial,trivial,trivial,trivial,trivial,trivial,trivial,trivial,trivial⟩,trivial⟩
 cases R with
 | true =>
  refine go Tryz.tbs_ok 1000 ?_
  refine ev_new λ b10=>?_
  refine aC T1 [] [.inl 0] λ _ h11=>?_
  refine aI ?_
  refine ev_fin ⟨trivial,_,rfl,(()),rfl,(by trivial),Frm.nil _⟩
 | false =>
  refine go Tryz.tbs_ok 1000 ?_
  refine ev_new λ b20=>?_
  refine aC T1 [] [.inl 0] λ _ h21=>?_
  refine aJ ?_
  refine ev_fin ⟨trivial,_,rfl,(()),rfl,(by trivial),Frm.nil _⟩
def az (L:List Ent) (v:Int) (j:Nat):Prop:=∀ h:j<L.length,(1<=L[j].e/\L[j].e<=v/\okO L[j]=true)/\∀ _h0:0<j,(L[j-1]'(by omega)).e<=L[j].e
theorem bJ {L:List Ent} {v:Int} (hl:L.length<=64):wholeE L v=true↔∀ j,j<L.length->az L v j:=by
 unfold wholeE az
 simp only [Bool.and_eq_true,List.all_eq_true,decide_eq_true_eq,and_assoc]
 rw [riseE_iff]
 constructor
 . rintro ⟨h1,_,h3⟩ j _ hj
   obtain ⟨a,b,c⟩:=h1 _ (List.getElem_mem hj)
   refine ⟨a,b,c,λ h0=>?_⟩
   have:=h3 (j-1) (by omega)
   simp only [show j-1+1=j by omega] at this
   exact this
 intro h
 refine ⟨λ x hx=>?_,hl,λ i hi=>?_⟩
 . obtain ⟨j,hj,rfl⟩:=List.getElem_of_mem hx
   obtain ⟨a,b,c,_⟩:=h j hj hj
   exact ⟨a,b,c⟩
 obtain ⟨_,_,_,q⟩:=h (i+1) hi hi
 have:=q (by omega)
 simpa using this
set_option maxHeartbeats 4000000 in
theorem bh (C:Option Addr) (L:List Ent) (m d:Nat) (v:Int) (hm:m=L.length) (h1:m<=1000000) :
 Triple Tryz.prog 110 [.slice C m d,.int .i64 v] [] [Rd 6 C m (L.flatMap encE)] Unit (λ _=>.bool (wholeE L v)) (λ _=>True) (λ _=>[]):=by
 obtain ⟨R,hR⟩:∃ R,R=wholeE L v:=⟨_,rfl⟩
 rw [<-hR]
 refine aT Tryz.func110 [vL C m d,vI v] [] (λ E=>?_) ⟨trivial,trivial,trivial⟩
 by_cases h64:m<=64
 . have hg:=bJ (v:=v) (show L.length<=64 by omega)
   refine aG ?_
   refine aI ?_ (decide_eq_false (show ¬(↑m:Int) > 64 from (by omega)))
   refine ev_stop (go_loopR [4,5,9,10,11,12,13,14,15,16,17,18,19,20,21,22,23,24,25,26,27,28,29,30,31,32,33,34,35,36,37,38,39,40,41,42,43,44,45,46,47,48,49,50,51,52,53,54,55,56] (λ i=>[(5,vI (i:Nat))]) (λ _=>[]) (λ i=>i<=m/\∀ j,j<i->az L v j) (λ i=>m-i) (0:Nat) ⟨Nat.zero_le _,λ _ h=>absurd h (Nat.not_lt_zero _)⟩ aS (λ i h_=>?_))
   obtain ⟨hi,hE⟩:=h_
   rcases Nat.lt_or_ge i m with him | him
   . have hil:i<L.length:=by omega
     have hno:¬ az L v i->R=false:=λ q=>by
      rw [hR,Bool.eq_false_iff]
      exact λ e=>q (hg.1 e i hil)
     have hyes:az L v i->i+1<=m/\∀ j,j<i+1->az L v j:=λ q=>⟨by omega,λ j hj=>by
      rcases (show j<i\/j=i by omega) with h | rfl
      . exact hE j h
      exact q⟩
     have T1:=cH L[i]
     rcases Nat.eq_zero_or_pos i with h0 | h0
     . subst h0
       have hgi:az L v 0↔(1<=L[0].e/\L[0].e<=v/\okO L[0]=true):=⟨λ q=>(q hil).1,λ q _=>⟨q,λ h=>absurd h (Nat.lt_irrefl 0)⟩⟩
       rw [hgi] at hno hyes
       obtain ⟨w,hw⟩:∃ w,w=okO L[0]:=⟨_,rfl⟩
       rw [<-hw] at T1 hno hyes
       cases w with
       |
        true =>
        refine aG ?_
        refine aJ ?_ (decide_eq_true (show (↑0:Int)<(↑m:Int) from (by omega)))
        refine ev_stop (go_draw Tryz.tbs_ok true [] [(0,true),(1,true),(2,true),(3,true),(4,true),(5,true),(6,true),(7,true),(8,true),(9,true),(10,true),(11,true),(12,true),(13,true),(14,true),(15,true),(16,true),(17,true),(18,true),(19,true),(20,true),(21,true),(22,true),(23,true),(24,true),(25,true),(26,true),(27,true),(28,true),(29,true),(30,true),(31,true),(32,true),(33,true),(34,true),(35,true),(36,true),(37,true),(38,true),(39,false),(40,false),(41,false)] rfl ?_)
        refine aG (aE ?_)
        refine ev_stop (tk_indexE (sz:=6) Tryz.tbs_ok (.inl 0) (0) aB rfl rfl rfl rfl rfl rfl rfl (by omega) rfl (λ _ h=>h) (λ g20 o22 e21=>?_))
        subst e21
        refine aG (aE ?_)
        have l23:0<(L).length:=(by omega)
        refine ev_stop (tk_loadE Tryz.tbs_ok (.inl 0) (0) 0 aB rfl rfl rfl rfl rfl (λ _ h=>h) (by omega) (λ _=>rfl) (by omega) l23 (by decide) ?_)
        refine aG (aE ?_)
        refine ev_if_lt (λ h24=>?_) (λ h24=>?_)
        refine aG (aE (aE (aE (aE ?_))))
        refine ev_fin ⟨trivial,_,rfl,(()),?_,(by trivial),Frm.nil _⟩
        rotate_left
        refine aG (aE ?_)
        refine ev_stop (tk_atE (sz:=6) Tryz.tbs_ok (0) aB rfl rfl rfl rfl rfl rfl rfl (by omega) ?_)
        refine aG (aE ?_)
        have l25:0<(L).length:=(by omega)
        refine ev_stop (tk_loadE Tryz.tbs_ok (.inl 0) (0) 0 aB rfl rfl rfl rfl rfl (λ _ h=>h) (by omega) (λ _=>rfl) (by omega) l25 (by decide) ?_)
        refine aG (aE ?_)
        refine ev_if_lt (λ h26=>?_) (λ h26=>?_)
        refine aG (aE (aE (aE (aE ?_))))
        refine ev_fin ⟨trivial,_,rfl,(()),?_,(by trivial),Frm.nil _⟩
        rotate_left
        refine aG (aE (aI (aE ?_)))
        refine ev_stop (tk_atE (sz:=6) Tryz.tbs_ok (0) aB rfl rfl rfl rfl rfl rfl rfl (by omega) ?_)
        refine aG (aE ?_)
        have l27:0<(L).length:=(by omega)
        refine ev_stop (tk_loadE Tryz.tbs_ok (.inl 0) (0) 1 aB rfl rfl rfl rfl rfl (λ _ h=>h) (by omega) (λ _=>rfl) (by omega) l27 (by decide) ?_)
        refine aG (aE ?_)
        refine aC T1 [] [] λ _ h28=>?_
        refine aE (aE (aE (aI ?_)))
        refine wN (0+1) ?_
        refine ev_fin (round_next (0+1) (?_:0+1<=m/\∀ (j:Nat),j<0+1->az L v j) (show m-(0+1)<m-0 from (by omega)) aS)
        rotate_left
        all_goals first | (show Value.bool _=Value.bool R;rw [hno (by grind)];done) | exact hyes (by grind)
       |
        false =>
        refine aG ?_
        refine aJ ?_ (decide_eq_true (show (↑0:Int)<(↑m:Int) from (by omega)))
        refine ev_stop (go_draw Tryz.tbs_ok true [] [(0,true),(1,true),(2,true),(3,true),(4,true),(5,true),(6,true),(7,true),(8,true),(9,true),(10,true),(11,true),(12,true),(13,true),(14,true),(15,true),(16,true),(17,true),(18,true),(19,true),(20,true),(21,true),(22,true),(23,true),(24,true),(25,true),(26,true),(27,true),(28,true),(29,true),(30,true),(31,true),(32,true),(33,true),(34,true),(35,true),(36,true),(37,true),(38,true),(39,false),(40,false),(41,false)] rfl ?_)
        refine aG (aE ?_)
        refine ev_stop (tk_indexE (sz:=6) Tryz.tbs_ok (.inl 0) (0) aB rfl rfl rfl rfl rfl rfl rfl (by omega) rfl (λ _ h=>h) (λ g40 o42 e41=>?_))
        subst e41
        refine aG (aE ?_)
        have l43:0<(L).length:=(by omega)
        refine ev_stop (tk_loadE Tryz.tbs_ok (.inl 0) (0) 0 aB rfl rfl rfl rfl rfl (λ _ h=>h) (by omega) (λ _=>rfl) (by omega) l43 (by decide) ?_)
        refine aG (aE ?_)
        refine ev_if_lt (λ h44=>?_) (λ h44=>?_)
        refine aG (aE (aE (aE (aE ?_))))
        refine ev_fin ⟨trivial,_,rfl,(()),?_,(by trivial),Frm.nil _⟩
        rotate_left
        refine aG (aE ?_)
        refine ev_stop (tk_atE (sz:=6) Tryz.tbs_ok (0) aB rfl rfl rfl rfl rfl rfl rfl (by omega) ?_)
        refine aG (aE ?_)
        have l45:0<(L).length:=(by omega)
        refine ev_stop (tk_loadE Tryz.tbs_ok (.inl 0) (0) 0 aB rfl rfl rfl rfl rfl (λ _ h=>h) (by omega) (λ _=>rfl) (by omega) l45 (by decide) ?_)
        refine aG (aE ?_)
        refine ev_if_lt (λ h46=>?_) (λ h46=>?_)
        refine aG (aE (aE (aE (aE ?_))))
        refine ev_fin ⟨trivial,_,rfl,(()),?_,(by trivial),Frm.nil _⟩
        rotate_left
        refine aG (aE (aI (aE ?_)))
        refine ev_stop (tk_atE (sz:=6) Tryz.tbs_ok (0) aB rfl rfl rfl rfl rfl rfl rfl (by omega) ?_)
        refine aG (aE ?_)
        have l47:0<(L).length:=(by omega)
        refine ev_stop (tk_loadE Tryz.tbs_ok (.inl 0) (0) 1 aB rfl rfl rfl rfl rfl (λ _ h=>h) (by omega) (λ _=>rfl) (by omega) l47 (by decide) ?_)
        refine aG (aE ?_)
        refine aC T1 [] [] λ _ h48=>?_
        refine aE (aE (aE (aJ ?_)))
        refine ev_fin ⟨trivial,_,rfl,(()),?_,(by trivial),Frm.nil _⟩
        rotate_left
        all_goals first | (show Value.bool _=Value.bool R;rw [hno (by grind)];done) | exact hyes (by grind)
     obtain ⟨j,rfl⟩:∃ j,i=j+1:=⟨i-1,by omega⟩
     have hj:j<L.length:=by omega
     have hgi:az L v (j+1)↔(1<=L[j+1].e/\L[j+1].e<=v/\okO L[j+1]=true)/\L[j].e<=L[j+1].e:=⟨λ q=>⟨(q hil).1,(q hil).2 (by omega)⟩,λ q _=>⟨q.1,λ _=>q.2⟩⟩
     rw [hgi] at hno hyes
     obtain ⟨w,hw⟩:∃ w,w=okO L[j+1]:=⟨_,rfl⟩
     rw [<-hw] at T1 hno hyes
     cases w with
     |
      true =>
      refine aG ?_
      refine aJ ?_ (decide_eq_true (show (↑(j+1):Int)<(↑m:Int) from (by omega)))
      refine ev_stop (go_draw Tryz.tbs_ok true [] [(0,true),(1,true),(2,true),(3,true),(4,true),(5,true),(6,true),(7,true),(8,true),(9,true),(10,true),(11,true),(12,true),(13,true),(14,true),(15,true),(16,true),(17,true),(18,true),(19,true),(20,true),(21,true),(22,true),(23,true),(24,true),(25,true),(26,true),(27,true),(28,true),(29,true),(30,true),(31,true),(32,true),(33,true),(34,true),(35,true),(36,true),(37,true),(38,true),(39,false),(40,false),(41,false)] rfl ?_)
      refine aG (aE ?_)
      refine ev_stop (tk_indexE (sz:=6) Tryz.tbs_ok (.inl 0) (j+1) aB rfl rfl rfl rfl rfl rfl rfl (by omega) rfl (λ _ h=>h) (λ g60 o62 e61=>?_))
      subst e61
      refine aG (aE ?_)
      have l63:j+1<(L).length:=(by omega)
      refine ev_stop (tk_loadE Tryz.tbs_ok (.inl 0) (j+1) 0 aB rfl rfl rfl rfl rfl (λ _ h=>h) (by omega) (λ _=>rfl) (by omega) l63 (by decide) ?_)
      refine aG (aE ?_)
      refine ev_if_lt (λ h64=>?_) (λ h64=>?_)
      refine aG (aE (aE (aE (aE ?_))))
      refine ev_fin ⟨trivial,_,rfl,(()),?_,(by trivial),Frm.nil _⟩
      rotate_left
      refine aG (aE ?_)
      refine ev_stop (tk_atE (sz:=6) Tryz.tbs_ok (j+1) aB rfl rfl rfl rfl rfl rfl rfl (by omega) ?_)
      refine aG (aE ?_)
      have l65:j+1<(L).length:=(by omega)
      refine ev_stop (tk_loadE Tryz.tbs_ok (.inl 0) (j+1) 0 aB rfl rfl rfl rfl rfl (λ _ h=>h) (by omega) (λ _=>rfl) (by omega) l65 (by decide) ?_)
      refine aG (aE ?_)
      refine ev_if_lt (λ h66=>?_) (λ h66=>?_)
      refine aG (aE (aE (aE (aE ?_))))
      refine ev_fin ⟨trivial,_,rfl,(()),?_,(by trivial),Frm.nil _⟩
      rotate_left
      refine aG (aE ?_)
      refine aJ ?_ (decide_eq_true (show (↑(j+1):Int) > 0 from (by omega)))
      refine aE ?_
      refine ev_stop (tk_atE (sz:=6) Tryz.tbs_ok (j+1) aB rfl rfl rfl rfl rfl rfl rfl (by omega) ?_)
      refine aG (aE ?_)
      have l67:j+1<(L).length:=(by omega)
      refine ev_stop (tk_loadE Tryz.tbs_ok (.inl 0) (j+1) 0 aB rfl rfl rfl rfl rfl (λ _ h=>h) (by omega) (λ _=>rfl) (by omega) l67 (by decide) ?_)
      refine aG (aE ?_)
      refine wO (j+1-1) ?_
      refine ev_stop (tk_atE (sz:=6) Tryz.tbs_ok (j+1-1) aB rfl rfl rfl rfl rfl rfl rfl (by omega) ?_)
      refine aG (aE ?_)
      have l68:j+1-1<(L).length:=(by omega)
      refine ev_stop (tk_loadE Tryz.tbs_ok (.inl 0) (j+1-1) 0 aB rfl rfl rfl rfl rfl (λ _ h=>h) (by omega) (λ _=>rfl) (by omega) l68 (by decide) ?_)
      refine aG (aE ?_)
      refine ev_if_lt (λ h69=>?_) (λ h69=>?_)
      refine aG (aE (aE (aE (aE ?_))))
      refine ev_fin ⟨trivial,_,rfl,(()),?_,(by trivial),Frm.nil _⟩
      rotate_left
      refine aG (aE ?_)
      refine ev_stop (tk_atE (sz:=6) Tryz.tbs_ok (j+1) aB rfl rfl rfl rfl rfl rfl rfl (by omega) ?_)
      refine aG (aE ?_)
      have l70:j+1<(L).length:=(by omega)
      refine ev_stop (tk_loadE Tryz.tbs_ok (.inl 0) (j+1) 1 aB rfl rfl rfl rfl rfl (λ _ h=>h) (by omega) (λ _=>rfl) (by omega) l70 (by decide) ?_)
      refine aG (aE ?_)
      refine aC T1 [] [] λ _ h71=>?_
      refine aE (aE (aE (aI ?_)))
      refine wN (j+1+1) ?_
      refine ev_fin (round_next (j+1+1) (?_:j+1+1<=m/\∀ (j_1:Nat),j_1<j+1+1->az L v j_1) (show m-(j+1+1)<m-(j+1) from (by omega)) aS)
      rotate_left
      all_goals first | (show Value.bool _=Value.bool R;rw [hno (by grind)];done) | exact hyes (by grind)
     |
      false =>
      refine aG ?_
      refine aJ ?_ (decide_eq_true (show (↑(j+1):Int)<(↑m:Int) from (by omega)))
      refine ev_stop (go_draw Tryz.tbs_ok true [] [(0,true),(1,true),(2,true),(3,true),(4,true),(5,true),(6,true),(7,true),(8,true),(9,true),(10,true),(11,true),(12,true),(13,true),(14,true),(15,true),(16,true),(17,true),(18,true),(19,true),(20,true),(21,true),(22,true),(23,true),(24,true),(25,true),(26,true),(27,true),(28,true),(29,true),(30,true),(31,true),(32,true),(33,true),(34,true),(35,true),(36,true),(37,true),(38,true),(39,false),(40,false),(41,false)] rfl ?_)
      refine aG (aE ?_)
      refine ev_stop (tk_indexE (sz:=6) Tryz.tbs_ok (.inl 0) (j+1) aB rfl rfl rfl rfl rfl rfl rfl (by omega) rfl (λ _ h=>h) (λ g80 o82 e81=>?_))
      subst e81
      refine aG (aE ?_)
      have l83:j+1<(L).length:=(by omega)
      refine ev_stop (tk_loadE Tryz.tbs_ok (.inl 0) (j+1) 0 aB rfl rfl rfl rfl rfl (λ _ h=>h) (by omega) (λ _=>rfl) (by omega) l83 (by decide) ?_)
      refine aG (aE ?_)
      refine ev_if_lt (λ h84=>?_) (λ h84=>?_)
      refine aG (aE (aE (aE (aE ?_))))
      refine ev_fin ⟨trivial,_,rfl,(()),?_,(by trivial),Frm.nil _⟩
      rotate_left
      refine aG (aE ?_)
      refine ev_stop (tk_atE (sz:=6) Tryz.tbs_ok (j+1) aB rfl rfl rfl rfl rfl rfl rfl (by omega) ?_)
      refine aG (aE ?_)
      have l85:j+1<(L).length:=(by omega)
      refine ev_stop (tk_loadE Tryz.tbs_ok (.inl 0) (j+1) 0 aB rfl rfl rfl rfl rfl (λ _ h=>h) (by omega) (λ _=>rfl) (by omega) l85 (by decide) ?_)
      refine aG (aE ?_)
      refine ev_if_lt (λ h86=>?_) (λ h86=>?_)
      refine aG (aE (aE (aE (aE ?_))))
      refine ev_fin ⟨trivial,_,rfl,(()),?_,(by trivial),Frm.nil _⟩
      rotate_left
      refine aG (aE ?_)
      refine aJ ?_ (decide_eq_true (show (↑(j+1):Int) > 0 from (by omega)))
      refine aE ?_
      refine ev_stop (tk_atE (sz:=6) Tryz.tbs_ok (j+1) aB rfl rfl rfl rfl rfl rfl rfl (by omega) ?_)
      refine aG (aE ?_)
      have l87:j+1<(L).length:=(by omega)
      refine ev_stop (tk_loadE Tryz.tbs_ok (.inl 0) (j+1) 0 aB rfl rfl rfl rfl rfl (λ _ h=>h) (by omega) (λ _=>rfl) (by omega) l87 (by decide) ?_)
      refine aG (aE ?_)
      refine wO (j+1-1) ?_
      refine ev_stop (tk_atE (sz:=6) Tryz.tbs_ok (j+1-1) aB rfl rfl rfl rfl rfl rfl rfl (by omega) ?_)
      refine aG (aE ?_)
      have l88:j+1-1<(L).length:=(by omega)
      refine ev_stop (tk_loadE Tryz.tbs_ok (.inl 0) (j+1-1) 0 aB rfl rfl rfl rfl rfl (λ _ h=>h) (by omega) (λ _=>rfl) (by omega) l88 (by decide) ?_)
      refine aG (aE ?_)
      refine ev_if_lt (λ h89=>?_) (λ h89=>?_)
      refine aG (aE (aE (aE (aE ?_))))
      refine ev_fin ⟨trivial,_,rfl,(()),?_,(by trivial),Frm.nil _⟩
      rotate_left
      refine aG (aE ?_)
      refine ev_stop (tk_atE (sz:=6) Tryz.tbs_ok (j+1) aB rfl rfl rfl rfl rfl rfl rfl (by omega) ?_)
      refine aG (aE ?_)
      have l90:j+1<(L).length:=(by omega)
      refine ev_stop (tk_loadE Tryz.tbs_ok (.inl 0) (j+1) 1 aB rfl rfl rfl rfl rfl (λ _ h=>h) (by omega) (λ _=>rfl) (by omega) l90 (by decide) ?_)
      refine aG (aE ?_)
      refine aC T1 [] [] λ _ h91=>?_
      refine aE (aE (aE (aJ ?_)))
      refine ev_fin ⟨trivial,_,rfl,(()),?_,(by trivial),Frm.nil _⟩
      rotate_left
      all_goals first | (show Value.bool _=Value.bool R;rw [hno (by grind)];done) | exact hyes (by grind)
   rw [show R=true by rw [hR];exact hg.2 λ j hj=>hE j (by omega)]
   refine aG ?_
   refine aI ?_ (decide_eq_false (show ¬(↑i:Int)<(↑m:Int) from (by omega)))
   refine ev_fin (go Tryz.tbs_ok 1000 ?_)
   refine ev_fin ⟨trivial,_,rfl,(()),rfl,(by trivial),Frm.nil _⟩
 rw [show R=false by rw [hR,Bool.eq_false_iff];exact λ e=>by have:=wholeE_len e;omega]
 refine aG ?_
 refine aJ ?_ (decide_eq_true (show (↑m:Int) > 64 from (by omega)))
 refine ev_fin ⟨trivial,_,rfl,(()),rfl,(by trivial),Frm.nil _⟩
theorem aV (x:RegS) (hl:x.r.L.length<=1000000):Triple Tryz.prog 109 [.agg (encG x).toArray] [] [x.rd] Unit (λ _=>.bool (okR x.r)) (λ _=>True) (λ _=>[]):=by
 obtain ⟨⟨p,v,L,c⟩,A,a⟩:=x
 obtain ⟨m,hm⟩:∃ m,m=L.length:=⟨_,rfl⟩
 have T1:=bh A L m a v hm (by rw [hm];exact hl)
 obtain ⟨w,hw⟩:∃ w,w=wholeE L v:=⟨_,rfl⟩
 obtain ⟨R,hR⟩:∃ R,R=okR ⟨p,v,L,c⟩:=⟨_,rfl⟩
 rw [<-hw] at T1
 rw [<-hR]
 unfold okR at hR
 simp only [<-hw,<-hm] at hR
 unfold RegS.rd encG
 simp only [<-hm]
 refine aT Tryz.func109 [.ag [vI p,vI v,vL A m a,vI c]] [] (λ E=>?_) ⟨⟨trivial,trivial,trivial,trivial,trivial⟩,trivial⟩
 refine aG ?_
 refine ev_new λ b10=>?_
 refine ev_if_lt (λ h11=>?_) (λ h11=>?_)
 refine aG ?_
 refine ev_if_lt (λ h12=>?_) (λ h12=>?_)
 refine aG ?_
 refine ev_if_lt (λ h13=>?_) (λ h13=>?_)
 refine aG ?_
 refine aC T1 [] [.inl 0] λ _ h14=>?_
 refine ev_if (λ h15=>?_) (λ h15=>?_)
 refine aG ?_
 refine ev_if_lt (λ h16=>?_) (λ h16=>?_)
 refine aG ?_
 refine ev_fin ⟨trivial,_,rfl,(()),?_,(by trivial),Frm.nil _⟩
 rotate_left
 refine aG ?_
 refine ev_fin ⟨trivial,_,rfl,(()),?_,(by trivial),Frm.nil _⟩
 rotate_left
 refine aG ?_
 refine ev_fin ⟨trivial,_,rfl,(()),?_,(by trivial),Frm.nil _⟩
 rotate_left
 refine aG ?_
 refine ev_fin ⟨trivial,_,rfl,(()),?_,(by trivial),Frm.nil _⟩
 rotate_left
 refine aG ?_
 refine ev_fin ⟨trivial,_,rfl,(()),?_,(by trivial),Frm.nil _⟩
 rotate_left
 refine aG ?_
 refine ev_fin ⟨trivial,_,rfl,(()),?_,(by trivial),Frm.nil _⟩
 rotate_left
 all_goals (show Value.bool _=Value.bool R;congr 1;rw [hR];first | grind | (simp [*];first | done | omega))
set_option maxHeartbeats 4000000 in
theorem bE (x:RegS) (y:RecS) (ho:okR x.r=true) (hk:y.r.k=1\/y.r.k=3) (z:Reg) (h:applyR x.r y.r=some z) :
 Triple Tryz.prog 68 [.agg (encG x).toArray,.agg (encR y).toArray] [] [x.rd] Sl (λ (A',c')=>.tuple #[.agg (encG ⟨z,A',c'⟩).toArray,.bool true]) (λ (_,c')=>z.L.length<=c') (λ (A',c')=>[Row 101 6 A' z.L.length c' (z.L.flatMap encE)]):=by
 have hl:=wholeE_len (okR_of ho).2.2.2.1
 have T1:=aV x (by omega)
 rw [ho] at T1
 unfold applyR at h
 rw [if_neg (by rw [ho];decide)] at h
 obtain ⟨⟨p,v,L,c⟩,A,a⟩:=x
 obtain ⟨⟨k,s,e,w,f,n,M,F⟩,C,b,B,d⟩:=y
 simp only at h hk hl
 obtain ⟨m,hm⟩:∃ m,m=L.length:=⟨_,rfl⟩
 obtain ⟨q,hq⟩:∃ q,q=M.length:=⟨_,rfl⟩
 obtain ⟨q',hq'⟩:∃ q',q'=F.length:=⟨_,rfl⟩
 unfold RegS.rd encG encR at *
 simp only [<-hm,<-hq,<-hq'] at T1 h hl ⊢
 rcases hk with hk | hk
 . rw [if_pos hk,Option.ite_none_right_eq_some] at h
   obtain ⟨⟨h1,h2⟩,rfl⟩:=h.imp_right Option.some.inj
   simp only [<-hm]
   refine aT Tryz.func68 [.ag [vI p,vI v,vL A m a,vI c],.ag [vI k,vI s,vI e,vI w,vI f,vI n,vL C q b,vL B q' d]] [] (λ E=>?_) ⟨⟨trivial,trivial,trivial,trivial,trivial⟩,⟨trivial,trivial,trivial,trivial,trivial,trivial,trivial,trivial,trivial⟩,trivial⟩
   refine aG ?_
   refine ev_new λ b10=>?_
   refine ev_new λ b11=>?_
   refine ev_new λ b12=>?_
   refine aC T1 [] [.inl 0] λ _ h13=>?_
   refine aI ?_
   refine ev_stop (go_draw Tryz.tbs_ok false [0] [(0,true),(1,true),(2,true),(3,true),(4,true),(5,true),(7,true),(8,true),(99,false),(0,true),(0,true),(0,true)] rfl ?_)
   refine aG (aE ?_)
   refine ev_stop (go_fork 6 10 [(9,true),(10,false),(11,false)] [(6,false),(9,false),(11,false)] _ _ ⟨aL,rfl⟩ (by kernel_rfl) rfl rfl rfl rfl ?_ ?_)
   refine aG ?_
   refine ev_stop (go_appendE (sz:=6) (M:=[]) (enc:=encE) Tryz.tbs_ok [] [] (.inl 0) ([]) (L) (L) (m) rfl rfl rfl rfl rfl rfl rfl (by decide) rfl (by decide) (λ _ _=>Row.nil _ _ _) rfl (λ _ h=>h) (by first | rfl | simp) (by first | rfl | omega) (aM (m)) (aN (m)) (λ _ _=>aL) (λ A14 c15 h16=>?_))
   refine aG (aE ?_)
   refine ev_new λ b17=>?_
   refine aE (aK ?_)
   refine aJ ?_ (beq_iff_eq.2 (by with_reducible assumption))
   refine aI ?_ (decide_eq_false (show ¬e<=p from (by omega)))
   refine aI ?_ (decide_eq_false (show ¬e > 1048576 from (by omega)))
   exact ev_fin ⟨trivial,_,rfl,((A14,c15)),rfl,by trivial,aF [3]⟩
   refine aG ?_
   refine ev_new λ b18=>?_
   refine aE ?_
   refine ev_stop (go_appendE (sz:=6) (M:=[]) (enc:=encE) Tryz.tbs_ok [] [] (.inl 0) ([]) (L) (L) (m) rfl rfl rfl rfl rfl rfl rfl (by decide) rfl (by decide) (λ _ _=>Row.nil _ _ _) rfl (λ _ h=>h) (by first | rfl | simp) (by first | rfl | omega) (aM (m)) (aN (m)) (λ _ _=>aL) (λ A19 c20 h21=>?_))
   refine aG (aE (aE (aK ?_)))
   refine aJ ?_ (beq_iff_eq.2 (by with_reducible assumption))
   refine aI ?_ (decide_eq_false (show ¬e<=p from (by omega)))
   refine aI ?_ (decide_eq_false (show ¬e > 1048576 from (by omega)))
   exact ev_fin ⟨trivial,_,rfl,((A19,c20)),rfl,by trivial,aF [4]⟩
   all_goals skip
 rw [if_neg (by omega),if_neg (by omega),if_pos hk,Option.ite_none_right_eq_some] at h
 obtain ⟨⟨h1,h2⟩,rfl⟩:=h.imp_right Option.some.inj
 simp only [<-hm]
 refine aT Tryz.func68 [.ag [vI p,vI v,vL A m a,vI c],.ag [vI k,vI s,vI e,vI w,vI f,vI n,vL C q b,vL B q' d]] [] (λ E=>?_) ⟨⟨trivial,trivial,trivial,trivial,trivial⟩,⟨trivial,trivial,trivial,trivial,trivial,trivial,trivial,trivial,trivial⟩,trivial⟩
 refine aG ?_
 refine ev_new λ b10=>?_
 refine ev_new λ b11=>?_
 refine ev_new λ b12=>?_
 refine aC T1 [] [.inl 0] λ _ h13=>?_
 refine aI ?_
 refine ev_stop (go_draw Tryz.tbs_ok false [0] [(0,true),(1,true),(2,true),(3,true),(4,true),(5,true),(7,true),(8,true),(99,false),(0,true),(0,true),(0,true)] rfl ?_)
 refine aG (aE ?_)
 refine ev_stop (go_fork 6 10 [(9,true),(10,false),(11,false)] [(6,false),(9,false),(11,false)] _ _ ⟨aL,rfl⟩ (by kernel_rfl) rfl rfl rfl rfl ?_ ?_)
 refine aG ?_
 refine ev_stop (go_appendE (sz:=6) (M:=[]) (enc:=encE) Tryz.tbs_ok [] [] (.inl 0) ([]) (L) (L) (m) rfl rfl rfl rfl rfl rfl rfl (by decide) rfl (by decide) (λ _ _=>Row.nil _ _ _) rfl (λ _ h=>h) (by first | rfl | simp) (by first | rfl | omega) (aM (m)) (aN (m)) (λ _ _=>aL) (λ A14 c15 h16=>?_))
 refine aG (aE ?_)
 refine ev_new λ b17=>?_
 refine aE (aK ?_)
 refine aI ?_ (beq_eq_false_iff_ne.2 (show ¬k=1 from (by omega)))
 refine aI ?_ (beq_eq_false_iff_ne.2 (show ¬k=2 from (by omega)))
 refine aJ ?_ (beq_iff_eq.2 (by with_reducible assumption))
 refine aI ?_ (decide_eq_false (show ¬n<=c from (by omega)))
 refine aI ?_ (decide_eq_false (show ¬n > (↑m:Int) from (by omega)))
 exact ev_fin ⟨trivial,_,rfl,((A14,c15)),rfl,by trivial,aF [3]⟩
 refine aG ?_
 refine ev_new λ b18=>?_
 refine aE ?_
 refine ev_stop (go_appendE (sz:=6) (M:=[]) (enc:=encE) Tryz.tbs_ok [] [] (.inl 0) ([]) (L) (L) (m) rfl rfl rfl rfl rfl rfl rfl (by decide) rfl (by decide) (λ _ _=>Row.nil _ _ _) rfl (λ _ h=>h) (by first | rfl | simp) (by first | rfl | omega) (aM (m)) (aN (m)) (λ _ _=>aL) (λ A19 c20 h21=>?_))
 refine aG (aE (aE (aK ?_)))
 refine aI ?_ (beq_eq_false_iff_ne.2 (show ¬k=1 from (by omega)))
 refine aI ?_ (beq_eq_false_iff_ne.2 (show ¬k=2 from (by omega)))
 refine aJ ?_ (beq_iff_eq.2 (by with_reducible assumption))
 refine aI ?_ (decide_eq_false (show ¬n<=c from (by omega)))
 refine aI ?_ (decide_eq_false (show ¬n > (↑m:Int) from (by omega)))
 exact ev_fin ⟨trivial,_,rfl,((A19,c20)),rfl,by trivial,aF [4]⟩
 all_goals skip
set_option maxHeartbeats 4000000 in
theorem cR (x:RegS) (y:RecS) (ho:okR x.r=true) (hk:y.r.k=1\/y.r.k=3) (h:applyR x.r y.r=none) :
 Triple Tryz.prog 68 [.agg (encG x).toArray,.agg (encR y).toArray] [] [x.rd] Unit (λ _=>.tuple #[.agg (encG ⟨noReg,none,0⟩).toArray,.bool false]) (λ _=>True) (λ _=>[]):=by
 have hl:=wholeE_len (okR_of ho).2.2.2.1
 have T1:=aV x (by omega)
 rw [ho] at T1
 unfold applyR at h
 rw [if_neg (by rw [ho];decide)] at h
 obtain ⟨⟨p,v,L,c⟩,A,a⟩:=x
 obtain ⟨⟨k,s,e,w,f,n,M,F⟩,C,b,B,d⟩:=y
 simp only at h hk hl
 obtain ⟨m,hm⟩:∃ m,m=L.length:=⟨_,rfl⟩
 obtain ⟨q,hq⟩:∃ q,q=M.length:=⟨_,rfl⟩
 obtain ⟨q',hq'⟩:∃ q',q'=F.length:=⟨_,rfl⟩
 unfold RegS.rd encG encR at *
 simp only [<-hm,<-hq,<-hq'] at T1 h hl ⊢
 rcases hk with hk | hk
 . rw [if_pos hk] at h
   have h1:¬ (p<e/\e<=1048576):=λ e=>by rw [if_pos e] at h;cases h
   refine aT Tryz.func68 [.ag [vI p,vI v,vL A m a,vI c],.ag [vI k,vI s,vI e,vI w,vI f,vI n,vL C q b,vL B q' d]] [] (λ E=>?_) ⟨⟨trivial,trivial,trivial,trivial,trivial⟩,⟨trivial,trivial,trivial,trivial,trivial,trivial,trivial,trivial,trivial⟩,trivial⟩
   refine aG ?_
   refine ev_new λ b10=>?_
   refine ev_new λ b11=>?_
   refine ev_new λ b12=>?_
   refine aC T1 [] [.inl 0] λ _ h13=>?_
   refine aI ?_
   refine ev_stop (go_draw Tryz.tbs_ok false [0] [(0,true),(1,true),(2,true),(3,true),(4,true),(5,true),(7,true),(8,true),(99,false),(0,true),(0,true),(0,true)] rfl ?_)
   refine aG (aE ?_)
   refine ev_stop (go_fork 6 10 [(9,true),(10,false),(11,false)] [(6,false),(9,false),(11,false)] _ _ ⟨aL,rfl⟩ (by kernel_rfl) rfl rfl rfl rfl ?_ ?_)
   refine aG ?_
   refine ev_stop (go_appendE (sz:=6) (M:=[]) (enc:=encE) Tryz.tbs_ok [] [] (.inl 0) ([]) (L) (L) (m) rfl rfl rfl rfl rfl rfl rfl (by decide) rfl (by decide) (λ _ _=>Row.nil _ _ _) rfl (λ _ h=>h) (by first | rfl | simp) (by first | rfl | omega) (aM (m)) (aN (m)) (λ _ _=>aL) (λ A14 c15 h16=>?_))
   refine aG (aE ?_)
   refine ev_new λ b17=>?_
   refine aE (aK ?_)
   refine aJ ?_ (beq_iff_eq.2 (by with_reducible assumption))
   refine ev_if_lt (λ h18=>?_) (λ h18=>?_)
   refine aG ?_
   refine ev_fin ⟨trivial,_,rfl,(()),rfl,(by trivial),Frm.nil _⟩
   refine aG ?_
   refine aJ ?_ (decide_eq_true (show e > 1048576 from (by omega)))
   refine ev_fin ⟨trivial,_,rfl,(()),rfl,(by trivial),Frm.nil _⟩
   refine aG ?_
   refine ev_new λ b19=>?_
   refine aE ?_
   refine ev_stop (go_appendE (sz:=6) (M:=[]) (enc:=encE) Tryz.tbs_ok [] [] (.inl 0) ([]) (L) (L) (m) rfl rfl rfl rfl rfl rfl rfl (by decide) rfl (by decide) (λ _ _=>Row.nil _ _ _) rfl (λ _ h=>h) (by first | rfl | simp) (by first | rfl | omega) (aM (m)) (aN (m)) (λ _ _=>aL) (λ A20 c21 h22=>?_))
   refine aG (aE (aE (aK ?_)))
   refine aJ ?_ (beq_iff_eq.2 (by with_reducible assumption))
   refine ev_if_lt (λ h23=>?_) (λ h23=>?_)
   refine aG ?_
   refine ev_fin ⟨trivial,_,rfl,(()),rfl,(by trivial),Frm.nil _⟩
   refine aG ?_
   refine aJ ?_ (decide_eq_true (show e > 1048576 from (by omega)))
   refine ev_fin ⟨trivial,_,rfl,(()),rfl,(by trivial),Frm.nil _⟩
   all_goals (exfalso;omega)
 rw [if_neg (by omega),if_neg (by omega),if_pos hk] at h
 have h1:¬ (c<n/\n<=(m:Int)):=λ e=>by rw [if_pos e] at h;cases h
 refine aT Tryz.func68 [.ag [vI p,vI v,vL A m a,vI c],.ag [vI k,vI s,vI e,vI w,vI f,vI n,vL C q b,vL B q' d]] [] (λ E=>?_) ⟨⟨trivial,trivial,trivial,trivial,trivial⟩,⟨trivial,trivial,trivial,trivial,trivial,trivial,trivial,trivial,trivial⟩,trivial⟩
 refine aG ?_
 refine ev_new λ b10=>?_
 refine ev_new λ b11=>?_
 refine ev_new λ b12=>?_
 refine aC T1 [] [.inl 0] λ _ h13=>?_
 refine aI ?_
 refine ev_stop (go_draw Tryz.tbs_ok false [0] [(0,true),(1,true),(2,true),(3,true),(4,true),(5,true),(7,true),(8,true),(99,false),(0,true),(0,true),(0,true)] rfl ?_)
 refine aG (aE ?_)
 refine ev_stop (go_fork 6 10 [(9,true),(10,false),(11,false)] [(6,false),(9,false),(11,false)] _ _ ⟨aL,rfl⟩ (by kernel_rfl) rfl rfl rfl rfl ?_ ?_)
 refine aG ?_
 refine ev_stop (go_appendE (sz:=6) (M:=[]) (enc:=encE) Tryz.tbs_ok [] [] (.inl 0) ([]) (L) (L) (m) rfl rfl rfl rfl rfl rfl rfl (by decide) rfl (by decide) (λ _ _=>Row.nil _ _ _) rfl (λ _ h=>h) (by first | rfl | simp) (by first | rfl | omega) (aM (m)) (aN (m)) (λ _ _=>aL) (λ A14 c15 h16=>?_))
 refine aG (aE ?_)
 refine ev_new λ b17=>?_
 refine aE (aK ?_)
 refine aI ?_ (beq_eq_false_iff_ne.2 (show ¬k=1 from (by omega)))
 refine aI ?_ (beq_eq_false_iff_ne.2 (show ¬k=2 from (by omega)))
 refine aJ ?_ (beq_iff_eq.2 (by with_reducible assumption))
 refine ev_if_lt (λ h18=>?_) (λ h18=>?_)
 refine aG ?_
 refine ev_fin ⟨trivial,_,rfl,(()),rfl,(by trivial),Frm.nil _⟩
 refine aG ?_
 refine aJ ?_ (decide_eq_true (show n > (↑m:Int) from (by omega)))
 refine ev_fin ⟨trivial,_,rfl,(()),rfl,(by trivial),Frm.nil _⟩
 refine aG ?_
 refine ev_new λ b19=>?_
 refine aE ?_
 refine ev_stop (go_appendE (sz:=6) (M:=[]) (enc:=encE) Tryz.tbs_ok [] [] (.inl 0) ([]) (L) (L) (m) rfl rfl rfl rfl rfl rfl rfl (by decide) rfl (by decide) (λ _ _=>Row.nil _ _ _) rfl (λ _ h=>h) (by first | rfl | simp) (by first | rfl | omega) (aM (m)) (aN (m)) (λ _ _=>aL) (λ A20 c21 h22=>?_))
 refine aG (aE (aE (aK ?_)))
 refine aI ?_ (beq_eq_false_iff_ne.2 (show ¬k=1 from (by omega)))
 refine aI ?_ (beq_eq_false_iff_ne.2 (show ¬k=2 from (by omega)))
 refine aJ ?_ (beq_iff_eq.2 (by with_reducible assumption))
 refine ev_if_lt (λ h23=>?_) (λ h23=>?_)
 refine aG ?_
 refine ev_fin ⟨trivial,_,rfl,(()),rfl,(by trivial),Frm.nil _⟩
 refine aG ?_
 refine aJ ?_ (decide_eq_true (show n > (↑m:Int) from (by omega)))
 refine ev_fin ⟨trivial,_,rfl,(()),rfl,(by trivial),Frm.nil _⟩
 all_goals (exfalso;omega)
theorem ay {L V:List Ent} {c i:Nat} (h:L.take c=V.take c) (hi:i<c) (h1:i<L.length) (h2:i<V.length):V[i]=L[i]:=by
 have:=congrArg (λ l=>l[i]?) h
 simp only [List.getElem?_take,if_pos hi] at this
 rw [List.getElem?_eq_getElem h1,List.getElem?_eq_getElem h2] at this
 exact (Option.some.inj this).symm
set_option maxHeartbeats 4000000 in
theorem cP (x:RegS) (y:RecS) (ho:okR x.r=true) (hk:y.r.k=2) (hy:y.r.L.length<=2000) (ha:x.r.L.length<=x.a) (z:Reg) (h:applyR x.r y.r=some z) :
 Triple Tryz.prog 68 [.agg (encG x).toArray,.agg (encR y).toArray] [] [x.rd,y.rdL] Sl (λ (A',c')=>.tuple #[.agg (encG ⟨z,A',c'⟩).toArray,.bool true]) (λ (_,c')=>z.L.length<=c') (λ (A',c')=>[Row 101 6 A' z.L.length c' (z.L.flatMap encE)]):=by
 have hl:=wholeE_len (okR_of ho).2.2.2.1
 have T1:=aV x (by omega)
 have hc:=(okR_of ho).2.2.2.2
 rw [ho] at T1
 unfold applyR at h
 rw [if_neg (by rw [ho];decide),if_neg (by omega),if_pos hk] at h
 obtain ⟨⟨p,v,L,c⟩,A,a⟩:=x
 obtain ⟨⟨k,s,e,w,f,n,M,F⟩,C,b,B,d⟩:=y
 simp only at h hk hl hy ha hc
 obtain ⟨cn,rfl⟩:∃ cn:Nat,c=(cn:Int):=⟨c.toNat,by omega⟩
 simp only [Int.toNat_natCast] at h
 obtain ⟨V,hV⟩:∃ V,V=viewL ⟨p,v,L,(cn:Int)⟩ ⟨k,s,e,w,f,n,M,F⟩:=⟨_,rfl⟩
 rw [<-hV] at h
 obtain ⟨m,hm⟩:∃ m,m=L.length:=⟨_,rfl⟩
 obtain ⟨q,hq⟩:∃ q,q=M.length:=⟨_,rfl⟩
 obtain ⟨q',hq'⟩:∃ q',q'=F.length:=⟨_,rfl⟩
 obtain ⟨u,hu⟩:∃ u,u=V.length:=⟨_,rfl⟩
 unfold RegS.rd RecS.rdL encG encR at *
 simp only [<-hm,<-hq,<-hq',<-hu] at T1 h hl hy ha hc ⊢
 rw [Option.ite_none_right_eq_some] at h
 obtain ⟨⟨h1,h2,h3,h4,h5,h6,h7⟩,rfl⟩:=h.imp_right Option.some.inj
 simp only [<-hu]
 have T2:=λ A c=>(bh A V u c e hu (by have:=wholeE_len h5;omega)).reads (N':=[Row 101 6 A u c (V.flatMap encE)]) (λ X hX=>⟨_,List.mem_cons_self,λ _ q=>by rw [List.mem_singleton.1 hX];exact Row.rd q⟩)
 rw [h5] at T2
 by_cases hev:e=v
 . have hVe:V=L++M:=by rw [hV];unfold viewL;rw [if_pos hev]
   have hun:u=m+q:=by rw [hu,hVe,List.length_append,hm,hq]
   rw [if_pos hev] at h4
   subst hVe
   subst hun
   refine aT Tryz.func68 [.ag [vI p,vI v,vL A m a,vI (cn:Int)],.ag [vI k,vI s,vI e,vI w,vI f,vI n,vL C q b,vL B q' d]] [] (λ E=>?_) ⟨⟨trivial,trivial,trivial,trivial,trivial⟩,⟨trivial,trivial,trivial,trivial,trivial,trivial,trivial,trivial,trivial⟩,trivial⟩
   refine aG ?_
   refine ev_new λ b10=>?_
   refine ev_new λ b11=>?_
   refine ev_new λ b12=>?_
   refine aC T1 [] [.inl 0] λ _ h13=>?_
   refine aI ?_
   refine ev_stop (go_draw Tryz.tbs_ok false [0] [(0,true),(1,true),(2,true),(3,true),(4,true),(5,true),(7,true),(8,true),(99,false),(0,true),(0,true),(0,true)] rfl ?_)
   refine aG (aE ?_)
   refine ev_stop (go_fork 6 10 [(9,true),(10,false),(11,false)] [(6,false),(9,false),(11,false)] _ _ ⟨aL,rfl⟩ (by kernel_rfl) rfl rfl rfl rfl ?_ ?_)
   refine aG ?_
   refine ev_stop (go_appendE (sz:=6) (M:=[]) (enc:=encE) Tryz.tbs_ok [] [] (.inl 0) ([]) (L) (L) (m) rfl rfl rfl rfl rfl rfl rfl (by decide) rfl (by decide) (λ _ _=>Row.nil _ _ _) rfl (λ _ h=>h) (by first | rfl | simp) (by first | rfl | omega) (aM (m)) (aN (m)) (λ _ _=>aL) (λ A14 c15 h16=>?_))
   refine aG (aE ?_)
   refine ev_new λ b17=>?_
   refine aE (aK ?_)
   refine aI ?_ (beq_eq_false_iff_ne.2 (show ¬k=1 from (by omega)))
   refine aJ ?_ (beq_iff_eq.2 (by with_reducible assumption))
   refine aJ ?_ (beq_iff_eq.2 (by with_reducible assumption))
   refine aI ?_ (decide_eq_false (show ¬e<1 from (by omega)))
   refine aI ?_ (decide_eq_false (show ¬e<p from (by omega)))
   refine aI ?_ (decide_eq_false (show ¬e > 1048576 from (by omega)))
   refine aI ?_ (ne_no (by with_reducible assumption))
   refine ev_stop (go_draw Tryz.tbs_ok false [0,1] [(0,true),(1,true),(2,true),(3,true),(5,true),(6,true),(4,false),(7,false),(8,false)] rfl ?_)
   refine aG (aE ?_)
   refine ev_stop (tk_front Tryz.tbs_ok (m) (a) aB rfl rfl rfl rfl rfl rfl rfl ⟨_,rfl⟩ rfl (by decide) (by omega) (by omega) ?_)
   refine aG (aE ?_)
   refine ev_stop (go_appendE (sz:=6) (M:=[]) (enc:=encE) Tryz.tbs_ok [] [] (.inl 0) ([]) (L) (L) (m) rfl rfl rfl rfl rfl rfl rfl (by decide) rfl (by decide) (λ _ _=>Row.nil _ _ _) rfl (λ _ h=>h) (by first | rfl | simp) (by first | rfl | omega) (aM (m)) (aN (m)) (λ _ _=>aL) (λ A18 c19 h20=>?_))
   refine aG (aE ?_)
   refine ev_stop (go_appendE (sz:=6) (M:=[_]) (enc:=encE) Tryz.tbs_ok [5] [] (.inl 1) (L) (M) ((L)++(M)) (m+q) rfl rfl rfl rfl rfl rfl rfl (by decide) rfl (by decide) (λ _ p=>starH_one.1 p) rfl (λ _ h=>h) (by first | rfl | simp) (by first | rfl | omega) (aM (m+q)) (aN (m+q)) (λ _ _=>aL) (λ A21 c22 h23=>?_))
   refine aG (aE (aK ?_))
   rotate_left
   refine aG ?_
   refine ev_new λ b24=>?_
   refine aE ?_
   refine ev_stop (go_appendE (sz:=6) (M:=[]) (enc:=encE) Tryz.tbs_ok [] [] (.inl 0) ([]) (L) (L) (m) rfl rfl rfl rfl rfl rfl rfl (by decide) rfl (by decide) (λ _ _=>Row.nil _ _ _) rfl (λ _ h=>h) (by first | rfl | simp) (by first | rfl | omega) (aM (m)) (aN (m)) (λ _ _=>aL) (λ A25 c26 h27=>?_))
   refine aG (aE (aE (aK ?_)))
   refine aI ?_ (beq_eq_false_iff_ne.2 (show ¬k=1 from (by omega)))
   refine aJ ?_ (beq_iff_eq.2 (by with_reducible assumption))
   refine aJ ?_ (beq_iff_eq.2 (by with_reducible assumption))
   refine aI ?_ (decide_eq_false (show ¬e<1 from (by omega)))
   refine aI ?_ (decide_eq_false (show ¬e<p from (by omega)))
   refine aI ?_ (decide_eq_false (show ¬e > 1048576 from (by omega)))
   refine aI ?_ (ne_no (by with_reducible assumption))
   refine ev_stop (go_draw Tryz.tbs_ok false [0,1] [(0,true),(1,true),(2,true),(3,true),(5,true),(6,true),(4,false),(7,false),(8,false)] rfl ?_)
   refine aG (aE ?_)
   refine ev_stop (tk_front Tryz.tbs_ok (m) (a) aB rfl rfl rfl rfl rfl rfl rfl ⟨_,rfl⟩ rfl (by decide) (by omega) (by omega) ?_)
   refine aG (aE ?_)
   refine ev_stop (go_appendE (sz:=6) (M:=[]) (enc:=encE) Tryz.tbs_ok [] [] (.inl 0) ([]) (L) (L) (m) rfl rfl rfl rfl rfl rfl rfl (by decide) rfl (by decide) (λ _ _=>Row.nil _ _ _) rfl (λ _ h=>h) (by first | rfl | simp) (by first | rfl | omega) (aM (m)) (aN (m)) (λ _ _=>aL) (λ A28 c29 h30=>?_))
   refine aG (aE ?_)
   refine ev_stop (go_appendE (sz:=6) (M:=[_]) (enc:=encE) Tryz.tbs_ok [5] [] (.inl 1) (L) (M) ((L)++(M)) (m+q) rfl rfl rfl rfl rfl rfl rfl (by decide) rfl (by decide) (λ _ p=>starH_one.1 p) rfl (λ _ h=>h) (by first | rfl | simp) (by first | rfl | omega) (aM (m+q)) (aN (m+q)) (λ _ _=>aL) (λ A31 c32 h33=>?_))
   refine aG (aE (aK ?_))
   rotate_left
   . refine aC (T2 (A21) (c22)) [] [.inr 5] λ _ h50=>?_
     refine aI ?_
     refine aI ?_ (decide_eq_false (show ¬(↑(m+q):Int)<(↑cn:Int) from (by omega)))
     refine ev_stop (go_loopR [0,1,5,9,10,23,96,97,98,99,100,101,102,103,104,105,106,107,108,109,110,111,112] (λ i=>[(9,vI (i:Nat))]) (λ _=>[]) (λ i=>i<=cn) (λ i=>cn-i) (0:Nat) (Nat.zero_le _) aS (λ i hi=>?_))
     rcases Nat.lt_or_ge i cn with hic | hic
     . have hiL:i<L.length:=by omega
       have hiV:i<(L++M).length:=by omega
       have heq:(L++M)[i]=L[i]:=ay h6 hic hiL hiV
       refine aG ?_
       refine aJ ?_ (decide_eq_true (show (↑i:Int)<(↑cn:Int) from (by omega)))
       refine ev_stop (go_draw Tryz.tbs_ok true [0,1,2,3,4,5] [(0,true),(1,true),(2,true),(3,true),(4,true),(5,true),(6,true),(7,true),(8,true),(9,true)] rfl ?_)
       refine aG (aE ?_)
       refine ev_stop (tk_index0 (sz:=6) Tryz.tbs_ok (.inr 5) (i) aB rfl rfl rfl rfl rfl rfl rfl (by omega) rfl Row.at0 (λ g60 e61=>?_))
       subst e61
       refine aG (aE ?_)
       have l62:i<(L++M).length:=(by omega)
       refine ev_stop (tk_loadE Tryz.tbs_ok (.inr 5) (i) 0 aB rfl rfl rfl rfl rfl (λ _ h=>Row.rd h) (by omega) (λ _=>rfl) (by omega) l62 (by decide) ?_)
       refine aG (aE ?_)
       refine ev_stop (tk_indexE (sz:=6) Tryz.tbs_ok (.inl 0) (i) aB rfl rfl rfl rfl rfl rfl rfl (by omega) rfl (λ _ h=>h) (λ g63 o65 e64=>?_))
       subst e64
       refine aG (aE ?_)
       have l66:i<(L).length:=(by omega)
       refine ev_stop (tk_loadE Tryz.tbs_ok (.inl 0) (i) 0 aB rfl rfl rfl rfl rfl (λ _ h=>h) (by omega) (λ _=>rfl) (by omega) l66 (by decide) ?_)
       refine aG (aE ?_)
       refine ev_stop (tk_val (o:=_) aB rfl rfl (.bq (!(decide ((L++M)[i]=L[i])))) trivial (λ a w hF _=>neq_run (ev_denv hF rfl rfl) (ev_denv hF rfl rfl) (by kernel_rfl) (eq_ent (L++M)[i] L[i] 9997 w)) ?_)
       refine aG (aE ?_)
       refine aI ?_ (dec_no (by with_reducible assumption))
       refine wN (i+1) ?_
       refine ev_fin (round_next (i+1) (show i+1<=cn from (by assumption)) (show cn-(i+1)<cn-i from (by omega)) aS)
       all_goals skip
     obtain rfl:i=cn:=by omega
     refine aG ?_
     refine aI ?_ (decide_eq_false (show ¬(↑i:Int)<(↑i:Int) from (by omega)))
     refine ev_fin (go Tryz.tbs_ok 1000 ?_)
     refine ev_stop (go_draw Tryz.tbs_ok false [1] [(0,true),(1,true),(2,true),(3,true),(4,true),(5,true),(6,false),(7,false),(8,false),(9,false),(10,false)] rfl ?_)
     refine aG (aE (aE (aE (aE (aE (aK ?_))))))
     exact ev_fin ⟨trivial,_,rfl,((A21,c22)),rfl,by trivial,aF [5]⟩
     all_goals skip
   refine aC (T2 (A31) (c32)) [] [.inr 5] λ _ h50=>?_
   refine aI ?_
   refine aI ?_ (decide_eq_false (show ¬(↑(m+q):Int)<(↑cn:Int) from (by omega)))
   refine ev_stop (go_loopR [0,1,5,9,10,23,96,97,98,99,100,101,102,103,104,105,106,107,108,109,110,111,112] (λ i=>[(9,vI (i:Nat))]) (λ _=>[]) (λ i=>i<=cn) (λ i=>cn-i) (0:Nat) (Nat.zero_le _) aS (λ i hi=>?_))
   rcases Nat.lt_or_ge i cn with hic | hic
   . have hiL:i<L.length:=by omega
     have hiV:i<(L++M).length:=by omega
     have heq:(L++M)[i]=L[i]:=ay h6 hic hiL hiV
     refine aG ?_
     refine aJ ?_ (decide_eq_true (show (↑i:Int)<(↑cn:Int) from (by omega)))
     refine ev_stop (go_draw Tryz.tbs_ok true [0,1,2,3,4,5] [(0,true),(1,true),(2,true),(3,true),(4,true),(5,true),(6,true),(7,true),(8,true),(9,true)] rfl ?_)
     refine aG (aE ?_)
     refine ev_stop (tk_index0 (sz:=6) Tryz.tbs_ok (.inr 5) (i) aB rfl rfl rfl rfl rfl rfl rfl (by omega) rfl Row.at0 (λ g60 e61=>?_))
     subst e61
     refine aG (aE ?_)
     have l62:i<(L++M).length:=(by omega)
     refine ev_stop (tk_loadE Tryz.tbs_ok (.inr 5) (i) 0 aB rfl rfl rfl rfl rfl (λ _ h=>Row.rd h) (by omega) (λ _=>rfl) (by omega) l62 (by decide) ?_)
     refine aG (aE ?_)
     refine ev_stop (tk_indexE (sz:=6) Tryz.tbs_ok (.inl 0) (i) aB rfl rfl rfl rfl rfl rfl rfl (by omega) rfl (λ _ h=>h) (λ g63 o65 e64=>?_))
     subst e64
     refine aG (aE ?_)
     have l66:i<(L).length:=(by omega)
     refine ev_stop (tk_loadE Tryz.tbs_ok (.inl 0) (i) 0 aB rfl rfl rfl rfl rfl (λ _ h=>h) (by omega) (λ _=>rfl) (by omega) l66 (by decide) ?_)
     refine aG (aE ?_)
     refine ev_stop (tk_val (o:=_) aB rfl rfl (.bq (!(decide ((L++M)[i]=L[i])))) trivial (λ a w hF _=>neq_run (ev_denv hF rfl rfl) (ev_denv hF rfl rfl) (by kernel_rfl) (eq_ent (L++M)[i] L[i] 9997 w)) ?_)
     refine aG (aE ?_)
     refine aI ?_ (dec_no (by with_reducible assumption))
     refine wN (i+1) ?_
     refine ev_fin (round_next (i+1) (show i+1<=cn from (by assumption)) (show cn-(i+1)<cn-i from (by omega)) aS)
     all_goals skip
   obtain rfl:i=cn:=by omega
   refine aG ?_
   refine aI ?_ (decide_eq_false (show ¬(↑i:Int)<(↑i:Int) from (by omega)))
   refine ev_fin (go Tryz.tbs_ok 1000 ?_)
   refine ev_stop (go_draw Tryz.tbs_ok false [1] [(0,true),(1,true),(2,true),(3,true),(4,true),(5,true),(6,false),(7,false),(8,false),(9,false),(10,false)] rfl ?_)
   refine aG (aE (aE (aE (aE (aE (aK ?_))))))
   exact ev_fin ⟨trivial,_,rfl,((A31,c32)),rfl,by trivial,aF [5]⟩
   all_goals skip
 have hVe:V=M:=by rw [hV];unfold viewL;rw [if_neg hev];rfl
 have hun:u=q:=by rw [hu,hVe,hq]
 rw [if_neg hev] at h4
 subst hVe
 subst hun
 refine aT Tryz.func68 [.ag [vI p,vI v,vL A m a,vI (cn:Int)],.ag [vI k,vI s,vI e,vI w,vI f,vI n,vL C u b,vL B q' d]] [] (λ E=>?_) ⟨⟨trivial,trivial,trivial,trivial,trivial⟩,⟨trivial,trivial,trivial,trivial,trivial,trivial,trivial,trivial,trivial⟩,trivial⟩
 refine aG ?_
 refine ev_new λ b10=>?_
 refine ev_new λ b11=>?_
 refine ev_new λ b12=>?_
 refine aC T1 [] [.inl 0] λ _ h13=>?_
 refine aI ?_
 refine ev_stop (go_draw Tryz.tbs_ok false [0] [(0,true),(1,true),(2,true),(3,true),(4,true),(5,true),(7,true),(8,true),(99,false),(0,true),(0,true),(0,true)] rfl ?_)
 refine aG (aE ?_)
 refine ev_stop (go_fork 6 10 [(9,true),(10,false),(11,false)] [(6,false),(9,false),(11,false)] _ _ ⟨aL,rfl⟩ (by kernel_rfl) rfl rfl rfl rfl ?_ ?_)
 refine aG ?_
 refine ev_stop (go_appendE (sz:=6) (M:=[]) (enc:=encE) Tryz.tbs_ok [] [] (.inl 0) ([]) (L) (L) (m) rfl rfl rfl rfl rfl rfl rfl (by decide) rfl (by decide) (λ _ _=>Row.nil _ _ _) rfl (λ _ h=>h) (by first | rfl | simp) (by first | rfl | omega) (aM (m)) (aN (m)) (λ _ _=>aL) (λ A14 c15 h16=>?_))
 refine aG (aE ?_)
 refine ev_new λ b17=>?_
 refine aE (aK ?_)
 refine aI ?_ (beq_eq_false_iff_ne.2 (show ¬k=1 from (by omega)))
 refine aJ ?_ (beq_iff_eq.2 (by with_reducible assumption))
 refine aI ?_ (beq_eq_false_iff_ne.2 (by with_reducible assumption))
 refine aI ?_ (decide_eq_false (show ¬e<1 from (by omega)))
 refine aI ?_ (decide_eq_false (show ¬e<p from (by omega)))
 refine aI ?_ (decide_eq_false (show ¬e > 1048576 from (by omega)))
 refine aI ?_ (ne_no (by with_reducible assumption))
 refine ev_stop (go_draw Tryz.tbs_ok false [0,1] [(0,true),(1,true),(2,true),(3,true),(5,true),(6,true),(4,false),(7,false),(8,false)] rfl ?_)
 refine aG (aE ?_)
 refine ev_stop (tk_front Tryz.tbs_ok (0) (a) aB rfl rfl rfl rfl rfl rfl rfl ⟨_,rfl⟩ rfl (by decide) (by omega) (by omega) ?_)
 refine aG (aE ?_)
 refine ev_stop (go_appendE (sz:=6) (M:=[]) (enc:=encE) Tryz.tbs_ok [] [] (.inl 0) ([]) (((L).take (0))) (((L).take (0))) (0) rfl rfl rfl rfl rfl rfl rfl (by decide) rfl (by decide) (λ _ _=>Row.nil _ _ _) rfl (λ _ h=>rd_take (k:=0) (λ _=>rfl) h (by omega)) (by first | rfl | simp) (by first | rfl | omega) (aM (0)) (aN (0)) (λ _ _=>aL) (λ A18 c19 h20=>?_))
 refine aG (aE ?_)
 refine ev_stop (go_appendE (sz:=6) (M:=[_]) (enc:=encE) Tryz.tbs_ok [5] [] (.inl 1) (List.take 0 L) (V) ((List.take 0 L)++(V)) (u) rfl rfl rfl rfl rfl rfl rfl (by decide) rfl (by decide) (λ _ p=>starH_one.1 p) rfl (λ _ h=>h) (by first | rfl | simp) (by first | rfl | omega) (aM (u)) (aN (u)) (λ _ _=>aL) (λ A21 c22 h23=>?_))
 refine aG (aE (aK ?_))
 rotate_left
 refine aG ?_
 refine ev_new λ b24=>?_
 refine aE ?_
 refine ev_stop (go_appendE (sz:=6) (M:=[]) (enc:=encE) Tryz.tbs_ok [] [] (.inl 0) ([]) (L) (L) (m) rfl rfl rfl rfl rfl rfl rfl (by decide) rfl (by decide) (λ _ _=>Row.nil _ _ _) rfl (λ _ h=>h) (by first | rfl | simp) (by first | rfl | omega) (aM (m)) (aN (m)) (λ _ _=>aL) (λ A25 c26 h27=>?_))
 refine aG (aE (aE (aK ?_)))
 refine aI ?_ (beq_eq_false_iff_ne.2 (show ¬k=1 from (by omega)))
 refine aJ ?_ (beq_iff_eq.2 (by with_reducible assumption))
 refine aI ?_ (beq_eq_false_iff_ne.2 (by with_reducible assumption))
 refine aI ?_ (decide_eq_false (show ¬e<1 from (by omega)))
 refine aI ?_ (decide_eq_false (show ¬e<p from (by omega)))
 refine aI ?_ (decide_eq_false (show ¬e > 1048576 from (by omega)))
 refine aI ?_ (ne_no (by with_reducible assumption))
 refine ev_stop (go_draw Tryz.tbs_ok false [0,1] [(0,true),(1,true),(2,true),(3,true),(5,true),(6,true),(4,false),(7,false),(8,false)] rfl ?_)
 refine aG (aE ?_)
 refine ev_stop (tk_front Tryz.tbs_ok (0) (a) aB rfl rfl rfl rfl rfl rfl rfl ⟨_,rfl⟩ rfl (by decide) (by omega) (by omega) ?_)
 refine aG (aE ?_)
 refine ev_stop (go_appendE (sz:=6) (M:=[]) (enc:=encE) Tryz.tbs_ok [] [] (.inl 0) ([]) (((L).take (0))) (((L).take (0))) (0) rfl rfl rfl rfl rfl rfl rfl (by decide) rfl (by decide) (λ _ _=>Row.nil _ _ _) rfl (λ _ h=>rd_take (k:=0) (λ _=>rfl) h (by omega)) (by first | rfl | simp) (by first | rfl | omega) (aM (0)) (aN (0)) (λ _ _=>aL) (λ A28 c29 h30=>?_))
 refine aG (aE ?_)
 refine ev_stop (go_appendE (sz:=6) (M:=[_]) (enc:=encE) Tryz.tbs_ok [5] [] (.inl 1) (List.take 0 L) (V) ((List.take 0 L)++(V)) (u) rfl rfl rfl rfl rfl rfl rfl (by decide) rfl (by decide) (λ _ p=>starH_one.1 p) rfl (λ _ h=>h) (by first | rfl | simp) (by first | rfl | omega) (aM (u)) (aN (u)) (λ _ _=>aL) (λ A31 c32 h33=>?_))
 refine aG (aE (aK ?_))
 rotate_left
 . refine aC (T2 (A21) (c22)) [] [.inr 5] λ _ h50=>?_
   refine aI ?_
   refine aI ?_ (decide_eq_false (show ¬(↑u:Int)<(↑cn:Int) from (by omega)))
   refine ev_stop (go_loopR [0,1,5,9,10,23,96,97,98,99,100,101,102,103,104,105,106,107,108,109,110,111,112] (λ i=>[(9,vI (i:Nat))]) (λ _=>[]) (λ i=>i<=cn) (λ i=>cn-i) (0:Nat) (Nat.zero_le _) aS (λ i hi=>?_))
   rcases Nat.lt_or_ge i cn with hic | hic
   . have hiL:i<L.length:=by omega
     have hiV:i<V.length:=by omega
     have heq:V[i]=L[i]:=ay h6 hic hiL hiV
     refine aG ?_
     refine aJ ?_ (decide_eq_true (show (↑i:Int)<(↑cn:Int) from (by omega)))
     refine ev_stop (go_draw Tryz.tbs_ok true [0,1,2,3,4,5] [(0,true),(1,true),(2,true),(3,true),(4,true),(5,true),(6,true),(7,true),(8,true),(9,true)] rfl ?_)
     refine aG (aE ?_)
     refine ev_stop (tk_index0 (sz:=6) Tryz.tbs_ok (.inr 5) (i) aB rfl rfl rfl rfl rfl rfl rfl (by omega) rfl Row.at0 (λ g60 e61=>?_))
     subst e61
     refine aG (aE ?_)
     have l62:i<(List.take 0 L++V).length:=(by (simp only [List.length_append];omega))
     refine ev_stop (tk_loadE Tryz.tbs_ok (.inr 5) (i) 0 aB rfl rfl rfl rfl rfl (λ _ h=>Row.rd h) (by omega) (λ _=>rfl) (by omega) l62 (by decide) ?_)
     refine aG (aE ?_)
     refine ev_stop (tk_indexE (sz:=6) Tryz.tbs_ok (.inl 0) (i) aB rfl rfl rfl rfl rfl rfl rfl (by omega) rfl (λ _ h=>h) (λ g63 o65 e64=>?_))
     subst e64
     refine aG (aE ?_)
     have l66:i<(L).length:=(by omega)
     refine ev_stop (tk_loadE Tryz.tbs_ok (.inl 0) (i) 0 aB rfl rfl rfl rfl rfl (λ _ h=>h) (by omega) (λ _=>rfl) (by omega) l66 (by decide) ?_)
     refine aG (aE ?_)
     refine ev_stop (tk_val (o:=_) aB rfl rfl (.bq (!(decide (V[i]=L[i])))) trivial (λ a w hF _=>neq_run (ev_denv hF rfl rfl) (ev_denv hF rfl rfl) (by kernel_rfl) (eq_ent V[i] L[i] 9997 w)) ?_)
     refine aG (aE ?_)
     refine aI ?_ (dec_no (by omega))
     refine wN (i+1) ?_
     refine ev_fin (round_next (i+1) (show i+1<=cn from (by assumption)) (show cn-(i+1)<cn-i from (by omega)) aS)
     all_goals skip
   obtain rfl:i=cn:=by omega
   refine aG ?_
   refine aI ?_ (decide_eq_false (show ¬(↑i:Int)<(↑i:Int) from (by omega)))
   refine ev_fin (go Tryz.tbs_ok 1000 ?_)
   refine ev_stop (go_draw Tryz.tbs_ok false [1] [(0,true),(1,true),(2,true),(3,true),(4,true),(5,true),(6,false),(7,false),(8,false),(9,false),(10,false)] rfl ?_)
   refine aG (aE (aE (aE (aE (aE (aK ?_))))))
   exact ev_fin ⟨trivial,_,rfl,((A21,c22)),rfl,by trivial,aF [5]⟩
   all_goals skip
 refine aC (T2 (A31) (c32)) [] [.inr 5] λ _ h50=>?_
 refine aI ?_
 refine aI ?_ (decide_eq_false (show ¬(↑u:Int)<(↑cn:Int) from (by omega)))
 refine ev_stop (go_loopR [0,1,5,9,10,23,96,97,98,99,100,101,102,103,104,105,106,107,108,109,110,111,112] (λ i=>[(9,vI (i:Nat))]) (λ _=>[]) (λ i=>i<=cn) (λ i=>cn-i) (0:Nat) (Nat.zero_le _) aS (λ i hi=>?_))
 rcases Nat.lt_or_ge i cn with hic | hic
 . have hiL:i<L.length:=by omega
   have hiV:i<V.length:=by omega
   have heq:V[i]=L[i]:=ay h6 hic hiL hiV
   refine aG ?_
   refine aJ ?_ (decide_eq_true (show (↑i:Int)<(↑cn:Int) from (by omega)))
   refine ev_stop (go_draw Tryz.tbs_ok true [0,1,2,3,4,5] [(0,true),(1,true),(2,true),(3,true),(4,true),(5,true),(6,true),(7,true),(8,true),(9,true)] rfl ?_)
   refine aG (aE ?_)
   refine ev_stop (tk_index0 (sz:=6) Tryz.tbs_ok (.inr 5) (i) aB rfl rfl rfl rfl rfl rfl rfl (by omega) rfl Row.at0 (λ g60 e61=>?_))
   subst e61
   refine aG (aE ?_)
   have l62:i<(List.take 0 L++V).length:=(by (simp only [List.length_append];omega))
   refine ev_stop (tk_loadE Tryz.tbs_ok (.inr 5) (i) 0 aB rfl rfl rfl rfl rfl (λ _ h=>Row.rd h) (by omega) (λ _=>rfl) (by omega) l62 (by decide) ?_)
   refine aG (aE ?_)
   refine ev_stop (tk_indexE (sz:=6) Tryz.tbs_ok (.inl 0) (i) aB rfl rfl rfl rfl rfl rfl rfl (by omega) rfl (λ _ h=>h) (λ g63 o65 e64=>?_))
   subst e64
   refine aG (aE ?_)
   have l66:i<(L).length:=(by omega)
   refine ev_stop (tk_loadE Tryz.tbs_ok (.inl 0) (i) 0 aB rfl rfl rfl rfl rfl (λ _ h=>h) (by omega) (λ _=>rfl) (by omega) l66 (by decide) ?_)
   refine aG (aE ?_)
   refine ev_stop (tk_val (o:=_) aB rfl rfl (.bq (!(decide (V[i]=L[i])))) trivial (λ a w hF _=>neq_run (ev_denv hF rfl rfl) (ev_denv hF rfl rfl) (by kernel_rfl) (eq_ent V[i] L[i] 9997 w)) ?_)
   refine aG (aE ?_)
   refine aI ?_ (dec_no (by omega))
   refine wN (i+1) ?_
   refine ev_fin (round_next (i+1) (show i+1<=cn from (by assumption)) (show cn-(i+1)<cn-i from (by omega)) aS)
   all_goals skip
 obtain rfl:i=cn:=by omega
 refine aG ?_
 refine aI ?_ (decide_eq_false (show ¬(↑i:Int)<(↑i:Int) from (by omega)))
 refine ev_fin (go Tryz.tbs_ok 1000 ?_)
 refine ev_stop (go_draw Tryz.tbs_ok false [1] [(0,true),(1,true),(2,true),(3,true),(4,true),(5,true),(6,false),(7,false),(8,false),(9,false),(10,false)] rfl ?_)
 refine aG (aE (aE (aE (aE (aE (aK ?_))))))
 exact ev_fin ⟨trivial,_,rfl,((A31,c32)),rfl,by trivial,aF [5]⟩
 all_goals skip
set_option maxHeartbeats 8000000 in
theorem da (x:RegS) (y:RecS) (ho:okR x.r=true) (hk:y.r.k=2) (hy:y.r.L.length<=2000) (ha:x.r.L.length<=x.a) (h:applyR x.r y.r=none) :
 Triple Tryz.prog 68 [.agg (encG x).toArray,.agg (encR y).toArray] [] [x.rd,y.rdL] Unit (λ _=>.tuple #[.agg (encG ⟨noReg,none,0⟩).toArray,.bool false]) (λ _=>True) (λ _=>[]):=by
 have hl:=wholeE_len (okR_of ho).2.2.2.1
 have T1:=aV x (by omega)
 have hc:=(okR_of ho).2.2.2.2
 rw [ho] at T1
 unfold applyR at h
 rw [if_neg (by rw [ho];decide),if_neg (by omega),if_pos hk] at h
 obtain ⟨⟨p,v,L,c⟩,A,a⟩:=x
 obtain ⟨⟨k,s,e,w,f,n,M,F⟩,C,b,B,d⟩:=y
 simp only at h hk hl hy ha hc
 obtain ⟨cn,rfl⟩:∃ cn:Nat,c=(cn:Int):=⟨c.toNat,by omega⟩
 simp only [Int.toNat_natCast] at h
 obtain ⟨V,hV⟩:∃ V,V=viewL ⟨p,v,L,(cn:Int)⟩ ⟨k,s,e,w,f,n,M,F⟩:=⟨_,rfl⟩
 rw [<-hV] at h
 obtain ⟨m,hm⟩:∃ m,m=L.length:=⟨_,rfl⟩
 obtain ⟨q,hq⟩:∃ q,q=M.length:=⟨_,rfl⟩
 obtain ⟨q',hq'⟩:∃ q',q'=F.length:=⟨_,rfl⟩
 obtain ⟨u,hu⟩:∃ u,u=V.length:=⟨_,rfl⟩
 unfold RegS.rd RecS.rdL encG encR at *
 simp only [<-hm,<-hq,<-hq',<-hu] at T1 h hl hy ha hc ⊢
 have hu3:u<=m+2000:=by
  rw [hu,hV]
  unfold viewL
  rw [List.length_append]
  split<;>simp only [List.length_nil,<-hm,<-hq]<;>omega
 have T2:=λ A c=>(bh A V u c e hu (by omega)).reads (N':=[Row 101 6 A u c (V.flatMap encE)]) (λ X hX=>⟨_,List.mem_cons_self,λ _ q=>by rw [List.mem_singleton.1 hX];exact Row.rd q⟩)
 obtain ⟨wv,hwv⟩:∃ wv,wv=wholeE V e:=⟨_,rfl⟩
 rw [<-hwv] at T2 h
 by_cases hev:e=v
 . have hVe:V=L++M:=by rw [hV];unfold viewL;rw [if_pos hev]
   have hun:u=m+q:=by rw [hu,hVe,List.length_append,hm,hq]
   rw [if_pos hev] at h
   have htk:L.take cn=V.take cn:=by rw [hVe,List.take_append_of_le_length (by omega)]
   have hno:¬ (1<=e/\p<=e/\e<=1048576/\f=(m:Int)/\wv=true):=λ ⟨a1,a2,a3,a4,a5⟩=>by rw [if_pos ⟨a1,a2,a3,a4,a5,htk,by omega⟩] at h;cases h
   subst hVe
   subst hun
   refine aT Tryz.func68 [.ag [vI p,vI v,vL A m a,vI (cn:Int)],.ag [vI k,vI s,vI e,vI w,vI f,vI n,vL C q b,vL B q' d]] [] (λ E=>?_) ⟨⟨trivial,trivial,trivial,trivial,trivial⟩,⟨trivial,trivial,trivial,trivial,trivial,trivial,trivial,trivial,trivial⟩,trivial⟩
   cases wv with
   |
    true =>
    have hno2:¬ (1<=e/\p<=e/\e<=1048576/\f=(m:Int)):=λ ⟨a1,a2,a3,a4⟩=>hno ⟨a1,a2,a3,a4,rfl⟩
    refine aG ?_
    refine ev_new λ b10=>?_
    refine ev_new λ b11=>?_
    refine ev_new λ b12=>?_
    refine aC T1 [] [.inl 0] λ _ h13=>?_
    refine aI ?_
    refine ev_stop (go_draw Tryz.tbs_ok false [0] [(0,true),(1,true),(2,true),(3,true),(4,true),(5,true),(7,true),(8,true),(99,false),(0,true),(0,true),(0,true)] rfl ?_)
    refine aG (aE ?_)
    refine ev_stop (go_fork 6 10 [(9,true),(10,false),(11,false)] [(6,false),(9,false),(11,false)] _ _ ⟨aL,rfl⟩ (by kernel_rfl) rfl rfl rfl rfl ?_ ?_)
    refine aG ?_
    refine ev_stop (go_appendE (sz:=6) (M:=[]) (enc:=encE) Tryz.tbs_ok [] [] (.inl 0) ([]) (L) (L) (m) rfl rfl rfl rfl rfl rfl rfl (by decide) rfl (by decide) (λ _ _=>Row.nil _ _ _) rfl (λ _ h=>h) (by first | rfl | simp) (by first | rfl | omega) (aM (m)) (aN (m)) (λ _ _=>aL) (λ A14 c15 h16=>?_))
    refine aG (aE ?_)
    refine ev_new λ b17=>?_
    refine aE (aK ?_)
    refine aI ?_ (beq_eq_false_iff_ne.2 (show ¬k=1 from (by omega)))
    refine aJ ?_ (beq_iff_eq.2 (by with_reducible assumption))
    refine aJ ?_ (beq_iff_eq.2 (by with_reducible assumption))
    refine ev_if_lt (λ h18=>?_) (λ h18=>?_)
    refine aG ?_
    refine ev_fin ⟨trivial,_,rfl,(()),rfl,(by trivial),Frm.nil _⟩
    refine aG ?_
    refine ev_if_lt (λ h19=>?_) (λ h19=>?_)
    refine aG ?_
    refine ev_fin ⟨trivial,_,rfl,(()),rfl,(by trivial),Frm.nil _⟩
    refine aG ?_
    refine ev_if_lt (λ h20=>?_) (λ h20=>?_)
    refine aG ?_
    refine ev_fin ⟨trivial,_,rfl,(()),rfl,(by trivial),Frm.nil _⟩
    refine aG ?_
    refine aJ ?_ (ne_yes (show ¬f=(↑m:Int) from (by omega)))
    refine ev_fin ⟨trivial,_,rfl,(()),rfl,(by trivial),Frm.nil _⟩
    refine aG ?_
    refine ev_new λ b21=>?_
    refine aE ?_
    refine ev_stop (go_appendE (sz:=6) (M:=[]) (enc:=encE) Tryz.tbs_ok [] [] (.inl 0) ([]) (L) (L) (m) rfl rfl rfl rfl rfl rfl rfl (by decide) rfl (by decide) (λ _ _=>Row.nil _ _ _) rfl (λ _ h=>h) (by first | rfl | simp) (by first | rfl | omega) (aM (m)) (aN (m)) (λ _ _=>aL) (λ A22 c23 h24=>?_))
    refine aG (aE (aE (aK ?_)))
    refine aI ?_ (beq_eq_false_iff_ne.2 (show ¬k=1 from (by omega)))
    refine aJ ?_ (beq_iff_eq.2 (by with_reducible assumption))
    refine aJ ?_ (beq_iff_eq.2 (by with_reducible assumption))
    refine ev_if_lt (λ h25=>?_) (λ h25=>?_)
    refine aG ?_
    refine ev_fin ⟨trivial,_,rfl,(()),rfl,(by trivial),Frm.nil _⟩
    refine aG ?_
    refine ev_if_lt (λ h26=>?_) (λ h26=>?_)
    refine aG ?_
    refine ev_fin ⟨trivial,_,rfl,(()),rfl,(by trivial),Frm.nil _⟩
    refine aG ?_
    refine ev_if_lt (λ h27=>?_) (λ h27=>?_)
    refine aG ?_
    refine ev_fin ⟨trivial,_,rfl,(()),rfl,(by trivial),Frm.nil _⟩
    refine aG ?_
    refine aJ ?_ (ne_yes (show ¬f=(↑m:Int) from (by omega)))
    refine ev_fin ⟨trivial,_,rfl,(()),rfl,(by trivial),Frm.nil _⟩
    all_goals (exfalso;omega)
   |
    false =>
    refine aG ?_
    refine ev_new λ b10=>?_
    refine ev_new λ b11=>?_
    refine ev_new λ b12=>?_
    refine aC T1 [] [.inl 0] λ _ h13=>?_
    refine aI ?_
    refine ev_stop (go_draw Tryz.tbs_ok false [0] [(0,true),(1,true),(2,true),(3,true),(4,true),(5,true),(7,true),(8,true),(99,false),(0,true),(0,true),(0,true)] rfl ?_)
    refine aG (aE ?_)
    refine ev_stop (go_fork 6 10 [(9,true),(10,false),(11,false)] [(6,false),(9,false),(11,false)] _ _ ⟨aL,rfl⟩ (by kernel_rfl) rfl rfl rfl rfl ?_ ?_)
    refine aG ?_
    refine ev_stop (go_appendE (sz:=6) (M:=[]) (enc:=encE) Tryz.tbs_ok [] [] (.inl 0) ([]) (L) (L) (m) rfl rfl rfl rfl rfl rfl rfl (by decide) rfl (by decide) (λ _ _=>Row.nil _ _ _) rfl (λ _ h=>h) (by first | rfl | simp) (by first | rfl | omega) (aM (m)) (aN (m)) (λ _ _=>aL) (λ A14 c15 h16=>?_))
    refine aG (aE ?_)
    refine ev_new λ b17=>?_
    refine aE (aK ?_)
    refine aI ?_ (beq_eq_false_iff_ne.2 (show ¬k=1 from (by omega)))
    refine aJ ?_ (beq_iff_eq.2 (by with_reducible assumption))
    refine aJ ?_ (beq_iff_eq.2 (by with_reducible assumption))
    refine ev_if_lt (λ h18=>?_) (λ h18=>?_)
    refine aG ?_
    refine ev_fin ⟨trivial,_,rfl,(()),rfl,(by trivial),Frm.nil _⟩
    refine aG ?_
    refine ev_if_lt (λ h19=>?_) (λ h19=>?_)
    refine aG ?_
    refine ev_fin ⟨trivial,_,rfl,(()),rfl,(by trivial),Frm.nil _⟩
    refine aG ?_
    refine ev_if_lt (λ h20=>?_) (λ h20=>?_)
    refine aG ?_
    refine ev_fin ⟨trivial,_,rfl,(()),rfl,(by trivial),Frm.nil _⟩
    refine aG ?_
    refine ev_if_ne (λ h21=>?_) (λ h21=>?_)
    refine aG ?_
    refine ev_fin ⟨trivial,_,rfl,(()),rfl,(by trivial),Frm.nil _⟩
    refine aG ?_
    refine ev_stop (go_draw Tryz.tbs_ok false [0,1] [(0,true),(1,true),(2,true),(3,true),(5,true),(6,true),(4,false),(7,false),(8,false)] rfl ?_)
    refine aG (aE ?_)
    refine ev_stop (tk_front Tryz.tbs_ok (m) (a) aB rfl rfl rfl rfl rfl rfl rfl ⟨_,rfl⟩ rfl (by decide) (by omega) (by omega) ?_)
    refine aG (aE ?_)
    refine ev_stop (go_appendE (sz:=6) (M:=[]) (enc:=encE) Tryz.tbs_ok [] [] (.inl 0) ([]) (L) (L) (m) rfl rfl rfl rfl rfl rfl rfl (by decide) rfl (by decide) (λ _ _=>Row.nil _ _ _) rfl (λ _ h=>h) (by first | rfl | simp) (by first | rfl | omega) (aM (m)) (aN (m)) (λ _ _=>aL) (λ A22 c23 h24=>?_))
    refine aG (aE ?_)
    refine ev_stop (go_appendE (sz:=6) (M:=[_]) (enc:=encE) Tryz.tbs_ok [5] [] (.inl 1) (L) (M) ((L)++(M)) (m+q) rfl rfl rfl rfl rfl rfl rfl (by decide) rfl (by decide) (λ _ p=>starH_one.1 p) rfl (λ _ h=>h) (by first | rfl | simp) (by first | rfl | omega) (aM (m+q)) (aN (m+q)) (λ _ _=>aL) (λ A25 c26 h27=>?_))
    refine aG (aE (aK ?_))
    rotate_left
    refine aG ?_
    refine ev_new λ b28=>?_
    refine aE ?_
    refine ev_stop (go_appendE (sz:=6) (M:=[]) (enc:=encE) Tryz.tbs_ok [] [] (.inl 0) ([]) (L) (L) (m) rfl rfl rfl rfl rfl rfl rfl (by decide) rfl (by decide) (λ _ _=>Row.nil _ _ _) rfl (λ _ h=>h) (by first | rfl | simp) (by first | rfl | omega) (aM (m)) (aN (m)) (λ _ _=>aL) (λ A29 c30 h31=>?_))
    refine aG (aE (aE (aK ?_)))
    refine aI ?_ (beq_eq_false_iff_ne.2 (show ¬k=1 from (by omega)))
    refine aJ ?_ (beq_iff_eq.2 (by with_reducible assumption))
    refine aJ ?_ (beq_iff_eq.2 (by with_reducible assumption))
    refine ev_if_lt (λ h32=>?_) (λ h32=>?_)
    refine aG ?_
    refine ev_fin ⟨trivial,_,rfl,(()),rfl,(by trivial),Frm.nil _⟩
    refine aG ?_
    refine ev_if_lt (λ h33=>?_) (λ h33=>?_)
    refine aG ?_
    refine ev_fin ⟨trivial,_,rfl,(()),rfl,(by trivial),Frm.nil _⟩
    refine aG ?_
    refine ev_if_lt (λ h34=>?_) (λ h34=>?_)
    refine aG ?_
    refine ev_fin ⟨trivial,_,rfl,(()),rfl,(by trivial),Frm.nil _⟩
    refine aG ?_
    refine ev_if_ne (λ h35=>?_) (λ h35=>?_)
    refine aG ?_
    refine ev_fin ⟨trivial,_,rfl,(()),rfl,(by trivial),Frm.nil _⟩
    refine aG ?_
    refine ev_stop (go_draw Tryz.tbs_ok false [0,1] [(0,true),(1,true),(2,true),(3,true),(5,true),(6,true),(4,false),(7,false),(8,false)] rfl ?_)
    refine aG (aE ?_)
    refine ev_stop (tk_front Tryz.tbs_ok (m) (a) aB rfl rfl rfl rfl rfl rfl rfl ⟨_,rfl⟩ rfl (by decide) (by omega) (by omega) ?_)
    refine aG (aE ?_)
    refine ev_stop (go_appendE (sz:=6) (M:=[]) (enc:=encE) Tryz.tbs_ok [] [] (.inl 0) ([]) (L) (L) (m) rfl rfl rfl rfl rfl rfl rfl (by decide) rfl (by decide) (λ _ _=>Row.nil _ _ _) rfl (λ _ h=>h) (by first | rfl | simp) (by first | rfl | omega) (aM (m)) (aN (m)) (λ _ _=>aL) (λ A36 c37 h38=>?_))
    refine aG (aE ?_)
    refine ev_stop (go_appendE (sz:=6) (M:=[_]) (enc:=encE) Tryz.tbs_ok [5] [] (.inl 1) (L) (M) ((L)++(M)) (m+q) rfl rfl rfl rfl rfl rfl rfl (by decide) rfl (by decide) (λ _ p=>starH_one.1 p) rfl (λ _ h=>h) (by first | rfl | simp) (by first | rfl | omega) (aM (m+q)) (aN (m+q)) (λ _ _=>aL) (λ A39 c40 h41=>?_))
    refine aG (aE (aK ?_))
    rotate_left
    . refine aC (T2 (A25) (c26)) [] [.inr 5] λ _ h50=>?_
      refine aJ ?_
      refine ev_fin ⟨trivial,_,rfl,(()),rfl,(by trivial),Frm.nil _⟩
    refine aC (T2 (A39) (c40)) [] [.inr 5] λ _ h50=>?_
    refine aJ ?_
    refine ev_fin ⟨trivial,_,rfl,(()),rfl,(by trivial),Frm.nil _⟩
 have hVe:V=M:=by rw [hV];unfold viewL;rw [if_neg hev];rfl
 have hun:u=q:=by rw [hu,hVe,hq]
 rw [if_neg hev] at h
 have hno:¬ (1<=e/\p<=e/\e<=1048576/\f=0/\wv=true/\L.take cn=V.take cn/\cn<=u):=λ a=>by rw [if_pos a] at h;cases h
 subst hVe
 subst hun
 refine aT Tryz.func68 [.ag [vI p,vI v,vL A m a,vI (cn:Int)],.ag [vI k,vI s,vI e,vI w,vI f,vI n,vL C u b,vL B q' d]] [] (λ E=>?_) ⟨⟨trivial,trivial,trivial,trivial,trivial⟩,⟨trivial,trivial,trivial,trivial,trivial,trivial,trivial,trivial,trivial⟩,trivial⟩
 by_cases hA:1<=e/\p<=e/\e<=1048576/\f=0
 . obtain ⟨a1,a2,a3,a4⟩:=hA
   cases wv with
   |
    true =>
    have hm7:L.take cn=V.take cn->¬ cn<=u:=λ q1 q2=>hno ⟨a1,a2,a3,a4,rfl,q1,q2⟩
    by_cases hcu:cn<=u
    . refine aG ?_
      refine ev_new λ b10=>?_
      refine ev_new λ b11=>?_
      refine ev_new λ b12=>?_
      refine aC T1 [] [.inl 0] λ _ h13=>?_
      refine aI ?_
      refine ev_stop (go_draw Tryz.tbs_ok false [0] [(0,true),(1,true),(2,true),(3,true),(4,true),(5,true),(7,true),(8,true),(99,false),(0,true),(0,true),(0,true)] rfl ?_)
      refine aG (aE ?_)
      refine ev_stop (go_fork 6 10 [(9,true),(10,false),(11,false)] [(6,false),(9,false),(11,false)] _ _ ⟨aL,rfl⟩ (by kernel_rfl) rfl rfl rfl rfl ?_ ?_)
      refine aG ?_
      refine ev_stop (go_appendE (sz:=6) (M:=[]) (enc:=encE) Tryz.tbs_ok [] [] (.inl 0) ([]) (L) (L) (m) rfl rfl rfl rfl rfl rfl rfl (by decide) rfl (by decide) (λ _ _=>Row.nil _ _ _) rfl (λ _ h=>h) (by first | rfl | simp) (by first | rfl | omega) (aM (m)) (aN (m)) (λ _ _=>aL) (λ A14 c15 h16=>?_))
      refine aG (aE ?_)
      refine ev_new λ b17=>?_
      refine aE (aK ?_)
      refine aI ?_ (beq_eq_false_iff_ne.2 (show ¬k=1 from (by omega)))
      refine aJ ?_ (beq_iff_eq.2 (by with_reducible assumption))
      refine aI ?_ (beq_eq_false_iff_ne.2 (by with_reducible assumption))
      refine aI ?_ (decide_eq_false (show ¬e<1 from (by omega)))
      refine aI ?_ (decide_eq_false (show ¬e<p from (by omega)))
      refine aI ?_ (decide_eq_false (show ¬e > 1048576 from (by omega)))
      refine aI ?_ (ne_no (by with_reducible assumption))
      refine ev_stop (go_draw Tryz.tbs_ok false [0,1] [(0,true),(1,true),(2,true),(3,true),(5,true),(6,true),(4,false),(7,false),(8,false)] rfl ?_)
      refine aG (aE ?_)
      refine ev_stop (tk_front Tryz.tbs_ok (0) (a) aB rfl rfl rfl rfl rfl rfl rfl ⟨_,rfl⟩ rfl (by decide) (by omega) (by omega) ?_)
      refine aG (aE ?_)
      refine ev_stop (go_appendE (sz:=6) (M:=[]) (enc:=encE) Tryz.tbs_ok [] [] (.inl 0) ([]) (((L).take (0))) (((L).take (0))) (0) rfl rfl rfl rfl rfl rfl rfl (by decide) rfl (by decide) (λ _ _=>Row.nil _ _ _) rfl (λ _ h=>rd_take (k:=0) (λ _=>rfl) h (by omega)) (by first | rfl | simp) (by first | rfl | omega) (aM (0)) (aN (0)) (λ _ _=>aL) (λ A18 c19 h20=>?_))
      refine aG (aE ?_)
      refine ev_stop (go_appendE (sz:=6) (M:=[_]) (enc:=encE) Tryz.tbs_ok [5] [] (.inl 1) (List.take 0 L) (V) ((List.take 0 L)++(V)) (u) rfl rfl rfl rfl rfl rfl rfl (by decide) rfl (by decide) (λ _ p=>starH_one.1 p) rfl (λ _ h=>h) (by first | rfl | simp) (by first | rfl | omega) (aM (u)) (aN (u)) (λ _ _=>aL) (λ A21 c22 h23=>?_))
      refine aG (aE (aK ?_))
      rotate_left
      refine aG ?_
      refine ev_new λ b24=>?_
      refine aE ?_
      refine ev_stop (go_appendE (sz:=6) (M:=[]) (enc:=encE) Tryz.tbs_ok [] [] (.inl 0) ([]) (L) (L) (m) rfl rfl rfl rfl rfl rfl rfl (by decide) rfl (by decide) (λ _ _=>Row.nil _ _ _) rfl (λ _ h=>h) (by first | rfl | simp) (by first | rfl | omega) (aM (m)) (aN (m)) (λ _ _=>aL) (λ A25 c26 h27=>?_))
      refine aG (aE (aE (aK ?_)))
      refine aI ?_ (beq_eq_false_iff_ne.2 (show ¬k=1 from (by omega)))
      refine aJ ?_ (beq_iff_eq.2 (by with_reducible assumption))
      refine aI ?_ (beq_eq_false_iff_ne.2 (by with_reducible assumption))
      refine aI ?_ (decide_eq_false (show ¬e<1 from (by omega)))
      refine aI ?_ (decide_eq_false (show ¬e<p from (by omega)))
      refine aI ?_ (decide_eq_false (show ¬e > 1048576 from (by omega)))
      refine aI ?_ (ne_no (by with_reducible assumption))
      refine ev_stop (go_draw Tryz.tbs_ok false [0,1] [(0,true),(1,true),(2,true),(3,true),(5,true),(6,true),(4,false),(7,false),(8,false)] rfl ?_)
      refine aG (aE ?_)
      refine ev_stop (tk_front Tryz.tbs_ok (0) (a) aB rfl rfl rfl rfl rfl rfl rfl ⟨_,rfl⟩ rfl (by decide) (by omega) (by omega) ?_)
      refine aG (aE ?_)
      refine ev_stop (go_appendE (sz:=6) (M:=[]) (enc:=encE) Tryz.tbs_ok [] [] (.inl 0) ([]) (((L).take (0))) (((L).take (0))) (0) rfl rfl rfl rfl rfl rfl rfl (by decide) rfl (by decide) (λ _ _=>Row.nil _ _ _) rfl (λ _ h=>rd_take (k:=0) (λ _=>rfl) h (by omega)) (by first | rfl | simp) (by first | rfl | omega) (aM (0)) (aN (0)) (λ _ _=>aL) (λ A28 c29 h30=>?_))
      refine aG (aE ?_)
      refine ev_stop (go_appendE (sz:=6) (M:=[_]) (enc:=encE) Tryz.tbs_ok [5] [] (.inl 1) (List.take 0 L) (V) ((List.take 0 L)++(V)) (u) rfl rfl rfl rfl rfl rfl rfl (by decide) rfl (by decide) (λ _ p=>starH_one.1 p) rfl (λ _ h=>h) (by first | rfl | simp) (by first | rfl | omega) (aM (u)) (aN (u)) (λ _ _=>aL) (λ A31 c32 h33=>?_))
      refine aG (aE (aK ?_))
      rotate_left
      . refine aC (T2 (A21) (c22)) [] [.inr 5] λ _ h50=>?_
        refine aI ?_
        refine aI ?_ (decide_eq_false (show ¬(↑u:Int)<(↑cn:Int) from (by omega)))
        refine ev_stop (go_loopR [0,1,5,9,10,23,96,97,98,99,100,101,102,103,104,105,106,107,108,109,110,111,112] (λ i=>[(9,vI (i:Nat))]) (λ _=>[]) (λ i=>i<=cn/\L.take i=V.take i) (λ i=>cn-i) (0:Nat) ⟨Nat.zero_le _,rfl⟩ aS (λ i h_=>?_))
        obtain ⟨hi,hE⟩:=h_
        rcases Nat.lt_or_ge i cn with hic | hic
        . have hiL:i<L.length:=by omega
          have hiV:i<V.length:=by omega
          refine aG ?_
          refine aJ ?_ (decide_eq_true (show (↑i:Int)<(↑cn:Int) from (by omega)))
          refine ev_stop (go_draw Tryz.tbs_ok true [0,1,2,3,4,5] [(0,true),(1,true),(2,true),(3,true),(4,true),(5,true),(6,true),(7,true),(8,true),(9,true)] rfl ?_)
          refine aG (aE ?_)
          refine ev_stop (tk_index0 (sz:=6) Tryz.tbs_ok (.inr 5) (i) aB rfl rfl rfl rfl rfl rfl rfl (by omega) rfl Row.at0 (λ g60 e61=>?_))
          subst e61
          refine aG (aE ?_)
          have l62:i<(List.take 0 L++V).length:=(by (simp only [List.length_append];omega))
          refine ev_stop (tk_loadE Tryz.tbs_ok (.inr 5) (i) 0 aB rfl rfl rfl rfl rfl (λ _ h=>Row.rd h) (by omega) (λ _=>rfl) (by omega) l62 (by decide) ?_)
          refine aG (aE ?_)
          refine ev_stop (tk_indexE (sz:=6) Tryz.tbs_ok (.inl 0) (i) aB rfl rfl rfl rfl rfl rfl rfl (by omega) rfl (λ _ h=>h) (λ g63 o65 e64=>?_))
          subst e64
          refine aG (aE ?_)
          have l66:i<(L).length:=(by omega)
          refine ev_stop (tk_loadE Tryz.tbs_ok (.inl 0) (i) 0 aB rfl rfl rfl rfl rfl (λ _ h=>h) (by omega) (λ _=>rfl) (by omega) l66 (by decide) ?_)
          refine aG (aE ?_)
          refine ev_stop (tk_val (o:=_) aB rfl rfl (.bq (!(decide (V[i]=L[i])))) trivial (λ a w hF _=>neq_run (ev_denv hF rfl rfl) (ev_denv hF rfl rfl) (by kernel_rfl) (eq_ent V[i] L[i] 9997 w)) ?_)
          refine aG (aE ?_)
          refine ev_if_nd (λ h70=>?_) (λ h70=>?_)
          refine aG ?_
          refine ev_fin ⟨trivial,_,rfl,(()),rfl,(by trivial),Frm.nil _⟩
          refine aG ?_
          refine wN (i+1) ?_
          refine ev_fin (round_next (i+1) (?_:i+1<=cn/\List.take (i+1) L=List.take (i+1) V) (show cn-(i+1)<cn-i from (by omega)) aS)
          have he:V[i]=L[i]:=by simpa using ‹_›
          exact ⟨by omega,by rw [<-List.take_append_getElem hiL,<-List.take_append_getElem hiV,hE];exact congrArg (λ z=>List.take i V++[z]) he.symm⟩
        obtain rfl:i=cn:=by omega
        exact absurd hE (λ e=>hm7 e (by omega))
      refine aC (T2 (A31) (c32)) [] [.inr 5] λ _ h50=>?_
      refine aI ?_
      refine aI ?_ (decide_eq_false (show ¬(↑u:Int)<(↑cn:Int) from (by omega)))
      refine ev_stop (go_loopR [0,1,5,9,10,23,96,97,98,99,100,101,102,103,104,105,106,107,108,109,110,111,112] (λ i=>[(9,vI (i:Nat))]) (λ _=>[]) (λ i=>i<=cn/\L.take i=V.take i) (λ i=>cn-i) (0:Nat) ⟨Nat.zero_le _,rfl⟩ aS (λ i h_=>?_))
      obtain ⟨hi,hE⟩:=h_
      rcases Nat.lt_or_ge i cn with hic | hic
      . have hiL:i<L.length:=by omega
        have hiV:i<V.length:=by omega
        refine aG ?_
        refine aJ ?_ (decide_eq_true (show (↑i:Int)<(↑cn:Int) from (by omega)))
        refine ev_stop (go_draw Tryz.tbs_ok true [0,1,2,3,4,5] [(0,true),(1,true),(2,true),(3,true),(4,true),(5,true),(6,true),(7,true),(8,true),(9,true)] rfl ?_)
        refine aG (aE ?_)
        refine ev_stop (tk_index0 (sz:=6) Tryz.tbs_ok (.inr 5) (i) aB rfl rfl rfl rfl rfl rfl rfl (by omega) rfl Row.at0 (λ g60 e61=>?_))
        subst e61
        refine aG (aE ?_)
        have l62:i<(List.take 0 L++V).length:=(by (simp only [List.length_append];omega))
        refine ev_stop (tk_loadE Tryz.tbs_ok (.inr 5) (i) 0 aB rfl rfl rfl rfl rfl (λ _ h=>Row.rd h) (by omega) (λ _=>rfl) (by omega) l62 (by decide) ?_)
        refine aG (aE ?_)
        refine ev_stop (tk_indexE (sz:=6) Tryz.tbs_ok (.inl 0) (i) aB rfl rfl rfl rfl rfl rfl rfl (by omega) rfl (λ _ h=>h) (λ g63 o65 e64=>?_))
        subst e64
        refine aG (aE ?_)
        have l66:i<(L).length:=(by omega)
        refine ev_stop (tk_loadE Tryz.tbs_ok (.inl 0) (i) 0 aB rfl rfl rfl rfl rfl (λ _ h=>h) (by omega) (λ _=>rfl) (by omega) l66 (by decide) ?_)
        refine aG (aE ?_)
        refine ev_stop (tk_val (o:=_) aB rfl rfl (.bq (!(decide (V[i]=L[i])))) trivial (λ a w hF _=>neq_run (ev_denv hF rfl rfl) (ev_denv hF rfl rfl) (by kernel_rfl) (eq_ent V[i] L[i] 9997 w)) ?_)
        refine aG (aE ?_)
        refine ev_if_nd (λ h70=>?_) (λ h70=>?_)
        refine aG ?_
        refine ev_fin ⟨trivial,_,rfl,(()),rfl,(by trivial),Frm.nil _⟩
        refine aG ?_
        refine wN (i+1) ?_
        refine ev_fin (round_next (i+1) (?_:i+1<=cn/\List.take (i+1) L=List.take (i+1) V) (show cn-(i+1)<cn-i from (by omega)) aS)
        have he:V[i]=L[i]:=by simpa using ‹_›
        exact ⟨by omega,by rw [<-List.take_append_getElem hiL,<-List.take_append_getElem hiV,hE];exact congrArg (λ z=>List.take i V++[z]) he.symm⟩
      obtain rfl:i=cn:=by omega
      exact absurd hE (λ e=>hm7 e (by omega))
    refine aG ?_
    refine ev_new λ b10=>?_
    refine ev_new λ b11=>?_
    refine ev_new λ b12=>?_
    refine aC T1 [] [.inl 0] λ _ h13=>?_
    refine aI ?_
    refine ev_stop (go_draw Tryz.tbs_ok false [0] [(0,true),(1,true),(2,true),(3,true),(4,true),(5,true),(7,true),(8,true),(99,false),(0,true),(0,true),(0,true)] rfl ?_)
    refine aG (aE ?_)
    refine ev_stop (go_fork 6 10 [(9,true),(10,false),(11,false)] [(6,false),(9,false),(11,false)] _ _ ⟨aL,rfl⟩ (by kernel_rfl) rfl rfl rfl rfl ?_ ?_)
    refine aG ?_
    refine ev_stop (go_appendE (sz:=6) (M:=[]) (enc:=encE) Tryz.tbs_ok [] [] (.inl 0) ([]) (L) (L) (m) rfl rfl rfl rfl rfl rfl rfl (by decide) rfl (by decide) (λ _ _=>Row.nil _ _ _) rfl (λ _ h=>h) (by first | rfl | simp) (by first | rfl | omega) (aM (m)) (aN (m)) (λ _ _=>aL) (λ A14 c15 h16=>?_))
    refine aG (aE ?_)
    refine ev_new λ b17=>?_
    refine aE (aK ?_)
    refine aI ?_ (beq_eq_false_iff_ne.2 (show ¬k=1 from (by omega)))
    refine aJ ?_ (beq_iff_eq.2 (by with_reducible assumption))
    refine aI ?_ (beq_eq_false_iff_ne.2 (by with_reducible assumption))
    refine aI ?_ (decide_eq_false (show ¬e<1 from (by omega)))
    refine aI ?_ (decide_eq_false (show ¬e<p from (by omega)))
    refine aI ?_ (decide_eq_false (show ¬e > 1048576 from (by omega)))
    refine aI ?_ (ne_no (by with_reducible assumption))
    refine ev_stop (go_draw Tryz.tbs_ok false [0,1] [(0,true),(1,true),(2,true),(3,true),(5,true),(6,true),(4,false),(7,false),(8,false)] rfl ?_)
    refine aG (aE ?_)
    refine ev_stop (tk_front Tryz.tbs_ok (0) (a) aB rfl rfl rfl rfl rfl rfl rfl ⟨_,rfl⟩ rfl (by decide) (by omega) (by omega) ?_)
    refine aG (aE ?_)
    refine ev_stop (go_appendE (sz:=6) (M:=[]) (enc:=encE) Tryz.tbs_ok [] [] (.inl 0) ([]) (((L).take (0))) (((L).take (0))) (0) rfl rfl rfl rfl rfl rfl rfl (by decide) rfl (by decide) (λ _ _=>Row.nil _ _ _) rfl (λ _ h=>rd_take (k:=0) (λ _=>rfl) h (by omega)) (by first | rfl | simp) (by first | rfl | omega) (aM (0)) (aN (0)) (λ _ _=>aL) (λ A18 c19 h20=>?_))
    refine aG (aE ?_)
    refine ev_stop (go_appendE (sz:=6) (M:=[_]) (enc:=encE) Tryz.tbs_ok [5] [] (.inl 1) (List.take 0 L) (V) ((List.take 0 L)++(V)) (u) rfl rfl rfl rfl rfl rfl rfl (by decide) rfl (by decide) (λ _ p=>starH_one.1 p) rfl (λ _ h=>h) (by first | rfl | simp) (by first | rfl | omega) (aM (u)) (aN (u)) (λ _ _=>aL) (λ A21 c22 h23=>?_))
    refine aG (aE (aK ?_))
    rotate_left
    refine aG ?_
    refine ev_new λ b24=>?_
    refine aE ?_
    refine ev_stop (go_appendE (sz:=6) (M:=[]) (enc:=encE) Tryz.tbs_ok [] [] (.inl 0) ([]) (L) (L) (m) rfl rfl rfl rfl rfl rfl rfl (by decide) rfl (by decide) (λ _ _=>Row.nil _ _ _) rfl (λ _ h=>h) (by first | rfl | simp) (by first | rfl | omega) (aM (m)) (aN (m)) (λ _ _=>aL) (λ A25 c26 h27=>?_))
    refine aG (aE (aE (aK ?_)))
    refine aI ?_ (beq_eq_false_iff_ne.2 (show ¬k=1 from (by omega)))
    refine aJ ?_ (beq_iff_eq.2 (by with_reducible assumption))
    refine aI ?_ (beq_eq_false_iff_ne.2 (by with_reducible assumption))
    refine aI ?_ (decide_eq_false (show ¬e<1 from (by omega)))
    refine aI ?_ (decide_eq_false (show ¬e<p from (by omega)))
    refine aI ?_ (decide_eq_false (show ¬e > 1048576 from (by omega)))
    refine aI ?_ (ne_no (by with_reducible assumption))
    refine ev_stop (go_draw Tryz.tbs_ok false [0,1] [(0,true),(1,true),(2,true),(3,true),(5,true),(6,true),(4,false),(7,false),(8,false)] rfl ?_)
    refine aG (aE ?_)
    refine ev_stop (tk_front Tryz.tbs_ok (0) (a) aB rfl rfl rfl rfl rfl rfl rfl ⟨_,rfl⟩ rfl (by decide) (by omega) (by omega) ?_)
    refine aG (aE ?_)
    refine ev_stop (go_appendE (sz:=6) (M:=[]) (enc:=encE) Tryz.tbs_ok [] [] (.inl 0) ([]) (((L).take (0))) (((L).take (0))) (0) rfl rfl rfl rfl rfl rfl rfl (by decide) rfl (by decide) (λ _ _=>Row.nil _ _ _) rfl (λ _ h=>rd_take (k:=0) (λ _=>rfl) h (by omega)) (by first | rfl | simp) (by first | rfl | omega) (aM (0)) (aN (0)) (λ _ _=>aL) (λ A28 c29 h30=>?_))
    refine aG (aE ?_)
    refine ev_stop (go_appendE (sz:=6) (M:=[_]) (enc:=encE) Tryz.tbs_ok [5] [] (.inl 1) (List.take 0 L) (V) ((List.take 0 L)++(V)) (u) rfl rfl rfl rfl rfl rfl rfl (by decide) rfl (by decide) (λ _ p=>starH_one.1 p) rfl (λ _ h=>h) (by first | rfl | simp) (by first | rfl | omega) (aM (u)) (aN (u)) (λ _ _=>aL) (λ A31 c32 h33=>?_))
    refine aG (aE (aK ?_))
    rotate_left
    . refine aC (T2 (A21) (c22)) [] [.inr 5] λ _ h50=>?_
      refine aI ?_
      refine aJ ?_ (decide_eq_true (show (↑u:Int)<(↑cn:Int) from (by omega)))
      refine ev_fin ⟨trivial,_,rfl,(()),rfl,(by trivial),Frm.nil _⟩
    refine aC (T2 (A31) (c32)) [] [.inr 5] λ _ h50=>?_
    refine aI ?_
    refine aJ ?_ (decide_eq_true (show (↑u:Int)<(↑cn:Int) from (by omega)))
    refine ev_fin ⟨trivial,_,rfl,(()),rfl,(by trivial),Frm.nil _⟩
   |
    false =>
    refine aG ?_
    refine ev_new λ b10=>?_
    refine ev_new λ b11=>?_
    refine ev_new λ b12=>?_
    refine aC T1 [] [.inl 0] λ _ h13=>?_
    refine aI ?_
    refine ev_stop (go_draw Tryz.tbs_ok false [0] [(0,true),(1,true),(2,true),(3,true),(4,true),(5,true),(7,true),(8,true),(99,false),(0,true),(0,true),(0,true)] rfl ?_)
    refine aG (aE ?_)
    refine ev_stop (go_fork 6 10 [(9,true),(10,false),(11,false)] [(6,false),(9,false),(11,false)] _ _ ⟨aL,rfl⟩ (by kernel_rfl) rfl rfl rfl rfl ?_ ?_)
    refine aG ?_
    refine ev_stop (go_appendE (sz:=6) (M:=[]) (enc:=encE) Tryz.tbs_ok [] [] (.inl 0) ([]) (L) (L) (m) rfl rfl rfl rfl rfl rfl rfl (by decide) rfl (by decide) (λ _ _=>Row.nil _ _ _) rfl (λ _ h=>h) (by first | rfl | simp) (by first | rfl | omega) (aM (m)) (aN (m)) (λ _ _=>aL) (λ A14 c15 h16=>?_))
    refine aG (aE ?_)
    refine ev_new λ b17=>?_
    refine aE (aK ?_)
    refine aI ?_ (beq_eq_false_iff_ne.2 (show ¬k=1 from (by omega)))
    refine aJ ?_ (beq_iff_eq.2 (by with_reducible assumption))
    refine aI ?_ (beq_eq_false_iff_ne.2 (by with_reducible assumption))
    refine aI ?_ (decide_eq_false (show ¬e<1 from (by omega)))
    refine aI ?_ (decide_eq_false (show ¬e<p from (by omega)))
    refine aI ?_ (decide_eq_false (show ¬e > 1048576 from (by omega)))
    refine aI ?_ (ne_no (by with_reducible assumption))
    refine ev_stop (go_draw Tryz.tbs_ok false [0,1] [(0,true),(1,true),(2,true),(3,true),(5,true),(6,true),(4,false),(7,false),(8,false)] rfl ?_)
    refine aG (aE ?_)
    refine ev_stop (tk_front Tryz.tbs_ok (0) (a) aB rfl rfl rfl rfl rfl rfl rfl ⟨_,rfl⟩ rfl (by decide) (by omega) (by omega) ?_)
    refine aG (aE ?_)
    refine ev_stop (go_appendE (sz:=6) (M:=[]) (enc:=encE) Tryz.tbs_ok [] [] (.inl 0) ([]) (((L).take (0))) (((L).take (0))) (0) rfl rfl rfl rfl rfl rfl rfl (by decide) rfl (by decide) (λ _ _=>Row.nil _ _ _) rfl (λ _ h=>rd_take (k:=0) (λ _=>rfl) h (by omega)) (by first | rfl | simp) (by first | rfl | omega) (aM (0)) (aN (0)) (λ _ _=>aL) (λ A18 c19 h20=>?_))
    refine aG (aE ?_)
    refine ev_stop (go_appendE (sz:=6) (M:=[_]) (enc:=encE) Tryz.tbs_ok [5] [] (.inl 1) (List.take 0 L) (V) ((List.take 0 L)++(V)) (u) rfl rfl rfl rfl rfl rfl rfl (by decide) rfl (by decide) (λ _ p=>starH_one.1 p) rfl (λ _ h=>h) (by first | rfl | simp) (by first | rfl | omega) (aM (u)) (aN (u)) (λ _ _=>aL) (λ A21 c22 h23=>?_))
    refine aG (aE (aK ?_))
    rotate_left
    refine aG ?_
    refine ev_new λ b24=>?_
    refine aE ?_
    refine ev_stop (go_appendE (sz:=6) (M:=[]) (enc:=encE) Tryz.tbs_ok [] [] (.inl 0) ([]) (L) (L) (m) rfl rfl rfl rfl rfl rfl rfl (by decide) rfl (by decide) (λ _ _=>Row.nil _ _ _) rfl (λ _ h=>h) (by first | rfl | simp) (by first | rfl | omega) (aM (m)) (aN (m)) (λ _ _=>aL) (λ A25 c26 h27=>?_))
    refine aG (aE (aE (aK ?_)))
    refine aI ?_ (beq_eq_false_iff_ne.2 (show ¬k=1 from (by omega)))
    refine aJ ?_ (beq_iff_eq.2 (by with_reducible assumption))
    refine aI ?_ (beq_eq_false_iff_ne.2 (by with_reducible assumption))
    refine aI ?_ (decide_eq_false (show ¬e<1 from (by omega)))
    refine aI ?_ (decide_eq_false (show ¬e<p from (by omega)))
    refine aI ?_ (decide_eq_false (show ¬e > 1048576 from (by omega)))
    refine aI ?_ (ne_no (by with_reducible assumption))
    refine ev_stop (go_draw Tryz.tbs_ok false [0,1] [(0,true),(1,true),(2,true),(3,true),(5,true),(6,true),(4,false),(7,false),(8,false)] rfl ?_)
    refine aG (aE ?_)
    refine ev_stop (tk_front Tryz.tbs_ok (0) (a) aB rfl rfl rfl rfl rfl rfl rfl ⟨_,rfl⟩ rfl (by decide) (by omega) (by omega) ?_)
    refine aG (aE ?_)
    refine ev_stop (go_appendE (sz:=6) (M:=[]) (enc:=encE) Tryz.tbs_ok [] [] (.inl 0) ([]) (((L).take (0))) (((L).take (0))) (0) rfl rfl rfl rfl rfl rfl rfl (by decide) rfl (by decide) (λ _ _=>Row.nil _ _ _) rfl (λ _ h=>rd_take (k:=0) (λ _=>rfl) h (by omega)) (by first | rfl | simp) (by first | rfl | omega) (aM (0)) (aN (0)) (λ _ _=>aL) (λ A28 c29 h30=>?_))
    refine aG (aE ?_)
    refine ev_stop (go_appendE (sz:=6) (M:=[_]) (enc:=encE) Tryz.tbs_ok [5] [] (.inl 1) (List.take 0 L) (V) ((List.take 0 L)++(V)) (u) rfl rfl rfl rfl rfl rfl rfl (by decide) rfl (by decide) (λ _ p=>starH_one.1 p) rfl (λ _ h=>h) (by first | rfl | simp) (by first | rfl | omega) (aM (u)) (aN (u)) (λ _ _=>aL) (λ A31 c32 h33=>?_))
    refine aG (aE (aK ?_))
    rotate_left
    . refine aC (T2 (A21) (c22)) [] [.inr 5] λ _ h50=>?_
      refine aJ ?_
      refine ev_fin ⟨trivial,_,rfl,(()),rfl,(by trivial),Frm.nil _⟩
    refine aC (T2 (A31) (c32)) [] [.inr 5] λ _ h50=>?_
    refine aJ ?_
    refine ev_fin ⟨trivial,_,rfl,(()),rfl,(by trivial),Frm.nil _⟩
 refine aG ?_
 refine ev_new λ b10=>?_
 refine ev_new λ b11=>?_
 refine ev_new λ b12=>?_
 refine aC T1 [] [.inl 0] λ _ h13=>?_
 refine aI ?_
 refine ev_stop (go_draw Tryz.tbs_ok false [0] [(0,true),(1,true),(2,true),(3,true),(4,true),(5,true),(7,true),(8,true),(99,false),(0,true),(0,true),(0,true)] rfl ?_)
 refine aG (aE ?_)
 refine ev_stop (go_fork 6 10 [(9,true),(10,false),(11,false)] [(6,false),(9,false),(11,false)] _ _ ⟨aL,rfl⟩ (by kernel_rfl) rfl rfl rfl rfl ?_ ?_)
 refine aG ?_
 refine ev_stop (go_appendE (sz:=6) (M:=[]) (enc:=encE) Tryz.tbs_ok [] [] (.inl 0) ([]) (L) (L) (m) rfl rfl rfl rfl rfl rfl rfl (by decide) rfl (by decide) (λ _ _=>Row.nil _ _ _) rfl (λ _ h=>h) (by first | rfl | simp) (by first | rfl | omega) (aM (m)) (aN (m)) (λ _ _=>aL) (λ A14 c15 h16=>?_))
 refine aG (aE ?_)
 refine ev_new λ b17=>?_
 refine aE (aK ?_)
 refine aI ?_ (beq_eq_false_iff_ne.2 (show ¬k=1 from (by omega)))
 refine aJ ?_ (beq_iff_eq.2 (by with_reducible assumption))
 refine aI ?_ (beq_eq_false_iff_ne.2 (by with_reducible assumption))
 refine ev_if_lt (λ h18=>?_) (λ h18=>?_)
 refine aG ?_
 refine ev_fin ⟨trivial,_,rfl,(()),rfl,(by trivial),Frm.nil _⟩
 refine aG ?_
 refine ev_if_lt (λ h19=>?_) (λ h19=>?_)
 refine aG ?_
 refine ev_fin ⟨trivial,_,rfl,(()),rfl,(by trivial),Frm.nil _⟩
 refine aG ?_
 refine ev_if_lt (λ h20=>?_) (λ h20=>?_)
 refine aG ?_
 refine ev_fin ⟨trivial,_,rfl,(()),rfl,(by trivial),Frm.nil _⟩
 refine aG ?_
 refine aJ ?_ (ne_yes (show ¬f=0 from (by omega)))
 refine ev_fin ⟨trivial,_,rfl,(()),rfl,(by trivial),Frm.nil _⟩
 refine aG ?_
 refine ev_new λ b21=>?_
 refine aE ?_
 refine ev_stop (go_appendE (sz:=6) (M:=[]) (enc:=encE) Tryz.tbs_ok [] [] (.inl 0) ([]) (L) (L) (m) rfl rfl rfl rfl rfl rfl rfl (by decide) rfl (by decide) (λ _ _=>Row.nil _ _ _) rfl (λ _ h=>h) (by first | rfl | simp) (by first | rfl | omega) (aM (m)) (aN (m)) (λ _ _=>aL) (λ A22 c23 h24=>?_))
 refine aG (aE (aE (aK ?_)))
 refine aI ?_ (beq_eq_false_iff_ne.2 (show ¬k=1 from (by omega)))
 refine aJ ?_ (beq_iff_eq.2 (by with_reducible assumption))
 refine aI ?_ (beq_eq_false_iff_ne.2 (by with_reducible assumption))
 refine ev_if_lt (λ h25=>?_) (λ h25=>?_)
 refine aG ?_
 refine ev_fin ⟨trivial,_,rfl,(()),rfl,(by trivial),Frm.nil _⟩
 refine aG ?_
 refine ev_if_lt (λ h26=>?_) (λ h26=>?_)
 refine aG ?_
 refine ev_fin ⟨trivial,_,rfl,(()),rfl,(by trivial),Frm.nil _⟩
 refine aG ?_
 refine ev_if_lt (λ h27=>?_) (λ h27=>?_)
 refine aG ?_
 refine ev_fin ⟨trivial,_,rfl,(()),rfl,(by trivial),Frm.nil _⟩
 refine aG ?_
 refine aJ ?_ (ne_yes (show ¬f=0 from (by omega)))
 refine ev_fin ⟨trivial,_,rfl,(()),rfl,(by trivial),Frm.nil _⟩
 all_goals (exfalso;omega)
def aq (x:StaS) (sure:Nat) (dirty:Bool):List SV:=svG x.r0++(svG x.r1++(svG x.r2++(svG x.r3++[vL x.A x.F.length x.c,vI (sure:Nat),.bq dirty])))
def ab (r:Nat) (x:StaS) (sure:Nat) (dirty:Bool):Asn:=Pt r 36 (SV.denL (aq x sure dirty))
def ac (x:StaS):Asn:=⟨λ h=>∀ y∈x.regs,y.own.holds h,λ e p y hy=>y.own.mono e (p y hy)⟩
def ai (x:StaS):Asn:=Row 72 2 x.A x.F.length x.c (x.F.flatMap encP)
theorem bS {y:RegS} {h k:Hp} (hk:k.le h) (q:(Row 101 6 y.A y.r.L.length y.a (y.r.L.flatMap encE)).holds k):y.own.holds h:=Asn.mono _ hk ⟨Row.rd q,Row.cap q⟩
def aj (y:RegS):Asn:=Row 101 6 y.A y.r.L.length y.a (y.r.L.flatMap encE)
theorem cg {x:StaS} {h:Hp} (q:Asn.starH [aj x.r0,aj x.r1,aj x.r2,aj x.r3] h):(ac x).holds h:=λ y hy=>by
 simp only [StaS.regs,List.mem_cons,List.not_mem_nil,or_false] at hy
 rcases hy with rfl | rfl | rfl | rfl<;>exact bS (Hp.le_refl _) (ap (A:=aj _) (by simp) q)
theorem bV {P Q F:Asn} {x:StaS} {h:Hp} (q:Asn.starH [P,Q,aj x.r0,aj x.r1,aj x.r2,aj x.r3,F] h):Asn.starH [P,Q,ac x,F] h:=by
 obtain ⟨h1,h2,d,a,b,p,h3,h4,d2,a2,b2,p2,q2⟩:=q
 obtain ⟨g1,g2,d3,a3,b3,q3,q4⟩:=(starH_append [aj x.r0,aj x.r1,aj x.r2,aj x.r3] [F]).1 q2
 exact ⟨h1,h2,d,a,b,p,h3,h4,d2,a2,b2,p2,g1,g2,d3,a3,b3,cg q3,q4⟩
set_option maxHeartbeats 4000000 in
theorem bQ (r:Nat) (x:StaS) (sure:Nat) (dirty:Bool) (hx:okS x.abs):Triple Tryz.prog 18 [pP r] [ab r x sure dirty] [x.rd] (Nat × StaS) (λ (c,_)=>.pointer (some ⟨c,0,none⟩)) (λ (_,X)=>X.abs=x.abs) (λ (c,X)=>[ab r x sure dirty,ab c X sure dirty,ac X,ai X]):=by
 have hl:=λ (j:Nat) (g:RegS) (hg:x.regs[j]? = some g)=>bi hx hg
 have l0:=hl 0 x.r0 rfl
 have l1:=hl 1 x.r1 rfl
 have l2:=hl 2 x.r2 rfl
 have l3:=hl 3 x.r3 rfl
 have hF:x.F.length<=256:=(feed_small hx).1
 refine triple_intro Tryz.tbs_ok Tryz.func18 rfl [.pt 0 r 0] [.box r 36 (aq x sure dirty)] ⟨rfl,trivial⟩ rfl (by simp [aq,svG,SV.good,SV.goodL]) ?_
 intro E
 refine go_more 0 x.rd (Rd 6 x.r0.A x.r0.r.L.length (x.r0.r.L.flatMap encE)) rfl (λ h p=>(p.1 x.r0 (by simp [StaS.regs])).1) ?_
 refine go_more 0 x.rd (Rd 6 x.r1.A x.r1.r.L.length (x.r1.r.L.flatMap encE)) rfl (λ h p=>(p.1 x.r1 (by simp [StaS.regs])).1) ?_
 refine go_more 0 x.rd (Rd 6 x.r2.A x.r2.r.L.length (x.r2.r.L.flatMap encE)) rfl (λ h p=>(p.1 x.r2 (by simp [StaS.regs])).1) ?_
 refine go_more 0 x.rd (Rd 6 x.r3.A x.r3.r.L.length (x.r3.r.L.flatMap encE)) rfl (λ h p=>(p.1 x.r3 (by simp [StaS.regs])).1) ?_
 refine go_more 0 x.rd (Rd 2 x.A x.F.length (x.F.flatMap encP)) rfl (λ h p=>p.2.1) ?_
 refine aG ?_
 refine ev_new λ b10=>?_
 refine ev_stop (go_rounds 5 ?_)
 refine aG (aJ ?_)
 refine ev_stop (go_indexArr Tryz.tbs_ok (0) rfl rfl rfl rfl rfl rfl (by first | decide | omega) rfl rfl ?_)
 refine aG ?_
 refine ev_stop (go_appendE (sz:=6) (M:=[]) (enc:=encE) Tryz.tbs_ok [] [] (.inl 1) ([]) (x.r0.r.L) (x.r0.r.L) (x.r0.r.L.length) rfl rfl rfl rfl rfl rfl rfl (by decide) rfl (by decide) (λ _ _=>Row.nil _ _ _) rfl (λ _ h=>h) (by first | rfl | simp) (by first | rfl | omega) (aM (x.r0.r.L.length)) (aN (x.r0.r.L.length)) (λ _ _=>aL) (λ A30 c31 h32=>?_))
 refine aG ?_
 refine ev_stop (go_indexArr Tryz.tbs_ok (0) rfl rfl rfl rfl rfl rfl (by first | decide | omega) rfl rfl ?_)
 refine aG ?_
 refine wN (0+1) ?_
 refine ev_fin (go Tryz.tbs_ok 1000 ?_)
 refine aJ ?_
 refine ev_stop (go_indexArr Tryz.tbs_ok (0+1) rfl rfl rfl rfl rfl rfl (by first | decide | omega) rfl rfl ?_)
 refine aG ?_
 refine ev_stop (go_appendE (sz:=6) (M:=[]) (enc:=encE) Tryz.tbs_ok [] [] (.inl 2) ([]) (x.r1.r.L) (x.r1.r.L) (x.r1.r.L.length) rfl rfl rfl rfl rfl rfl rfl (by decide) rfl (by decide) (λ _ _=>Row.nil _ _ _) rfl (λ _ h=>h) (by first | rfl | simp) (by first | rfl | omega) (aM (x.r1.r.L.length)) (aN (x.r1.r.L.length)) (λ _ _=>aL) (λ A33 c34 h35=>?_))
 refine aG ?_
 refine ev_stop (go_indexArr Tryz.tbs_ok (0+1) rfl rfl rfl rfl rfl rfl (by first | decide | omega) rfl rfl ?_)
 refine aG ?_
 refine wN (0+1+1) ?_
 refine ev_fin (go Tryz.tbs_ok 1000 ?_)
 refine aJ ?_
 refine ev_stop (go_indexArr Tryz.tbs_ok (0+1+1) rfl rfl rfl rfl rfl rfl (by first | decide | omega) rfl rfl ?_)
 refine aG ?_
 refine ev_stop (go_appendE (sz:=6) (M:=[]) (enc:=encE) Tryz.tbs_ok [] [] (.inl 3) ([]) (x.r2.r.L) (x.r2.r.L) (x.r2.r.L.length) rfl rfl rfl rfl rfl rfl rfl (by decide) rfl (by decide) (λ _ _=>Row.nil _ _ _) rfl (λ _ h=>h) (by first | rfl | simp) (by first | rfl | omega) (aM (x.r2.r.L.length)) (aN (x.r2.r.L.length)) (λ _ _=>aL) (λ A36 c37 h38=>?_))
 refine aG ?_
 refine ev_stop (go_indexArr Tryz.tbs_ok (0+1+1) rfl rfl rfl rfl rfl rfl (by first | decide | omega) rfl rfl ?_)
 refine aG ?_
 refine wN (0+1+1+1) ?_
 refine ev_fin (go Tryz.tbs_ok 1000 ?_)
 refine aJ ?_
 refine ev_stop (go_indexArr Tryz.tbs_ok (0+1+1+1) rfl rfl rfl rfl rfl rfl (by first | decide | omega) rfl rfl ?_)
 refine aG ?_
 refine ev_stop (go_appendE (sz:=6) (M:=[]) (enc:=encE) Tryz.tbs_ok [] [] (.inl 4) ([]) (x.r3.r.L) (x.r3.r.L) (x.r3.r.L.length) rfl rfl rfl rfl rfl rfl rfl (by decide) rfl (by decide) (λ _ _=>Row.nil _ _ _) rfl (λ _ h=>h) (by first | rfl | simp) (by first | rfl | omega) (aM (x.r3.r.L.length)) (aN (x.r3.r.L.length)) (λ _ _=>aL) (λ A39 c40 h41=>?_))
 refine aG ?_
 refine ev_stop (go_indexArr Tryz.tbs_ok (0+1+1+1) rfl rfl rfl rfl rfl rfl (by first | decide | omega) rfl rfl ?_)
 refine aG ?_
 refine wN (0+1+1+1+1) ?_
 refine ev_fin (go Tryz.tbs_ok 1000 ?_)
 refine aI ?_
 refine ev_fin (go Tryz.tbs_ok 1000 ?_)
 refine ev_stop (go_appendE (sz:=2) (M:=[]) (enc:=encP) Tryz.tbs_ok [] [] (.inl 5) ([]) (x.F) (x.F) (x.F.length) rfl rfl rfl rfl rfl rfl rfl (by decide) rfl (by decide) (λ _ _=>Row.nil _ _ _) rfl (λ _ h=>h) (by first | rfl | simp) (by first | rfl | omega) (aM (x.F.length)) (aN (x.F.length)) (λ _ _=>aL) (λ A45 c46 h47=>?_))
 refine aG ?_
 exact ev_fin ⟨trivial,_,rfl,(b10,⟨⟨x.r0.r,A30,c31⟩,⟨x.r1.r,A33,c34⟩,⟨x.r2.r,A36,c37⟩,⟨x.r3.r,A39,c40⟩,x.F,A45,c46⟩),rfl,rfl,Frm.imp (M:=[ab r x sure dirty,ab b10 ⟨⟨x.r0.r,A30,c31⟩,⟨x.r1.r,A33,c34⟩,⟨x.r2.r,A36,c37⟩,⟨x.r3.r,A39,c40⟩,x.F,A45,c46⟩ sure dirty,aj ⟨x.r0.r,A30,c31⟩,aj ⟨x.r1.r,A33,c34⟩,aj ⟨x.r2.r,A36,c37⟩,aj ⟨x.r3.r,A39,c40⟩,ai ⟨⟨x.r0.r,A30,c31⟩,⟨x.r1.r,A33,c34⟩,⟨x.r2.r,A36,c37⟩,⟨x.r3.r,A39,c40⟩,x.F,A45,c46⟩]) [0,1,2,3,4,5,6] rfl (by decide) (λ h q=>bV q)⟩
theorem cE (c:Nat) (x:StaS) (sure:Nat) (dirty:Bool) (y:RecS) (hl:y.r.L.length<=1000000) (h:y.r.k=4\/y.r.k=5\/¬ (0<=y.r.s/\y.r.s<4)\/mayR y.r=false) :
 Triple Tryz.prog 35 [pP c,.agg (encR y).toArray] [ab c x sure dirty] [y.rdL] Unit (λ _=>.bool false) (λ _=>True) (λ _=>[ab c x sure dirty]):=by
 have T1:=λ h4 h5=>bj y h4 h5 hl
 obtain ⟨w,hw⟩:∃ w,w=mayR y.r:=⟨_,rfl⟩
 rw [<-hw] at T1 h
 clear hw
 obtain ⟨⟨k,s,e,v,f,n,L,F⟩,A,a,B,b⟩:=y
 unfold encR RecS.rdL at *
 simp only at T1 h ⊢
 refine triple_intro Tryz.tbs_ok Tryz.func35 rfl [.pt 0 c 0,.ag [vI k,vI s,vI e,vI v,vI f,vI n,vL A L.length a,vL B F.length b]] [.box c 36 (aq x sure dirty)] ⟨rfl,⟨trivial,trivial,trivial,trivial,trivial,trivial,trivial,trivial,trivial⟩,trivial⟩ rfl (by simp [aq,svG,SV.good,SV.goodL]) ?_
 intro E
 by_cases h4:k=4
 . refine aG ?_
   refine ev_new λ b10=>?_
   refine aJ ?_ (beq_iff_eq.2 (by with_reducible assumption))
   exact ev_fin ⟨trivial,_,rfl,(),rfl,by trivial,aF [0]⟩
 by_cases h5:k=5
 . refine aG ?_
   refine ev_new λ b10=>?_
   refine aI ?_ (beq_eq_false_iff_ne.2 (by with_reducible assumption))
   refine aJ ?_ (beq_iff_eq.2 (by with_reducible assumption))
   exact ev_fin ⟨trivial,_,rfl,(),rfl,by trivial,aF [0]⟩
 by_cases hs:0<=s/\s<4
 . obtain rfl:w=false:=(h.resolve_left h4).resolve_left h5 |>.resolve_left (λ q=>q hs)
   have T2:=T1 h4 h5
   rw [if_neg (by decide)] at T2
   refine aG ?_
   refine ev_new λ b10=>?_
   refine aI ?_ (beq_eq_false_iff_ne.2 (by with_reducible assumption))
   refine aI ?_ (beq_eq_false_iff_ne.2 (by with_reducible assumption))
   refine aI ?_ (decide_eq_false (show ¬s<0 from (by omega)))
   refine aI ?_ (decide_eq_false (show ¬s ≥ 4 from (by omega)))
   refine aC T2 [] [.inl 0] λ _ h11=>?_
   refine aJ ?_
   exact ev_fin ⟨trivial,_,rfl,(),rfl,by trivial,aF [0]⟩
 refine aG ?_
 refine ev_new λ b10=>?_
 refine aI ?_ (beq_eq_false_iff_ne.2 (by with_reducible assumption))
 refine aI ?_ (beq_eq_false_iff_ne.2 (by with_reducible assumption))
 refine ev_if_lt (λ h11=>?_) (λ h11=>?_)
 refine aG ?_
 exact ev_fin ⟨trivial,_,rfl,(),rfl,by trivial,aF [0]⟩
 refine aG ?_
 refine aJ ?_ (decide_eq_true (show s ≥ 4 from (by omega)))
 exact ev_fin ⟨trivial,_,rfl,(),rfl,by trivial,aF [0]⟩
 all_goals (exfalso;omega)
set_option maxHeartbeats 8000000 in
theorem cY (c:Nat) (x:StaS) (sure:Nat) (dirty:Bool) (y:RecS) (hk:y.r.k=1\/y.r.k=2\/y.r.k=3) (hm:mayR y.r=true) (hl:y.r.L.length<=2000) (j:Nat) (hj:j<4) (hs:y.r.s=(j:Int)) (g:RegS) (hg:x.regs[j]? = some g) (ho:okR g.r=true) (h:applyR g.r y.r=none) :
 Triple Tryz.prog 35 [pP c,.agg (encR y).toArray] [ab c x sure dirty] [ac x,y.rdL] Unit (λ _=>.bool false) (λ _=>True) (λ _=>[ab c x sure dirty]):=by
 have T1:=bj y (by omega) (by omega) (by omega)
 rw [hm,if_pos rfl] at T1
 have T2:g.r.L.length<=g.a->Triple Tryz.prog 68 [.agg (encG g).toArray,.agg (encR y).toArray] [] [ac x,y.rdL] Unit (λ _=>.tuple #[.agg (encG ⟨noReg,none,0⟩).toArray,.bool false]) (λ _=>True) (λ _=>[]):=λ ha=>by
  rcases hk with q | q | q
  . exact (cR g y ho (.inl q) h).reads λ X hX=>by
     rw [List.mem_singleton.1 hX]
     exact ⟨_,List.mem_cons_self,λ _ q=>(q g (List.mem_of_getElem? hg)).1⟩
  . exact (da g y ho q hl ha h).reads λ X hX=>by
     simp only [List.mem_cons,List.not_mem_nil,or_false] at hX
     rcases hX with rfl | rfl
     . exact ⟨_,List.mem_cons_self,λ _ q=>(q g (List.mem_of_getElem? hg)).1⟩
     exact ⟨_,List.mem_cons_of_mem _ List.mem_cons_self,λ _ q=>q⟩
  exact (cR g y ho (.inr q) h).reads λ X hX=>by
   rw [List.mem_singleton.1 hX]
   exact ⟨_,List.mem_cons_self,λ _ q=>(q g (List.mem_of_getElem? hg)).1⟩
 obtain ⟨⟨k,s,e,v,f,n,L,F⟩,A,a,B,b⟩:=y
 unfold encR RecS.rdL at *
 simp only at T1 T2 h hs hk ⊢
 refine triple_intro Tryz.tbs_ok Tryz.func35 rfl [.pt 0 c 0,.ag [vI k,vI s,vI e,vI v,vI f,vI n,vL A L.length a,vL B F.length b]] [.box c 36 (aq x sure dirty)] ⟨rfl,⟨trivial,trivial,trivial,trivial,trivial,trivial,trivial,trivial,trivial⟩,trivial⟩ rfl (by simp [aq,svG,SV.good,SV.goodL]) ?_
 intro E
 refine go_know (.inl 0) (ac x) rfl (p:=g.r.L.length<=g.a) (λ h p=>(p g (List.mem_of_getElem? hg)).2) λ ha=>?_
 have T3:=T2 ha
 refine aG ?_
 rcases (show j=0\/j=1\/j=2\/j=3 by omega) with rfl | rfl | rfl | rfl
 . obtain rfl:x.r0=g:=Option.some.inj hg
   refine ev_new λ b10=>?_
   refine aI ?_ (beq_eq_false_iff_ne.2 (show ¬k=4 from (by omega)))
   refine aI ?_ (beq_eq_false_iff_ne.2 (show ¬k=5 from (by omega)))
   refine aI ?_ (decide_eq_false (show ¬s<0 from (by omega)))
   refine aI ?_ (decide_eq_false (show ¬s ≥ 4 from (by omega)))
   refine aC T1 [] [.inl 1] λ _ h11=>?_
   refine aI ?_
   refine ev_stop (go_draw Tryz.tbs_ok false [0,1] [(0,true),(1,true),(2,true),(3,true),(4,true),(5,true),(6,true),(7,true),(8,false)] rfl ?_)
   refine aG (aE ?_)
   refine ev_stop (go_slot 34 _ (.va (.int IntKind.i64 ((0:Nat):Int))) rfl rfl (congrArg (λ z=>Value.int IntKind.i64 z) (show s=((0:Nat):Int) by first | omega | (simp only [List.getElem_set_self];omega))) (λ _=>trivial) ?_)
   refine aG (aE ?_)
   refine ev_stop (tk_indexArr Tryz.tbs_ok (0) aB rfl rfl rfl rfl rfl rfl rfl (by first | decide | omega) rfl rfl ?_)
   refine aG (aE (aK ?_))
   refine ev_stop (go_draw Tryz.tbs_ok false [0,1] [(0,true),(1,true),(2,true),(3,true),(4,true),(5,true),(6,true),(7,true),(99,false),(0,true),(0,true),(0,true),(0,true),(0,true),(0,true)] rfl ?_)
   refine aG (aE ?_)
   refine ev_stop (go_slot 43 _ (.va (.int IntKind.i64 ((0:Nat):Int))) rfl rfl (congrArg (λ z=>Value.int IntKind.i64 z) (show s=((0:Nat):Int) by first | omega | (simp only [List.getElem_set_self];omega))) (λ _=>trivial) ?_)
   refine aG (aE ?_)
   refine ev_stop (tk_indexArr Tryz.tbs_ok (0) aB rfl rfl rfl rfl rfl rfl rfl (by first | decide | omega) rfl rfl ?_)
   refine aG (aE ?_)
   refine ev_stop (go_fork 8 12 [(9,true),(10,true),(11,true),(12,false),(13,false),(14,false)] [(8,false),(9,false),(10,true),(11,true),(13,false),(14,false)] _ _ ⟨aL,rfl⟩ (by kernel_rfl) rfl rfl rfl rfl ?_ ?_)
   refine aG ?_
   refine aC T3 [] [.inl 0,.inl 1] λ _ h12=>?_
   refine aE ?_
   refine ev_new λ b13=>?_
   refine aE (aE (aK (aJ ?_)))
   exact ev_fin ⟨trivial,_,rfl,(),rfl,by trivial,aF [0]⟩
   refine aG ?_
   refine ev_new λ b14=>?_
   refine aE ?_
   refine aC T3 [] [.inl 0,.inl 1] λ _ h15=>?_
   refine aE (aE (aE (aK (aJ ?_))))
   exact ev_fin ⟨trivial,_,rfl,(),rfl,by trivial,aF [0]⟩
 . obtain rfl:x.r1=g:=Option.some.inj hg
   refine ev_new λ b10=>?_
   refine aI ?_ (beq_eq_false_iff_ne.2 (show ¬k=4 from (by omega)))
   refine aI ?_ (beq_eq_false_iff_ne.2 (show ¬k=5 from (by omega)))
   refine aI ?_ (decide_eq_false (show ¬s<0 from (by omega)))
   refine aI ?_ (decide_eq_false (show ¬s ≥ 4 from (by omega)))
   refine aC T1 [] [.inl 1] λ _ h11=>?_
   refine aI ?_
   refine ev_stop (go_draw Tryz.tbs_ok false [0,1] [(0,true),(1,true),(2,true),(3,true),(4,true),(5,true),(6,true),(7,true),(8,false)] rfl ?_)
   refine aG (aE ?_)
   refine ev_stop (go_slot 34 _ (.va (.int IntKind.i64 ((1:Nat):Int))) rfl rfl (congrArg (λ z=>Value.int IntKind.i64 z) (show s=((1:Nat):Int) by first | omega | (simp only [List.getElem_set_self];omega))) (λ _=>trivial) ?_)
   refine aG (aE ?_)
   refine ev_stop (tk_indexArr Tryz.tbs_ok (1) aB rfl rfl rfl rfl rfl rfl rfl (by first | decide | omega) rfl rfl ?_)
   refine aG (aE (aK ?_))
   refine ev_stop (go_draw Tryz.tbs_ok false [0,1] [(0,true),(1,true),(2,true),(3,true),(4,true),(5,true),(6,true),(7,true),(99,false),(0,true),(0,true),(0,true),(0,true),(0,true),(0,true)] rfl ?_)
   refine aG (aE ?_)
   refine ev_stop (go_slot 43 _ (.va (.int IntKind.i64 ((1:Nat):Int))) rfl rfl (congrArg (λ z=>Value.int IntKind.i64 z) (show s=((1:Nat):Int) by first | omega | (simp only [List.getElem_set_self];omega))) (λ _=>trivial) ?_)
   refine aG (aE ?_)
   refine ev_stop (tk_indexArr Tryz.tbs_ok (1) aB rfl rfl rfl rfl rfl rfl rfl (by first | decide | omega) rfl rfl ?_)
   refine aG (aE ?_)
   refine ev_stop (go_fork 8 12 [(9,true),(10,true),(11,true),(12,false),(13,false),(14,false)] [(8,false),(9,false),(10,true),(11,true),(13,false),(14,false)] _ _ ⟨aL,rfl⟩ (by kernel_rfl) rfl rfl rfl rfl ?_ ?_)
   refine aG ?_
   refine aC T3 [] [.inl 0,.inl 1] λ _ h12=>?_
   refine aE ?_
   refine ev_new λ b13=>?_
   refine aE (aE (aK (aJ ?_)))
   exact ev_fin ⟨trivial,_,rfl,(),rfl,by trivial,aF [0]⟩
   refine aG ?_
   refine ev_new λ b14=>?_
   refine aE ?_
   refine aC T3 [] [.inl 0,.inl 1] λ _ h15=>?_
   refine aE (aE (aE (aK (aJ ?_))))
   exact ev_fin ⟨trivial,_,rfl,(),rfl,by trivial,aF [0]⟩
 . obtain rfl:x.r2=g:=Option.some.inj hg
   refine ev_new λ b10=>?_
   refine aI ?_ (beq_eq_false_iff_ne.2 (show ¬k=4 from (by omega)))
   refine aI ?_ (beq_eq_false_iff_ne.2 (show ¬k=5 from (by omega)))
   refine aI ?_ (decide_eq_false (show ¬s<0 from (by omega)))
   refine aI ?_ (decide_eq_false (show ¬s ≥ 4 from (by omega)))
   refine aC T1 [] [.inl 1] λ _ h11=>?_
   refine aI ?_
   refine ev_stop (go_draw Tryz.tbs_ok false [0,1] [(0,true),(1,true),(2,true),(3,true),(4,true),(5,true),(6,true),(7,true),(8,false)] rfl ?_)
   refine aG (aE ?_)
   refine ev_stop (go_slot 34 _ (.va (.int IntKind.i64 ((2:Nat):Int))) rfl rfl (congrArg (λ z=>Value.int IntKind.i64 z) (show s=((2:Nat):Int) by first | omega | (simp only [List.getElem_set_self];omega))) (λ _=>trivial) ?_)
   refine aG (aE ?_)
   refine ev_stop (tk_indexArr Tryz.tbs_ok (2) aB rfl rfl rfl rfl rfl rfl rfl (by first | decide | omega) rfl rfl ?_)
   refine aG (aE (aK ?_))
   refine ev_stop (go_draw Tryz.tbs_ok false [0,1] [(0,true),(1,true),(2,true),(3,true),(4,true),(5,true),(6,true),(7,true),(99,false),(0,true),(0,true),(0,true),(0,true),(0,true),(0,true)] rfl ?_)
   refine aG (aE ?_)
   refine ev_stop (go_slot 43 _ (.va (.int IntKind.i64 ((2:Nat):Int))) rfl rfl (congrArg (λ z=>Value.int IntKind.i64 z) (show s=((2:Nat):Int) by first | omega | (simp only [List.getElem_set_self];omega))) (λ _=>trivial) ?_)
   refine aG (aE ?_)
   refine ev_stop (tk_indexArr Tryz.tbs_ok (2) aB rfl rfl rfl rfl rfl rfl rfl (by first | decide | omega) rfl rfl ?_)
   refine aG (aE ?_)
   refine ev_stop (go_fork 8 12 [(9,true),(10,true),(11,true),(12,false),(13,false),(14,false)] [(8,false),(9,false),(10,true),(11,true),(13,false),(14,false)] _ _ ⟨aL,rfl⟩ (by kernel_rfl) rfl rfl rfl rfl ?_ ?_)
   refine aG ?_
   refine aC T3 [] [.inl 0,.inl 1] λ _ h12=>?_
   refine aE ?_
   refine ev_new λ b13=>?_
   refine aE (aE (aK (aJ ?_)))
   exact ev_fin ⟨trivial,_,rfl,(),rfl,by trivial,aF [0]⟩
   refine aG ?_
   refine ev_new λ b14=>?_
   refine aE ?_
   refine aC T3 [] [.inl 0,.inl 1] λ _ h15=>?_
   refine aE (aE (aE (aK (aJ ?_))))
   exact ev_fin ⟨trivial,_,rfl,(),rfl,by trivial,aF [0]⟩
 obtain rfl:x.r3=g:=Option.some.inj hg
 refine ev_new λ b10=>?_
 refine aI ?_ (beq_eq_false_iff_ne.2 (show ¬k=4 from (by omega)))
 refine aI ?_ (beq_eq_false_iff_ne.2 (show ¬k=5 from (by omega)))
 refine aI ?_ (decide_eq_false (show ¬s<0 from (by omega)))
 refine aI ?_ (decide_eq_false (show ¬s ≥ 4 from (by omega)))
 refine aC T1 [] [.inl 1] λ _ h11=>?_
 refine aI ?_
 refine ev_stop (go_draw Tryz.tbs_ok false [0,1] [(0,true),(1,true),(2,true),(3,true),(4,true),(5,true),(6,true),(7,true),(8,false)] rfl ?_)
 refine aG (aE ?_)
 refine ev_stop (go_slot 34 _ (.va (.int IntKind.i64 ((3:Nat):Int))) rfl rfl (congrArg (λ z=>Value.int IntKind.i64 z) (show s=((3:Nat):Int) by first | omega | (simp only [List.getElem_set_self];omega))) (λ _=>trivial) ?_)
 refine aG (aE ?_)
 refine ev_stop (tk_indexArr Tryz.tbs_ok (3) aB rfl rfl rfl rfl rfl rfl rfl (by first | decide | omega) rfl rfl ?_)
 refine aG (aE (aK ?_))
 refine ev_stop (go_draw Tryz.tbs_ok false [0,1] [(0,true),(1,true),(2,true),(3,true),(4,true),(5,true),(6,true),(7,true),(99,false),(0,true),(0,true),(0,true),(0,true),(0,true),(0,true)] rfl ?_)
 refine aG (aE ?_)
 refine ev_stop (go_slot 43 _ (.va (.int IntKind.i64 ((3:Nat):Int))) rfl rfl (congrArg (λ z=>Value.int IntKind.i64 z) (show s=((3:Nat):Int) by first | omega | (simp only [List.getElem_set_self];omega))) (λ _=>trivial) ?_)
 refine aG (aE ?_)
 refine ev_stop (tk_indexArr Tryz.tbs_ok (3) aB rfl rfl rfl rfl rfl rfl rfl (by first | decide | omega) rfl rfl ?_)
 refine aG (aE ?_)
 refine ev_stop (go_fork 8 12 [(9,true),(10,true),(11,true),(12,false),(13,false),(14,false)] [(8,false),(9,false),(10,true),(11,true),(13,false),(14,false)] _ _ ⟨aL,rfl⟩ (by kernel_rfl) rfl rfl rfl rfl ?_ ?_)
 refine aG ?_
 refine aC T3 [] [.inl 0,.inl 1] λ _ h12=>?_
 refine aE ?_
 refine ev_new λ b13=>?_
 refine aE (aE (aK (aJ ?_)))
 exact ev_fin ⟨trivial,_,rfl,(),rfl,by trivial,aF [0]⟩
 refine aG ?_
 refine ev_new λ b14=>?_
 refine aE ?_
 refine aC T3 [] [.inl 0,.inl 1] λ _ h15=>?_
 refine aE (aE (aE (aK (aJ ?_))))
 exact ev_fin ⟨trivial,_,rfl,(),rfl,by trivial,aF [0]⟩
theorem bz {r z:Reg} {y:Rec} (h4:y.k≠4) (h:applyR r y=some z):r.c<=z.c/\(y.k≠3->z.c=r.c):=by
 obtain ⟨ho,_⟩:=applyR_ok h
 unfold applyR at h
 rw [if_neg (by rw [ho];decide),if_neg h4] at h
 split at h
 . rw [Option.ite_none_right_eq_some] at h
   cases h.2
   exact ⟨Int.le_refl _,λ _=>rfl⟩
 split at h
 . rw [Option.ite_none_right_eq_some] at h
   cases h.2
   exact ⟨Int.le_refl _,λ _=>rfl⟩
 split at h
 . rename_i h3
   rw [Option.ite_none_right_eq_some] at h
   obtain ⟨q,e⟩:=h
   cases e
   exact ⟨Int.le_of_lt q.1,λ q=>absurd h3 q⟩
 cases h
theorem al {P F:Asn} {x X:StaS} {g:RegS} {j:Nat} (hX:X.regs=x.regs.set j g) {h:Hp} (q:Asn.starH [P,ac x,aj g,F] h):Asn.starH [P,ac X,F] h:=by
 obtain ⟨h1,h2,d,a,b,p,q2⟩:=q
 obtain ⟨g1,g2,d3,a3,b3,q3,q4⟩:=(starH_append [ac x,aj g] [F]).1 q2
 refine ⟨h1,h2,d,a,b,p,g1,g2,d3,a3,b3,λ y hy=>?_,q4⟩
 obtain ⟨h5,h6,_,a5,a6,p5,p6⟩:=q3
 rw [hX] at hy
 rcases List.mem_or_eq_of_mem_set hy with hy | rfl
 . exact y.own.mono a5 (p5 y hy)
 exact bS a6 (starH_one.1 p6)
theorem ah (s a:Int):∀ k,(spots s a k).length=k
 | 0=>rfl
 | k+1=>by rw [spots,List.length_append,ah s a k];rfl
theorem af {F M:List Spt} {s:Int} {c i:Nat} (hM:M=F++spots s (c:Int) (i-c)) (hi:c<=i):M++[⟨s,(i:Int)⟩]=F++spots s (c:Int) (i+1-c):=by
 rw [show i+1-c=(i-c)+1 by omega,spots,<-List.append_assoc,<-hM,show (c:Int)+((i-c:Nat):Int)=(i:Int) by omega]
theorem ak {x X:StaS} {s c:Int} {M:List Spt} {cn cz k2:Nat} (j:Nat) {z:Reg} (hM:M=x.F++spots s (cn:Int) k2) (hcn:c=(cn:Int)) (hk:cn+k2=cz) (h1:X.abs.R=x.abs.R.set j z) (h2:X.abs.F=M):X.abs=⟨x.abs.R.set j z,x.F++spots s c ((cz:Int)-c).toNat⟩:=by
 obtain rfl:((cz:Int)-c).toNat=k2:=by omega
 rw [<-hcn] at hM
 rw [<-hM,<-h2,<-h1]
set_option maxHeartbeats 8000000 in
theorem cI (c:Nat) (x:StaS) (sure:Nat) (dirty:Bool) (y:RecS) (hk:y.r.k=1\/y.r.k=2\/y.r.k=3) (hm:mayR y.r=true) (hl:y.r.L.length<=2000) (j:Nat) (hj:j<4) (hs:y.r.s=(j:Int)) (g:RegS) (hg:x.regs[j]? = some g) (ho:okR g.r=true) (hF:x.F.length<=100000) (z:Reg) (h:applyR g.r y.r=some z) :
 Triple Tryz.prog 35 [pP c,.agg (encR y).toArray] [ab c x sure dirty,ac x,ai x] [y.rdL] StaS (λ _=>.bool true) (λ X=>X.abs=⟨x.abs.R.set j z,x.F++spots y.r.s g.r.c (z.c-g.r.c).toNat⟩) (λ X=>[ab c X sure dirty,ac X,ai X]):=by
 have T1:=bj y (by omega) (by omega) (by omega)
 rw [hm,if_pos rfl] at T1
 have hzo:=okR_of (applyR_ok h).2
 have hz64:=wholeE_len hzo.2.2.2.1
 have hgo:=okR_of ho
 obtain ⟨hc1,_⟩:=bz (by omega) h
 have T2:g.r.L.length<=g.a->Triple Tryz.prog 68 [.agg (encG g).toArray,.agg (encR y).toArray] [] [ac x,y.rdL] Sl (λ (A',c')=>.tuple #[.agg (encG ⟨z,A',c'⟩).toArray,.bool true]) (λ (_,c')=>z.L.length<=c') (λ (A',c')=>[Row 101 6 A' z.L.length c' (z.L.flatMap encE)]):=λ ha=>by
  rcases hk with q | q | q
  . exact (bE g y ho (.inl q) z h).reads λ X hX=>by
     rw [List.mem_singleton.1 hX]
     exact ⟨_,List.mem_cons_self,λ _ q=>(q g (List.mem_of_getElem? hg)).1⟩
  . exact (cP g y ho q hl ha z h).reads λ X hX=>by
     simp only [List.mem_cons,List.not_mem_nil,or_false] at hX
     rcases hX with rfl | rfl
     . exact ⟨_,List.mem_cons_self,λ _ q=>(q g (List.mem_of_getElem? hg)).1⟩
     exact ⟨_,List.mem_cons_of_mem _ List.mem_cons_self,λ _ q=>q⟩
  exact (bE g y ho (.inr q) z h).reads λ X hX=>by
   rw [List.mem_singleton.1 hX]
   exact ⟨_,List.mem_cons_self,λ _ q=>(q g (List.mem_of_getElem? hg)).1⟩
 obtain ⟨⟨k,s,e,v,f,n,L,F⟩,A,a,B,b⟩:=y
 obtain ⟨⟨zp,zv,zL,zc⟩,hzz⟩:∃ z',z'=z:=⟨z,rfl⟩
 subst hzz
 unfold encR RecS.rdL at *
 simp only at T1 T2 h hs hk hzo hz64 hc1 ⊢
 obtain ⟨cz,rfl⟩:∃ cz:Nat,zc=(cz:Int):=⟨zc.toNat,by omega⟩
 obtain ⟨cn,hcn⟩:∃ cn:Nat,g.r.c=(cn:Int):=⟨g.r.c.toNat,by omega⟩
 have hcz:cn<=cz:=by omega
 refine triple_intro Tryz.tbs_ok Tryz.func35 rfl [.pt 0 c 0,.ag [vI k,vI s,vI e,vI v,vI f,vI n,vL A L.length a,vL B F.length b]] [.box c 36 (aq x sure dirty),.fact (ac x),.fact (Row 72 2 x.A x.F.length x.c (x.F.flatMap encP))] ⟨rfl,⟨trivial,trivial,trivial,trivial,trivial,trivial,trivial,trivial,trivial⟩,trivial⟩ rfl (by simp [aq,svG,SV.good,SV.goodL]) ?_
 intro E
 refine go_know (.inr 1) (ac x) rfl (p:=g.r.L.length<=g.a) (λ h p=>(p g (List.mem_of_getElem? hg)).2) λ ha=>?_
 have T3:=T2 ha
 refine aG ?_
 rcases (show j=0\/j=1\/j=2\/j=3 by omega) with rfl | rfl | rfl | rfl
 . obtain rfl:x.r0=g:=Option.some.inj hg
   refine ev_new λ b10=>?_
   refine aI ?_ (beq_eq_false_iff_ne.2 (show ¬k=4 from (by omega)))
   refine aI ?_ (beq_eq_false_iff_ne.2 (show ¬k=5 from (by omega)))
   refine aI ?_ (decide_eq_false (show ¬s<0 from (by omega)))
   refine aI ?_ (decide_eq_false (show ¬s ≥ 4 from (by omega)))
   refine aC T1 [] [.inl 0] λ _ h11=>?_
   refine aI ?_
   refine ev_stop (go_draw Tryz.tbs_ok false [0,3] [(0,true),(1,true),(2,true),(3,true),(4,true),(5,true),(6,true),(7,true),(8,false)] rfl ?_)
   refine aG (aE ?_)
   refine ev_stop (go_slot 34 _ (.va (.int IntKind.i64 ((0:Nat):Int))) rfl rfl (congrArg (λ z=>Value.int IntKind.i64 z) (show s=((0:Nat):Int) by first | omega | (simp only [List.getElem_set_self];omega))) (λ _=>trivial) ?_)
   refine aG (aE ?_)
   refine ev_stop (tk_indexArr Tryz.tbs_ok (0) aB rfl rfl rfl rfl rfl rfl rfl (by first | decide | omega) rfl rfl ?_)
   refine aG (aE (aK ?_))
   refine ev_stop (go_draw Tryz.tbs_ok false [0,3] [(0,true),(1,true),(2,true),(3,true),(4,true),(5,true),(6,true),(7,true),(99,false),(0,true),(0,true),(0,true),(0,true),(0,true),(0,true)] rfl ?_)
   refine aG (aE ?_)
   refine ev_stop (go_slot 43 _ (.va (.int IntKind.i64 ((0:Nat):Int))) rfl rfl (congrArg (λ z=>Value.int IntKind.i64 z) (show s=((0:Nat):Int) by first | omega | (simp only [List.getElem_set_self];omega))) (λ _=>trivial) ?_)
   refine aG (aE ?_)
   refine ev_stop (tk_indexArr Tryz.tbs_ok (0) aB rfl rfl rfl rfl rfl rfl rfl (by first | decide | omega) rfl rfl ?_)
   refine aG (aE ?_)
   refine ev_stop (go_fork 8 12 [(9,true),(10,true),(11,true),(12,false),(13,false),(14,false)] [(8,false),(9,false),(10,true),(11,true),(13,false),(14,false)] _ _ ⟨aL,rfl⟩ (by kernel_rfl) rfl rfl rfl rfl ?_ ?_)
   refine aG ?_
   refine aC T3 [] [.inr 1,.inl 0] λ ⟨x12,x13⟩ h14=>?_
   refine aE ?_
   refine ev_new λ b15=>?_
   refine aE (aE (aK (aI ?_)))
   refine ev_stop (go_draw Tryz.tbs_ok false [3,5] [(0,true),(1,true),(2,true),(3,true),(4,true),(5,true),(6,true),(7,false)] rfl ?_)
   refine aG (aE ?_)
   refine ev_stop (go_slot 56 _ (.va (.int IntKind.i64 ((0:Nat):Int))) rfl rfl (congrArg (λ z=>Value.int IntKind.i64 z) (show s=((0:Nat):Int) by first | omega | (simp only [List.getElem_set_self];omega))) (λ _=>trivial) ?_)
   refine aG (aE ?_)
   refine ev_stop (tk_indexArr Tryz.tbs_ok (0) aB rfl rfl rfl rfl rfl rfl rfl (by first | decide | omega) rfl rfl ?_)
   refine aG (aE (aK ?_))
   rotate_left
   refine aG ?_
   refine ev_new λ b16=>?_
   refine aE ?_
   refine aC T3 [] [.inr 1,.inl 0] λ ⟨x17,x18⟩ h19=>?_
   refine aE (aE (aE (aK (aI ?_))))
   refine ev_stop (go_draw Tryz.tbs_ok false [3,4] [(0,true),(1,true),(2,true),(3,true),(4,true),(5,true),(6,true),(7,false)] rfl ?_)
   refine aG (aE ?_)
   refine ev_stop (go_slot 56 _ (.va (.int IntKind.i64 ((0:Nat):Int))) rfl rfl (congrArg (λ z=>Value.int IntKind.i64 z) (show s=((0:Nat):Int) by first | omega | (simp only [List.getElem_set_self];omega))) (λ _=>trivial) ?_)
   refine aG (aE ?_)
   refine ev_stop (tk_indexArr Tryz.tbs_ok (0) aB rfl rfl rfl rfl rfl rfl rfl (by first | decide | omega) rfl rfl ?_)
   refine aG (aE (aK ?_))
   rotate_left
   . refine ev_stop (go_slot 8 _ (vI (cn:Int)) rfl rfl (by show SV.den (vI x.r0.r.c)=_;rw [hcn]) (λ _=>trivial) ?_)
     refine aG ?_
     refine ev_stop (go_loopR [1,8,28,40,47,48,49,50,57,62,63,64,65,66,67,68,69,70,71,72,73,74,75,76,77,78,79,80] (λ (i,_)=>[(8,vI (i:Nat))]) (λ (_,m,A2,d2,M)=>[(0,.box c 36 (svG ⟨⟨zp,zv,zL,(cz:Int)⟩,x12,x13⟩++(svG x.r1++(svG x.r2++(svG x.r3++[vL A2 m d2,vI (sure:Nat),.bq dirty]))))),(2,.fact (Row 72 2 A2 m d2 (M.flatMap encP)))]) (λ (i,m,_,_,M)=>cn<=i/\i<=cz/\m=M.length/\M=x.F++spots s (cn:Int) (i-cn)) (λ (i,_)=>cz-i) ((cn,x.F.length,x.A,x.c,x.F):Nat × Nat × Option Addr × Nat × List Spt) ⟨Nat.le_refl _,hcz,rfl,by rw [Nat.sub_self];exact (List.append_nil _).symm⟩ aS (λ x_ h_=>?_))
     obtain ⟨i,m,A2,d2,M⟩:=x_
     obtain ⟨hi1,hi2,hm2,hM⟩:=h_
     have hMl:M.length=x.F.length+(i-cn):=by rw [hM,List.length_append,ah]
     rcases Nat.lt_or_ge i cz with hlt | hlt
     . refine aG ?_
       refine aJ ?_ (decide_eq_true (show (↑i:Int)<(↑cz:Int) from (by omega)))
       refine ev_stop (go_draw Tryz.tbs_ok false [0,3] [(0,true),(1,true),(2,true),(3,true),(4,true),(5,true),(6,true),(7,true),(8,true),(9,false),(10,false),(11,false),(12,false),(13,false)] rfl ?_)
       refine aG (aE ?_)
       refine ev_new λ b40=>?_
       refine aE ?_
       refine ev_stop (go_appendE (sz:=2) (M:=[_]) (enc:=encP) Tryz.tbs_ok [2] [] (.inr 6) (M) ([{ s:=s,i:=(↑i:Int):Spt }]) ((M)++([{ s:=s,i:=(↑i:Int):Spt }])) (m+1) rfl rfl rfl rfl rfl rfl rfl (by decide) rfl (by decide) (λ _ p=>starH_one.1 p) rfl (λ _ p=>Pt.rd p rfl) (by first | rfl | simp) (by first | rfl | omega) (aM (m+1)) (aN (m+1)) (λ _ _=>aL) (λ A41 c42 h43=>?_))
       refine aG (aE (aE (aE (aK ?_))))
       refine wN (i+1) ?_
       refine ev_fin (round_next ((i+1,m+1,A41,c42,M++[{ s:=s,i:=(↑i:Int):Spt }])) (?_:cn<=i+1/\i+1<=cz/\m+1=(M++[{ s:=s,i:=(↑i:Int):Spt }]).length/\M++[{ s:=s,i:=(↑i:Int):Spt }]=x.F++spots s (↑cn:Int) (i+1-cn)) (show cz-(i+1)<cz-i from (by omega)) aS)
       exact ⟨by omega,by omega,by rw [List.length_append,<-hm2];rfl,af hM hi1⟩
     have hkk:cn+(i-cn)=cz:=by omega
     refine aG ?_
     refine aI ?_ (decide_eq_false (show ¬(↑i:Int)<(↑cz:Int) from (by omega)))
     refine ev_fin (go Tryz.tbs_ok 1000 ?_)
     subst hm2
     exact ev_fin ⟨trivial,_,rfl,⟨⟨⟨zp,zv,zL,(cz:Int)⟩,x12,x13⟩,x.r1,x.r2,x.r3,M,A2,d2⟩,rfl,ak 0 hM hcn hkk rfl rfl,Frm.imp (M:=[ab c ⟨⟨⟨zp,zv,zL,(cz:Int)⟩,x12,x13⟩,x.r1,x.r2,x.r3,M,A2,d2⟩ sure dirty,ac x,aj ⟨⟨zp,zv,zL,(cz:Int)⟩,x12,x13⟩,ai ⟨⟨⟨zp,zv,zL,(cz:Int)⟩,x12,x13⟩,x.r1,x.r2,x.r3,M,A2,d2⟩]) [0,1,4,2] rfl (by decide) (λ h q=>al (x:=x) (g:=⟨⟨zp,zv,zL,(cz:Int)⟩,x12,x13⟩) (j:=0) rfl q)⟩
   refine ev_stop (go_slot 8 _ (vI (cn:Int)) rfl rfl (by show SV.den (vI x.r0.r.c)=_;rw [hcn]) (λ _=>trivial) ?_)
   refine aG ?_
   refine ev_stop (go_loopR [1,8,28,40,47,48,49,50,57,62,63,64,65,66,67,68,69,70,71,72,73,74,75,76,77,78,79,80] (λ (i,_)=>[(8,vI (i:Nat))]) (λ (_,m,A2,d2,M)=>[(0,.box c 36 (svG ⟨⟨zp,zv,zL,(cz:Int)⟩,x17,x18⟩++(svG x.r1++(svG x.r2++(svG x.r3++[vL A2 m d2,vI (sure:Nat),.bq dirty]))))),(2,.fact (Row 72 2 A2 m d2 (M.flatMap encP)))]) (λ (i,m,_,_,M)=>cn<=i/\i<=cz/\m=M.length/\M=x.F++spots s (cn:Int) (i-cn)) (λ (i,_)=>cz-i) ((cn,x.F.length,x.A,x.c,x.F):Nat × Nat × Option Addr × Nat × List Spt) ⟨Nat.le_refl _,hcz,rfl,by rw [Nat.sub_self];exact (List.append_nil _).symm⟩ aS (λ x_ h_=>?_))
   obtain ⟨i,m,A2,d2,M⟩:=x_
   obtain ⟨hi1,hi2,hm2,hM⟩:=h_
   have hMl:M.length=x.F.length+(i-cn):=by rw [hM,List.length_append,ah]
   rcases Nat.lt_or_ge i cz with hlt | hlt
   . refine aG ?_
     refine aJ ?_ (decide_eq_true (show (↑i:Int)<(↑cz:Int) from (by omega)))
     refine ev_stop (go_draw Tryz.tbs_ok false [0,3] [(0,true),(1,true),(2,true),(3,true),(4,true),(5,true),(6,true),(7,true),(8,true),(9,false),(10,false),(11,false),(12,false),(13,false)] rfl ?_)
     refine aG (aE ?_)
     refine ev_new λ b40=>?_
     refine aE ?_
     refine ev_stop (go_appendE (sz:=2) (M:=[_]) (enc:=encP) Tryz.tbs_ok [2] [] (.inr 6) (M) ([{ s:=s,i:=(↑i:Int):Spt }]) ((M)++([{ s:=s,i:=(↑i:Int):Spt }])) (m+1) rfl rfl rfl rfl rfl rfl rfl (by decide) rfl (by decide) (λ _ p=>starH_one.1 p) rfl (λ _ p=>Pt.rd p rfl) (by first | rfl | simp) (by first | rfl | omega) (aM (m+1)) (aN (m+1)) (λ _ _=>aL) (λ A41 c42 h43=>?_))
     refine aG (aE (aE (aE (aK ?_))))
     refine wN (i+1) ?_
     refine ev_fin (round_next ((i+1,m+1,A41,c42,M++[{ s:=s,i:=(↑i:Int):Spt }])) (?_:cn<=i+1/\i+1<=cz/\m+1=(M++[{ s:=s,i:=(↑i:Int):Spt }]).length/\M++[{ s:=s,i:=(↑i:Int):Spt }]=x.F++spots s (↑cn:Int) (i+1-cn)) (show cz-(i+1)<cz-i from (by omega)) aS)
     exact ⟨by omega,by omega,by rw [List.length_append,<-hm2];rfl,af hM hi1⟩
   have hkk:cn+(i-cn)=cz:=by omega
   refine aG ?_
   refine aI ?_ (decide_eq_false (show ¬(↑i:Int)<(↑cz:Int) from (by omega)))
   refine ev_fin (go Tryz.tbs_ok 1000 ?_)
   subst hm2
   exact ev_fin ⟨trivial,_,rfl,⟨⟨⟨zp,zv,zL,(cz:Int)⟩,x17,x18⟩,x.r1,x.r2,x.r3,M,A2,d2⟩,rfl,ak 0 hM hcn hkk rfl rfl,Frm.imp (M:=[ab c ⟨⟨⟨zp,zv,zL,(cz:Int)⟩,x17,x18⟩,x.r1,x.r2,x.r3,M,A2,d2⟩ sure dirty,ac x,aj ⟨⟨zp,zv,zL,(cz:Int)⟩,x17,x18⟩,ai ⟨⟨⟨zp,zv,zL,(cz:Int)⟩,x17,x18⟩,x.r1,x.r2,x.r3,M,A2,d2⟩]) [0,1,5,2] rfl (by decide) (λ h q=>al (x:=x) (g:=⟨⟨zp,zv,zL,(cz:Int)⟩,x17,x18⟩) (j:=0) rfl q)⟩
 . obtain rfl:x.r1=g:=Option.some.inj hg
   refine ev_new λ b10=>?_
   refine aI ?_ (beq_eq_false_iff_ne.2 (show ¬k=4 from (by omega)))
   refine aI ?_ (beq_eq_false_iff_ne.2 (show ¬k=5 from (by omega)))
   refine aI ?_ (decide_eq_false (show ¬s<0 from (by omega)))
   refine aI ?_ (decide_eq_false (show ¬s ≥ 4 from (by omega)))
   refine aC T1 [] [.inl 0] λ _ h11=>?_
   refine aI ?_
   refine ev_stop (go_draw Tryz.tbs_ok false [0,3] [(0,true),(1,true),(2,true),(3,true),(4,true),(5,true),(6,true),(7,true),(8,false)] rfl ?_)
   refine aG (aE ?_)
   refine ev_stop (go_slot 34 _ (.va (.int IntKind.i64 ((1:Nat):Int))) rfl rfl (congrArg (λ z=>Value.int IntKind.i64 z) (show s=((1:Nat):Int) by first | omega | (simp only [List.getElem_set_self];omega))) (λ _=>trivial) ?_)
   refine aG (aE ?_)
   refine ev_stop (tk_indexArr Tryz.tbs_ok (1) aB rfl rfl rfl rfl rfl rfl rfl (by first | decide | omega) rfl rfl ?_)
   refine aG (aE (aK ?_))
   refine ev_stop (go_draw Tryz.tbs_ok false [0,3] [(0,true),(1,true),(2,true),(3,true),(4,true),(5,true),(6,true),(7,true),(99,false),(0,true),(0,true),(0,true),(0,true),(0,true),(0,true)] rfl ?_)
   refine aG (aE ?_)
   refine ev_stop (go_slot 43 _ (.va (.int IntKind.i64 ((1:Nat):Int))) rfl rfl (congrArg (λ z=>Value.int IntKind.i64 z) (show s=((1:Nat):Int) by first | omega | (simp only [List.getElem_set_self];omega))) (λ _=>trivial) ?_)
   refine aG (aE ?_)
   refine ev_stop (tk_indexArr Tryz.tbs_ok (1) aB rfl rfl rfl rfl rfl rfl rfl (by first | decide | omega) rfl rfl ?_)
   refine aG (aE ?_)
   refine ev_stop (go_fork 8 12 [(9,true),(10,true),(11,true),(12,false),(13,false),(14,false)] [(8,false),(9,false),(10,true),(11,true),(13,false),(14,false)] _ _ ⟨aL,rfl⟩ (by kernel_rfl) rfl rfl rfl rfl ?_ ?_)
   refine aG ?_
   refine aC T3 [] [.inr 1,.inl 0] λ ⟨x12,x13⟩ h14=>?_
   refine aE ?_
   refine ev_new λ b15=>?_
   refine aE (aE (aK (aI ?_)))
   refine ev_stop (go_draw Tryz.tbs_ok false [3,5] [(0,true),(1,true),(2,true),(3,true),(4,true),(5,true),(6,true),(7,false)] rfl ?_)
   refine aG (aE ?_)
   refine ev_stop (go_slot 56 _ (.va (.int IntKind.i64 ((1:Nat):Int))) rfl rfl (congrArg (λ z=>Value.int IntKind.i64 z) (show s=((1:Nat):Int) by first | omega | (simp only [List.getElem_set_self];omega))) (λ _=>trivial) ?_)
   refine aG (aE ?_)
   refine ev_stop (tk_indexArr Tryz.tbs_ok (1) aB rfl rfl rfl rfl rfl rfl rfl (by first | decide | omega) rfl rfl ?_)
   refine aG (aE (aK ?_))
   rotate_left
   refine aG ?_
   refine ev_new λ b16=>?_
   refine aE ?_
   refine aC T3 [] [.inr 1,.inl 0] λ ⟨x17,x18⟩ h19=>?_
   refine aE (aE (aE (aK (aI ?_))))
   refine ev_stop (go_draw Tryz.tbs_ok false [3,4] [(0,true),(1,true),(2,true),(3,true),(4,true),(5,true),(6,true),(7,false)] rfl ?_)
   refine aG (aE ?_)
   refine ev_stop (go_slot 56 _ (.va (.int IntKind.i64 ((1:Nat):Int))) rfl rfl (congrArg (λ z=>Value.int IntKind.i64 z) (show s=((1:Nat):Int) by first | omega | (simp only [List.getElem_set_self];omega))) (λ _=>trivial) ?_)
   refine aG (aE ?_)
   refine ev_stop (tk_indexArr Tryz.tbs_ok (1) aB rfl rfl rfl rfl rfl rfl rfl (by first | decide | omega) rfl rfl ?_)
   refine aG (aE (aK ?_))
   rotate_left
   . refine ev_stop (go_slot 8 _ (vI (cn:Int)) rfl rfl (by show SV.den (vI x.r1.r.c)=_;rw [hcn]) (λ _=>trivial) ?_)
     refine aG ?_
     refine ev_stop (go_loopR [1,8,28,40,47,48,49,50,57,62,63,64,65,66,67,68,69,70,71,72,73,74,75,76,77,78,79,80] (λ (i,_)=>[(8,vI (i:Nat))]) (λ (_,m,A2,d2,M)=>[(0,.box c 36 (svG x.r0++(svG ⟨⟨zp,zv,zL,(cz:Int)⟩,x12,x13⟩++(svG x.r2++(svG x.r3++[vL A2 m d2,vI (sure:Nat),.bq dirty]))))),(2,.fact (Row 72 2 A2 m d2 (M.flatMap encP)))]) (λ (i,m,_,_,M)=>cn<=i/\i<=cz/\m=M.length/\M=x.F++spots s (cn:Int) (i-cn)) (λ (i,_)=>cz-i) ((cn,x.F.length,x.A,x.c,x.F):Nat × Nat × Option Addr × Nat × List Spt) ⟨Nat.le_refl _,hcz,rfl,by rw [Nat.sub_self];exact (List.append_nil _).symm⟩ aS (λ x_ h_=>?_))
     obtain ⟨i,m,A2,d2,M⟩:=x_
     obtain ⟨hi1,hi2,hm2,hM⟩:=h_
     have hMl:M.length=x.F.length+(i-cn):=by rw [hM,List.length_append,ah]
     rcases Nat.lt_or_ge i cz with hlt | hlt
     . refine aG ?_
       refine aJ ?_ (decide_eq_true (show (↑i:Int)<(↑cz:Int) from (by omega)))
       refine ev_stop (go_draw Tryz.tbs_ok false [0,3] [(0,true),(1,true),(2,true),(3,true),(4,true),(5,true),(6,true),(7,true),(8,true),(9,false),(10,false),(11,false),(12,false),(13,false)] rfl ?_)
       refine aG (aE ?_)
       refine ev_new λ b40=>?_
       refine aE ?_
       refine ev_stop (go_appendE (sz:=2) (M:=[_]) (enc:=encP) Tryz.tbs_ok [2] [] (.inr 6) (M) ([{ s:=s,i:=(↑i:Int):Spt }]) ((M)++([{ s:=s,i:=(↑i:Int):Spt }])) (m+1) rfl rfl rfl rfl rfl rfl rfl (by decide) rfl (by decide) (λ _ p=>starH_one.1 p) rfl (λ _ p=>Pt.rd p rfl) (by first | rfl | simp) (by first | rfl | omega) (aM (m+1)) (aN (m+1)) (λ _ _=>aL) (λ A41 c42 h43=>?_))
       refine aG (aE (aE (aE (aK ?_))))
       refine wN (i+1) ?_
       refine ev_fin (round_next ((i+1,m+1,A41,c42,M++[{ s:=s,i:=(↑i:Int):Spt }])) (?_:cn<=i+1/\i+1<=cz/\m+1=(M++[{ s:=s,i:=(↑i:Int):Spt }]).length/\M++[{ s:=s,i:=(↑i:Int):Spt }]=x.F++spots s (↑cn:Int) (i+1-cn)) (show cz-(i+1)<cz-i from (by omega)) aS)
       exact ⟨by omega,by omega,by rw [List.length_append,<-hm2];rfl,af hM hi1⟩
     have hkk:cn+(i-cn)=cz:=by omega
     refine aG ?_
     refine aI ?_ (decide_eq_false (show ¬(↑i:Int)<(↑cz:Int) from (by omega)))
     refine ev_fin (go Tryz.tbs_ok 1000 ?_)
     subst hm2
     exact ev_fin ⟨trivial,_,rfl,⟨x.r0,⟨⟨zp,zv,zL,(cz:Int)⟩,x12,x13⟩,x.r2,x.r3,M,A2,d2⟩,rfl,ak 1 hM hcn hkk rfl rfl,Frm.imp (M:=[ab c ⟨x.r0,⟨⟨zp,zv,zL,(cz:Int)⟩,x12,x13⟩,x.r2,x.r3,M,A2,d2⟩ sure dirty,ac x,aj ⟨⟨zp,zv,zL,(cz:Int)⟩,x12,x13⟩,ai ⟨x.r0,⟨⟨zp,zv,zL,(cz:Int)⟩,x12,x13⟩,x.r2,x.r3,M,A2,d2⟩]) [0,1,4,2] rfl (by decide) (λ h q=>al (x:=x) (g:=⟨⟨zp,zv,zL,(cz:Int)⟩,x12,x13⟩) (j:=1) rfl q)⟩
   refine ev_stop (go_slot 8 _ (vI (cn:Int)) rfl rfl (by show SV.den (vI x.r1.r.c)=_;rw [hcn]) (λ _=>trivial) ?_)
   refine aG ?_
   refine ev_stop (go_loopR [1,8,28,40,47,48,49,50,57,62,63,64,65,66,67,68,69,70,71,72,73,74,75,76,77,78,79,80] (λ (i,_)=>[(8,vI (i:Nat))]) (λ (_,m,A2,d2,M)=>[(0,.box c 36 (svG x.r0++(svG ⟨⟨zp,zv,zL,(cz:Int)⟩,x17,x18⟩++(svG x.r2++(svG x.r3++[vL A2 m d2,vI (sure:Nat),.bq dirty]))))),(2,.fact (Row 72 2 A2 m d2 (M.flatMap encP)))]) (λ (i,m,_,_,M)=>cn<=i/\i<=cz/\m=M.length/\M=x.F++spots s (cn:Int) (i-cn)) (λ (i,_)=>cz-i) ((cn,x.F.length,x.A,x.c,x.F):Nat × Nat × Option Addr × Nat × List Spt) ⟨Nat.le_refl _,hcz,rfl,by rw [Nat.sub_self];exact (List.append_nil _).symm⟩ aS (λ x_ h_=>?_))
   obtain ⟨i,m,A2,d2,M⟩:=x_
   obtain ⟨hi1,hi2,hm2,hM⟩:=h_
   have hMl:M.length=x.F.length+(i-cn):=by rw [hM,List.length_append,ah]
   rcases Nat.lt_or_ge i cz with hlt | hlt
   . refine aG ?_
     refine aJ ?_ (decide_eq_true (show (↑i:Int)<(↑cz:Int) from (by omega)))
     refine ev_stop (go_draw Tryz.tbs_ok false [0,3] [(0,true),(1,true),(2,true),(3,true),(4,true),(5,true),(6,true),(7,true),(8,true),(9,false),(10,false),(11,false),(12,false),(13,false)] rfl ?_)
     refine aG (aE ?_)
     refine ev_new λ b40=>?_
     refine aE ?_
     refine ev_stop (go_appendE (sz:=2) (M:=[_]) (enc:=encP) Tryz.tbs_ok [2] [] (.inr 6) (M) ([{ s:=s,i:=(↑i:Int):Spt }]) ((M)++([{ s:=s,i:=(↑i:Int):Spt }])) (m+1) rfl rfl rfl rfl rfl rfl rfl (by decide) rfl (by decide) (λ _ p=>starH_one.1 p) rfl (λ _ p=>Pt.rd p rfl) (by first | rfl | simp) (by first | rfl | omega) (aM (m+1)) (aN (m+1)) (λ _ _=>aL) (λ A41 c42 h43=>?_))
     refine aG (aE (aE (aE (aK ?_))))
     refine wN (i+1) ?_
     refine ev_fin (round_next ((i+1,m+1,A41,c42,M++[{ s:=s,i:=(↑i:Int):Spt }])) (?_:cn<=i+1/\i+1<=cz/\m+1=(M++[{ s:=s,i:=(↑i:Int):Spt }]).length/\M++[{ s:=s,i:=(↑i:Int):Spt }]=x.F++spots s (↑cn:Int) (i+1-cn)) (show cz-(i+1)<cz-i from (by omega)) aS)
     exact ⟨by omega,by omega,by rw [List.length_append,<-hm2];rfl,af hM hi1⟩
   have hkk:cn+(i-cn)=cz:=by omega
   refine aG ?_
   refine aI ?_ (decide_eq_false (show ¬(↑i:Int)<(↑cz:Int) from (by omega)))
   refine ev_fin (go Tryz.tbs_ok 1000 ?_)
   subst hm2
   exact ev_fin ⟨trivial,_,rfl,⟨x.r0,⟨⟨zp,zv,zL,(cz:Int)⟩,x17,x18⟩,x.r2,x.r3,M,A2,d2⟩,rfl,ak 1 hM hcn hkk rfl rfl,Frm.imp (M:=[ab c ⟨x.r0,⟨⟨zp,zv,zL,(cz:Int)⟩,x17,x18⟩,x.r2,x.r3,M,A2,d2⟩ sure dirty,ac x,aj ⟨⟨zp,zv,zL,(cz:Int)⟩,x17,x18⟩,ai ⟨x.r0,⟨⟨zp,zv,zL,(cz:Int)⟩,x17,x18⟩,x.r2,x.r3,M,A2,d2⟩]) [0,1,5,2] rfl (by decide) (λ h q=>al (x:=x) (g:=⟨⟨zp,zv,zL,(cz:Int)⟩,x17,x18⟩) (j:=1) rfl q)⟩
 . obtain rfl:x.r2=g:=Option.some.inj hg
   refine ev_new λ b10=>?_
   refine aI ?_ (beq_eq_false_iff_ne.2 (show ¬k=4 from (by omega)))
   refine aI ?_ (beq_eq_false_iff_ne.2 (show ¬k=5 from (by omega)))
   refine aI ?_ (decide_eq_false (show ¬s<0 from (by omega)))
   refine aI ?_ (decide_eq_false (show ¬s ≥ 4 from (by omega)))
   refine aC T1 [] [.inl 0] λ _ h11=>?_
   refine aI ?_
   refine ev_stop (go_draw Tryz.tbs_ok false [0,3] [(0,true),(1,true),(2,true),(3,true),(4,true),(5,true),(6,true),(7,true),(8,false)] rfl ?_)
   refine aG (aE ?_)
   refine ev_stop (go_slot 34 _ (.va (.int IntKind.i64 ((2:Nat):Int))) rfl rfl (congrArg (λ z=>Value.int IntKind.i64 z) (show s=((2:Nat):Int) by first | omega | (simp only [List.getElem_set_self];omega))) (λ _=>trivial) ?_)
   refine aG (aE ?_)
   refine ev_stop (tk_indexArr Tryz.tbs_ok (2) aB rfl rfl rfl rfl rfl rfl rfl (by first | decide | omega) rfl rfl ?_)
   refine aG (aE (aK ?_))
   refine ev_stop (go_draw Tryz.tbs_ok false [0,3] [(0,true),(1,true),(2,true),(3,true),(4,true),(5,true),(6,true),(7,true),(99,false),(0,true),(0,true),(0,true),(0,true),(0,true),(0,true)] rfl ?_)
   refine aG (aE ?_)
   refine ev_stop (go_slot 43 _ (.va (.int IntKind.i64 ((2:Nat):Int))) rfl rfl (congrArg (λ z=>Value.int IntKind.i64 z) (show s=((2:Nat):Int) by first | omega | (simp only [List.getElem_set_self];omega))) (λ _=>trivial) ?_)
   refine aG (aE ?_)
   refine ev_stop (tk_indexArr Tryz.tbs_ok (2) aB rfl rfl rfl rfl rfl rfl rfl (by first | decide | omega) rfl rfl ?_)
   refine aG (aE ?_)
   refine ev_stop (go_fork 8 12 [(9,true),(10,true),(11,true),(12,false),(13,false),(14,false)] [(8,false),(9,false),(10,true),(11,true),(13,false),(14,false)] _ _ ⟨aL,rfl⟩ (by kernel_rfl) rfl rfl rfl rfl ?_ ?_)
   refine aG ?_
   refine aC T3 [] [.inr 1,.inl 0] λ ⟨x12,x13⟩ h14=>?_
   refine aE ?_
   refine ev_new λ b15=>?_
   refine aE (aE (aK (aI ?_)))
   refine ev_stop (go_draw Tryz.tbs_ok false [3,5] [(0,true),(1,true),(2,true),(3,true),(4,true),(5,true),(6,true),(7,false)] rfl ?_)
   refine aG (aE ?_)
   refine ev_stop (go_slot 56 _ (.va (.int IntKind.i64 ((2:Nat):Int))) rfl rfl (congrArg (λ z=>Value.int IntKind.i64 z) (show s=((2:Nat):Int) by first | omega | (simp only [List.getElem_set_self];omega))) (λ _=>trivial) ?_)
   refine aG (aE ?_)
   refine ev_stop (tk_indexArr Tryz.tbs_ok (2) aB rfl rfl rfl rfl rfl rfl rfl (by first | decide | omega) rfl rfl ?_)
   refine aG (aE (aK ?_))
   rotate_left
   refine aG ?_
   refine ev_new λ b16=>?_
   refine aE ?_
   refine aC T3 [] [.inr 1,.inl 0] λ ⟨x17,x18⟩ h19=>?_
   refine aE (aE (aE (aK (aI ?_))))
   refine ev_stop (go_draw Tryz.tbs_ok false [3,4] [(0,true),(1,true),(2,true),(3,true),(4,true),(5,true),(6,true),(7,false)] rfl ?_)
   refine aG (aE ?_)
   refine ev_stop (go_slot 56 _ (.va (.int IntKind.i64 ((2:Nat):Int))) rfl rfl (congrArg (λ z=>Value.int IntKind.i64 z) (show s=((2:Nat):Int) by first | omega | (simp only [List.getElem_set_self];omega))) (λ _=>trivial) ?_)
   refine aG (aE ?_)
   refine ev_stop (tk_indexArr Tryz.tbs_ok (2) aB rfl rfl rfl rfl rfl rfl rfl (by first | decide | omega) rfl rfl ?_)
   refine aG (aE (aK ?_))
   rotate_left
   . refine ev_stop (go_slot 8 _ (vI (cn:Int)) rfl rfl (by show SV.den (vI x.r2.r.c)=_;rw [hcn]) (λ _=>trivial) ?_)
     refine aG ?_
     refine ev_stop (go_loopR [1,8,28,40,47,48,49,50,57,62,63,64,65,66,67,68,69,70,71,72,73,74,75,76,77,78,79,80] (λ (i,_)=>[(8,vI (i:Nat))]) (λ (_,m,A2,d2,M)=>[(0,.box c 36 (svG x.r0++(svG x.r1++(svG ⟨⟨zp,zv,zL,(cz:Int)⟩,x12,x13⟩++(svG x.r3++[vL A2 m d2,vI (sure:Nat),.bq dirty]))))),(2,.fact (Row 72 2 A2 m d2 (M.flatMap encP)))]) (λ (i,m,_,_,M)=>cn<=i/\i<=cz/\m=M.length/\M=x.F++spots s (cn:Int) (i-cn)) (λ (i,_)=>cz-i) ((cn,x.F.length,x.A,x.c,x.F):Nat × Nat × Option Addr × Nat × List Spt) ⟨Nat.le_refl _,hcz,rfl,by rw [Nat.sub_self];exact (List.append_nil _).symm⟩ aS (λ x_ h_=>?_))
     obtain ⟨i,m,A2,d2,M⟩:=x_
     obtain ⟨hi1,hi2,hm2,hM⟩:=h_
     have hMl:M.length=x.F.length+(i-cn):=by rw [hM,List.length_append,ah]
     rcases Nat.lt_or_ge i cz with hlt | hlt
     . refine aG ?_
       refine aJ ?_ (decide_eq_true (show (↑i:Int)<(↑cz:Int) from (by omega)))
       refine ev_stop (go_draw Tryz.tbs_ok false [0,3] [(0,true),(1,true),(2,true),(3,true),(4,true),(5,true),(6,true),(7,true),(8,true),(9,false),(10,false),(11,false),(12,false),(13,false)] rfl ?_)
       refine aG (aE ?_)
       refine ev_new λ b40=>?_
       refine aE ?_
       refine ev_stop (go_appendE (sz:=2) (M:=[_]) (enc:=encP) Tryz.tbs_ok [2] [] (.inr 6) (M) ([{ s:=s,i:=(↑i:Int):Spt }]) ((M)++([{ s:=s,i:=(↑i:Int):Spt }])) (m+1) rfl rfl rfl rfl rfl rfl rfl (by decide) rfl (by decide) (λ _ p=>starH_one.1 p) rfl (λ _ p=>Pt.rd p rfl) (by first | rfl | simp) (by first | rfl | omega) (aM (m+1)) (aN (m+1)) (λ _ _=>aL) (λ A41 c42 h43=>?_))
       refine aG (aE (aE (aE (aK ?_))))
       refine wN (i+1) ?_
       refine ev_fin (round_next ((i+1,m+1,A41,c42,M++[{ s:=s,i:=(↑i:Int):Spt }])) (?_:cn<=i+1/\i+1<=cz/\m+1=(M++[{ s:=s,i:=(↑i:Int):Spt }]).length/\M++[{ s:=s,i:=(↑i:Int):Spt }]=x.F++spots s (↑cn:Int) (i+1-cn)) (show cz-(i+1)<cz-i from (by omega)) aS)
       exact ⟨by omega,by omega,by rw [List.length_append,<-hm2];rfl,af hM hi1⟩
     have hkk:cn+(i-cn)=cz:=by omega
     refine aG ?_
     refine aI ?_ (decide_eq_false (show ¬(↑i:Int)<(↑cz:Int) from (by omega)))
     refine ev_fin (go Tryz.tbs_ok 1000 ?_)
     subst hm2
     exact ev_fin ⟨trivial,_,rfl,⟨x.r0,x.r1,⟨⟨zp,zv,zL,(cz:Int)⟩,x12,x13⟩,x.r3,M,A2,d2⟩,rfl,ak 2 hM hcn hkk rfl rfl,Frm.imp (M:=[ab c ⟨x.r0,x.r1,⟨⟨zp,zv,zL,(cz:Int)⟩,x12,x13⟩,x.r3,M,A2,d2⟩ sure dirty,ac x,aj ⟨⟨zp,zv,zL,(cz:Int)⟩,x12,x13⟩,ai ⟨x.r0,x.r1,⟨⟨zp,zv,zL,(cz:Int)⟩,x12,x13⟩,x.r3,M,A2,d2⟩]) [0,1,4,2] rfl (by decide) (λ h q=>al (x:=x) (g:=⟨⟨zp,zv,zL,(cz:Int)⟩,x12,x13⟩) (j:=2) rfl q)⟩
   refine ev_stop (go_slot 8 _ (vI (cn:Int)) rfl rfl (by show SV.den (vI x.r2.r.c)=_;rw [hcn]) (λ _=>trivial) ?_)
   refine aG ?_
   refine ev_stop (go_loopR [1,8,28,40,47,48,49,50,57,62,63,64,65,66,67,68,69,70,71,72,73,74,75,76,77,78,79,80] (λ (i,_)=>[(8,vI (i:Nat))]) (λ (_,m,A2,d2,M)=>[(0,.box c 36 (svG x.r0++(svG x.r1++(svG ⟨⟨zp,zv,zL,(cz:Int)⟩,x17,x18⟩++(svG x.r3++[vL A2 m d2,vI (sure:Nat),.bq dirty]))))),(2,.fact (Row 72 2 A2 m d2 (M.flatMap encP)))]) (λ (i,m,_,_,M)=>cn<=i/\i<=cz/\m=M.length/\M=x.F++spots s (cn:Int) (i-cn)) (λ (i,_)=>cz-i) ((cn,x.F.length,x.A,x.c,x.F):Nat × Nat × Option Addr × Nat × List Spt) ⟨Nat.le_refl _,hcz,rfl,by rw [Nat.sub_self];exact (List.append_nil _).symm⟩ aS (λ x_ h_=>?_))
   obtain ⟨i,m,A2,d2,M⟩:=x_
   obtain ⟨hi1,hi2,hm2,hM⟩:=h_
   have hMl:M.length=x.F.length+(i-cn):=by rw [hM,List.length_append,ah]
   rcases Nat.lt_or_ge i cz with hlt | hlt
   . refine aG ?_
     refine aJ ?_ (decide_eq_true (show (↑i:Int)<(↑cz:Int) from (by omega)))
     refine ev_stop (go_draw Tryz.tbs_ok false [0,3] [(0,true),(1,true),(2,true),(3,true),(4,true),(5,true),(6,true),(7,true),(8,true),(9,false),(10,false),(11,false),(12,false),(13,false)] rfl ?_)
     refine aG (aE ?_)
     refine ev_new λ b40=>?_
     refine aE ?_
     refine ev_stop (go_appendE (sz:=2) (M:=[_]) (enc:=encP) Tryz.tbs_ok [2] [] (.inr 6) (M) ([{ s:=s,i:=(↑i:Int):Spt }]) ((M)++([{ s:=s,i:=(↑i:Int):Spt }])) (m+1) rfl rfl rfl rfl rfl rfl rfl (by decide) rfl (by decide) (λ _ p=>starH_one.1 p) rfl (λ _ p=>Pt.rd p rfl) (by first | rfl | simp) (by first | rfl | omega) (aM (m+1)) (aN (m+1)) (λ _ _=>aL) (λ A41 c42 h43=>?_))
     refine aG (aE (aE (aE (aK ?_))))
     refine wN (i+1) ?_
     refine ev_fin (round_next ((i+1,m+1,A41,c42,M++[{ s:=s,i:=(↑i:Int):Spt }])) (?_:cn<=i+1/\i+1<=cz/\m+1=(M++[{ s:=s,i:=(↑i:Int):Spt }]).length/\M++[{ s:=s,i:=(↑i:Int):Spt }]=x.F++spots s (↑cn:Int) (i+1-cn)) (show cz-(i+1)<cz-i from (by omega)) aS)
     exact ⟨by omega,by omega,by rw [List.length_append,<-hm2];rfl,af hM hi1⟩
   have hkk:cn+(i-cn)=cz:=by omega
   refine aG ?_
   refine aI ?_ (decide_eq_false (show ¬(↑i:Int)<(↑cz:Int) from (by omega)))
   refine ev_fin (go Tryz.tbs_ok 1000 ?_)
   subst hm2
   exact ev_fin ⟨trivial,_,rfl,⟨x.r0,x.r1,⟨⟨zp,zv,zL,(cz:Int)⟩,x17,x18⟩,x.r3,M,A2,d2⟩,rfl,ak 2 hM hcn hkk rfl rfl,Frm.imp (M:=[ab c ⟨x.r0,x.r1,⟨⟨zp,zv,zL,(cz:Int)⟩,x17,x18⟩,x.r3,M,A2,d2⟩ sure dirty,ac x,aj ⟨⟨zp,zv,zL,(cz:Int)⟩,x17,x18⟩,ai ⟨x.r0,x.r1,⟨⟨zp,zv,zL,(cz:Int)⟩,x17,x18⟩,x.r3,M,A2,d2⟩]) [0,1,5,2] rfl (by decide) (λ h q=>al (x:=x) (g:=⟨⟨zp,zv,zL,(cz:Int)⟩,x17,x18⟩) (j:=2) rfl q)⟩
 obtain rfl:x.r3=g:=Option.some.inj hg
 refine ev_new λ b10=>?_
 refine aI ?_ (beq_eq_false_iff_ne.2 (show ¬k=4 from (by omega)))
 refine aI ?_ (beq_eq_false_iff_ne.2 (show ¬k=5 from (by omega)))
 refine aI ?_ (decide_eq_false (show ¬s<0 from (by omega)))
 refine aI ?_ (decide_eq_false (show ¬s ≥ 4 from (by omega)))
 refine aC T1 [] [.inl 0] λ _ h11=>?_
 refine aI ?_
 refine ev_stop (go_draw Tryz.tbs_ok false [0,3] [(0,true),(1,true),(2,true),(3,true),(4,true),(5,true),(6,true),(7,true),(8,false)] rfl ?_)
 refine aG (aE ?_)
 refine ev_stop (go_slot 34 _ (.va (.int IntKind.i64 ((3:Nat):Int))) rfl rfl (congrArg (λ z=>Value.int IntKind.i64 z) (show s=((3:Nat):Int) by first | omega | (simp only [List.getElem_set_self];omega))) (λ _=>trivial) ?_)
 refine aG (aE ?_)
 refine ev_stop (tk_indexArr Tryz.tbs_ok (3) aB rfl rfl rfl rfl rfl rfl rfl (by first | decide | omega) rfl rfl ?_)
 refine aG (aE (aK ?_))
 refine ev_stop (go_draw Tryz.tbs_ok false [0,3] [(0,true),(1,true),(2,true),(3,true),(4,true),(5,true),(6,true),(7,true),(99,false),(0,true),(0,true),(0,true),(0,true),(0,true),(0,true)] rfl ?_)
 refine aG (aE ?_)
 refine ev_stop (go_slot 43 _ (.va (.int IntKind.i64 ((3:Nat):Int))) rfl rfl (congrArg (λ z=>Value.int IntKind.i64 z) (show s=((3:Nat):Int) by first | omega | (simp only [List.getElem_set_self];omega))) (λ _=>trivial) ?_)
 refine aG (aE ?_)
 refine ev_stop (tk_indexArr Tryz.tbs_ok (3) aB rfl rfl rfl rfl rfl rfl rfl (by first | decide | omega) rfl rfl ?_)
 refine aG (aE ?_)
 refine ev_stop (go_fork 8 12 [(9,true),(10,true),(11,true),(12,false),(13,false),(14,false)] [(8,false),(9,false),(10,true),(11,true),(13,false),(14,false)] _ _ ⟨aL,rfl⟩ (by kernel_rfl) rfl rfl rfl rfl ?_ ?_)
 refine aG ?_
 refine aC T3 [] [.inr 1,.inl 0] λ ⟨x12,x13⟩ h14=>?_
 refine aE ?_
 refine ev_new λ b15=>?_
 refine aE (aE (aK (aI ?_)))
 refine ev_stop (go_draw Tryz.tbs_ok false [3,5] [(0,true),(1,true),(2,true),(3,true),(4,true),(5,true),(6,true),(7,false)] rfl ?_)
 refine aG (aE ?_)
 refine ev_stop (go_slot 56 _ (.va (.int IntKind.i64 ((3:Nat):Int))) rfl rfl (congrArg (λ z=>Value.int IntKind.i64 z) (show s=((3:Nat):Int) by first | omega | (simp only [List.getElem_set_self];omega))) (λ _=>trivial) ?_)
 refine aG (aE ?_)
 refine ev_stop (tk_indexArr Tryz.tbs_ok (3) aB rfl rfl rfl rfl rfl rfl rfl (by first | decide | omega) rfl rfl ?_)
 refine aG (aE (aK ?_))
 rotate_left
 refine aG ?_
 refine ev_new λ b16=>?_
 refine aE ?_
 refine aC T3 [] [.inr 1,.inl 0] λ ⟨x17,x18⟩ h19=>?_
 refine aE (aE (aE (aK (aI ?_))))
 refine ev_stop (go_draw Tryz.tbs_ok false [3,4] [(0,true),(1,true),(2,true),(3,true),(4,true),(5,true),(6,true),(7,false)] rfl ?_)
 refine aG (aE ?_)
 refine ev_stop (go_slot 56 _ (.va (.int IntKind.i64 ((3:Nat):Int))) rfl rfl (congrArg (λ z=>Value.int IntKind.i64 z) (show s=((3:Nat):Int) by first | omega | (simp only [List.getElem_set_self];omega))) (λ _=>trivial) ?_)
 refine aG (aE ?_)
 refine ev_stop (tk_indexArr Tryz.tbs_ok (3) aB rfl rfl rfl rfl rfl rfl rfl (by first | decide | omega) rfl rfl ?_)
 refine aG (aE (aK ?_))
 rotate_left
 . refine ev_stop (go_slot 8 _ (vI (cn:Int)) rfl rfl (by show SV.den (vI x.r3.r.c)=_;rw [hcn]) (λ _=>trivial) ?_)
   refine aG ?_
   refine ev_stop (go_loopR [1,8,28,40,47,48,49,50,57,62,63,64,65,66,67,68,69,70,71,72,73,74,75,76,77,78,79,80] (λ (i,_)=>[(8,vI (i:Nat))]) (λ (_,m,A2,d2,M)=>[(0,.box c 36 (svG x.r0++(svG x.r1++(svG x.r2++(svG ⟨⟨zp,zv,zL,(cz:Int)⟩,x12,x13⟩++[vL A2 m d2,vI (sure:Nat),.bq dirty]))))),(2,.fact (Row 72 2 A2 m d2 (M.flatMap encP)))]) (λ (i,m,_,_,M)=>cn<=i/\i<=cz/\m=M.length/\M=x.F++spots s (cn:Int) (i-cn)) (λ (i,_)=>cz-i) ((cn,x.F.length,x.A,x.c,x.F):Nat × Nat × Option Addr × Nat × List Spt) ⟨Nat.le_refl _,hcz,rfl,by rw [Nat.sub_self];exact (List.append_nil _).symm⟩ aS (λ x_ h_=>?_))
   obtain ⟨i,m,A2,d2,M⟩:=x_
   obtain ⟨hi1,hi2,hm2,hM⟩:=h_
   have hMl:M.length=x.F.length+(i-cn):=by rw [hM,List.length_append,ah]
   rcases Nat.lt_or_ge i cz with hlt | hlt
   . refine aG ?_
     refine aJ ?_ (decide_eq_true (show (↑i:Int)<(↑cz:Int) from (by omega)))
     refine ev_stop (go_draw Tryz.tbs_ok false [0,3] [(0,true),(1,true),(2,true),(3,true),(4,true),(5,true),(6,true),(7,true),(8,true),(9,false),(10,false),(11,false),(12,false),(13,false)] rfl ?_)
     refine aG (aE ?_)
     refine ev_new λ b40=>?_
     refine aE ?_
     refine ev_stop (go_appendE (sz:=2) (M:=[_]) (enc:=encP) Tryz.tbs_ok [2] [] (.inr 6) (M) ([{ s:=s,i:=(↑i:Int):Spt }]) ((M)++([{ s:=s,i:=(↑i:Int):Spt }])) (m+1) rfl rfl rfl rfl rfl rfl rfl (by decide) rfl (by decide) (λ _ p=>starH_one.1 p) rfl (λ _ p=>Pt.rd p rfl) (by first | rfl | simp) (by first | rfl | omega) (aM (m+1)) (aN (m+1)) (λ _ _=>aL) (λ A41 c42 h43=>?_))
     refine aG (aE (aE (aE (aK ?_))))
     refine wN (i+1) ?_
     refine ev_fin (round_next ((i+1,m+1,A41,c42,M++[{ s:=s,i:=(↑i:Int):Spt }])) (?_:cn<=i+1/\i+1<=cz/\m+1=(M++[{ s:=s,i:=(↑i:Int):Spt }]).length/\M++[{ s:=s,i:=(↑i:Int):Spt }]=x.F++spots s (↑cn:Int) (i+1-cn)) (show cz-(i+1)<cz-i from (by omega)) aS)
     exact ⟨by omega,by omega,by rw [List.length_append,<-hm2];rfl,af hM hi1⟩
   have hkk:cn+(i-cn)=cz:=by omega
   refine aG ?_
   refine aI ?_ (decide_eq_false (show ¬(↑i:Int)<(↑cz:Int) from (by omega)))
   refine ev_fin (go Tryz.tbs_ok 1000 ?_)
   subst hm2
   exact ev_fin ⟨trivial,_,rfl,⟨x.r0,x.r1,x.r2,⟨⟨zp,zv,zL,(cz:Int)⟩,x12,x13⟩,M,A2,d2⟩,rfl,ak 3 hM hcn hkk rfl rfl,Frm.imp (M:=[ab c ⟨x.r0,x.r1,x.r2,⟨⟨zp,zv,zL,(cz:Int)⟩,x12,x13⟩,M,A2,d2⟩ sure dirty,ac x,aj ⟨⟨zp,zv,zL,(cz:Int)⟩,x12,x13⟩,ai ⟨x.r0,x.r1,x.r2,⟨⟨zp,zv,zL,(cz:Int)⟩,x12,x13⟩,M,A2,d2⟩]) [0,1,4,2] rfl (by decide) (λ h q=>al (x:=x) (g:=⟨⟨zp,zv,zL,(cz:Int)⟩,x12,x13⟩) (j:=3) rfl q)⟩
 refine ev_stop (go_slot 8 _ (vI (cn:Int)) rfl rfl (by show SV.den (vI x.r3.r.c)=_;rw [hcn]) (λ _=>trivial) ?_)
 refine aG ?_
 refine ev_stop (go_loopR [1,8,28,40,47,48,49,50,57,62,63,64,65,66,67,68,69,70,71,72,73,74,75,76,77,78,79,80] (λ (i,_)=>[(8,vI (i:Nat))]) (λ (_,m,A2,d2,M)=>[(0,.box c 36 (svG x.r0++(svG x.r1++(svG x.r2++(svG ⟨⟨zp,zv,zL,(cz:Int)⟩,x17,x18⟩++[vL A2 m d2,vI (sure:Nat),.bq dirty]))))),(2,.fact (Row 72 2 A2 m d2 (M.flatMap encP)))]) (λ (i,m,_,_,M)=>cn<=i/\i<=cz/\m=M.length/\M=x.F++spots s (cn:Int) (i-cn)) (λ (i,_)=>cz-i) ((cn,x.F.length,x.A,x.c,x.F):Nat × Nat × Option Addr × Nat × List Spt) ⟨Nat.le_refl _,hcz,rfl,by rw [Nat.sub_self];exact (List.append_nil _).symm⟩ aS (λ x_ h_=>?_))
 obtain ⟨i,m,A2,d2,M⟩:=x_
 obtain ⟨hi1,hi2,hm2,hM⟩:=h_
 have hMl:M.length=x.F.length+(i-cn):=by rw [hM,List.length_append,ah]
 rcases Nat.lt_or_ge i cz with hlt | hlt
 . refine aG ?_
   refine aJ ?_ (decide_eq_true (show (↑i:Int)<(↑cz:Int) from (by omega)))
   refine ev_stop (go_draw Tryz.tbs_ok false [0,3] [(0,true),(1,true),(2,true),(3,true),(4,true),(5,true),(6,true),(7,true),(8,true),(9,false),(10,false),(11,false),(12,false),(13,false)] rfl ?_)
   refine aG (aE ?_)
   refine ev_new λ b40=>?_
   refine aE ?_
   refine ev_stop (go_appendE (sz:=2) (M:=[_]) (enc:=encP) Tryz.tbs_ok [2] [] (.inr 6) (M) ([{ s:=s,i:=(↑i:Int):Spt }]) ((M)++([{ s:=s,i:=(↑i:Int):Spt }])) (m+1) rfl rfl rfl rfl rfl rfl rfl (by decide) rfl (by decide) (λ _ p=>starH_one.1 p) rfl (λ _ p=>Pt.rd p rfl) (by first | rfl | simp) (by first | rfl | omega) (aM (m+1)) (aN (m+1)) (λ _ _=>aL) (λ A41 c42 h43=>?_))
   refine aG (aE (aE (aE (aK ?_))))
   refine wN (i+1) ?_
   refine ev_fin (round_next ((i+1,m+1,A41,c42,M++[{ s:=s,i:=(↑i:Int):Spt }])) (?_:cn<=i+1/\i+1<=cz/\m+1=(M++[{ s:=s,i:=(↑i:Int):Spt }]).length/\M++[{ s:=s,i:=(↑i:Int):Spt }]=x.F++spots s (↑cn:Int) (i+1-cn)) (show cz-(i+1)<cz-i from (by omega)) aS)
   exact ⟨by omega,by omega,by rw [List.length_append,<-hm2];rfl,af hM hi1⟩
 have hkk:cn+(i-cn)=cz:=by omega
 refine aG ?_
 refine aI ?_ (decide_eq_false (show ¬(↑i:Int)<(↑cz:Int) from (by omega)))
 refine ev_fin (go Tryz.tbs_ok 1000 ?_)
 subst hm2
 exact ev_fin ⟨trivial,_,rfl,⟨x.r0,x.r1,x.r2,⟨⟨zp,zv,zL,(cz:Int)⟩,x17,x18⟩,M,A2,d2⟩,rfl,ak 3 hM hcn hkk rfl rfl,Frm.imp (M:=[ab c ⟨x.r0,x.r1,x.r2,⟨⟨zp,zv,zL,(cz:Int)⟩,x17,x18⟩,M,A2,d2⟩ sure dirty,ac x,aj ⟨⟨zp,zv,zL,(cz:Int)⟩,x17,x18⟩,ai ⟨x.r0,x.r1,x.r2,⟨⟨zp,zv,zL,(cz:Int)⟩,x17,x18⟩,M,A2,d2⟩]) [0,1,5,2] rfl (by decide) (λ h q=>al (x:=x) (g:=⟨⟨zp,zv,zL,(cz:Int)⟩,x17,x18⟩) (j:=3) rfl q)⟩
theorem bU {P:Asn} {x:StaS} {h:Hp} (q:Asn.starH [P,ac x,ai x] h):Asn.starH [P,x.rd] h:=by
 obtain ⟨h1,h2,d,a,b,p,h3,h4,_,a3,a4,p3,p4⟩:=q
 have p5:(ai x).holds h2:=Asn.mono _ a4 (starH_one.1 p4)
 refine ⟨h1,h2,d,a,b,p,starH_one.2 ⟨λ y hy=>y.own.mono a3 (p3 y hy),Row.rd p5,Row.cap p5,λ e=>?_⟩⟩
 rcases p5.2.2 with ⟨_,_,h0⟩ | ⟨_,_,h0,_⟩
 . exact h0
 rw [e] at h0
 cases h0
theorem cG {x:StaS} {y:Rec} (hx:okS x.abs) (h4:y.k≠4) (h5:y.k≠5) (hm:mayR y=true):∃ (j:Nat) (g:RegS),j<4/\y.s=(j:Int)/\x.regs[j]? = some g/\okR g.r=true/\(y.k=1\/y.k=2\/y.k=3)/\stepS x.abs y=(match applyR g.r y with | none=>none | some z=>some ⟨x.abs.R.set j z,x.F++spots y.s g.r.c (z.c-g.r.c).toNat⟩):=by
 have hs:=small_of_may hm
 have hk:=hs.k
 have h04:=hs.s
 have hj:y.s.toNat<x.regs.length:=by show _<4;omega
 refine ⟨y.s.toNat,x.regs[y.s.toNat],by omega,by omega,List.getElem?_eq_getElem hj,hx.regs _ (by rw [abs_R];exact List.mem_map_of_mem (List.getElem_mem hj)),by omega,?_⟩
 have hat:x.abs.at y.s=x.regs[y.s.toNat].r:=by
  unfold Sta.at
  rw [abs_R,List.getElem?_map,List.getElem?_eq_getElem hj]
  rfl
 unfold stepS applyS
 rw [if_neg (by rw [hm];simp [h4,h5]),if_neg h5,if_pos h04,hat]
 cases ha:applyR x.regs[y.s.toNat].r y with
 | none=>rfl
 |
  some z =>
  obtain ⟨_,g2⟩:=bz h4 ha
  simp only [Option.some.injEq,Sta.mk.injEq,true_and]
  by_cases h3:y.k=3
  . rw [if_pos h3]
    rfl
  rw [if_neg h3,g2 h3,Int.sub_self]
  show x.F=x.F++[]
  rw [List.append_nil]
set_option maxHeartbeats 8000000 in
theorem bR (r:Nat) (x:StaS) (sure:Nat) (dirty:Bool) (C:Option Addr) (L:List RecS) (n c:Nat) (hn:n=L.length) (hn1:n<=1000) (hL:∀ y∈L,y.r.L.length<=2000/\y.r.F.length<=100000) (hx:okS x.abs) (e:Int) (he:e=if writeS x.abs (recsR L)=none then 2 else 0) (b:Bool) (hb:b=(decide (e=0)&&decide (n≠0))) :
 Triple Tryz.prog 13 [pP r,.slice C n c] [ab r x sure dirty,x.rd] [Rd 8 C n (L.flatMap encR),RecsRd L] StaS (λ _=>.int .i64 e) (λ X=>if e=0 then writeS x.abs (recsR L)=some X.abs else X=x) (λ X=>[ab r X sure (b || dirty),X.rd]):=by
 have TC:=(bQ r x sure dirty hx)
 unfold ab aq svG at TC
 simp only [SV.denL,SV.den,List.cons_append,List.nil_append] at TC
 refine triple_intro Tryz.tbs_ok Tryz.func13 rfl [.pt 0 r 0,vL C n c] [.box r 36 (aq x sure dirty),.fact x.rd] ⟨rfl,trivial,trivial⟩ rfl (by simp [aq,svG,SV.good,SV.goodL]) ?_
 intro E
 refine aG ?_
 refine aD TC [0] [.inr 1] (λ (v0_,v1_)=>[.box (r) 36 [vI x.r0.r.p,vI x.r0.r.v,vL x.r0.A x.r0.r.L.length x.r0.a,vI x.r0.r.c,vI x.r1.r.p,vI x.r1.r.v,vL x.r1.A x.r1.r.L.length x.r1.a,vI x.r1.r.c,vI x.r2.r.p,vI x.r2.r.v,vL x.r2.A x.r2.r.L.length x.r2.a,vI x.r2.r.c,vI x.r3.r.p,vI x.r3.r.v,vL x.r3.A x.r3.r.L.length x.r3.a,vI x.r3.r.c,vL x.A x.F.length x.c,vI ↑sure,.bq (dirty)],.box (v0_) 36 [vI v1_.r0.r.p,vI v1_.r0.r.v,vL v1_.r0.A v1_.r0.r.L.length v1_.r0.a,vI v1_.r0.r.c,vI v1_.r1.r.p,vI v1_.r1.r.v,vL v1_.r1.A v1_.r1.r.L.length v1_.r1.a,vI v1_.r1.r.c,vI v1_.r2.r.p,vI v1_.r2.r.v,vL v1_.r2.A v1_.r2.r.L.length v1_.r2.a,vI v1_.r2.r.c,vI v1_.r3.r.p,vI v1_.r3.r.v,vL v1_.r3.A v1_.r3.r.L.length v1_.r3.a,vI v1_.r3.r.c,vL v1_.A v1_.F.length v1_.c,vI ↑sure,.bq (dirty)],.fact (ac v1_),.fact (ai v1_)]) λ ⟨x10,x11⟩ h12=>?_
 have hA:x11.abs=x.abs := ‹_›
 refine ev_stop (go_slotB 5 _ (.pt 2 x10 0) rfl rfl rfl rfl ?_)
 refine aG ?_
 refine ev_stop (go_loopR [4,6,9,10,11,12,13,14,15,16,17,18,19,20,21] (λ (i,_)=>[(6,vI (i:Nat))]) (λ (_,X)=>[(2,.box x10 36 (aq X sure dirty)),(3,.fact (ac X)),(4,.fact (ai X))]) (λ (i,X)=>i<=n/\writeS x.abs (recsR (L.take i))=some X.abs) (λ (i,_)=>n-i) ((0,x11):Nat × StaS) ⟨Nat.zero_le _,by rw [List.take_zero,hA];rfl⟩ aS (λ x_ h_=>?_))
 obtain ⟨i,X⟩:=x_
 obtain ⟨hi,hX⟩:=h_
 have hok:okS X.abs:=(writeS_some hX hx).1
 rcases Nat.lt_or_ge i n with him | him
 . have hil:i<L.length:=by omega
   have hm:=List.getElem_mem hil
   have hlim:=hL L[i] hm
   have hre:∀ Z∈[L[i].rdL],∃ A∈[RecsRd L],∀ h,A.holds h->Z.holds h:=λ Z hZ=>by
    rw [List.mem_singleton.1 hZ]
    exact ⟨_,List.mem_cons_self,λ _ q=>(q L[i] hm).1⟩
   have hrg:∀ Z∈[ac X,L[i].rdL],∃ A∈[ac X,RecsRd L],∀ h,A.holds h->Z.holds h:=λ Z hZ=>by
    simp only [List.mem_cons,List.not_mem_nil,or_false] at hZ
    rcases hZ with rfl | rfl
    . exact ⟨_,List.mem_cons_self,λ _ q=>q⟩
    exact ⟨_,List.mem_cons_of_mem _ List.mem_cons_self,λ _ q=>(q L[i] hm).1⟩
   have hcut:recsR L=recsR (L.take i)++L[i].r::recsR (L.drop (i+1)):=by
    unfold recsR
    rw [<-List.map_cons,<-List.drop_eq_getElem_cons hil,<-List.map_append,List.take_append_drop]
   have hnone:stepS X.abs L[i].r=none->e=2/\b=false:=λ q=>by
    have hno:=writeS_stop (m:=recsR (L.drop (i+1))) hX q
    rw [<-hcut] at hno
    have:e=2:=by rw [he,if_pos hno]
    exact ⟨this,by rw [hb,this];rfl⟩
   by_cases hbad:L[i].r.k=4\/L[i].r.k=5\/¬ (0<=L[i].r.s/\L[i].r.s<4)\/mayR L[i].r=false
   . obtain ⟨rfl,rfl⟩:=hnone (by
      unfold stepS
      rcases hbad with q | q | q | q
      . rw [if_pos (.inl q)]
      . rw [if_pos (.inr (.inl q))]
      . by_cases hz:L[i].r.k=4\/L[i].r.k=5\/mayR L[i].r=false
        . rw [if_pos hz]
        rw [if_neg hz]
        unfold applyS
        rw [if_neg (λ q5=>hz (.inr (.inl q5))),if_neg q]
      rw [if_pos (.inr (.inr q))])
     have T:=(cE x10 X sure dirty L[i] (by omega) hbad).reads hre
     unfold ab aq svG at T
     simp only [SV.denL,SV.den,List.cons_append,List.nil_append] at T
     refine aG ?_
     refine aJ ?_ (decide_eq_true (show (↑i:Int)<(↑n:Int) from (by omega)))
     refine ev_stop (go_indexE (sz:=8) Tryz.tbs_ok (.inl 0) (i) rfl rfl rfl rfl rfl rfl (by omega) rfl (λ _ h=>h) (λ g30 o32 e31=>?_))
     subst e31
     refine aG ?_
     have l33:i<(L).length:=(by omega)
     refine ev_stop (go_loadE Tryz.tbs_ok (.inl 0) (i) 0 rfl rfl rfl rfl (λ _ h=>h) (by omega) (λ _=>rfl) (by omega) l33 (by decide) ?_)
     refine aG ?_
     refine aD T [2] [.inl 1] (λ v0_=>[.box (x10) 36 [vI X.r0.r.p,vI X.r0.r.v,vL X.r0.A X.r0.r.L.length X.r0.a,vI X.r0.r.c,vI X.r1.r.p,vI X.r1.r.v,vL X.r1.A X.r1.r.L.length X.r1.a,vI X.r1.r.c,vI X.r2.r.p,vI X.r2.r.v,vL X.r2.A X.r2.r.L.length X.r2.a,vI X.r2.r.c,vI X.r3.r.p,vI X.r3.r.v,vL X.r3.A X.r3.r.L.length X.r3.a,vI X.r3.r.c,vL X.A X.F.length X.c,vI ↑sure,.bq (dirty)]]) λ _ h34=>?_
     refine aJ ?_
     exact ev_fin ⟨trivial,_,rfl,(x),rfl,by trivial,aF [0,1]⟩
     all_goals skip
   simp only [not_or,Classical.not_not] at hbad
   obtain ⟨b4,b5,bs,bm⟩:=hbad
   obtain ⟨j,g,hj,hs,hg,hgo,hk,hst⟩:=cG hok b4 b5 (by simpa using bm)
   cases ha:applyR g.r L[i].r with
   |
    none =>
    rw [ha] at hst
    obtain ⟨rfl,rfl⟩:=hnone hst
    have T:=(cY x10 X sure dirty L[i] hk (by simpa using bm) hlim.1 j hj hs g hg hgo ha).reads hrg
    unfold ab aq svG at T
    simp only [SV.denL,SV.den,List.cons_append,List.nil_append] at T
    refine aG ?_
    refine aJ ?_ (decide_eq_true (show (↑i:Int)<(↑n:Int) from (by omega)))
    refine ev_stop (go_indexE (sz:=8) Tryz.tbs_ok (.inl 0) (i) rfl rfl rfl rfl rfl rfl (by omega) rfl (λ _ h=>h) (λ g30 o32 e31=>?_))
    subst e31
    refine aG ?_
    have l33:i<(L).length:=(by omega)
    refine ev_stop (go_loadE Tryz.tbs_ok (.inl 0) (i) 0 rfl rfl rfl rfl (λ _ h=>h) (by omega) (λ _=>rfl) (by omega) l33 (by decide) ?_)
    refine aG ?_
    refine aD T [2] [.inr 3,.inl 1] (λ v0_=>[.box (x10) 36 [vI X.r0.r.p,vI X.r0.r.v,vL X.r0.A X.r0.r.L.length X.r0.a,vI X.r0.r.c,vI X.r1.r.p,vI X.r1.r.v,vL X.r1.A X.r1.r.L.length X.r1.a,vI X.r1.r.c,vI X.r2.r.p,vI X.r2.r.v,vL X.r2.A X.r2.r.L.length X.r2.a,vI X.r2.r.c,vI X.r3.r.p,vI X.r3.r.v,vL X.r3.A X.r3.r.L.length X.r3.a,vI X.r3.r.c,vL X.A X.F.length X.c,vI ↑sure,.bq (dirty)]]) λ _ h34=>?_
    refine aJ ?_
    exact ev_fin ⟨trivial,_,rfl,(x),rfl,by trivial,aF [0,1]⟩
    all_goals skip
   |
    some z =>
    rw [ha] at hst
    have T:=(cI x10 X sure dirty L[i] hk (by simpa using bm) hlim.1 j hj hs g hg hgo (Nat.le_trans (feed_small hok).1 (by decide)) z ha).reads hre
    unfold ab aq svG at T
    simp only [SV.denL,SV.den,List.cons_append,List.nil_append] at T
    refine aG ?_
    refine aJ ?_ (decide_eq_true (show (↑i:Int)<(↑n:Int) from (by omega)))
    refine ev_stop (go_indexE (sz:=8) Tryz.tbs_ok (.inl 0) (i) rfl rfl rfl rfl rfl rfl (by omega) rfl (λ _ h=>h) (λ g30 o32 e31=>?_))
    subst e31
    refine aG ?_
    have l33:i<(L).length:=(by omega)
    refine ev_stop (go_loadE Tryz.tbs_ok (.inl 0) (i) 0 rfl rfl rfl rfl (λ _ h=>h) (by omega) (λ _=>rfl) (by omega) l33 (by decide) ?_)
    refine aG ?_
    refine aD T [2,3,4] [.inl 1] (λ v0_=>[.box (x10) 36 [vI v0_.r0.r.p,vI v0_.r0.r.v,vL v0_.r0.A v0_.r0.r.L.length v0_.r0.a,vI v0_.r0.r.c,vI v0_.r1.r.p,vI v0_.r1.r.v,vL v0_.r1.A v0_.r1.r.L.length v0_.r1.a,vI v0_.r1.r.c,vI v0_.r2.r.p,vI v0_.r2.r.v,vL v0_.r2.A v0_.r2.r.L.length v0_.r2.a,vI v0_.r2.r.c,vI v0_.r3.r.p,vI v0_.r3.r.v,vL v0_.r3.A v0_.r3.r.L.length v0_.r3.a,vI v0_.r3.r.c,vL v0_.A v0_.F.length v0_.c,vI ↑sure,.bq (dirty)],.fact (ac v0_),.fact (ai v0_)]) λ x34 h35=>?_
    refine aI ?_
    refine wN (i+1) ?_
    refine ev_fin (round_next ((i+1,x34)) (?_:i+1<=n/\writeS x.abs (recsR (List.take (i+1) L))=some x34.abs) (show n-(i+1)<n-i from (by omega)) aS)
    have ht:recsR (L.take (i+1))=recsR (L.take i)++[L[i].r]:=by unfold recsR;rw [<-List.take_append_getElem hil,List.map_append];rfl
    exact ⟨by omega,by rw [ht];exact writeS_snoc hX (by rw [hst];exact congrArg some (Eq.symm ‹x34.abs=_›))⟩
 obtain rfl:i=n:=by omega
 rw [show L.take i=L by rw [hn];exact List.take_length] at hX
 obtain rfl:e=0:=by rw [he,hX,if_neg (by simp)]
 rcases Nat.eq_zero_or_pos i with h0 | h0
 . obtain rfl:b=false:=by rw [hb];simp [h0]
   obtain rfl:L=[]:=List.eq_nil_of_length_eq_zero (by omega)
   refine aG ?_
   refine aI ?_ (decide_eq_false (show ¬(↑i:Int)<(↑i:Int) from (by omega)))
   refine ev_fin (go Tryz.tbs_ok 1000 ?_)
   refine aI ?_ (decide_eq_false (show ¬(↑i:Int) > 0 from (by omega)))
   exact ev_fin ⟨trivial,_,rfl,(x),rfl,by trivial,aF [0,1]⟩
   all_goals skip
 obtain rfl:b=true:=by rw [hb];simp;omega
 refine aG ?_
 refine aI ?_ (decide_eq_false (show ¬(↑i:Int)<(↑i:Int) from (by omega)))
 refine ev_fin (go Tryz.tbs_ok 1000 ?_)
 refine aJ ?_ (decide_eq_true (show (↑i:Int) > 0 from (by omega)))
 exact ev_fin ⟨trivial,_,rfl,X,rfl,by show (if (0:Int)=0 then _ else _);rw [if_pos rfl];exact hX,Frm.imp (M:=[ab r X sure true,ac X,ai X]) [0,3,4] rfl (by decide) (λ h q=>bU q)⟩
theorem bZ (C D:Option Addr) (L M:List Spt) (m n d e:Nat) (hm:m=L.length) (hn:n=M.length) (h1:m<=1000000) :
 Triple Tryz.prog 40 [.slice C m d,.slice D n e] [] [Rd 2 C m (L.flatMap encP),Rd 2 D n (M.flatMap encP)] Unit (λ _=>.bool (decide (L=M))) (λ _=>True) (λ _=>[]):=by
 refine aT Tryz.func40 [vL C m d,vL D n e] [] (λ E=>?_) ⟨trivial,trivial,trivial⟩
 refine aG ?_
 refine ev_if_ne (λ h0=>?_) (λ h0=>?_)
 refine aG ?_
 refine ev_fin ⟨trivial,_,rfl,(()),?_,(by trivial),Frm.nil _⟩
 rotate_left
 refine aG ?_
 rotate_left
 . have:m≠n:=by omega
   rw [decide_eq_false (λ e=>this (by rw [hm,hn,e]))]
   rfl
 have hmn:m=n:=by omega
 refine ev_stop (go_loopR [4,5,11,12,13,14,15,16,17,18,19,20,21,22,23,24,25] (λ i=>[(5,vI (i:Nat))]) (λ _=>[]) (λ i=>i<=m/\L.take i=M.take i) (λ i=>m-i) (0:Nat) ⟨Nat.zero_le _,rfl⟩ aS (λ i h_=>?_))
 obtain ⟨hi,hE⟩:=h_
 rcases Nat.lt_or_ge i m with him | him
 . have hil:i<L.length:=by omega
   have hin:i<M.length:=by omega
   refine aG ?_
   refine aJ ?_ (decide_eq_true (show (↑i:Int)<(↑m:Int) from (by omega)))
   refine ev_stop (go_draw Tryz.tbs_ok true [] [(0,true),(1,true),(2,true),(3,true),(4,true),(5,true),(6,true),(7,true),(8,true)] rfl ?_)
   refine aG (aE ?_)
   refine ev_stop (tk_indexE (sz:=2) Tryz.tbs_ok (.inl 0) (i) aB rfl rfl rfl rfl rfl rfl rfl (by omega) rfl (λ _ h=>h) (λ g10 o12 e11=>?_))
   subst e11
   refine aG (aE ?_)
   have l13:i<(L).length:=(by omega)
   refine ev_stop (tk_loadE Tryz.tbs_ok (.inl 0) (i) 0 aB rfl rfl rfl rfl rfl (λ _ h=>h) (by omega) (λ _=>rfl) (by omega) l13 (by decide) ?_)
   refine aG (aE ?_)
   refine ev_stop (tk_indexE (sz:=2) Tryz.tbs_ok (.inl 1) (i) aB rfl rfl rfl rfl rfl rfl rfl (by omega) rfl (λ _ h=>h) (λ g14 o16 e15=>?_))
   subst e15
   refine aG (aE ?_)
   have l17:i<(M).length:=(by omega)
   refine ev_stop (tk_loadE Tryz.tbs_ok (.inl 1) (i) 0 aB rfl rfl rfl rfl rfl (λ _ h=>h) (by omega) (λ _=>rfl) (by omega) l17 (by decide) ?_)
   refine aG (aE ?_)
   refine ev_stop (tk_val (o:=_) ⟨⟨trivial,rfl⟩,by kernel_rfl⟩ rfl rfl (.bq (!(decide (L[i]=M[i])))) trivial (λ a w hF _=>neq_run (ev_denv hF rfl rfl) (ev_denv hF rfl rfl) (by kernel_rfl) (eq_spt L[i] M[i] 9998 w)) ?_)
   refine aG (aE ?_)
   refine ev_if_nd (λ h30=>?_) (λ h30=>?_)
   refine aG ?_
   refine ev_fin ⟨trivial,_,rfl,(()),?_,(by trivial),Frm.nil _⟩
   rotate_left
   refine aG ?_
   refine wN (i+1) ?_
   refine ev_fin (round_next (i+1) (?_:i+1<=m/\List.take (i+1) L=List.take (i+1) M) (show m-(i+1)<m-i from (by omega)) aS)
   rotate_left
   . rw [decide_eq_false (λ e=>h30 (by subst e;rfl))]
     rfl
   have he:L[i]=M[i]:=by simpa using ‹_›
   exact ⟨by omega,by rw [<-List.take_append_getElem hil,<-List.take_append_getElem hin,hE,he]⟩
 have hir:i=m:=by omega
 rw [List.take_of_length_le (by omega),List.take_of_length_le (by omega)] at hE
 rw [decide_eq_true hE]
 refine aG ?_
 refine aI ?_ (decide_eq_false (show ¬(↑i:Int)<(↑m:Int) from (by omega)))
 refine ev_fin (go Tryz.tbs_ok 1000 ?_)
 refine ev_fin ⟨trivial,_,rfl,(()),rfl,(by trivial),Frm.nil _⟩
theorem aO (g y:RegS) (Y:StaS) (hy:y∈Y.regs) (hl:g.r.L.length<=1000000) (A:Option Addr) (a:Nat):Triple Tryz.prog 27 [.agg (encG ⟨g.r,A,a⟩).toArray,.agg (encG y).toArray] [] [Row 101 6 A g.r.L.length a (g.r.L.flatMap encE),Y.rd] Unit (λ _=>.bool (decide (g.r=y.r))) (λ _=>True) (λ _=>[]) :=
 (sameRegT ⟨g.r,A,a⟩ y hl).reads (λ X hX=>by
  simp only [List.mem_cons,List.not_mem_nil,or_false] at hX
  rcases hX with rfl | rfl
  . exact ⟨_,List.mem_cons_self,λ _ q=>Row.rd q⟩
  exact ⟨_,List.mem_cons_of_mem _ List.mem_cons_self,λ _ q=>(q.1 y hy).1⟩)
set_option maxHeartbeats 4000000 in
theorem cU (p w r:Nat) (x Y:StaS) (sure s2:Nat) (dirty d2:Bool) (hx:okS x.abs):Triple Tryz.prog 24 [pP p,pP r] [StoP p w x sure dirty,ab r Y s2 d2] [x.rd,Y.rd] Unit (λ _=>.bool (decide (x.abs.R=Y.abs.R))) (λ _=>True) (λ _=>[StoP p w x sure dirty,ab r Y s2 d2]):=by
 have TR:=λ (j:Nat) (g:RegS) hj hg=>regGood p w x sure dirty j g hj hg (bi hx hg)
 have TR0:=TR 0 x.r0 (by decide) rfl
 have TR1:=TR 1 x.r1 (by decide) rfl
 have TR2:=TR 2 x.r2 (by decide) rfl
 have TR3:=TR 3 x.r3 (by decide) rfl
 have hl:=λ (j:Nat) (g:RegS) (hg:x.regs[j]? = some g)=>Nat.le_trans (bi hx hg) (show 1000<=1000000 by decide)
 have TQ0:=λ A a=>aO x.r0 Y.r0 Y (by simp [StaS.regs]) (hl 0 x.r0 rfl) A a
 have TQ1:=λ A a=>aO x.r1 Y.r1 Y (by simp [StaS.regs]) (hl 1 x.r1 rfl) A a
 have TQ2:=λ A a=>aO x.r2 Y.r2 Y (by simp [StaS.regs]) (hl 2 x.r2 rfl) A a
 have TQ3:=λ A a=>aO x.r3 Y.r3 Y (by simp [StaS.regs]) (hl 3 x.r3 rfl) A a
 obtain ⟨b0,h0⟩:∃ b,b=decide (x.r0.r=Y.r0.r):=⟨_,rfl⟩
 obtain ⟨b1,h1⟩:∃ b,b=decide (x.r1.r=Y.r1.r):=⟨_,rfl⟩
 obtain ⟨b2,h2⟩:∃ b,b=decide (x.r2.r=Y.r2.r):=⟨_,rfl⟩
 obtain ⟨b3,h3⟩:∃ b,b=decide (x.r3.r=Y.r3.r):=⟨_,rfl⟩
 obtain ⟨R,hR⟩:∃ R,R=decide (x.abs.R=Y.abs.R):=⟨_,rfl⟩
 have hR2:R=(b0&&(b1&&(b2&&b3))):=by
  rw [hR,h0,h1,h2,h3]
  unfold StaS.abs
  simp only [List.cons.injEq,and_true,Bool.decide_and]
 rw [<-h0] at TQ0
 rw [<-h1] at TQ1
 rw [<-h2] at TQ2
 rw [<-h3] at TQ3
 rw [<-hR]
 clear h0 h1 h2 h3 hR TR
 refine triple_intro Tryz.tbs_ok Tryz.func24 rfl [vP p,.pt 1 r 0] [.fact (StoP p w x sure dirty),.box r 36 (aq Y s2 d2)] ⟨trivial,rfl,trivial⟩ rfl (by simp [aq,svG,SV.good,SV.goodL]) ?_
 intro E
 refine aG ?_
 refine ev_stop (go_rounds 5 ?_)
 refine aG (aJ ?_)
 refine aC TR0 [0] [.inl 0] λ ⟨x20,x21⟩ h22=>?_
 refine ev_new λ b23=>?_
 refine ev_stop (go_draw Tryz.tbs_ok true [1,3] [(0,true),(1,true),(2,true),(3,true),(4,true),(5,true),(6,true),(7,true),(8,true),(9,true),(10,false),(11,false),(12,false)] rfl ?_)
 refine aG (aE (aI (aE ?_)))
 refine ev_stop (tk_indexArr Tryz.tbs_ok (0) aB rfl rfl rfl rfl rfl rfl rfl (by first | decide | omega) rfl rfl ?_)
 refine aG (aE ?_)
 refine aC (TQ0 (x20) (x21)) [] [.inr 2,.inl 1] λ _ h24=>?_
 refine aE (aE (aE ?_))
 refine ev_if (λ h25=>?_) (λ h25=>?_)
 refine aG ?_
 refine ev_fin ⟨trivial,_,rfl,(),?_,by trivial,aF [0,1]⟩
 rotate_left
 refine aG ?_
 refine wN (0+1) ?_
 refine ev_fin (go Tryz.tbs_ok 1000 ?_)
 refine aJ ?_
 refine aC TR1 [0] [.inl 0] λ ⟨x26,x27⟩ h28=>?_
 refine ev_new λ b29=>?_
 refine ev_stop (go_draw Tryz.tbs_ok true [1,5] [(0,true),(1,true),(2,true),(3,true),(4,true),(5,true),(6,true),(7,true),(8,true),(9,true),(10,false),(11,false),(12,false)] rfl ?_)
 refine aG (aE (aI (aE ?_)))
 refine ev_stop (tk_indexArr Tryz.tbs_ok (0+1) aB rfl rfl rfl rfl rfl rfl rfl (by first | decide | omega) rfl rfl ?_)
 refine aG (aE ?_)
 refine aC (TQ1 (x26) (x27)) [] [.inr 4,.inl 1] λ _ h30=>?_
 refine aE (aE (aE ?_))
 refine ev_if (λ h31=>?_) (λ h31=>?_)
 refine aG ?_
 refine ev_fin ⟨trivial,_,rfl,(),?_,by trivial,aF [0,1]⟩
 rotate_left
 refine aG ?_
 refine wN (0+1+1) ?_
 refine ev_fin (go Tryz.tbs_ok 1000 ?_)
 refine aJ ?_
 refine aC TR2 [0] [.inl 0] λ ⟨x32,x33⟩ h34=>?_
 refine ev_new λ b35=>?_
 refine ev_stop (go_draw Tryz.tbs_ok true [1,7] [(0,true),(1,true),(2,true),(3,true),(4,true),(5,true),(6,true),(7,true),(8,true),(9,true),(10,false),(11,false),(12,false)] rfl ?_)
 refine aG (aE (aI (aE ?_)))
 refine ev_stop (tk_indexArr Tryz.tbs_ok (0+1+1) aB rfl rfl rfl rfl rfl rfl rfl (by first | decide | omega) rfl rfl ?_)
 refine aG (aE ?_)
 refine aC (TQ2 (x32) (x33)) [] [.inr 6,.inl 1] λ _ h36=>?_
 refine aE (aE (aE ?_))
 refine ev_if (λ h37=>?_) (λ h37=>?_)
 refine aG ?_
 refine ev_fin ⟨trivial,_,rfl,(),?_,by trivial,aF [0,1]⟩
 rotate_left
 refine aG ?_
 refine wN (0+1+1+1) ?_
 refine ev_fin (go Tryz.tbs_ok 1000 ?_)
 refine aJ ?_
 refine aC TR3 [0] [.inl 0] λ ⟨x38,x39⟩ h40=>?_
 refine ev_new λ b41=>?_
 refine ev_stop (go_draw Tryz.tbs_ok true [1,9] [(0,true),(1,true),(2,true),(3,true),(4,true),(5,true),(6,true),(7,true),(8,true),(9,true),(10,false),(11,false),(12,false)] rfl ?_)
 refine aG (aE (aI (aE ?_)))
 refine ev_stop (tk_indexArr Tryz.tbs_ok (0+1+1+1) aB rfl rfl rfl rfl rfl rfl rfl (by first | decide | omega) rfl rfl ?_)
 refine aG (aE ?_)
 refine aC (TQ3 (x38) (x39)) [] [.inr 8,.inl 1] λ _ h42=>?_
 refine aE (aE (aE ?_))
 refine ev_if (λ h43=>?_) (λ h43=>?_)
 refine aG ?_
 refine ev_fin ⟨trivial,_,rfl,(),?_,by trivial,aF [0,1]⟩
 rotate_left
 refine aG ?_
 refine wN (0+1+1+1+1) ?_
 refine ev_fin (go Tryz.tbs_ok 1000 ?_)
 refine aI ?_
 refine ev_fin (go Tryz.tbs_ok 1000 ?_)
 refine ev_fin ⟨trivial,_,rfl,(),?_,by trivial,aF [0,1]⟩
 rotate_left
 all_goals (show Value.bool _=Value.bool R;congr 1;rw [hR2];clear TR0 TR1 TR2 TR3 TQ0 TQ1 TQ2 TQ3;cases b0<;>cases b1<;>cases b2<;>cases b3<;>first | rfl | (simp_all;done))
end Go.Proofs.YtnbaejindfillaaGreatDoor
namespace Go.Sy
open Go.RowKit
def RowO (e sz:Nat) (A:Option Addr) (n c:Nat) (cs:List Value):Asn :=
 ⟨λ h=>cs.length=n*sz/\(∀ v∈cs,v.oneCell'=true)/\∃ g o cur,A=some ⟨g,o,none⟩/\h g=some (.cells cur e (0,0))/\n<=c/\c<=maxLen/\o+c*sz<=cur.size/\(cur.toList.drop o).take (n*sz)=cs,
  λ e ⟨h1,h2,g,o,cur,a,b,r⟩=>⟨h1,h2,g,o,cur,a,e _ _ b,r⟩⟩
theorem RowO.rd {e sz:Nat} {A:Option Addr} {n c:Nat} {cs:List Value} {h:Hp} (p:(RowO e sz A n c cs).holds h):(Rd sz A n cs).holds h:=by
 obtain ⟨h1,h2,g,o,cur,a,b,_,_,_,r⟩:=p
 exact ⟨h1,h2,λ _=>⟨g,o,cur,e,(0,0),a,b,r⟩⟩
theorem RowO.cap {e sz:Nat} {A:Option Addr} {n c:Nat} {cs:List Value} {h:Hp} (p:(RowO e sz A n c cs).holds h):n<=c:=by
 obtain ⟨_,_,_,_,_,_,_,r,_⟩:=p
 exact r
theorem RowO.sub {e sz:Nat} {A:Option Addr} {n c:Nat} {cs:List Value} {h:Hp} (k m:Nat) (p:(RowO e sz A n c cs).holds h) (hk:k+m<=n):(RowO e sz (A.map (·.add (k*sz))) m (c-k) ((cs.drop (k*sz)).take (m*sz))).holds h:=by
 obtain ⟨h1,h2,g,o,cur,rfl,b,r1,r2,r3,r4⟩:=p
 have e1:k*sz+m*sz<=n*sz:=by rw [<-Nat.add_mul];exact Nat.mul_le_mul_right _ hk
 have e2:k*sz+(c-k)*sz=c*sz:=by rw [<-Nat.add_mul];congr 1;omega
 refine ⟨by rw [List.length_take,List.length_drop,h1];omega,λ v hv=>h2 v (List.mem_of_mem_drop (List.mem_of_mem_take hv)),g,o+k*sz,cur,by rw [Option.map_some,addr_add],b,by omega,by omega,by omega,?_⟩
 rw [<-r4,List.drop_take,List.drop_drop,List.take_take]
 congr 1
 omega
section
variable {P:Program} {T:Tbs} {E:Entry} {Q:Exit->St->Prop} {ops:Array Oper} {l:List Oper} {r:List It} {st:St}
theorem bO (hT:TbsOk P T) {dst:Option Tmp} {s x:Operand} {t ty:TypeId} {pos:String} {after:Array Edge} {gd:Option (Nat × Bool)} (i:Nat) {A A':Option Addr} {n c m c':Nat} {cs news:List Value} {et sz bts:Nat} {B:Asn} (src:Sum Nat Nat)
 (hg:guardS ops st.fr ⟨dst,.call { callee:=.builtin .append,args := #[s,x],argTypes := #[t,t] },ty,pos,after,gd⟩ = .run)
 (hs:(ev st.fr s).den = .slice A n c) (hsno:(ev st.fr s).isNo=false) (hx:(ev st.fr x).den = .slice A' m c') (hxno:(ev st.fr x).isNo=false)
 (ht:(te T.tab t).map (·.k)=some (.slice et)) (he':(te T.tab et).map (λ e=>(e.size,e.bytes,e.zero.length))=some (sz,bts,sz)) (hpos:0<sz)
 (hi:asnAt st.res i=some (RowO et sz A n c cs)) (hsrc:has st src B) (hB:∀ h,B.holds h->(Rd sz A' m news).holds h)
 (hm:0<m) (hmax:n+m<=maxLen) (hbytes:(n+m)*bts<=140737488355328)
 (hb:∀ A2 c2,blkLe st.res (place st.res [i] [.fact (RowO et sz A2 (n+m) c2 (cs++news))]))
 (h:∀ A2 c2,n+m<=c2->Go P E (.o ops l::r) (St.put ⟨st.fr,place st.res [i] [.fact (RowO et sz A2 (n+m) c2 (cs++news))],st.ro⟩ dst (.va (.slice A2 (n+m) c2))) Q) :
 Go P E (.o ops (⟨dst,.call { callee:=.builtin .append,args := #[s,x],argTypes := #[t,t] },ty,pos,after,gd⟩::l)::r) st Q:=by
 obtain ⟨e,he,hsz,hbts,hz⟩:∃ e,te T.tab et=some e/\e.size=sz/\e.bytes=bts/\e.zero.length=e.size:=by
  cases hq:te T.tab et with
  | none=>rw [hq] at he';cases he'
  |
   some e =>
   rw [hq] at he'
   simp only [Option.map_some,Option.some.injEq,Prod.mk.injEq] at he'
   exact ⟨e,rfl,he'.1,he'.2.1,he'.2.2.trans he'.1.symm⟩
 subst hsz hbts
 refine Go.step λ a w hR=>⟨by have:=guard_spec hR.fr (ops:=ops) ⟨dst,.call { callee:=.builtin .append,args := #[s,x],argTypes := #[t,t] },ty,pos,after,gd⟩;rw [hg] at this;exact this,?_⟩
 obtain ⟨hs',hi',hres⟩:=hR.res
 have hsel:[i].map (asnAt st.res)=[RowO et e.size A n c cs].map some:=by simp [hi]
 have hrow:=starH_one.1 (selH_star hres.le hres.dis hres.holds hsel (by simp))
 have hrle:(selH w hs' [i]).le (hp w):=selH_le _ _ _
 obtain ⟨hl1,h11,g,o,cur,rfl,hgc,hnc,hcm,hfit,htk⟩:=hrow
 have hgw:w.heap[g]? = some (.cells cur et (0,0)):=hrle g _ hgc
 obtain ⟨hl2,h12,h32⟩:=hB _ (has_holds hsrc hres)
 obtain ⟨g2,o2,cur2,e2,fz,rfl,hcur,htk2⟩:=h32 hm
 have hcell2:∀ j v,news[j]? = some v->w.cell? ((⟨g2,o2,none⟩:Addr).add j)=some v:=λ j v hv=>by
  have hcur:w.heap[g2]? = some (.cells cur2 e2 fz):=hcur
  rw [addr_add,cell_of_row w g2 _ _ e2 fz hcur]
  rw [<-htk2,List.getElem?_take] at hv
  split at hv
  . rw [List.getElem?_drop] at hv
    rw [<-Array.getElem?_toList,<-hv]
  cases hv
 have hcell1:∀ j v,cs[j]? = some v->w.cell? ((⟨g,o,none⟩:Addr).add j)=some v:=λ j v hv=>by
  rw [addr_add,cell_of_row w g _ _ et (0,0) hgw]
  rw [<-htk,List.getElem?_take] at hv
  split at hv
  . rw [List.getElem?_drop] at hv
    rw [<-Array.getElem?_toList,<-hv]
  cases hv
 cases htt:te T.tab t with
 | none=>rw [htt] at ht;cases ht
 |
  some et' =>
  rw [htt] at ht
  simp at ht
  obtain ⟨ii,u,zz,hii,hu,hz',hk,_⟩:=te_spec hT.tab htt
  obtain ⟨i2,u2,z2,hi2,hu2,hz2,hk2,hs2,hb2,hz2'⟩:=te_spec hT.tab he
  rw [ht] at hk
  cases u<;>simp [tkOf] at hk
  subst hk
  have hzs:z2.cells.size=e.size:=by rw [<-hz,hz2'];simp
  have hone:∀ v∈cs++news,v.oneCell'=true:=λ v hv=>by
   rcases List.mem_append.1 hv with hv | hv
   . exact h11 v hv
   exact h12 v hv
  have hlen:(cs++news).length=(n+m)*e.size:=by rw [List.length_append,hl1,hl2,Nat.add_mul]
  rcases Nat.lt_or_ge c (n+m) with hful | hroom
  . obtain ⟨v',w',hrun,hown,hgr⟩:=run_append_arg_grows (P:=P) w t ty et i2 z2 e.size e.bytes hu hi2 hz2 hs2.symm hb2.symm hzs hpos ⟨g,o,none⟩ n c cs hl1 hcell1 ⟨g2,o2,none⟩ m c' news hl2 hcell2 hful hmax hbytes
    obtain ⟨hl,hc⟩:=hown
    rcases hc with ⟨_,h0⟩ | ⟨g3,cap,cur3,rfl,hge,hg3,hnc3,hcm3,hsz3,htk3⟩
    . omega
    obtain ⟨hs3,hres3⟩:=place_ok (w':=w') hres [i] (selH w hs' [i]) selH_C [.fact (RowO et e.size (some ⟨g3,0,none⟩) (n+m) cap (cs++news))] (Hp.one g3 (.cells cur3 et (0,0))) (starH_one.2 ⟨hlen,hone,g3,0,cur3,rfl,Hp.one_self _ _,hnc3,hcm3,by omega,by rw [List.drop_zero];exact htk3⟩) (Hp.one_le hg3) ⟨hgr.os,hgr.tape,hgr.output,hgr.size,λ b hb _=>hgr.block b hb (by simp)⟩ (λ b hb'=>by
     right
     by_cases e:b=g3
     . rw [e];exact hge
     exact absurd (Hp.one_none e) hb') (newsOk_fact (newsOk_nil _)) (hb (some ⟨g3,0,none⟩) cap)
    refine wp_value (v:=.slice (some ⟨g3,0,none⟩) (n+m) cap) (w':=w') ?_ (h (some ⟨g3,0,none⟩) cap hnc3 _ _ ?_)
    . simp [execOp,resolve,invoke,builtin,ev_denv hR.fr rfl hsno,ev_denv hR.fr rfl hxno,hs,hx,hrun]
    have hR':R E ⟨st.fr,place st.res [i] [.fact (RowO et e.size (some ⟨g3,0,none⟩) (n+m) cap (cs++news))],st.ro⟩ a w':=⟨hR.fr.mono (blkLe_spec (hb (some ⟨g3,0,none⟩) cap)),_,_,hres3⟩
    exact hR'.put dst (x:=.va (.slice (some ⟨g3,0,none⟩) (n+m) cap)) rfl trivial
  have hfit2:o+n*e.size+news.length<=cur.size:=by
   rw [hl2,Nat.add_assoc,<-Nat.add_mul]
   have:=Nat.mul_le_mul_right e.size hroom
   omega
  obtain ⟨cur',hcur'⟩:∃ cur',cur'=(cur.toList.take (o+n*e.size)++news++cur.toList.drop (o+n*e.size+news.length)).toArray:=⟨_,rfl⟩
  have hrun:(Builtin.append_ #[t,t] ty #[.slice (some ⟨g,o,none⟩) n c,.slice (some ⟨g2,o2,none⟩) m c']).run P w = .ok (.slice (some ⟨g,o,none⟩) (n+m) c) (w.setRow g cur'):=by
   have hf:=run_firstCells_some (P:=P) w e.size m ⟨g2,o2,none⟩ m c' news hl2 hcell2
   have hst:=run_storeCells_at P g (o+n*e.size) et news 0 cur w hgw (by simpa using hfit2) h12
   simp only [Nat.add_zero] at hst
   rw [<-hcur'] at hst
   rw [hs2] at hf hst
   simp [Builtin.append_,run_underlying hu,sizeOf,typeInfo,hi2,Builtin.lenOf,hroom,hf,addr_add,hst]
  have hsz':cur'.size=cur.size:=by
   rw [hcur']
   simp only [List.size_toArray,List.length_append,List.length_take,List.length_drop,Array.length_toList]
   omega
  have htk':(cur'.toList.drop o).take ((n+m)*e.size)=cs++news:=by
   rw [hcur',List.append_assoc,List.drop_append_of_le_length (by rw [List.length_take,Array.length_toList];omega),List.drop_take,Nat.add_sub_cancel_left,htk,<-List.append_assoc,List.take_left' hlen]
  have hg':(w.setRow g cur').heap[g]? = some (.cells cur' et (0,0)):=setRow_heap w g cur _ et _ hgw
  obtain ⟨hs3,hres3⟩:=place_ok (w':=w.setRow g cur') hres [i] (selH w hs' [i]) selH_C [.fact (RowO et e.size (some ⟨g,o,none⟩) (n+m) c (cs++news))] (Hp.one g (.cells cur' et (0,0))) (starH_one.2 ⟨hlen,hone,g,o,cur',rfl,Hp.one_self _ _,hroom,hcm,by omega,htk'⟩) (Hp.one_le hg') ⟨rfl,rfl,rfl,by simp [World.setRow],λ b _ hn=>setRow_other w g b cur' (λ e=>by rw [e,hgc] at hn;cases hn)⟩ (λ b hb'=>by
   left
   by_cases e:b=g
   . rw [e,hgc];simp
   exact absurd (Hp.one_none e) hb') (newsOk_fact (newsOk_nil _)) (hb (some ⟨g,o,none⟩) c)
  refine wp_value (v:=.slice (some ⟨g,o,none⟩) (n+m) c) (w':=w.setRow g cur') ?_ (h (some ⟨g,o,none⟩) c hroom _ _ ?_)
  . simp [execOp,resolve,invoke,builtin,ev_denv hR.fr rfl hsno,ev_denv hR.fr rfl hxno,hs,hx,hrun]
  have hR':R E ⟨st.fr,place st.res [i] [.fact (RowO et e.size (some ⟨g,o,none⟩) (n+m) c (cs++news))],st.ro⟩ a (w.setRow g cur'):=⟨hR.fr.mono (blkLe_spec (hb (some ⟨g,o,none⟩) c)),_,_,hres3⟩
  exact hR'.put dst (x:=.va (.slice (some ⟨g,o,none⟩) (n+m) c)) rfl trivial
theorem bP (hT:TbsOk P T) {dst:Option Tmp} {s x:Operand} {t ty:TypeId} {pos:String} {after:Array Edge} {gd:Option (Nat × Bool)} (i:Nat) {A A':Option Addr} {n c m c':Nat} {cs news:List Value} {et sz bts:Nat} {B:Asn} (src:Sum Nat Nat) (n':Nat) (cs':List Value) (hn':n'=n+m) (hcs':cs'=cs++news)
 (hg:guardS ops st.fr ⟨dst,.call { callee:=.builtin .append,args := #[s,x],argTypes := #[t,t] },ty,pos,after,gd⟩ = .run)
 (hs:(ev st.fr s).den = .slice A n c) (hsno:(ev st.fr s).isNo=false) (hx:(ev st.fr x).den = .slice A' m c') (hxno:(ev st.fr x).isNo=false)
 (ht:(te T.tab t).map (·.k)=some (.slice et)) (he':(te T.tab et).map (λ e=>(e.size,e.bytes,e.zero.length))=some (sz,bts,sz)) (hpos:0<sz)
 (hi:asnAt st.res i=some (RowO et sz A n c cs)) (hsrc:has st src B) (hB:∀ h,B.holds h->(Rd sz A' m news).holds h)
 (hm:0<m) (hmax:n+m<=maxLen) (hbytes:(n+m)*bts<=140737488355328)
 (hb:∀ A2 c2,blkLe st.res (place st.res [i] [.fact (RowO et sz A2 n' c2 cs')]))
 (h:∀ A2 c2,n'<=c2->Go P E (.o ops l::r) (St.put ⟨st.fr,place st.res [i] [.fact (RowO et sz A2 n' c2 cs')],st.ro⟩ dst (.va (.slice A2 n' c2))) Q) :
 Go P E (.o ops (⟨dst,.call { callee:=.builtin .append,args := #[s,x],argTypes := #[t,t] },ty,pos,after,gd⟩::l)::r) st Q:=by
 subst hn' hcs'
 exact bO hT i src hg hs hsno hx hxno ht he' hpos hi hsrc hB hm hmax hbytes hb h
end
end Go.Sy
namespace Go.Proofs.YtnbaejindfillaaGreatDoor
open Go.Sy Go.RowKit
theorem aW {α:Type} (F:α->Asn):∀ (l:List α) (k:Nat) (hk:k<l.length) {h:Hp},Asn.starH (l.map F) h↔Asn.starH (F l[k]::(l.eraseIdx k).map F) h
 | [],_,hk,_=>absurd hk (Nat.not_lt_zero _)
 | a::l,0,_,_=>Iff.rfl
 |
  a::l,k+1,hk,h=>by
  have ih:=λ {h:Hp}=>aW F l k (Nat.lt_of_succ_lt_succ hk) (h:=h)
  simp only [List.getElem_cons_succ,List.eraseIdx_cons_succ,List.map_cons]
  constructor
  . rintro ⟨h1,h2,d,e1,e2,p1,p2⟩
    exact starH_swap ⟨h1,h2,d,e1,e2,p1,ih.1 p2⟩
  intro p
  obtain ⟨h1,h2,d,e1,e2,p1,p2⟩:=starH_swap p
  exact ⟨h1,h2,d,e1,e2,p1,ih.2 p2⟩
structure Ref1 where
 p:Nat
 x:StaS
 s:Nat
 d:Bool
def am (e:Ref1):Asn:=Asn.star [ab e.p e.x e.s e.d,e.x.rd]
def aa (es:List Ref1):Asn:=Asn.star (es.map am)
def ae (e:Ref1):List Value:=[pP e.p]
theorem aZ (e:Ref1):(ae e).length=1:=rfl
theorem bv {A B:Asn} {L M:List Asn}:([A,B]++(L++M)).Perm (L++(A::M++[B])):=by
 have h1:([A,B]++(L++M)).Perm ((L++M)++[A,B]):=List.perm_append_comm
 rw [List.append_assoc] at h1
 exact h1.trans (List.Perm.append_left L List.perm_middle)
theorem aY {M:List Asn} (es:List Ref1) (k:Nat) (hk:k<es.length) {h:Hp}:Asn.starH (aa es::M) h↔Asn.starH ((ab es[k].p es[k].x es[k].s es[k].d::M++[es[k].x.rd])++[Asn.star ((es.eraseIdx k).map am)]) h:=by
 constructor
 . rintro ⟨g1,g2,d,a,b,p1,p2⟩
   have q:Asn.starH (Asn.star (am es[k]::(es.eraseIdx k).map am)::M) h:=⟨g1,g2,d,a,b,(aW am es k hk).1 p1,p2⟩
   exact starH_perm (List.perm_append_singleton _ _).symm (starH_star.2 (starH_perm bv (starH_star.1 (starH_star.1 q))))
 intro q
 have q2:=starH_star.1 (starH_perm (List.perm_append_singleton _ _) q)
 have q3:Asn.starH (am es[k]::((es.eraseIdx k).map am++M)) h:=starH_star.2 (starH_perm bv.symm q2)
 obtain ⟨g1,g2,d,a,b,p1,p2⟩:=starH_star.2 (show Asn.starH ((am es[k]::(es.eraseIdx k).map am)++M) h from q3)
 exact ⟨g1,g2,d,a,b,(aW am es k hk).2 p1,p2⟩
theorem c8 {P:Program} {f:FuncId} {args:List Value} {M N:List Asn} {A:Asn} {X:Type} {ret:X->Value} {good:X->Prop} {post:X->List Asn} (t:Triple P f args M (A::N) X ret good post) :
 Triple P f args (M++[A]) N X ret good (λ x=>post x++[A]):=λ w hm hn h1 h2 h3 h4 h5=>by
 obtain ⟨k1,k2,d,e1,e2,p1,p2⟩:=(starH_append M [A]).1 h4
 have dn:k2.dis hn:=h3.mono e2 (Hp.le_refl _)
 refine (t w k1 (Hp.join k2 hn) (e1.trans h1) (Hp.join_le (e2.trans h1) h2) (λ b=>?_) p1 (λ B hB=>?_)).mono λ e w' ⟨x,hm',q1,q2,q3,q4,q5,q6⟩=>?_
 . rcases d b with x | x
   . exact .inl x
   rcases h3.mono e1 (Hp.le_refl _) b with y | y
   . exact .inl y
   exact .inr (Hp.join_none.2 ⟨x,y⟩)
 . rcases List.mem_cons.1 hB with rfl | hB
   . exact Asn.mono _ (Hp.le_join_left _ _) (starH_one.1 p2)
   exact B.mono (Hp.le_join_right dn) (h5 B hB)
 have hd:hm'.dis k2:=λ b=>by
  cases e1':hm' b with
  | none=>exact .inl rfl
  |
   some o =>
   right
   rcases q6 b (by rw [e1'];simp) with q | q
   . rcases d b with y | y
     . exact absurd y q
     exact y
   exact Hp.le_none (e2.trans h1) (hp_none q)
 have hk:k2.le (hp w'):=Ext.keep q5 d (e2.trans h1)
 refine ⟨x,Hp.join hm' k2,q1,q2,(starH_append _ _).2 ⟨hm',k2,hd,Hp.le_join_left _ _,Hp.le_join_right hd,q3,p2⟩,Hp.join_le q4 hk,?_,λ b hb=>?_⟩
 . exact ⟨q5.os,q5.tape,q5.output,q5.size,λ b hb hn'=>q5.block b hb (Hp.le_none e1 hn')⟩
 have hb':hm' b≠none\/k2 b≠none:=by
  rcases Classical.em (hm' b=none) with c | c
  . right
    intro c2
    exact hb (Hp.join_none.2 ⟨c,c2⟩)
  exact .inl c
 have up:∀ k:Hp,k.le hm->k b≠none->hm b≠none:=λ k hk hkb hmb=>hkb (Hp.le_none hk hmb)
 rcases hb' with c | c
 . rcases q6 b c with q | q
   . exact .inl (up k1 e1 q)
   exact .inr q
 exact .inl (up k2 e2 c)
theorem bc {f:FuncId} {args:List Value} {M N:List Asn} {X:Type} {ret:X->Value} {good:X->Prop} {post:X->List Asn} (es:List Ref1) (k:Nat) (hk:k<es.length)
 (T:Triple Tryz.prog f args (ab es[k].p es[k].x es[k].s es[k].d::M) (es[k].x.rd::N) X ret good (λ x=>ab es[k].p es[k].x es[k].s es[k].d::post x)):Triple Tryz.prog f args (aa es::M) N X ret good (λ x=>aa es::post x) :=
 Triple.pre (α:=Unit) (M:=λ _=>(ab es[k].p es[k].x es[k].s es[k].d::M++[es[k].x.rd])++[Asn.star ((es.eraseIdx k).map am)]) (λ h q=>⟨(),(aY es k hk).1 q⟩) (λ _=>((c8 T).frame [Asn.star ((es.eraseIdx k).map am)]).imp (post':=λ x=>aa es::post x) λ x g=>⟨x,rfl,g,λ h q=>(aY es k hk).2 q⟩)
theorem bg {es:List Ref1} {e:Ref1} (he:e∈es) {h:Hp} (q:(aa es).holds h):(ab e.p e.x e.s e.d).holds h/\e.x.rd.holds h:=by
 have q2:Asn.starH (es.map am) h:=q
 have q3:(am e).holds h:=ap (List.mem_map_of_mem he) q2
 exact ⟨ap (A:=ab e.p e.x e.s e.d) (by simp) q3,ap (A:=e.x.rd) (by simp) q3⟩
theorem bL {es:List Ref1} {e:Ref1} {h:Hp} (q:Asn.starH [ab e.p e.x e.s e.d,e.x.rd,aa es] h):Asn.starH [Asn.tt,Asn.tt,aa (es++[e])] h:=by
 have q2:Asn.starH ([ab e.p e.x e.s e.d,e.x.rd]++[aa es]) h:=q
 have q3:Asn.starH (am e::[aa es]) h:=starH_star.2 q2
 have q4:Asn.starH (aa es::[am e]) h:=starH_swap q3
 have q5:Asn.starH (es.map am++[am e]) h:=starH_star.1 q4
 refine ⟨Hp.emp,h,Hp.emp_dis _,Hp.emp_le _,Hp.le_refl _,trivial,Hp.emp,h,Hp.emp_dis _,Hp.emp_le _,Hp.le_refl _,trivial,starH_one.2 ?_⟩
 show Asn.starH ((es++[e]).map am) h
 rw [List.map_append]
 exact q5
theorem ca {es:List Ref1} (k m:Nat) {h:Hp} (q:(aa es).holds h):(aa ((es.drop k).take m)).holds h:=by
 have e:es.map am=(es.take k).map am++(((es.drop k).take m).map am++((es.drop k).drop m).map am):=by
  rw [<-List.map_append,List.take_append_drop,<-List.map_append,List.take_append_drop]
 have q2:Asn.starH (es.map am) h:=q
 rw [e] at q2
 obtain ⟨_,g2,_,_,b,_,p2⟩:=(starH_append _ _).1 q2
 obtain ⟨g3,_,_,a2,_,p3,_⟩:=(starH_append _ _).1 p2
 exact Asn.mono (Asn.star _) (a2.trans b) p3
theorem bT (r:Nat) (x:StaS) (sure:Nat) (dirty:Bool) (hx:okS x.abs):Triple Tryz.prog 18 [pP r] [ab r x sure dirty] [x.rd] (Nat × StaS) (λ (c,_)=>.pointer (some ⟨c,0,none⟩)) (λ (_,X)=>X.abs=x.abs) (λ (c,X)=>[ab r x sure dirty,ab c X sure dirty,X.rd]) :=
 (bQ r x sure dirty hx).imp λ y g=>⟨y,rfl,g,λ _ ⟨h1,h2,d,a,b,p1,p2⟩=>⟨h1,h2,d,a,b,p1,bU p2⟩⟩
theorem bp (es:List Ref1) (k:Nat) (hk:k<es.length) (hx:okS es[k].x.abs):Triple Tryz.prog 18 [.pointer (some ⟨es[k].p,0,none⟩)] [aa es] [] (Nat × StaS) (λ (c,_)=>.pointer (some ⟨c,0,none⟩)) (λ (_,X)=>X.abs=es[k].x.abs) (λ (c,X)=>[aa es,ab c X es[k].s es[k].d,X.rd]) :=
 bc es k hk (M:=[]) (N:=[]) (post:=λ (c,X)=>[ab c X es[k].s es[k].d,X.rd]) (bT _ _ _ _ hx)
theorem ce (p w:Nat) (x:StaS) (sure:Nat) (dirty:Bool) (hx:okS x.abs) (es:List Ref1) (k:Nat) (hk:k<es.length):Triple Tryz.prog 24 [pP p,.pointer (some ⟨es[k].p,0,none⟩)] [aa es,StoP p w x sure dirty] [x.rd] Unit (λ _=>.bool (decide (x.abs.R=es[k].x.abs.R))) (λ _=>True) (λ _=>[aa es,StoP p w x sure dirty]) :=
 bc es k hk (M:=[StoP p w x sure dirty]) (N:=[x.rd]) (post:=λ _=>[StoP p w x sure dirty]) (by
  have T:=cU p w es[k].p x es[k].x sure es[k].s dirty es[k].d hx
  have T2:Triple Tryz.prog 24 [pP p,.pointer (some ⟨es[k].p,0,none⟩)] [StoP p w x sure dirty,ab es[k].p es[k].x es[k].s es[k].d] [es[k].x.rd,x.rd] Unit (λ _=>.bool (decide (x.abs.R=es[k].x.abs.R))) (λ _=>True) (λ _=>[StoP p w x sure dirty,ab es[k].p es[k].x es[k].s es[k].d]):=T.reads λ X hX=>by
   simp only [List.mem_cons,List.not_mem_nil,or_false] at hX ⊢
   rcases hX with rfl | rfl
   . exact ⟨_,.inr rfl,λ _ q=>q⟩
   exact ⟨_,.inl rfl,λ _ q=>q⟩
  exact Triple.pre (α:=Unit) (M:=λ _=>[StoP p w x sure dirty,ab es[k].p es[k].x es[k].s es[k].d]) (λ h q=>⟨(),starH_swap q⟩) (λ _=>T2.imp λ y g=>⟨y,rfl,g,λ h q=>starH_swap q⟩))
theorem cL {x y:Sta} (h1:x.R=y.R) (h2:x.F=y.F):x=y:=by
 cases x
 cases y
 cases h1
 cases h2
 rfl
def cQ (e:Ref1):List Value:=SV.denL (aq e.x e.s e.d)
set_option maxHeartbeats 8000000 in
theorem cW (p w:Nat) (x:StaS) (m:Nat) (hx:okS x.abs) (hm:m=x.F.length) (es:List Ref1) (B:Option Addr) (n c:Nat) (hn:n=es.length) (hn1:n<=100000) (hex:∃ e∈es,e.x.abs=x.abs) :
 Triple Tryz.prog 23 [pP p,.slice B n c] [aa es,StoP p w x m false] [x.rd,Rd 1 B n (es.flatMap ae)] Nat (λ i=>.int .i64 (i:Nat)) (λ i=>∃ e,es[i]? = some e/\e.x.abs=x.abs) (λ _=>[aa es,StoP p w x m false]):=by
 have TF:=feedSt p w x m false (Nat.le_trans (feed_small hx).1 (by decide))
 rw [<-hm] at TF
 have TD:=dirtyT p w x m false
 have h256:m<=256:=by rw [hm];exact (feed_small hx).1
 refine aT Tryz.func23 [vP p,vL B n c] [.fact (aa es),.fact (StoP p w x m false)] (λ E=>?_) ⟨trivial,trivial,trivial⟩
 refine aG ?_
 refine w6 ?_
 refine ev_stop (go_loopR [4,5,6,7,11,12,13,14,15,16,17,18,19,20,21,22,23,24,25,26,27,28,29,30,31,32,33,34,35,36,37,38,39,40,41,42,43,44,45,46,47,48] (λ z=>[(5,vI z)]) (λ _=>[]) (λ z=>z<=(n:Int)-1 /\ -1<=z/\∀ (k:Nat) (e:Ref1),z<(k:Int)->es[k]? = some e->e.x.abs≠x.abs) (λ z=>(z+1).toNat) ((n:Int)-1:Int) ⟨by omega,by omega,λ k e h1 h2=>by have:=(List.getElem?_eq_some_iff.1 h2).1;omega⟩ aS (λ z h_=>?_))
 obtain ⟨hz,hz2,hno⟩:=h_
 rcases Int.lt_or_le z 0 with h0 | h0
 . exfalso
   obtain ⟨e,he,hee⟩:=hex
   obtain ⟨k,hk⟩:=List.mem_iff_getElem?.1 he
   exact hno k e (by omega) hk hee
 obtain ⟨k,rfl⟩:∃ k:Nat,z=(k:Int):=⟨z.toNat,by omega⟩
 have hk:k<es.length:=by omega
 have TA:=ce p w x m false hx es k hk
 obtain ⟨b1,hb1⟩:∃ b,b=decide (x.abs.R=es[k].x.abs.R):=⟨_,rfl⟩
 rw [<-hb1] at TA
 have TS:=λ A c=>(bZ A es[k].x.A x.F es[k].x.F m es[k].x.F.length c es[k].x.c hm rfl (by omega)).reads (N':=[Row 72 2 A m c (x.F.flatMap encP),aa es]) (λ X hX=>by
  simp only [List.mem_cons,List.not_mem_nil,or_false] at hX
  rcases hX with rfl | rfl
  . exact ⟨_,List.mem_cons_self,λ _ q=>Row.rd q⟩
  exact ⟨_,List.mem_cons_of_mem _ List.mem_cons_self,λ h q=>(bg (List.getElem_mem hk) q).2.2.1⟩)
 obtain ⟨b2,hb2⟩:∃ b,b=decide (x.F=es[k].x.F):=⟨_,rfl⟩
 rw [<-hb2] at TS
 have PK:∀ {h},(aa es).holds h->(Rd 19 (some ⟨es[k].p,0,none⟩) 1 ([es[k]].flatMap cQ)).holds h:=λ {h} q=>by
  have:=Pt.rd (bg (List.getElem_mem hk) q).1 (sz:=19) (n:=1) rfl
  simpa [cQ] using this
 have hyes:b1=true->b2=true->es[k].x.abs=x.abs:=λ q1 q2=>by
  rw [hb1] at q1
  rw [hb2] at q2
  have q1:=of_decide_eq_true q1
  have q2:x.abs.F=es[k].x.abs.F:=of_decide_eq_true q2
  exact (cL q1 q2).symm
 have hfar:b1=false\/b2=false->es[k].x.abs≠x.abs:=λ q e=>by
  rcases q with q | q
  . rw [hb1] at q
    exact of_decide_eq_false q (congrArg Sta.R e.symm)
  rw [hb2] at q
  exact of_decide_eq_false q (congrArg Sta.F e.symm)
 refine aG (aJ ?_)
 refine aC TF [1] [.inl 0] λ ⟨x30,x31⟩ h32=>?_
 refine ev_stop (go_indexE (sz:=1) Tryz.tbs_ok (.inl 1) (k) rfl rfl rfl rfl rfl rfl (by omega) rfl (λ _ h=>h) (λ g33 o35 e34=>?_))
 subst e34
 refine aG ?_
 have l36:k<(es).length:=(by omega)
 refine ev_stop (go_loadE Tryz.tbs_ok (.inl 1) (k) 0 rfl rfl rfl rfl (λ _ h=>h) (by omega) (λ _=>rfl) (by omega) l36 (by decide) ?_)
 refine aG ?_
 refine aC TA [0,1] [.inl 0] λ _ h37=>?_
 refine ev_if (λ h38=>?_) (λ h38=>?_)
 refine aG ?_
 refine ev_stop (go_atE (sz:=1) Tryz.tbs_ok (k) rfl rfl rfl rfl rfl rfl (by omega) ?_)
 refine aG ?_
 have l39:k<(es).length:=(by omega)
 refine ev_stop (go_loadE Tryz.tbs_ok (.inl 1) (k) 0 rfl rfl rfl rfl (λ _ h=>h) (by omega) (λ _=>rfl) (by omega) l39 (by decide) ?_)
 refine aG ?_
 have l40:0<([es[k]]).length:=by simp
 refine ev_stop (go_loadE Tryz.tbs_ok (.inr 0) 0 16 rfl rfl rfl rfl (λ _ h=>PK h) (by omega) (λ _=>rfl) (by omega) l40 (by decide) ?_)
 refine aG ?_
 refine aC (TS (x30) (x31)) [] [.inr 2,.inr 0] λ _ h41=>?_
 refine ev_if (λ h42=>?_) (λ h42=>?_)
 refine aG ?_
 refine aJ ?_ (beq_iff_eq.2 (show (↑m:Int)=(↑m:Int) from (by omega)))
 refine aC TD [1] [] λ _ h43=>?_
 refine aJ ?_
 refine ev_fin ⟨trivial,_,rfl,(k),rfl,?_,Frm.sel [0,1] rfl (by decide)⟩
 rotate_left
 refine aG ?_
 refine w6 ?_
 refine ev_fin (round_next ((↑k:Int)-1) (?_:(↑k:Int)-1<=(↑n:Int)-1 /\ -1<=(↑k:Int)-1/\∀ (k_1:Nat) (e:Ref1),(↑k:Int)-1<(↑k_1:Int)->es[k_1]? = some e->e.x.abs≠x.abs) (show ((↑k:Int)-1+1).toNat<((↑k:Int)+1).toNat from (by omega)) aS)
 rotate_left
 refine aG ?_
 refine w6 ?_
 refine ev_fin (round_next ((↑k:Int)-1) (?_:(↑k:Int)-1<=(↑n:Int)-1 /\ -1<=(↑k:Int)-1/\∀ (k_1:Nat) (e:Ref1),(↑k:Int)-1<(↑k_1:Int)->es[k_1]? = some e->e.x.abs≠x.abs) (show ((↑k:Int)-1+1).toNat<((↑k:Int)+1).toNat from (by omega)) aS)
 rotate_left
 . exact ⟨_,List.getElem?_eq_getElem hk,hyes (by assumption) (by assumption)⟩
 all_goals
  refine ⟨by omega,by omega,λ k' e h1 h2=>?_⟩
  rcases (show k'=k\/k<k' by omega) with rfl | h3
  . rw [List.getElem?_eq_getElem hk] at h2
    cases h2
    exact hfar (by first | exact .inl (by assumption) | exact .inr (by assumption))
  exact hno k' e (by omega) h2
theorem cA (r:Nat) (x:StaS) (sure:Nat) (dirty:Bool) (C:Option Addr) (L:List RecS) (n c:Nat) (hn:n=L.length) (hn1:n<=1000) (hL:∀ y∈L,y.r.L.length<=2000/\y.r.F.length<=100000) (hx:okS x.abs) (h:writeS x.abs (recsR L)=none) :
 Triple Tryz.prog 13 [pP r,.slice C n c] [ab r x sure dirty,x.rd] [Rd 8 C n (L.flatMap encR),RecsRd L] Unit (λ _=>.int .i64 2) (λ _=>True) (λ _=>[ab r x sure dirty,x.rd]) :=
 (bR r x sure dirty C L n c hn hn1 hL hx 2 (by rw [if_pos h]) false (by simp)).imp λ y g=>⟨(),rfl,trivial,by
  rw [if_neg (by decide)] at g
  rw [g]
  exact λ _ q=>q⟩
theorem bb (r:Nat) (x:StaS) (sure:Nat) (dirty:Bool) (C:Option Addr) (L:List RecS) (n c:Nat) (hn:n=L.length) (hn1:n<=1000) (hL:∀ y∈L,y.r.L.length<=2000/\y.r.F.length<=100000) (hx:okS x.abs) {z:Sta} (h:writeS x.abs (recsR L)=some z) :
 Triple Tryz.prog 13 [pP r,.slice C n c] [ab r x sure dirty,x.rd] [Rd 8 C n (L.flatMap encR),RecsRd L] StaS (λ _=>.int .i64 0) (λ X=>X.abs=z) (λ X=>[ab r X sure (decide (L≠[]) || dirty),X.rd]) :=
 (bR r x sure dirty C L n c hn hn1 hL hx 0 (by rw [h,if_neg (by simp)]) (decide (L≠[])) (by subst hn;cases L<;>simp)).imp λ y g=>⟨y,rfl,by
  rw [if_pos rfl,h] at g
  exact (Option.some.inj g).symm,λ _ q=>q⟩
theorem cF (p w q:Nat) (x:StaS) (sure:Nat) (dirty:Bool) (W:WK) (D:DK) (C:Option Addr) (L:List RecS) (n c:Nat) (hn:n=L.length) (hn1:n<=1000) (hL:∀ y∈L,y.r.L.length<=2000/\y.r.F.length<=100000) (hI:StoI x.abs W D) (h:writeS x.abs (recsR L)=none) :
 Triple Tryz.prog 12 [pP p,.slice C n c] [StoP p w x sure dirty,WalM w q W,DiskM q D,x.rd] [TabA,Rd 8 C n (L.flatMap encR),RecsRd L] Unit (λ _=>.int .i64 2) (λ _=>True) (λ _=>[StoP p w x sure dirty,WalM w q W,DiskM q D,x.rd]) :=
 (writeLT p w q x sure dirty W D C L n c hn hn1 hL hI.dk hI.wk hI.st (W,D,2,false) (by unfold WriteR;rw [h])).imp λ y g=>⟨(),rfl,trivial,by
  rw [if_neg (by simp)] at g
  rw [g]
  exact λ _ q=>q⟩
theorem cj (p w q:Nat) (x:StaS) (sure:Nat) (dirty:Bool) {W W':WK} {D D':DK} (C:Option Addr) (L:List RecS) (n c:Nat) (hn:n=L.length) (hn1:n<=1000) (hL:∀ y∈L,y.r.L.length<=2000/\y.r.F.length<=100000) (hI:StoI x.abs W D) {z:Sta} (h:writeS x.abs (recsR L)=some z) (hR:WriteR L x.abs W D=(W',D',0,decide (L≠[]))) :
 Triple Tryz.prog 12 [pP p,.slice C n c] [StoP p w x sure dirty,WalM w q W,DiskM q D,x.rd] [TabA,Rd 8 C n (L.flatMap encR),RecsRd L] StaS (λ _=>.int .i64 0) (λ X=>X.abs=z) (λ X=>[StoP p w X sure (decide (L≠[]) || dirty),WalM w q W',DiskM q D',X.rd]) :=
 (writeLT p w q x sure dirty W D C L n c hn hn1 hL hI.dk hI.wk hI.st _ hR).imp λ y g=>⟨y,rfl,by
  dsimp only at g
  split at g
  . rw [h] at g
    exact (Option.some.inj g).symm
  rename_i q
  have h0:L=[]:=by simpa using q
  subst h0
  rw [g]
  cases h
  rfl,λ _ q=>q⟩
def bY (B:Option Addr) (n c:Nat) (es:List Ref1):Asn:=RowO 29 1 B n c (es.flatMap ae)
set_option maxHeartbeats 8000000 in
theorem cC (p w q:Nat) (x:StaS) (sure:Nat) (dirty:Bool) (W:WK) (D:DK) (C:Option Addr) (L:List RecS) (n c:Nat) (hn:n=L.length) (hn1:n<=1000) (hL:∀ y∈L,y.r.L.length<=2000/\y.r.F.length<=100000) (hI:StoI x.abs W D) (h:writeS x.abs (recsR L)=none)
 (es:List Ref1) (k:Nat) (hk:es.length=k+1) (hk1:k<=100000) (hlast:(es[k]'(by omega)).x.abs=x.abs) (B:Option Addr) (cB:Nat) :
 Triple Tryz.prog 19 [pP p,.slice B (k+1) cB,.slice C n c] [StoP p w x sure dirty,WalM w q W,DiskM q D,x.rd,aa es,bY B (k+1) cB es] [TabA,Rd 8 C n (L.flatMap encR),RecsRd L] Unit (λ _=>.slice B (k+1) cB) (λ _=>True) (λ _=>[StoP p w x sure dirty,WalM w q W,DiskM q D,x.rd,aa es,bY B (k+1) cB es]):=by
 have hkl:k<es.length:=by omega
 have TC:=bp es k hkl (by rw [hlast];exact hI.st)
 have TW:=cF p w q x sure dirty W D C L n c hn hn1 hL hI h
 refine aT Tryz.func19 [vP p,vL B (k+1) cB,vL C n c] [.fact (StoP p w x sure dirty),.fact (WalM w q W),.fact (DiskM q D),.fact x.rd,.fact (aa es),.fact (RowO 29 1 B (k+1) cB (es.flatMap ae))] (λ E=>?_) ⟨trivial,trivial,trivial,trivial⟩
 refine aG ?_
 refine wO (k+1-1) ?_
 refine ev_stop (go_indexE (sz:=1) Tryz.tbs_ok (.inr 5) (k+1-1) rfl rfl rfl rfl rfl rfl (by omega) rfl (λ _ h=>RowO.rd h) (λ g10 o12 e11=>?_))
 subst e11
 refine aG ?_
 have l13:k+1-1<(es).length:=(by omega)
 refine ev_stop (go_loadE Tryz.tbs_ok (.inr 5) (k+1-1) 0 rfl rfl rfl rfl (λ _ h=>RowO.rd h) (by omega) (λ _=>rfl) (by omega) l13 (by decide) ?_)
 refine aG ?_
 refine aC TC [4] [] λ ⟨x14,x15⟩ h16=>?_
 refine aC TW [0,1,2,3] [.inl 0,.inl 1,.inl 2] λ _ h17=>?_
 have hA:x15.abs=x.abs:=by rw [<-hlast];exact h16
 have TV:=cA x14 x15 es[k].s es[k].d C L n c hn hn1 hL (by rw [hA];exact hI.st) (by rw [hA];exact h)
 refine aC TV [6,7] [.inl 1,.inl 2] λ _ h30=>?_
 refine aI (aJ ?_)
 exact ev_fin ⟨trivial,_,rfl,(),rfl,by trivial,aF [0,1,2,3,4,5]⟩
 all_goals skip
theorem ao:∀ (l m:List Rec) (x:Sta),writeS x (l++m)=match writeS x l with | none=>none | some y=>writeS y m
 | [],m,x=>rfl
 |
  r::l,m,x=>by
  simp only [List.cons_append,writeS]
  cases stepS x r with
  | none=>rfl
  | some y=>exact ao l m y
theorem bN {L:List RecS} {x y z:Sta} {i:Nat} (h1:writeS x (recsR (L.take i))=some y) (h:writeS x (recsR L)=some z) (hi:i<L.length):∃ zi,writeS y (recsR [L[i]])=some zi/\writeS x (recsR (L.take (i+1)))=some zi:=by
 obtain ⟨zi,hz⟩:=aU (i+1) h
 have e:(recsR L).take (i+1)=recsR (L.take i)++recsR [L[i]]:=by
  unfold recsR
  rw [<-List.map_take,<-List.take_append_getElem hi,List.map_append]
 have e2:recsR (L.take (i+1))=recsR (L.take i)++recsR [L[i]]:=by
  unfold recsR
  rw [<-List.take_append_getElem hi,List.map_append]
 rw [e,ao,h1] at hz
 exact ⟨zi,hz,by rw [e2,ao,h1];exact hz⟩
set_option maxHeartbeats 16000000 in
theorem co (p w q:Nat) (x:StaS) (sure:Nat) (dirty:Bool) {W W':WK} {D D':DK} (C:Option Addr) (L:List RecS) (n c:Nat) (hn:n=L.length) (hn1:n<=1000) (hnc:n<=c) (hL:∀ y∈L,y.r.L.length<=2000/\y.r.F.length<=100000) (hI:StoI x.abs W D) {z:Sta} (h:writeS x.abs (recsR L)=some z) (hR:WriteR L x.abs W D=(W',D',0,decide (L≠[])))
 (es:List Ref1) (k:Nat) (hk:es.length=k+1) (hk1:k<=100000) (hlast:(es[k]'(by omega)).x.abs=x.abs) (B:Option Addr) (cB:Nat) :
 Triple Tryz.prog 19 [pP p,.slice B (k+1) cB,.slice C n c] [StoP p w x sure dirty,WalM w q W,DiskM q D,x.rd,aa es,bY B (k+1) cB es] [TabA,Rd 8 C n (L.flatMap encR),RecsRd L] (StaS × List Ref1 × Option Addr × Nat) (λ (_,_,B',c')=>.slice B' (k+1+n) c') (λ (X,news,_,_)=>X.abs=z/\news.length=n/\∀ (j:Nat) (e:Ref1),news[j]? = some e->writeS x.abs (recsR (L.take (j+1)))=some e.x.abs) (λ (X,news,B',c')=>[StoP p w X sure (decide (L≠[]) || dirty),WalM w q W',DiskM q D',X.rd,aa (es++news),bY B' (k+1+n) c' (es++news)]):=by
 have hkl:k<es.length:=by omega
 have TC:=bp es k hkl (by rw [hlast];exact hI.st)
 have TW:=cj p w q x sure dirty C L n c hn hn1 hL hI h hR
 refine aT Tryz.func19 [vP p,vL B (k+1) cB,vL C n c] [.fact (StoP p w x sure dirty),.fact (WalM w q W),.fact (DiskM q D),.fact x.rd,.fact (aa es),.fact (RowO 29 1 B (k+1) cB (es.flatMap ae))] (λ E=>?_) ⟨trivial,trivial,trivial,trivial⟩
 refine aG ?_
 refine wO (k+1-1) ?_
 refine ev_stop (go_indexE (sz:=1) Tryz.tbs_ok (.inr 5) (k+1-1) rfl rfl rfl rfl rfl rfl (by omega) rfl (λ _ h=>RowO.rd h) (λ g10 o12 e11=>?_))
 subst e11
 refine aG ?_
 have l13:k+1-1<(es).length:=(by omega)
 refine ev_stop (go_loadE Tryz.tbs_ok (.inr 5) (k+1-1) 0 rfl rfl rfl rfl (λ _ h=>RowO.rd h) (by omega) (λ _=>rfl) (by omega) l13 (by decide) ?_)
 refine aG ?_
 refine aC TC [4] [] λ ⟨x14,x15⟩ h16=>?_
 refine aC TW [0,1,2,3] [.inl 0,.inl 1,.inl 2] λ x17 h18=>?_
 have hA:x15.abs=x.abs:=by rw [<-hlast];exact h16
 have TV:=bb x14 x15 es[k].s es[k].d C L n c hn hn1 hL (by rw [hA];exact hI.st) (z:=z) (by rw [hA];exact h)
 refine aC TV [6,7] [.inl 1,.inl 2] λ x30 h31=>?_
 refine aI (aI ?_)
 refine ev_stop (go_loopR [1,6,9,10,29,30,31,32,33,34,35,36,37,38,39,40,41,42,43,44,45,46,47,48,49,50,51,52,53] (λ (i,_,m2,B2,c2)=>[(1,vL B2 m2 c2),(9,vI (i:Nat))]) (λ (_,ES,m2,B2,c2)=>[(4,.fact (aa ES)),(5,.fact (RowO 29 1 B2 m2 c2 (ES.flatMap ae)))]) (λ (i,ES,m2,_,_)=>i<=n/\m2=k+1+i/\∃ news:List Ref1,news.length=i/\ES=es++news/\∀ (j:Nat) (e:Ref1),news[j]? = some e->writeS x.abs (recsR (L.take (j+1)))=some e.x.abs) (λ (i,_)=>n-i) ((0,es,k+1,some ⟨g10,o12,none⟩,cB):Nat × List Ref1 × Nat × Option Addr × Nat) ⟨Nat.zero_le _,rfl,[],rfl,(List.append_nil _).symm,λ j e q=>by cases q⟩ aS (λ x_ h_=>?_))
 obtain ⟨i,ES,m2,B2,c2⟩:=x_
 obtain ⟨hi,hm2,news,hnl,hES,hns⟩:=h_
 have hEl:ES.length=m2:=by rw [hES,List.length_append,hk,hnl,hm2]
 rcases Nat.lt_or_ge i n with him | him
 . have hil:i<L.length:=by omega
   have hlt:m2-1<ES.length:=by omega
   have hprev:writeS x.abs (recsR (L.take i))=some ES[m2-1].x.abs:=by
    rcases Nat.eq_zero_or_pos i with h0 | h0
    . have e1:ES[m2-1]=es[k]:=by
       simp only [hES]
       rw [List.getElem_append_left (by omega)]
       simp only [show m2-1=k by omega]
      rw [e1,hlast,h0,List.take_zero]
      rfl
    have e1:news[i-1]? = some ES[m2-1]:=by
     simp only [hES]
     rw [List.getElem_append_right (by omega)]
     simp only [show m2-1-es.length=i-1 by omega]
     exact List.getElem?_eq_getElem (by omega)
    have:=hns (i-1) _ e1
    rwa [show i-1+1=i by omega] at this
   obtain ⟨zi,hz1,hz2⟩:=bN (i:=i) hprev h hil
   have hok2:okS ES[m2-1].x.abs:=(writeS_some hprev hI.st).1
   have TC2:=bp ES (m2-1) hlt hok2
   refine aG ?_
   refine aJ ?_ (decide_eq_true (show (↑i:Int)<(↑n:Int) from (by omega)))
   refine wO (m2-1) ?_
   refine ev_stop (go_indexE (sz:=1) Tryz.tbs_ok (.inr 5) (m2-1) rfl rfl rfl rfl rfl rfl (by omega) rfl (λ _ h=>RowO.rd h) (λ g60 o62 e61=>?_))
   subst e61
   refine aG ?_
   have l63:m2-1<(ES).length:=(by omega)
   refine ev_stop (go_loadE Tryz.tbs_ok (.inr 5) (m2-1) 0 rfl rfl rfl rfl (λ _ h=>RowO.rd h) (by omega) (λ _=>rfl) (by omega) l63 (by decide) ?_)
   refine aG ?_
   refine aC TC2 [4] [] λ ⟨x64,x65⟩ h66=>?_
   refine wN (i+1) ?_
   refine ev_stop (go_back Tryz.tbs_ok (i) (i+1) (c) rfl rfl rfl rfl rfl ⟨_,rfl⟩ ⟨_,rfl⟩ rfl (by decide) (by omega) (by omega) (by omega) ?_)
   refine aG ?_
   have hA2:x65.abs=ES[m2-1].x.abs:=h66
   have hcut:(L.take (i+1)).drop i=[L[i]]:=by rw [<-List.take_append_getElem hil,List.drop_append_of_le_length (by rw [List.length_take];omega),List.drop_take,Nat.sub_self,List.take_zero];rfl
   have TV2:Triple Tryz.prog 13 [pP x64,.slice (backA C c i 8) (i+1-i) (c-i)] [ab x64 x65 ES[m2-1].s ES[m2-1].d,x65.rd,aa ES] [Rd 8 C n (L.flatMap encR),RecsRd L] StaS (λ _=>.int .i64 0) (λ X=>X.abs=zi) (λ X=>[Asn.tt,Asn.tt,aa (ES++[⟨x64,X,ES[m2-1].s,decide ([L[i]]≠[]) || ES[m2-1].d⟩])]) :=
    ((
     ((bb x64 x65 ES[m2-1].s ES[m2-1].d (backA C c i 8) [L[i]] (i+1-i) (c-i) (by rw [List.length_singleton];omega) (by omega) (λ y hy=>by rw [List.mem_singleton.1 hy];exact hL _ (List.getElem_mem hil)) (by rw [hA2];exact hok2) (z:=zi) (by rw [hA2];exact hz1)).frame [aa ES]).imp λ X g=>⟨X,rfl,g,λ _ q=>bL (e:=⟨x64,X,ES[m2-1].s,decide ([L[i]]≠[]) || ES[m2-1].d⟩) q⟩).reads λ Z hZ=>by
     simp only [List.mem_cons,List.not_mem_nil,or_false] at hZ
     rcases hZ with rfl | rfl
     . refine ⟨_,List.mem_cons_self,λ h q=>?_⟩
       have:=rd_part (lo:=i) (m:=i+1-i) (mx:=c) encR_len q (by omega) (by omega)
       rw [show i+(i+1-i)=i+1 by omega,hcut] at this
       exact this
     refine ⟨_,List.mem_cons_of_mem _ List.mem_cons_self,λ h q y hy=>?_⟩
     rw [List.mem_singleton.1 hy]
     exact q _ (List.getElem_mem hil))
   refine aC TV2 [8,9,4] [.inl 1,.inl 2] λ x80 h81=>?_
   refine aI ?_
   refine ev_new λ b82=>?_
   obtain ⟨E1,hE1⟩:∃ E1:Ref1,E1=⟨x64,x80,ES[m2-1].s,decide ([L[i]]≠[]) || ES[m2-1].d⟩:=⟨_,rfl⟩
   rw [<-hE1]
   refine ev_stop (bP Tryz.tbs_ok 5 (A:=some ⟨g60,o62,none⟩) (n:=m2) (c:=c2) (m:=1) (cs:=ES.flatMap ae) (news:=[pP x64]) (B:=Pt b82 29 [pP x64]) (.inr 10) (m2+1) ((ES++[E1]).flatMap ae) rfl (by rw [List.flatMap_append,hE1];rfl) rfl rfl rfl rfl rfl rfl rfl (by decide) rfl rfl (λ _ q=>Pt.rd q rfl) (by decide) (le_app (s:=m2+1) (by omega) rfl) (le_appb (s:=m2+1) (by omega) rfl (by decide)) (λ A2 c2=>by repeat (first | exact trivial | refine ⟨rfl,?_⟩)) (λ A3 c3 h3=>?_))
   refine aG ?_
   refine wN (i+1) ?_
   refine ev_fin (round_next ((i+1,ES++[E1],m2+1,A3,c3)) (?_:i+1<=n/\m2+1=k+1+(i+1)/\∃ news,news.length=i+1/\ES++[E1]=es++news/\∀ (j:Nat) (e:Ref1),news[j]? = some e->writeS x.abs (recsR (List.take (j+1) L))=some e.x.abs) (show n-(i+1)<n-i from (by omega)) aS)
   refine ⟨by omega,by omega,news++[E1],by rw [List.length_append,hnl];rfl,by rw [hES,List.append_assoc],λ j e hj=>?_⟩
   rcases Nat.lt_or_ge j i with hji | hji
   . rw [List.getElem?_append_left (by omega)] at hj
     exact hns j e hj
   rw [List.getElem?_append_right (by omega)] at hj
   have hj0:=(List.getElem?_eq_some_iff.1 hj).1
   rw [List.length_singleton] at hj0
   obtain rfl:j=i:=by omega
   rw [hnl,Nat.sub_self] at hj
   cases hj
   rw [hE1,hz2]
   exact congrArg some (Eq.symm ‹x80.abs=zi›)
 obtain rfl:i=n:=by omega
 refine aG ?_
 refine aI ?_ (decide_eq_false (show ¬(↑i:Int)<(↑i:Int) from (by omega)))
 refine ev_fin (go Tryz.tbs_ok 1000 ?_)
 subst hES hm2
 exact ev_fin ⟨trivial,_,rfl,(x17,news,B2,c2),rfl,⟨‹_›,hnl,hns⟩,Frm.sel [0,1,2,3,4,5] rfl (by decide)⟩
theorem Live.appendsS {W:WK} {D:DK} {init:List (List BA)} {last:List BA} {j:Nat} (H:Live W D init last j) (hf:D.fails=none) (h9:W.b+W.t<999999999) (hseg:16384*(W.t-1)<=(FB init.flatten).size) (hbig:(FB (init.flatten++last)).size<=200000) {ps:List BA} (hp:small ps) (hn:ps≠[]) (hr:(sumD D.files:Int)+(FB ps).size<=D.most) :
 ∃ W' D' init' last' j',appW W D ps=(W',D',0)/\Live W' D' init' last' j'/\init'.flatten++last'=(init.flatten++last)++ps/\16384*(W'.t-1)<=(FB init'.flatten).size/\D'.fails=none/\D'.most=D.most/\W'.b=W.b/\init.flatten.length+j<=init'.flatten.length+j'/\D'.starts=D.starts:=by
 have hlen:=H.len
 have hsl:=segs_le W.b W.t
 rcases Nat.eq_zero_or_pos W.t with h0 | h0
 . obtain ⟨_,hT,_⟩:=H.torn
   obtain ⟨_,rfl⟩:=hT.zero h0
   obtain rfl:j=0:=by have:=H.few;simpa using this
   obtain ⟨D',h1,h2,h3⟩:=H.first hf h0 (by omega) (by omega) hp hn hr
   exact ⟨_,D',init,ps,0,h1,h2,by rw [List.append_nil],by simp,h3.fails,h3.most,rfl,Nat.le_refl _,h3.starts⟩
 by_cases hz:(FB last).size<16384
 . obtain ⟨D',h1,h2,h3,_⟩:=H.more hf h0 hz hp hn hr
   exact ⟨W,D',init,last++ps,j,h1,h2,by rw [List.append_assoc],hseg,h3.fails,h3.most,rfl,Nat.le_refl _,h3.starts⟩
 have hpre:=FB_pre init.flatten last
 obtain ⟨D',Ps,h1,h2,h3,h4⟩:=H.grows hf h0 hz (by omega) (by omega) hp hn hr
 have hj:=H.few
 refine ⟨_,D',Ps,ps,0,h1,h2,by rw [h4],?_,h3.fails,h3.most,rfl,by rw [h4,List.length_append];omega,h3.starts⟩
 rw [h4,FB_size_append]
 dsimp only
 omega
structure HoldS (x:Sta) (W:WK) (D:DK) (rs:List Rec) (m b k i:Nat):Prop where
 st:okS x
 fold:foldS noSta rs=some x
 may:∀ r∈rs,mayR r=true
 log:∃ init last j,Live W D init last j/\init.flatten++last=rs.map recB/\16384*(W.t-1)<=(FB init.flatten).size/\m<=init.flatten.length+j
 fails:D.fails=none
 most:D.most=1048576
 room:roomL rs<=b
 few:W.b<=k
 lo:0<=D.starts
 hi:D.starts<=i
theorem HoldS.hold {x:Sta} {W:WK} {D:DK} {rs:List Rec} {m b k i:Nat} (h:HoldS x W D rs m b k i):Hold x W D rs b k:=by
 obtain ⟨init,last,j,h1,h2,h3,_⟩:=h.log
 exact ⟨h.st,h.fold,h.may,⟨init,last,j,h1,h2,h3⟩,h.fails,h.most,h.room,h.few⟩
theorem HoldS.more {x:Sta} {W:WK} {D:DK} {rs:List Rec} {m b k i b' k' i':Nat} (h:HoldS x W D rs m b k i) (hb:b<=b') (hk:k<=k') (hi:i<=i'):HoldS x W D rs m b' k' i':=⟨h.st,h.fold,h.may,h.log,h.fails,h.most,Nat.le_trans h.room hb,Nat.le_trans h.few hk,h.lo,by have:=h.hi;omega⟩
theorem HoldS.new:HoldS noSta exW exD [] 0 0 0 0:=⟨okS_no,rfl,λ _ q=>(by cases q),⟨[],[],0,ex_live,rfl,Nat.zero_le _,Nat.zero_le _⟩,rfl,rfl,Nat.le_refl _,Nat.le_refl _,Int.le_refl _,Int.le_refl _⟩
theorem HoldS.write {x z:Sta} {W:WK} {D:DK} {rs:List Rec} {m b k i:Nat} (h:HoldS x W D rs m b k i) {L:List RecS} (hb:b+(47*L.length+30*entsR L)<=200000) (hk:k<=1000000) (hw:writeS x (recsR L)=some z):∃ W' D',WriteR L x W D=(W',D',0,decide (L≠[]))/\HoldS z W' D' (rs++recsR L) m (b+(47*L.length+30*entsR L)) k i:=by
 unfold WriteR
 rw [hw]
 dsimp only
 by_cases h0:L.length=0
 . obtain rfl:L=[]:=List.eq_nil_of_length_eq_zero h0
   cases hw
   rw [if_pos (show ([]:List RecS).length=0 from rfl)]
   refine ⟨W,D,by simp,?_⟩
   rw [show recsR []=[] from rfl,List.append_nil]
   exact h.more (Nat.le_add_right _ _) (Nat.le_refl _) (Nat.le_refl _)
 rw [if_neg h0]
 obtain ⟨g1,_,g3,g4⟩:=writeS_some hw h.st
 have hrw:=room_write hw
 rw [sumE_recs,show (recsR L).length=L.length by unfold recsR;exact List.length_map _] at hrw
 obtain ⟨init,last,j,hL,hl,hseg,hm⟩:=h.log
 obtain ⟨hb1,hb2⟩:=h.hold.bytes
 have hsm:=recs_room g4
 have h15:=hL.few15.2
 have hfw:=h.few
 obtain ⟨W',D',init',last',j',a1,a2,a3,a4,a5,a6,a7,a8,a9⟩:=hL.appendsS h.fails (by omega) hseg (by rw [hl];omega) (recs_small g4) (by intro e;exact h0 (by have:=congrArg List.length e;unfold recsR at this;simpa using this)) (by rw [h.most];omega)
 have hne:L≠[]:=λ e=>h0 (by rw [e];rfl)
 refine ⟨W',D',by rw [a1];simp [hne],g1,by rw [foldS_append,h.fold];exact g3,λ r hr=>?_,⟨init',last',j',a2,by rw [a3,hl,List.map_append],a4,by omega⟩,a5,by rw [a6];exact h.most,by rw [roomL_append];have:=h.room;omega,by rw [a7];exact h.few,by rw [a9];exact h.lo,by rw [a9];exact h.hi⟩
 rcases List.mem_append.1 hr with hr | hr
 . exact h.may r hr
 exact g4 r hr
theorem HoldS.sync {w q:Nat} {x:StaS} {sure:Nat} {dirty:Bool} {W:WK} {D:DK} {rs:List Rec} {m b k i:Nat} (h:HoldS x.abs W D rs m b k i) (hs:dirty=false->sure=x.F.length/\m=rs.length):∃ D',SyncR w q x sure dirty W D=((x.F.length,false),(W,D'),0)/\HoldS x.abs W D' rs rs.length b k i:=by
 obtain ⟨init,last,j,hL,hl,hseg,hm⟩:=h.log
 unfold SyncR
 cases dirty with
 |
  false =>
  obtain ⟨e1,e2⟩:=hs rfl
  rw [if_pos rfl,e1]
  exact ⟨D,rfl,⟨h.st,h.fold,h.may,⟨init,last,j,hL,hl,hseg,by rw [<-e2];exact hm⟩,h.fails,h.most,h.room,h.few,h.lo,h.hi⟩⟩
 |
  true =>
  rw [if_neg (by decide)]
  have hlen:init.flatten.length+last.length=rs.length:=by
   have:=congrArg List.length hl
   rwa [List.length_append,List.length_map] at this
  rcases Nat.eq_zero_or_pos W.t with h0 | h0
  . have e:Proofs.YtnbaejindfillaaGreatDoor.syncW W D=(W,D,0):=by
     unfold Proofs.YtnbaejindfillaaGreatDoor.syncW
     rw [hL.ask,if_neg (by decide),if_pos h0]
    obtain ⟨_,hT,_⟩:=hL.torn
    obtain ⟨_,rfl⟩:=hT.zero h0
    rw [e,if_neg (by simp)]
    exact ⟨D,rfl,⟨h.st,h.fold,h.may,⟨init,[],j,hL,hl,hseg,by rw [<-hlen];simp⟩,h.fails,h.most,h.room,h.few,h.lo,h.hi⟩⟩
  obtain ⟨D',h1,h2,h3⟩:=hL.syncs h.fails h0
  rw [h1,if_neg (by simp)]
  exact ⟨D',rfl,⟨h.st,h.fold,h.may,⟨init,last,_,h2,hl,hseg,by omega⟩,h3.fails,by rw [h3.most];exact h.most,h.room,h.few,by rw [h3.starts];exact h.lo,by rw [h3.starts];exact h.hi⟩⟩
theorem HoldS.ck {x:Sta} {W:WK} {D:DK} {rs:List Rec} {m b k i:Nat} (h:HoldS x W D rs m b k i) (hb:b<=200000) (hk:k<=1000000):∃ W' D',ckW W D ((ckR x).map recB)=(W',D',0)/\HoldS x W' D' (ckR x) (ckR x).length 10475 (k+16) i:=by
 obtain ⟨init,last,j,hL,hl,_⟩:=h.log
 obtain ⟨hb1,_⟩:=h.hold.bytes
 have hm:=ck_may h.st
 have h1:=recs_room hm
 have h2:=ck_room h.st
 have h15:=hL.few15.2
 have hfw:=h.few
 obtain ⟨D',a1,a2,a3,a4⟩:=hL.anew h.fails (by omega) (recs_small hm) (by rw [h.most];omega)
 have hst:=bM W D ((ckR x).map recB)
 rw [a1] at hst
 dsimp only at hst
 exact ⟨_,D',a1,⟨h.st,ck_fold h.st,hm,⟨_,_,_,a2,by simp,by simp,by simp⟩,a3,by rw [a4];exact h.most,h2,by dsimp only;omega,by rw [hst];exact h.lo,by rw [hst];exact h.hi⟩⟩
theorem HoldS.crash {x:Sta} {W:WK} {D:DK} {rs:List Rec} {m b k i:Nat} (h:HoldS x W D rs m b k i) (K:List Int) (hpre:∀ J,m<=J->J<=rs.length->∃ y,foldS noSta (rs.take J)=some y/\okS y) :
 ∃ D1 D2 D3 W3 J y,crashD D K=(D1,0)/\okD D1/\D1.starts=D.starts/\startD D1=(D2,0)/\okD D2/\openD D2=(D3,0,W3,(rs.take J).map recB)/\m<=J/\J<=rs.length/\foldS noSta (rs.take J)=some y/\HoldS y W3 D3 (rs.take J) J b k (i+1):=by
 obtain ⟨init,last,j,hL,hl,hseg,hm⟩:=h.log
 obtain ⟨s,hT,hjs⟩:=hL.torn
 have ec:crashD D K=(⟨D.most,D.starts,true,crashF D.files K,none,D.keep⟩,0):=by unfold crashD;rw [hL.up];rfl
 have hok:=crash_ok hL.ok K
 rw [ec] at hok
 obtain ⟨l',h5,h6⟩:=hT.crash hL.ok.sure K
 have e2:startD (⟨D.most,D.starts,true,crashF D.files K,none,D.keep⟩:DK)=(⟨D.most,D.starts+1,false,crashF D.files K,none,D.keep⟩,0):=by unfold startD;rfl
 have hok2:okD (⟨D.most,D.starts+1,false,crashF D.files K,none,D.keep⟩:DK):=by
  have:=start_ok hok
  rwa [e2] at this
 obtain ⟨k2,D',hk2,hkl0,hmax,ho,hf,hmo,_,hLv⟩:=Torn.opens (D:=⟨D.most,D.starts+1,false,crashF D.files K,none,D.keep⟩) hok2 rfl rfl h5 (λ _=>⟨by omega,Int.le_refl _⟩)
 have hjk:=hmax j hL.few (λ ht=>by
  have:=h6 ht
  have:=hjs ht
  omega)
 have hlen:init.flatten.length+last.length=rs.length:=by
  have:=congrArg List.length hl
  rwa [List.length_append,List.length_map] at this
 have hcut:init.flatten++last.take k2=(rs.take (init.flatten.length+k2)).map recB:=by
  rw [List.map_take,<-hl];exact (List.take_length_add_append _).symm
 obtain ⟨y,hy1,hy2⟩:=hpre (init.flatten.length+k2) (by omega) (by omega)
 have hLk:=hLv k2 (Nat.le_refl _) (λ ht=>Int.ofNat_le.2 (hkl0 ht))
 refine ⟨_,_,D',_,init.flatten.length+k2,y,ec,hok,rfl,e2,hok2,by rw [ho,hcut],by omega,by omega,hy1,hy2,hy1,λ r hr=>h.may r (List.mem_of_mem_take hr),⟨init,last.take k2,k2,hLk,hcut,hseg,Nat.le_refl _⟩,hf,by rw [hmo];exact h.most,?_,h.few,?_,?_⟩
 . have:∀ (l:List Rec) (n:Nat),roomL (l.take n)<=roomL l:=λ l n=>by
    have e:=roomL_append (l.take n) (l.drop n)
    rw [List.take_append_drop] at e
    omega
   exact Nat.le_trans (this _ _) h.room
 . have:=hLk.st
   have:=h.lo
   dsimp only at *
   omega
 have:=hLk.st
 have:=h.hi
 dsimp only at *
 omega
def GapS (x:Sta) (W:WK) (D:DK) (es:List Ref1) (sure:Nat) (dirty:Bool) (l:List ActA) (i:Nat):Prop :=
 ∃ rs m b k,HoldS x W D rs m b k i/\b<=10475+av (l.take i)/\k<=16*i/\1<=es.length/\es.length+m=rs.length+1/\(∀ (j:Nat) (e:Ref1),es[j]? = some e->foldS noSta (rs.take (m+j))=some e.x.abs/\okS e.x.abs)/\(dirty=false->sure=x.F.length/\m=rs.length)
theorem GapS.new {l:List ActA} {e:Ref1} (h:e.x.abs=noSta):GapS noSta exW exD [e] 0 false l 0 :=
 ⟨[],0,0,0,HoldS.new,Nat.zero_le _,Nat.zero_le _,Nat.le_refl _,rfl,λ j e' q=>by
  rw [List.mem_singleton.1 (List.mem_of_getElem? q),h]
  exact ⟨by simp [foldS],okS_no⟩,λ _=>⟨rfl,rfl⟩⟩
theorem GapS.i {x:Sta} {W:WK} {D:DK} {es:List Ref1} {sure:Nat} {dirty:Bool} {l:List ActA} {i:Nat} (h:GapS x W D es sure dirty l i):StoI x W D:=by
 obtain ⟨_,_,_,_,h,_⟩:=h
 exact h.hold.i
theorem GapS.last {x:Sta} {W:WK} {D:DK} {es:List Ref1} {sure:Nat} {dirty:Bool} {l:List ActA} {i k:Nat} (h:GapS x W D es sure dirty l i) (hk:es.length=k+1):(es[k]'(by omega)).x.abs=x:=by
 obtain ⟨rs,m,b,k',h1,_,_,_,h2,h3,_⟩:=h
 have:=(h3 k _ (List.getElem?_eq_getElem (by omega))).1
 rw [List.take_of_length_le (by omega),h1.fold] at this
 exact (Option.some.inj this).symm
theorem GapS.len {x:Sta} {W:WK} {D:DK} {es:List Ref1} {sure:Nat} {dirty:Bool} {l:List ActA} {i:Nat} (h:GapS x W D es sure dirty l i) (hr:∀ k,av (l.take k)<=56280):es.length<=100000:=by
 obtain ⟨rs,m,b,k',h1,h2,_,_,h3,_⟩:=h
 have:=h1.hold.len
 have:=hr i
 omega
theorem GapS.more {x:Sta} {W:WK} {D:DK} {es:List Ref1} {sure:Nat} {dirty:Bool} {l:List ActA} {i:Nat} (h:GapS x W D es sure dirty l i) (hi:i<l.length):GapS x W D es sure dirty l (i+1):=by
 obtain ⟨rs,m,b,k',h1,h2,h3,h4,h5,h6,h7⟩:=h
 have:=au hi
 exact ⟨rs,m,b,k',h1.more (Nat.le_refl _) (Nat.le_refl _) (Nat.le_succ _),by omega,by omega,h4,h5,h6,h7⟩
theorem GapS.write {x z:Sta} {W:WK} {D:DK} {es:List Ref1} {sure:Nat} {dirty:Bool} {l:List ActA} {i:Nat} (h:GapS x W D es sure dirty l i) (hi:i<l.length) (hr:∀ k,av (l.take k)<=56280) (hn:l.length<=40) (hw:writeS x (recsR l[i].L)=some z) :
 ∃ W' D',WriteR l[i].L x W D=(W',D',0,decide (l[i].L≠[]))/\∀ news:List Ref1,news.length=l[i].L.length->(∀ (j:Nat) (e:Ref1),news[j]? = some e->writeS x (recsR (l[i].L.take (j+1)))=some e.x.abs)->GapS z W' D' (es++news) sure (decide (l[i].L≠[]) || dirty) l (i+1):=by
 obtain ⟨rs,m,b,k',h1,h2,h3,h4,h5,h6,h7⟩:=h
 have e1:=au hi
 have e2:=hr (i+1)
 obtain ⟨W',D',g1,g2⟩:=h1.write (by omega) (by omega) hw
 refine ⟨W',D',g1,λ news hl hns=>⟨rs++recsR l[i].L,m,_,k',g2.more (Nat.le_refl _) (Nat.le_refl _) (Nat.le_succ _),by omega,by omega,by rw [List.length_append];omega,by rw [List.length_append,List.length_append,hl,show (recsR l[i].L).length=l[i].L.length by unfold recsR;exact List.length_map _];omega,λ j e hj=>?_,λ q=>?_⟩⟩
 . rcases Nat.lt_or_ge j es.length with q | q
   . rw [List.getElem?_append_left q] at hj
     rw [List.take_append_of_le_length (by omega)]
     exact h6 j e hj
   rw [List.getElem?_append_right q] at hj
   have g:=writeS_some (hns _ e hj) h1.st
   rw [show m+j=rs.length+(j-es.length+1) by omega,List.take_length_add_append,foldS_append,h1.fold,show (recsR l[i].L).take (j-es.length+1)=recsR (l[i].L.take (j-es.length+1)) by unfold recsR;exact List.map_take.symm]
   exact ⟨g.2.2.1,g.1⟩
 rw [Bool.or_eq_false_iff] at q
 have h0:l[i].L=[]:=by simpa using q.1
 rw [h0] at hw ⊢
 cases hw
 rw [show recsR []=[] from rfl,List.append_nil]
 exact h7 q.2
theorem GapS.sync {w q:Nat} {x:StaS} {W:WK} {D:DK} {es:List Ref1} {sure:Nat} {dirty:Bool} {l:List ActA} {i:Nat} (h:GapS x.abs W D es sure dirty l i) (hi:i<l.length) (hr:∀ k,av (l.take k)<=56280) (hn:l.length<=40) :
 ∃ D1,SyncR w q x sure dirty W D=((x.F.length,false),(W,D1),0)/\StoI x.abs W D1/\(∀ e:Ref1,e.x.abs=x.abs->GapS x.abs W D1 [e] x.F.length false l (i+1))/\∃ W2 D2,ckW W D1 ((ckR x.abs).map recB)=(W2,D2,0)/\∀ e:Ref1,e.x.abs=x.abs->GapS x.abs W2 D2 [e] x.F.length false l (i+1):=by
 obtain ⟨rs,m,b,k',h1,h2,h3,h4,h5,h6,h7⟩:=h
 have e1:=au hi
 have e2:=hr i
 obtain ⟨D1,g1,g2⟩:=h1.sync (w:=w) (q:=q) h7
 obtain ⟨W2,D2,g3,g4⟩:=g2.ck (by omega) (by omega)
 have one:∀ (rs:List Rec) (e:Ref1),foldS noSta rs=some x.abs->e.x.abs=x.abs->∀ (j:Nat) (e':Ref1),[e][j]? = some e'->foldS noSta (rs.take (rs.length+j))=some e'.x.abs/\okS e'.x.abs:=λ rs e hf he j e' q=>by
  rw [List.mem_singleton.1 (List.mem_of_getElem? q),he,List.take_of_length_le (Nat.le_add_right _ _)]
  exact ⟨hf,g2.st⟩
 exact ⟨D1,g1,g2.hold.i,λ e he=>⟨rs,rs.length,b,k',g2.more (Nat.le_refl _) (Nat.le_refl _) (Nat.le_succ _),by omega,by omega,Nat.le_refl _,Nat.add_comm _ _,one rs e g2.fold he,λ _=>⟨rfl,rfl⟩⟩,
  W2,D2,g3,λ e he=>⟨ckR x.abs,(ckR x.abs).length,10475,k'+16,g4.more (Nat.le_refl _) (Nat.le_refl _) (Nat.le_succ _),by omega,by omega,Nat.le_refl _,Nat.add_comm _ _,one _ e g4.fold he,λ _=>⟨rfl,rfl⟩⟩⟩
theorem GapS.crash {x:Sta} {W:WK} {D:DK} {es:List Ref1} {sure:Nat} {dirty:Bool} {l:List ActA} {i:Nat} (h:GapS x W D es sure dirty l i) (hi:i<l.length) (hr:∀ k,av (l.take k)<=56280) (hn:l.length<=40) (K:List Int) :
 ∃ D1 D2 D3 W3 rs y,okD D/\crashD D K=(D1,0)/\okD D1/\0<=D1.starts/\D1.starts<=1000000000/\startD D1=(D2,0)/\okD D2/\openD D2=(D3,0,W3,rs.map recB)/\(∀ r∈rs,mayR r=true)/\rs.length<=100000/\foldS noSta rs=some y/\okS y/\(∃ e∈es,e.x.abs=y)/\∀ e:Ref1,e.x.abs=y->GapS y W3 D3 [e] y.F.length false l (i+1):=by
 obtain ⟨rs,m,b,k',h1,h2,h3,h4,h5,h6,h7⟩:=h
 have e1:=au hi
 have e2:=hr i
 have hle:=h1.hold.len
 obtain ⟨D1,D2,D3,W3,J,y,g1,g2,g3,g4,g5,g6,g7,g8,g9,g10⟩:=h1.crash K λ J q1 q2=>by
  have:=h6 (J-m) _ (List.getElem?_eq_getElem (show J-m<es.length by omega))
  rw [show m+(J-m)=J by omega] at this
  exact ⟨_,this⟩
 have hlo:=h1.lo
 have hhi:=h1.hi
 have hl:(rs.take J).length=J:=by rw [List.length_take];omega
 refine ⟨D1,D2,D3,W3,rs.take J,y,h1.hold.i.dk,g1,g2,by omega,by omega,g4,g5,g6,g10.may,by omega,g9,g10.st,⟨es[J-m]'(by omega),List.getElem_mem _,?_⟩,λ e he=>⟨rs.take J,J,b,k',g10,by omega,by omega,Nat.le_refl _,by rw [hl];exact Nat.add_comm _ _,λ j e' q=>?_,λ _=>⟨rfl,hl.symm⟩⟩⟩
 . have:=(h6 (J-m) _ (List.getElem?_eq_getElem (show J-m<es.length by omega))).1
   rw [show m+(J-m)=J by omega,g9] at this
   exact (Option.some.inj this).symm
 rw [List.mem_singleton.1 (List.mem_of_getElem? q),he,List.take_of_length_le (by omega)]
 exact ⟨g9,g10.st⟩
theorem GapS.pos {x:Sta} {W:WK} {D:DK} {es:List Ref1} {sure:Nat} {dirty:Bool} {l:List ActA} {i:Nat} (h:GapS x W D es sure dirty l i):1<=es.length:=by
 obtain ⟨_,_,_,_,_,_,_,h,_⟩:=h
 exact h
theorem bD {b c:Nat} {X:StaS} {h:Hp} (q:Asn.starH [Pt b 29 [pP c],ab c X 0 false,X.rd] h):Asn.starH [Asn.tt,aa [⟨c,X,0,false⟩],RowO 29 1 (some ⟨b,0,none⟩) 1 1 ([(⟨c,X,0,false⟩:Ref1)].flatMap ae)] h:=by
 obtain ⟨h1,h2,d,a1,a2,p1,p2⟩:=q
 refine ⟨Hp.emp,h,Hp.emp_dis _,Hp.emp_le _,Hp.le_refl _,trivial,h2,h1,Hp.dis.symm d,a2,a1,starH_one.2 p2,starH_one.2 ?_⟩
 exact ⟨rfl,p1.2,b,0,_,rfl,p1.1,Nat.le_refl _,by decide,by simp,by simp [ae]⟩
theorem aA {a:Addr} {mx lo sz:Nat}:(backA (some a) mx lo sz).isNone=false:=by
 unfold backA
 split<;>rfl
theorem bH {es:List Ref1} {A:Option Addr} {n c j n' c':Nat} {h:Hp} (hn:n=es.length) (hj:j<es.length) (hn':n'=1) (hc':c'=c-j) (q:Asn.starH [aa es,RowO 29 1 A n c (es.flatMap ae)] h):Asn.starH [aa [es[j]],RowO 29 1 (backA A c j 1) n' c' ([es[j]].flatMap ae)] h:=by
 obtain ⟨h1,h2,d,a1,a2,p1,p2⟩:=q
 have p2:=starH_one.1 p2
 have hc:=RowO.cap p2
 have e1:(es.drop j).take 1=[es[j]]:=by rw [List.drop_eq_getElem_cons hj];rfl
 have q1:=ca j 1 p1
 have q2:=RowO.sub j 1 p2 (by omega)
 rw [flat_drop aZ,flat_take aZ,e1] at q2
 rw [e1] at q1
 subst hn' hc'
 refine ⟨h1,h2,d,a1,a2,q1,starH_one.2 ?_⟩
 unfold backA
 rw [if_neg (by omega)]
 exact q2
theorem bX (p w q:Nat) (x:StaS) (sure:Nat) (dirty:Bool) {W W':WK} {D D':DK} (C:Option Addr) (L:List RecS) (n c:Nat) (hn:n=L.length) (hn1:n<=1000) (hnc:n<=c) (hL:∀ y∈L,y.r.L.length<=2000/\y.r.F.length<=100000) (hI:StoI x.abs W D) {z:Sta} (h:writeS x.abs (recsR L)=some z) (hR:WriteR L x.abs W D=(W',D',0,decide (L≠[])))
 (es:List Ref1) (k:Nat) (hk:es.length=k+1) (hk1:k<=100000) (hlast:(es[k]'(by omega)).x.abs=x.abs) (B:Option Addr) (cB:Nat) :
 Triple Tryz.prog 19 [pP p,.slice B (k+1) cB,.slice C n c] [StoP p w x sure dirty,WalM w q W,DiskM q D,x.rd,aa es,RowO 29 1 B (k+1) cB (es.flatMap ae)] [TabA,Rd 8 C n (L.flatMap encR),RecsRd L] (StaS × List Ref1 × Nat × Nat × Nat) (λ (_,_,g,o,c')=>.slice (some ⟨g,o,none⟩) (k+1+n) c') (λ (X,news,_,_,_)=>X.abs=z/\news.length=n/\∀ (j:Nat) (e:Ref1),news[j]? = some e->writeS x.abs (recsR (L.take (j+1)))=some e.x.abs) (λ (X,news,g,o,c')=>[StoP p w X sure (decide (L≠[]) || dirty),WalM w q W',DiskM q D',X.rd,aa (es++news),RowO 29 1 (some ⟨g,o,none⟩) (k+1+n) c' ((es++news).flatMap ae)]) :=
 (co p w q x sure dirty C L n c hn hn1 hnc hL hI h hR es k hk hk1 hlast B cB).imp' λ (X,news,B',c') h' g r=>by
  obtain ⟨_,_,gB,oB,_,rfl,_⟩:=ap (A:=bY B' (k+1+n) c' (es++news)) (by simp) r
  exact ⟨(X,news,gB,oB,c'),rfl,g,r⟩
theorem bu {P:Program} {E:Entry} {Q:Exit->St->Prop} {todo:List It} {st:St} {es:List Ref1} {A:Option Addr} {n c n' c':Nat} (t j:Nat) (hn:n=es.length) (hj:j<es.length) (hn':n'=1) (hc':c'=c-j) (h6:asnAt st.res 6=some (aa es)) (h7:asnAt st.res 7=some (RowO 29 1 A n c (es.flatMap ae)))
 (hb:blkLe st.res (place st.res [6,7] [.fact (aa [es[j]]),.fact (RowO 29 1 (backA A c j 1) n' c' ([es[j]].flatMap ae))])) (hR:asnAt (place st.res [6,7] [.fact (aa [es[j]]),.fact (RowO 29 1 (backA A c j 1) n' c' ([es[j]].flatMap ae))]) 7=some (RowO 29 1 (backA A c j 1) n' c' ([es[j]].flatMap ae)))
 (x6:st.fr[6]? = some (vL (backA A c j 1) n' c')) (xt:∀ y,(st.fr.set 6 y)[t]? = some (vL (backA A c j 1) n' c'))
 (h:∀ g o,Go P E todo ⟨(st.fr.set 6 (vL (some ⟨g,o,none⟩) n' c')).set t (vL (some ⟨g,o,none⟩) n' c'),place st.res [6,7] [.fact (aa [es[j]]),.fact (RowO 29 1 (some ⟨g,o,none⟩) n' c' ([es[j]].flatMap ae))],st.ro⟩ Q):outSat P E Q (.stop todo st):=by
 refine ev_stop (go_ghost [6,7] (X:=Unit) (λ _=>[.fact (aa [es[j]]),.fact (RowO 29 1 (backA A c j 1) n' c' ([es[j]].flatMap ae))]) (M:=[aa es,RowO 29 1 A n c (es.flatMap ae)]) (by simp only [List.map_cons,List.map_nil,h6,h7]) (by simp) (λ h q=>⟨(),bH hn hj hn' hc' q⟩) (λ _=>newsOk_fact (newsOk_fact (newsOk_nil _))) (λ _=>hb) (λ _=>?_))
 refine go_know (.inr 7) _ hR (p:=∃ g o,backA A c j 1=some ⟨g,o,none⟩) (λ h p=>by
  obtain ⟨_,_,g,o,_,q,_⟩:=p
  exact ⟨g,o,q⟩) λ ⟨g,o,hA⟩=>?_
 refine go_slot 6 _ (vL (some ⟨g,o,none⟩) n' c') x6 rfl (by rw [hA]) (λ _=>trivial) (go_slot t _ (vL (some ⟨g,o,none⟩) n' c') (xt _) rfl (by rw [hA]) (λ _=>trivial) ?_)
 rw [hA]
 exact h g o
theorem aw (p w:Nat) (x:StaS) (sure:Nat) (dirty:Bool) (hx:okS x.abs) (es:List Ref1) (k:Nat) (hk:k<es.length) (he:es[k].x.abs=x.abs):Triple Tryz.prog 24 [pP p,.pointer (some ⟨es[k].p,0,none⟩)] [aa es,StoP p w x sure dirty] [x.rd] Unit (λ _=>.bool true) (λ _=>True) (λ _=>[aa es,StoP p w x sure dirty]):=by
 have:=ce p w x sure dirty hx es k hk
 rwa [decide_eq_true (congrArg Sta.R he.symm)] at this
theorem bK {P:Program} {E:Entry} {Q:Exit->St->Prop} {f:FuncId} {svs:List SV} {d:Option Tmp} {todo:List It} {st:St} {b t:Nat} {cells:List SV} (i:Nat) (A:Asn) (hi:st.res[i]? = some (.box b t cells)) (hA:∀ h,(Pt b t (SV.denL cells)).holds h->A.holds h)
 (hb:blkLe st.res (place st.res [i] [.dead (some b),.fact A])) (h:outSat P E Q (.call f svs d todo ⟨st.fr,place st.res [i] [.dead (some b),.fact A],st.ro⟩)):outSat P E Q (.call f svs d todo st) :=
 ev_ghost [i] (M:=[Pt b t (SV.denL cells)]) (X:=Unit) (λ _=>[.dead (some b),.fact A]) (by simp [asnAt,hi,Res.asn]) (by simp) (λ h p=>⟨(),Hp.emp,h,Hp.emp_dis _,Hp.emp_le _,Hp.le_refl _,trivial,starH_one.2 (hA h (starH_one.1 p))⟩) (λ _ x hx=>by
  simp only [List.mem_cons,List.not_mem_nil,or_false] at hx
  rcases hx with rfl | rfl<;>trivial) (λ _=>hb) (λ _=>h)
theorem cJ (r:Nat):Triple Tryz.prog 18 [pP r] [ab r zeroSt 0 false] [TabA] (Nat × StaS) (λ (c,_)=>.pointer (some ⟨c,0,none⟩)) (λ (_,X)=>X.abs=noSta) (λ (c,X)=>[ab r zeroSt 0 false,ab c X 0 false,X.rd]) :=
 (bT r zeroSt 0 false okS_no).reads λ X hX=>by
  rw [List.mem_singleton.1 hX]
  exact ⟨TabA,List.mem_singleton_self _,λ h _=>zero_rd h⟩
set_option maxHeartbeats 16000000 in
theorem bI (A:Option Addr) (l:List ActA) (n c:Nat) (hn:n=l.length) (hn1:n<=9223372036854775807) (hB:∀ x∈l,∀ y∈x.L,y.r.L.length<=140737488351232) (hin:∀ x∈l,0<=x.k/\x.k<256) (hcap:∀ x∈l,x.L.length<=x.c) :
 Triple Tryz.prog 4 [.slice A n c] [] [TabA,Rd 3 A n (l.flatMap encA),ActsA l] Unit (λ _=>.bool true) (λ _=>True) (λ _=>[]):=by
 have TG:=(beyondT A l n c 40 hn hn1 hB).reads (N':=[TabA,Rd 3 A n (l.flatMap encA),ActsA l]) (λ X hX=>⟨X,List.mem_cons_of_mem _ hX,λ _ q=>q⟩)
 have TL:=livesT
 have TO:=openedT
 refine aT Tryz.func4 [vL A n c] [] (λ E=>?_) ⟨trivial,trivial⟩
 refine aG ?_
 refine aC TG [] [.inl 0,.inl 1,.inl 2] λ x10 h11=>?_
 refine ev_if (λ h12=>?_) (λ h12=>?_)
 refine aG ?_
 refine aC TL [] [.inl 0] λ _ h13=>?_
 refine ev_fin ⟨trivial,_,rfl,(()),rfl,(by trivial),Frm.nil _⟩
 refine aG ?_
 refine aC TO [] [.inl 0] λ ⟨x14,x15,x16,x17⟩ h18=>?_
 refine ev_new λ b19=>?_
 have hX0:x17.abs=noSta := ‹_›
 have hF0:x17.F=[]:=congrArg Sta.F hX0
 obtain ⟨hn40,hfit,hent⟩:=h11 h12
 have hroom:=cc hfit (by omega) hent
 refine bK 4 (ab b19 zeroSt 0 false) rfl (λ _ p=>p) aL ?_
 have TC:=cJ b19
 refine aC TC [5] [.inl 0] λ ⟨x20,x21⟩ h22=>?_
 refine ev_new λ b23=>?_
 have hx21:x21.abs=noSta:=h22
 refine ev_stop (go_slot 6 (.sl 8 b23 0 1 1) (vL (some ⟨b23,0,none⟩) 1 1) rfl rfl rfl (λ _=>trivial) ?_)
 refine go_ghost [8,6,7] (M:=[Pt b23 29 [pP x20],ab x20 x21 0 false,x21.rd]) (X:=Unit) (λ _=>[.dead (some b23),.fact (aa [⟨x20,x21,0,false⟩]),.fact (RowO 29 1 (some ⟨b23,0,none⟩) 1 1 ([(⟨x20,x21,0,false⟩:Ref1)].flatMap ae))]) rfl (by decide) (λ h q=>⟨(),bD q⟩) (λ _ x hx=>by
  simp only [List.mem_cons,List.not_mem_nil,or_false] at hx
  rcases hx with rfl | rfl | rfl<;>trivial) (λ _=>by repeat (first | exact trivial | refine ⟨rfl,?_⟩)) (λ _=>?_)
 refine aG ?_
 refine ev_stop (go_loopR [2,4,6,7,8,9,10,11,15,16,21,26,27,28,29,30,31,32,33,34,35,36,37,38,39,40,41,42,43,44,45,46,47,48,49,50,51,52,53,54,55,56,57,58,59,60,61,62,63,64,65,66,67,68,69,70,71,72,73,74,75,76,77,78,79,80,81,82,83,84,85,86,87,88,89,90,91,92,93,94,95,96,97,98,99,100,101,102,103,104,105,106,107,108,109,110,111,112] (λ (i,_,p,_,_,_,_,_,_,m,B,cB)=>[(4,vP p),(6,vL B m cB),(7,vI (i:Nat))]) (λ (_,X,p,w,sure,dirty,W,D,es,m,B,cB)=>[(0,.fact X.rd),(1,.fact (StoP p w X sure dirty)),(2,.fact (WalM w x14 W)),(3,.fact (DiskM x14 D)),(6,.fact (aa es)),(7,.fact (RowO 29 1 B m cB (es.flatMap ae)))]) (λ ((i,X,_,_,sure,dirty,W,D,es,m,_,_):Nat × StaS × Nat × Nat × Nat × Bool × WK × DK × List Ref1 × Nat × Option Addr × Nat)=>i<=n/\GapS X.abs W D es sure dirty l i/\m=es.length) (λ (i,_)=>n-i) ((0,x17,x15,x16,0,false,exW,exD,[⟨x20,x21,0,false⟩],1,some ⟨b23,0,none⟩,1):Nat × StaS × Nat × Nat × Nat × Bool × WK × DK × List Ref1 × Nat × Option Addr × Nat) ⟨Nat.zero_le _,by rw [hX0];exact GapS.new hx21,rfl⟩ aS (λ x_ h_=>?_))
 obtain ⟨i,X,p,w,sure,dirty,W,D,es,m,B,cB⟩:=x_
 obtain ⟨hi,hG,hm⟩:=h_
 rcases Nat.lt_or_ge i n with hin2 | hin2
 . have hil:i<l.length:=by omega
   have hfx:=hfit l[i] (List.getElem_mem hil)
   have hkd:=hin l[i] (List.getElem_mem hil)
   have hLi:=cu (List.getElem_mem hil) hfx hent
   have hI:=hG.i
   have hL6:=hfx.recs
   have hpos:=hG.pos
   obtain ⟨k,rfl⟩:∃ k,m=k+1:=⟨m-1,by omega⟩
   refine go_know (.inr 7) (RowO 29 1 B (k+1) cB (es.flatMap ae)) rfl (p:=(∃ g o,B=some ⟨g,o,none⟩)/\k+1<=cB/\cB<=maxLen) (λ h p=>by
    obtain ⟨_,_,g,o,_,q,_,q1,q2,_⟩:=p
    exact ⟨⟨g,o,q⟩,q1,q2⟩) λ ⟨⟨gB,oB,hBB⟩,hmc,hcm⟩=>?_
   subst hBB
   refine go_more 2 (ActsA l) (Rd 8 l[i].A l[i].L.length (l[i].L.flatMap encR)) rfl (λ h p=>(p _ (List.getElem_mem hil)).1) ?_
   refine go_more 2 (ActsA l) (RecsRd l[i].L) rfl (λ h p=>(p _ (List.getElem_mem hil)).2.1) ?_
   refine go_more 2 (ActsA l) (Rd 1 l[i].B l[i].K.length (l[i].K.flatMap encN)) rfl (λ h p=>(p _ (List.getElem_mem hil)).2.2) ?_
   refine aG ?_
   have hlen:=hG.len hroom
   have hlast:=hG.last (show es.length=k+1 from hm.symm)
   have hcp:=hcap l[i] (List.getElem_mem hil)
   obtain ⟨D1,hS,hI1,hGs,W2,D2,hC,hGc⟩:=hG.sync (w:=w) (q:=x14) hil hroom (by omega)
   obtain ⟨E1,E2,E3,W3,rs,y,o1,o2,o3,o4,o5,o6,o7,o8,o9,o10,o11,o12,o13,hGx⟩:=hG.crash hil hroom (by omega) l[i].K
   have TS:=syncLT p w x14 X sure dirty W D hI.dk hI.wk hS
   have TK:=ckLT p w x14 X X.F.length false W D1 hI1.dk hI1.wk hI.st (by unfold SyncR;exact if_pos rfl) hI1.dk hI1.wk hC
   have TX:=crashM x14 D l[i].B l[i].K.length l[i].d l[i].K o1 rfl
   rw [o2] at TX
   have TZ:=startM x14 E1 o3 o4 o5
   rw [o6] at TZ
   have TP:=openLT x14 E2 o7 rs o8 o9 o10 y o11 o12 y.F.length rfl
   refine aJ ?_ (decide_eq_true (show (↑i:Int)<(↑n:Int) from (by omega)))
   refine ev_stop (go_indexE (sz:=3) Tryz.tbs_ok (.inl 1) (i) rfl rfl rfl rfl rfl rfl (by omega) rfl (λ _ h=>h) (λ g30 o32 e31=>?_))
   subst e31
   refine aG ?_
   have l33:i<(l).length:=(by omega)
   refine ev_stop (go_loadE Tryz.tbs_ok (.inl 1) (i) 0 rfl rfl rfl rfl (λ _ h=>h) (by omega) (λ _=>rfl) (by omega) l33 (by decide) ?_)
   refine aG ?_
   refine ev_if_eq (λ h34=>?_) (λ h34=>?_)
   refine aG ?_
   refine ev_stop (go_atE (sz:=3) Tryz.tbs_ok (i) rfl rfl rfl rfl rfl rfl (by omega) ?_)
   refine aG ?_
   have l35:i<(l).length:=(by omega)
   refine ev_stop (go_loadE Tryz.tbs_ok (.inl 1) (i) 1 rfl rfl rfl rfl (λ _ h=>h) (by omega) (λ _=>rfl) (by omega) l35 (by decide) ?_)
   refine aG ?_
   rotate_left
   refine aG ?_
   refine ev_if_eq (λ h36=>?_) (λ h36=>?_)
   refine aG ?_
   refine aJ ?_ (beq_iff_eq.2 (by with_reducible assumption))
   refine aC TS [1,2,3] [.inl 0] λ _ h37=>?_
   refine ev_stop (go_atE (sz:=3) Tryz.tbs_ok (i) rfl rfl rfl rfl rfl rfl (by omega) ?_)
   refine aG ?_
   have l38:i<(l).length:=(by omega)
   refine ev_stop (go_loadE Tryz.tbs_ok (.inl 1) (i) 0 rfl rfl rfl rfl (λ _ h=>h) (by omega) (λ _=>rfl) (by omega) l38 (by decide) ?_)
   refine aG ?_
   refine aI ?_ (beq_eq_false_iff_ne.2 (show ¬l[i].k.tmod 4=2 from (by omega)))
   refine aI ?_
   refine wO (k+1-1) ?_
   refine ev_stop (go_back Tryz.tbs_ok (k+1-1) (k+1) (cB) rfl rfl rfl rfl rfl ⟨_,rfl⟩ rfl rfl (by decide) (by omega) (by omega) (by omega) ?_)
   refine aG ?_
   refine ev_if (λ h39=>?_) (λ h39=>?_)
   refine aG ?_
   refine ev_fin ⟨trivial,_,rfl,(()),?_,(by trivial),Frm.nil _⟩
   rotate_left
   refine aG ?_
   refine wO (k+1-(k+1-1)-1) ?_
   rotate_left
   refine aG ?_
   refine ev_if_eq (λ h40=>?_) (λ h40=>?_)
   refine aG ?_
   refine aC TS [1,2,3] [.inl 0] λ _ h41=>?_
   refine ev_stop (go_atE (sz:=3) Tryz.tbs_ok (i) rfl rfl rfl rfl rfl rfl (by omega) ?_)
   refine aG ?_
   have l42:i<(l).length:=(by omega)
   refine ev_stop (go_loadE Tryz.tbs_ok (.inl 1) (i) 0 rfl rfl rfl rfl (λ _ h=>h) (by omega) (λ _=>rfl) (by omega) l42 (by decide) ?_)
   refine aG ?_
   refine aJ ?_ (beq_iff_eq.2 (by with_reducible assumption))
   refine aC TK [1,2,3] [.inl 0,.inr 0] λ _ h43=>?_
   refine aI ?_
   refine wO (k+1-1) ?_
   refine ev_stop (go_back Tryz.tbs_ok (k+1-1) (k+1) (cB) rfl rfl rfl rfl rfl ⟨_,rfl⟩ rfl rfl (by decide) (by omega) (by omega) (by omega) ?_)
   refine aG ?_
   refine ev_if (λ h44=>?_) (λ h44=>?_)
   refine aG ?_
   refine ev_fin ⟨trivial,_,rfl,(()),?_,(by trivial),Frm.nil _⟩
   rotate_left
   refine aG ?_
   refine wO (k+1-(k+1-1)-1) ?_
   rotate_left
   refine aG ?_
   refine ev_stop (go_atE (sz:=3) Tryz.tbs_ok (i) rfl rfl rfl rfl rfl rfl (by omega) ?_)
   refine aG ?_
   have l45:i<(l).length:=(by omega)
   refine ev_stop (go_loadE Tryz.tbs_ok (.inl 1) (i) 2 rfl rfl rfl rfl (λ _ h=>h) (by omega) (λ _=>rfl) (by omega) l45 (by decide) ?_)
   refine aG ?_
   refine aC TX [3] [.inl 5] λ _ h46=>?_
   refine aI ?_
   refine aC TZ [3] [] λ _ h47=>?_
   refine aI ?_
   refine aC TP [3] [.inl 0] λ ⟨x48,x49,x50⟩ h51=>?_
   refine aI ?_
   rotate_left
   . cases hw:writeS X.abs (recsR l[i].L) with
     |
      none =>
      have TW:=cC p w x14 X sure dirty W D l[i].A l[i].L l[i].L.length l[i].c rfl (by omega) hLi hI hw es k hm.symm (by omega) hlast (some ⟨gB,oB,none⟩) cB
      unfold bY at TW
      have TA:=aw p w X sure dirty hI.st es (k+1-1) (by omega) hlast
      refine aC TW [1,2,3,0,6,7] [.inl 0,.inl 3,.inl 4] λ _ h200=>?_
      refine aI ?_
      refine wO (k+1-1) ?_
      refine ev_stop (go_atE (sz:=1) Tryz.tbs_ok (k+1-1) rfl rfl rfl rfl rfl rfl (by omega) ?_)
      refine aG ?_
      have l201:k+1-1<(es).length:=(by omega)
      refine ev_stop (go_loadE Tryz.tbs_ok (.inr 7) (k+1-1) 0 rfl rfl rfl rfl (λ _ h=>RowO.rd h) (by omega) (λ _=>rfl) (by omega) l201 (by decide) ?_)
      refine aG ?_
      refine aC TA [6,1] [.inr 0] λ _ h202=>?_
      refine aI ?_
      refine wN (i+1) ?_
      refine ev_fin (round_next ((i+1,X,p,w,sure,dirty,W,D,es,k+1,some { block:=gB,off:=oB:Addr },cB)) (?_:i+1<=n/\GapS X.abs W D es sure dirty l (i+1)/\k+1=es.length) (show n-(i+1)<n-i from (by omega)) aS)
      exact ⟨by omega,hG.more hil,hm⟩
     |
      some z =>
      obtain ⟨W4,D4,hR,hGn⟩:=hG.write hil hroom (by omega) hw
      have TW:=bX p w x14 X sure dirty l[i].A l[i].L l[i].L.length l[i].c rfl (by omega) hcp hLi hI hw hR es k hm.symm (by omega) hlast (some ⟨gB,oB,none⟩) cB
      refine aC TW [1,2,3,0,6,7] [.inl 0,.inl 3,.inl 4] λ ⟨x200,x201,x202,x203,x204⟩ ⟨h205,h206,h207⟩=>?_
      refine aI ?_
      refine wO (k+1+l[i].L.length-1) ?_
      refine ev_stop (go_atE (sz:=1) Tryz.tbs_ok (k+1+l[i].L.length-1) rfl rfl rfl rfl rfl rfl (by omega) ?_)
      refine aG ?_
      have l208:k+1+l[i].L.length-1<(es++x201).length:=(by (simp only [List.length_append];omega))
      refine ev_stop (go_loadE Tryz.tbs_ok (.inr 7) (k+1+l[i].L.length-1) 0 rfl rfl rfl rfl (λ _ h=>RowO.rd h) (by omega) (λ _=>rfl) (by omega) l208 (by decide) ?_)
      refine aG ?_
      obtain ⟨hz,hnl,hns⟩:x200.abs=z/\x201.length=l[i].L.length/\∀ (j:Nat) (e:Ref1),x201[j]? = some e->writeS X.abs (recsR (l[i].L.take (j+1)))=some e.x.abs := ‹_›
      have hG2:=hGn x201 hnl hns
      rw [<-hz] at hG2
      have hl2:(es++x201).length=k+1+l[i].L.length:=by rw [List.length_append];omega
      have TA:=aw p w x200 sure (decide (l[i].L≠[]) || dirty) hG2.i.st (es++x201) (k+1+l[i].L.length-1) (by omega) (hG2.last (by omega))
      refine aC TA [6,1] [.inr 0] λ _ h230=>?_
      refine aI ?_
      refine wN (i+1) ?_
      refine ev_fin (round_next ((i+1,x200,p,w,sure,decide (l[i].L≠[]) || dirty,W4,D4,es++x201,k+1+l[i].L.length,some { block:=x202,off:=x203:Addr },x204)) (show i+1<=n/\GapS x200.abs W4 D4 (es++x201) sure (decide (l[i].L≠[]) || dirty) l (i+1)/\k+1+l[i].L.length=(es++x201).length from (by (refine ⟨?_,?_,?_⟩<;>first | assumption | omega | (simp only [List.length_set,List.length_append,List.length_cons,List.length_nil]<;>omega) | rfl))) (show n-(i+1)<n-i from (by omega)) aS)
   . exact absurd ‹(backA (some ⟨gB,oB,none⟩) cB (k+1-1) 1).isNone=true› (by rw [aA];decide)
   . refine bu (A:=some ⟨gB,oB,none⟩) (n:=k+1) (c:=cB) (n':=k+1-(k+1-1)) (c':=cB-(k+1-1)) 104 (k+1-1) hm (by omega) (by omega) rfl rfl rfl aL rfl rfl (λ _=>rfl) (λ gC oC=>?_)
     refine aG ?_
     have TA:=aw p w X X.F.length false hI.st [es[k+1-1]] (k+1-(k+1-1)-1) (by rw [List.length_singleton];omega) (by rw [List.getElem_singleton];exact hlast)
     refine ev_stop (go_atE (sz:=1) Tryz.tbs_ok (k+1-(k+1-1)-1) rfl rfl rfl rfl rfl rfl (by omega) ?_)
     refine aG ?_
     have l260:k+1-(k+1-1)-1<([es[k+1-1]]).length:=(by (simp only [List.length_cons,List.length_nil];omega))
     refine ev_stop (go_loadE Tryz.tbs_ok (.inr 7) (k+1-(k+1-1)-1) 0 rfl rfl rfl rfl (λ _ h=>RowO.rd h) (by omega) (λ _=>rfl) (by omega) l260 (by decide) ?_)
     refine aG ?_
     refine aC TA [6,1] [.inr 0] λ _ h261=>?_
     refine aI ?_
     refine wN (i+1) ?_
     refine ev_fin (round_next ((i+1,X,p,w,X.F.length,false,W,D1,[es[k+1-1]],k+1-(k+1-1),some { block:=gC,off:=oC:Addr },cB-(k+1-1))) (?_:i+1<=n/\GapS X.abs W D1 [es[k+1-1]] X.F.length false l (i+1)/\k+1-(k+1-1)=[es[k+1-1]].length) (show n-(i+1)<n-i from (by omega)) aS)
     exact ⟨by omega,hGs _ hlast,by rw [List.length_singleton];omega⟩
   . exact absurd ‹(backA (some ⟨gB,oB,none⟩) cB (k+1-1) 1).isNone=true› (by rw [aA];decide)
   . refine bu (A:=some ⟨gB,oB,none⟩) (n:=k+1) (c:=cB) (n':=k+1-(k+1-1)) (c':=cB-(k+1-1)) 104 (k+1-1) hm (by omega) (by omega) rfl rfl rfl aL rfl rfl (λ _=>rfl) (λ gC oC=>?_)
     refine aG ?_
     have TA:=aw p w X X.F.length false hI.st [es[k+1-1]] (k+1-(k+1-1)-1) (by rw [List.length_singleton];omega) (by rw [List.getElem_singleton];exact hlast)
     refine ev_stop (go_atE (sz:=1) Tryz.tbs_ok (k+1-(k+1-1)-1) rfl rfl rfl rfl rfl rfl (by omega) ?_)
     refine aG ?_
     have l290:k+1-(k+1-1)-1<([es[k+1-1]]).length:=(by (simp only [List.length_cons,List.length_nil];omega))
     refine ev_stop (go_loadE Tryz.tbs_ok (.inr 7) (k+1-(k+1-1)-1) 0 rfl rfl rfl rfl (λ _ h=>RowO.rd h) (by omega) (λ _=>rfl) (by omega) l290 (by decide) ?_)
     refine aG ?_
     refine aC TA [6,1] [.inr 0] λ _ h291=>?_
     refine aI ?_
     refine wN (i+1) ?_
     refine ev_fin (round_next ((i+1,X,p,w,X.F.length,false,W2,D2,[es[k+1-1]],k+1-(k+1-1),some { block:=gC,off:=oC:Addr },cB-(k+1-1))) (?_:i+1<=n/\GapS X.abs W2 D2 [es[k+1-1]] X.F.length false l (i+1)/\k+1-(k+1-1)=[es[k+1-1]].length) (show n-(i+1)<n-i from (by omega)) aS)
     exact ⟨by omega,hGc _ hlast,by rw [List.length_singleton];omega⟩
   obtain rfl:x50.abs=y := ‹_›
   refine ev_ghost [0,1,2,9,10,11] (M:=[X.rd,StoP p w X sure dirty,WalM w x14 W,x50.rd,StoP x48 x49 x50 x50.abs.F.length false,WalM x49 x14 W3]) (X:=Unit) (λ _=>[.fact x50.rd,.fact (StoP x48 x49 x50 x50.abs.F.length false),.fact (WalM x49 x14 W3),.dead none,.dead none,.dead none]) rfl (by decide) (λ h q=>⟨(),c4 q⟩) (λ _=>newsOk_fact (newsOk_fact (newsOk_fact (λ x hx=>by simp only [List.mem_cons,List.not_mem_nil,or_false,or_self] at hx;rw [hx];trivial)))) (λ _=>by repeat (first | exact trivial | refine ⟨rfl,?_⟩)) (λ _=>?_)
   have TF:=((cW x48 x49 x50 x50.abs.F.length o12 rfl es (some ⟨gB,oB,none⟩) (k+1) cB hm (by omega) o13).reads (N':=[x50.rd,RowO 29 1 (some ⟨gB,oB,none⟩) (k+1) cB (es.flatMap ae)]) (λ X hX=>by
    simp only [List.mem_cons,List.not_mem_nil,or_false] at hX
    rcases hX with rfl | rfl
    . exact ⟨_,List.mem_cons_self,λ _ q=>q⟩
    exact ⟨_,List.mem_cons_of_mem _ List.mem_cons_self,λ _ q=>RowO.rd q⟩)).imp (good':=λ j=>j<k+1/\∃ e,es[j]? = some e/\e.x.abs=x50.abs) λ j g=>⟨j,rfl,⟨by obtain ⟨e,q,_⟩:=g;have:=(List.getElem?_eq_some_iff.1 q).1;omega,g⟩,λ _ q=>q⟩
   refine aC TF [6,1] [.inr 0,.inr 7] λ x320 ⟨h321,h322⟩=>?_
   refine aI ?_
   refine wN (x320+1) ?_
   refine ev_stop (go_back Tryz.tbs_ok (x320) (x320+1) (cB) rfl rfl rfl rfl rfl ⟨_,rfl⟩ ⟨_,rfl⟩ rfl (by decide) (by omega) (by omega) (by omega) ?_)
   refine aG ?_
   refine ev_if (λ h323=>?_) (λ h323=>?_)
   refine aG ?_
   refine ev_fin ⟨trivial,_,rfl,(()),?_,(by trivial),Frm.nil _⟩
   rotate_left
   refine aG ?_
   refine wO (x320+1-x320-1) ?_
   rotate_left
   . exact absurd ‹(backA (some ⟨gB,oB,none⟩) cB x320 1).isNone=true› (by rw [aA];decide)
   obtain ⟨hat,e,he,hee⟩:x320<k+1/\∃ e,es[x320]? = some e/\e.x.abs=x50.abs := ‹_›
   have hj:x320<es.length:=by omega
   obtain rfl:es[x320]=e:=(List.getElem?_eq_some_iff.1 he).2
   refine bu (A:=some ⟨gB,oB,none⟩) (n:=k+1) (c:=cB) (n':=x320+1-x320) (c':=cB-x320) 104 x320 hm hj (by omega) rfl rfl rfl aL rfl rfl (λ _=>rfl) (λ gC oC=>?_)
   refine aG ?_
   have TA:=aw x48 x49 x50 x50.abs.F.length false o12 [es[x320]] (x320+1-x320-1) (by rw [List.length_singleton];omega) (by rw [List.getElem_singleton];exact hee)
   refine ev_stop (go_atE (sz:=1) Tryz.tbs_ok (x320+1-x320-1) rfl rfl rfl rfl rfl rfl (by omega) ?_)
   refine aG ?_
   have l350:x320+1-x320-1<([es[x320]]).length:=(by (simp only [List.length_cons,List.length_nil];omega))
   refine ev_stop (go_loadE Tryz.tbs_ok (.inr 7) (x320+1-x320-1) 0 rfl rfl rfl rfl (λ _ h=>RowO.rd h) (by omega) (λ _=>rfl) (by omega) l350 (by decide) ?_)
   refine aG ?_
   refine aC TA [6,1] [.inr 0] λ _ h351=>?_
   refine aI ?_
   refine wN (i+1) ?_
   refine ev_fin (round_next ((i+1,x50,x48,x49,x50.abs.F.length,false,W3,E3,[es[x320]],x320+1-x320,some { block:=gC,off:=oC:Addr },cB-x320)) (?_:i+1<=n/\GapS x50.abs W3 E3 [es[x320]] x50.abs.F.length false l (i+1)/\x320+1-x320=[es[x320]].length) (show n-(i+1)<n-i from (by omega)) aS)
   exact ⟨by omega,hGx _ hee,by rw [List.length_singleton];omega⟩
 obtain rfl:i=n:=by omega
 refine aG ?_
 refine aI ?_ (decide_eq_false (show ¬(↑i:Int)<(↑i:Int) from (by omega)))
 refine ev_fin (go Tryz.tbs_ok 1000 ?_)
 refine aC TL [] [.inl 0] λ _ h30=>?_
 refine ev_fin ⟨trivial,_,rfl,(()),rfl,(by trivial),Frm.nil _⟩
open Go.Sy Go.RowKit Go.ChangeShapes Go.WideShapes
theorem cl {w:World} {F:Nat} {vs:List Value} (hl:vs.length=3) (h:Sees Tryz.tab w (F+1+1+1+1+1+1+1) 40 vs):∃ x:ActA,vs=encA x/\(((x.rdA.holds (hp w)/\(RecsRd x.L).holds (hp w)/\x.rdK.holds (hp w))/\(0<=x.k/\x.k<256)/\∀ y∈x.L,y.r.L.length<=reachBytes)/\x.L.length<=x.c):=by
 obtain ⟨n0,e0,w0⟩:=leaf_int (F:=F+1+1+1+1+1) (d:=1) (k:=.u8) (u:=5) rfl rfl h 0 (by decide)
 obtain ⟨A1,n1,c1,l1,e1,hn1,hc1,hm1,hr1,hg1⟩:=leaf_slice (F:=F+1+1+1+1+1) (d:=1) (u:=37) (el:=54) (enc:=encR) (G:=λ x=>(x.rdL.holds (hp w)/\x.rdF.holds (hp w))/\x.r.L.length<=reachBytes) rfl rfl (by decide) encR_len (λ _=>rfl) (λ vs hl h=>cK hl h) rfl h 1 (by decide)
 subst hn1
 obtain ⟨A2,n2,c2,l2,e2,hn2,hc2,hm2,hr2,hg2⟩:=leaf_slice (F:=F+1+1+1+1+1) (d:=1) (u:=38) (el:=3) (enc:=encN) (G:=λ _=>True) rfl rfl (by decide) encN_len (λ _=>rfl) (λ vs hl h=>cN hl h) rfl h 2 (by decide)
 subst hn2
 exact ⟨⟨n0,l1,A1,c1,l2,A2,c2⟩,eq_of_at hl (And.intro e0 (And.intro e1 (And.intro e2 trivial))),⟨⟨hr1,λ y hy=>(hg1 y hy).1,hr2⟩,wf_u8 w0,λ y hy=>(hg1 y hy).2⟩,hc1⟩
theorem aH (os:Os) (started:os.Started) (H:Type) (enc:TypeId × Value->H) :
 ReturnsInHanded {} Tryz.checked os 4 .any (λ w args=>(Rows.storeCrashSpec.pre enc Tryz.prog Tryz.f4 Rows.storeCrashRow.domain Rows.storeCrashRow.apart w args/\laidMetH Tryz.prog Rows.storeCrashRow.laid w)/\sizedMet enc Tryz.prog Tryz.f4 (OpenSpec.ofChange Rows.storeCrashSpec) Rows.storeCrashRow.apart w args) (Rows.storeCrashSpec.post enc Tryz.prog Tryz.f4 Rows.storeCrashRow.apart Rows.storeCrashRow.fresh Rows.storeCrashRow.handsOn Rows.storeCrashRow.again):=by
 refine returnsInHanded_of_change_and (C:=Tryz.checked) (X:=λ w _=>laidMetH Tryz.prog Rows.storeCrashRow.laid w) (λ _ _ _ hh h=>h.of_heap hh) Tryz.own started (by kernel_rfl) Tryz.func4
  (ChangeSpec.witness_shaped (enc:=enc) (C:=Tryz.checked) (os:=os) (X:=λ w _=>laidMetH Tryz.prog Rows.storeCrashRow.laid w) false (World.doorLaid Tryz.prog 400 os) #[.slice none 0 0] 8 rfl (World.shaped_of_RefB (by kernel_rfl) (by kernel_rfl)) (by kernel_rfl) (by kernel_rfl) (by kernel_rfl) (cr os _)) ?_
 intro W base args ds gs before hval0 hW hcnd hwt hL _
 have htab:=cX hL
 have hval:∀ (j:Nat) t v,Tryz.f4.params[j]? = some t->args[j]? = some v->Value.okWide Tryz.prog W .any base t v:=hval0
 obtain ⟨p,q,hA0,hV,_,_,_⟩:=id hW
 have hA:DataW.TrodAll enc Tryz.prog W 0 (λ _=>true) true Tryz.f4.params.toList args.toList ds p:=hA0
 clear hval0 hA0
 obtain ⟨rfl,_⟩:=trodVars_none hV
 have hwt2:=cV hwt
 have hpar:Tryz.f4.params = #[22]:=by kernel_rfl
 rw [hpar] at hA hval
 obtain ⟨v0,d0,rfl,rfl,fuel0,hf0⟩:=trodAll_one hA
 obtain ⟨A0,n0,c0,rfl⟩:=okWide_slice (P:=Tryz.prog) (t:=22) (e:=40) (by kernel_rfl) (hval 0 _ _ rfl rfl)
 obtain ⟨A0',n0',c0',l0,hl0,hln0,hc0,hm0,hr0,hg0⟩:=list_of_sees (F:=0+1+1+1+1+1+1+1) (t:=22) (el:=40) (enc:=encA) (G:=λ x=>((x.rdA.holds (hp W)/\(RecsRd x.L).holds (hp W)/\x.rdK.holds (hp W))/\(0<=x.k/\x.k<256)/\∀ y∈x.L,y.r.L.length<=reachBytes)/\x.L.length<=x.c) rfl rfl (by decide) encA_len (λ _=>rfl) (λ vs hl h=>cl hl h) (sees_of_trod Tryz.tbs_ok.tab cq 8 fuel0 _ _ _ hf0 (λ k hk=>hwt2 k (weightsEach_get _ _ _ 0 _ _ rfl rfl k hk)))
 cases hl0
 obtain ⟨ha0,hb0,hin0⟩:=cw λ x hx=>(hg0 x hx).1
 refine (bI A0 l0 n0 c0 hln0.symm (bW hc0 hm0) hb0 hin0 (λ x hx=>(hg0 x hx).2) W Hp.emp (hp W) (Hp.emp_le _) (Hp.le_refl _) (Hp.emp_dis _) trivial (λ X hX=>?_)).mono λ e W' ⟨_,_,he,_,_,_,hext,_⟩=>?_
 . simp only [List.mem_cons,List.not_mem_nil,or_false] at hX
   rcases hX with rfl | rfl | rfl
   . exact htab
   . exact hr0
   exact ha0
 exact ⟨.bool true,he,post_true Tryz.laidOut (by kernel_rfl) rfl (rt:=4) (by kernel_rfl) (by kernel_rfl) hW hext.below rfl rfl rfl⟩
theorem aP:Rows.StoreCrashSaid :=
 OpenClaim.holds_of_wide 4 Tryz.f4 rfl rfl rfl rfl rfl rfl rfl ⟨rfl,rfl,rfl,rfl,rfl⟩ rfl rfl rfl rfl rfl (by kernel_rfl) Tryz.func4 (by kernel_rfl)
  (of_decide_eq_true (by kernel_rfl)) (by unfold Func.isWrapper;rw [if_neg (by decide +kernel)];exact ⟨rfl,rfl⟩)
  (λ os started H enc _=>aH os started H enc)
theorem storeCrash_card:Rows.StoreCrashCardSaid :=
 Claim7.holds_tied_plain_at .later [] [.data,.data,.data] true Rows.storeCrashCard.stood.harness false
  aP (λ _ h=>by cases h) (by kernel_rfl) (λ _ h=>by cases h) storeCrash_row_tie rfl ⟨rfl,rfl⟩ (by kernel_rfl) rfl
  (λ f fn hf hfn=>by
   obtain rfl:f=4:=(Option.some.inj ((show Tryz.prog.funcNamed Rows.storeCrashRow.func=some 4 by kernel_rfl).symm.trans hf)).symm
   obtain rfl:fn=Tryz.f4:=(Option.some.inj (Tryz.func4.symm.trans hfn)).symm
   refine ⟨by kernel_rfl,λ j t ht=>?_⟩
   have hpar:Tryz.f4.params = #[22]:=by kernel_rfl
   rw [hpar] at ht
   have hm:t∈[22]:=by
    rw [show (#[22]:Array TypeId)[j]? = ([22]:List TypeId)[j]? from by simp] at ht
    exact List.mem_of_getElem? ht
   simp only [List.mem_cons,List.not_mem_nil,or_false] at hm
   rcases hm with rfl
   exact (show Tryz.prog.wantsStandIn 22=false by kernel_rfl))
  (by kernel_rfl)
end Go.Proofs.YtnbaejindfillaaGreatDoor

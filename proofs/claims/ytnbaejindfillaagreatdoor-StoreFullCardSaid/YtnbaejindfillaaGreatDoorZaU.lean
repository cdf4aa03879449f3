/-
  What is proved: storeFull_card. Conditions: none.
-/
import Derived.WalkKit
import Derived.OrdersHeld
import Derived.Deep.LoopGhost
import Derived.Maps.AppendAt
import Derived.Laws.StructEq
import Derived.Laws.CopyRow
import Derived.LoopN
import Derived.Laws.MakeOwn
import Derived.Lib.Overlaps
import Derived.MapKept
import Derived.Test.YtnbaejindfillaaGreatDoorRows
import Derived.RangeFuncLeaves
import Derived.RangeFuncRecord
import Derived.RangeFuncCalls
import Derived.TacticsIn
import Derived.Scope
import Derived.Lib.AppendStr
import Derived.Lib.UnsafeStr
import Derived.Lib.Builder
import Derived.Laws.IdiomStrings
import Derived.Laws.BytesArg
import Derived.ArgAppend
import Derived.Shelf.LaysM
import Derived.Shelf.Strconv.Itoa3
import Derived.Test.YtnbaejindfillaaGreatDoorProg
import Derived.Lib.AppendIntMem
import Derived.Carry
import Derived.ChangeSame
import Derived.JoinedOf
import Derived.JoinedAt
import Derived.ChangeArms
import Derived.WideKeyArr2
import Derived.Test.YtnbaejindfillaaGreatDoorCards
import Derived.Test.YtnbaejindfillaaGreatDoorTie
import Derived.SevenTiedAt
import Derived.LaidLaws
import Derived.LaidMore
import Derived.Lib.LaidTab
import Derived.Stop.LaidErr
import Derived.OpenShut
import Derived.ChangeMaps5
import Derived.Test.YtnbaejindfillaaGreatDoorZa6
set_option maxRecDepth 100000
namespace Go.Proofs.YtnbaejindfillaaGreatDoor
open Go.Sy
theorem newErr (z:Int) (hz:z<1∨1048576<z):Triple Tryz.prog 29 [.int .i64 z] [] [] (Unit) (fun _=>.tuple #[.pointer none,.int .i64 2]) (fun _=>True) (fun _=>[]):=by
 refine aT Tryz.func29 [vI z] [] (fun E=>?_) ⟨trivial,trivial⟩
 refine aG ?_
 refine ev_if_lt (fun h0=>?_) (fun h0=>?_)
 refine aG ?_
 refine ev_fin ⟨trivial,_,rfl,(()),rfl,(by trivial),Frm.nil _⟩
 refine aG ?_
 refine aJ ?_ (decide_eq_true (show z > 1048576 from (by omega)))
 refine ev_fin ⟨trivial,_,rfl,(()),rfl,(by trivial),Frm.nil _⟩
def sameD (D D':DK):Prop:=∀ x,(lk D'.files x).map (·.1)=(lk D.files x).map (·.1)
theorem sameD.refl (D:DK):sameD D D:=fun _=>rfl
theorem Logs.app {W:WK} {D:DK} {l:List BA} {sure:Nat} (H:Logs W D l sure) (ps:List BA) :
 ((appW W D ps).2.2=0∧small ps∧Logs (appW W D ps).1 (appW W D ps).2.1 (l++ps) sure∧(D.fails=none→(appW W D ps).2.1.fails=none)) ∨
 (((appW W D ps).2.2=3∧¬ small ps∨(appW W D ps).2.2=40)∧(appW W D ps).1=W∧Logs W (appW W D ps).2.1 l sure∧sameD D (appW W D ps).2.1∧(D.fails=none→(appW W D ps).2.1.fails=none)) ∨
 (D.fails≠none∧(appW W D ps).2.2=41∧Brk (appW W D ps).2.1 (l++ps) sure):=by
 obtain ⟨init,last,j,hL,hl,hs⟩:=H
 subst hl
 have hask:=hL.ask
 by_cases hf:(framedM ps).2=0
 · obtain ⟨hsm,hFB⟩:=framed_ok hf
   by_cases hn:ps=[]
   · subst hn
     rw [appW_none hask]
     exact .inl ⟨rfl,hsm,⟨init,last,j,hL,by rw [List.append_nil],hs⟩,fun h=>h⟩
   rw [appW_some hask hf hn,hFB]
   dsimp only
   have hWe:∀ e:Int,e=0∨e=40→(⟨W.s,W.bad || badE e,W.b,W.t⟩:WK)=W:=fun e he=>by
    rcases he with rfl | rfl
    · rw [bad_zero]
    rw [bad40]
   have next:∀ (D1:DK) (Ps:List (List BA)),Whole W D1 Ps→Ps.flatten=init.flatten++last→sure≤Ps.flatten.length→(sameD D D1)→Logs W D1 (init.flatten++last) sure→(D.fails=none→D1.fails=none) →
    let R:=if 15≤D1.files.length∨999999999≤W.b+W.t then (W,D1,40) else
     (⟨W.s,W.bad || badE (appD D1 (nmB 115 (W.b+W.t+1)) (FB ps)).2,W.b,if (appD D1 (nmB 115 (W.b+W.t+1)) (FB ps)).2=0 then W.t+1 else W.t⟩,(appD D1 (nmB 115 (W.b+W.t+1)) (FB ps)).1,(appD D1 (nmB 115 (W.b+W.t+1)) (FB ps)).2)
    (R.2.2=0∧small ps∧Logs R.1 R.2.1 (init.flatten++last++ps) sure∧(D.fails=none→R.2.1.fails=none))∨((R.2.2=3∧¬ small ps∨R.2.2=40)∧R.1=W∧Logs W R.2.1 (init.flatten++last) sure∧sameD D R.2.1∧(D.fails=none→R.2.1.fails=none))∨(D.fails≠none∧R.2.2=41∧Brk R.2.1 (init.flatten++last++ps) sure):=by
    intro D1 Ps hw hfl hsu hsame hlog hca
    by_cases hful:15≤D1.files.length∨999999999≤W.b+W.t
    · rw [if_pos hful]
      exact .inr (.inl ⟨.inr rfl,rfl,hlog,hsame,hca⟩)
    rw [if_neg hful]
    rcases hw.next hsm (by omega) (by omega) with ⟨_,h⟩ | ⟨h1,h2,h3⟩ | ⟨h0,h1,h2⟩
    · rw [h]
      exact .inr (.inl ⟨.inr rfl,by simp only;rw [if_neg (by decide),bad40],hlog,hsame,hca⟩)
    · refine .inl ⟨h1,hsm,⟨Ps,ps,0,?_,by rw [hfl],by omega⟩,fun q=>h3 (hca q)⟩
      simp only
      rw [h1,bad_zero,if_pos rfl]
      exact h2
    refine .inr (.inr ⟨fun q=>h0 (hca q),h1,?_⟩)
    simp only
    rw [hfl] at h2 hsu
    obtain ⟨a1,a2,a3,b,t,i,la,lb,j2,a4,a5,a6,a7,a8⟩:=h2
    exact ⟨a1,a2,a3,b,t,i,la,lb,j2,a4,a5,a6,by omega,a8⟩
   by_cases ht:0<W.t
   · by_cases hz:(readD D (nmB 115 (W.b+W.t))).1.size<16384
     · rw [if_pos ⟨ht,hz⟩]
       rcases hL.put ht hsm with ⟨_,h⟩ | ⟨h1,h2,h3⟩ | ⟨h0,h1,h2⟩
       · rw [h]
         exact .inr (.inl ⟨.inr rfl,hWe 40 (.inr rfl),⟨init,last,j,hL,rfl,hs⟩,sameD.refl D,fun h=>h⟩)
       · refine .inl ⟨h1,hsm,⟨init,last++ps,j,?_,by rw [List.append_assoc],hs⟩,h3⟩
         simp only
         rw [h1,hWe 0 (.inl rfl)]
         exact h2
       obtain ⟨a1,a2,a3,b,t,i,la,lb,j2,a4,a5,a6,a7,a8⟩:=h2
       exact .inr (.inr ⟨h0,h1,a1,a2,a3,b,t,i,la,lb,j2,a4,a5,a6,by omega,a8⟩)
     rw [if_neg (fun q=>hz q.2),if_pos ht]
     rcases hL.sync ht with ⟨h1,h2,h3,h4⟩ | ⟨h0,h1,h2⟩
     · rw [if_neg (by simpa using h1)]
       obtain ⟨Ps,hw,hfl⟩:=h2.whole
       have hll:=hL.few
       have hfl2:=congrArg List.length hfl
       rw [List.length_append] at hfl2
       exact next _ Ps hw hfl (by omega) h3 ⟨init,last,last.length,h2,rfl,by omega⟩ h4
     rw [if_pos (by rw [h1];decide)]
     refine .inr (.inr ⟨h0,h1,?_⟩)
     obtain ⟨a1,a2,a3,b,t,i,la,lb,j2,a4,a5,a6,a7,a8⟩:=h2
     exact ⟨a1,a2,a3,b,t,i,la,lb,j2,a4,a5,a6,by omega,a8.trans (List.prefix_append _ _)⟩
   have h0:W.t=0:=by omega
   rw [if_neg (fun q=>ht q.1),if_neg ht]
   rw [if_neg (by simp)]
   obtain ⟨s,hT,_⟩:=hL.torn
   obtain ⟨hfu,hla⟩:=hT.zero h0
   subst hla
   have hj0:j=0:=Nat.le_zero.1 hL.few
   refine next D init ⟨hL.ok,hL.up,hL.st,hL.nb,hL.names,hT.smalls.1,by rw [h0];exact hfu⟩ (by rw [List.append_nil]) (by omega) (sameD.refl D) ⟨init,[],j,hL,rfl,hs⟩ fun h=>h
 rw [appW_long hask hf]
 refine .inr (.inl ⟨.inl ⟨framed_err hf,fun q=>hf (by rw [framed_small q])⟩,rfl,⟨init,last,j,hL,rfl,hs⟩,sameD.refl D,fun h=>h⟩)
theorem Logs.sync {W:WK} {D:DK} {l:List BA} {sure:Nat} (H:Logs W D l sure) :
 ((syncW W D).2.2=0∧(syncW W D).1=W∧Logs W (syncW W D).2.1 l l.length∧sameD D (syncW W D).2.1∧(D.fails=none→(syncW W D).2.1.fails=none))∨(D.fails≠none∧(syncW W D).2.2=41∧Brk (syncW W D).2.1 l sure):=by
 obtain ⟨init,last,j,hL,hl,hs⟩:=H
 subst hl
 unfold syncW
 rw [hL.ask,if_neg (by decide)]
 by_cases ht:W.t=0
 · rw [if_pos ht]
   obtain ⟨s,hT,_⟩:=hL.torn
   obtain ⟨_,hla⟩:=hT.zero ht
   subst hla
   exact .inl ⟨rfl,rfl,⟨init,[],j,hL,rfl,by rw [List.append_nil];omega⟩,sameD.refl D,fun h=>h⟩
 rw [if_neg ht]
 rcases hL.sync (by omega) with ⟨h1,h2,h3,h4⟩ | ⟨h0,h1,h2⟩
 · refine .inl ⟨h1,?_,⟨init,last,last.length,h2,rfl,by rw [List.length_append];omega⟩,h3,h4⟩
   simp only
   rw [h1,bad_zero]
 refine .inr ⟨h0,h1,?_⟩
 obtain ⟨a1,a2,a3,b,t,i,la,lb,j2,a4,a5,a6,a7,a8⟩:=h2
 exact ⟨a1,a2,a3,b,t,i,la,lb,j2,a4,a5,a6,by omega,a8⟩
theorem Logs.new {m:Int} (h1:1≤m) (h2:m≤1048576):Logs ⟨0,false,0,0⟩ ⟨m,0,false,[],none,[]⟩ [] 0:=⟨[],[],0,Live.new h1 h2,rfl,Nat.le_refl _⟩
theorem chg_starts (D:DK) (late:Bool) (L2:List Fl):(chg D late L2).1.starts=D.starts∧(chg D late L2).1.most=D.most:=by
 unfold chg
 split
 · exact ⟨rfl,rfl⟩
 split<;>exact ⟨rfl,rfl⟩
theorem appD_starts (D:DK) (x y:BA):(appD D x y).1.starts=D.starts:=by
 unfold appD
 repeat' split
 all_goals first | rfl | exact (chg_starts _ _ _).1
theorem syncD_starts (D:DK) (x:BA):(syncD D x).1.starts=D.starts:=by
 unfold syncD
 repeat' split
 all_goals first | rfl | exact (chg_starts _ _ _).1
theorem appW_starts (W:WK) (D:DK) (ps:List BA):(appW W D ps).2.1.starts=D.starts:=by
 unfold appW
 dsimp only
 obtain ⟨r,hr⟩:∃ r,r=(if 0<W.t then syncD D (nmB 115 (W.b+W.t)) else (D,0)):=⟨_,rfl⟩
 rw [←hr]
 split
 · rfl
 split
 · rfl
 split
 · rfl
 split
 · exact appD_starts _ _ _
 have h1:r.1.starts=D.starts:=by
  rw [hr]
  split
  · exact syncD_starts _ _
  rfl
 split
 · exact h1
 split
 · exact h1
 rw [appD_starts]
 exact h1
theorem syncW_starts (W:WK) (D:DK):(syncW W D).2.1.starts=D.starts:=by
 unfold syncW
 dsimp only
 repeat' split
 all_goals first | rfl | exact syncD_starts _ _
structure Room (W:WK) (D:DK) (l:List BA) (i:Nat):Prop where
 live:Logs W D l 0
 fails:D.fails=none
 few:W.b+W.t≤i
theorem Room.ok {W:WK} {D:DK} {l:List BA} {i:Nat} (H:Room W D l i):okD D∧okW W∧W.t≤1000:=by
 obtain ⟨_,_,_,hL,_,_⟩:=H.live
 exact ⟨hL.ok,hL.okW,Nat.le_trans hL.few15.2 (by decide)⟩
theorem Room.app {W:WK} {D:DK} {l:List BA} {i:Nat} (H:Room W D l i) {ps:List BA} (hp:small ps):((appW W D ps).2.2=0∧Room (appW W D ps).1 (appW W D ps).2.1 (l++ps) (i+1))∨((appW W D ps).2.2=40∧(appW W D ps).1=W∧Room W (appW W D ps).2.1 l i):=by
 obtain ⟨g1,g2⟩:=appW_w W D ps
 have hf:=H.few
 rcases H.live.app ps with ⟨h1,_,h3,h4⟩ | ⟨h1,h2,h3,_,h5⟩ | ⟨h1,_,_⟩
 · exact .inl ⟨h1,h3,h4 H.fails,by rw [g1];omega⟩
 · exact .inr ⟨h1.resolve_left fun q=>q.2 hp,h2,h3,h5 H.fails,hf⟩
 exact absurd H.fails h1
theorem Room.new {m:Int} (h1:1≤m) (h2:m≤1048576):Room ⟨0,false,0,0⟩ ⟨m,0,false,[],Option.none,[]⟩ [] 0:=⟨Logs.new h1 h2,rfl,Nat.le_refl _⟩
end Go.Proofs.YtnbaejindfillaaGreatDoor
namespace Go.Sy
open Go.RowKit Go.ChangeShapes Go.WideShapes
theorem wf_u16 {n:Int} (h:(Lit.int .u16 n).wf=true):0≤n∧n<65536:=by
 simp only [Lit.wf,Bool.and_eq_true,decide_eq_true_eq] at h
 have h3:IntKind.u16.min=0:=rfl
 have h4:IntKind.u16.max=65535:=rfl
 omega
end Go.Sy
namespace Go.Proofs.YtnbaejindfillaaGreatDoor
open Go.Sy Go.RowKit Go.ChangeShapes Go.WideShapes
instance:Inhabited Ent:=⟨⟨0,0,0,0,0,0⟩⟩
instance:Inhabited Spt:=⟨⟨0,0⟩⟩
theorem encE_len (x:Ent):(encE x).length=6:=rfl
theorem encP_len (x:Spt):(encP x).length=2:=rfl
theorem int_dec {w:World} {F:Nat} {vs:List Value} (hl:vs.length=1) (h:Sees Tryz.tab w (F+1) 3 vs):∃ x:Int,vs=encN x∧True:=by
 obtain ⟨n0,e0,_⟩:=leaf_int (F:=F) (d:=0) (k:=.i64) (u:=3) rfl rfl h 0 (by decide)
 exact ⟨n0,eq_of_at hl (And.intro e0 trivial),trivial⟩
theorem spt_dec {w:World} {F:Nat} {vs:List Value} (hl:vs.length=2) (h:Sees Tryz.tab w (F+1+1) 72 vs):∃ x:Spt,vs=encP x∧(True):=by
 obtain ⟨n0,e0,w0⟩:=leaf_int (F:=F) (d:=1) (k:=.i64) (u:=3) rfl rfl h 0 (by decide)
 obtain ⟨n1,e1,w1⟩:=leaf_int (F:=F) (d:=1) (k:=.i64) (u:=3) rfl rfl h 1 (by decide)
 exact ⟨⟨n0,n1⟩,eq_of_at hl (And.intro e0 (And.intro e1 trivial)),trivial⟩
theorem ent_dec {w:World} {F:Nat} {vs:List Value} (hl:vs.length=6) (h:Sees Tryz.tab w (F+1+2) 101 vs):∃ x:Ent,vs=encE x∧(True):=by
 obtain ⟨n0,e0,w0⟩:=leaf_int (F:=F) (d:=2) (k:=.i64) (u:=3) rfl rfl h 0 (by decide)
 obtain ⟨n1,e1,w1⟩:=leaf_int (F:=F) (d:=2) (k:=.i64) (u:=3) rfl rfl h 1 (by decide)
 obtain ⟨n2,e2,w2⟩:=leaf_int (F:=F) (d:=2) (k:=.i64) (u:=3) rfl rfl h 2 (by decide)
 obtain ⟨n3,e3,w3⟩:=leaf_int (F:=F) (d:=2) (k:=.i64) (u:=3) rfl rfl h 3 (by decide)
 obtain ⟨n4,e4,w4⟩:=leaf_int (F:=F) (d:=2) (k:=.i64) (u:=3) rfl rfl h 4 (by decide)
 obtain ⟨n5,e5,w5⟩:=leaf_int (F:=F) (d:=2) (k:=.i64) (u:=3) rfl rfl h 5 (by decide)
 exact ⟨⟨n0,n1,n2,n3,n4,n5⟩,eq_of_at hl (And.intro e0 (And.intro e1 (And.intro e2 (And.intro e3 (And.intro e4 (And.intro e5 trivial)))))),trivial⟩
theorem rec_dec {w:World} {F:Nat} {vs:List Value} (hl:vs.length=8) (h:Sees Tryz.tab w (F+1+1+1+1+1) 54 vs):∃ x:RecS,vs=encR x∧((x.rdL.holds (hp w)∧x.rdF.holds (hp w))∧x.r.L.length≤reachBytes):=by
 obtain ⟨n0,e0,w0⟩:=leaf_int (F:=F+1+1+1) (d:=1) (k:=.i64) (u:=3) rfl rfl h 0 (by decide)
 obtain ⟨n1,e1,w1⟩:=leaf_int (F:=F+1+1+1) (d:=1) (k:=.i64) (u:=3) rfl rfl h 1 (by decide)
 obtain ⟨n2,e2,w2⟩:=leaf_int (F:=F+1+1+1) (d:=1) (k:=.i64) (u:=3) rfl rfl h 2 (by decide)
 obtain ⟨n3,e3,w3⟩:=leaf_int (F:=F+1+1+1) (d:=1) (k:=.i64) (u:=3) rfl rfl h 3 (by decide)
 obtain ⟨n4,e4,w4⟩:=leaf_int (F:=F+1+1+1) (d:=1) (k:=.i64) (u:=3) rfl rfl h 4 (by decide)
 obtain ⟨n5,e5,w5⟩:=leaf_int (F:=F+1+1+1) (d:=1) (k:=.i64) (u:=3) rfl rfl h 5 (by decide)
 obtain ⟨A6,n6,c6,l6,e6,hn6,hc6,hm6,hr6,hg6⟩:=leaf_slice (F:=F+1+1+1) (d:=1) (u:=30) (el:=101) (enc:=encE) (G:=fun _=>True) rfl rfl (by decide) encE_len (fun _=>rfl) (fun vs hl h=>ent_dec hl h) rfl h 6 (by decide)
 subst hn6
 obtain ⟨A7,n7,c7,l7,e7,hn7,hc7,hm7,hr7,hg7⟩:=leaf_slice (F:=F+1+1+1) (d:=1) (u:=34) (el:=72) (enc:=encP) (G:=fun _=>True) rfl rfl (by decide) encP_len (fun _=>rfl) (fun vs hl h=>spt_dec hl h) rfl h 7 (by decide)
 subst hn7
 exact ⟨⟨⟨n0,n1,n2,n3,n4,n5,l6,l7⟩,A6,c6,A7,c7⟩,eq_of_at hl (And.intro e0 (And.intro e1 (And.intro e2 (And.intro e3 (And.intro e4 (And.intro e5 (And.intro e6 (And.intro e7 trivial)))))))),⟨hr6,hr7⟩,hm6.2⟩
theorem act_dec {w:World} {F:Nat} {vs:List Value} (hl:vs.length=3) (h:Sees Tryz.tab w (F+1+1+1+1+1+1+1) 40 vs):∃ x:ActA,vs=encA x∧((x.rdA.holds (hp w)∧(RecsRd x.L).holds (hp w)∧x.rdK.holds (hp w))∧(0≤x.k∧x.k<256)∧∀ y∈x.L,y.r.L.length≤reachBytes):=by
 obtain ⟨n0,e0,w0⟩:=leaf_int (F:=F+1+1+1+1+1) (d:=1) (k:=.u8) (u:=5) rfl rfl h 0 (by decide)
 obtain ⟨A1,n1,c1,l1,e1,hn1,hc1,hm1,hr1,hg1⟩:=leaf_slice (F:=F+1+1+1+1+1) (d:=1) (u:=37) (el:=54) (enc:=encR) (G:=fun x=>(x.rdL.holds (hp w)∧x.rdF.holds (hp w))∧x.r.L.length≤reachBytes) rfl rfl (by decide) encR_len (fun _=>rfl) (fun vs hl h=>rec_dec hl h) rfl h 1 (by decide)
 subst hn1
 obtain ⟨A2,n2,c2,l2,e2,hn2,hc2,hm2,hr2,hg2⟩:=leaf_slice (F:=F+1+1+1+1+1) (d:=1) (u:=38) (el:=3) (enc:=encN) (G:=fun _=>True) rfl rfl (by decide) encN_len (fun _=>rfl) (fun vs hl h=>int_dec hl h) rfl h 2 (by decide)
 subst hn2
 exact ⟨⟨n0,l1,A1,c1,l2,A2,c2⟩,eq_of_at hl (And.intro e0 (And.intro e1 (And.intro e2 trivial))),⟨hr1,fun y hy=>(hg1 y hy).1,hr2⟩,wf_u8 w0,fun y hy=>(hg1 y hy).2⟩
theorem actsA_in {w:World} {l:List ActA} (h:∀ x∈l,(x.rdA.holds (hp w)∧(RecsRd x.L).holds (hp w)∧x.rdK.holds (hp w))∧(0≤x.k∧x.k<256)∧∀ y∈x.L,y.r.L.length≤reachBytes):(ActsA l).holds (hp w)∧(∀ x∈l,∀ y∈x.L,y.r.L.length≤140737488351232)∧∀ x∈l,0≤x.k∧x.k<256:=⟨fun x hx=>(h x hx).1,fun x hx=>(h x hx).2.2,fun x hx=>(h x hx).2.1⟩
theorem maxLen_le {n c:Nat} (h:n≤c) (h2:c≤maxLen∧n≤reachBytes):n≤9223372036854775807:=Nat.le_trans h h2.1
theorem bytes_ok:bytesOk Tryz.prog Tryz.tbs.tab=true:=by kernel_rfl
theorem all_le {l:List Nat} (h:l.all (· ≤ reachBytes)=true):∀ k∈l,k≤reachBytes:=fun k hk=>of_decide_eq_true (List.all_eq_true.1 h k hk)
abbrev laidL:List (String × DataW Unit):=Rows.storeNoneRow.laid
theorem door_met (os:Os) (args:Array Value):laidMetH Tryz.prog laidL ((World.doorLaid Tryz.prog 400 os).forCall (fun _ _=>0) ⟨#[],args,[]⟩).memory:=by
 rw [MakeChecks.laidMetH_plain _ _ _ (by kernel_rfl)]
 exact laidMet_of_run' 8 (by kernel_rfl) (by kernel_rfl)
theorem tab_of {W:World} (h:laidMetH Tryz.prog laidL W):TabA.holds (hp W):=by
 rw [MakeChecks.laidMetH_plain _ _ _ (by kernel_rfl)] at h
 obtain ⟨g,hg,hgt⟩:∃ g,Tryz.prog.globalNamed "internal/strconv.uint64pow10" = some g∧(Tryz.prog.globals[g]?).map (·.type)=some 227:=⟨0,by kernel_rfl,by kernel_rfl⟩
 have h3:Lib.TabIs Tryz.prog W "internal/strconv.uint64pow10" .u64 Lib.pow10Tab:=Lib.tabIs_of_head (g:=g) (t:=227) (e:=189) (n:=20) hg hgt (by kernel_rfl) (by kernel_rfl) (by kernel_rfl) (by kernel_rfl) (laidMet.tail (laidMet.tail h))
 intro w hw
 have h4:W.var? Tryz.prog "internal/strconv.uint64pow10" = some (Lib.pow10Tab.map fun z=>Value.int .u64 z).toArray:=h3
 show w.var? Tryz.prog "internal/strconv.uint64pow10" = some _
 unfold World.var? at h4 ⊢
 rw [hg] at h4 ⊢
 simp only [Option.bind_some] at h4 ⊢
 cases hx:W.heap[g]? with
 | none=>rw [hx] at h4;cases h4
 |
  some o =>
  rw [hx] at h4
  have h5:w.heap[g]? = some o:=hw g o hx
  rw [h5]
  exact h4
open Go.Sy Go.RowKit
theorem le_sum {l:List Nat} {k:Nat} (h:k∈l):k≤l.sum:=by
 induction l with
 | nil=>cases h
 |
  cons a l ih =>
  rw [List.sum_cons]
  rcases List.mem_cons.1 h with rfl | h
  · omega
  have:=ih h
  omega
theorem entsA_le {l:List ActA} {x:ActA} (h:x∈l):entsR x.L≤entsA l:=le_sum (List.mem_map_of_mem h)
theorem entsR_le {L:List RecS} {y:RecS} (h:y∈L):y.r.L.length≤entsR L:=le_sum (List.mem_map_of_mem h)
theorem fit_recs {l:List ActA} {x:ActA} (hx:x∈l) (hf:Fit x) (he:entsA l≤1500):∀ y∈x.L,y.r.L.length≤2000∧y.r.F.length≤100000:=fun y hy=>by
 have h1:=entsA_le hx
 have h2:=entsR_le hy
 have h3:=hf.feed y hy
 omega
theorem reg_len {x:StaS} (h:okS x.abs) {j:Nat} {g:RegS} (hg:x.regs[j]? = some g):g.r.L.length≤1000:=by
 have h1:=h.regs g.r (by rw [abs_R];exact List.mem_map_of_mem (List.mem_of_getElem? hg))
 have:=wholeE_len (okR_of h1).2.2.2.1
 omega
theorem sameRowT (r:Reg) (hl:r.L.length≤1000000) (A B:Option Addr) (a b:Nat):Triple Tryz.prog 27 [.agg (encG ⟨r,A,a⟩).toArray,.agg (encG ⟨r,B,b⟩).toArray] [] [Row 101 6 A r.L.length a (r.L.flatMap encE),Row 101 6 B r.L.length b (r.L.flatMap encE)] Unit (fun _=>.bool true) (fun _=>True) (fun _=>[]):=by
 have:=(sameRegT ⟨r,A,a⟩ ⟨r,B,b⟩ hl).reads (N':=[Row 101 6 A r.L.length a (r.L.flatMap encE),Row 101 6 B r.L.length b (r.L.flatMap encE)]) (fun X hX=>by
  simp only [List.mem_cons,List.not_mem_nil,or_false] at hX
  rcases hX with rfl | rfl
  · exact ⟨_,List.mem_cons_self,fun _ q=>Row.rd q⟩
  exact ⟨_,List.mem_cons_of_mem _ List.mem_cons_self,fun _ q=>Row.rd q⟩)
 rw [decide_eq_true rfl] at this
 exact this
theorem regs_of {x y:StaS} (h:x.abs=y.abs):x.r0.r=y.r0.r∧x.r1.r=y.r1.r∧x.r2.r=y.r2.r∧x.r3.r=y.r3.r:=by
 have:=congrArg Sta.R h
 simp only [StaS.abs,List.cons.injEq,and_true] at this
 exact this
structure Keep (x:Sta) (W:WK) (D:DK) (rs:List Rec) (b i:Nat):Prop where
 st:okS x
 fold:foldS noSta rs=some x
 may:∀ r∈rs,mayR r=true
 room:Room W D (rs.map recB) i
 few:rs.length≤b
theorem Keep.i {x:Sta} {W:WK} {D:DK} {rs:List Rec} {b i:Nat} (h:Keep x W D rs b i):StoI x W D:=⟨h.st,h.room.ok.1,h.room.ok.2.1⟩
theorem Keep.more {x:Sta} {W:WK} {D:DK} {rs:List Rec} {b i b' i':Nat} (h:Keep x W D rs b i) (hb:b≤b') (hi:i≤i'):Keep x W D rs b' i':=⟨h.st,h.fold,h.may,⟨h.room.live,h.room.fails,Nat.le_trans h.room.few hi⟩,Nat.le_trans h.few hb⟩
theorem Keep.new {m:Int} (h1:1≤m) (h2:m≤1048576):Keep noSta exW ⟨m,0,false,[],none,[]⟩ [] 0 0:=⟨okS_no,rfl,fun _ q=>(by cases q),Room.new h1 h2,Nat.le_refl _⟩
theorem Keep.write {x y:Sta} {W:WK} {D:DK} {rs:List Rec} {b i:Nat} (h:Keep x W D rs b i) {L:List RecS} {R:WK × DK × Int × Bool} (hR:WriteR L x W D=R) (hy:if R.2.2.2=true then writeS x (recsR L)=some y else y=x) :
 (∃ rs',Keep y R.1 R.2.1 rs' (b+L.length) (i+1)∧(R.2.2.2=false→rs'=rs))∧(R.2.2.1=0∨(R.2.2.1=2∨R.2.2.1=40)∧y=x):=by
 have grow:Keep x W D rs (b+L.length) (i+1):=h.more (Nat.le_add_right _ _) (Nat.le_succ _)
 unfold WriteR at hR
 cases hw:writeS x (recsR L) with
 |
  none =>
  rw [hw] at hR
  subst hR
  rw [if_neg (by simp)] at hy
  exact ⟨⟨rs,by rw [hy];exact grow,fun _=>rfl⟩,.inr ⟨.inl rfl,hy⟩⟩
 |
  some z =>
  rw [hw] at hR
  simp only at hR
  by_cases h0:L.length=0
  · rw [if_pos h0] at hR
    subst hR
    rw [if_neg (by simp)] at hy
    exact ⟨⟨rs,by rw [hy];exact grow,fun _=>rfl⟩,.inl rfl⟩
  rw [if_neg h0] at hR
  obtain ⟨g1,_,g3,g4⟩:=writeS_some hw h.st
  rcases h.room.app (recs_small g4) with ⟨a1,a2⟩ | ⟨a1,a2,a3⟩
  · rw [a1] at hR
    subst hR
    simp only [decide_true,if_true] at hy
    rw [hw] at hy
    cases hy
    rw [←List.map_append] at a2
    refine ⟨⟨rs++recsR L,⟨g1,by rw [foldS_append,h.fold];exact g3,fun r hr=>?_,a2,?_⟩,fun q=>(by cases q)⟩,.inl rfl⟩
    · rcases List.mem_append.1 hr with hr | hr
      · exact h.may r hr
      exact g4 r hr
    have:(recsR L).length=L.length:=by unfold recsR;exact List.length_map _
    rw [List.length_append,this]
    have:=h.few
    omega
  rw [a1] at hR
  subst hR
  rw [if_neg (by simp)] at hy
  subst hy
  exact ⟨⟨rs,by dsimp only;rw [a2];exact ⟨h.st,h.fold,h.may,⟨a3.live,a3.fails,Nat.le_succ_of_le a3.few⟩,Nat.le_trans h.few (Nat.le_add_right _ _)⟩,fun _=>rfl⟩,.inr ⟨.inr rfl,rfl⟩⟩
theorem Keep.again {w q:Nat} {x:StaS} {sure:Nat} {dirty:Bool} {W:WK} {D:DK} {rs:List Rec} {b i:Nat} (h:Keep x.abs W D rs b i) (hs:dirty=false→rs=[]) (h0:D.starts=0) :
 ∃ s d W1 D1 D2 D3 D4 W4,SyncR w q x sure dirty W D=((s,d),(W1,D1),0)∧okD D1∧crashD D1 []=(D2,0)∧okD D2∧D2.starts=0∧startD D2=(D3,0)∧okD D3∧openD D3=(D4,0,W4,rs.map recB):=by
 have fin:∀ {D1:DK},Logs W D1 (rs.map recB) (rs.map recB).length→D1.starts=0→∃ D2 D3 D4 W4,okD D1∧crashD D1 []=(D2,0)∧okD D2∧D2.starts=0∧startD D2=(D3,0)∧okD D3∧openD D3=(D4,0,W4,rs.map recB):=fun {D1} hL h0=>by
  obtain ⟨k1,k2,k3⟩:=hL.crash []
  obtain ⟨D3,W4,D4,l,e5,_,e6,_,_,hp,hs,o5,_⟩:=k2.opens
  have hl:l=rs.map recB:=hp.eq_of_length (Nat.le_antisymm hp.length_le hs)
  subst hl
  obtain ⟨_,_,_,hv,_⟩:=hL
  exact ⟨(crashD D1 []).1,D3,D4,W4,hv.ok,Prod.ext rfl k1,k2.ok,by rw [k3,h0],e5,o5,e6⟩
 unfold SyncR
 cases dirty with
 |
  false =>
  have hL:Logs W D (rs.map recB) (rs.map recB).length:=by
   have:=h.room.live
   rw [hs rfl] at this ⊢
   exact this
  rw [if_pos rfl]
  obtain ⟨D2,D3,D4,W4,g⟩:=fin hL h0
  exact ⟨_,_,_,_,D2,D3,D4,W4,rfl,g⟩
 |
  true =>
  rw [if_neg (by decide)]
  rcases h.room.live.sync with ⟨k1,k2,k3,_,_⟩ | ⟨k1,_⟩
  · rw [k1,if_neg (by simp)]
    have hst:=syncW_starts W D
    obtain ⟨D2,D3,D4,W4,g⟩:=fin k3 (by rw [hst,h0])
    exact ⟨_,_,_,_,D2,D3,D4,W4,by rw [k2],g⟩
  exact absurd h.room.fails k1
theorem WriteR_starts (L:List RecS) (x:Sta) (W:WK) (D:DK):(WriteR L x W D).2.1.starts=D.starts:=by
 unfold WriteR
 split
 · rfl
 split
 · rfl
 exact appW_starts _ _ _
theorem WriteR_code {L:List RecS} {x:Sta} {W:WK} {D:DK} {rs:List Rec} {b i:Nat} (h:Keep x W D rs b i):(WriteR L x W D).2.2.1=0∨((WriteR L x W D).2.2.1=2∨(WriteR L x W D).2.2.1=40)∧(WriteR L x W D).2.2.2=false:=by
 unfold WriteR
 cases hw:writeS x (recsR L) with
 | none=>exact .inr ⟨.inl rfl,rfl⟩
 |
  some z =>
  dsimp only
  by_cases h0:L.length=0
  · rw [if_pos h0]
    exact .inl rfl
  rw [if_neg h0]
  rcases h.room.app (recs_small (writeS_some hw h.st).2.2.2) with ⟨a1,_⟩ | ⟨a1,_⟩
  · exact .inl a1
  exact .inr ⟨.inr a1,by rw [a1];rfl⟩
def RowE (r:Reg) (y:Sl):Asn:=Row 101 6 y.1 r.L.length y.2 (r.L.flatMap encE)
theorem rowE_no {x:StaS} (hx:x.abs=noSta) (j:Nat) {g:RegS} (hg:x.regs[j]? = some g):∀ h,(RowE g.r (none,0)).holds h:=fun h=>by
 have h1:g.r∈x.abs.R:=by rw [abs_R];exact List.mem_map_of_mem (List.mem_of_getElem? hg)
 rw [hx] at h1
 obtain h2:g.r=noReg:=by simpa [noSta] using h1
 rw [h2]
 exact Row.nilE _ _ h
theorem regSwap (p w:Nat) (x:StaS) (sure:Nat) (dirty:Bool) (j:Nat) (g:RegS) (hj:j<4) (hg:x.regs[j]? = some g) (hl:g.r.L.length≤1000) (r:Reg) (y:Sl):Triple Tryz.prog 25 [pP p,.int .i64 (j:Int)] [StoP p w x sure dirty,RowE r y] [x.rd] Sl (fun (A',c')=>.tuple #[.agg (encG ⟨g.r,A',c'⟩).toArray,.int .i64 0]) (fun _=>True) (fun z=>[StoP p w x sure dirty,RowE g.r z]) :=
 ((
  regGood p w x sure dirty j g hj hg hl).frame [RowE r y]).imp fun z _=>⟨z,rfl,trivial,fun h q=>by
  obtain ⟨h1,h2,d,a,b,p1,p2⟩:=q
  obtain ⟨h3,h4,d2,a2,b2,p3,_⟩:=p2
  exact ⟨h1,h2,d,a,b,p1,starH_one.2 (Asn.mono _ a2 p3)⟩⟩
theorem regNew (p w:Nat) (x:StaS) (sure:Nat) (dirty:Bool) (j:Nat) (g:RegS) (hj:j<4) (hg:x.regs[j]? = some g) (hl:g.r.L.length≤1000):Triple Tryz.prog 25 [pP p,.int .i64 (j:Int)] [StoP p w x sure dirty] [x.rd] Sl (fun (A',c')=>.tuple #[.agg (encG ⟨g.r,A',c'⟩).toArray,.int .i64 0]) (fun _=>True) (fun z=>[StoP p w x sure dirty,RowE g.r z]) :=
 (regGood p w x sure dirty j g hj hg hl).imp fun z _=>⟨z,rfl,trivial,fun _ q=>q⟩
theorem sameSwap (r:Reg) (hl:r.L.length≤1000000) (y z:Sl):Triple Tryz.prog 27 [.agg (encG ⟨r,y.1,y.2⟩).toArray,.agg (encG ⟨r,z.1,z.2⟩).toArray] [RowE r z,RowE r y] [] Unit (fun _=>.bool true) (fun _=>True) (fun _=>[RowE r y,Asn.tt]):=by
 have:=(sameRowT r hl y.1 z.1 y.2 z.2).lend [RowE r z,RowE r y] (fun h q Z hZ=>by
  obtain ⟨h1,h2,d,a,b,p1,p2⟩:=q
  simp only [List.mem_cons,List.not_mem_nil,or_false] at hZ
  rcases hZ with rfl | rfl
  · exact Asn.mono _ b (starH_one.1 p2)
  exact Asn.mono _ a p1)
 exact this.imp fun u g=>⟨u,rfl,trivial,fun h ⟨h1,h2,d,a,b,p1,p2⟩=>⟨h2,h1,d.symm,b,a,starH_one.1 p2,starH_one.2 trivial⟩⟩
theorem sameRowE (r:Reg) (hl:r.L.length≤1000000) (A:Option Addr) (a:Nat) (y:Sl):Triple Tryz.prog 27 [.agg (encG ⟨r,A,a⟩).toArray,.agg (encG ⟨r,y.1,y.2⟩).toArray] [] [Row 101 6 A r.L.length a (r.L.flatMap encE),RowE r y] Unit (fun _=>.bool true) (fun _=>True) (fun _=>[]):=sameRowT r hl A y.1 a y.2
def svW (x:StaS) (y0 y1 y2 y3:Sl):List SV:=svG ⟨x.r0.r,y0.1,y0.2⟩++(svG ⟨x.r1.r,y1.1,y1.2⟩++(svG ⟨x.r2.r,y2.1,y2.2⟩++svG ⟨x.r3.r,y3.1,y3.2⟩))
set_option maxHeartbeats 16000000 in
theorem storeFull (cap:Int) (A:Option Addr) (l:List ActA) (n c:Nat) (hc:0≤cap∧cap<65536) (hn:n=l.length) (hn1:n≤9223372036854775807) (hB:∀ x∈l,∀ y∈x.L,y.r.L.length≤140737488351232) (hin:∀ x∈l,0≤x.k∧x.k<256) :
 Triple Tryz.prog 6 [.int .u16 cap,.slice A n c] [] [TabA,Rd 3 A n (l.flatMap encA),ActsA l] Unit (fun _=>.bool true) (fun _=>True) (fun _=>[]):=by
 have TG:=(beyondT A l n c 40 hn hn1 hB).reads (N':=[TabA,Rd 3 A n (l.flatMap encA),ActsA l]) (fun X hX=>⟨X,List.mem_cons_of_mem _ hX,fun _ q=>q⟩)
 have TL:=livesT
 by_cases hz:cap<1
 · have TN:=newErr cap (.inl hz)
   refine aT Tryz.func6 [.va (.int .u16 cap),vL A n c] [] (fun E=>?_) ⟨trivial,trivial,trivial⟩
   refine aG ?_
   refine aC TG [] [.inl 0,.inl 1,.inl 2] fun x10 h11=>?_
   refine ev_if (fun h12=>?_) (fun h12=>?_)
   refine aG ?_
   refine aC TL [] [.inl 0] fun _ h13=>?_
   refine ev_fin ⟨trivial,_,rfl,(()),rfl,(by trivial),Frm.nil _⟩
   refine aG ?_
   refine w6 ?_
   refine aC TN [] [] fun _ h14=>?_
   refine aJ ?_
   refine aC TL [] [.inl 0] fun _ h15=>?_
   refine ev_fin ⟨trivial,_,rfl,(()),rfl,(by trivial),Frm.nil _⟩
   all_goals skip
 have TN:=newM cap (by omega) (by omega)
 have hK0:=Keep.new (m:=cap) (by omega) (by omega)
 obtain ⟨D0,hD0⟩:∃ D0:DK,D0=⟨cap,0,false,[],none,[]⟩:=⟨_,rfl⟩
 have hst0:D0.starts=0:=by rw [hD0]
 rw [←hD0] at TN hK0
 have TO:=fun q=>openLT q D0 hK0.i.dk [] hK0.room.live.self (fun _ h=>by cases h) (by decide) noSta rfl okS_no 0 rfl
 refine aT Tryz.func6 [.va (.int .u16 cap),vL A n c] [] (fun E=>?_) ⟨trivial,trivial,trivial⟩
 refine go_fact (Rd 1 none 0 (([]:List Int).flatMap encN)) (fun h=>Rd.nil _ _ h) ?_
 refine aG ?_
 refine aC TG [] [.inl 0,.inl 1,.inl 2] fun x10 h11=>?_
 refine ev_if (fun h12=>?_) (fun h12=>?_)
 refine aG ?_
 refine aC TL [] [.inl 0] fun _ h13=>?_
 refine ev_fin ⟨trivial,_,rfl,(()),rfl,(by trivial),Frm.nil _⟩
 refine aG ?_
 refine w6 ?_
 refine aC TN [] [] fun x14 h15=>?_
 refine aI ?_
 refine aC (TO (x14)) [1] [.inl 0] fun ⟨x16,x17,x18⟩ h19=>?_
 refine aI ?_
 refine ev_new fun b20=>?_
 have hX0:x18.abs=noSta := ‹_›
 obtain ⟨hn40,hfit,hent⟩:=h11 h12
 refine ev_stop (go_fact (RowE x18.r0.r (none,0)) (rowE_no hX0 0 rfl) ?_)
 refine go_fact (RowE x18.r1.r (none,0)) (rowE_no hX0 1 rfl) ?_
 refine go_fact (RowE x18.r2.r (none,0)) (rowE_no hX0 2 rfl) ?_
 refine go_fact (RowE x18.r3.r (none,0)) (rowE_no hX0 3 rfl) ?_
 refine aG ?_
 obtain ⟨⟨r0,A0,a0⟩,⟨r1,A1,a1⟩,⟨r2,A2,a2⟩,⟨r3,A3,a3⟩,F,AF,cF⟩:=x18
 obtain ⟨⟨rfl,rfl,rfl,rfl⟩,rfl⟩:(r0=noReg∧r1=noReg∧r2=noReg∧r3=noReg)∧F=[]:=by
  simpa [StaS.abs,noSta] using hX0
 refine ev_stop (go_loopR [4,10,11,12,13,14,22,25,31,33,39,40,41,42,43,44,45,46,47,48,49,50,51,52,53,54,55,56,57,58,59,60,61,62,63,64,65,66,67,68,69,70,71,72,73,74,75,76,77,78,79,80,81,82,83,84,85,86,87,88,89,90,91,92,93,94,95] (fun (i,_)=>[(10,vI (i:Nat))]) (fun (_,X,sure,dirty,W,D,y0,y1,y2,y3)=>[(1,.fact (DiskM x14 D)),(2,.fact X.rd),(3,.fact (StoP x16 x17 X sure dirty)),(4,.fact (WalM x17 x14 W)),(5,.box b20 33 (svW X y0 y1 y2 y3)),(6,.fact (RowE X.r0.r y0)),(7,.fact (RowE X.r1.r y1)),(8,.fact (RowE X.r2.r y2)),(9,.fact (RowE X.r3.r y3))]) (fun ((i,X,sure,dirty,W,D,_,_,_,_):Nat × StaS × Nat × Bool × WK × DK × Sl × Sl × Sl × Sl)=>i≤n∧(∃ rs,Keep X.abs W D rs (6*i) i∧(dirty=false→rs=[]))∧D.starts=0) (fun (i,_)=>n-i) ((0,⟨⟨noReg,A0,a0⟩,⟨noReg,A1,a1⟩,⟨noReg,A2,a2⟩,⟨noReg,A3,a3⟩,[],AF,cF⟩,0,false,exW,D0,(none,0),(none,0),(none,0),(none,0)):Nat × StaS × Nat × Bool × WK × DK × Sl × Sl × Sl × Sl) ⟨Nat.zero_le _,⟨[],hK0,fun _=>rfl⟩,hst0⟩ aS (fun x_ h_=>?_))
 obtain ⟨i,X,sure,dirty,W,D,y0,y1,y2,y3⟩:=x_
 obtain ⟨hi,⟨rs,hK,hd⟩,hst⟩:=h_
 rcases Nat.lt_or_ge i n with hin2 | hin2
 · have hil:i<l.length:=by omega
   have hfx:=hfit l[i] (List.getElem_mem hil)
   have hk:=hin l[i] (List.getElem_mem hil)
   have hLi:=fit_recs (List.getElem_mem hil) hfx hent
   have hI:=hK.i
   have hL6:=hfx.recs
   obtain ⟨R,hR⟩:∃ R,WriteR l[i].L X.abs W D=R:=⟨_,rfl⟩
   have TW:=writeLT x16 x17 x14 X sure dirty W D l[i].A l[i].L l[i].L.length l[i].c rfl (by omega) hLi hI.dk hI.wk hI.st R hR
   have hIW:=fun (y:StaS)=>hK.write (y:=y.abs) (L:=l[i].L) hR
   have hcode:=WriteR_code (L:=l[i].L) hK
   have hst1:=WriteR_starts l[i].L X.abs W D
   rw [hR] at hcode hst1
   rw [hst] at hst1
   obtain ⟨W1,D1,e1,b1⟩:=R
   dsimp only at TW hIW hcode hst1
   refine go_more 2 (ActsA l) (Rd 8 l[i].A l[i].L.length (l[i].L.flatMap encR)) rfl (fun h p=>(p _ (List.getElem_mem hil)).1) ?_
   refine go_more 2 (ActsA l) (RecsRd l[i].L) rfl (fun h p=>(p _ (List.getElem_mem hil)).2.1) ?_
   refine aG ?_
   by_cases hk0:l[i].k.tmod 4=0
   · rcases hcode with rfl | ⟨hc2,rfl⟩
     · refine aJ ?_ (decide_eq_true (show (↑i:Int)<(↑n:Int) from (by omega)))
       refine ev_stop (go_indexE (sz:=3) Tryz.tbs_ok (.inl 1) (i) rfl rfl rfl rfl rfl rfl (by omega) rfl (fun _ h=>h) (fun g30 o32 e31=>?_))
       subst e31
       refine aG ?_
       have l33:i<(l).length:=(by omega)
       refine ev_stop (go_loadE Tryz.tbs_ok (.inl 1) (i) 0 rfl rfl rfl rfl (fun _ h=>h) (by omega) (fun _=>rfl) (by omega) l33 (by decide) ?_)
       refine aG ?_
       refine aI ?_ (ne_no (by with_reducible assumption))
       refine ev_stop (go_atE (sz:=3) Tryz.tbs_ok (i) rfl rfl rfl rfl rfl rfl (by omega) ?_)
       refine aG ?_
       have l34:i<(l).length:=(by omega)
       refine ev_stop (go_loadE Tryz.tbs_ok (.inl 1) (i) 1 rfl rfl rfl rfl (fun _ h=>h) (by omega) (fun _=>rfl) (by omega) l34 (by decide) ?_)
       refine aG ?_
       refine aC TW [3,4,1,2] [.inl 0,.inl 3,.inl 4] fun x35 h36=>?_
       refine aI ?_
       obtain ⟨⟨rs',hK',hd'⟩,_⟩:=hIW _ (abs_of h36)
       have TR:=fun (j:Nat) (g:RegS) hj hg=>regSwap x16 x17 x35 sure (b1 || dirty) j g hj hg (reg_len hK'.st hg)
       have TR0:=TR 0 x35.r0 (by decide) rfl X.r0.r y0
       have TR1:=TR 1 x35.r1 (by decide) rfl X.r1.r y1
       have TR2:=TR 2 x35.r2 (by decide) rfl X.r2.r y2
       have TR3:=TR 3 x35.r3 (by decide) rfl X.r3.r y3
       refine ev_stop (go_rounds 5 ?_)
       refine aG (aJ ?_)
       refine aC TR0 [3,6] [.inr 2] fun ⟨x50,x51⟩ h52=>?_
       refine ev_new fun b53=>?_
       refine ev_stop (go_draw Tryz.tbs_ok true [5,10] [(0,true),(1,true),(2,true),(3,true),(4,true),(5,true),(6,true),(7,true),(8,true),(9,true),(10,false),(11,false),(12,false),(13,false)] rfl ?_)
       refine aG (aE (aI (aE (aI (aE (aE (aE (aE (aE ?_)))))))))
       refine ev_stop (go_indexArr Tryz.tbs_ok (0) rfl rfl rfl rfl rfl rfl (by first | decide | omega) rfl rfl ?_)
       refine aG ?_
       refine wN (0+1) ?_
       refine ev_fin (go Tryz.tbs_ok 1000 ?_)
       refine aJ ?_
       refine aC TR1 [3,7] [.inr 2] fun ⟨x54,x55⟩ h56=>?_
       refine ev_new fun b57=>?_
       refine ev_stop (go_draw Tryz.tbs_ok true [5,11] [(0,true),(1,true),(2,true),(3,true),(4,true),(5,true),(6,true),(7,true),(8,true),(9,true),(10,false),(11,false),(12,false),(13,false)] rfl ?_)
       refine aG (aE (aI (aE (aI (aE (aE (aE (aE (aE ?_)))))))))
       refine ev_stop (go_indexArr Tryz.tbs_ok (0+1) rfl rfl rfl rfl rfl rfl (by first | decide | omega) rfl rfl ?_)
       refine aG ?_
       refine wN (0+1+1) ?_
       refine ev_fin (go Tryz.tbs_ok 1000 ?_)
       refine aJ ?_
       refine aC TR2 [3,8] [.inr 2] fun ⟨x58,x59⟩ h60=>?_
       refine ev_new fun b61=>?_
       refine ev_stop (go_draw Tryz.tbs_ok true [5,12] [(0,true),(1,true),(2,true),(3,true),(4,true),(5,true),(6,true),(7,true),(8,true),(9,true),(10,false),(11,false),(12,false),(13,false)] rfl ?_)
       refine aG (aE (aI (aE (aI (aE (aE (aE (aE (aE ?_)))))))))
       refine ev_stop (go_indexArr Tryz.tbs_ok (0+1+1) rfl rfl rfl rfl rfl rfl (by first | decide | omega) rfl rfl ?_)
       refine aG ?_
       refine wN (0+1+1+1) ?_
       refine ev_fin (go Tryz.tbs_ok 1000 ?_)
       refine aJ ?_
       refine aC TR3 [3,9] [.inr 2] fun ⟨x62,x63⟩ h64=>?_
       refine ev_new fun b65=>?_
       refine ev_stop (go_draw Tryz.tbs_ok true [5,13] [(0,true),(1,true),(2,true),(3,true),(4,true),(5,true),(6,true),(7,true),(8,true),(9,true),(10,false),(11,false),(12,false),(13,false)] rfl ?_)
       refine aG (aE (aI (aE (aI (aE (aE (aE (aE (aE ?_)))))))))
       refine ev_stop (go_indexArr Tryz.tbs_ok (0+1+1+1) rfl rfl rfl rfl rfl rfl (by first | decide | omega) rfl rfl ?_)
       refine aG ?_
       refine wN (0+1+1+1+1) ?_
       refine ev_fin (go Tryz.tbs_ok 1000 ?_)
       refine aI ?_
       refine ev_fin (go Tryz.tbs_ok 1000 ?_)
       refine wN (i+1) ?_
       refine ev_fin (round_next ((i+1,x35,sure,b1 || dirty,W1,D1,(x50,x51),(x54,x55),(x58,x59),x62,x63)) (?_:i+1≤n∧(∃ rs,Keep x35.abs W1 D1 rs (6*(i+1)) (i+1)∧((b1 || dirty)=false→rs=[]))∧D1.starts=0) (show n-(i+1)<n-i from (by omega)) aS)
       refine ⟨by omega,⟨rs',hK'.more (by omega) (Nat.le_refl _),fun q=>?_⟩,hst1⟩
       rw [Bool.or_eq_false_iff] at q
       rw [hd' q.1]
       exact hd q.2
     have TR:=fun (j:Nat) (g:RegS) hj hg=>regNew x16 x17 X sure dirty j g hj hg (reg_len hK.st hg)
     have TR0:=TR 0 X.r0 (by decide) rfl
     have TR1:=TR 1 X.r1 (by decide) rfl
     have TR2:=TR 2 X.r2 (by decide) rfl
     have TR3:=TR 3 X.r3 (by decide) rfl
     have hl:=fun (j:Nat) (g:RegS) (hg:X.regs[j]? = some g)=>Nat.le_trans (reg_len hK.st hg) (show 1000≤1000000 by decide)
     have TQ0:=fun A a=>sameSwap X.r0.r (hl 0 X.r0 rfl) (A,a) y0
     have TQ1:=fun A a=>sameSwap X.r1.r (hl 1 X.r1 rfl) (A,a) y1
     have TQ2:=fun A a=>sameSwap X.r2.r (hl 2 X.r2 rfl) (A,a) y2
     have TQ3:=fun A a=>sameSwap X.r3.r (hl 3 X.r3 rfl) (A,a) y3
     obtain ⟨⟨rs',hK',hd'⟩,_⟩:=hIW X (by rw [if_neg (by simp)])
     have TW2:=TW.imp (ret':=fun _=>.int .i64 e1) (good':=fun _:Unit=>True) (post':=fun _=>[StoP x16 x17 X sure dirty,WalM x17 x14 W1,DiskM x14 D1,X.rd]) (fun y g=>⟨(),rfl,trivial,by rw [if_neg (by simp)] at g;rw [g];exact fun _ q=>q⟩)
     rcases hc2 with rfl | rfl
     · refine aJ ?_ (decide_eq_true (show (↑i:Int)<(↑n:Int) from (by omega)))
       refine ev_stop (go_indexE (sz:=3) Tryz.tbs_ok (.inl 1) (i) rfl rfl rfl rfl rfl rfl (by omega) rfl (fun _ h=>h) (fun g30 o32 e31=>?_))
       subst e31
       refine aG ?_
       have l33:i<(l).length:=(by omega)
       refine ev_stop (go_loadE Tryz.tbs_ok (.inl 1) (i) 0 rfl rfl rfl rfl (fun _ h=>h) (by omega) (fun _=>rfl) (by omega) l33 (by decide) ?_)
       refine aG ?_
       refine aI ?_ (ne_no (by with_reducible assumption))
       refine ev_stop (go_atE (sz:=3) Tryz.tbs_ok (i) rfl rfl rfl rfl rfl rfl (by omega) ?_)
       refine aG ?_
       have l34:i<(l).length:=(by omega)
       refine ev_stop (go_loadE Tryz.tbs_ok (.inl 1) (i) 1 rfl rfl rfl rfl (fun _ h=>h) (by omega) (fun _=>rfl) (by omega) l34 (by decide) ?_)
       refine aG ?_
       refine aC TW2 [3,4,1,2] [.inl 0,.inl 3,.inl 4] fun _ h35=>?_
       refine aJ (aI ?_)
       refine ev_stop (go_rounds 5 ?_)
       refine aG (aJ ?_)
       refine aC TR0 [3] [.inr 2] fun ⟨x50,x51⟩ h52=>?_
       refine ev_new fun b53=>?_
       refine ev_stop (go_draw Tryz.tbs_ok true [5,11] [(0,true),(1,true),(2,true),(3,true),(4,true),(5,true),(6,true),(7,true),(8,true),(9,true),(10,false),(11,false),(12,false),(13,false)] rfl ?_)
       refine aG (aE (aI (aE (aJ (aE ?_)))))
       refine ev_stop (tk_indexArr Tryz.tbs_ok (0) aB rfl rfl rfl rfl rfl rfl rfl (by first | decide | omega) rfl rfl ?_)
       refine aG (aE ?_)
       refine aC (TQ0 (x50) (x51)) [6,10] [] fun _ h54=>?_
       refine aE (aE (aE (aE (aI ?_))))
       refine ev_stop (go_indexArr Tryz.tbs_ok (0) rfl rfl rfl rfl rfl rfl (by first | decide | omega) rfl rfl ?_)
       refine aG ?_
       refine wN (0+1) ?_
       refine ev_fin (go Tryz.tbs_ok 1000 ?_)
       refine aJ ?_
       refine aC TR1 [3] [.inr 2] fun ⟨x55,x56⟩ h57=>?_
       refine ev_new fun b58=>?_
       refine ev_stop (go_draw Tryz.tbs_ok true [5,13] [(0,true),(1,true),(2,true),(3,true),(4,true),(5,true),(6,true),(7,true),(8,true),(9,true),(10,false),(11,false),(12,false),(13,false)] rfl ?_)
       refine aG (aE (aI (aE (aJ (aE ?_)))))
       refine ev_stop (tk_indexArr Tryz.tbs_ok (0+1) aB rfl rfl rfl rfl rfl rfl rfl (by first | decide | omega) rfl rfl ?_)
       refine aG (aE ?_)
       refine aC (TQ1 (x55) (x56)) [7,12] [] fun _ h59=>?_
       refine aE (aE (aE (aE (aI ?_))))
       refine ev_stop (go_indexArr Tryz.tbs_ok (0+1) rfl rfl rfl rfl rfl rfl (by first | decide | omega) rfl rfl ?_)
       refine aG ?_
       refine wN (0+1+1) ?_
       refine ev_fin (go Tryz.tbs_ok 1000 ?_)
       refine aJ ?_
       refine aC TR2 [3] [.inr 2] fun ⟨x60,x61⟩ h62=>?_
       refine ev_new fun b63=>?_
       refine ev_stop (go_draw Tryz.tbs_ok true [5,15] [(0,true),(1,true),(2,true),(3,true),(4,true),(5,true),(6,true),(7,true),(8,true),(9,true),(10,false),(11,false),(12,false),(13,false)] rfl ?_)
       refine aG (aE (aI (aE (aJ (aE ?_)))))
       refine ev_stop (tk_indexArr Tryz.tbs_ok (0+1+1) aB rfl rfl rfl rfl rfl rfl rfl (by first | decide | omega) rfl rfl ?_)
       refine aG (aE ?_)
       refine aC (TQ2 (x60) (x61)) [8,14] [] fun _ h64=>?_
       refine aE (aE (aE (aE (aI ?_))))
       refine ev_stop (go_indexArr Tryz.tbs_ok (0+1+1) rfl rfl rfl rfl rfl rfl (by first | decide | omega) rfl rfl ?_)
       refine aG ?_
       refine wN (0+1+1+1) ?_
       refine ev_fin (go Tryz.tbs_ok 1000 ?_)
       refine aJ ?_
       refine aC TR3 [3] [.inr 2] fun ⟨x65,x66⟩ h67=>?_
       refine ev_new fun b68=>?_
       refine ev_stop (go_draw Tryz.tbs_ok true [5,17] [(0,true),(1,true),(2,true),(3,true),(4,true),(5,true),(6,true),(7,true),(8,true),(9,true),(10,false),(11,false),(12,false),(13,false)] rfl ?_)
       refine aG (aE (aI (aE (aJ (aE ?_)))))
       refine ev_stop (tk_indexArr Tryz.tbs_ok (0+1+1+1) aB rfl rfl rfl rfl rfl rfl rfl (by first | decide | omega) rfl rfl ?_)
       refine aG (aE ?_)
       refine aC (TQ3 (x65) (x66)) [9,16] [] fun _ h69=>?_
       refine aE (aE (aE (aE (aI ?_))))
       refine ev_stop (go_indexArr Tryz.tbs_ok (0+1+1+1) rfl rfl rfl rfl rfl rfl (by first | decide | omega) rfl rfl ?_)
       refine aG ?_
       refine wN (0+1+1+1+1) ?_
       refine ev_fin (go Tryz.tbs_ok 1000 ?_)
       refine aI ?_
       refine ev_fin (go Tryz.tbs_ok 1000 ?_)
       refine wN (i+1) ?_
       refine ev_fin (round_next ((i+1,X,sure,dirty,W1,D1,(x50,x51),(x55,x56),(x60,x61),x65,x66)) (?_:i+1≤n∧(∃ rs,Keep X.abs W1 D1 rs (6*(i+1)) (i+1)∧(dirty=false→rs=[]))∧D1.starts=0) (show n-(i+1)<n-i from (by omega)) aS)
       exact ⟨by omega,⟨rs',hK'.more (by omega) (Nat.le_refl _),fun q=>by rw [hd' rfl];exact hd q⟩,hst1⟩
     refine aJ ?_ (decide_eq_true (show (↑i:Int)<(↑n:Int) from (by omega)))
     refine ev_stop (go_indexE (sz:=3) Tryz.tbs_ok (.inl 1) (i) rfl rfl rfl rfl rfl rfl (by omega) rfl (fun _ h=>h) (fun g30 o32 e31=>?_))
     subst e31
     refine aG ?_
     have l33:i<(l).length:=(by omega)
     refine ev_stop (go_loadE Tryz.tbs_ok (.inl 1) (i) 0 rfl rfl rfl rfl (fun _ h=>h) (by omega) (fun _=>rfl) (by omega) l33 (by decide) ?_)
     refine aG ?_
     refine aI ?_ (ne_no (by with_reducible assumption))
     refine ev_stop (go_atE (sz:=3) Tryz.tbs_ok (i) rfl rfl rfl rfl rfl rfl (by omega) ?_)
     refine aG ?_
     have l34:i<(l).length:=(by omega)
     refine ev_stop (go_loadE Tryz.tbs_ok (.inl 1) (i) 1 rfl rfl rfl rfl (fun _ h=>h) (by omega) (fun _=>rfl) (by omega) l34 (by decide) ?_)
     refine aG ?_
     refine aC TW2 [3,4,1,2] [.inl 0,.inl 3,.inl 4] fun _ h35=>?_
     refine aJ (aJ (aI ?_))
     refine ev_stop (go_rounds 5 ?_)
     refine aG (aJ ?_)
     refine aC TR0 [3] [.inr 2] fun ⟨x50,x51⟩ h52=>?_
     refine ev_new fun b53=>?_
     refine ev_stop (go_draw Tryz.tbs_ok true [5,11] [(0,true),(1,true),(2,true),(3,true),(4,true),(5,true),(6,true),(7,true),(8,true),(9,true),(10,false),(11,false),(12,false),(13,false)] rfl ?_)
     refine aG (aE (aI (aE (aJ (aE ?_)))))
     refine ev_stop (tk_indexArr Tryz.tbs_ok (0) aB rfl rfl rfl rfl rfl rfl rfl (by first | decide | omega) rfl rfl ?_)
     refine aG (aE ?_)
     refine aC (TQ0 (x50) (x51)) [6,10] [] fun _ h54=>?_
     refine aE (aE (aE (aE (aI ?_))))
     refine ev_stop (go_indexArr Tryz.tbs_ok (0) rfl rfl rfl rfl rfl rfl (by first | decide | omega) rfl rfl ?_)
     refine aG ?_
     refine wN (0+1) ?_
     refine ev_fin (go Tryz.tbs_ok 1000 ?_)
     refine aJ ?_
     refine aC TR1 [3] [.inr 2] fun ⟨x55,x56⟩ h57=>?_
     refine ev_new fun b58=>?_
     refine ev_stop (go_draw Tryz.tbs_ok true [5,13] [(0,true),(1,true),(2,true),(3,true),(4,true),(5,true),(6,true),(7,true),(8,true),(9,true),(10,false),(11,false),(12,false),(13,false)] rfl ?_)
     refine aG (aE (aI (aE (aJ (aE ?_)))))
     refine ev_stop (tk_indexArr Tryz.tbs_ok (0+1) aB rfl rfl rfl rfl rfl rfl rfl (by first | decide | omega) rfl rfl ?_)
     refine aG (aE ?_)
     refine aC (TQ1 (x55) (x56)) [7,12] [] fun _ h59=>?_
     refine aE (aE (aE (aE (aI ?_))))
     refine ev_stop (go_indexArr Tryz.tbs_ok (0+1) rfl rfl rfl rfl rfl rfl (by first | decide | omega) rfl rfl ?_)
     refine aG ?_
     refine wN (0+1+1) ?_
     refine ev_fin (go Tryz.tbs_ok 1000 ?_)
     refine aJ ?_
     refine aC TR2 [3] [.inr 2] fun ⟨x60,x61⟩ h62=>?_
     refine ev_new fun b63=>?_
     refine ev_stop (go_draw Tryz.tbs_ok true [5,15] [(0,true),(1,true),(2,true),(3,true),(4,true),(5,true),(6,true),(7,true),(8,true),(9,true),(10,false),(11,false),(12,false),(13,false)] rfl ?_)
     refine aG (aE (aI (aE (aJ (aE ?_)))))
     refine ev_stop (tk_indexArr Tryz.tbs_ok (0+1+1) aB rfl rfl rfl rfl rfl rfl rfl (by first | decide | omega) rfl rfl ?_)
     refine aG (aE ?_)
     refine aC (TQ2 (x60) (x61)) [8,14] [] fun _ h64=>?_
     refine aE (aE (aE (aE (aI ?_))))
     refine ev_stop (go_indexArr Tryz.tbs_ok (0+1+1) rfl rfl rfl rfl rfl rfl (by first | decide | omega) rfl rfl ?_)
     refine aG ?_
     refine wN (0+1+1+1) ?_
     refine ev_fin (go Tryz.tbs_ok 1000 ?_)
     refine aJ ?_
     refine aC TR3 [3] [.inr 2] fun ⟨x65,x66⟩ h67=>?_
     refine ev_new fun b68=>?_
     refine ev_stop (go_draw Tryz.tbs_ok true [5,17] [(0,true),(1,true),(2,true),(3,true),(4,true),(5,true),(6,true),(7,true),(8,true),(9,true),(10,false),(11,false),(12,false),(13,false)] rfl ?_)
     refine aG (aE (aI (aE (aJ (aE ?_)))))
     refine ev_stop (tk_indexArr Tryz.tbs_ok (0+1+1+1) aB rfl rfl rfl rfl rfl rfl rfl (by first | decide | omega) rfl rfl ?_)
     refine aG (aE ?_)
     refine aC (TQ3 (x65) (x66)) [9,16] [] fun _ h69=>?_
     refine aE (aE (aE (aE (aI ?_))))
     refine ev_stop (go_indexArr Tryz.tbs_ok (0+1+1+1) rfl rfl rfl rfl rfl rfl (by first | decide | omega) rfl rfl ?_)
     refine aG ?_
     refine wN (0+1+1+1+1) ?_
     refine ev_fin (go Tryz.tbs_ok 1000 ?_)
     refine aI ?_
     refine ev_fin (go Tryz.tbs_ok 1000 ?_)
     refine wN (i+1) ?_
     refine ev_fin (round_next ((i+1,X,sure,dirty,W1,D1,(x50,x51),(x55,x56),(x60,x61),x65,x66)) (?_:i+1≤n∧(∃ rs,Keep X.abs W1 D1 rs (6*(i+1)) (i+1)∧(dirty=false→rs=[]))∧D1.starts=0) (show n-(i+1)<n-i from (by omega)) aS)
     exact ⟨by omega,⟨rs',hK'.more (by omega) (Nat.le_refl _),fun q=>by rw [hd' rfl];exact hd q⟩,hst1⟩
   refine aJ ?_ (decide_eq_true (show (↑i:Int)<(↑n:Int) from (by omega)))
   refine ev_stop (go_indexE (sz:=3) Tryz.tbs_ok (.inl 1) (i) rfl rfl rfl rfl rfl rfl (by omega) rfl (fun _ h=>h) (fun g30 o32 e31=>?_))
   subst e31
   refine aG ?_
   have l33:i<(l).length:=(by omega)
   refine ev_stop (go_loadE Tryz.tbs_ok (.inl 1) (i) 0 rfl rfl rfl rfl (fun _ h=>h) (by omega) (fun _=>rfl) (by omega) l33 (by decide) ?_)
   refine aG ?_
   refine aJ ?_ (ne_yes (by with_reducible assumption))
   refine wN (i+1) ?_
   refine ev_fin (round_next ((i+1,X,sure,dirty,W,D,y0,y1,y2,y3)) (?_:i+1≤n∧(∃ rs,Keep X.abs W D rs (6*(i+1)) (i+1)∧(dirty=false→rs=[]))∧D.starts=0) (show n-(i+1)<n-i from (by omega)) aS)
   exact ⟨by omega,⟨rs,hK.more (by omega) (by omega),hd⟩,hst⟩
 obtain rfl:i=n:=by omega
 obtain ⟨s2,d2,W1,D1,D2,D3,D4,W4,hS,o1,e2,o2,st2,e3,o3,e4⟩:=hK.again (w:=x17) (q:=x14) (sure:=sure) hd hst
 have TS:=syncLT x16 x17 x14 X sure dirty W D hK.i.dk hK.i.wk hS
 have TC:=crashM x14 D1 none 0 0 [] o1 rfl
 rw [e2] at TC
 have TU:=startM x14 D2 o2 (by rw [st2];decide) (by rw [st2];decide)
 rw [e3] at TU
 have TP:=openLT x14 D3 o3 rs e4 hK.may (Nat.le_trans hK.few (by omega)) X.abs hK.fold hK.st X.F.length rfl
 refine aG ?_
 refine aI ?_ (decide_eq_false (show ¬(↑i:Int)<(↑i:Int) from (by omega)))
 refine ev_fin (go Tryz.tbs_ok 1000 ?_)
 refine aC TS [3,4,1] [.inl 0] fun _ h60=>?_
 refine aI ?_
 refine aC TC [1] [.inr 0] fun _ h61=>?_
 refine aI ?_
 refine aC TU [1] [] fun _ h62=>?_
 refine aI ?_
 refine aC TP [1] [.inl 0] fun ⟨x63,x64,x65⟩ h66=>?_
 refine aI ?_
 have hA:x65.abs=X.abs := ‹_›
 obtain ⟨q0,q1,q2,q3⟩:=regs_of hA
 have hok2:okS x65.abs:=by rw [hA];exact hK.st
 have TR:=fun (j:Nat) (g:RegS) hj hg=>regGood x63 x64 x65 X.F.length false j g hj hg (reg_len hok2 hg)
 have TR0:=TR 0 x65.r0 (by decide) rfl
 have TR1:=TR 1 x65.r1 (by decide) rfl
 have TR2:=TR 2 x65.r2 (by decide) rfl
 have TR3:=TR 3 x65.r3 (by decide) rfl
 rw [q0] at TR0
 rw [q1] at TR1
 rw [q2] at TR2
 rw [q3] at TR3
 have hl:=fun (j:Nat) (g:RegS) (hg:X.regs[j]? = some g)=>Nat.le_trans (reg_len hK.st hg) (show 1000≤1000000 by decide)
 have TQ0:=fun A a=>sameRowE X.r0.r (hl 0 X.r0 rfl) A a y0
 have TQ1:=fun A a=>sameRowE X.r1.r (hl 1 X.r1 rfl) A a y1
 have TQ2:=fun A a=>sameRowE X.r2.r (hl 2 X.r2 rfl) A a y2
 have TQ3:=fun A a=>sameRowE X.r3.r (hl 3 X.r3 rfl) A a y3
 refine ev_stop (go_rounds 5 ?_)
 refine aG (aJ ?_)
 refine aC TR0 [11] [.inr 10] fun ⟨x80,x81⟩ h82=>?_
 refine ev_new fun b83=>?_
 refine ev_stop (go_draw Tryz.tbs_ok true [5,14] [(0,true),(1,true),(2,true),(3,true),(4,true),(5,true),(6,true),(7,false),(8,false),(9,false)] rfl ?_)
 refine aG (aE (aI (aE ?_)))
 refine ev_stop (tk_indexArr Tryz.tbs_ok (0) aB rfl rfl rfl rfl rfl rfl rfl (by first | decide | omega) rfl rfl ?_)
 refine aG (aE ?_)
 refine aC (TQ0 (x80) (x81)) [] [.inr 13,.inr 6] fun _ h84=>?_
 refine aE (aE (aE (aI ?_)))
 refine wN (0+1) ?_
 refine ev_fin (go Tryz.tbs_ok 1000 ?_)
 refine aJ ?_
 refine aC TR1 [11] [.inr 10] fun ⟨x85,x86⟩ h87=>?_
 refine ev_new fun b88=>?_
 refine ev_stop (go_draw Tryz.tbs_ok true [5,16] [(0,true),(1,true),(2,true),(3,true),(4,true),(5,true),(6,true),(7,false),(8,false),(9,false)] rfl ?_)
 refine aG (aE (aI (aE ?_)))
 refine ev_stop (tk_indexArr Tryz.tbs_ok (0+1) aB rfl rfl rfl rfl rfl rfl rfl (by first | decide | omega) rfl rfl ?_)
 refine aG (aE ?_)
 refine aC (TQ1 (x85) (x86)) [] [.inr 15,.inr 7] fun _ h89=>?_
 refine aE (aE (aE (aI ?_)))
 refine wN (0+1+1) ?_
 refine ev_fin (go Tryz.tbs_ok 1000 ?_)
 refine aJ ?_
 refine aC TR2 [11] [.inr 10] fun ⟨x90,x91⟩ h92=>?_
 refine ev_new fun b93=>?_
 refine ev_stop (go_draw Tryz.tbs_ok true [5,18] [(0,true),(1,true),(2,true),(3,true),(4,true),(5,true),(6,true),(7,false),(8,false),(9,false)] rfl ?_)
 refine aG (aE (aI (aE ?_)))
 refine ev_stop (tk_indexArr Tryz.tbs_ok (0+1+1) aB rfl rfl rfl rfl rfl rfl rfl (by first | decide | omega) rfl rfl ?_)
 refine aG (aE ?_)
 refine aC (TQ2 (x90) (x91)) [] [.inr 17,.inr 8] fun _ h94=>?_
 refine aE (aE (aE (aI ?_)))
 refine wN (0+1+1+1) ?_
 refine ev_fin (go Tryz.tbs_ok 1000 ?_)
 refine aJ ?_
 refine aC TR3 [11] [.inr 10] fun ⟨x95,x96⟩ h97=>?_
 refine ev_new fun b98=>?_
 refine ev_stop (go_draw Tryz.tbs_ok true [5,20] [(0,true),(1,true),(2,true),(3,true),(4,true),(5,true),(6,true),(7,false),(8,false),(9,false)] rfl ?_)
 refine aG (aE (aI (aE ?_)))
 refine ev_stop (tk_indexArr Tryz.tbs_ok (0+1+1+1) aB rfl rfl rfl rfl rfl rfl rfl (by first | decide | omega) rfl rfl ?_)
 refine aG (aE ?_)
 refine aC (TQ3 (x95) (x96)) [] [.inr 19,.inr 9] fun _ h99=>?_
 refine aE (aE (aE (aI ?_)))
 refine wN (0+1+1+1+1) ?_
 refine ev_fin (go Tryz.tbs_ok 1000 ?_)
 refine aI ?_
 refine ev_fin (go Tryz.tbs_ok 1000 ?_)
 refine aC TL [] [.inl 0] fun _ h100=>?_
 refine ev_fin ⟨trivial,_,rfl,(()),rfl,(by trivial),Frm.nil _⟩
 all_goals skip
theorem storeFull_lifted (os:Os) (started:os.Started) (H:Type) (enc:TypeId × Value→H) :
 ReturnsInHanded {} Tryz.checked os 6 .any (fun w args=>(Rows.storeFullSpec.pre enc Tryz.prog Tryz.f6 Rows.storeFullRow.domain Rows.storeFullRow.apart w args∧laidMetH Tryz.prog Rows.storeFullRow.laid w)∧sizedMet enc Tryz.prog Tryz.f6 (OpenSpec.ofChange Rows.storeFullSpec) Rows.storeFullRow.apart w args) (Rows.storeFullSpec.post enc Tryz.prog Tryz.f6 Rows.storeFullRow.apart Rows.storeFullRow.fresh Rows.storeFullRow.handsOn Rows.storeFullRow.again):=by
 refine returnsInHanded_of_change_and (C:=Tryz.checked) (X:=fun w _=>laidMetH Tryz.prog Rows.storeFullRow.laid w) (fun _ _ _ hh h=>h.of_heap hh) Tryz.own started (by kernel_rfl) Tryz.func6
  (ChangeSpec.witness_shaped (enc:=enc) (C:=Tryz.checked) (os:=os) (X:=fun w _=>laidMetH Tryz.prog Rows.storeFullRow.laid w) false (World.doorLaid Tryz.prog 400 os) #[.int .u16 0,.slice none 0 0] 8 rfl (World.shaped_of_RefB (by kernel_rfl) (by kernel_rfl)) (by kernel_rfl) (by kernel_rfl) (by kernel_rfl) (door_met os _)) ?_
 intro W base args ds gs before hval0 hW hcnd hwt hL _
 have htab:=tab_of hL
 have hval:∀ (j:Nat) t v,Tryz.f6.params[j]? = some t→args[j]? = some v→Value.okWide Tryz.prog W .any base t v:=hval0
 obtain ⟨p,q,hA0,hV,_,_,_⟩:=id hW
 have hA:DataW.TrodAll enc Tryz.prog W 0 (fun _=>true) true Tryz.f6.params.toList args.toList ds p:=hA0
 clear hval0 hA0
 obtain ⟨rfl,_⟩:=trodVars_none hV
 have hwt2:=all_le hwt
 have hpar:Tryz.f6.params = #[66,22]:=by kernel_rfl
 rw [hpar] at hA hval
 obtain ⟨v0,v1,d0,d1,p0,p1,rfl,rfl,_,⟨fuel0,hf0⟩,⟨fuel1,hf1⟩⟩:=trodAll_two hA
 obtain ⟨m0,rfl,_,_,w0⟩:=open_int (P:=Tryz.prog) (t:=66) (k:=.u16) (by kernel_rfl) (hval 0 _ _ rfl rfl) ⟨fuel0,hf0⟩
 obtain ⟨A1,n1,c1,rfl⟩:=okWide_slice (P:=Tryz.prog) (t:=22) (e:=40) (by kernel_rfl) (hval 1 _ _ rfl rfl)
 obtain ⟨A1',n1',c1',l1,hl1,hln1,hc1,hm1,hr1,hg1⟩:=list_of_sees (F:=0+1+1+1+1+1+1+1) (t:=22) (el:=40) (enc:=encA) (G:=fun x=>(x.rdA.holds (hp W)∧(RecsRd x.L).holds (hp W)∧x.rdK.holds (hp W))∧(0≤x.k∧x.k<256)∧∀ y∈x.L,y.r.L.length≤reachBytes) rfl rfl (by decide) encA_len (fun _=>rfl) (fun vs hl h=>act_dec hl h) (sees_of_trod Tryz.tbs_ok.tab bytes_ok 8 fuel1 _ _ _ hf1 (fun k hk=>hwt2 k (weightsEach_get _ _ _ 1 _ _ rfl rfl k hk)))
 cases hl1
 obtain ⟨ha1,hb1,hin1⟩:=actsA_in hg1
 refine (storeFull m0 A1 l1 n1 c1 (wf_u16 w0) hln1.symm (maxLen_le hc1 hm1) hb1 hin1 W Hp.emp (hp W) (Hp.emp_le _) (Hp.le_refl _) (Hp.emp_dis _) trivial (fun X hX=>?_)).mono fun e W' ⟨_,_,he,_,_,_,hext,_⟩=>?_
 · simp only [List.mem_cons,List.not_mem_nil,or_false] at hX
   rcases hX with rfl | rfl | rfl
   · exact htab
   · exact hr1
   exact ha1
 exact ⟨.bool true,he,post_true Tryz.laidOut (by kernel_rfl) rfl (rt:=4) (by kernel_rfl) (by kernel_rfl) hW hext.below rfl rfl rfl⟩
theorem storeFull_holds:Rows.StoreFullSaid :=
 OpenClaim.holds_of_wide 6 Tryz.f6 rfl rfl rfl rfl rfl rfl rfl ⟨rfl,rfl,rfl,rfl,rfl⟩ rfl rfl rfl rfl rfl (by kernel_rfl) Tryz.func6 (by kernel_rfl)
  (of_decide_eq_true (by kernel_rfl)) (by unfold Func.isWrapper;rw [if_neg (by decide +kernel)];exact ⟨rfl,rfl⟩)
  (fun os started H enc _=>storeFull_lifted os started H enc)
theorem storeFull_card:Rows.StoreFullCardSaid :=
 Claim7.holds_tied_plain_at .later [] [.data,.data,.data] true Rows.storeFullCard.stood.harness false
  storeFull_holds (fun _ h=>by cases h) (by kernel_rfl) (fun _ h=>by cases h) storeFull_row_tie rfl ⟨rfl,rfl⟩ (by kernel_rfl) rfl
  (fun f fn hf hfn=>by
   obtain rfl:f=6:=(Option.some.inj ((show Tryz.prog.funcNamed Rows.storeFullRow.func=some 6 by kernel_rfl).symm.trans hf)).symm
   obtain rfl:fn=Tryz.f6:=(Option.some.inj (Tryz.func6.symm.trans hfn)).symm
   refine ⟨by kernel_rfl,fun j t ht=>?_⟩
   have hpar:Tryz.f6.params = #[66,22]:=by kernel_rfl
   rw [hpar] at ht
   have hm:t∈[66,22]:=by
    rw [show (#[66,22]:Array TypeId)[j]? = ([66,22]:List TypeId)[j]? from by simp] at ht
    exact List.mem_of_getElem? ht
   simp only [List.mem_cons,List.not_mem_nil,or_false] at hm
   rcases hm with rfl | rfl
   · exact (show Tryz.prog.wantsStandIn 66=false by kernel_rfl)
   exact (show Tryz.prog.wantsStandIn 22=false by kernel_rfl))
  (by kernel_rfl)
end Go.Proofs.YtnbaejindfillaaGreatDoor

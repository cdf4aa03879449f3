/-
  What is proved: walPlays_card. Conditions: none.
-/
import Derived.Test.YtjlfdfmkofbccaaGreatDoorCards
import Derived.Test.YtjlfdfmkofbccaaGreatDoorTie
import Derived.SevenTiedAt
import Derived.LaidLaws
import Derived.LaidMore
import Derived.Lib.LaidTab
import Derived.Stop.LaidErr
import Derived.OpenShut
import Derived.ChangeMaps5
import Derived.Test.YtjlfdfmkofbccaaGreatDoorWp7
set_option maxRecDepth 100000
namespace Go.Proofs.YtjlfdfmkofbccaaGreatDoor
open Go.Sy
def leftS:ByteArray:=⟨#[108,101,102,116]⟩
theorem rdsLeft {f:FuncId} {args:List Value} {M:List Asn} {B:Asn} {C:Option Addr} {L:List ByteArray} {n m c:Nat} {X:Type} {ret:X→Value} {good:X→Prop} {post:X→List Asn} (hn:n=L.length) (hm:m=n+1) (T:Triple Tryz.prog f args M [TabA,Rd 1 C n (L.flatMap encS),B] X ret good post):Triple Tryz.prog f args M [TabA,Row 9 1 C m c ((L++[leftS]).flatMap encS),B] X ret good post :=
 T.reads fun X hX=>by
  simp only [List.mem_cons,List.not_mem_nil,or_false] at hX
  rcases hX with rfl | rfl | rfl
  · exact ⟨_,List.mem_cons_self,fun _ q=>q⟩
  · refine ⟨_,List.mem_cons_of_mem _ List.mem_cons_self,fun _ q=>?_⟩
    have:=rd_take encS_len (Row.rd q) (show n≤m by omega)
    rw [List.take_left' hn.symm] at this
    exact this
  exact ⟨_,List.mem_cons_of_mem _ (List.mem_cons_of_mem _ List.mem_cons_self),fun _ q=>q⟩
theorem sameLeft (C A:Option Addr) (L:List ByteArray) (n m c d:Nat) (hn:n=L.length) (hm:m=n+1) (h1:n≤1000000) (cc:Nat):Triple Tryz.prog 24 [.slice C n cc,.slice A n d] [] [Row 9 1 C m c ((L++[leftS]).flatMap encS),Rd 1 A n (L.flatMap encS)] Unit (fun _=>.bool true) (fun _=>True) (fun _=>[]):=by
 have T:=(sameTexts C A L L n cc n d hn hn h1).reads (N':=[Row 9 1 C m c ((L++[leftS]).flatMap encS),Rd 1 A n (L.flatMap encS)]) (fun X hX=>by
  simp only [List.mem_cons,List.not_mem_nil,or_false] at hX
  rcases hX with rfl | rfl
  · refine ⟨_,List.mem_cons_self,fun _ q=>?_⟩
    have:=rd_take encS_len (Row.rd q) (show n≤m by omega)
    rw [List.take_left' hn.symm] at this
    exact this
  exact ⟨_,List.mem_cons_of_mem _ List.mem_cons_self,fun _ q=>q⟩)
 rw [decide_eq_true rfl] at T
 exact T
set_option maxHeartbeats 16000000 in
theorem walPlays (z:Int) (A:Option Addr) (l:List ActW) (n c:Nat) (hn:n=l.length) (hn1:n≤9223372036854775807) (hin:∀ x∈l,0≤x.k∧x.k<256∧x.z≤9223372036854775807) :
 Triple Tryz.prog 8 [.int .i64 z,.slice A n c] [] [TabA,Rd 4 A n (l.flatMap encW),ActsW l] Unit (fun _=>.bool true) (fun _=>True) (fun _=>[]):=by
 have TG:=greatW A l n c hn hn1
 have TW:=worksT
 refine aT Tryz.func8 [vI z,vL A n c] [] (fun E=>?_) ⟨trivial,trivial,trivial⟩
 by_cases hz:z<1∨1048576<z
 · have T1:=newErr z hz
   have T2:=rNewErr z hz
   refine aG ?_
   refine aC TG [] [.inl 1,.inl 2] fun x0 h1=>?_
   refine ev_if (fun h2=>?_) (fun h2=>?_)
   refine aG ?_
   refine ev_fin ⟨trivial,_,rfl,(()),rfl,(by trivial),Frm.nil _⟩
   refine aG ?_
   refine aC T1 [] [] fun _ h3=>?_
   refine aC T2 [] [] fun _ h4=>?_
   refine aI (aJ ?_)
   refine aC TW [] [.inl 0] fun _ h5=>?_
   refine ev_fin ⟨trivial,_,rfl,(()),rfl,(by trivial),Frm.nil _⟩
 have T1:=newM z (by omega) (by omega)
 have T2:=qNew z (by omega) (by omega)
 have H0:Tame ⟨0,false,0,0⟩ ⟨z,0,false,[],none,[]⟩:=Tame.new (by omega) (by omega)
 have L0:Logs ⟨0,false,0,0⟩ ⟨z,0,false,[],none,[]⟩ [] 0:=Logs.new (by omega) (by omega)
 have hs0:(⟨z,0,false,[],none,[]⟩:DK).starts=0:=rfl
 obtain ⟨D0,hD0⟩:∃ D0:DK,D0=⟨z,0,false,[],none,[]⟩:=⟨_,rfl⟩
 obtain ⟨W0,hW0⟩:∃ W0:WK,W0=⟨0,false,0,0⟩:=⟨_,rfl⟩
 rw [←hD0] at T1 T2 hs0
 rw [←hD0,←hW0] at L0 H0
 have ho:=L0.self
 have T3:=fun k q r=>openBok k q r (.pointer none) (.pointer none) D0 H0.ok (by rw [ho])
 simp only [ho] at T3
 unfold BenL at T3
 refine aG ?_
 refine aC TG [] [.inl 1,.inl 2] fun x0 h1=>?_
 refine ev_if (fun h2=>?_) (fun h2=>?_)
 refine aG ?_
 refine ev_fin ⟨trivial,_,rfl,(()),rfl,(by trivial),Frm.nil _⟩
 refine aG ?_
 refine aC T1 [] [] fun x3 h4=>?_
 refine aC T2 [] [] fun x5 h6=>?_
 refine aI (aI ?_)
 refine ev_new fun b7=>?_
 refine aD (T3 (b7) (x3) (x5)) [2,0,1] [.inl 0] (fun (v0_,v1_,v2_,v3_)=>[.box (b7) 68 [vP x3,vP v0_,vP x5,vP v1_],.fact (DiskM x3 D0),.fact (RefD x5 D0),.fact (WalM v0_ x3 W0),.fact (ptV v1_ x5 W0 v2_ v3_),.fact (rowV W0 v2_ v3_)]) fun ⟨x8,x9,x10,x11⟩ h12=>?_
 refine aI ?_
 obtain ⟨hn100,hbd⟩:=h1 h2
 refine ev_stop (go_loopR [4,10,11,14,16,19,21,32,44,45,46,47,48,49,50,51,52,53,54,55,56,57,58,59,60,61,62,63,64,65,66,67,68,69,70,71,72,73,74,75,76,77,78,79,80,81,82,83,84,85,86,87,88,89,90,91,92,93,94,95,96,97,98,99,100,101,102,103,104,105,106,107,108,109,110,111,112] (fun (i,_)=>[(10,vI (i:Nat))]) (fun (_,p,w,W,D,A1,c1)=>[(0,.fact (DiskM x3 D)),(1,.fact (RefD x5 D)),(2,.box b7 68 [vP x3,vP p,vP x5,vP w]),(3,.fact (WalM p x3 W)),(4,.fact (ptV w x5 W A1 c1)),(5,.fact (rowV W A1 c1))]) (fun ((i,_,_,W,D,_,_):Nat × Nat × Nat × WK × DK × Option Addr × Nat)=>i≤n∧Tame W D∧0≤D.starts∧D.starts≤i) (fun (i,_)=>n-i) ((0,x8,x9,W0,D0,x10,x11):Nat × Nat × Nat × WK × DK × Option Addr × Nat) ⟨Nat.zero_le _,H0,by rw [hs0];exact Int.le_refl _,by rw [hs0];exact Int.le_refl _⟩ aS (fun x_ h_=>?_))
 obtain ⟨i,p,w,W,D,A1,c1⟩:=x_
 obtain ⟨hi,hH,hs,hs2⟩:=h_
 rcases Nat.lt_or_ge i n with hin2 | hin2
 · have hil:i<l.length:=by omega
   obtain ⟨x,hx⟩:∃ x,x=l[i]:=⟨_,rfl⟩
   have hbx:=hbd x (by rw [hx];exact List.getElem_mem hil)
   have hix:=hin x (by rw [hx];exact List.getElem_mem hil)
   refine go_more 2 (ActsW l) (Rd 1 l[i].A l[i].L.length (l[i].L.flatMap encS)) rfl (fun h p=>(p _ (List.getElem_mem hil)).1) ?_
   refine go_more 2 (ActsW l) (Rd 1 l[i].B l[i].K.length (l[i].K.flatMap encN)) rfl (fun h p=>(p _ (List.getElem_mem hil)).2) ?_
   refine aG ?_
   have hnx:=hbx.L
   refine aJ ?_ (decide_eq_true (show (↑i:Int)<(↑n:Int) from (by omega)))
   refine ev_stop (go_indexE (sz:=4) Tryz.tbs_ok (.inl 1) (i) rfl rfl rfl rfl rfl rfl (by omega) rfl (fun _ h=>h) (fun g30 o32 e31=>?_))
   subst e31
   refine aG ?_
   have l33:i<(l).length:=(by omega)
   refine ev_stop (go_loadE Tryz.tbs_ok (.inl 1) (i) 0 rfl rfl rfl rfl (fun _ h=>h) (by omega) (fun _=>rfl) (by omega) l33 (by decide) ?_)
   refine aG ?_
   refine ev_new fun b34=>?_
   refine ev_stop (go_fact (Row 9 1 none 0 0 (([]:List ByteArray).flatMap encS)) (Row.nilE _ _) ?_)
   refine aG ?_
   have hnx2:l[i].L.length≤50:=by rw [←hx];exact hnx
   refine ev_stop (go_joinR [53,54,55,56,57,58,59,60,61,62,63,64,65,66,67,68,69,70,71,72,73,74,75,76,77] (fun _=>[]) (fun (C,cc)=>[(6,.box b34 38 [.va (.int .u8 x.k),vL C x.L.length cc,vI x.z,vL x.B x.K.length x.d]),(7,.fact (Row 9 1 C (x.L.length+1) cc ((x.L++[leftS]).flatMap encS)))]) (fun ((_,cc):Option Addr × Nat)=>x.L.length+1≤cc) ?_ (fun x_ h_=>?_))
   · rw [hx]
     refine aG ?_
     refine ev_stop (go_draw Tryz.tbs_ok false [] [(0,true),(1,true),(2,true),(3,true),(4,true),(5,true),(6,true),(8,true),(9,true),(10,true),(11,true),(12,true),(16,true),(17,true),(18,true),(19,true),(20,true),(21,true),(99,false),(0,true),(0,true),(0,true),(0,true),(0,true),(0,true)] rfl ?_)
     refine aG (aE ?_)
     refine ev_stop (tk_atE (sz:=4) Tryz.tbs_ok (i) aB rfl rfl rfl rfl rfl rfl rfl (by omega) ?_)
     refine aG (aE ?_)
     have l40:i<(l).length:=(by omega)
     refine ev_stop (tk_loadE Tryz.tbs_ok (.inl 1) (i) 1 aB rfl rfl rfl rfl rfl (fun _ h=>h) (by omega) (fun _=>rfl) (by omega) l40 (by decide) ?_)
     refine aG (aE ?_)
     refine wN (l[i].L.length+1) ?_
     refine ev_stop (tk_atE (sz:=4) Tryz.tbs_ok (i) aB rfl rfl rfl rfl rfl rfl rfl (by omega) ?_)
     refine aG (aE ?_)
     have l41:i<(l).length:=(by omega)
     refine ev_stop (tk_loadE Tryz.tbs_ok (.inl 1) (i) 1 aB rfl rfl rfl rfl rfl (fun _ h=>h) (by omega) (fun _=>rfl) (by omega) l41 (by decide) ?_)
     refine aG (aE ?_)
     refine ev_stop (tk_atE (sz:=4) Tryz.tbs_ok (i) aB rfl rfl rfl rfl rfl rfl rfl (by omega) ?_)
     refine aG (aE ?_)
     have l42:i<(l).length:=(by omega)
     refine ev_stop (tk_loadE Tryz.tbs_ok (.inl 1) (i) 1 aB rfl rfl rfl rfl rfl (fun _ h=>h) (by omega) (fun _=>rfl) (by omega) l42 (by decide) ?_)
     refine aG (aE ?_)
     refine ev_stop (go_fork 7 14 [(99,false),(0,true),(0,true),(0,true),(0,true),(0,true)] [(7,false),(13,false),(15,false),(22,false),(23,false),(24,false)] _ _ ⟨aL,rfl⟩ (by kernel_rfl) rfl rfl rfl rfl ?_ ?_)
     refine aG ?_
     refine ev_stop (go_makeE (sz:=1) (enc:=encS) Tryz.tbs_ok (0) (l[i].L.length+1) (ByteArray.empty) rfl rfl rfl rfl rfl rfl rfl rfl rfl rfl (by omega) (le_max (by omega)) (le_bytes (by omega) (by decide)) (fun _=>aL) (fun b43=>?_))
     refine aG (aE ?_)
     refine ev_stop (go_fork 13 14 [(14,false),(15,false),(22,false),(23,false),(24,false)] [(13,false),(15,false),(22,false),(23,false),(24,false)] _ _ ⟨aL,rfl⟩ (by kernel_rfl) rfl rfl rfl rfl ?_ ?_)
     refine aG ?_
     refine ev_stop (go_appendE (sz:=1) (M:=[_]) (enc:=encS) Tryz.tbs_ok [8] [] (.inl 3) ([]) (l[i].L) (l[i].L) (l[i].L.length) rfl rfl rfl rfl rfl rfl rfl (by decide) rfl (by decide) (fun _ p=>starH_one.1 p) rfl (fun _ h=>h) (by first | rfl | simp) (by first | rfl | omega) (aM (l[i].L.length)) (aN (l[i].L.length)) (fun _ _=>aL) (fun A44 c45 h46=>?_))
     refine aG (aE ?_)
     refine ev_new fun b47=>?_
     refine aE ?_
     refine ev_stop (go_appendE (sz:=1) (M:=[_]) (enc:=encS) Tryz.tbs_ok [8] [] (.inr 9) (l[i].L) ([{ data := #[108,101,102,116]:ByteArray }]) ((l[i].L)++([{ data := #[108,101,102,116]:ByteArray }])) (l[i].L.length+1) rfl rfl rfl rfl rfl rfl rfl (by decide) rfl (by decide) (fun _ p=>starH_one.1 p) rfl (fun _ p=>Pt.rd p rfl) (by first | rfl | simp) (by first | rfl | omega) (aM (l[i].L.length+1)) (aN (l[i].L.length+1)) (fun _ _=>aL) (fun A48 c49 h50=>?_))
     refine aG (aE ?_)
     refine ev_stop (go_front Tryz.tbs_ok (l[i].L.length) (c49) rfl rfl rfl rfl rfl rfl ⟨_,rfl⟩ rfl (by decide) (by omega) (by omega) ?_)
     refine aG (aE (aE (aK ?_)))
     refine ev_moveJ 7 8 (by decide) rfl rfl aL ?_
     refine ev_fin (join_next ((A48,c49)) (show l[i].L.length+1≤c49 from (by assumption))  aS)
     refine aG ?_
     refine ev_new fun b51=>?_
     refine aE ?_
     refine ev_stop (go_appendE (sz:=1) (M:=[_]) (enc:=encS) Tryz.tbs_ok [8] [] (.inl 3) ([]) (l[i].L) (l[i].L) (l[i].L.length) rfl rfl rfl rfl rfl rfl rfl (by decide) rfl (by decide) (fun _ p=>starH_one.1 p) rfl (fun _ h=>h) (by first | rfl | simp) (by first | rfl | omega) (aM (l[i].L.length)) (aN (l[i].L.length)) (fun _ _=>aL) (fun A52 c53 h54=>?_))
     refine aG (aE ?_)
     refine ev_stop (go_appendE (sz:=1) (M:=[_]) (enc:=encS) Tryz.tbs_ok [8] [] (.inr 9) (l[i].L) ([{ data := #[108,101,102,116]:ByteArray }]) ((l[i].L)++([{ data := #[108,101,102,116]:ByteArray }])) (l[i].L.length+1) rfl rfl rfl rfl rfl rfl rfl (by decide) rfl (by decide) (fun _ p=>starH_one.1 p) rfl (fun _ p=>Pt.rd p rfl) (by first | rfl | simp) (by first | rfl | omega) (aM (l[i].L.length+1)) (aN (l[i].L.length+1)) (fun _ _=>aL) (fun A55 c56 h57=>?_))
     refine aG (aE ?_)
     refine ev_stop (go_front Tryz.tbs_ok (l[i].L.length) (c56) rfl rfl rfl rfl rfl rfl ⟨_,rfl⟩ rfl (by decide) (by omega) (by omega) ?_)
     refine aG (aE (aE (aK ?_)))
     refine ev_moveJ 7 8 (by decide) rfl rfl aL ?_
     refine ev_fin (join_next ((A55,c56)) (show l[i].L.length+1≤c56 from (by assumption))  aS)
     refine aG ?_
     refine ev_new fun b58=>?_
     refine aE ?_
     refine ev_stop (go_makeE (sz:=1) (enc:=encS) Tryz.tbs_ok (0) (l[i].L.length+1) (ByteArray.empty) rfl rfl rfl rfl rfl rfl rfl rfl rfl rfl (by omega) (le_max (by omega)) (le_bytes (by omega) (by decide)) (fun _=>aL) (fun b59=>?_))
     refine aG (aE ?_)
     refine ev_stop (go_appendE (sz:=1) (M:=[_]) (enc:=encS) Tryz.tbs_ok [9] [] (.inl 3) ([]) (l[i].L) (l[i].L) (l[i].L.length) rfl rfl rfl rfl rfl rfl rfl (by decide) rfl (by decide) (fun _ p=>starH_one.1 p) rfl (fun _ h=>h) (by first | rfl | simp) (by first | rfl | omega) (aM (l[i].L.length)) (aN (l[i].L.length)) (fun _ _=>aL) (fun A60 c61 h62=>?_))
     refine aG (aE ?_)
     refine ev_stop (go_appendE (sz:=1) (M:=[_]) (enc:=encS) Tryz.tbs_ok [9] [] (.inr 8) (l[i].L) ([{ data := #[108,101,102,116]:ByteArray }]) ((l[i].L)++([{ data := #[108,101,102,116]:ByteArray }])) (l[i].L.length+1) rfl rfl rfl rfl rfl rfl rfl (by decide) rfl (by decide) (fun _ p=>starH_one.1 p) rfl (fun _ p=>Pt.rd p rfl) (by first | rfl | simp) (by first | rfl | omega) (aM (l[i].L.length+1)) (aN (l[i].L.length+1)) (fun _ _=>aL) (fun A63 c64 h65=>?_))
     refine aG (aE ?_)
     refine ev_stop (go_front Tryz.tbs_ok (l[i].L.length) (c64) rfl rfl rfl rfl rfl rfl ⟨_,rfl⟩ rfl (by decide) (by omega) (by omega) ?_)
     refine aG (aE (aE (aK ?_)))
     refine ev_moveJ 7 9 (by decide) rfl rfl aL ?_
     refine ev_fin (join_next ((A63,c64)) (show l[i].L.length+1≤c64 from (by assumption))  aS)
   obtain ⟨C,cc⟩:=x_
   have hcc:x.L.length+1≤cc:=h_
   have TD:=rdsLeft (C:=C) (c:=cc) rfl rfl (doesB b7 x3 x5 p w W D A1 c1 ⟨x.k,x.L,C,cc,x.z,x.K,x.B,x.d⟩ hix ⟨hbx.L,hbx.K,hbx.p⟩ hH hs (by omega))
   have hH2:=(hH.does (x:=⟨x.k,x.L,C,cc,x.z,x.K,x.B,x.d⟩) hix.2.2)
   obtain ⟨R,hR⟩:∃ R,R=doB W D ⟨x.k,x.L,C,cc,x.z,x.K,x.B,x.d⟩:=⟨_,rfl⟩
   rw [←hR] at TD hH2
   obtain ⟨g1,g2,g3⟩:=hH2
   unfold BenL at TD
   have TS:=fun p w A1 c1=>sameB b7 x3 x5 p w R.1 R.2 A1 c1 g1
   unfold BenL at TS
   have TE:=sameLeft C x.A x.L x.L.length (x.L.length+1) cc x.c rfl rfl (by omega) cc
   have TE2:Triple Tryz.prog 24 [.slice C x.L.length cc,.slice l[i].A l[i].L.length l[i].c] [] [Row 9 1 C (x.L.length+1) cc ((x.L++[leftS]).flatMap encS),Rd 1 l[i].A l[i].L.length (l[i].L.flatMap encS)] Unit (fun _=>.bool true) (fun _=>True) (fun _=>[]):=by
    rw [←hx]
    exact TE
   have hrdB:Rd 1 x.B x.K.length (x.K.flatMap encN)=Rd 1 l[i].B l[i].K.length (l[i].K.flatMap encN):=by rw [hx]
   rw [hrdB] at TD
   have hlf:(x.L++[leftS])[x.L.length]'(by rw [List.length_append];exact Nat.lt_succ_self _)=(⟨#[108,101,102,116]⟩:ByteArray):=by
    rw [List.getElem_append_right (Nat.le_refl _)]
    simp only [Nat.sub_self,List.getElem_cons_zero]
    rfl
   refine aG ?_
   refine ev_stop (go_draw Tryz.tbs_ok true [6] [(0,true),(1,true),(2,false),(3,false),(4,false),(5,false),(6,false),(7,false),(8,false),(9,false),(10,true),(11,true),(12,true),(13,false),(14,false),(15,false),(16,false),(17,false),(18,false),(19,false),(20,false),(21,true),(22,true),(23,true),(24,true),(25,true),(26,true),(27,true),(28,false),(29,false),(30,false),(31,false),(32,false),(33,false),(34,false)] rfl ?_)
   refine aG (aE ?_)
   refine aD TD [2,0,1,3,4,5] [.inl 0,.inr 7,.inl 4] (fun (v0_,v1_,v2_,v3_)=>[.box (b7) 68 [vP x3,vP v0_,vP x5,vP v1_],.fact (DiskM x3 R.snd),.fact (RefD x5 R.snd),.fact (WalM v0_ x3 R.fst),.fact (ptV v1_ x5 R.fst v2_ v3_),.fact (rowV R.fst v2_ v3_)]) fun ⟨x80,x81,x82,x83⟩ h84=>?_
   refine aE (aE (aE (aI (aE ?_))))
   refine aD (TS (x80) (x81) (x82) (x83)) [2,0,1,3,4,5] [.inl 0] (fun v0_=>[.box (b7) 68 [vP x3,vP x80,vP x5,vP x81],.fact (DiskM x3 R.snd),.fact (RefD x5 R.snd),.fact (WalM x80 x3 R.fst),.fact (ptV x81 x5 R.fst x82 x83),.fact (rowV R.fst x82 x83)]) fun _ h85=>?_
   refine aE (aE (aE (aE (aI (aE (aE ?_))))))
   refine ev_stop (go_atE (sz:=4) Tryz.tbs_ok (i) rfl rfl rfl rfl rfl rfl (by omega) ?_)
   refine aG (aE (aE ?_))
   have l86:i<(l).length:=(by omega)
   refine ev_stop (go_loadE Tryz.tbs_ok (.inl 1) (i) 1 rfl rfl rfl rfl (fun _ h=>h) (by omega) (fun _=>rfl) (by omega) l86 (by decide) ?_)
   refine aG (aE ?_)
   refine aC TE2 [] [.inr 7,.inl 3] fun _ h87=>?_
   refine aE (aE (aE (aE (aI (aE ?_)))))
   refine wN (x.L.length+1) ?_
   refine ev_stop (tk_front Tryz.tbs_ok (x.L.length+1) (cc) aB rfl rfl rfl rfl rfl rfl rfl ⟨_,rfl⟩ rfl (by decide) (by omega) (by omega) ?_)
   refine aG (aE (aE (aE (aE ?_))))
   refine ev_stop (go_index0 (sz:=1) Tryz.tbs_ok (.inr 7) (x.L.length) rfl rfl rfl rfl rfl rfl (by omega) rfl Row.at0 (fun g88 e89=>?_))
   subst e89
   refine aG (aE ?_)
   have l90:x.L.length<(x.L++[leftS]).length:=(by (simp only [List.length_append,List.length_cons,List.length_nil];omega))
   refine ev_stop (go_loadE Tryz.tbs_ok (.inr 7) (x.L.length) 0 rfl rfl rfl rfl (fun _ h=>Row.rd h) (by omega) (fun _=>rfl) (by omega) l90 (by decide) ?_)
   refine aG (aE (aE (aE ?_)))
   refine aI ?_ (dec_no (by with_reducible assumption))
   refine wN (i+1) ?_
   refine ev_fin (round_next ((i+1,x80,x81,R.fst,R.snd,x82,x83)) (show i+1≤n∧Tame R.fst R.snd∧0≤R.snd.starts∧R.snd.starts≤(↑(i+1):Int) from (by (refine ⟨?_,?_,?_⟩<;>first | assumption | omega | (simp only [List.length_set,List.length_append,List.length_cons,List.length_nil]<;>omega) | rfl))) (show n-(i+1)<n-i from (by omega)) aS)
 obtain rfl:i=n:=by omega
 refine aG ?_
 refine aI ?_ (decide_eq_false (show ¬(↑i:Int)<(↑i:Int) from (by omega)))
 refine ev_fin (go Tryz.tbs_ok 1000 ?_)
 refine aC TW [] [.inl 0] fun _ h30=>?_
 refine ev_fin ⟨trivial,_,rfl,(()),rfl,(by trivial),Frm.nil _⟩
open Go.Sy Go.RowKit Go.ChangeShapes Go.WideShapes
theorem walPlays_lifted (os:Os) (started:os.Started) (H:Type) (enc:TypeId × Value→H) :
 ReturnsInHanded {} Tryz.checked os 8 .any (fun w args=>(Rows.walPlaysSpec.pre enc Tryz.prog Tryz.f8 Rows.walPlaysRow.domain Rows.walPlaysRow.apart w args∧laidMetH Tryz.prog Rows.walPlaysRow.laid w)∧sizedMet enc Tryz.prog Tryz.f8 (OpenSpec.ofChange Rows.walPlaysSpec) Rows.walPlaysRow.apart w args) (Rows.walPlaysSpec.post enc Tryz.prog Tryz.f8 Rows.walPlaysRow.apart Rows.walPlaysRow.fresh Rows.walPlaysRow.handsOn Rows.walPlaysRow.again):=by
 refine returnsInHanded_of_change_and (C:=Tryz.checked) (X:=fun w _=>laidMetH Tryz.prog Rows.walPlaysRow.laid w) (fun _ _ _ hh h=>h.of_heap hh) Tryz.own started (by kernel_rfl) Tryz.func8
  (ChangeSpec.witness_shaped (enc:=enc) (C:=Tryz.checked) (os:=os) (X:=fun w _=>laidMetH Tryz.prog Rows.walPlaysRow.laid w) false (World.doorLaid Tryz.prog 400 os) #[.int .i64 0,.slice none 0 0] 8 rfl (World.shaped_of_RefB (by kernel_rfl) (by kernel_rfl)) (by kernel_rfl) (by kernel_rfl) (by kernel_rfl) (door_met os _)) ?_
 intro W base args ds gs before hval0 hW hcnd _ hL _
 have htab:=tab_of hL
 have hval:∀ (j:Nat) t v,Tryz.f8.params[j]? = some t→args[j]? = some v→Value.okWide Tryz.prog W .any base t v:=hval0
 obtain ⟨p,q,hA0,hV,_,_,_⟩:=id hW
 have hA:DataW.TrodAll enc Tryz.prog W 0 (fun _=>true) true Tryz.f8.params.toList args.toList ds p:=hA0
 clear hval0 hA0
 obtain ⟨rfl,_⟩:=trodVars_none hV
 have hpar:Tryz.f8.params = #[3,23]:=by kernel_rfl
 rw [hpar] at hA hval
 obtain ⟨v0,v1,d0,d1,p0,p1,rfl,rfl,_,⟨fuel0,hf0⟩,⟨fuel1,hf1⟩⟩:=trodAll_two hA
 obtain ⟨m0,rfl,_,_,w0⟩:=open_int (P:=Tryz.prog) (t:=3) (k:=.i64) (by kernel_rfl) (hval 0 _ _ rfl rfl) ⟨fuel0,hf0⟩
 obtain ⟨A1,n1,c1,rfl⟩:=okWide_slice (P:=Tryz.prog) (t:=23) (e:=38) (by kernel_rfl) (hval 1 _ _ rfl rfl)
 obtain ⟨A1',n1',c1',l1,hl1,hln1,hc1,hm1,hr1,hg1⟩:=list_of_sees (F:=0+1+1+1) (t:=23) (el:=38) (enc:=encW) (G:=fun x=>(x.rdL.holds (hp W)∧x.rdK.holds (hp W))∧(0≤x.k∧x.k<256∧x.z≤9223372036854775807)) rfl rfl (by decide) encW_len (fun _=>rfl) (fun vs hl h=>actW_dec hl h) (sees_of_trod Tryz.tbs_ok.tab 4 fuel1 _ _ _ hf1)
 cases hl1
 obtain ⟨ha1,hin1⟩:=actsW_in hg1
 refine (walPlays m0 A1 l1 n1 c1 hln1.symm (maxLen_le hc1 hm1) hin1 W Hp.emp (hp W) (Hp.emp_le _) (Hp.le_refl _) (Hp.emp_dis _) trivial (fun X hX=>?_)).mono fun e W' ⟨_,_,he,_,_,_,hext,_⟩=>?_
 · simp only [List.mem_cons,List.not_mem_nil,or_false] at hX
   rcases hX with rfl | rfl | rfl
   · exact htab
   · exact hr1
   exact ha1
 exact ⟨.bool true,he,post_true Tryz.laidOut (by kernel_rfl) rfl (rt:=4) (by kernel_rfl) (by kernel_rfl) hW hext.below rfl rfl rfl⟩
theorem walPlays_holds:Rows.WalPlaysSaid :=
 OpenClaim.holds_of_wide 8 Tryz.f8 rfl rfl rfl rfl rfl rfl rfl ⟨rfl,rfl,rfl,rfl,rfl⟩ rfl rfl rfl rfl rfl (by kernel_rfl) Tryz.func8 (by kernel_rfl)
  (of_decide_eq_true (by kernel_rfl)) (by unfold Func.isWrapper;rw [if_neg (by decide +kernel)];exact ⟨rfl,rfl⟩)
  (fun os started H enc _=>walPlays_lifted os started H enc)
theorem walPlays_card:Rows.WalPlaysCardSaid :=
 Claim7.holds_tied_plain_at .later [] [.data,.data,.data] true Rows.walPlaysCard.stood.harness false
  walPlays_holds (fun _ h=>by cases h) (by kernel_rfl) (fun _ h=>by cases h) walPlays_row_tie rfl ⟨rfl,rfl⟩ (by kernel_rfl) rfl
  (fun f fn hf hfn=>by
   obtain rfl:f=8:=(Option.some.inj ((show Tryz.prog.funcNamed Rows.walPlaysRow.func=some 8 by kernel_rfl).symm.trans hf)).symm
   obtain rfl:fn=Tryz.f8:=(Option.some.inj (Tryz.func8.symm.trans hfn)).symm
   refine ⟨by kernel_rfl,fun j t ht=>?_⟩
   have hpar:Tryz.f8.params = #[3,23]:=by kernel_rfl
   rw [hpar] at ht
   have hm:t∈[3,23]:=by
    rw [show (#[3,23]:Array TypeId)[j]? = ([3,23]:List TypeId)[j]? from by simp] at ht
    exact List.mem_of_getElem? ht
   simp only [List.mem_cons,List.not_mem_nil,or_false] at hm
   rcases hm with rfl | rfl
   · exact (show Tryz.prog.wantsStandIn 3=false by kernel_rfl)
   exact (show Tryz.prog.wantsStandIn 23=false by kernel_rfl))
  (by kernel_rfl)
end Go.Proofs.YtjlfdfmkofbccaaGreatDoor

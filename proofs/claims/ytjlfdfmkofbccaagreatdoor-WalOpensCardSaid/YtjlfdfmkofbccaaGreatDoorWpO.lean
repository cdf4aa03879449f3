/-
  What is proved: walOpens_card. Conditions: none.
-/
import Derived.Test.YtjlfdfmkofbccaaGreatDoorCards
import Derived.Test.YtjlfdfmkofbccaaGreatDoorTie
import Derived.SevenTiedAt
import Derived.LaidLaws
import Derived.LaidMore
import Derived.Lib.LaidTab
import Derived.Stop.LaidErr
import Derived.OpenShut
import Derived.ChangeMaps5
import Derived.Test.YtjlfdfmkofbccaaGreatDoorWp7
set_option maxRecDepth 100000
namespace Go.Proofs.YtjlfdfmkofbccaaGreatDoor
open Go.Sy
theorem greatOne (k:Int) (A:Option Addr) (l:List ByteArray) (n c bx:Nat) (hn:n=l.length):Triple Tryz.prog 10 [.slice (some ⟨bx,0,none⟩) 1 1] [] [Pt bx 38 [.int .u8 k,.slice A n c,.int .i64 0,.slice none 0 0],Rd 1 A n (l.flatMap encS)] Bool (fun b=>.bool b) (fun b=>b=false→n≤50∧∀ p∈l,p.size≤60000) (fun _=>[]):=by
 subst hn
 refine ((greatW (some ⟨bx,0,none⟩) [⟨k,l,A,c,0,[],none,0⟩] 1 1 rfl (by decide)).reads (N':=[Pt bx 38 [.int .u8 k,.slice A l.length c,.int .i64 0,.slice none 0 0],Rd 1 A l.length (l.flatMap encS)]) (fun X hX=>by
  simp only [List.mem_cons,List.not_mem_nil,or_false] at hX
  rcases hX with rfl | rfl
  · exact ⟨_,List.mem_cons_self,fun _ q=>Pt.rd q rfl⟩
  refine ⟨_,List.mem_cons_of_mem _ List.mem_cons_self,fun h q x hx=>?_⟩
  rw [List.mem_singleton.1 hx]
  exact ⟨q,Rd.nil _ _ h⟩)).imp fun b hb=>⟨b,rfl,fun h=>?_,fun _ q=>q⟩
 have:=(hb h).2 _ List.mem_cons_self
 exact ⟨this.L,this.p⟩
structure LaidF where
 n:ByteArray
 d:ByteArray
 deriving Inhabited
def encL (x:LaidF):List Value:=[.string x.n,.string x.d]
theorem encL_len (x:LaidF):(encL x).length=2:=rfl
theorem rdsDoes {f:FuncId} {args:List Value} {M:List Asn} {B:Asn} {X:Type} {ret:X→Value} {good:X→Prop} {post:X→List Asn} (T:Triple Tryz.prog f args M [TabA,B,Rd 1 none 0 (([]:List Int).flatMap encN)] X ret good post):Triple Tryz.prog f args M [TabA,B] X ret good post :=
 T.reads fun X hX=>by
  simp only [List.mem_cons,List.not_mem_nil,or_false] at hX
  rcases hX with rfl | rfl | rfl
  · exact ⟨_,List.mem_cons_self,fun _ q=>q⟩
  · exact ⟨_,List.mem_cons_of_mem _ List.mem_cons_self,fun _ q=>q⟩
  exact ⟨_,List.mem_cons_self,fun _ _=>Rd.nil _ _ _⟩
theorem rdsDoes9 {f:FuncId} {args:List Value} {M:List Asn} {X:Type} {ret:X→Value} {good:X→Prop} {post:X→List Asn} (T:Triple Tryz.prog f args M [TabA,Rd 1 none 0 (([]:List ByteArray).flatMap encS),Rd 1 none 0 (([]:List Int).flatMap encN)] X ret good post):Triple Tryz.prog f args M [TabA] X ret good post :=
 T.reads fun X hX=>by
  simp only [List.mem_cons,List.not_mem_nil,or_false] at hX
  rcases hX with rfl | rfl | rfl
  · exact ⟨_,List.mem_cons_self,fun _ q=>q⟩
  · exact ⟨_,List.mem_cons_self,fun _ _=>Rd.nil _ _ _⟩
  exact ⟨_,List.mem_cons_self,fun _ _=>Rd.nil _ _ _⟩
set_option maxHeartbeats 16000000 in
theorem walOpens (A B:Option Addr) (l:List LaidF) (m:List ByteArray) (n c nm d:Nat) (hn:n=l.length) (hn1:n≤9223372036854775807) (hm:nm=m.length) (hl:∀ x∈l,x.n.size≤maxLen∧x.d.size≤maxLen) :
 Triple Tryz.prog 9 [.slice A n c,.slice B nm d] [] [TabA,Rd 2 A n (l.flatMap encL),Rd 1 B nm (m.flatMap encS)] Unit (fun _=>.bool true) (fun _=>True) (fun _=>[]):=by
 have TG:=fun bx=>greatOne 0 B m nm d bx hm
 have TW:=worksT
 have T1:=newM 1048576 (by omega) (by omega)
 have T2:=qNew 1048576 (by omega) (by omega)
 have hk0:okD (⟨1048576,0,false,[],none,[]⟩:DK):=(Tame.new (m:=1048576) (by omega) (by omega)).ok
 obtain ⟨D0,hD0⟩:∃ D0:DK,D0=⟨1048576,0,false,[],none,[]⟩:=⟨_,rfl⟩
 have hs0:D0.starts=0:=by rw [hD0]
 rw [←hD0] at T1 T2 hk0
 refine aT Tryz.func9 [vL A n c,vL B nm d] [] (fun E=>?_) ⟨trivial,trivial,trivial⟩
 by_cases h20:n≤20
 · refine aG ?_
   refine aI ?_ (decide_eq_false (show ¬(↑n:Int) > 20 from (by omega)))
   refine ev_new fun b0=>?_
   refine aC (TG (b0)) [] [.inr 0,.inl 2] fun x1 h2=>?_
   refine ev_if (fun h3=>?_) (fun h3=>?_)
   refine aG ?_
   refine ev_fin ⟨trivial,_,rfl,(()),rfl,(by trivial),Frm.nil _⟩
   refine aG ?_
   refine aC T1 [] [] fun x4 h5=>?_
   refine aC T2 [] [] fun x6 h7=>?_
   refine aI (aI ?_)
   obtain ⟨hm50,hmp⟩:=h2 h3
   refine ev_stop (go_loopR [4,9,16,20,21,24,25,34,35,36,37,38,39,40,41,42,43,44,45,46,47,48,49,50,51,52,53,54,55,56,57,58,59,60,61,62,63,64,65,66,67,68,69,70,71,72,73,74,75,76,77,78,79] (fun (i,_)=>[(9,vI (i:Nat))]) (fun (_,D)=>[(1,.fact (DiskM x4 D)),(2,.fact (RefD x6 D))]) (fun ((i,D):Nat × DK)=>i≤n∧okD D∧D.starts=0) (fun (i,_)=>n-i) ((0,D0):Nat × DK) ⟨Nat.zero_le _,hk0,hs0⟩ aS (fun x_ h_=>?_))
   obtain ⟨i,D⟩:=x_
   obtain ⟨hi,hk,hs⟩:=h_
   rcases Nat.lt_or_ge i n with hin | hin
   · have hil:i<l.length:=by omega
     have hbd:=hl l[i] (List.getElem_mem hil)
     by_cases hz:l[i].n.size≤100
     · by_cases hz2:l[i].d.size≤5000
       · have T3:=appM x4 D l[i].n l[i].d hk (by omega)
         have T4:=qApp x6 D l[i].n l[i].d hk (by omega)
         have g1:=app_ok hk l[i].n l[i].d
         have g2:=(appD_starts D l[i].n l[i].d).trans hs
         obtain ⟨G,hG⟩:∃ G,G=appD D l[i].n l[i].d:=⟨_,rfl⟩
         rw [←hG] at T3 T4 g1 g2
         refine aG ?_
         refine aJ ?_ (decide_eq_true (show (↑i:Int)<(↑n:Int) from (by omega)))
         refine ev_stop (go_indexE (sz:=2) Tryz.tbs_ok (.inl 1) (i) rfl rfl rfl rfl rfl rfl (by omega) rfl (fun _ h=>h) (fun g20 o22 e21=>?_))
         subst e21
         refine aG ?_
         have l23:i<(l).length:=(by omega)
         refine ev_stop (go_loadE Tryz.tbs_ok (.inl 1) (i) 0 rfl rfl rfl rfl (fun _ h=>h) (by omega) (fun _=>rfl) (by omega) l23 (by decide) ?_)
         refine aG ?_
         refine aI ?_ (decide_eq_false (show ¬(↑l[i].n.size:Int) > 100 from (by omega)))
         refine ev_stop (go_atE (sz:=2) Tryz.tbs_ok (i) rfl rfl rfl rfl rfl rfl (by omega) ?_)
         refine aG ?_
         have l24:i<(l).length:=(by omega)
         refine ev_stop (go_loadE Tryz.tbs_ok (.inl 1) (i) 1 rfl rfl rfl rfl (fun _ h=>h) (by omega) (fun _=>rfl) (by omega) l24 (by decide) ?_)
         refine aG ?_
         refine aI ?_ (decide_eq_false (show ¬(↑l[i].d.size:Int) > 5000 from (by omega)))
         refine ev_stop (go_draw Tryz.tbs_ok false [] [(0,true),(1,true),(2,true),(3,true),(4,true),(5,true),(6,true),(7,true),(8,true),(9,true),(10,true),(11,false)] rfl ?_)
         refine aG (aE ?_)
         refine ev_stop (tk_atE (sz:=2) Tryz.tbs_ok (i) aB rfl rfl rfl rfl rfl rfl rfl (by omega) ?_)
         refine aG (aE ?_)
         have l25:i<(l).length:=(by omega)
         refine ev_stop (tk_loadE Tryz.tbs_ok (.inl 1) (i) 0 aB rfl rfl rfl rfl rfl (fun _ h=>h) (by omega) (fun _=>rfl) (by omega) l25 (by decide) ?_)
         refine aG (aE ?_)
         refine ev_stop (tk_atE (sz:=2) Tryz.tbs_ok (i) aB rfl rfl rfl rfl rfl rfl rfl (by omega) ?_)
         refine aG (aE ?_)
         have l26:i<(l).length:=(by omega)
         refine ev_stop (tk_loadE Tryz.tbs_ok (.inl 1) (i) 1 aB rfl rfl rfl rfl rfl (fun _ h=>h) (by omega) (fun _=>rfl) (by omega) l26 (by decide) ?_)
         refine aG (aE ?_)
         refine aC T3 [1] [] fun _ h27=>?_
         refine aK ?_
         refine ev_stop (go_draw Tryz.tbs_ok false [] [(0,true),(1,true),(2,true),(3,true),(4,true),(5,true),(6,true),(7,true),(8,true),(9,true),(10,true),(11,false)] rfl ?_)
         refine aG (aE ?_)
         refine ev_stop (tk_atE (sz:=2) Tryz.tbs_ok (i) aB rfl rfl rfl rfl rfl rfl rfl (by omega) ?_)
         refine aG (aE ?_)
         have l28:i<(l).length:=(by omega)
         refine ev_stop (tk_loadE Tryz.tbs_ok (.inl 1) (i) 0 aB rfl rfl rfl rfl rfl (fun _ h=>h) (by omega) (fun _=>rfl) (by omega) l28 (by decide) ?_)
         refine aG (aE ?_)
         refine ev_stop (tk_atE (sz:=2) Tryz.tbs_ok (i) aB rfl rfl rfl rfl rfl rfl rfl (by omega) ?_)
         refine aG (aE ?_)
         have l29:i<(l).length:=(by omega)
         refine ev_stop (tk_loadE Tryz.tbs_ok (.inl 1) (i) 1 aB rfl rfl rfl rfl rfl (fun _ h=>h) (by omega) (fun _=>rfl) (by omega) l29 (by decide) ?_)
         refine aG (aE ?_)
         refine aC T4 [2] [] fun _ h30=>?_
         refine aK ?_
         refine wN (i+1) ?_
         refine ev_fin (round_next ((i+1,G.fst)) (show i+1≤n∧okD G.fst∧G.fst.starts=0 from (by trivial)) (show n-(i+1)<n-i from (by omega)) aS)
       refine aG ?_
       refine aJ ?_ (decide_eq_true (show (↑i:Int)<(↑n:Int) from (by omega)))
       refine ev_stop (go_indexE (sz:=2) Tryz.tbs_ok (.inl 1) (i) rfl rfl rfl rfl rfl rfl (by omega) rfl (fun _ h=>h) (fun g20 o22 e21=>?_))
       subst e21
       refine aG ?_
       have l23:i<(l).length:=(by omega)
       refine ev_stop (go_loadE Tryz.tbs_ok (.inl 1) (i) 0 rfl rfl rfl rfl (fun _ h=>h) (by omega) (fun _=>rfl) (by omega) l23 (by decide) ?_)
       refine aG ?_
       refine aI ?_ (decide_eq_false (show ¬(↑l[i].n.size:Int) > 100 from (by omega)))
       refine ev_stop (go_atE (sz:=2) Tryz.tbs_ok (i) rfl rfl rfl rfl rfl rfl (by omega) ?_)
       refine aG ?_
       have l24:i<(l).length:=(by omega)
       refine ev_stop (go_loadE Tryz.tbs_ok (.inl 1) (i) 1 rfl rfl rfl rfl (fun _ h=>h) (by omega) (fun _=>rfl) (by omega) l24 (by decide) ?_)
       refine aG ?_
       refine aJ ?_ (decide_eq_true (show (↑l[i].d.size:Int) > 5000 from (by omega)))
       refine ev_fin ⟨trivial,_,rfl,(()),rfl,(by trivial),Frm.nil _⟩
     refine aG ?_
     refine aJ ?_ (decide_eq_true (show (↑i:Int)<(↑n:Int) from (by omega)))
     refine ev_stop (go_indexE (sz:=2) Tryz.tbs_ok (.inl 1) (i) rfl rfl rfl rfl rfl rfl (by omega) rfl (fun _ h=>h) (fun g20 o22 e21=>?_))
     subst e21
     refine aG ?_
     have l23:i<(l).length:=(by omega)
     refine ev_stop (go_loadE Tryz.tbs_ok (.inl 1) (i) 0 rfl rfl rfl rfl (fun _ h=>h) (by omega) (fun _=>rfl) (by omega) l23 (by decide) ?_)
     refine aG ?_
     refine aJ ?_ (decide_eq_true (show (↑l[i].n.size:Int) > 100 from (by omega)))
     refine ev_fin ⟨trivial,_,rfl,(()),rfl,(by trivial),Frm.nil _⟩
   obtain rfl:i=n:=by omega
   by_cases ho:(openD D).2.1=0
   · have H1:=Tame.opened hk ho
     have hs1:(openD D).1.starts=0:=(openD_starts hk).trans hs
     have T3:=fun k=>openBok k x4 x6 (.pointer none) (.pointer none) D hk ho
     obtain ⟨W1,hW1⟩:∃ W1,W1=(openD D).2.2.1:=⟨_,rfl⟩
     obtain ⟨D1,hD1⟩:∃ D1,D1=(openD D).1:=⟨_,rfl⟩
     rw [←hW1,←hD1] at H1
     rw [←hD1] at hs1
     simp only [←hW1,←hD1] at T3
     have hb0:∀ k,boundW ⟨k,m,B,d,0,[],none,0⟩:=fun k=>⟨by dsimp only;omega,Nat.zero_le _,hmp⟩
     have S1:=fun k p w A1 c1=>sameB k x4 x6 p w W1 D1 A1 c1 H1
     have U1:=fun k p w A1 c1=>rdsDoes (doesB k x4 x6 p w W1 D1 A1 c1 ⟨0,m,B,d,0,[],none,0⟩ (by dsimp only;omega) (hb0 0) H1 (by omega) (by omega))
     obtain ⟨H2,e2,f2⟩:=H1.does (x:=⟨0,m,B,d,0,[],none,0⟩) (by dsimp only;omega)
     obtain ⟨R2,hR2⟩:∃ R2,R2=doB W1 D1 ⟨0,m,B,d,0,[],none,0⟩:=⟨_,rfl⟩
     rw [←hR2] at H2 e2 f2
     simp only [←hR2] at U1
     have U2:=fun k p w A1 c1=>rdsDoes (doesB k x4 x6 p w R2.1 R2.2 A1 c1 ⟨5,m,B,d,0,[],none,0⟩ (by dsimp only;omega) (hb0 5) H2 (by omega) (by omega))
     obtain ⟨H3,e3,f3⟩:=H2.does (x:=⟨5,m,B,d,0,[],none,0⟩) (by dsimp only;omega)
     obtain ⟨R3,hR3⟩:∃ R3,R3=doB R2.1 R2.2 ⟨5,m,B,d,0,[],none,0⟩:=⟨_,rfl⟩
     rw [←hR3] at H3 e3 f3
     simp only [←hR3] at U2
     have S2:=fun k p w A1 c1=>sameB k x4 x6 p w R3.1 R3.2 A1 c1 H3
     have U3:=fun k p w A1 c1=>rdsDoes9 (doesB k x4 x6 p w R3.1 R3.2 A1 c1 ⟨9,[],none,0,0,[],none,0⟩ (by dsimp only;omega) ⟨by decide,by decide,fun p q=>by cases q⟩ H3 (by omega) (by omega))
     obtain ⟨H4,e4,f4⟩:=H3.does (x:=⟨9,[],none,0,0,[],none,0⟩) (by dsimp only;omega)
     obtain ⟨R4,hR4⟩:∃ R4,R4=doB R3.1 R3.2 ⟨9,[],none,0,0,[],none,0⟩:=⟨_,rfl⟩
     rw [←hR4] at H4 e4 f4
     simp only [←hR4] at U3
     have S3:=fun k p w A1 c1=>sameB k x4 x6 p w R4.1 R4.2 A1 c1 H4
     unfold BenL at T3 S1 U1 U2 S2 U3 S3
     rw [←hm] at U1 U2
     refine aG ?_
     refine aI ?_ (decide_eq_false (show ¬(↑i:Int)<(↑i:Int) from (by omega)))
     refine ev_fin (go Tryz.tbs_ok 1000 ?_)
     refine ev_new fun b20=>?_
     refine aD (T3 (b20)) [3,1,2] [.inl 0] (fun (v0_,v1_,v2_,v3_)=>[.box (b20) 68 [vP x4,vP v0_,vP x6,vP v1_],.fact (DiskM x4 D1),.fact (RefD x6 D1),.fact (WalM v0_ x4 W1),.fact (ptV v1_ x6 W1 v2_ v3_),.fact (rowV W1 v2_ v3_)]) fun ⟨x21,x22,x23,x24⟩ h25=>?_
     refine aI ?_
     refine aD (S1 (b20) (x21) (x22) (x23) (x24)) [3,1,2,4,5,6] [.inl 0] (fun v0_=>[.box (b20) 68 [vP x4,vP x21,vP x6,vP x22],.fact (DiskM x4 D1),.fact (RefD x6 D1),.fact (WalM x21 x4 W1),.fact (ptV x22 x6 W1 x23 x24),.fact (rowV W1 x23 x24)]) fun _ h26=>?_
     refine aJ ?_
     refine aD (U1 (b20) (x21) (x22) (x23) (x24)) [3,1,2,4,5,6] [.inl 0,.inl 2] (fun (v0_,v1_,v2_,v3_)=>[.box (b20) 68 [vP x4,vP v0_,vP x6,vP v1_],.fact (DiskM x4 R2.snd),.fact (RefD x6 R2.snd),.fact (WalM v0_ x4 R2.fst),.fact (ptV v1_ x6 R2.fst v2_ v3_),.fact (rowV R2.fst v2_ v3_)]) fun ⟨x27,x28,x29,x30⟩ h31=>?_
     refine aJ ?_
     refine aD (U2 (b20) (x27) (x28) (x29) (x30)) [3,1,2,4,5,6] [.inl 0,.inl 2] (fun (v0_,v1_,v2_,v3_)=>[.box (b20) 68 [vP x4,vP v0_,vP x6,vP v1_],.fact (DiskM x4 R3.snd),.fact (RefD x6 R3.snd),.fact (WalM v0_ x4 R3.fst),.fact (ptV v1_ x6 R3.fst v2_ v3_),.fact (rowV R3.fst v2_ v3_)]) fun ⟨x32,x33,x34,x35⟩ h36=>?_
     refine aJ ?_
     refine aD (S2 (b20) (x32) (x33) (x34) (x35)) [3,1,2,4,5,6] [.inl 0] (fun v0_=>[.box (b20) 68 [vP x4,vP x32,vP x6,vP x33],.fact (DiskM x4 R3.snd),.fact (RefD x6 R3.snd),.fact (WalM x32 x4 R3.fst),.fact (ptV x33 x6 R3.fst x34 x35),.fact (rowV R3.fst x34 x35)]) fun _ h37=>?_
     refine aJ ?_
     refine aD (U3 (b20) (x32) (x33) (x34) (x35)) [3,1,2,4,5,6] [.inl 0] (fun (v0_,v1_,v2_,v3_)=>[.box (b20) 68 [vP x4,vP v0_,vP x6,vP v1_],.fact (DiskM x4 R4.snd),.fact (RefD x6 R4.snd),.fact (WalM v0_ x4 R4.fst),.fact (ptV v1_ x6 R4.fst v2_ v3_),.fact (rowV R4.fst v2_ v3_)]) fun ⟨x38,x39,x40,x41⟩ h42=>?_
     refine aJ ?_
     refine aD (S3 (b20) (x38) (x39) (x40) (x41)) [3,1,2,4,5,6] [.inl 0] (fun v0_=>[.box (b20) 68 [vP x4,vP x38,vP x6,vP x39],.fact (DiskM x4 R4.snd),.fact (RefD x6 R4.snd),.fact (WalM x38 x4 R4.fst),.fact (ptV x39 x6 R4.fst x40 x41),.fact (rowV R4.fst x40 x41)]) fun _ h43=>?_
     refine aJ ?_
     refine aC TW [] [.inl 0] fun _ h44=>?_
     refine ev_fin ⟨trivial,_,rfl,(()),rfl,(by trivial),Frm.nil _⟩
   have T3:=fun k=>openBerr k x4 x6 (.pointer none) (.pointer none) D hk ho
   obtain ⟨D1,hD1⟩:∃ D1,D1=(openD D).1:=⟨_,rfl⟩
   have hk1:okD D1:=by rw [hD1];exact open_ok hk
   simp only [←hD1] at T3
   have T4:=namesM x4 D1 hk1
   have T5:=qNames x6 D1 hk1
   have hf:=hk1.few
   have TE:=fun A B c d=>sameTextsR A B (D1.files.map nameEG) (D1.files.map nameEG) D1.files.length c D1.files.length d (by simp) (by simp) (by omega)
   simp only [decide_true] at TE
   refine aG ?_
   refine aI ?_ (decide_eq_false (show ¬(↑i:Int)<(↑i:Int) from (by omega)))
   refine ev_fin (go Tryz.tbs_ok 1000 ?_)
   refine ev_new fun b20=>?_
   refine aD (T3 (b20)) [3,1,2] [.inl 0] (fun v0_=>[.box (b20) 68 [vP x4,.va (Value.pointer none),vP x6,.va (Value.pointer none)],.fact (DiskM x4 D1),.fact (RefD x6 D1)]) fun _ h21=>?_
   refine aI ?_
   refine aC T4 [1] [] fun ⟨x22,x23⟩ h24=>?_
   refine aC T5 [2] [] fun ⟨x25,x26⟩ h27=>?_
   refine aC (TE (x22) (x25) (x23) (x26)) [] [.inr 4,.inr 5] fun _ h28=>?_
   refine aJ ?_
   refine aC TW [] [.inl 0] fun _ h29=>?_
   refine ev_fin ⟨trivial,_,rfl,(()),rfl,(by trivial),Frm.nil _⟩
 refine aG ?_
 refine aJ ?_ (decide_eq_true (show (↑n:Int) > 20 from (by omega)))
 refine ev_fin ⟨trivial,_,rfl,(()),rfl,(by trivial),Frm.nil _⟩
open Go.Sy Go.RowKit Go.ChangeShapes Go.WideShapes
theorem laid_dec {w:World} {F:Nat} {vs:List Value} (hl:vs.length=2) (h:Sees Tryz.tab w (F+1+1) 73 vs):∃ x:LaidF,vs=encL x∧(x.n.size≤maxLen∧x.d.size≤maxLen):=by
 obtain ⟨n0,e0,w0⟩:=leaf_string (F:=F) (d:=1) (u:=9) rfl rfl h 0 (by decide)
 obtain ⟨n1,e1,w1⟩:=leaf_string (F:=F) (d:=1) (u:=9) rfl rfl h 1 (by decide)
 exact ⟨⟨n0,n1⟩,eq_of_at hl (And.intro e0 (And.intro e1 trivial)),w0,w1⟩
theorem walOpens_lifted (os:Os) (started:os.Started) (H:Type) (enc:TypeId × Value→H) :
 ReturnsInHanded {} Tryz.checked os 9 .any (fun w args=>(Rows.walOpensSpec.pre enc Tryz.prog Tryz.f9 Rows.walOpensRow.domain Rows.walOpensRow.apart w args∧laidMetH Tryz.prog Rows.walOpensRow.laid w)∧sizedMet enc Tryz.prog Tryz.f9 (OpenSpec.ofChange Rows.walOpensSpec) Rows.walOpensRow.apart w args) (Rows.walOpensSpec.post enc Tryz.prog Tryz.f9 Rows.walOpensRow.apart Rows.walOpensRow.fresh Rows.walOpensRow.handsOn Rows.walOpensRow.again):=by
 refine returnsInHanded_of_change_and (C:=Tryz.checked) (X:=fun w _=>laidMetH Tryz.prog Rows.walOpensRow.laid w) (fun _ _ _ hh h=>h.of_heap hh) Tryz.own started (by kernel_rfl) Tryz.func9
  (ChangeSpec.witness_shaped (enc:=enc) (C:=Tryz.checked) (os:=os) (X:=fun w _=>laidMetH Tryz.prog Rows.walOpensRow.laid w) false (World.doorLaid Tryz.prog 400 os) #[.slice none 0 0,.slice none 0 0] 8 rfl (World.shaped_of_RefB (by kernel_rfl) (by kernel_rfl)) (by kernel_rfl) (by kernel_rfl) (by kernel_rfl) (door_met os _)) ?_
 intro W base args ds gs before hval0 hW hcnd _ hL _
 have htab:=tab_of hL
 have hval:∀ (j:Nat) t v,Tryz.f9.params[j]? = some t→args[j]? = some v→Value.okWide Tryz.prog W .any base t v:=hval0
 obtain ⟨p,q,hA0,hV,_,_,_⟩:=id hW
 have hA:DataW.TrodAll enc Tryz.prog W 0 (fun _=>true) true Tryz.f9.params.toList args.toList ds p:=hA0
 clear hval0 hA0
 obtain ⟨rfl,_⟩:=trodVars_none hV
 have hpar:Tryz.f9.params = #[71,30]:=by kernel_rfl
 rw [hpar] at hA hval
 obtain ⟨v0,v1,d0,d1,p0,p1,rfl,rfl,_,⟨fuel0,hf0⟩,⟨fuel1,hf1⟩⟩:=trodAll_two hA
 obtain ⟨A0,n0,c0,rfl⟩:=okWide_slice (P:=Tryz.prog) (t:=71) (e:=73) (by kernel_rfl) (hval 0 _ _ rfl rfl)
 obtain ⟨A0',n0',c0',l0,hl0,hln0,hc0,hm0,hr0,hg0⟩:=list_of_sees (F:=0+1+1) (t:=71) (el:=73) (enc:=encL) (G:=fun x=>x.n.size≤maxLen∧x.d.size≤maxLen) rfl rfl (by decide) encL_len (fun _=>rfl) (fun vs hl h=>laid_dec hl h) (sees_of_trod Tryz.tbs_ok.tab 3 fuel0 _ _ _ hf0)
 cases hl0
 obtain ⟨A1,n1,c1,rfl⟩:=okWide_slice (P:=Tryz.prog) (t:=30) (e:=9) (by kernel_rfl) (hval 1 _ _ rfl rfl)
 obtain ⟨A1',n1',c1',l1,hl1,hln1,hc1,hm1,hr1,hg1⟩:=list_of_sees (F:=0+1) (t:=30) (el:=9) (enc:=encS) (G:=fun x=>x.size≤maxLen) rfl rfl (by decide) encS_len (fun _=>rfl) (fun vs hl h=>str_dec hl h) (sees_of_trod Tryz.tbs_ok.tab 2 fuel1 _ _ _ hf1)
 cases hl1
 refine (walOpens A0 A1 l0 l1 n0 c0 n1 c1 hln0.symm (maxLen_le hc0 hm0) hln1.symm hg0 W Hp.emp (hp W) (Hp.emp_le _) (Hp.le_refl _) (Hp.emp_dis _) trivial (fun X hX=>?_)).mono fun e W' ⟨_,_,he,_,_,_,hext,_⟩=>?_
 · simp only [List.mem_cons,List.not_mem_nil,or_false] at hX
   rcases hX with rfl | rfl | rfl
   · exact htab
   · exact hr0
   exact hr1
 exact ⟨.bool true,he,post_true Tryz.laidOut (by kernel_rfl) rfl (rt:=4) (by kernel_rfl) (by kernel_rfl) hW hext.below rfl rfl rfl⟩
theorem walOpens_holds:Rows.WalOpensSaid :=
 OpenClaim.holds_of_wide 9 Tryz.f9 rfl rfl rfl rfl rfl rfl rfl ⟨rfl,rfl,rfl,rfl,rfl⟩ rfl rfl rfl rfl rfl (by kernel_rfl) Tryz.func9 (by kernel_rfl)
  (of_decide_eq_true (by kernel_rfl)) (by unfold Func.isWrapper;rw [if_neg (by decide +kernel)];exact ⟨rfl,rfl⟩)
  (fun os started H enc _=>walOpens_lifted os started H enc)
theorem walOpens_card:Rows.WalOpensCardSaid :=
 Claim7.holds_tied_plain_at .later [] [.data,.data,.data] true Rows.walOpensCard.stood.harness false
  walOpens_holds (fun _ h=>by cases h) (by kernel_rfl) (fun _ h=>by cases h) walOpens_row_tie rfl ⟨rfl,rfl⟩ (by kernel_rfl) rfl
  (fun f fn hf hfn=>by
   obtain rfl:f=9:=(Option.some.inj ((show Tryz.prog.funcNamed Rows.walOpensRow.func=some 9 by kernel_rfl).symm.trans hf)).symm
   obtain rfl:fn=Tryz.f9:=(Option.some.inj (Tryz.func9.symm.trans hfn)).symm
   refine ⟨by kernel_rfl,fun j t ht=>?_⟩
   have hpar:Tryz.f9.params = #[71,30]:=by kernel_rfl
   rw [hpar] at ht
   have hm:t∈[71,30]:=by
    rw [show (#[71,30]:Array TypeId)[j]? = ([71,30]:List TypeId)[j]? from by simp] at ht
    exact List.mem_of_getElem? ht
   simp only [List.mem_cons,List.not_mem_nil,or_false] at hm
   rcases hm with rfl | rfl
   · exact (show Tryz.prog.wantsStandIn 71=false by kernel_rfl)
   exact (show Tryz.prog.wantsStandIn 30=false by kernel_rfl))
  (by kernel_rfl)
end Go.Proofs.YtjlfdfmkofbccaaGreatDoor

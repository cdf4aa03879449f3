/-
  What is proved: the texts that the claims share, part 7 of 7, each text behind the other. Conditions: none.
-/
import Derived.Carry
import Derived.ChangeSame
import Derived.JoinedOf
import Derived.JoinedAt
import Derived.ChangeArms
import Derived.WideKeyArr2
import Derived.Test.YtjlfdfmkofbccaaGreatDoorCards
import Derived.Test.YtjlfdfmkofbccaaGreatDoorTie
import Derived.SevenTiedAt
import Derived.LaidLaws
import Derived.LaidMore
import Derived.Lib.LaidTab
import Derived.Stop.LaidErr
import Derived.OpenShut
import Derived.ChangeMaps5
import Derived.Test.YtjlfdfmkofbccaaGreatDoorWp6
set_option maxRecDepth 100000
namespace Go.Proofs.YtjlfdfmkofbccaaGreatDoor
open Go.Sy
theorem doB_sync {W:WK} {D:DK} {x:ActW} (h:x.k % 10=4):doB W D x=((syncW W D).1,(syncW W D).2.1):=by unfold doB;rw [if_pos h]
theorem doB_ck {W:WK} {D:DK} {x:ActW} (h:x.k % 10=5):doB W D x=((ckW W D x.L).1,(ckW W D x.L).2.1):=by unfold doB;rw [if_neg (by omega),if_pos h]
theorem doB_crash {W:WK} {D:DK} {x:ActW} (h:x.k % 10=6):doB W D x=againB W (startD (crashD D x.K).1).1:=by unfold doB;rw [if_neg (by omega),if_neg (by omega),if_pos h]
theorem doB_fail {W:WK} {D:DK} {x:ActW} (h:x.k % 10=7):doB W D x=(W,(failD D x.z x.K).1):=by unfold doB;rw [if_neg (by omega),if_neg (by omega),if_neg (by omega),if_pos h]
theorem doB_start {W:WK} {D:DK} {x:ActW} (h:x.k % 10=8):doB W D x=againB W (startD D).1:=by unfold doB;rw [if_neg (by omega),if_neg (by omega),if_neg (by omega),if_neg (by omega),if_pos h]
theorem doB_open {W:WK} {D:DK} {x:ActW} (h:x.k % 10=9):doB W D x=againB W D:=by unfold doB;rw [if_neg (by omega),if_neg (by omega),if_neg (by omega),if_neg (by omega),if_neg (by omega),if_pos h]
theorem doB_app {W:WK} {D:DK} {x:ActW} (h:x.k % 10<4):doB W D x=((appW W D x.L).1,(appW W D x.L).2.1):=by unfold doB;rw [if_neg (by omega),if_neg (by omega),if_neg (by omega),if_neg (by omega),if_neg (by omega),if_neg (by omega)]
theorem openB (k q r p w:Nat) (W:WK) (D:DK) (A:Option Addr) (c:Nat) (hD:okD D):Triple Tryz.prog 29 [pP k] (BenL k q r p w W D A c) [TabA] (Nat × Nat × Option Addr × Nat) (fun _=>.bool true) (fun _=>True) (fun (p,w,A,c)=>BenL k q r p w (againB W D).1 (againB W D).2 A c):=by
 by_cases h:(openD D).2.1=0
 · rw [show againB W D=((openD D).2.2.1,(openD D).1) by unfold againB;rw [if_pos h]]
   exact ((openBok k q r (pP p) (pP w) D hD h).frame [WalM p q W,ptV w r W A c,rowV W A c]).imp fun (p',w',A',c') _=>⟨(p',w',A',c'),rfl,trivial,fun _ z=>by
    obtain ⟨h1,_,_,a,_,z1,_⟩:=(starH_append (BenL k q r p' w' (openD D).2.2.1 (openD D).1 A' c') _).1 z
    exact Asn.starH_mono _ a z1⟩
 rw [show againB W D=(W,(openD D).1) by unfold againB;rw [if_neg h]]
 exact ((openBerr k q r (pP p) (pP w) D hD h).frame [WalM p q W,ptV w r W A c,rowV W A c]).imp fun _ _=>⟨(p,w,A,c),rfl,trivial,fun _ z=>z⟩
set_option maxHeartbeats 8000000 in
theorem doesB (k q r p w:Nat) (W:WK) (D:DK) (A:Option Addr) (c:Nat) (x:ActW) (hx:0≤x.k∧x.k<256∧x.z≤9223372036854775807) (hb:boundW x) (H:Tame W D) (h0:0≤D.starts) (h1:D.starts≤1000000) :
 Triple Tryz.prog 30 [pP k,.agg #[.int .u8 x.k,.slice x.A x.L.length x.c,.int .i64 x.z,.slice x.B x.K.length x.d]] (BenL k q r p w W D A c) [TabA,Rd 1 x.A x.L.length (x.L.flatMap encS),Rd 1 x.B x.K.length (x.K.flatMap encN)] (Nat × Nat × Option Addr × Nat) (fun _=>.bool true) (fun _=>True) (fun (p,w,A,c)=>BenL k q r p w (doB W D x).1 (doB W D x).2 A c):=by
 have hk10:x.k.tmod 10=x.k % 10:=Int.tmod_eq_emod_of_nonneg hx.1
 have hL:=hb.L
 have hK:=hb.K
 have hp:∀ y∈x.L,y.size≤900000000:=fun y q=>Nat.le_trans (hb.p y q) (by decide)
 rcases show x.k % 10=4∨x.k % 10=5∨x.k % 10=6∨x.k % 10=7∨x.k % 10=8∨x.k % 10=9∨x.k % 10<4 by omega with hk | hk | hk | hk | hk | hk | hk
 · rw [doB_sync hk]
   have T1:=syncWT p q W D H.ok H.okW
   have T2:=rSyncW w r W A c D H.ok H.okW
   obtain ⟨R,hR⟩:∃ R,R=syncW W D:=⟨_,rfl⟩
   rw [←hR] at T1 T2 ⊢
   unfold BenL;refine triple_intro Tryz.tbs_ok Tryz.func30 rfl [.pt 0 k 0,.ag [.va (.int .u8 x.k),vL x.A x.L.length x.c,vI x.z,vL x.B x.K.length x.d]] [.box k 68 [vP q,vP p,vP r,vP w],.fact (DiskM q D),.fact (RefD r D),.fact (WalM p q W),.fact (ptV w r W A c),.fact (rowV W A c)] ⟨rfl,by simp [SV.good,SV.goodL],trivial⟩ rfl (by simp [SV.good,SV.goodL,blkAt,Res.blk]) ?_
   intro E
   refine aG ?_
   refine ev_new fun b0=>?_
   refine aJ ?_ (beq_iff_eq.2 (show x.k.tmod 10=4 from (by omega)))
   refine ev_stop (go_draw Tryz.tbs_ok false [0] [(0,true),(1,true),(2,true),(3,true),(5,true),(6,true),(7,true),(8,true),(4,false),(9,false),(10,false),(11,false)] rfl ?_)
   refine aG (aE ?_)
   refine aC T1 [3,1] [.inl 0] fun _ h1=>?_
   refine aE ?_
   refine aC T2 [4,5,2] [] fun _ h2=>?_
   refine aE (aE (aK ?_))
   refine ev_fin ⟨trivial,_,rfl,((p,w,A,c)),?_,trivial,aF [0,1,2,3,4,5]⟩
   exact congrArg Value.bool (beq_self_eq_true _)
 · rw [doB_ck hk]
   have T1:=ckWT p q W D x.A x.L x.L.length x.c rfl (by omega) hp H.ok H.okW
   have T2:=rCkW w r W A c D x.A x.L x.L.length x.c rfl (by omega) hp H.ok H.okW (H.hlay x.L)
   obtain ⟨R,hR⟩:∃ R,R=ckW W D x.L:=⟨_,rfl⟩
   rw [←hR] at T1 T2 ⊢
   unfold BenL;refine triple_intro Tryz.tbs_ok Tryz.func30 rfl [.pt 0 k 0,.ag [.va (.int .u8 x.k),vL x.A x.L.length x.c,vI x.z,vL x.B x.K.length x.d]] [.box k 68 [vP q,vP p,vP r,vP w],.fact (DiskM q D),.fact (RefD r D),.fact (WalM p q W),.fact (ptV w r W A c),.fact (rowV W A c)] ⟨rfl,by simp [SV.good,SV.goodL],trivial⟩ rfl (by simp [SV.good,SV.goodL,blkAt,Res.blk]) ?_
   intro E
   refine aG ?_
   refine ev_new fun b0=>?_
   refine aI ?_ (beq_eq_false_iff_ne.2 (show ¬x.k.tmod 10=4 from (by omega)))
   refine aJ ?_ (beq_iff_eq.2 (show x.k.tmod 10=5 from (by omega)))
   refine ev_stop (go_draw Tryz.tbs_ok false [0,6] [(0,true),(1,true),(2,true),(3,true),(4,true),(5,true),(7,true),(8,true),(9,true),(10,true),(11,true),(12,true),(6,false),(13,false),(14,false),(15,false)] rfl ?_)
   refine aG (aE ?_)
   refine aC T1 [3,1] [.inl 0,.inl 1] fun _ h1=>?_
   refine aE ?_
   refine aC T2 [4,5,2] [.inl 1] fun ⟨x2,x3⟩ h4=>?_
   refine aE (aE (aK ?_))
   refine ev_fin ⟨trivial,_,rfl,((p,w,x2,x3)),?_,trivial,aF [0,1,2,3,4,5]⟩
   exact congrArg Value.bool (beq_self_eq_true _)
 · rw [doB_crash hk]
   have T1:=crashM q D x.B x.K.length x.d x.K H.ok rfl
   have T2:=qCrash r D x.B x.K.length x.d x.K H.ok rfl
   have k1:=crash_ok H.ok x.K
   have hs1:(crashD D x.K).1.starts=D.starts:=by unfold crashD;split<;>rfl
   obtain ⟨G,hG⟩:∃ G,G=crashD D x.K:=⟨_,rfl⟩
   rw [←hG] at T1 T2 k1 hs1 ⊢
   have T3:=startM q G.1 k1 (by omega) (by omega)
   have T4:=qStart r G.1 (by omega) (by omega)
   have k2:=start_ok k1
   obtain ⟨G2,hG2⟩:∃ G2,G2=startD G.1:=⟨_,rfl⟩
   rw [←hG2] at T3 T4 k2 ⊢
   have T5:=openB k q r p w W G2.1 A c k2
   unfold BenL at T5
   obtain ⟨R,hR⟩:∃ R,R=againB W G2.1:=⟨_,rfl⟩
   rw [←hR] at T5 ⊢
   unfold BenL;refine triple_intro Tryz.tbs_ok Tryz.func30 rfl [.pt 0 k 0,.ag [.va (.int .u8 x.k),vL x.A x.L.length x.c,vI x.z,vL x.B x.K.length x.d]] [.box k 68 [vP q,vP p,vP r,vP w],.fact (DiskM q D),.fact (RefD r D),.fact (WalM p q W),.fact (ptV w r W A c),.fact (rowV W A c)] ⟨rfl,by simp [SV.good,SV.goodL],trivial⟩ rfl (by simp [SV.good,SV.goodL,blkAt,Res.blk]) ?_
   intro E
   refine aG ?_
   refine ev_new fun b0=>?_
   refine aI ?_ (beq_eq_false_iff_ne.2 (show ¬x.k.tmod 10=4 from (by omega)))
   refine aI ?_ (beq_eq_false_iff_ne.2 (show ¬x.k.tmod 10=5 from (by omega)))
   refine aJ ?_ (beq_iff_eq.2 (show x.k.tmod 10=6 from (by omega)))
   refine ev_stop (go_draw Tryz.tbs_ok false [0,6] [(0,true),(1,true),(2,true),(3,true),(4,true),(5,true),(7,true),(8,true),(9,true),(10,true),(11,true),(12,true),(6,false),(13,false),(14,false),(15,false)] rfl ?_)
   refine aG (aE ?_)
   refine aC T1 [1] [.inl 2] fun _ h1=>?_
   refine aE ?_
   refine aC T2 [2] [.inl 2] fun _ h2=>?_
   refine aE (aE (aK ?_))
   refine aC T3 [1] [] fun _ h3=>?_
   refine aC T4 [2] [] fun _ h4=>?_
   refine aJ ?_ (beq_iff_eq.2 (show G.snd=G.snd from (by omega)))
   refine aD T5 [0,1,2,3,4,5] [.inl 0] (fun (v0_,v1_,v2_,v3_)=>[.box (k) 68 [vP q,vP v0_,vP r,vP v1_],.fact (DiskM q R.snd),.fact (RefD r R.snd),.fact (WalM v0_ q R.fst),.fact (ptV v1_ r R.fst v2_ v3_),.fact (rowV R.fst v2_ v3_)]) fun ⟨x5,x6,x7,x8⟩ h9=>?_
   exact ev_fin ⟨trivial,_,rfl,((x5,x6,x7,x8)),rfl,trivial,aF [0,1,2,3,4,5]⟩
 · rw [doB_fail hk]
   have T1:=failM q D x.z x.B x.K.length x.d x.K H.ok rfl (by omega)
   have T2:=qFail r D x.z x.B x.K.length x.d x.K rfl (by omega)
   obtain ⟨R,hR⟩:∃ R,R=failD D x.z x.K:=⟨_,rfl⟩
   rw [←hR] at T1 T2 ⊢
   unfold BenL;refine triple_intro Tryz.tbs_ok Tryz.func30 rfl [.pt 0 k 0,.ag [.va (.int .u8 x.k),vL x.A x.L.length x.c,vI x.z,vL x.B x.K.length x.d]] [.box k 68 [vP q,vP p,vP r,vP w],.fact (DiskM q D),.fact (RefD r D),.fact (WalM p q W),.fact (ptV w r W A c),.fact (rowV W A c)] ⟨rfl,by simp [SV.good,SV.goodL],trivial⟩ rfl (by simp [SV.good,SV.goodL,blkAt,Res.blk]) ?_
   intro E
   refine aG ?_
   refine ev_new fun b0=>?_
   refine aI ?_ (beq_eq_false_iff_ne.2 (show ¬x.k.tmod 10=4 from (by omega)))
   refine aI ?_ (beq_eq_false_iff_ne.2 (show ¬x.k.tmod 10=5 from (by omega)))
   refine aI ?_ (beq_eq_false_iff_ne.2 (show ¬x.k.tmod 10=6 from (by omega)))
   refine aJ ?_ (beq_iff_eq.2 (show x.k.tmod 10=7 from (by omega)))
   refine ev_stop (go_draw Tryz.tbs_ok false [0,6] [(0,true),(1,true),(2,true),(3,true),(4,true),(5,true),(6,true),(7,true),(9,true),(10,true),(11,true),(12,true),(13,true),(14,true),(15,true),(16,true),(8,false),(17,false),(18,false),(19,false)] rfl ?_)
   refine aG (aE ?_)
   refine aC T1 [1] [.inl 2] fun _ h1=>?_
   refine aE ?_
   refine aC T2 [2] [.inl 2] fun _ h2=>?_
   refine aE (aE (aK ?_))
   refine ev_fin ⟨trivial,_,rfl,((p,w,A,c)),?_,trivial,aF [0,1,2,3,4,5]⟩
   exact congrArg Value.bool (beq_self_eq_true _)
 · rw [doB_start hk]
   have T3:=startM q D H.ok (by omega) (by omega)
   have T4:=qStart r D (by omega) (by omega)
   have k2:=start_ok H.ok
   obtain ⟨G2,hG2⟩:∃ G2,G2=startD D:=⟨_,rfl⟩
   rw [←hG2] at T3 T4 k2 ⊢
   have T5:=openB k q r p w W G2.1 A c k2
   unfold BenL at T5
   obtain ⟨R,hR⟩:∃ R,R=againB W G2.1:=⟨_,rfl⟩
   rw [←hR] at T5 ⊢
   unfold BenL;refine triple_intro Tryz.tbs_ok Tryz.func30 rfl [.pt 0 k 0,.ag [.va (.int .u8 x.k),vL x.A x.L.length x.c,vI x.z,vL x.B x.K.length x.d]] [.box k 68 [vP q,vP p,vP r,vP w],.fact (DiskM q D),.fact (RefD r D),.fact (WalM p q W),.fact (ptV w r W A c),.fact (rowV W A c)] ⟨rfl,by simp [SV.good,SV.goodL],trivial⟩ rfl (by simp [SV.good,SV.goodL,blkAt,Res.blk]) ?_
   intro E
   refine aG ?_
   refine ev_new fun b0=>?_
   refine aI ?_ (beq_eq_false_iff_ne.2 (show ¬x.k.tmod 10=4 from (by omega)))
   refine aI ?_ (beq_eq_false_iff_ne.2 (show ¬x.k.tmod 10=5 from (by omega)))
   refine aI ?_ (beq_eq_false_iff_ne.2 (show ¬x.k.tmod 10=6 from (by omega)))
   refine aI ?_ (beq_eq_false_iff_ne.2 (show ¬x.k.tmod 10=7 from (by omega)))
   refine aJ ?_ (beq_iff_eq.2 (show x.k.tmod 10=8 from (by omega)))
   refine ev_stop (go_draw Tryz.tbs_ok false [0] [(0,true),(1,true),(2,true),(3,true),(5,true),(6,true),(7,true),(8,true),(4,false),(9,false),(10,false),(11,false)] rfl ?_)
   refine aG (aE ?_)
   refine aC T3 [1] [] fun _ h1=>?_
   refine aE ?_
   refine aC T4 [2] [] fun _ h2=>?_
   refine aE (aE (aK ?_))
   refine aJ ?_ (beq_iff_eq.2 (show G2.snd=G2.snd from (by omega)))
   refine aD T5 [0,1,2,3,4,5] [.inl 0] (fun (v0_,v1_,v2_,v3_)=>[.box (k) 68 [vP q,vP v0_,vP r,vP v1_],.fact (DiskM q R.snd),.fact (RefD r R.snd),.fact (WalM v0_ q R.fst),.fact (ptV v1_ r R.fst v2_ v3_),.fact (rowV R.fst v2_ v3_)]) fun ⟨x3,x4,x5,x6⟩ h7=>?_
   exact ev_fin ⟨trivial,_,rfl,((x3,x4,x5,x6)),rfl,trivial,aF [0,1,2,3,4,5]⟩
 · rw [doB_open hk]
   have T1:=openB k q r p w W D A c H.ok
   unfold BenL at T1
   obtain ⟨R,hR⟩:∃ R,R=againB W D:=⟨_,rfl⟩
   rw [←hR] at T1 ⊢
   unfold BenL;refine triple_intro Tryz.tbs_ok Tryz.func30 rfl [.pt 0 k 0,.ag [.va (.int .u8 x.k),vL x.A x.L.length x.c,vI x.z,vL x.B x.K.length x.d]] [.box k 68 [vP q,vP p,vP r,vP w],.fact (DiskM q D),.fact (RefD r D),.fact (WalM p q W),.fact (ptV w r W A c),.fact (rowV W A c)] ⟨rfl,by simp [SV.good,SV.goodL],trivial⟩ rfl (by simp [SV.good,SV.goodL,blkAt,Res.blk]) ?_
   intro E
   refine aG ?_
   refine ev_new fun b0=>?_
   refine aI ?_ (beq_eq_false_iff_ne.2 (show ¬x.k.tmod 10=4 from (by omega)))
   refine aI ?_ (beq_eq_false_iff_ne.2 (show ¬x.k.tmod 10=5 from (by omega)))
   refine aI ?_ (beq_eq_false_iff_ne.2 (show ¬x.k.tmod 10=6 from (by omega)))
   refine aI ?_ (beq_eq_false_iff_ne.2 (show ¬x.k.tmod 10=7 from (by omega)))
   refine aI ?_ (beq_eq_false_iff_ne.2 (show ¬x.k.tmod 10=8 from (by omega)))
   refine aJ ?_ (beq_iff_eq.2 (show x.k.tmod 10=9 from (by omega)))
   refine aD T1 [0,1,2,3,4,5] [.inl 0] (fun (v0_,v1_,v2_,v3_)=>[.box (k) 68 [vP q,vP v0_,vP r,vP v1_],.fact (DiskM q R.snd),.fact (RefD r R.snd),.fact (WalM v0_ q R.fst),.fact (ptV v1_ r R.fst v2_ v3_),.fact (rowV R.fst v2_ v3_)]) fun ⟨x1,x2,x3,x4⟩ h5=>?_
   exact ev_fin ⟨trivial,_,rfl,((x1,x2,x3,x4)),rfl,trivial,aF [0,1,2,3,4,5]⟩
 rw [doB_app hk]
 have T1:=appWT p q W D x.A x.L x.L.length x.c rfl (by omega) hp H.ok H.okW
 have T2:=rAppW w r W A c D x.A x.L x.L.length x.c rfl (by omega) hp H.ok H.okW (Nat.le_trans H.few (by decide))
 obtain ⟨R,hR⟩:∃ R,R=appW W D x.L:=⟨_,rfl⟩
 rw [←hR] at T1 T2 ⊢
 unfold BenL;refine triple_intro Tryz.tbs_ok Tryz.func30 rfl [.pt 0 k 0,.ag [.va (.int .u8 x.k),vL x.A x.L.length x.c,vI x.z,vL x.B x.K.length x.d]] [.box k 68 [vP q,vP p,vP r,vP w],.fact (DiskM q D),.fact (RefD r D),.fact (WalM p q W),.fact (ptV w r W A c),.fact (rowV W A c)] ⟨rfl,by simp [SV.good,SV.goodL],trivial⟩ rfl (by simp [SV.good,SV.goodL,blkAt,Res.blk]) ?_
 intro E
 refine aG ?_
 refine ev_new fun b0=>?_
 refine aI ?_ (beq_eq_false_iff_ne.2 (show ¬x.k.tmod 10=4 from (by omega)))
 refine aI ?_ (beq_eq_false_iff_ne.2 (show ¬x.k.tmod 10=5 from (by omega)))
 refine aI ?_ (beq_eq_false_iff_ne.2 (show ¬x.k.tmod 10=6 from (by omega)))
 refine aI ?_ (beq_eq_false_iff_ne.2 (show ¬x.k.tmod 10=7 from (by omega)))
 refine aI ?_ (beq_eq_false_iff_ne.2 (show ¬x.k.tmod 10=8 from (by omega)))
 refine aI ?_ (beq_eq_false_iff_ne.2 (show ¬x.k.tmod 10=9 from (by omega)))
 refine ev_stop (go_draw Tryz.tbs_ok false [0,6] [(0,true),(1,true),(2,true),(3,true),(4,true),(5,true),(7,true),(8,true),(9,true),(10,true),(11,true),(12,true),(6,false),(13,false),(14,false),(15,false)] rfl ?_)
 refine aG (aE ?_)
 refine aC T1 [3,1] [.inl 0,.inl 1] fun _ h1=>?_
 refine aE ?_
 refine aC T2 [4,5,2] [.inl 1] fun ⟨x2,x3⟩ h4=>?_
 refine aE (aE (aK ?_))
 refine ev_fin ⟨trivial,_,rfl,((p,w,x2,x3)),?_,trivial,aF [0,1,2,3,4,5]⟩
 exact congrArg Value.bool (beq_self_eq_true _)
theorem Tame.does {W:WK} {D:DK} (H:Tame W D) {x:ActW} (hx:x.z≤9223372036854775807):Tame (doB W D x).1 (doB W D x).2∧D.starts≤(doB W D x).2.starts∧(doB W D x).2.starts≤D.starts+1:=by
 have hst:∀ D:DK,D.starts≤(startD D).1.starts∧(startD D).1.starts≤D.starts+1:=fun D=>by
  unfold startD
  split
  · exact ⟨by show D.starts≤D.starts+1;omega,Int.le_refl _⟩
  exact ⟨Int.le_refl _,by show D.starts≤D.starts+1;omega⟩
 have hcr:(crashD D x.K).1.starts=D.starts:=by unfold crashD;split<;>rfl
 have hfl:(failD D x.z x.K).1.starts=D.starts:=by
  unfold failD
  split
  · rfl
  split<;>rfl
 unfold doB
 split
 · exact ⟨H.sync,by rw [syncW_starts];exact ⟨Int.le_refl _,by omega⟩⟩
 split
 · exact ⟨H.ck x.L,by rw [ckW_starts];exact ⟨Int.le_refl _,by omega⟩⟩
 split
 · obtain ⟨a,b⟩:=(H.crash x.K).start.again
   have:=hst (crashD D x.K).1
   rw [hcr] at this
   exact ⟨a,by rw [b];exact this⟩
 split
 · exact ⟨H.fail x.z hx x.K,by dsimp only;rw [hfl];exact ⟨Int.le_refl _,by omega⟩⟩
 split
 · obtain ⟨a,b⟩:=H.start.again
   exact ⟨a,by rw [b];exact hst D⟩
 split
 · obtain ⟨a,b⟩:=H.again
   exact ⟨a,by rw [b];exact ⟨Int.le_refl _,by omega⟩⟩
 exact ⟨H.app x.L,by rw [appW_starts];exact ⟨Int.le_refl _,by omega⟩⟩
set_option maxHeartbeats 8000000 in
theorem sameB (k q r p w:Nat) (W:WK) (D:DK) (A:Option Addr) (c:Nat) (H:Tame W D) :
 Triple Tryz.prog 31 [pP k] (BenL k q r p w W D A c) [TabA] Unit (fun _=>.bool true) (fun _=>True) (fun _=>BenL k q r p w W D A c):=by
 have hok:=H.ok
 have ht:W.t≤1000:=Nat.le_trans H.few (by decide)
 have hf:=hok.few
 have T1:=qNames r D hok
 have T2:=namesM q D hok
 have T3:=leftM q D hok
 have T4:=qLeft r D hok
 have T5:=segsWT p q W D hok H.okW
 have T6:=rSegsW w r W A c D
 have T7:=sizeWT p q W D hok H.okW ht
 have T8:=rSizeW w r W A c D hok H.okW ht
 have T9:=fun x=>readM q D x hok
 have Ta:=fun x=>qRead r D x hok
 obtain ⟨L,hL⟩:∃ L,L=D.files.map nameEG:=⟨_,rfl⟩
 obtain ⟨I,hI⟩:∃ I,I=D.files.map leftEG:=⟨_,rfl⟩
 obtain ⟨n,hn⟩:∃ n,n=D.files.length:=⟨_,rfl⟩
 have hLn:n=L.length:=by rw [hL,List.length_map,hn]
 have hIn:n=I.length:=by rw [hI,List.length_map,hn]
 rw [←hL,←hn] at T1 T2
 rw [←hI,←hn] at T3 T4
 rw [←hn] at hf
 have Tb:=fun A B c d=>sameTextsR A B L L n c n d hLn hLn (by omega)
 have Tc:=fun A B c d=>sameIntsR A B I I n c n d hIn hIn (by omega)
 simp only [decide_true] at Tb Tc
 unfold BenL
 refine aT Tryz.func31 [.pt 0 k 0] [.box k 68 [vP q,vP p,vP r,vP w],.fact (DiskM q D),.fact (RefD r D),.fact (WalM p q W),.fact (ptV w r W A c),.fact (rowV W A c)] (fun E=>?_) ⟨rfl,trivial⟩
 refine aG ?_
 refine aC T1 [2] [] fun ⟨x0,x1⟩ h2=>?_
 refine ev_stop (go_draw Tryz.tbs_ok true [0] [(0,true),(1,true),(2,true),(3,true),(5,true),(4,false),(6,false),(7,false),(8,false),(9,true),(10,true),(11,true),(12,true),(14,true),(15,true),(16,true),(17,true),(13,false),(18,false),(19,false),(20,false),(21,false),(22,false),(23,true),(24,true),(25,true),(26,true),(28,true),(29,true),(30,true),(31,true),(27,false),(32,false),(33,false),(34,false),(35,false),(36,true),(37,true),(38,true),(39,true),(41,true),(42,true),(43,true),(44,true),(40,false),(45,false),(46,false),(47,false)] rfl ?_)
 refine aG (aE ?_)
 refine aC T2 [1] [] fun ⟨x3,x4⟩ h5=>?_
 refine aE ?_
 refine aC (Tb (x3) (x0) (x4) (x1)) [] [.inr 7,.inr 6] fun _ h6=>?_
 refine aE (aE (aE (aI (aE ?_))))
 refine aC T3 [1] [] fun ⟨x7,x8⟩ h9=>?_
 refine aE ?_
 refine aC T4 [2] [] fun ⟨x10,x11⟩ h12=>?_
 refine aE ?_
 refine aC (Tc (x7) (x10) (x8) (x11)) [] [.inr 8,.inr 9] fun _ h13=>?_
 refine aE (aE (aE (aE (aI (aE ?_)))))
 refine aC T5 [3,1] [.inl 0] fun _ h14=>?_
 refine aE ?_
 refine aC T6 [4,5,2] [] fun _ h15=>?_
 refine aE (aE (aE (aE ?_)))
 refine aI ?_ (ne_no (show (↑(segsW W D):Int)=(↑(segsW W D):Int) from (by omega)))
 refine aE ?_
 refine aC T7 [3,1] [.inl 0] fun _ h16=>?_
 refine aE ?_
 refine aC T8 [4,5,2] [] fun _ h17=>?_
 refine aE (aE (aE ?_))
 refine aI ?_ (ne_no (show (↑(sizeOfW W D):Int)=(↑(sizeOfW W D):Int) from (by omega)))
 refine ev_stop (go_loopR [2,4,5,6,7,8,62,63,64,65,66,67,68,69,70,71,72,73,74,75,76,77,78,79,80,81,82,83,84,85,86,87,88,89,90,91,92,93,94,95,96,97,98,99] (fun i=>[(4,vI (i:Nat))]) (fun _=>[]) (fun i=>i≤n) (fun i=>n-i) (0:Nat) (Nat.zero_le _) aS (fun i hi=>?_))
 rcases Nat.lt_or_ge i n with hin | hin
 · have hil:i<L.length:=by omega
   have T9:=T9 L[i]
   have Ta:=Ta L[i]
   refine aG ?_
   refine aJ ?_ (decide_eq_true (show (↑i:Int)<(↑n:Int) from (by omega)))
   refine ev_stop (go_draw Tryz.tbs_ok false [0,6] [(0,true),(1,true),(2,true),(3,true),(4,true),(5,true),(6,true),(7,true),(8,false),(9,false),(10,true),(11,true),(12,false),(13,false)] rfl ?_)
   refine aG (aE ?_)
   refine ev_stop (tk_index0 (sz:=1) Tryz.tbs_ok (.inr 6) (i) aB rfl rfl rfl rfl rfl rfl rfl (by omega) rfl Row.at0 (fun g60 e61=>?_))
   subst e61
   refine aG (aE ?_)
   have l62:i<(L).length:=(by omega)
   refine ev_stop (tk_loadE Tryz.tbs_ok (.inr 1) (i) 0 aB rfl rfl rfl rfl rfl (fun _ h=>Row.rd h) (by omega) (fun _=>rfl) (by omega) l62 (by decide) ?_)
   refine aG (aE ?_)
   refine aC T9 [1] [] fun _ h63=>?_
   refine aE (aE (aE (aK ?_)))
   refine ev_stop (go_draw Tryz.tbs_ok false [0,6] [(0,true),(1,true),(2,true),(3,true),(4,true),(5,true),(6,true),(7,true),(8,false),(9,false),(10,true),(11,true),(12,false),(13,false)] rfl ?_)
   refine aG (aE ?_)
   refine ev_stop (tk_atE (sz:=1) Tryz.tbs_ok (i) aB rfl rfl rfl rfl rfl rfl rfl (by omega) ?_)
   refine aG (aE ?_)
   have l64:i<(L).length:=(by omega)
   refine ev_stop (tk_loadE Tryz.tbs_ok (.inr 1) (i) 0 aB rfl rfl rfl rfl rfl (fun _ h=>Row.rd h) (by omega) (fun _=>rfl) (by omega) l64 (by decide) ?_)
   refine aG (aE ?_)
   refine aC Ta [2] [] fun _ h65=>?_
   refine aE (aE (aE (aK ?_)))
   refine aI ?_ (dec_no (by rfl))
   refine aI ?_ (ne_no (show (readD D L[i]).snd=(readD D L[i]).snd from (by omega)))
   refine wN (i+1) ?_
   refine ev_fin (round_next (i+1) (show i+1≤n from (by assumption)) (show n-(i+1)<n-i from (by omega)) aS)
 refine aG ?_
 refine aI ?_ (decide_eq_false (show ¬(↑i:Int)<(↑n:Int) from (by omega)))
 refine ev_fin (go Tryz.tbs_ok 1000 ?_)
 exact ev_fin ⟨trivial,_,rfl,(),rfl,trivial,aF [0,1,2,3,4,5]⟩
end Go.Proofs.YtjlfdfmkofbccaaGreatDoor
namespace Go.Sy
open Go.RowKit Go.ChangeShapes Go.WideShapes
section
variable {H:Type} {enc:TypeId × Value→H} {P:Program}
def typesOk (P:Program) (ts:List TypeId):Bool:=ts.all fun t=>P.readableRec t&&decide (t<P.types.size)
theorem trodAll_below (hl:laidOutB P=true) {W W':World} (hb:Below W.heap.size W W') (sp:Nat→Bool) :
 ∀ {ts:List TypeId} {vs:List Value} {ds:List (DataW H)} {ps:List MemPlace},typesOk P ts=true→DataW.TrodAll enc P W 0 (fun _=>true) true ts vs ds ps→(∀ x∈ps,x.block<W.heap.size)→(∀ x∈ps,sp x.block=true) →
  DataW.TrodAll enc P W' 0 sp true ts vs ds ps
 | [],[],[],_,_,h,_,_=>h
 |
  t::ts,v::vs,d::ds,_,ht,⟨p,q,h1,h2,e⟩,hlt,hsp=>by
  subst e
  simp only [typesOk,List.all_cons,Bool.and_eq_true,decide_eq_true_eq] at ht
  exact ⟨p,q,WideElems.Trod_stays hl ht.1.1 ht.1.2 h1 (fun x hx=>hb.same (hlt x (List.mem_append_left _ hx))) (fun x hx=>hsp x (List.mem_append_left _ hx)),
   trodAll_below hl hb sp (ts:=ts) (by simpa [typesOk] using ht.2) h2 (fun x hx=>hlt x (List.mem_append_right _ hx)) (fun x hx=>hsp x (List.mem_append_right _ hx)),rfl⟩
 | [],[],_::_,_,_,h,_,_=>h.elim
 | [],_::_,[],_,_,h,_,_=>h.elim
 | [],_::_,_::_,_,_,h,_,_=>h.elim
 | _::_,[],[],_,_,h,_,_=>h.elim
 | _::_,[],_::_,_,_,h,_,_=>h.elim
 | _::_,_::_,[],_,_,h,_,_=>h.elim
theorem post_true {f:Func} {s:ChangeSpec} {apart fresh handsOn again:Bool} {W W':World} {args:Array Value} {ds gs:List (DataW H)} {before:List MemPlace} {rt:TypeId}
 (hl:laidOutB P=true) (hts:typesOk P f.params.toList=true) (hvars:s.vars=[]) (hrt:f.resultTypes = #[rt]) (hbool:P.underlying rt=some .bool)
 (hW:DataW.Whole enc P f.params.toList s.vars apart W args.toList ds gs before) (hb:Below W.heap.size W W')
 (hr:(s.fn H (ds++gs)).results=[.lit (.bool true)]) (ha:(s.fn H (ds++gs)).args=ds) (hv:(s.fn H (ds++gs)).vars=[]) :
 s.post enc P f apart fresh handsOn again W args (.bool true) W':=by
 have hlt:∀ p∈before,p.block<W.heap.size:=fun p hp=>hW.lt p hp
 have hold:∀ p∈before,(fun b=>decide (b<W.heap.size)) p.block=true:=fun p hp=>by simpa using hlt p hp
 have hW2:=hW
 obtain ⟨p,q,hA,hV,rfl,hz,hn⟩:=hW2
 rw [hvars] at hV
 obtain ⟨rfl,rfl⟩:=trodVars_none hV
 rw [List.append_nil] at hlt hold hz hn hW
 have hres:∀ (b:Nat) (sp:Nat→Bool) (hd:Bool),DataW.TrodAll enc P W' b sp hd f.resultTypes.toList ((Value.bool true).resultList f.resultTypes.size) (s.fn H (ds++[])).results []:=fun b sp hd=>by
  rw [hr,hrt]
  exact trodAll_mk1 (shut_bool hbool true)
 have hargs:∀ sp:Nat→Bool,(∀ x∈p,sp x.block=true)→DataW.TrodAll enc P W' 0 sp true f.params.toList args.toList (s.fn H (ds++[])).args p:=fun sp hsp=>by
  rw [ha]
  exact trodAll_below hl hb sp hts hA hlt hsp
 have hvs:∀ sp:Nat→Bool,DataW.TrodVars enc P W' sp s.vars (s.fn H (ds++[])).vars []:=fun sp=>by rw [hv,hvars];rfl
 have hok:∀ (j:Nat) (t:TypeId) (r:Value),f.resultTypes[j]? = some t→((Value.bool true).resultList f.resultTypes.size)[j]? = some r→Value.okWide P W' .any 0 t r:=by
  intro j t r hj hr'
  rw [hrt] at hj hr'
  match j,hj,hr' with
  |
   0,hj,hr' =>
   simp [Value.resultList] at hj hr'
   subst hj;subst hr'
   exact okWide_bool_mk hbool true
 refine ⟨ds,[],p,[],p,[],hW,hres _ _ _,hargs _ hold,hvs _,World.keptBut_mono (fun x hx=>⟨hx,?_⟩) (hb.frame (· ∈ p)),fun _=>?_⟩
 · exact .inr (.inl hx)
 refine ⟨hok,_,_,([]++p)++[],⟨[]++p,[],trodAll_append (hargs _ (fun _ _=>rfl)) (hres _ _ _),hvs _,rfl,?_,?_⟩,?_⟩
 · intro b off hp
   have hin:MemPlace.cell b off∈p:=by simpa using hp
   rw [hb.frozen (hlt _ hin)]
   exact hz b off hin
 · intro h
   simpa using hn h
 intro x hx _
 simpa using hx
end
def Sees (T:Tab) (w:World):Nat→TypeId→List Value→Prop
 | 0,_,_=>True
 |
  F+1,t,cs=>match (te T t).map (fun e:TE=>e.k) with
  | some (TK.int k)=>∃ n,cs=[.int k n]∧(Lit.int k n).wf=true
  | some TK.bool=>∃ b,cs=[.bool b]
  | some TK.string=>∃ s:ByteArray,cs=[.string s]∧s.size≤maxLen
  | some (TK.slice el)=>cs=[.slice none 0 0]∨∃ a n c,cs=[.slice (some a) n c]∧n≤c∧c≤maxLen ∧
   ∀ e',te T el=some e'→∀ i,i<n→∃ vs,w.cells? 0 (a.add (i*e'.size)) e'.size=some vs∧Sees T w F el vs
  | some (TK.struct fs)=>∀ f∈fs,∀ e',te T f.2=some e'→Sees T w F f.2 ((cs.drop f.1).take e'.size)
  | _=>True
theorem cellsOf_te {P:Program} {T:Tab} (hT:TabOk P T) {t:TypeId} {e:TE} (h:te T t=some e):P.cellsOf t=e.size:=by
 obtain ⟨i,u,z,h1,_,_,_,h2,_⟩:=te_spec hT h
 simp [Program.cellsOf,h1,h2]
theorem sees_of_trod {H:Type} {enc:TypeId × Value→H} {P:Program} {T:Tab} (hT:TabOk P T) {w:World} {sp:Nat→Bool} {held:Bool} :
 ∀ (F fuel:Nat) (t:TypeId) (cs:List Value) (x:DataW H × List MemPlace),DataW.trod enc P w 0 sp held fuel t cs=some x→Sees T w F t cs
 | 0,_,_,_,_,_=>trivial
 |
  F+1,fuel,t,cs,x,h=>by
  unfold Sees
  cases ht:te T t with
  | none=>trivial
  |
   some e =>
   obtain ⟨i,u,z,hi,hu,hz,hk,hs,_⟩:=te_spec hT ht
   simp only [Option.map_some,hk]
   cases u with
   |
    int k =>
    obtain ⟨n,h1,_,h2⟩:=DataW.trod_int hu h
    exact ⟨n,h1,h2⟩
   |
    bool =>
    obtain ⟨b,h1,_⟩:=DataW.trod_bool hu h
    exact ⟨b,h1⟩
   |
    string =>
    obtain ⟨s,h1,_,h2⟩:=DataW.trod_string hu h
    exact ⟨s,h1,h2⟩
   |
    slice el =>
    rcases DataW.trod_slice hu h with ⟨h1,_⟩ | ⟨a,n,c,elems,rest,m,_,h1,_,_,h2,h3,h4,h5,_,_⟩
    · exact .inl h1
    refine .inr ⟨a,n,c,h1,h2,h3,fun e' he' j hj=>?_⟩
    have h6:=h5 j hj
    rw [cellsOf_te hT he'] at h6
    have hlt:j<elems.length:=by omega
    rw [List.getElem?_eq_getElem hlt] at h6
    cases hc:w.cells? 0 (a.add (j*e'.size)) e'.size with
    | none=>rw [hc] at h6;cases h6
    |
     some vs =>
     rw [hc] at h6
     exact ⟨vs,rfl,sees_of_trod hT F m el vs _ h6⟩
   |
    struct fs =>
    obtain ⟨xs,n,_,_,hlen,hxl,hf⟩:=DataW.trod_struct hu h
    intro f hf' e' he'
    obtain ⟨g,hg,rfl⟩:=List.mem_map.1 hf'
    obtain ⟨j,hj⟩:=List.mem_iff_getElem?.1 hg
    have h6:=hf j g (by simpa using hj)
    rw [cellsOf_te hT he'] at h6
    have hlt:j<xs.length:=by
     have:=(List.getElem?_eq_some_iff.1 hj).1
     simp at this
     omega
    rw [List.getElem?_eq_getElem hlt] at h6
    exact sees_of_trod hT F n g.type _ _ h6
   | _=>trivial
def leaves (T:Tab):Nat→TypeId→List (Nat × TypeId)
 | 0,t=>[(0,t)]
 |
  d+1,t=>match (te T t).map (fun e:TE=>e.k) with
  | some (TK.struct fs)=>fs.flatMap fun f=>(leaves T d f.2).map fun p=>(f.1+p.1,p.2)
  | _=>[(0,t)]
theorem sees_down {T:Tab} {w:World}:∀ (F:Nat) {t:TypeId} {cs:List Value},Sees T w (F+1) t cs→Sees T w F t cs
 | 0,_,_,_=>trivial
 |
  F+1,t,cs,h=>by
  unfold Sees at h ⊢
  cases hk:(te T t).map (fun e:TE=>e.k) with
  | none=>trivial
  |
   some k =>
   rw [hk] at h
   cases k with
   |
    slice el =>
    rcases h with h | ⟨a,n,c,h1,h2,h3,h4⟩
    · exact .inl h
    exact .inr ⟨a,n,c,h1,h2,h3,fun e' he' i hi=>let ⟨vs,hv,hs⟩:=h4 e' he' i hi;⟨vs,hv,sees_down F hs⟩⟩
   | struct fs=>exact fun f hf e' he'=>sees_down F (h f hf e' he')
   | _=>exact h
theorem sees_downs {T:Tab} {w:World} {F:Nat} {t:TypeId} {cs:List Value}:∀ (d:Nat),Sees T w (F+d) t cs→Sees T w F t cs
 | 0,h=>h
 | d+1,h=>sees_downs d (sees_down (F+d) h)
def oneK:TK→Bool
 | .int _=>true
 | .bool=>true
 | .string=>true
 | .slice _=>true
 | _=>false
theorem sees_one {T:Tab} {w:World} {F:Nat} {t:TypeId} {cs:List Value} {k:TK} (hk:(te T t).map (fun e:TE=>e.k)=some k) (ho:oneK k=true) (h:Sees T w (F+1) t cs):∃ v,cs=[v]:=by
 unfold Sees at h
 rw [hk] at h
 cases k<;>first | (cases ho;done) | (obtain ⟨n,h1,_⟩:=h;exact ⟨_,h1⟩;done) | (obtain ⟨n,h1⟩:=h;exact ⟨_,h1⟩;done) | (rcases h with h | ⟨a,n,c,h,_⟩<;>exact ⟨_,h⟩)
theorem sees_leaf {T:Tab} {w:World} {F:Nat} {k:TK} (ho:oneK k=true) {u:TypeId} (hk:(te T u).map (fun e:TE=>e.k)=some k):∀ (d:Nat) {t:TypeId} {cs:List Value} {o:Nat},(o,u)∈leaves T d t→(∀ p∈leaves T d t,(te T p.2).isSome=true)→Sees T w (F+1+d) t cs→∃ v,cs[o]? = some v∧Sees T w (F+1) u [v]
 |
  0,t,cs,o,hm,_,h=>by
  simp [leaves] at hm
  obtain ⟨rfl,rfl⟩:=hm
  obtain ⟨v,rfl⟩:=sees_one hk ho h
  exact ⟨v,rfl,h⟩
 |
  d+1,t,cs,o,hm,hi,h=>by
  have h0:=sees_downs (d+1) h
  have h':Sees T w (F+1+d+1) t cs:=h
  unfold leaves at hm hi
  unfold Sees at h'
  cases hkt:(te T t).map (fun e:TE=>e.k) with
  |
   none =>
   rw [hkt] at hm
   simp at hm
   obtain ⟨rfl,rfl⟩:=hm
   rw [hk] at hkt;cases hkt
  |
   some kt =>
   rw [hkt] at hm hi h'
   have base:(o,u)∈[(0,t)]→∃ v,cs[o]? = some v∧Sees T w (F+1) u [v]:=fun hm=>by
    simp at hm
    obtain ⟨rfl,rfl⟩:=hm
    obtain ⟨v,rfl⟩:=sees_one hk ho h0
    exact ⟨v,rfl,h0⟩
   cases kt with
   |
    struct fs =>
    simp only [List.mem_flatMap,List.mem_map] at hm
    obtain ⟨f,hf,⟨o',u'⟩,hp,he⟩:=hm
    simp only [Prod.mk.injEq] at he
    obtain ⟨rfl,rfl⟩:=he
    cases hte:te T f.2 with
    |
     none =>
     exfalso
     have h1:leaves T d f.2=[(0,f.2)]:=by cases d<;>simp [leaves,hte]
     have h2:=hi (f.1+0,f.2) (List.mem_flatMap.2 ⟨f,hf,by rw [h1];exact List.mem_map.2 ⟨(0,f.2),by simp,rfl⟩⟩)
     rw [hte] at h2;cases h2
    |
     some e' =>
     obtain ⟨v,hv,hs⟩:=sees_leaf ho hk d hp (fun p hp'=>hi (f.1+p.1,p.2) (List.mem_flatMap.2 ⟨f,hf,List.mem_map.2 ⟨p,hp',rfl⟩⟩)) (h' f hf e' hte)
     refine ⟨v,?_,hs⟩
     rw [List.getElem?_take] at hv
     split at hv
     · rwa [List.getElem?_drop] at hv
     cases hv
   | _=>exact base hm
theorem leaf_int {T:Tab} {w:World} {F d:Nat} {k:IntKind} {u t:TypeId} {cs:List Value} (hk:(te T u).map (fun e:TE=>e.k)=some (.int k)) (hi:(leaves T d t).all (fun p=>(te T p.2).isSome)=true) (h:Sees T w (F+1+d) t cs) (o:Nat) (hm:(o,u)∈leaves T d t):∃ n,cs[o]? = some (.int k n)∧(Lit.int k n).wf=true:=by
 obtain ⟨v,hv,hs⟩:=sees_leaf rfl hk d hm (List.all_eq_true.1 hi) h
 unfold Sees at hs
 rw [hk] at hs
 obtain ⟨n,h1,h2⟩:=hs
 cases h1
 exact ⟨n,hv,h2⟩
theorem leaf_string {T:Tab} {w:World} {F d:Nat} {u t:TypeId} {cs:List Value} (hk:(te T u).map (fun e:TE=>e.k)=some .string) (hi:(leaves T d t).all (fun p=>(te T p.2).isSome)=true) (h:Sees T w (F+1+d) t cs) (o:Nat) (hm:(o,u)∈leaves T d t):∃ s:ByteArray,cs[o]? = some (.string s)∧s.size≤maxLen:=by
 obtain ⟨v,hv,hs⟩:=sees_leaf rfl hk d hm (List.all_eq_true.1 hi) h
 unfold Sees at hs
 rw [hk] at hs
 obtain ⟨n,h1,h2⟩:=hs
 cases h1
 exact ⟨n,hv,h2⟩
theorem list_of_sees {T:Tab} {w:World} {F:Nat} {t el:TypeId} {e:TE} {cs:List Value} {α:Type} [Inhabited α] {enc:α→List Value} {G:α→Prop} (hk:(te T t).map (fun e:TE=>e.k)=some (.slice el)) (he:te T el=some e) (h0:0<e.size)
 (hlen:∀ x,(enc x).length=e.size) (hone:∀ x,(enc x).all Value.oneCell'=true)
 (hdec:∀ vs,vs.length=e.size→Sees T w F el vs→∃ x,vs=enc x∧G x) (h:Sees T w (F+1) t cs) :
 ∃ A n c,∃ l:List α,cs=[.slice A n c]∧l.length=n∧n≤c∧c≤maxLen∧(Rd e.size A n (l.flatMap enc)).holds (hp w)∧∀ x∈l,G x:=by
 unfold Sees at h
 rw [hk] at h
 rcases h with h | ⟨a,n,c,h1,h2,h3,h4⟩
 · exact ⟨none,0,0,[],h,rfl,Nat.le_refl _,Nat.zero_le _,Rd.nil _ _ _,fun _ h=>by cases h⟩
 have key:∀ i,i<n→∃ x,w.cells? 0 (a.add (i*e.size)) e.size=some (enc x)∧G x:=fun i hi=>by
  obtain ⟨vs,hv,hs⟩:=h4 e he i hi
  obtain ⟨x,rfl,hx⟩:=hdec vs (World.cells?_some hv).2.1 hs
  exact ⟨x,hv,hx⟩
 obtain ⟨f,hf⟩:∃ f:Nat→α,∀ i,i<n→w.cells? 0 (a.add (i*e.size)) e.size=some (enc (f i))∧G (f i):=by
  refine ⟨fun i=>if hi:i<n then Classical.choose (key i hi) else default,fun i hi=>?_⟩
  simp only [hi,dite_true]
  exact Classical.choose_spec (key i hi)
 let l:=(List.range n).map f
 have hll:l.length=n:=by simp [l]
 refine ⟨some a,n,c,l,h1,hll,h2,h3,⟨by rw [flat_len hlen,hll],fun v hv=>?_,fun hn=>?_⟩,fun x hx=>?_⟩
 · obtain ⟨x,_,hx⟩:=List.mem_flatMap.1 hv
   exact List.all_eq_true.1 (hone x) v hx
 · have hc0:=(World.cells?_some (hf 0 hn).1).2.2 0 h0
   have ha0:a.add 0=a:=by unfold Addr.add;simp
   simp only [Nat.zero_mul,ha0] at hc0
   obtain ⟨g,o,sp⟩:=a
   have hx0:(enc (f 0))[0]? ≠ none:=by simp [hlen];omega
   rw [←hc0] at hx0
   unfold World.cell? at hx0
   cases hw:w.heap[g]? with
   | none=>simp [hw] at hx0
   |
    some ob =>
    cases ob<;>simp [hw] at hx0
    rename_i cur el' fz
    cases sp with
    | some s=>simp at hx0
    |
     none =>
     refine ⟨g,o,cur,el',fz,rfl,hw,?_⟩
     have hcell:∀ j,w.cell? ⟨g,j,none⟩=cur[j]? := fun j=>by unfold World.cell?;simp [hw]
     have hget:∀ k,k<n*e.size→cur[o+k]? = (l.flatMap enc)[k]? := fun k hk'=>by
      have hq:k / e.size<n:=by rw [Nat.div_lt_iff_lt_mul h0];exact hk'
      have hm:k % e.size<e.size:=Nat.mod_lt _ h0
      have h5:=(World.cells?_some (hf (k / e.size) hq).1).2.2 (k % e.size) hm
      rw [addr_add,addr_add,hcell,Nat.add_assoc,Nat.div_add_mod'] at h5
      rw [h5]
      have h6:(enc (f (k / e.size)))[k % e.size]? = ((l.flatMap enc).drop (k / e.size*e.size))[k % e.size]? := by
       rw [flat_drop hlen]
       have:l.drop (k / e.size)=f (k / e.size)::l.drop (k / e.size+1):=by
        rw [List.drop_eq_getElem_cons (by rw [hll];exact hq)]
        simp [l]
       rw [this,List.flatMap_cons,List.getElem?_append_left (by rw [hlen];exact hm)]
      rw [h6,List.getElem?_drop,Nat.div_add_mod']
     have hL:(l.flatMap enc).length=n*e.size:=by rw [flat_len hlen,hll]
     apply List.ext_getElem?
     intro k
     rcases Nat.lt_or_ge k (n*e.size) with hk' | hk'
     · rw [List.getElem?_take,if_pos hk',List.getElem?_drop,Array.getElem?_toList,hget k hk']
     rw [List.getElem?_eq_none (by rw [List.length_take];omega),List.getElem?_eq_none (by omega)]
 obtain ⟨i,hi,rfl⟩:=List.mem_map.1 hx
 exact (hf i (List.mem_range.1 hi)).2
theorem leaf_slice {T:Tab} {w:World} {F d:Nat} {u t el:TypeId} {e:TE} {cs:List Value} {α:Type} [Inhabited α] {enc:α→List Value} {G:α→Prop} (hk:(te T u).map (fun e:TE=>e.k)=some (.slice el)) (he:te T el=some e) (h0:0<e.size)
 (hlen:∀ x,(enc x).length=e.size) (hone:∀ x,(enc x).all Value.oneCell'=true)
 (hdec:∀ vs,vs.length=e.size→Sees T w F el vs→∃ x,vs=enc x∧G x) (hi:(leaves T d t).all (fun p=>(te T p.2).isSome)=true) (h:Sees T w (F+1+d) t cs) (o:Nat) (hm:(o,u)∈leaves T d t) :
 ∃ A n c,∃ l:List α,cs[o]? = some (.slice A n c)∧l.length=n∧n≤c∧c≤maxLen∧(Rd e.size A n (l.flatMap enc)).holds (hp w)∧∀ x∈l,G x:=by
 obtain ⟨v,hv,hs⟩:=sees_leaf rfl hk d hm (List.all_eq_true.1 hi) h
 obtain ⟨A,n,c,l,h1,h2⟩:=list_of_sees hk he h0 hlen hone hdec hs
 cases h1
 exact ⟨A,n,c,l,hv,h2⟩
def AllAt (vs:List Value):Nat→List Value→Prop
 | _,[]=>True
 | k,x::ws=>vs[k]? = some x∧AllAt vs (k+1) ws
theorem drop_of_at (vs:List Value):∀ (ws:List Value) (k:Nat),AllAt vs k ws→vs.length=k+ws.length→vs.drop k=ws
 | [],k,_,hl=>List.drop_eq_nil_of_le (by simp at hl;omega)
 |
  x::ws,k,h,hl=>by
  have hk:k<vs.length:=by simp at hl;omega
  have h1:=h.1
  rw [List.getElem?_eq_getElem hk] at h1
  rw [List.drop_eq_getElem_cons hk,drop_of_at vs ws (k+1) h.2 (by simp at hl;omega)]
  simp at h1
  rw [h1]
theorem eq_of_at {vs ws:List Value} (hl:vs.length=ws.length) (h:AllAt vs 0 ws):vs=ws:=drop_of_at vs ws 0 h (by omega)
theorem wf_u8 {n:Int} (h:(Lit.int .u8 n).wf=true):0≤n∧n<256:=by
 simp only [Lit.wf,Bool.and_eq_true,decide_eq_true_eq] at h
 have h3:IntKind.u8.min=0:=rfl
 have h4:IntKind.u8.max=255:=rfl
 omega
theorem wf_i64 {n:Int} (h:(Lit.int .i64 n).wf=true) : -9223372036854775808≤n∧n≤9223372036854775807:=by
 simp only [Lit.wf,Bool.and_eq_true,decide_eq_true_eq] at h
 have h3:IntKind.i64.min = -9223372036854775808:=rfl
 have h4:IntKind.i64.max=9223372036854775807:=rfl
 omega
end Go.Sy
namespace Go.Proofs.YtjlfdfmkofbccaaGreatDoor
open Go.Sy Go.RowKit Go.ChangeShapes Go.WideShapes
theorem Tryz.own:ownKnob Tryz.prog.godebug=none:=by kernel_rfl
theorem Tryz.laidOut:laidOutB Tryz.prog=true:=by kernel_rfl
theorem int_dec {w:World} {F:Nat} {vs:List Value} (hl:vs.length=1) (h:Sees Tryz.tab w (F+1) 3 vs):∃ x:Int,vs=encN x∧True:=by
 obtain ⟨n0,e0,_⟩:=leaf_int (F:=F) (d:=0) (k:=.i64) (u:=3) rfl rfl h 0 (by decide)
 exact ⟨n0,eq_of_at hl (And.intro e0 trivial),trivial⟩
theorem str_dec {w:World} {F:Nat} {vs:List Value} (hl:vs.length=1) (h:Sees Tryz.tab w (F+1) 9 vs):∃ x:ByteArray,vs=encS x∧x.size≤maxLen:=by
 obtain ⟨n0,e0,w0⟩:=leaf_string (F:=F) (d:=0) (u:=9) rfl rfl h 0 (by decide)
 exact ⟨n0,eq_of_at hl (And.intro e0 trivial),w0⟩
theorem actW_dec {w:World} {F:Nat} {vs:List Value} (hl:vs.length=4) (h:Sees Tryz.tab w (F+1+1+1) 38 vs):∃ x:ActW,vs=encW x∧((x.rdL.holds (hp w)∧x.rdK.holds (hp w))∧(0≤x.k∧x.k<256∧x.z≤9223372036854775807)):=by
 obtain ⟨n0,e0,w0⟩:=leaf_int (F:=F+1) (d:=1) (k:=.u8) (u:=5) rfl rfl h 0 (by decide)
 obtain ⟨A1,n1,c1,l1,e1,hn1,hc1,hm1,hr1,hg1⟩:=leaf_slice (F:=F+1) (d:=1) (u:=30) (el:=9) (enc:=encS) (G:=fun x=>x.size≤maxLen) rfl rfl (by decide) encS_len (fun _=>rfl) (fun vs hl h=>str_dec hl h) rfl h 1 (by decide)
 subst hn1
 obtain ⟨n2,e2,w2⟩:=leaf_int (F:=F+1) (d:=1) (k:=.i64) (u:=3) rfl rfl h 2 (by decide)
 obtain ⟨A3,n3,c3,l3,e3,hn3,hc3,hm3,hr3,hg3⟩:=leaf_slice (F:=F+1) (d:=1) (u:=36) (el:=3) (enc:=encN) (G:=fun _=>True) rfl rfl (by decide) encN_len (fun _=>rfl) (fun vs hl h=>int_dec hl h) rfl h 3 (by decide)
 subst hn3
 exact ⟨⟨n0,l1,A1,c1,n2,l3,A3,c3⟩,eq_of_at hl (And.intro e0 (And.intro e1 (And.intro e2 (And.intro e3 trivial)))),⟨hr1,hr3⟩,(wf_u8 w0).1,(wf_u8 w0).2,(wf_i64 w2).2⟩
def inW (x:ActW):Prop:=0≤x.k∧x.k<256∧x.z≤9223372036854775807
theorem actsW_in {w:World} {l:List ActW} (h:∀ x∈l,(x.rdL.holds (hp w)∧x.rdK.holds (hp w))∧(0≤x.k∧x.k<256∧x.z≤9223372036854775807)):(ActsW l).holds (hp w)∧∀ x∈l,inW x:=⟨fun x hx=>(h x hx).1,fun x hx=>(h x hx).2⟩
theorem maxLen_le {n c:Nat} (h:n≤c) (h2:c≤maxLen):n≤9223372036854775807:=Nat.le_trans h h2
abbrev laidL:List (String × DataW Unit):=Rows.walNoneRow.laid
theorem door_met (os:Os) (args:Array Value):laidMetH Tryz.prog laidL ((World.doorLaid Tryz.prog 400 os).forCall (fun _ _=>0) ⟨#[],args,[]⟩).memory:=by
 rw [MakeChecks.laidMetH_plain _ _ _ (by kernel_rfl)]
 exact laidMet_of_run' 8 (by kernel_rfl) (by kernel_rfl)
theorem tab_of {W:World} (h:laidMetH Tryz.prog laidL W):TabA.holds (hp W):=by
 rw [MakeChecks.laidMetH_plain _ _ _ (by kernel_rfl)] at h
 obtain ⟨g,hg,hgt⟩:∃ g,Tryz.prog.globalNamed "internal/strconv.uint64pow10" = some g∧(Tryz.prog.globals[g]?).map (·.type)=some 176:=⟨0,by kernel_rfl,by kernel_rfl⟩
 have h3:Lib.TabIs Tryz.prog W "internal/strconv.uint64pow10" .u64 Lib.pow10Tab:=Lib.tabIs_of_head (g:=g) (t:=176) (e:=160) (n:=20) hg hgt (by kernel_rfl) (by kernel_rfl) (by kernel_rfl) (by kernel_rfl) (laidMet.tail (laidMet.tail h))
 intro w hw
 have h4:W.var? Tryz.prog "internal/strconv.uint64pow10" = some (Lib.pow10Tab.map fun z=>Value.int .u64 z).toArray:=h3
 show w.var? Tryz.prog "internal/strconv.uint64pow10" = some _
 unfold World.var? at h4 ⊢
 rw [hg] at h4 ⊢
 simp only [Option.bind_some] at h4 ⊢
 cases hx:W.heap[g]? with
 | none=>rw [hx] at h4;cases h4
 |
  some o =>
  rw [hx] at h4
  have h5:w.heap[g]? = some o:=hw g o hx
  rw [h5]
  exact h4
end Go.Proofs.YtjlfdfmkofbccaaGreatDoor

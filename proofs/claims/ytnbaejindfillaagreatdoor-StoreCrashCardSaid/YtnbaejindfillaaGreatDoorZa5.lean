/-
  What is proved: the texts that the claims share, part 5 of 6, each text behind the other. Conditions: none.
-/
import Derived.Carry
import Derived.ChangeSame
import Derived.JoinedOf
import Derived.JoinedAt
import Derived.Test.YtnbaejindfillaaGreatDoorZa4
set_option maxRecDepth 100000
namespace Go.Proofs.YtnbaejindfillaaGreatDoor
open Go.Sy
set_option maxHeartbeats 8000000 in
theorem openCutE (q:Nat) (D:DK) (hD:okD D) (h:D.down=false) (ho:okN (namesD D)=true) (hs:okSeg (tailsM (namesD D)) (dataD D)=true) (hre:(runD (remL (staleM (namesD D))) D).2=0) (zc:Nat) (hc:cutM (dataD D)=some zc)
 (R:DK × Int) (hR:R=truncD (runD (remL (staleM (namesD D))) D).1 (endM (baseM (namesD D)) (tailsM (namesD D))) (zc:Nat)) (hR2:R.2≠0):Triple Tryz.prog 42 [pP q] [DiskM q D] [TabA] Unit (fun _=>.tuple #[.pointer none,.slice none 0 0,.int .i64 R.2]) (fun _=>True) (fun _=>[DiskM q R.1]):=by
 unfold dataD at hc
 have T1:=startsM q D hD
 have T2:=upM q D hD
 rw [h] at T2
 have T3:=namesM q D hD
 have hfew:=hD.few
 unfold dataD at hs
 obtain ⟨L,hL⟩:∃ L,L=D.files.map nameEG:=⟨_,rfl⟩
 obtain ⟨n,hn⟩:∃ n,n=D.files.length:=⟨_,rfl⟩
 have hnl:n=L.length:=by rw [hL,hn,List.length_map]
 have hLN:namesD D=L:=hL.symm
 rw [hLN] at ho hs
 rw [←hL,←hn] at T3
 have T4:=fun A c=>lookR A L n c hnl (by omega)
 rw [ho] at T4
 have hbt:=last_le L
 obtain ⟨b,hb⟩:∃ b,b=baseM L:=⟨_,rfl⟩
 obtain ⟨t,ht⟩:∃ t,t=tailsM L:=⟨_,rfl⟩
 rw [←hb,←ht] at hbt hs T4
 have T5:=segsT b t (by omega) (by omega)
 obtain ⟨S,hS⟩:∃ S,S=segsM b t:=⟨_,rfl⟩
 rw [←hS] at hs T5
 obtain ⟨m,hm⟩:∃ m,m=S.length:=⟨_,rfl⟩
 rw [←hm] at T5
 have hm1:m≤16:=by rw [hm,hS,hb,ht];have:=segs_few L;omega
 obtain ⟨dat,hdat⟩:∃ dat,dat=S.map fun x=>(readD D x).1:=⟨_,rfl⟩
 rw [←hdat] at hs
 have hdl:dat.length=m:=by rw [hdat,List.length_map,hm]
 have hget:∀ i (hi:i<S.length),dat[i]? = some (readD D S[i]).1:=fun i hi=>by rw [hdat,List.getElem?_map,List.getElem?_eq_getElem hi];rfl
 rw [hLN,←hb,←ht,←hS,←hdat] at hc
 rw [hLN,←hb,←ht] at hR
 rw [hLN] at hre
 obtain ⟨la,hla⟩:∃ la,la=endM b t:=⟨_,rfl⟩
 have hlz:0<t→¬ la=(⟨#[]⟩:ByteArray):=fun ht q=>by
  have:=congrArg ByteArray.size q
  rw [hla] at this
  unfold endM at this
  rw [if_neg (by omega)] at this
  have h2:=nmB_pos 115 (b+t)
  rw [this] at h2
  exact absurd h2 (by decide)
 obtain ⟨sl,hsl⟩:∃ sl,sl=staleM L:=⟨_,rfl⟩
 rw [←hsl] at T4
 have hsn:sl.length≤1000:=by rw [hsl];have:=stale_len L;omega
 obtain ⟨ns,hns⟩:∃ ns,ns=sl.length:=⟨_,rfl⟩
 rw [←hns] at T4 hsn
 have T8:=fun p A c=>removedF p q D.starts (b:Nat) (t:Nat) A ns c sl hns (by omega)
 have T9:=fun p ia ic=>doA p q D.starts false (b:Nat) (t:Nat) ia ic (remL sl) D hD
 unfold ptW at T9
 have hD1:okD (runD (remL sl) D).1:=runD_ok remL_ok hD
 obtain ⟨r,hr⟩:∃ r,r=runD (remL sl) D:=⟨_,rfl⟩
 rw [←hr] at T9 hD1
 obtain ⟨bd,hbd⟩:∃ bd,bd=(false || badE r.2):=⟨_,rfl⟩
 rw [←hbd] at T9
 obtain ⟨fs,hfs⟩:∃ fs,fs=remL sl:=⟨_,rfl⟩
 rw [←hfs] at T9
 replace T8:∀ p A c,Triple Tryz.prog 73 [pP p,.slice A ns c] [Row 9 1 A ns c (sl.flatMap encS)] [] FnV (fun v=>.func (.func v.1) #[] v.2) (fun _=>True) (fun it=>[IterA p q D.starts (b:Nat) (t:Nat) it fs]):=fun p A c=>by
  rw [hfs]
  exact T8 p A c
 rw [←hsl,←hfs,hfs,←hr] at hre hR
 rw [←hla] at hR
 rw [hre] at T9
 have T10:=truncM q r.1 la (zc:Nat) hD1
 rw [←hR] at T10
 refine aT Tryz.func42 [vP q] [.fact (DiskM q D)] (fun E=>?_) ⟨trivial,trivial⟩
 refine go_fact (Row 9 1 none 0 0 (([]:List ByteArray).flatMap encS)) (Row.nilE _ _) ?_
 refine aG ?_
 refine aC T1 [0] [] fun _ h0=>?_
 refine ev_new fun b1=>?_
 refine aC T2 [0] [] fun _ h2=>?_
 refine aI ?_
 refine aC T3 [0] [] fun ⟨x3,x4⟩ h5=>?_
 refine aC (T4 (x3) (x4)) [] [.inl 0,.inr 3] fun ⟨x6,x7⟩ h8=>?_
 refine ev_new fun b9=>?_
 refine aI ?_
 refine aC T5 [] [.inl 0] fun ⟨x10,x11⟩ h12=>?_
 refine ev_stop (go_loopR [2,3,4,10,11,12,13,14,15,16,17,18,23,30,33,34,40,43,47,48,49,50,51,52,53,54,55,56,57,58,59,60,61,62,63,64,65,66,67,68,69,70,71,72,73,74,75,76,77,78,79,80,81,82] (fun (i,C,z,e,_,cut,en)=>[(10,vL C z e),(11,.va (.string cut)),(12,vI en),(47,vI (i:Nat))]) (fun (_,C,z,e,M,_)=>[(1,.fact (Row 9 1 C z e (M.flatMap encS)))]) (fun (i,_,z,_,M,cut,en)=>i≤m∧z=M.length∧z≤i*2000000∧M=payM (dat.take i)∧cutAt t dat la i cut en) (fun (i,_)=>m-i) ((0,none,0,0,[],⟨#[]⟩,0):Nat × Option Addr × Nat × Nat × List ByteArray × ByteArray × Int) ⟨Nat.zero_le _,rfl,Nat.zero_le _,rfl,.inl ⟨rfl,rfl,fun k x hk=>absurd hk (by omega)⟩⟩ aS (fun x_ h_=>?_))
 obtain ⟨i,C,z,e,M,cut,en⟩:=x_
 obtain ⟨hi,hz,hz2,hM,hup⟩:=h_
 rcases Nat.lt_or_ge i m with him | him
 · have hiS:i<S.length:=by omega
   obtain ⟨x,hx⟩:∃ x,x=(readD D S[i]).1:=⟨_,rfl⟩
   have hxs:=read_size hD S[i]
   have hgx:=hget i hiS
   have T6:=readM q D S[i] hD
   rw [←hx] at hxs hgx T6
   have T7:=wholeT x (by omega)
   have hwl:=whole_len x
   have hzl:z+(wholeM x).1.length≤(i+1)*2000000:=by rw [Nat.succ_mul];omega
   have hzm:z+(wholeM x).1.length≤100000000:=by have:(i+1)*2000000≤16*2000000:=Nat.mul_le_mul_right _ (by omega);omega
   have hst:=payM_step (dat:=dat) (i:=i) (by omega)
   have hxe:dat[i]'(by omega)=x:=by
    have:=hgx
    rw [List.getElem?_eq_getElem (by omega)] at this
    exact Option.some.inj this
   rw [hxe,←hM] at hst
   have hno:wholeB x=false→¬ (i+1<m∨t=0):=fun hw h2=>by
    have:=okSeg_no (t:=t) (dat:=dat) (k:=i) (by omega) (by rw [hxe];exact hw) (by rw [hdl];exact h2)
    rw [hs] at this
    cases this
   refine aG ?_
   refine aJ ?_ (decide_eq_true (show (↑i:Int)<(↑m:Int) from (by omega)))
   refine ev_stop (go_index0 (sz:=1) Tryz.tbs_ok (.inr 6) (i) rfl rfl rfl rfl rfl rfl (by omega) rfl Row.at0 (fun g60 e61=>?_))
   subst e61
   refine aG ?_
   have l62:i<(S).length:=(by omega)
   refine ev_stop (go_loadE Tryz.tbs_ok (.inr 6) (i) 0 rfl rfl rfl rfl (fun _ h=>Row.rd h) (by omega) (fun _=>rfl) (by omega) l62 (by decide) ?_)
   refine aG ?_
   refine aC T6 [0] [] fun _ h63=>?_
   refine aC T7 [] [] fun ⟨x64,x65⟩ h66=>?_
   refine ev_if_lt (fun h67=>?_) (fun h67=>?_)
   refine aG ?_
   refine wO (m-1) ?_
   refine ev_if_lt (fun h68=>?_) (fun h68=>?_)
   refine aG ?_
   rotate_left
   refine aG ?_
   refine ev_if_eq (fun h69=>?_) (fun h69=>?_)
   refine aG ?_
   rotate_left
   refine aG ?_
   refine ev_stop (go_appendE (sz:=1) (M:=[_]) (enc:=encS) Tryz.tbs_ok [1] [] (.inr 7) (M) ((wholeM x).fst) ((M)++((wholeM x).fst)) (z+(wholeM x).fst.length) rfl rfl rfl rfl rfl rfl rfl (by decide) rfl (by decide) (fun _ p=>starH_one.1 p) rfl (fun _ h=>Row.rd h) (by first | rfl | simp) (by first | rfl | omega) (aM (z+(wholeM x).fst.length)) (aN (z+(wholeM x).fst.length)) (fun _ _=>aL) (fun A70 c71 h72=>?_))
   refine aG ?_
   refine wN (i+1) ?_
   refine ev_fin (round_next ((i+1,A70,z+(wholeM x).fst.length,c71,M++(wholeM x).fst,S[i],(↑(wholeM x).snd:Int))) (?_:i+1≤m∧z+(wholeM x).fst.length=(M++(wholeM x).fst).length∧z+(wholeM x).fst.length≤(i+1)*2000000∧M++(wholeM x).fst=payM (List.take (i+1) dat)∧cutAt t dat la (i+1) S[i] (↑(wholeM x).snd:Int)) (show m-(i+1)<m-i from (by omega)) aS)
   rotate_left
   refine aG ?_
   refine ev_stop (go_appendE (sz:=1) (M:=[_]) (enc:=encS) Tryz.tbs_ok [1] [] (.inr 7) (M) ((wholeM x).fst) ((M)++((wholeM x).fst)) (z+(wholeM x).fst.length) rfl rfl rfl rfl rfl rfl rfl (by decide) rfl (by decide) (fun _ p=>starH_one.1 p) rfl (fun _ h=>Row.rd h) (by first | rfl | simp) (by first | rfl | omega) (aM (z+(wholeM x).fst.length)) (aN (z+(wholeM x).fst.length)) (fun _ _=>aL) (fun A73 c74 h75=>?_))
   refine aG ?_
   refine wN (i+1) ?_
   refine ev_fin (round_next ((i+1,A73,z+(wholeM x).fst.length,c74,M++(wholeM x).fst,cut,en)) (?_:i+1≤m∧z+(wholeM x).fst.length=(M++(wholeM x).fst).length∧z+(wholeM x).fst.length≤(i+1)*2000000∧M++(wholeM x).fst=payM (List.take (i+1) dat)∧cutAt t dat la (i+1) cut en) (show m-(i+1)<m-i from (by omega)) aS)
   rotate_left
   · exact absurd (by omega) (hno (whole_no (by omega)))
   · exact absurd (by omega) (hno (whole_no (by omega)))
   · refine ⟨by omega,by rw [List.length_append,hz],hzl,hst.symm,?_⟩
     have hi1:i+1=m:=by omega
     have ht1:0<t:=by omega
     have hc:S[i]=la:=by subst hS;rw [hla];exact seg_last ht1 (by omega) _
     rw [hc]
     exact cutAt_torn hgx (by omega) (whole_no (by omega))
   exact ⟨by omega,by rw [List.length_append,hz],hzl,hst.symm,cutAt_whole hup (by omega) hgx (whole_yes (by omega))⟩
 obtain rfl:i=m:=by omega
 rw [←hdl] at hup
 rcases cutAt_end hup with ⟨_,_,q3⟩ | ⟨q1,z',q2,q3⟩
 · rw [q3] at hc
   cases hc
 rw [q3] at hc
 cases hc
 subst q1 q2
 have ht0:0<t:=by
  rcases Nat.eq_zero_or_pos t with h0 | h0
  · exfalso
    have hw:∀ x∈dat,wholeB x=true:=fun x hx=>by
     obtain ⟨k,hk,rfl⟩:=List.getElem_of_mem hx
     cases hb2:wholeB dat[k] with
     | true=>rfl
     |
      false =>
      rw [okSeg_no hk hb2 (.inr h0)] at hs
      cases hs
    rw [cutM_no hw] at q3
    cases q3
  exact h0
 have hlz2:=hlz ht0
 refine aG ?_
 refine aI ?_ (decide_eq_false (show ¬(↑i:Int)<(↑i:Int) from (by omega)))
 refine ev_fin (go Tryz.tbs_ok 1000 ?_)
 refine aC (T8 (b1) (x6) (x7)) [4] [] fun ⟨x100,x101⟩ h102=>?_
 refine aD (T9 (b1) (x100) (x101)) [2,4,0] [.inl 0] (fun v0_=>[.box (b1) 122 [vP q,vI D.starts,.bq (bd),vI ↑b,vI ↑t],.fact (DiskM q r.fst)]) fun _ h103=>?_
 refine aJ ?_
 refine aJ ?_ (dec_yes (by with_reducible assumption))
 refine aC T10 [4] [] fun _ h104=>?_
 refine aJ ?_ (ne_yes (by with_reducible assumption))
 exact ev_fin ⟨trivial,_,rfl,(),rfl,by trivial,aF [4]⟩
set_option maxHeartbeats 8000000 in
theorem openCut (q:Nat) (D:DK) (hD:okD D) (h:D.down=false) (ho:okN (namesD D)=true) (hs:okSeg (tailsM (namesD D)) (dataD D)=true) (hre:(runD (remL (staleM (namesD D))) D).2=0) (zc:Nat) (hc:cutM (dataD D)=some zc)
 (R:DK × Int) (hR:R=truncD (runD (remL (staleM (namesD D))) D).1 (endM (baseM (namesD D)) (tailsM (namesD D))) (zc:Nat)) (hR2:R.2=0):Triple Tryz.prog 42 [pP q] [DiskM q D] [TabA] (Nat × Option Addr × Nat) (fun (p,C,c)=>.tuple #[pP p,.slice C (payM (dataD D)).length c,.int .i64 0]) (fun _=>True) (fun (p,C,c)=>[WalM p q ⟨D.starts,false,baseM (namesD D),tailsM (namesD D)⟩,DiskM q R.1,Row 9 1 C (payM (dataD D)).length c ((payM (dataD D)).flatMap encS)]):=by
 unfold WalM ptW
 unfold dataD at hc ⊢
 have T1:=startsM q D hD
 have T2:=upM q D hD
 rw [h] at T2
 have T3:=namesM q D hD
 have hfew:=hD.few
 unfold dataD at hs
 obtain ⟨L,hL⟩:∃ L,L=D.files.map nameEG:=⟨_,rfl⟩
 obtain ⟨n,hn⟩:∃ n,n=D.files.length:=⟨_,rfl⟩
 have hnl:n=L.length:=by rw [hL,hn,List.length_map]
 have hLN:namesD D=L:=hL.symm
 rw [hLN] at ho hs
 rw [←hL,←hn] at T3
 have T4:=fun A c=>lookR A L n c hnl (by omega)
 rw [ho] at T4
 have hbt:=last_le L
 obtain ⟨b,hb⟩:∃ b,b=baseM L:=⟨_,rfl⟩
 obtain ⟨t,ht⟩:∃ t,t=tailsM L:=⟨_,rfl⟩
 rw [←hb,←ht] at hbt hs T4
 have T5:=segsT b t (by omega) (by omega)
 obtain ⟨S,hS⟩:∃ S,S=segsM b t:=⟨_,rfl⟩
 rw [←hS] at hs T5
 obtain ⟨m,hm⟩:∃ m,m=S.length:=⟨_,rfl⟩
 rw [←hm] at T5
 have hm1:m≤16:=by rw [hm,hS,hb,ht];have:=segs_few L;omega
 obtain ⟨dat,hdat⟩:∃ dat,dat=S.map fun x=>(readD D x).1:=⟨_,rfl⟩
 rw [←hdat] at hs
 have hdl:dat.length=m:=by rw [hdat,List.length_map,hm]
 have hget:∀ i (hi:i<S.length),dat[i]? = some (readD D S[i]).1:=fun i hi=>by rw [hdat,List.getElem?_map,List.getElem?_eq_getElem hi];rfl
 rw [hLN,←hb,←ht,←hS,←hdat] at hc ⊢
 rw [hLN,←hb,←ht] at hR
 rw [hLN] at hre
 obtain ⟨la,hla⟩:∃ la,la=endM b t:=⟨_,rfl⟩
 have hlz:0<t→¬ la=(⟨#[]⟩:ByteArray):=fun ht q=>by
  have:=congrArg ByteArray.size q
  rw [hla] at this
  unfold endM at this
  rw [if_neg (by omega)] at this
  have h2:=nmB_pos 115 (b+t)
  rw [this] at h2
  exact absurd h2 (by decide)
 obtain ⟨sl,hsl⟩:∃ sl,sl=staleM L:=⟨_,rfl⟩
 rw [←hsl] at T4
 have hsn:sl.length≤1000:=by rw [hsl];have:=stale_len L;omega
 obtain ⟨ns,hns⟩:∃ ns,ns=sl.length:=⟨_,rfl⟩
 rw [←hns] at T4 hsn
 have T8:=fun p A c=>removedF p q D.starts (b:Nat) (t:Nat) A ns c sl hns (by omega)
 have T9:=fun p ia ic=>doA p q D.starts false (b:Nat) (t:Nat) ia ic (remL sl) D hD
 unfold ptW at T9
 have hD1:okD (runD (remL sl) D).1:=runD_ok remL_ok hD
 obtain ⟨r,hr⟩:∃ r,r=runD (remL sl) D:=⟨_,rfl⟩
 rw [←hr] at T9 hD1
 obtain ⟨bd,hbd⟩:∃ bd,bd=(false || badE r.2):=⟨_,rfl⟩
 rw [←hbd] at T9
 obtain ⟨fs,hfs⟩:∃ fs,fs=remL sl:=⟨_,rfl⟩
 rw [←hfs] at T9
 replace T8:∀ p A c,Triple Tryz.prog 73 [pP p,.slice A ns c] [Row 9 1 A ns c (sl.flatMap encS)] [] FnV (fun v=>.func (.func v.1) #[] v.2) (fun _=>True) (fun it=>[IterA p q D.starts (b:Nat) (t:Nat) it fs]):=fun p A c=>by
  rw [hfs]
  exact T8 p A c
 rw [←hsl,←hfs,hfs,←hr] at hre hR
 rw [←hla] at hR
 rw [hre,show (false || badE 0)=false from rfl] at hbd
 rw [hre,hbd] at T9
 have T10:=truncM q r.1 la (zc:Nat) hD1
 rw [←hR,hR2] at T10
 refine aT Tryz.func42 [vP q] [.fact (DiskM q D)] (fun E=>?_) ⟨trivial,trivial⟩
 refine go_fact (Row 9 1 none 0 0 (([]:List ByteArray).flatMap encS)) (Row.nilE _ _) ?_
 refine aG ?_
 refine aC T1 [0] [] fun _ h0=>?_
 refine ev_new fun b1=>?_
 refine aC T2 [0] [] fun _ h2=>?_
 refine aI ?_
 refine aC T3 [0] [] fun ⟨x3,x4⟩ h5=>?_
 refine aC (T4 (x3) (x4)) [] [.inl 0,.inr 3] fun ⟨x6,x7⟩ h8=>?_
 refine ev_new fun b9=>?_
 refine aI ?_
 refine aC T5 [] [.inl 0] fun ⟨x10,x11⟩ h12=>?_
 refine ev_stop (go_loopR [2,3,4,10,11,12,13,14,15,16,17,18,23,30,33,34,40,43,47,48,49,50,51,52,53,54,55,56,57,58,59,60,61,62,63,64,65,66,67,68,69,70,71,72,73,74,75,76,77,78,79,80,81,82] (fun (i,C,z,e,_,cut,en)=>[(10,vL C z e),(11,.va (.string cut)),(12,vI en),(47,vI (i:Nat))]) (fun (_,C,z,e,M,_)=>[(1,.fact (Row 9 1 C z e (M.flatMap encS)))]) (fun (i,_,z,_,M,cut,en)=>i≤m∧z=M.length∧z≤i*2000000∧M=payM (dat.take i)∧cutAt t dat la i cut en) (fun (i,_)=>m-i) ((0,none,0,0,[],⟨#[]⟩,0):Nat × Option Addr × Nat × Nat × List ByteArray × ByteArray × Int) ⟨Nat.zero_le _,rfl,Nat.zero_le _,rfl,.inl ⟨rfl,rfl,fun k x hk=>absurd hk (by omega)⟩⟩ aS (fun x_ h_=>?_))
 obtain ⟨i,C,z,e,M,cut,en⟩:=x_
 obtain ⟨hi,hz,hz2,hM,hup⟩:=h_
 rcases Nat.lt_or_ge i m with him | him
 · have hiS:i<S.length:=by omega
   obtain ⟨x,hx⟩:∃ x,x=(readD D S[i]).1:=⟨_,rfl⟩
   have hxs:=read_size hD S[i]
   have hgx:=hget i hiS
   have T6:=readM q D S[i] hD
   rw [←hx] at hxs hgx T6
   have T7:=wholeT x (by omega)
   have hwl:=whole_len x
   have hzl:z+(wholeM x).1.length≤(i+1)*2000000:=by rw [Nat.succ_mul];omega
   have hzm:z+(wholeM x).1.length≤100000000:=by have:(i+1)*2000000≤16*2000000:=Nat.mul_le_mul_right _ (by omega);omega
   have hst:=payM_step (dat:=dat) (i:=i) (by omega)
   have hxe:dat[i]'(by omega)=x:=by
    have:=hgx
    rw [List.getElem?_eq_getElem (by omega)] at this
    exact Option.some.inj this
   rw [hxe,←hM] at hst
   have hno:wholeB x=false→¬ (i+1<m∨t=0):=fun hw h2=>by
    have:=okSeg_no (t:=t) (dat:=dat) (k:=i) (by omega) (by rw [hxe];exact hw) (by rw [hdl];exact h2)
    rw [hs] at this
    cases this
   refine aG ?_
   refine aJ ?_ (decide_eq_true (show (↑i:Int)<(↑m:Int) from (by omega)))
   refine ev_stop (go_index0 (sz:=1) Tryz.tbs_ok (.inr 6) (i) rfl rfl rfl rfl rfl rfl (by omega) rfl Row.at0 (fun g60 e61=>?_))
   subst e61
   refine aG ?_
   have l62:i<(S).length:=(by omega)
   refine ev_stop (go_loadE Tryz.tbs_ok (.inr 6) (i) 0 rfl rfl rfl rfl (fun _ h=>Row.rd h) (by omega) (fun _=>rfl) (by omega) l62 (by decide) ?_)
   refine aG ?_
   refine aC T6 [0] [] fun _ h63=>?_
   refine aC T7 [] [] fun ⟨x64,x65⟩ h66=>?_
   refine ev_if_lt (fun h67=>?_) (fun h67=>?_)
   refine aG ?_
   refine wO (m-1) ?_
   refine ev_if_lt (fun h68=>?_) (fun h68=>?_)
   refine aG ?_
   rotate_left
   refine aG ?_
   refine ev_if_eq (fun h69=>?_) (fun h69=>?_)
   refine aG ?_
   rotate_left
   refine aG ?_
   refine ev_stop (go_appendE (sz:=1) (M:=[_]) (enc:=encS) Tryz.tbs_ok [1] [] (.inr 7) (M) ((wholeM x).fst) ((M)++((wholeM x).fst)) (z+(wholeM x).fst.length) rfl rfl rfl rfl rfl rfl rfl (by decide) rfl (by decide) (fun _ p=>starH_one.1 p) rfl (fun _ h=>Row.rd h) (by first | rfl | simp) (by first | rfl | omega) (aM (z+(wholeM x).fst.length)) (aN (z+(wholeM x).fst.length)) (fun _ _=>aL) (fun A70 c71 h72=>?_))
   refine aG ?_
   refine wN (i+1) ?_
   refine ev_fin (round_next ((i+1,A70,z+(wholeM x).fst.length,c71,M++(wholeM x).fst,S[i],(↑(wholeM x).snd:Int))) (?_:i+1≤m∧z+(wholeM x).fst.length=(M++(wholeM x).fst).length∧z+(wholeM x).fst.length≤(i+1)*2000000∧M++(wholeM x).fst=payM (List.take (i+1) dat)∧cutAt t dat la (i+1) S[i] (↑(wholeM x).snd:Int)) (show m-(i+1)<m-i from (by omega)) aS)
   rotate_left
   refine aG ?_
   refine ev_stop (go_appendE (sz:=1) (M:=[_]) (enc:=encS) Tryz.tbs_ok [1] [] (.inr 7) (M) ((wholeM x).fst) ((M)++((wholeM x).fst)) (z+(wholeM x).fst.length) rfl rfl rfl rfl rfl rfl rfl (by decide) rfl (by decide) (fun _ p=>starH_one.1 p) rfl (fun _ h=>Row.rd h) (by first | rfl | simp) (by first | rfl | omega) (aM (z+(wholeM x).fst.length)) (aN (z+(wholeM x).fst.length)) (fun _ _=>aL) (fun A73 c74 h75=>?_))
   refine aG ?_
   refine wN (i+1) ?_
   refine ev_fin (round_next ((i+1,A73,z+(wholeM x).fst.length,c74,M++(wholeM x).fst,cut,en)) (?_:i+1≤m∧z+(wholeM x).fst.length=(M++(wholeM x).fst).length∧z+(wholeM x).fst.length≤(i+1)*2000000∧M++(wholeM x).fst=payM (List.take (i+1) dat)∧cutAt t dat la (i+1) cut en) (show m-(i+1)<m-i from (by omega)) aS)
   rotate_left
   · exact absurd (by omega) (hno (whole_no (by omega)))
   · exact absurd (by omega) (hno (whole_no (by omega)))
   · refine ⟨by omega,by rw [List.length_append,hz],hzl,hst.symm,?_⟩
     have hi1:i+1=m:=by omega
     have ht1:0<t:=by omega
     have hc:S[i]=la:=by subst hS;rw [hla];exact seg_last ht1 (by omega) _
     rw [hc]
     exact cutAt_torn hgx (by omega) (whole_no (by omega))
   exact ⟨by omega,by rw [List.length_append,hz],hzl,hst.symm,cutAt_whole hup (by omega) hgx (whole_yes (by omega))⟩
 obtain rfl:i=m:=by omega
 rw [List.take_of_length_le (by omega)] at hM
 rw [←hM,←hz]
 rw [←hdl] at hup
 rcases cutAt_end hup with ⟨_,_,q3⟩ | ⟨q1,z',q2,q3⟩
 · rw [q3] at hc
   cases hc
 rw [q3] at hc
 cases hc
 subst q1 q2
 have ht0:0<t:=by
  rcases Nat.eq_zero_or_pos t with h0 | h0
  · exfalso
    have hw:∀ x∈dat,wholeB x=true:=fun x hx=>by
     obtain ⟨k,hk,rfl⟩:=List.getElem_of_mem hx
     cases hb2:wholeB dat[k] with
     | true=>rfl
     |
      false =>
      rw [okSeg_no hk hb2 (.inr h0)] at hs
      cases hs
    rw [cutM_no hw] at q3
    cases q3
  exact h0
 have hlz2:=hlz ht0
 refine aG ?_
 refine aI ?_ (decide_eq_false (show ¬(↑i:Int)<(↑i:Int) from (by omega)))
 refine ev_fin (go Tryz.tbs_ok 1000 ?_)
 refine aC (T8 (b1) (x6) (x7)) [4] [] fun ⟨x100,x101⟩ h102=>?_
 refine aD (T9 (b1) (x100) (x101)) [2,4,0] [.inl 0] (fun v0_=>[.box (b1) 122 [vP q,vI D.starts,.bl false,vI ↑b,vI ↑t],.fact (DiskM q r.fst)]) fun _ h103=>?_
 refine aJ ?_
 refine aJ ?_ (dec_yes (by with_reducible assumption))
 refine aC T10 [4] [] fun _ h104=>?_
 refine aI ?_
 exact ev_fin ⟨trivial,_,rfl,((b1,C,e)),rfl,by trivial,aF [2,4,1]⟩
set_option maxHeartbeats 8000000 in
theorem openWhole (q:Nat) (D:DK) (hD:okD D) (h:D.down=false) (ho:okN (namesD D)=true) (hs:okSeg (tailsM (namesD D)) (dataD D)=true) (hre:(runD (remL (staleM (namesD D))) D).2=0) (hc:cutM (dataD D)=none):Triple Tryz.prog 42 [pP q] [DiskM q D] [TabA] (Nat × Option Addr × Nat) (fun (p,C,c)=>.tuple #[pP p,.slice C (payM (dataD D)).length c,.int .i64 0]) (fun _=>True) (fun (p,C,c)=>[WalM p q ⟨D.starts,false,baseM (namesD D),tailsM (namesD D)⟩,DiskM q (runD (remL (staleM (namesD D))) D).1,Row 9 1 C (payM (dataD D)).length c ((payM (dataD D)).flatMap encS)]):=by
 unfold WalM ptW
 unfold dataD at hc ⊢
 have T1:=startsM q D hD
 have T2:=upM q D hD
 rw [h] at T2
 have T3:=namesM q D hD
 have hfew:=hD.few
 unfold dataD at hs
 obtain ⟨L,hL⟩:∃ L,L=D.files.map nameEG:=⟨_,rfl⟩
 obtain ⟨n,hn⟩:∃ n,n=D.files.length:=⟨_,rfl⟩
 have hnl:n=L.length:=by rw [hL,hn,List.length_map]
 have hLN:namesD D=L:=hL.symm
 rw [hLN] at ho hs
 rw [←hL,←hn] at T3
 have T4:=fun A c=>lookR A L n c hnl (by omega)
 rw [ho] at T4
 have hbt:=last_le L
 obtain ⟨b,hb⟩:∃ b,b=baseM L:=⟨_,rfl⟩
 obtain ⟨t,ht⟩:∃ t,t=tailsM L:=⟨_,rfl⟩
 rw [←hb,←ht] at hbt hs T4
 have T5:=segsT b t (by omega) (by omega)
 obtain ⟨S,hS⟩:∃ S,S=segsM b t:=⟨_,rfl⟩
 rw [←hS] at hs T5
 obtain ⟨m,hm⟩:∃ m,m=S.length:=⟨_,rfl⟩
 rw [←hm] at T5
 have hm1:m≤16:=by rw [hm,hS,hb,ht];have:=segs_few L;omega
 obtain ⟨dat,hdat⟩:∃ dat,dat=S.map fun x=>(readD D x).1:=⟨_,rfl⟩
 rw [←hdat] at hs
 have hdl:dat.length=m:=by rw [hdat,List.length_map,hm]
 have hget:∀ i (hi:i<S.length),dat[i]? = some (readD D S[i]).1:=fun i hi=>by rw [hdat,List.getElem?_map,List.getElem?_eq_getElem hi];rfl
 rw [hLN] at hre ⊢
 rw [hLN] at hc
 rw [←hb,←ht,←hS,←hdat] at hc ⊢
 obtain ⟨la,hla⟩:∃ la,la=endM b t:=⟨_,rfl⟩
 have hlz:0<t→¬ la=(⟨#[]⟩:ByteArray):=fun ht q=>by
  have:=congrArg ByteArray.size q
  rw [hla] at this
  unfold endM at this
  rw [if_neg (by omega)] at this
  have h2:=nmB_pos 115 (b+t)
  rw [this] at h2
  exact absurd h2 (by decide)
 obtain ⟨sl,hsl⟩:∃ sl,sl=staleM L:=⟨_,rfl⟩
 rw [←hsl] at T4
 have hsn:sl.length≤1000:=by rw [hsl];have:=stale_len L;omega
 obtain ⟨ns,hns⟩:∃ ns,ns=sl.length:=⟨_,rfl⟩
 rw [←hns] at T4 hsn
 have T8:=fun p A c=>removedF p q D.starts (b:Nat) (t:Nat) A ns c sl hns (by omega)
 have T9:=fun p ia ic=>doA p q D.starts false (b:Nat) (t:Nat) ia ic (remL sl) D hD
 unfold ptW at T9
 have hD1:okD (runD (remL sl) D).1:=runD_ok remL_ok hD
 obtain ⟨r,hr⟩:∃ r,r=runD (remL sl) D:=⟨_,rfl⟩
 rw [←hr] at T9 hD1
 obtain ⟨bd,hbd⟩:∃ bd,bd=(false || badE r.2):=⟨_,rfl⟩
 rw [←hbd] at T9
 obtain ⟨fs,hfs⟩:∃ fs,fs=remL sl:=⟨_,rfl⟩
 rw [←hfs] at T9
 replace T8:∀ p A c,Triple Tryz.prog 73 [pP p,.slice A ns c] [Row 9 1 A ns c (sl.flatMap encS)] [] FnV (fun v=>.func (.func v.1) #[] v.2) (fun _=>True) (fun it=>[IterA p q D.starts (b:Nat) (t:Nat) it fs]):=fun p A c=>by
  rw [hfs]
  exact T8 p A c
 rw [←hsl,←hfs,hfs,←hr] at hre ⊢
 rw [hre,show (false || badE 0)=false from rfl] at hbd
 rw [hre,hbd] at T9
 refine aT Tryz.func42 [vP q] [.fact (DiskM q D)] (fun E=>?_) ⟨trivial,trivial⟩
 refine go_fact (Row 9 1 none 0 0 (([]:List ByteArray).flatMap encS)) (Row.nilE _ _) ?_
 refine aG ?_
 refine aC T1 [0] [] fun _ h0=>?_
 refine ev_new fun b1=>?_
 refine aC T2 [0] [] fun _ h2=>?_
 refine aI ?_
 refine aC T3 [0] [] fun ⟨x3,x4⟩ h5=>?_
 refine aC (T4 (x3) (x4)) [] [.inl 0,.inr 3] fun ⟨x6,x7⟩ h8=>?_
 refine ev_new fun b9=>?_
 refine aI ?_
 refine aC T5 [] [.inl 0] fun ⟨x10,x11⟩ h12=>?_
 refine ev_stop (go_loopR [2,3,4,10,11,12,13,14,15,16,17,18,23,30,33,34,40,43,47,48,49,50,51,52,53,54,55,56,57,58,59,60,61,62,63,64,65,66,67,68,69,70,71,72,73,74,75,76,77,78,79,80,81,82] (fun (i,C,z,e,_,cut,en)=>[(10,vL C z e),(11,.va (.string cut)),(12,vI en),(47,vI (i:Nat))]) (fun (_,C,z,e,M,_)=>[(1,.fact (Row 9 1 C z e (M.flatMap encS)))]) (fun (i,_,z,_,M,cut,en)=>i≤m∧z=M.length∧z≤i*2000000∧M=payM (dat.take i)∧cutAt t dat la i cut en) (fun (i,_)=>m-i) ((0,none,0,0,[],⟨#[]⟩,0):Nat × Option Addr × Nat × Nat × List ByteArray × ByteArray × Int) ⟨Nat.zero_le _,rfl,Nat.zero_le _,rfl,.inl ⟨rfl,rfl,fun k x hk=>absurd hk (by omega)⟩⟩ aS (fun x_ h_=>?_))
 obtain ⟨i,C,z,e,M,cut,en⟩:=x_
 obtain ⟨hi,hz,hz2,hM,hup⟩:=h_
 rcases Nat.lt_or_ge i m with him | him
 · have hiS:i<S.length:=by omega
   obtain ⟨x,hx⟩:∃ x,x=(readD D S[i]).1:=⟨_,rfl⟩
   have hxs:=read_size hD S[i]
   have hgx:=hget i hiS
   have T6:=readM q D S[i] hD
   rw [←hx] at hxs hgx T6
   have T7:=wholeT x (by omega)
   have hwl:=whole_len x
   have hzl:z+(wholeM x).1.length≤(i+1)*2000000:=by rw [Nat.succ_mul];omega
   have hzm:z+(wholeM x).1.length≤100000000:=by have:(i+1)*2000000≤16*2000000:=Nat.mul_le_mul_right _ (by omega);omega
   have hst:=payM_step (dat:=dat) (i:=i) (by omega)
   have hxe:dat[i]'(by omega)=x:=by
    have:=hgx
    rw [List.getElem?_eq_getElem (by omega)] at this
    exact Option.some.inj this
   rw [hxe,←hM] at hst
   have hno:wholeB x=false→¬ (i+1<m∨t=0):=fun hw h2=>by
    have:=okSeg_no (t:=t) (dat:=dat) (k:=i) (by omega) (by rw [hxe];exact hw) (by rw [hdl];exact h2)
    rw [hs] at this
    cases this
   refine aG ?_
   refine aJ ?_ (decide_eq_true (show (↑i:Int)<(↑m:Int) from (by omega)))
   refine ev_stop (go_index0 (sz:=1) Tryz.tbs_ok (.inr 6) (i) rfl rfl rfl rfl rfl rfl (by omega) rfl Row.at0 (fun g60 e61=>?_))
   subst e61
   refine aG ?_
   have l62:i<(S).length:=(by omega)
   refine ev_stop (go_loadE Tryz.tbs_ok (.inr 6) (i) 0 rfl rfl rfl rfl (fun _ h=>Row.rd h) (by omega) (fun _=>rfl) (by omega) l62 (by decide) ?_)
   refine aG ?_
   refine aC T6 [0] [] fun _ h63=>?_
   refine aC T7 [] [] fun ⟨x64,x65⟩ h66=>?_
   refine ev_if_lt (fun h67=>?_) (fun h67=>?_)
   refine aG ?_
   refine wO (m-1) ?_
   refine ev_if_lt (fun h68=>?_) (fun h68=>?_)
   refine aG ?_
   rotate_left
   refine aG ?_
   refine ev_if_eq (fun h69=>?_) (fun h69=>?_)
   refine aG ?_
   rotate_left
   refine aG ?_
   refine ev_stop (go_appendE (sz:=1) (M:=[_]) (enc:=encS) Tryz.tbs_ok [1] [] (.inr 7) (M) ((wholeM x).fst) ((M)++((wholeM x).fst)) (z+(wholeM x).fst.length) rfl rfl rfl rfl rfl rfl rfl (by decide) rfl (by decide) (fun _ p=>starH_one.1 p) rfl (fun _ h=>Row.rd h) (by first | rfl | simp) (by first | rfl | omega) (aM (z+(wholeM x).fst.length)) (aN (z+(wholeM x).fst.length)) (fun _ _=>aL) (fun A70 c71 h72=>?_))
   refine aG ?_
   refine wN (i+1) ?_
   refine ev_fin (round_next ((i+1,A70,z+(wholeM x).fst.length,c71,M++(wholeM x).fst,S[i],(↑(wholeM x).snd:Int))) (?_:i+1≤m∧z+(wholeM x).fst.length=(M++(wholeM x).fst).length∧z+(wholeM x).fst.length≤(i+1)*2000000∧M++(wholeM x).fst=payM (List.take (i+1) dat)∧cutAt t dat la (i+1) S[i] (↑(wholeM x).snd:Int)) (show m-(i+1)<m-i from (by omega)) aS)
   rotate_left
   refine aG ?_
   refine ev_stop (go_appendE (sz:=1) (M:=[_]) (enc:=encS) Tryz.tbs_ok [1] [] (.inr 7) (M) ((wholeM x).fst) ((M)++((wholeM x).fst)) (z+(wholeM x).fst.length) rfl rfl rfl rfl rfl rfl rfl (by decide) rfl (by decide) (fun _ p=>starH_one.1 p) rfl (fun _ h=>Row.rd h) (by first | rfl | simp) (by first | rfl | omega) (aM (z+(wholeM x).fst.length)) (aN (z+(wholeM x).fst.length)) (fun _ _=>aL) (fun A73 c74 h75=>?_))
   refine aG ?_
   refine wN (i+1) ?_
   refine ev_fin (round_next ((i+1,A73,z+(wholeM x).fst.length,c74,M++(wholeM x).fst,cut,en)) (?_:i+1≤m∧z+(wholeM x).fst.length=(M++(wholeM x).fst).length∧z+(wholeM x).fst.length≤(i+1)*2000000∧M++(wholeM x).fst=payM (List.take (i+1) dat)∧cutAt t dat la (i+1) cut en) (show m-(i+1)<m-i from (by omega)) aS)
   rotate_left
   · exact absurd (by omega) (hno (whole_no (by omega)))
   · exact absurd (by omega) (hno (whole_no (by omega)))
   · refine ⟨by omega,by rw [List.length_append,hz],hzl,hst.symm,?_⟩
     have hi1:i+1=m:=by omega
     have ht1:0<t:=by omega
     have hc:S[i]=la:=by subst hS;rw [hla];exact seg_last ht1 (by omega) _
     rw [hc]
     exact cutAt_torn hgx (by omega) (whole_no (by omega))
   exact ⟨by omega,by rw [List.length_append,hz],hzl,hst.symm,cutAt_whole hup (by omega) hgx (whole_yes (by omega))⟩
 obtain rfl:i=m:=by omega
 rw [List.take_of_length_le (by omega)] at hM
 rw [←hM,←hz]
 rw [←hdl] at hup
 rcases cutAt_end hup with ⟨q1,q2,q3⟩ | ⟨q1,z',q2,q3⟩
 · subst q1 q2
   refine aG ?_
   refine aI ?_ (decide_eq_false (show ¬(↑i:Int)<(↑i:Int) from (by omega)))
   refine ev_fin (go Tryz.tbs_ok 1000 ?_)
   refine aC (T8 (b1) (x6) (x7)) [4] [] fun ⟨x100,x101⟩ h102=>?_
   refine aD (T9 (b1) (x100) (x101)) [2,4,0] [.inl 0] (fun v0_=>[.box (b1) 122 [vP q,vI D.starts,.bl false,vI ↑b,vI ↑t],.fact (DiskM q r.fst)]) fun _ h103=>?_
   refine aJ (aI (aI ?_))
   exact ev_fin ⟨trivial,_,rfl,((b1,C,e)),rfl,by trivial,aF [2,4,1]⟩
 rw [q3] at hc
 cases hc
theorem openOk (q:Nat) (D:DK) (hD:okD D) (h:(openD D).2.1=0):Triple Tryz.prog 42 [pP q] [DiskM q D] [TabA] (Nat × Option Addr × Nat) (fun (p,C,c)=>.tuple #[pP p,.slice C (openD D).2.2.2.length c,.int .i64 0]) (fun _=>True) (fun (p,C,c)=>[WalM p q (openD D).2.2.1,DiskM q (openD D).1,Row 9 1 C (openD D).2.2.2.length c ((openD D).2.2.2.flatMap encS)]):=by
 unfold openD at h ⊢
 cases hd:D.down with
 |
  true =>
  rw [hd,if_pos rfl] at h
  cases h
 |
  false =>
  rw [hd,if_neg (by decide)] at h
  rw [if_neg (by decide)]
  cases ho:okN (namesD D) with
  |
   false =>
   rw [ho,if_pos (.inl rfl)] at h
   cases h
  |
   true =>
   cases hs:okSeg (tailsM (namesD D)) (dataD D) with
   |
    false =>
    rw [hs,if_pos (.inr rfl)] at h
    cases h
   |
    true =>
    rw [ho,hs,if_neg (by decide)] at h
    rw [if_neg (by decide)]
    by_cases hr:(runD (remL (staleM (namesD D))) D).2=0
    · rw [if_neg (by simpa using hr)] at h ⊢
      cases hc:cutM (dataD D) with
      | none=>exact openWhole q D hD hd ho hs hr hc
      |
       some z =>
       rw [hc] at h
       exact openCut q D hD hd ho hs hr z hc _ rfl h
    rw [if_pos hr] at h
    exact absurd h hr
def tB:ByteArray:=⟨#[116]⟩
def ckL3 (F:ByteArray) (n:Nat):List (DK→DK × Int):=[fun D=>appD D tB F,fun D=>syncD D tB,fun D=>renD D tB (nmB 99 n)]
def ckW (W:WK) (D:DK) (ps:List ByteArray):WK × DK × Int :=
 if askW W.s W.bad D≠0 then (W,D,askW W.s W.bad D)
 else if (framedM ps).2≠0 then (W,D,(framedM ps).2)
 else if 999999999≤W.b+W.t then (W,D,40)
 else
  let r:=runD (ckL3 (framedM ps).1 (W.b+W.t+1)) D
  if r.2≠0 then (⟨W.s,W.bad || badE r.2,W.b,W.t⟩,r.1,r.2)
  else
   let r2:=runD (remL (staleM (namesD r.1))) r.1
   (⟨W.s,W.bad || badE r2.2,baseM (namesD r.1),tailsM (namesD r.1)⟩,r2.1,r2.2)
theorem ckL3_ok {F:ByteArray} {n:Nat}:∀ f∈ckL3 F n,∀ D,okD D→okD (f D).1:=fun f hf D h=>by
 simp only [ckL3,List.mem_cons,List.not_mem_nil,or_false] at hf
 rcases hf with rfl | rfl | rfl
 · exact app_ok h _ _
 · exact sync_ok h _
 exact ren_ok h _ _
theorem renC (p q bw bn:Nat) (s:Int) (bad:Bool) (b t:Int) (n:Nat) (hn:n≤999999999) (D:DK) (hD:okD D) :
 Triple Tryz.prog 70 [pP bw,pP bn] [Pt bw 60 [pP p],Pt bn 3 [.int .i64 (n:Nat)],ptW p q s bad b t,DiskM q D] [TabA] Unit (fun _=>.int .i64 (renD D tB (nmB 99 n)).2) (fun _=>True) (fun _=>[Pt bw 60 [pP p],Pt bn 3 [.int .i64 (n:Nat)],ptW p q s bad b t,DiskM q (renD D tB (nmB 99 n)).1]):=by
 have T1:Triple Tryz.prog 71 [pP q,.string ⟨#[116]⟩,.string (⟨#[99]⟩++decB n)] [DiskM q D] [] Unit (fun _=>.int .i64 (renD D tB (nmB 99 n)).2) (fun _=>True) (fun _=>[DiskM q (renD D tB (nmB 99 n)).1]):=renM q D tB (nmB 99 n) hD
 have T2:=itoaT n (by omega)
 have hz:=decB_size n (by omega)
 have h99:(⟨#[99]⟩:ByteArray).size=1:=rfl
 obtain ⟨R,hR⟩:∃ R,R=renD D tB (nmB 99 n):=⟨_,rfl⟩
 rw [←hR] at T1 ⊢
 refine aT Tryz.func70 [.pt 0 bw 0,.pt 1 bn 0] [.box bw 60 [.pt 2 p 0],.box bn 3 [vI (n:Nat)],.box p 122 [vP q,vI s,.bq bad,vI b,vI t],.fact (DiskM q D)] (fun E=>?_) ⟨rfl,rfl,trivial⟩
 refine aG ?_
 refine ev_stop (go_draw Tryz.tbs_ok false [0,1,2] [(0,true),(1,true),(2,true),(3,true),(4,true),(5,false),(6,false),(7,false),(8,false)] rfl ?_)
 refine aG (aE ?_)
 refine aC T2 [] [.inl 0] fun _ h0=>?_
 refine aE ?_
 refine ev_stop (go_bin (.va _) trivial rfl rfl rfl rfl rfl (by decide) (by decide) (fun w=>cat_run (by omega) w) ?_)
 refine aG (aE ?_)
 refine aC T1 [3] [] fun _ h1=>?_
 refine aE (aK ?_)
 exact ev_fin ⟨trivial,_,rfl,(),rfl,by trivial,aF [0,1,2,3]⟩
theorem one3 (p q:Nat) (s b t:Int) (bx bw bn:Nat) (n:Nat) (hn:n≤999999999) (a1:FuncId) (c1:Array Value) (a2:FuncId) (c2:Array Value) (f1 f2 f3:DK→DK × Int) (hf3:f3=fun D=>renD D tB (nmB 99 n)) :
 Triple Tryz.prog 61 [.slice (some ⟨bx,0,none⟩) 3 3] [ChgA p q s b t (a1,c1) f1,ChgA p q s b t (a2,c2) f2,Pt bn 3 [.int .i64 (n:Nat)],Pt bx 43 [.func (.func a1) #[] c1,.func (.func a2) #[] c2,.func (.func 70) #[] #[pP bw,pP bn]]] [] FnV (fun v=>.func (.func v.1) #[] v.2) (fun _=>True) (fun it=>[IterK p q s b t (Pt bw 60 [pP p]) it [f1,f2,f3]]):=by
 subst hf3
 refine Triple.pre (α:={ C:Asn × Asn // ChgOf p q s b t C.1 (fnV (a1,c1)) f1∧ChgOf p q s b t C.2 (fnV (a2,c2)) f2 }) (M:=fun C=>[C.1.1,C.1.2,Pt bn 3 [.int .i64 (n:Nat)],Pt bx 43 [.func (.func a1) #[] c1,.func (.func a2) #[] c2,.func (.func 70) #[] #[pP bw,pP bn]]]) (fun h z=>?_) fun ⟨(C1,C2),h1,h2⟩=>?_
 · obtain ⟨C1,z⟩:=starH_ex.1 z
   obtain ⟨h1,z⟩:=starH_pure.1 (starH_star.1 z)
   obtain ⟨C2,z⟩:=starH_ex.1 (starH_swap z)
   obtain ⟨h2,z⟩:=starH_pure.1 (starH_star.1 z)
   exact ⟨⟨(C1,C2),h1,h2⟩,starH_swap z⟩
 refine ((oneF (some ⟨bx,0,none⟩) 3 3).frame _).imp fun bs _=>⟨(141,#[pP bs]),rfl,trivial,fun h z=>starH_one.2 ?_⟩
 obtain ⟨C,hC⟩:∃ C,C=Asn.star [C1,C2,Pt bw 60 [pP p],Pt bn 3 [.int .i64 (n:Nat)]]:=⟨_,rfl⟩
 have g1:ChgOf p q s b t C (fnV (a1,c1)) f1:=h1.wide (R:=Asn.star [C2,Pt bw 60 [pP p],Pt bn 3 [.int .i64 (n:Nat)]]) fun h=>by
  rw [hC]
  exact ⟨fun z=>starH_tail (fun _ z=>starH_one.2 (star_holds.2 z)) (star_holds.1 z),fun z=>star_holds.2 (starH_tail (fun _ z=>star_holds.1 (starH_one.1 z)) z)⟩
 have g2:ChgOf p q s b t C (fnV (a2,c2)) f2:=h2.wide (R:=Asn.star [C1,Pt bw 60 [pP p],Pt bn 3 [.int .i64 (n:Nat)]]) fun h=>by
  rw [hC]
  exact ⟨fun z=>starH_tail (fun _ z=>starH_one.2 (star_holds.2 z)) (starH_swap (star_holds.1 z)),fun z=>star_holds.2 (starH_swap (starH_tail (fun _ z=>star_holds.1 (starH_one.1 z)) z))⟩
 have g3:ChgOf p q s b t C (.func (.func 70) #[] #[pP bw,pP bn]) (fun D=>renD D tB (nmB 99 n)):=by
  refine ChgOf.wide (C:=Asn.star [Pt bw 60 [pP p],Pt bn 3 [.int .i64 (n:Nat)]]) (R:=Asn.star [C1,C2]) ⟨_,_,rfl,show HasFn 70 from ⟨by decide,by decide,by decide⟩,fun D h=>ren_ok h _ _,fun bad D hD=>?_⟩ fun h=>?_
  · exact (renC p q bw bn s bad b t n hn D hD).shape (fun h z=>starH_star.1 z) (fun _ h z=>starH_star.2 z)
  rw [hC]
  constructor
  · intro z
    exact starH_star.2 (starH_perm (l:=Asn.star [C1,C2]::[Pt bw 60 [pP p],Pt bn 3 [.int .i64 (n:Nat)]]) ((List.Perm.swap _ _ _).trans (.cons _ (.swap _ _ _))) (starH_star.2 (star_holds.1 z)))
  intro z
  exact star_holds.2 ((starH_star (l:=[C1,C2])).1 (starH_perm (l:=[Pt bw 60 [pP p],Pt bn 3 [.int .i64 (n:Nat)]]++[Asn.star [C1,C2]]) ((List.Perm.cons _ (.swap _ _ _)).trans (.swap _ _ _)) (starH_star.1 z)))
 have hI:=valuesI p q bs s b t (some ⟨bx,0,none⟩) 3 3 [(a1,c1),(a2,c2),(70,#[pP bw,pP bn])] [f1,f2,fun D=>renD D tB (nmB 99 n)] C rfl (by decide) rfl (fun i v' f' e1 e2=>by
  match i with
  | 0=>cases e1;cases e2;exact g1
  | 1=>cases e1;cases e2;exact g2
  | 2=>cases e1;cases e2;exact g3
  | i+3=>simp at e1)
 obtain ⟨Rw,hRw⟩:∃ Rw,Rw=Row 43 1 (some ⟨bx,0,none⟩) 3 3 ([(a1,c1),(a2,c2),((70:FuncId),(#[pP bw,pP bn]:Array Value))].flatMap encV):=⟨_,rfl⟩
 rw [←hRw] at hI
 refine ⟨Asn.star [Pt bs 160 [.slice (some ⟨bx,0,none⟩) 3 3],Rw,C1,C2,Pt bn 3 [.int .i64 (n:Nat)]],star_holds.2 (starH_pure.2 ⟨hI.shape fun h=>?_,?_⟩)⟩
 · constructor
   · intro z
     have z1:=(starH_star (l:=[_,_,_,_,_])).1 (star_holds.1 z)
     refine star_holds.2 (starH_tail (fun _ z=>starH_tail (fun _ z=>?_) z) z1)
     rw [hC]
     exact starH_one.2 (star_holds.2 (starH_tail (fun _ z=>starH_tail (fun _ z=>starH_swap z) z) z))
   intro z
   have z1:=star_holds.1 z
   rw [hC] at z1
   refine star_holds.2 ((starH_star (l:=[_,_,_,_,_])).2 (starH_tail (fun _ z=>starH_tail (fun _ z=>?_) z) z1))
   exact starH_tail (fun _ z=>starH_tail (fun _ z=>starH_swap z) z) (star_holds.1 (starH_one.1 z))
 refine starH_star.2 ?_
 have z1:Asn.starH [Pt bs 160 [.slice (some ⟨bx,0,none⟩) 3 3],C1,C2,Pt bn 3 [.int .i64 (n:Nat)],Rw] h:=starH_tail (fun _ z=>starH_tail (fun _ z=>starH_tail (fun _ z=>starH_tail (fun _ z=>starH_one.2 (by
  rw [hRw]
  exact Pt.row (starH_one.1 z) (n:=3) rfl (by decide))) z) z) z) z
 refine starH_perm ?_ z1
 refine .cons _ ?_
 exact List.perm_append_comm (l₁:=[C1,C2,Pt bn 3 [.int .i64 (n:Nat)]]) (l₂:=[Rw])
abbrev CkT (p q:Nat) (A:Option Addr) (np cp:Nat) (ps:List ByteArray) (s:Int) (bad:Bool) (b t:Nat) (D:DK) (R:WK × DK × Int):Prop :=
 Triple Tryz.prog 39 [pP p,.slice A np cp] [Pt p 122 [pP q,.int .i64 s,.bool bad,.int .i64 (b:Nat),.int .i64 (t:Nat)],DiskM q D] [TabA,Rd 1 A np (ps.flatMap encS)] Unit (fun _=>.int .i64 R.2.2) (fun _=>True) (fun _=>[Pt p 122 [pP q,.int .i64 R.1.s,.bool R.1.bad,.int .i64 (R.1.b:Nat),.int .i64 (R.1.t:Nat)],DiskM q R.2.1])
set_option maxHeartbeats 8000000 in
theorem ckWT (p q:Nat) (W:WK) (D:DK) (A:Option Addr) (ps:List ByteArray) (np cp:Nat) (hp:np=ps.length) (hp1:np≤10000) (hp2:∀ p∈ps,p.size≤900000000) (hD:okD D) (hW:okW W) :
 Triple Tryz.prog 39 [pP p,.slice A np cp] [WalM p q W,DiskM q D] [TabA,Rd 1 A np (ps.flatMap encS)] Unit (fun _=>.int .i64 (ckW W D ps).2.2) (fun _=>True) (fun _=>[WalM p q (ckW W D ps).1,DiskM q (ckW W D ps).2.1]):=by
 obtain ⟨s,bad,b,t⟩:=W
 replace hW:b+t≤999999999:=hW
 have TA:=askT p q s bad b t D hD
 have TF:=framedT A ps np cp hp hp1 hp2
 obtain ⟨R,hR⟩:∃ R,R=ckW ⟨s,bad,b,t⟩ D ps:=⟨_,rfl⟩
 unfold WalM ptW
 unfold ptW at TA
 rw [←hR]
 show CkT p q A np cp ps s bad b t D R
 unfold ckW at hR
 dsimp only at hR
 rcases ask_cases s bad D with h | h
 · rw [h] at TA hR
   rw [if_neg (by decide)] at hR
   by_cases hf:(framedM ps).2=0
   · rw [hf] at TF hR
     rw [if_neg (by decide)] at hR
     have hF:=framed_size hf
     obtain ⟨F,hFe⟩:∃ F,F=(framedM ps).1:=⟨_,rfl⟩
     rw [←hFe] at hR hF TF
     have hF2:F.size≤100000000:=by rw [←hp] at hF;omega
     have TL:=Proofs.YtnbaejindfillaaGreatDoor.lastT b t (by omega)
     by_cases h99:999999999≤b+t
     · rw [if_pos h99] at hR
       subst hR
       refine aT Tryz.func39 [.pt 0 p 0,vL A np cp] [.box p 122 [vP q,vI s,.bq bad,vI (b:Nat),vI (t:Nat)],.fact (DiskM q D)] (fun E=>?_) ⟨rfl,trivial,trivial⟩
       refine aG ?_
       refine ev_new fun b0=>?_
       refine aD TA [0,1] [] (fun v0_=>[.box (p) 122 [vP q,vI s,.bq (bad),vI ↑b,vI ↑t],.fact (DiskM q D)]) fun _ h1=>?_
       refine aI ?_
       refine aC TF [] [.inl 1] fun _ h2=>?_
       refine aI ?_
       refine aC TL [] [] fun _ h3=>?_
       refine aJ ?_ (decide_eq_true (show (↑(b+t):Int) ≥ 999999999 from (by omega)))
       exact ev_fin ⟨trivial,_,rfl,(),rfl,by trivial,aF [0,1]⟩
     rw [if_neg h99] at hR
     obtain ⟨f1,hf1⟩:∃ f:DK→DK × Int,f=fun D=>appD D tB F:=⟨_,rfl⟩
     obtain ⟨f2,hf2⟩:∃ f:DK→DK × Int,f=fun D=>syncD D tB:=⟨_,rfl⟩
     obtain ⟨f3,hf3⟩:∃ f:DK→DK × Int,f=fun D=>renD D tB (nmB 99 (b+t+1)):=⟨_,rfl⟩
     have hD1:okD (runD (ckL3 F (b+t+1)) D).1:=runD_ok ckL3_ok hD
     have he:ckL3 F (b+t+1)=[f1,f2,f3]:=by rw [hf1,hf2,hf3];rfl
     rw [he] at hR hD1
     have TP1:Triple Tryz.prog 62 [pP p,.string ⟨#[116]⟩,.string F] [] [] FnV (fun v=>.func (.func v.1) #[] v.2) (fun _=>True) (fun v=>[ChgA p q s b t v f1]):=by
      rw [hf1]
      exact putF p q s b t tB F hF2
     have TP2:Triple Tryz.prog 63 [pP p,.string ⟨#[116]⟩] [] [] FnV (fun v=>.func (.func v.1) #[] v.2) (fun _=>True) (fun v=>[ChgA p q s b t v f2]):=by
      rw [hf2]
      exact syncF p q s b t tB
     have TO:=fun bx bw bn a1 c1 a2 c2=>one3 p q s b t bx bw bn (b+t+1) (by omega) a1 c1 a2 c2 f1 f2 f3 hf3
     have TD:=fun ia ic bw=>doK p q s bad b t (Pt bw 60 [pP p]) ia ic [f1,f2,f3] D hD
     unfold ptW at TD
     obtain ⟨G,hG⟩:∃ G,G=runD [f1,f2,f3] D:=⟨_,rfl⟩
     rw [←hG] at TD hR hD1
     by_cases hg:G.2=0
     · rw [hg,bad_zero] at TD
       rw [if_neg (by simpa using hg)] at hR
       have TN:=namesM q G.1 hD1
       have hfew:=hD1.few
       obtain ⟨L,hL⟩:∃ L,L=G.1.files.map nameEG:=⟨_,rfl⟩
       obtain ⟨n,hn⟩:∃ n,n=G.1.files.length:=⟨_,rfl⟩
       have hnl:n=L.length:=by rw [hL,hn,List.length_map]
       have hLN:namesD G.1=L:=hL.symm
       rw [hLN] at hR
       rw [←hL,←hn] at TN
       have TK:=fun A c=>lookR A L n c hnl (by omega)
       obtain ⟨o,ho⟩:∃ o,o=okN L:=⟨_,rfl⟩
       rw [←ho] at TK
       obtain ⟨b',hb'⟩:∃ b',b'=baseM L:=⟨_,rfl⟩
       obtain ⟨t',ht'⟩:∃ t',t'=tailsM L:=⟨_,rfl⟩
       obtain ⟨sl,hsl⟩:∃ sl,sl=staleM L:=⟨_,rfl⟩
       have hsn:sl.length≤1000:=by rw [hsl];have:=stale_len L;omega
       rw [←hb',←ht',←hsl] at TK hR
       obtain ⟨ns,hns⟩:∃ ns,ns=sl.length:=⟨_,rfl⟩
       rw [←hns] at TK hsn
       obtain ⟨fs,hfs⟩:∃ fs,fs=remL sl:=⟨_,rfl⟩
       have T8:∀ A c,Triple Tryz.prog 73 [pP p,.slice A ns c] [Row 9 1 A ns c (sl.flatMap encS)] [] FnV (fun v=>.func (.func v.1) #[] v.2) (fun _=>True) (fun it=>[IterA p q s (b':Nat) (t':Nat) it fs]):=fun A c=>by
        rw [hfs]
        exact removedF p q s (b':Nat) (t':Nat) A ns c sl hns (by omega)
       have T9:=fun ia ic=>doA p q s bad (b':Nat) (t':Nat) ia ic fs G.1 hD1
       unfold ptW at T9
       rw [←hfs] at hR
       obtain ⟨H,hH⟩:∃ H,H=runD fs G.1:=⟨_,rfl⟩
       rw [←hH] at T9 hR
       obtain ⟨bd,hbd⟩:∃ bd,bd=(bad || badE H.2):=⟨_,rfl⟩
       rw [←hbd] at T9 hR
       subst hR
       refine aT Tryz.func39 [.pt 0 p 0,vL A np cp] [.box p 122 [vP q,vI s,.bq bad,vI (b:Nat),vI (t:Nat)],.fact (DiskM q D)] (fun E=>?_) ⟨rfl,trivial,trivial⟩
       refine aG ?_
       refine ev_new fun b0=>?_
       refine aD TA [0,1] [] (fun v0_=>[.box (p) 122 [vP q,vI s,.bq (bad),vI ↑b,vI ↑t],.fact (DiskM q D)]) fun _ h1=>?_
       refine aI ?_
       refine aC TF [] [.inl 1] fun _ h2=>?_
       refine aI ?_
       refine aC TL [] [] fun _ h3=>?_
       refine aI ?_ (decide_eq_false (show ¬(↑(b+t):Int) ≥ 999999999 from (by omega)))
       refine aC TL [] [] fun _ h4=>?_
       refine wN (b+t+1) ?_
       refine ev_new fun b5=>?_
       refine ev_stop (go_draw Tryz.tbs_ok false [2] [(0,true),(1,true),(2,true),(4,true),(6,true),(3,false),(5,false),(7,false),(8,false),(9,false),(10,false)] rfl ?_)
       refine aG (aE ?_)
       refine aC TP1 [] [] fun ⟨x6,x7⟩ h8=>?_
       refine aE ?_
       refine aC TP2 [] [] fun ⟨x9,x10⟩ h11=>?_
       refine aE ?_
       refine ev_new fun b12=>?_
       refine aE ?_
       refine aC (TO (b12) (b0) (b5) (x6) (x7) (x9) (x10)) [4,5,3,6] [] fun ⟨x13,x14⟩ h15=>?_
       refine aE ?_
       refine ev_call (TD (x13) (x14) (b0)) [0,1,2,4] [.inl 0] (fun v0_=>[.box (p) 122 [vP q,vI s,.bq (bad),vI ↑b,vI ↑t],.fact (DiskM q G.fst),.box (b0) 60 [SV.pt 0 p 0]]) rfl rfl (by decide) rfl (by simp) (fun _=>rfl) (fun _=>(newsOk_box (by repeat (first | exact trivial | refine ⟨rfl,?_⟩ | refine ⟨trivial,?_⟩)) (newsOk_fact (newsOk_box (by repeat (first | exact trivial | refine ⟨rfl,?_⟩ | refine ⟨trivial,?_⟩)) (newsOk_nil _))))) (fun _=>aL) (fun _ h16=>?_)
       refine aG (aE (aK (aI ?_)))
       refine aC TN [1] [] fun ⟨x17,x18⟩ h19=>?_
       refine aC (TK (x17) (x18)) [] [.inl 0,.inr 7] fun ⟨x20,x21⟩ h22=>?_
       refine ev_new fun b23=>?_
       refine ev_stop (go_draw Tryz.tbs_ok false [2] [(0,true),(1,true),(2,true),(3,false),(4,false),(5,false)] rfl ?_)
       refine aG (aE ?_)
       refine aC (T8 (x20) (x21)) [8] [] fun ⟨x24,x25⟩ h26=>?_
       refine aE ?_
       refine aD (T9 (x24) (x25)) [0,8,1] [.inl 0] (fun v0_=>[.box (p) 122 [vP q,vI s,.bq (bd),vI ↑b',vI ↑t'],.fact (DiskM q H.fst)]) fun _ h27=>?_
       refine aE (aK ?_)
       exact ev_fin ⟨trivial,_,rfl,(),rfl,by trivial,aF [0,8]⟩
     rw [if_pos hg] at hR
     obtain ⟨bd,hbd⟩:∃ bd,bd=(bad || badE G.2):=⟨_,rfl⟩
     rw [←hbd] at TD hR
     subst hR
     refine aT Tryz.func39 [.pt 0 p 0,vL A np cp] [.box p 122 [vP q,vI s,.bq bad,vI (b:Nat),vI (t:Nat)],.fact (DiskM q D)] (fun E=>?_) ⟨rfl,trivial,trivial⟩
     refine aG ?_
     refine ev_new fun b0=>?_
     refine aD TA [0,1] [] (fun v0_=>[.box (p) 122 [vP q,vI s,.bq (bad),vI ↑b,vI ↑t],.fact (DiskM q D)]) fun _ h1=>?_
     refine aI ?_
     refine aC TF [] [.inl 1] fun _ h2=>?_
     refine aI ?_
     refine aC TL [] [] fun _ h3=>?_
     refine aI ?_ (decide_eq_false (show ¬(↑(b+t):Int) ≥ 999999999 from (by omega)))
     refine aC TL [] [] fun _ h4=>?_
     refine wN (b+t+1) ?_
     refine ev_new fun b5=>?_
     refine ev_stop (go_draw Tryz.tbs_ok false [2] [(0,true),(1,true),(2,true),(4,true),(6,true),(3,false),(5,false),(7,false),(8,false),(9,false),(10,false)] rfl ?_)
     refine aG (aE ?_)
     refine aC TP1 [] [] fun ⟨x6,x7⟩ h8=>?_
     refine aE ?_
     refine aC TP2 [] [] fun ⟨x9,x10⟩ h11=>?_
     refine aE ?_
     refine ev_new fun b12=>?_
     refine aE ?_
     refine aC (TO (b12) (b0) (b5) (x6) (x7) (x9) (x10)) [4,5,3,6] [] fun ⟨x13,x14⟩ h15=>?_
     refine aE ?_
     refine ev_call (TD (x13) (x14) (b0)) [0,1,2,4] [.inl 0] (fun v0_=>[.box (p) 122 [vP q,vI s,.bq (bd),vI ↑b,vI ↑t],.fact (DiskM q G.fst),.box (b0) 60 [SV.pt 0 p 0]]) rfl rfl (by decide) rfl (by simp) (fun _=>rfl) (fun _=>(newsOk_box (by repeat (first | exact trivial | refine ⟨rfl,?_⟩ | refine ⟨trivial,?_⟩)) (newsOk_fact (newsOk_box (by repeat (first | exact trivial | refine ⟨rfl,?_⟩ | refine ⟨trivial,?_⟩)) (newsOk_nil _))))) (fun _=>aL) (fun _ h16=>?_)
     refine aG (aE (aK ?_))
     refine aJ ?_ (ne_yes (by with_reducible assumption))
     exact ev_fin ⟨trivial,_,rfl,(),rfl,by trivial,aF [0,1]⟩
   rw [if_pos hf] at hR
   subst hR
   refine aT Tryz.func39 [.pt 0 p 0,vL A np cp] [.box p 122 [vP q,vI s,.bq bad,vI (b:Nat),vI (t:Nat)],.fact (DiskM q D)] (fun E=>?_) ⟨rfl,trivial,trivial⟩
   refine aG ?_
   refine ev_new fun b0=>?_
   refine aD TA [0,1] [] (fun v0_=>[.box (p) 122 [vP q,vI s,.bq (bad),vI ↑b,vI ↑t],.fact (DiskM q D)]) fun _ h1=>?_
   refine aI ?_
   refine aC TF [] [.inl 1] fun _ h2=>?_
   refine aJ ?_ (ne_yes (by with_reducible assumption))
   exact ev_fin ⟨trivial,_,rfl,(),rfl,by trivial,aF [0,1]⟩
 rw [h] at TA hR
 rw [if_pos (by decide)] at hR
 subst hR
 refine aT Tryz.func39 [.pt 0 p 0,vL A np cp] [.box p 122 [vP q,vI s,.bq bad,vI (b:Nat),vI (t:Nat)],.fact (DiskM q D)] (fun E=>?_) ⟨rfl,trivial,trivial⟩
 refine aG ?_
 refine ev_new fun b0=>?_
 refine aD TA [0,1] [] (fun v0_=>[.box (p) 122 [vP q,vI s,.bq (bad),vI ↑b,vI ↑t],.fact (DiskM q D)]) fun _ h1=>?_
 refine aJ ?_
 exact ev_fin ⟨trivial,_,rfl,(),rfl,by trivial,aF [0,1]⟩
open Go.Sy Go.RowKit
def stoV (w:Nat) (x:StaS) (sure:Nat) (dirty:Bool):List SV:=vP w::(svG x.r0++(svG x.r1++(svG x.r2++(svG x.r3++[vL x.A x.F.length x.c,vI (sure:Nat),.bq dirty]))))
def StoP (p w:Nat) (x:StaS) (sure:Nat) (dirty:Bool):Asn:=Pt p 64 (SV.denL (stoV w x sure dirty))
theorem dirtyT (p w:Nat) (x:StaS) (sure:Nat) (dirty:Bool):Triple Tryz.prog 28 [pP p] [StoP p w x sure dirty] [] Unit (fun _=>.bool dirty) (fun _=>True) (fun _=>[StoP p w x sure dirty]):=by
 refine triple_intro Tryz.tbs_ok Tryz.func28 rfl [.pt 0 p 0] [.box p 64 (stoV w x sure dirty)] ⟨rfl,trivial⟩ rfl (by simp [stoV,svG,SV.good,SV.goodL]) ?_
 intro E
 refine aG ?_
 refine ev_inline Tryz.tbs_ok Tryz.func31 rfl rfl ?_
 refine aG ?_
 refine ev_fin ⟨trivial,aL,_,rfl,?_⟩
 refine aG ?_
 exact ev_fin ⟨trivial,_,rfl,(),rfl,by trivial,aF [0]⟩
 all_goals skip
theorem feedSt (p w:Nat) (x:StaS) (sure:Nat) (dirty:Bool) (hx:x.F.length≤100000):Triple Tryz.prog 26 [pP p] [StoP p w x sure dirty] [x.rd] Sl (fun (A',c')=>.tuple #[.slice A' x.F.length c',.int .i64 (sure:Nat)]) (fun (_,c')=>x.F.length≤c') (fun (A',c')=>[StoP p w x sure dirty,Row 72 2 A' x.F.length c' (x.F.flatMap encP)]):=by
 have T1:=(cloneP x.A x.F x.F.length x.c rfl hx).reads (N':=[x.rd]) (fun X hX=>by
  obtain rfl:=List.mem_singleton.1 hX
  exact ⟨_,List.mem_cons_self,fun _ q=>q.2.1⟩)
 refine triple_intro Tryz.tbs_ok Tryz.func26 rfl [.pt 0 p 0] [.box p 64 (stoV w x sure dirty)] ⟨rfl,trivial⟩ rfl (by simp [stoV,svG,SV.good,SV.goodL]) ?_
 intro E
 refine aG ?_
 refine ev_inline Tryz.tbs_ok Tryz.func31 rfl rfl ?_
 refine aG ?_
 refine ev_fin ⟨trivial,aL,_,rfl,?_⟩
 refine aG ?_
 refine ev_stop (go_draw Tryz.tbs_ok false [0] [(0,true),(1,true),(2,true),(3,true),(4,true),(6,true),(7,true),(8,true),(9,true),(5,false),(10,false),(11,false)] rfl ?_)
 refine aG (aE ?_)
 refine aC T1 [] [.inl 0] fun ⟨x0,x1⟩ h2=>?_
 refine aE (aE (aK ?_))
 exact ev_fin ⟨trivial,_,rfl,((x0,x1)),rfl,by trivial,aF [0,1]⟩
 all_goals skip
def SyncR (_w _q:Nat) (x:StaS) (sure:Nat) (dirty:Bool) (W:WK) (D:DK):(Nat × Bool) × (WK × DK) × Int :=
 if dirty=false then ((sure,dirty),(W,D),0) else if (syncW W D).2.2≠0 then ((sure,dirty),((syncW W D).1,(syncW W D).2.1),(syncW W D).2.2) else ((x.F.length,false),((syncW W D).1,(syncW W D).2.1),0)
theorem syncStT (p w q:Nat) (x:StaS) (sure:Nat) (dirty:Bool) (W:WK) (D:DK) (hD:okD D) (hW:okW W) :
 Triple Tryz.prog 14 [pP p] [StoP p w x sure dirty,WalM w q W,DiskM q D] [TabA] Unit (fun _=>.int .i64 (SyncR w q x sure dirty W D).2.2) (fun _=>True) (fun _=>[StoP p w x (SyncR w q x sure dirty W D).1.1 (SyncR w q x sure dirty W D).1.2,WalM w q (SyncR w q x sure dirty W D).2.1.1,DiskM q (SyncR w q x sure dirty W D).2.1.2]):=by
 have T1:=syncWT w q W D hD hW
 obtain ⟨R,hR⟩:∃ R,R=syncW W D:=⟨_,rfl⟩
 unfold SyncR
 rw [←hR] at T1 ⊢
 refine triple_intro Tryz.tbs_ok Tryz.func14 rfl [.pt 0 p 0] [.box p 64 (stoV w x sure dirty),.fact (WalM w q W),.fact (DiskM q D)] ⟨rfl,trivial⟩ rfl (by simp [stoV,svG,SV.good,SV.goodL]) ?_
 intro E
 cases dirty with
 | false =>
  refine go Tryz.tbs_ok 1000 ?_
  refine ev_inline Tryz.tbs_ok Tryz.func31 rfl rfl ?_
  refine aG ?_
  refine ev_fin ⟨trivial,aL,_,rfl,?_⟩
  refine aG (aJ ?_)
  exact ev_fin ⟨trivial,_,rfl,(),rfl,by trivial,aF [0,1,2]⟩
 |
  true =>
  rw [if_neg (show ¬ (true=false) by decide)]
  by_cases h:R.2.2=0
  · rw [if_neg (fun e=>e h)]
    rw [h] at T1
    refine aG ?_
    refine ev_inline Tryz.tbs_ok Tryz.func31 rfl rfl ?_
    refine aG ?_
    refine ev_fin ⟨trivial,aL,_,rfl,?_⟩
    refine aG (aI ?_)
    refine aC T1 [1,2] [.inl 0] fun _ h0=>?_
    refine aI ?_
    exact ev_fin ⟨trivial,_,rfl,(),rfl,by trivial,aF [0,1,2]⟩
    all_goals skip
  rw [if_pos h]
  refine aG ?_
  refine ev_inline Tryz.tbs_ok Tryz.func31 rfl rfl ?_
  refine aG ?_
  refine ev_fin ⟨trivial,aL,_,rfl,?_⟩
  refine aG (aI ?_)
  refine aC T1 [1,2] [.inl 0] fun _ h50=>?_
  refine aJ ?_ (ne_yes (by with_reducible assumption))
  exact ev_fin ⟨trivial,_,rfl,(),rfl,by trivial,aF [0,1,2]⟩
  all_goals skip
set_option maxHeartbeats 4000000 in
theorem mayT (x:RecS) (hl:x.r.L.length≤1000000) (hf:x.r.F.length≤1000000):Triple Tryz.prog 50 [.agg (encR x).toArray] [] [x.rdL,x.rdF] Unit (fun _=>.bool (mayR x.r)) (fun _=>True) (fun _=>[]):=by
 obtain ⟨⟨k,s,e,v,f,n,L,F⟩,A,a,B,b⟩:=x
 obtain ⟨m,hm⟩:∃ m,m=L.length:=⟨_,rfl⟩
 obtain ⟨q,hq⟩:∃ q,q=F.length:=⟨_,rfl⟩
 have T1:=fun f=>logT A L m a s f hm (by rw [hm];exact hl)
 have T2:=feedT B F q b hq (by rw [hq];exact hf)
 obtain ⟨g,hg⟩:∃ g,g=fun f=>logE L s f:=⟨_,rfl⟩
 obtain ⟨w,hw⟩:∃ w,w=feedE F:=⟨_,rfl⟩
 obtain ⟨M,hM⟩:∃ M,M=mayR ⟨k,s,e,v,f,n,L,F⟩:=⟨_,rfl⟩
 simp only [show ∀ f,logE L s f=g f from fun f=>by rw [hg]] at T1
 rw [←hw] at T2
 rw [←hM]
 unfold mayR at hM
 simp only [show ∀ f,logE L s f=g f from fun f=>by rw [hg],←hw,←hm,←hq] at hM
 simp only [show (q=0)=(¬ (q:Int) > 0) from propext (by omega),show (m=0)=((m:Int)=0) from propext (by omega)] at hM
 unfold RecS.rdL RecS.rdF encR
 simp only [←hm,←hq]
 refine aT Tryz.func50 [.ag [vI k,vI s,vI e,vI v,vI f,vI n,vL A m a,vL B q b]] [] (fun E=>?_) ⟨⟨trivial,trivial,trivial,trivial,trivial,trivial,trivial,trivial,trivial⟩,trivial⟩
 refine aG ?_
 refine ev_new fun b0=>?_
 refine ev_inline Tryz.tbs_ok Tryz.func89 rfl rfl ?_
 refine aG ?_
 refine ev_if_lt (fun h1=>?_) (fun h1=>?_)
 refine aG ?_
 refine ev_fin ⟨trivial,aL,_,rfl,?_⟩
 refine aG ?_
 refine ev_if_nd (fun h2=>?_) (fun h2=>?_)
 refine aG ?_
 refine ev_fin ⟨trivial,_,rfl,(()),?_,(by trivial),Frm.nil _⟩
 rotate_left
 refine aG ?_
 refine ev_if_ne (fun h3=>?_) (fun h3=>?_)
 refine aG ?_
 refine ev_if_lt (fun h4=>?_) (fun h4=>?_)
 refine aG ?_
 refine ev_fin ⟨trivial,_,rfl,(()),?_,(by trivial),Frm.nil _⟩
 rotate_left
 refine aG ?_
 refine ev_stop (go_draw Tryz.tbs_ok false [0] [(0,true),(1,true),(2,true),(3,true),(4,true),(5,false),(6,false),(7,false)] rfl ?_)
 refine aG (aE ?_)
 refine ev_new fun b5=>?_
 refine aE (aE (aK ?_))
 refine ev_if_eq (fun h6=>?_) (fun h6=>?_)
 refine aG ?_
 refine ev_inline Tryz.tbs_ok Tryz.func90 rfl rfl ?_
 refine aG ?_
 refine ev_if_lt (fun h7=>?_) (fun h7=>?_)
 refine aG ?_
 refine ev_fin ⟨trivial,aL,_,rfl,?_⟩
 refine aG ?_
 refine ev_if_lt (fun h8=>?_) (fun h8=>?_)
 refine aG ?_
 refine ev_if_eq (fun h9=>?_) (fun h9=>?_)
 refine aG ?_
 refine ev_inline Tryz.tbs_ok Tryz.func91 rfl rfl ?_
 refine aG ?_
 refine ev_new fun b10=>?_
 refine aJ ?_
 refine ev_if_eq (fun h11=>?_) (fun h11=>?_)
 refine aG ?_
 refine ev_if_eq (fun h12=>?_) (fun h12=>?_)
 refine aG ?_
 refine ev_fin ⟨trivial,aL,_,rfl,?_⟩
 refine aG ?_
 refine ev_fin ⟨trivial,_,rfl,(()),?_,(by trivial),Frm.nil _⟩
 rotate_left
 refine aG ?_
 refine ev_fin ⟨trivial,aL,_,rfl,?_⟩
 refine aG ?_
 refine ev_fin ⟨trivial,_,rfl,(()),?_,(by trivial),Frm.nil _⟩
 rotate_left
 refine aG ?_
 refine ev_fin ⟨trivial,aL,_,rfl,?_⟩
 refine aG ?_
 refine ev_fin ⟨trivial,_,rfl,(()),?_,(by trivial),Frm.nil _⟩
 rotate_left
 refine aG ?_
 refine ev_fin ⟨trivial,_,rfl,(()),?_,(by trivial),Frm.nil _⟩
 rotate_left
 refine aG ?_
 refine ev_fin ⟨trivial,_,rfl,(()),?_,(by trivial),Frm.nil _⟩
 rotate_left
 refine aG ?_
 refine ev_fin ⟨trivial,aL,_,rfl,?_⟩
 refine aG ?_
 refine ev_fin ⟨trivial,_,rfl,(()),?_,(by trivial),Frm.nil _⟩
 rotate_left
 refine aG ?_
 refine ev_if_eq (fun h13=>?_) (fun h13=>?_)
 refine aG ?_
 refine ev_inline Tryz.tbs_ok Tryz.func90 rfl rfl ?_
 refine aG ?_
 refine ev_if_lt (fun h14=>?_) (fun h14=>?_)
 refine aG ?_
 refine ev_fin ⟨trivial,aL,_,rfl,?_⟩
 refine aG ?_
 refine ev_if_lt (fun h15=>?_) (fun h15=>?_)
 refine aG ?_
 refine aC (T1 (f)) [] [.inl 0] fun _ h16=>?_
 refine ev_if (fun h17=>?_) (fun h17=>?_)
 refine aG ?_
 refine ev_inline Tryz.tbs_ok Tryz.func91 rfl rfl ?_
 refine aG ?_
 refine ev_new fun b18=>?_
 refine aJ ?_
 refine ev_if_eq (fun h19=>?_) (fun h19=>?_)
 refine aG (aJ ?_)
 refine ev_fin ⟨trivial,aL,_,rfl,?_⟩
 refine aG ?_
 refine ev_fin ⟨trivial,_,rfl,(()),?_,(by trivial),Frm.nil _⟩
 rotate_left
 refine aG ?_
 refine ev_fin ⟨trivial,aL,_,rfl,?_⟩
 refine aG ?_
 refine ev_fin ⟨trivial,_,rfl,(()),?_,(by trivial),Frm.nil _⟩
 rotate_left
 refine aG ?_
 refine ev_fin ⟨trivial,_,rfl,(()),?_,(by trivial),Frm.nil _⟩
 rotate_left
 refine aG ?_
 refine ev_fin ⟨trivial,_,rfl,(()),?_,(by trivial),Frm.nil _⟩
 rotate_left
 refine aG ?_
 refine ev_fin ⟨trivial,aL,_,rfl,?_⟩
 refine aG ?_
 refine ev_fin ⟨trivial,_,rfl,(()),?_,(by trivial),Frm.nil _⟩
 rotate_left
 refine aG ?_
 refine ev_if_eq (fun h20=>?_) (fun h20=>?_)
 refine aG ?_
 refine ev_inline Tryz.tbs_ok Tryz.func93 rfl rfl ?_
 refine aG ?_
 refine ev_if_lt (fun h21=>?_) (fun h21=>?_)
 refine aG ?_
 refine ev_fin ⟨trivial,aL,_,rfl,?_⟩
 refine aG ?_
 refine ev_if_lt (fun h22=>?_) (fun h22=>?_)
 refine aG ?_
 refine ev_if_eq (fun h23=>?_) (fun h23=>?_)
 refine aG ?_
 refine ev_inline Tryz.tbs_ok Tryz.func91 rfl rfl ?_
 refine aG ?_
 refine ev_new fun b24=>?_
 refine ev_if_eq (fun h25=>?_) (fun h25=>?_)
 refine aG ?_
 refine ev_if_eq (fun h26=>?_) (fun h26=>?_)
 refine aG ?_
 refine ev_if_eq (fun h27=>?_) (fun h27=>?_)
 refine aG ?_
 refine ev_fin ⟨trivial,aL,_,rfl,?_⟩
 refine aG ?_
 refine ev_fin ⟨trivial,_,rfl,(()),?_,(by trivial),Frm.nil _⟩
 rotate_left
 refine aG ?_
 refine ev_fin ⟨trivial,aL,_,rfl,?_⟩
 refine aG ?_
 refine ev_fin ⟨trivial,_,rfl,(()),?_,(by trivial),Frm.nil _⟩
 rotate_left
 refine aG ?_
 refine ev_fin ⟨trivial,aL,_,rfl,?_⟩
 refine aG ?_
 refine ev_fin ⟨trivial,_,rfl,(()),?_,(by trivial),Frm.nil _⟩
 rotate_left
 refine aG ?_
 refine ev_fin ⟨trivial,aL,_,rfl,?_⟩
 refine aG ?_
 refine ev_fin ⟨trivial,_,rfl,(()),?_,(by trivial),Frm.nil _⟩
 rotate_left
 refine aG ?_
 refine ev_fin ⟨trivial,_,rfl,(()),?_,(by trivial),Frm.nil _⟩
 rotate_left
 refine aG ?_
 refine ev_fin ⟨trivial,_,rfl,(()),?_,(by trivial),Frm.nil _⟩
 rotate_left
 refine aG ?_
 refine ev_fin ⟨trivial,aL,_,rfl,?_⟩
 refine aG ?_
 refine ev_fin ⟨trivial,_,rfl,(()),?_,(by trivial),Frm.nil _⟩
 rotate_left
 refine aG ?_
 refine ev_if_eq (fun h28=>?_) (fun h28=>?_)
 refine aG ?_
 refine ev_inline Tryz.tbs_ok Tryz.func90 rfl rfl ?_
 refine aG ?_
 refine ev_if_lt (fun h29=>?_) (fun h29=>?_)
 refine aG ?_
 refine ev_fin ⟨trivial,aL,_,rfl,?_⟩
 refine aG ?_
 refine ev_if_lt (fun h30=>?_) (fun h30=>?_)
 refine aG ?_
 refine ev_inline Tryz.tbs_ok Tryz.func90 rfl rfl ?_
 refine aG ?_
 refine ev_if_lt (fun h31=>?_) (fun h31=>?_)
 refine aG ?_
 refine ev_fin ⟨trivial,aL,_,rfl,?_⟩
 refine aG ?_
 refine ev_if_lt (fun h32=>?_) (fun h32=>?_)
 refine aG ?_
 refine aC (T1 (0)) [] [.inl 0] fun _ h33=>?_
 refine ev_if (fun h34=>?_) (fun h34=>?_)
 refine aG ?_
 refine ev_if_lt (fun h35=>?_) (fun h35=>?_)
 refine aG ?_
 refine ev_if_lt (fun h36=>?_) (fun h36=>?_)
 refine aG ?_
 refine ev_inline Tryz.tbs_ok Tryz.func91 rfl rfl ?_
 refine aG ?_
 refine ev_new fun b37=>?_
 refine aJ (aJ ?_)
 refine ev_if_eq (fun h38=>?_) (fun h38=>?_)
 refine aG ?_
 refine ev_fin ⟨trivial,aL,_,rfl,?_⟩
 refine aG ?_
 refine ev_fin ⟨trivial,_,rfl,(()),?_,(by trivial),Frm.nil _⟩
 rotate_left
 refine aG ?_
 refine ev_fin ⟨trivial,aL,_,rfl,?_⟩
 refine aG ?_
 refine ev_fin ⟨trivial,_,rfl,(()),?_,(by trivial),Frm.nil _⟩
 rotate_left
 refine aG ?_
 refine ev_fin ⟨trivial,_,rfl,(()),?_,(by trivial),Frm.nil _⟩
 rotate_left
 refine aG ?_
 refine ev_fin ⟨trivial,_,rfl,(()),?_,(by trivial),Frm.nil _⟩
 rotate_left
 refine aG ?_
 refine ev_fin ⟨trivial,_,rfl,(()),?_,(by trivial),Frm.nil _⟩
 rotate_left
 refine aG ?_
 refine ev_fin ⟨trivial,_,rfl,(()),?_,(by trivial),Frm.nil _⟩
 rotate_left
 refine aG ?_
 refine ev_fin ⟨trivial,aL,_,rfl,?_⟩
 refine aG ?_
 refine ev_fin ⟨trivial,_,rfl,(()),?_,(by trivial),Frm.nil _⟩
 rotate_left
 refine aG ?_
 refine ev_fin ⟨trivial,_,rfl,(()),?_,(by trivial),Frm.nil _⟩
 rotate_left
 refine aG ?_
 refine ev_fin ⟨trivial,aL,_,rfl,?_⟩
 refine aG ?_
 refine ev_fin ⟨trivial,_,rfl,(()),?_,(by trivial),Frm.nil _⟩
 rotate_left
 refine aG ?_
 refine aI ?_ (beq_eq_false_iff_ne.2 (by with_reducible assumption))
 refine ev_fin ⟨trivial,_,rfl,(()),?_,(by trivial),Frm.nil _⟩
 rotate_left
 refine aG ?_
 refine ev_stop (go_draw Tryz.tbs_ok false [0] [(0,true),(1,true),(2,true),(3,true),(4,true),(5,false),(6,false),(7,false)] rfl ?_)
 refine aG (aE ?_)
 refine ev_new fun b39=>?_
 refine aE (aE (aK ?_))
 refine aI ?_ (beq_eq_false_iff_ne.2 (show ¬k=1 from (by omega)))
 refine aI ?_ (beq_eq_false_iff_ne.2 (show ¬k=2 from (by omega)))
 refine aI ?_ (beq_eq_false_iff_ne.2 (show ¬k=3 from (by omega)))
 refine aI ?_ (beq_eq_false_iff_ne.2 (show ¬k=4 from (by omega)))
 refine aJ ?_ (beq_iff_eq.2 (by with_reducible assumption))
 refine ev_if_eq (fun h40=>?_) (fun h40=>?_)
 refine aG ?_
 refine ev_if_eq (fun h41=>?_) (fun h41=>?_)
 refine aG ?_
 refine aC T2 [] [.inl 1] fun _ h42=>?_
 refine ev_if (fun h43=>?_) (fun h43=>?_)
 refine aG ?_
 refine ev_inline Tryz.tbs_ok Tryz.func91 rfl rfl ?_
 refine aG ?_
 refine ev_new fun b44=>?_
 refine ev_if_eq (fun h45=>?_) (fun h45=>?_)
 refine aG ?_
 refine ev_if_eq (fun h46=>?_) (fun h46=>?_)
 refine aG ?_
 refine ev_if_eq (fun h47=>?_) (fun h47=>?_)
 refine aG ?_
 refine ev_fin ⟨trivial,aL,_,rfl,?_⟩
 refine aG ?_
 refine ev_fin ⟨trivial,_,rfl,(()),?_,(by trivial),Frm.nil _⟩
 rotate_left
 refine aG ?_
 refine ev_fin ⟨trivial,aL,_,rfl,?_⟩
 refine aG ?_
 refine ev_fin ⟨trivial,_,rfl,(()),?_,(by trivial),Frm.nil _⟩
 rotate_left
 refine aG ?_
 refine ev_fin ⟨trivial,aL,_,rfl,?_⟩
 refine aG ?_
 refine ev_fin ⟨trivial,_,rfl,(()),?_,(by trivial),Frm.nil _⟩
 rotate_left
 refine aG ?_
 refine ev_fin ⟨trivial,aL,_,rfl,?_⟩
 refine aG ?_
 refine ev_fin ⟨trivial,_,rfl,(()),?_,(by trivial),Frm.nil _⟩
 rotate_left
 refine aG ?_
 refine ev_fin ⟨trivial,_,rfl,(()),?_,(by trivial),Frm.nil _⟩
 rotate_left
 refine aG ?_
 refine ev_fin ⟨trivial,_,rfl,(()),?_,(by trivial),Frm.nil _⟩
 rotate_left
 refine aG ?_
 refine ev_fin ⟨trivial,_,rfl,(()),?_,(by trivial),Frm.nil _⟩
 rotate_left
 refine aG ?_
 refine ev_fin ⟨trivial,aL,_,rfl,?_⟩
 refine aG ?_
 refine ev_fin ⟨trivial,_,rfl,(()),?_,(by trivial),Frm.nil _⟩
 rotate_left
 all_goals (show Value.bool _=Value.bool M;congr 1;clear T1 T2 hw hg hm hq hl hf;first | grind | (rw [hM];simp [*];first | rfl | omega) | (rw [hM];simp [*];done))
def recB (x:Rec):ByteArray:=⟨(recL x).toArray⟩
theorem encBad (x:RecS) (hl:x.r.L.length≤1000000) (hf:x.r.F.length≤1000000) (h:mayR x.r=false):Triple Tryz.prog 33 [.agg (encR x).toArray] [] [x.rdL,x.rdF] Unit (fun _=>.tuple #[.string .empty,.int .i64 2]) (fun _=>True) (fun _=>[]):=by
 have T1:=mayT x hl hf
 rw [h] at T1
 obtain ⟨⟨k,s,e,v,f,n,L,F⟩,A,a,B,b⟩:=x
 refine aT Tryz.func33 [.ag [vI k,vI s,vI e,vI v,vI f,vI n,vL A L.length a,vL B F.length b]] [] (fun E=>?_) ⟨⟨trivial,trivial,trivial,trivial,trivial,trivial,trivial,trivial,trivial⟩,trivial⟩
 refine aG ?_
 refine ev_new fun b0=>?_
 refine aC T1 [] [.inl 0,.inl 1] fun _ h1=>?_
 refine aJ ?_
 refine ev_fin ⟨trivial,_,rfl,(()),rfl,(by trivial),Frm.nil _⟩
theorem encGood (x:RecS) (h:mayR x.r=true):Triple Tryz.prog 33 [.agg (encR x).toArray] [] [x.rdL,x.rdF] Unit (fun _=>.tuple #[.string (recB x.r),.int .i64 0]) (fun _=>True) (fun _=>[]):=by
 have hs:=small_of_may h
 have hl:=hs.len
 have hf:=hs.flen
 have T1:=mayT x (by omega) (by omega)
 rw [h] at T1
 have hi:=hs.ints
 have he:=hs.ents
 have hp:=hs.feed
 have hb:=hs.len_le
 obtain ⟨⟨k,s,e,v,f,n,L,F⟩,A,a,B,b⟩:=x
 simp only at hl hf he hp hb
 have T2:=fun q=>intsP none [] [k,s,e,v,f,n] 0 q 3 6 rfl (Nat.zero_le _) (by decide) hi
 obtain ⟨B1,hB1⟩:∃ B1,B1=intsL [k,s,e,v,f,n]:=⟨_,rfl⟩
 obtain ⟨B2,hB2⟩:∃ B2,B2=B1++(intsL [(L.length:Int)]++entsL L):=⟨_,rfl⟩
 obtain ⟨B3,hB3⟩:∃ B3,B3=B2++(intsL [(F.length:Int)]++sptsL F):=⟨_,rfl⟩
 have hR:recB ⟨k,s,e,v,f,n,L,F⟩=⟨B3.toArray⟩:=by
  unfold recB recL
  rw [hB3,hB2,hB1]
  simp only [Rec.ints,List.append_assoc]
 have hz:B3.length≤10000:=by
  have:recL ⟨k,s,e,v,f,n,L,F⟩=B3:=by
   unfold recL
   rw [hB3,hB2,hB1]
   simp only [Rec.ints,List.append_assoc]
  rw [this] at hb
  skip
  omega
 have hz2:B2.length≤10000:=by rw [hB3,List.length_append] at hz;omega
 have hz1:B1.length≤10000:=by rw [hB2,List.length_append] at hz2;omega
 rw [List.nil_append,←hB1] at T2
 have T3:=fun C c=>listE C A B1 L c L.length a rfl hz1 (by omega) (fun y hy=>ent_i5 ⟨(he y hy).1,(he y hy).2.1⟩ (he y hy).2.2.2)
 rw [←hB2] at T3
 have T4:=fun C c=>listP C B B2 F c F.length b rfl hz2 (by omega) (fun y hy=>spt_i5 (hp y hy))
 rw [←hB3] at T4
 rw [hR]
 refine aT Tryz.func33 [.ag [vI k,vI s,vI e,vI v,vI f,vI n,vL A L.length a,vL B F.length b]] [] (fun E=>?_) ⟨⟨trivial,trivial,trivial,trivial,trivial,trivial,trivial,trivial,trivial⟩,trivial⟩
 refine go_fact (ByA none 0 []) (Row.nilE _ _) ?_
 refine aG ?_
 refine ev_new fun b0=>?_
 refine aC T1 [] [.inl 0,.inl 1] fun _ h1=>?_
 refine aI ?_
 refine ev_new fun b2=>?_
 refine aC (T2 (b2)) [0] [.inr 2] fun ⟨x3,x4⟩ h5=>?_
 refine aC (T3 (x3) (x4)) [0] [.inl 0] fun ⟨x6,x7⟩ h8=>?_
 refine aC (T4 (x6) (x7)) [0] [.inl 1] fun ⟨x9,x10⟩ h11=>?_
 refine ev_stop (go_stringOf Tryz.tbs_ok (B3) (.inr 0) rfl rfl rfl rfl rfl rfl rfl (by first | rfl | omega | (simp;omega)) (fun _ h=>Row.rd h) ?_)
 refine aG ?_
 refine ev_fin ⟨trivial,_,rfl,(()),rfl,(by trivial),Frm.nil _⟩
structure GetIs (s:ByteArray) (a:Nat) (v:Int) (b:Nat):Prop where
 lt:a≤s.size
 le:b≤s.size
 get:getM s.data.toList a=(v,b,true)
def Reads (s:ByteArray):Nat→List Int→Nat→Prop
 | a,[],b=>a=b∧b≤s.size
 | a,v::l,b=>∃ c,GetIs s a v c∧Reads s c l b
theorem reads_of {s:ByteArray}:∀ {vs:List Int} {a:Nat} {r:List UInt8},(∀ v∈vs,i5 v)→a≤s.size→s.data.toList.drop a=intsL vs++r→Reads s a vs (a+(intsL vs).length)∧s.data.toList.drop (a+(intsL vs).length)=r∧a+(intsL vs).length≤s.size
 | [],a,r,_,ha,h=>⟨⟨rfl,ha⟩,h,ha⟩
 |
  v::l,a,r,hv,ha,h=>by
  have h1:=hv v List.mem_cons_self
  rw [intsL_cons,List.append_assoc] at h
  have hg:=get_zz (n:=v) (by unfold i5 at h1;omega) (by unfold i5 at h1;omega) (intsL l++r)
  rw [←h] at hg
  have hd:s.data.toList.drop (a+(putL (zz v)).length)=intsL l++r:=by rw [←List.drop_drop,h,List.drop_left]
  have hlen:a+(putL (zz v)).length≤s.size:=by
   have:=congrArg List.length h
   rw [List.length_drop,size_data,List.length_append] at this
   have:=putL_pos (zz v)
   omega
  obtain ⟨q1,q2,q3⟩:=reads_of (vs:=l) (fun w hw=>hv w (List.mem_cons_of_mem _ hw)) hlen hd
  rw [intsL_cons,List.length_append,←Nat.add_assoc]
  exact ⟨⟨_,⟨ha,hlen,by rw [getM_some hg,zig_zz]⟩,q1⟩,q2,q3⟩
theorem getIsT {s:ByteArray} {a b:Nat} {v:Int} (h:GetIs s a v b) (hs:s.size≤1000000000):Triple Tryz.prog 130 [.string s,.int .i64 (a:Int)] [] [] Unit (fun _=>.tuple #[.int .i64 v,.int .i64 (b:Nat),.bool true]) (fun _=>True) (fun _=>[]):=by
 have T:=mgetT s a hs h.lt
 rw [h.get] at T
 exact T
theorem Reads.le {s:ByteArray}:∀ {vs:List Int} {a b:Nat},Reads s a vs b→a≤s.size
 | [],_,_,h=>by rw [h.1];exact h.2
 | _::_,_,_,⟨_,g,_⟩=>g.lt
def encQ (b:Nat) (o:Nat):List Value:=[.pointer (some ⟨b,o,none⟩)]
def rdC (s:ByteArray) (a:Nat):List Value:=[.string s,.int .i64 (a:Int),.bool false]
theorem over_next (vs:List Int) (cs:List Value) (i:Nat) (h:i<vs.length):over ((vs.take i).flatMap encN++cs.drop i) i [.int .i64 vs[i]]=(vs.take (i+1)).flatMap encN++cs.drop (i+1):=by
 have hl:((vs.take i).flatMap encN).length=i:=by rw [flat_len (sz:=1) (fun _=>rfl),List.length_take];omega
 unfold over
 rw [List.take_left' hl,←List.take_append_getElem h,List.flatMap_append,List.drop_append,List.drop_eq_nil_of_le (by rw [hl];simp),hl,List.nil_append,List.drop_drop]
 simp [encN]
theorem readInts (rd b lt t:Nat) (s:ByteArray) (a a' k:Nat) (vs:List Int) (cs:List Value) (hR:Reads s a vs a') (hs:s.size≤1000000000) (hk:k=vs.length) (hcs:k≤cs.length) (hone:∀ c∈cs,c.oneCell'=true) (hk1:k≤1000) :
 Triple Tryz.prog 82 [pP rd,.slice (some ⟨lt,0,none⟩) k k] [Pt rd 139 (rdC s a),Pt b t cs] [Pt lt 141 ((List.range k).flatMap (encQ b))] Unit (fun _=>.tuple #[]) (fun _=>True)
  (fun _=>[Pt rd 139 (rdC s a'),Pt b t (vs.flatMap encN++cs.drop k)]):=by
 refine aT Tryz.func82 [.pt 0 rd 0,vL (some ⟨lt,0,none⟩) k k] [.box rd 139 [.va (.string s),vI (a:Int),.bq false],.fact (Pt b t cs)] (fun E=>?_) ⟨rfl,trivial,trivial⟩
 refine go_more 0 (Pt lt 141 ((List.range k).flatMap (encQ b))) (Rd 1 (some ⟨lt,0,none⟩) k ((List.range k).flatMap (encQ b))) rfl (fun h p=>?_) ?_
 · have:=rd_pt p
   rw [show ((List.range k).flatMap (encQ b)).length=k by rw [flat_len (sz:=1) (fun _=>rfl),Nat.mul_one,List.length_range]] at this
   exact this
 refine go_turn (X:=Unit) 1 (Pt b t cs) (fun _=>Blk b t cs) rfl (fun h p=>⟨(),p.1⟩) fun _=>?_
 refine aG ?_
 refine ev_stop (go_loopR [5,6,7,8,11,12,13,14,15,16,17,18,19,20,21,22,23,24,25,26,27,28,29,30,31,32,33,34,35,36,37,38,39,40,41,42,43,44,45,46,47,48,49,50] (fun (i,_)=>[(11,vI (i:Nat))]) (fun (i,c,z)=>[(0,.box rd 139 [.va (.string s),vI (c:Int),.bq z]),(1,.fact (Blk b t ((vs.take i).flatMap encN++cs.drop i)))]) (fun (i,c,z)=>i≤k∧z=false∧Reads s c (vs.drop i) a'∧c≤s.size) (fun (i,_)=>k-i) ((0,a,false):Nat × Nat × Bool) ⟨Nat.zero_le _,rfl,hR,hR.le⟩ aS (fun x_ h_=>?_))
 obtain ⟨i,c,z⟩:=x_
 obtain ⟨hi,hz,hc,hcl⟩:=h_
 rcases Nat.lt_or_ge i k with hik | hik
 · have hil:i<vs.length:=by omega
   rw [List.drop_eq_getElem_cons hil] at hc
   obtain ⟨c2,hg,hr⟩:=hc
   have T1:=getIsT hg hs
   have hrl:(List.range k).length=k:=List.length_range
   refine aG ?_
   refine aJ ?_ (decide_eq_true (show (↑i:Int)<(↑k:Int) from (by omega)))
   refine ev_stop (go_atE (sz:=1) Tryz.tbs_ok (i) rfl rfl rfl rfl rfl rfl (by omega) ?_)
   refine aG ?_
   have l10:i<(List.range k).length:=(by omega)
   refine ev_stop (go_loadE Tryz.tbs_ok (.inl 1) (i) 0 rfl rfl rfl rfl (fun _ h=>h) (by omega) (fun _=>rfl) (by omega) l10 (by decide) ?_)
   refine aG ?_
   refine ev_stop (go_draw Tryz.tbs_ok false [0] [(0,true),(1,true),(2,true),(3,true),(4,true),(5,true),(6,true),(7,true),(8,false),(9,false),(10,true),(11,true),(12,true),(13,false),(14,false),(15,false)] rfl ?_)
   refine aG (aE ?_)
   refine aC T1 [] [] fun _ h11=>?_
   refine aE (aE (aE (aE (aK ?_))))
   refine aI ?_ (by assumption)
   refine aI ?_
   refine ev_stop (go_store Tryz.tbs_ok 1 b t ((List.range k)[i]) ((vs.take i).flatMap encN++cs.drop i) [.int .i64 vs[i]] _ rfl rfl rfl rfl rfl rfl (by simp [Value.oneCell']) rfl ?_ aL ?_)
   · rw [List.getElem_range,List.length_append,flat_len (sz:=1) (fun _=>rfl),List.length_take,List.length_drop,List.length_singleton]
     omega
   refine go_turn (X:=Unit) 1 _ (fun _=>Blk b t ((vs.take (i+1)).flatMap encN++cs.drop (i+1))) rfl (fun h p=>⟨(),by rw [List.getElem_range,over_next vs cs i hil] at p;exact p⟩) fun _=>?_
   refine aG ?_
   refine wN (i+1) ?_
   refine ev_fin (round_next ((i+1,c2,!true)) (?_:i+1≤k∧(!true)=false∧Reads s c2 (List.drop (i+1) vs) a'∧c2≤s.size) (show k-(i+1)<k-i from (by omega)) aS)
   exact ⟨by omega,rfl,hr,hr.le⟩
 obtain rfl:i=k:=by omega
 subst hz
 have htk:vs.take i=vs:=List.take_of_length_le (by omega)
 have hca:c=a':=by rw [List.drop_of_length_le (by omega)] at hc;exact hc.1
 subst hca
 refine go_turn (X:=Unit) 1 _ (fun _=>Pt b t (vs.flatMap encN++cs.drop i)) rfl (fun h p=>⟨(),by rw [htk] at p;exact p,fun v hv=>?_⟩) fun _=>?_
 · rcases List.mem_append.1 hv with hv | hv
   · obtain ⟨z,_,hz⟩:=List.mem_flatMap.1 hv
     rw [List.mem_singleton.1 hz];rfl
   exact hone v (List.mem_of_mem_drop hv)
 refine aG ?_
 refine aI ?_ (decide_eq_false (show ¬(↑i:Int)<(↑i:Int) from (by omega)))
 refine ev_fin (go Tryz.tbs_ok 1000 ?_)
 exact ev_fin ⟨trivial,_,rfl,(),rfl,by trivial,aF [0,1]⟩
theorem Reads.split {s:ByteArray}:∀ {l m:List Int} {a b:Nat},Reads s a (l++m) b→∃ c,Reads s a l c∧Reads s c m b
 | [],_,a,_,h=>⟨a,⟨rfl,h.le⟩,h⟩
 | _::l,_,_,_,⟨c,g,h⟩=>let ⟨d,h1,h2⟩:=Reads.split (l:=l) h;⟨d,⟨c,g,h1⟩,h2⟩
abbrev z0:Value:=.int .i64 0
theorem orderR (rd:Nat) (s:ByteArray) (a a':Nat) (x:Ent) (hR:Reads s a x.ord a') (hs:s.size≤1000000000) :
 Triple Tryz.prog 131 [pP rd] [Pt rd 139 (rdC s a)] [] Unit (fun _=>.agg (encO x).toArray) (fun _=>True) (fun _=>[Pt rd 139 (rdC s a')]):=by
 obtain ⟨e,id,st,ex,k,g⟩:=x
 have T1:=fun b lt=>readInts rd b lt 99 s a a' 5 [id,st,ex,k,g] [z0,z0,z0,z0,z0] hR hs rfl (by decide) (by decide) (by decide)
 refine aT Tryz.func131 [.pt 0 rd 0] [.box rd 139 [.va (.string s),vI (a:Int),.bq false]] (fun E=>?_) ⟨rfl,trivial⟩
 refine aG ?_
 refine ev_new fun b0=>?_
 refine ev_new fun b1=>?_
 refine aD (T1 (b0) (b1)) [0,1] [.inr 2] (fun v0_=>[.box (rd) 139 [.va (Value.string s),vI ↑a',.bl false],.box (b0) 99 [vI id,vI st,vI ex,vI k,vI g]]) fun _ h2=>?_
 exact ev_fin ⟨trivial,_,rfl,(),rfl,by trivial,aF [0]⟩
theorem entryR (rd:Nat) (s:ByteArray) (a a':Nat) (x:Ent) (hR:Reads s a x.ints a') (hs:s.size≤1000000000) :
 Triple Tryz.prog 84 [pP rd] [Pt rd 139 (rdC s a)] [] Unit (fun _=>.agg (encE x).toArray) (fun _=>True) (fun _=>[Pt rd 139 (rdC s a')]):=by
 obtain ⟨c,h1,h2⟩:=Reads.split (l:=[x.e]) (m:=x.ord) hR
 have T2:=orderR rd s c a' x h2 hs
 obtain ⟨e,id,st,ex,k,g⟩:=x
 have T1:=fun b lt=>readInts rd b lt 101 s a c 1 [e] [z0,z0,z0,z0,z0,z0] h1 hs rfl (by decide) (by decide) (by decide)
 refine aT Tryz.func84 [.pt 0 rd 0] [.box rd 139 [.va (.string s),vI (a:Int),.bq false]] (fun E=>?_) ⟨rfl,trivial⟩
 refine aG ?_
 refine ev_new fun b0=>?_
 refine ev_new fun b1=>?_
 refine aD (T1 (b0) (b1)) [0,1] [.inr 2] (fun v0_=>[.box (rd) 139 [.va (Value.string s),vI ↑c,.bl false],.box (b0) 101 [vI e,vI 0,vI 0,vI 0,vI 0,vI 0]]) fun _ h2=>?_
 refine aD T2 [0] [] (fun v0_=>[.box (rd) 139 [.va (Value.string s),vI ↑a',.bl false]]) fun _ h3=>?_
 exact ev_fin ⟨trivial,_,rfl,(),rfl,by trivial,aF [0]⟩
theorem spotR (rd pb:Nat) (s:ByteArray) (a a':Nat) (x:Spt) (hR:Reads s a x.ints a') (hs:s.size≤1000000000) :
 Triple Tryz.prog 86 [pP pb] [Pt rd 139 (rdC s a),Pt pb 137 [pP rd]] [] Unit (fun _=>.agg (encP x).toArray) (fun _=>True) (fun _=>[Pt rd 139 (rdC s a'),Pt pb 137 [pP rd]]):=by
 obtain ⟨u,i⟩:=x
 have T1:=fun b lt=>readInts rd b lt 72 s a a' 2 [u,i] [z0,z0] hR hs rfl (by decide) (by decide) (by decide)
 refine aT Tryz.func86 [.pt 1 pb 0] [.box rd 139 [.va (.string s),vI (a:Int),.bq false],.box pb 137 [.pt 0 rd 0]] (fun E=>?_) ⟨rfl,trivial⟩
 refine aG ?_
 refine ev_new fun b0=>?_
 refine ev_new fun b1=>?_
 refine aD (T1 (b0) (b1)) [0,2] [.inr 3] (fun v0_=>[.box (rd) 139 [.va (Value.string s),vI ↑a',.bl false],.box (b0) 72 [vI u,vI i]]) fun _ h2=>?_
 exact ev_fin ⟨trivial,_,rfl,(),rfl,by trivial,aF [0,1]⟩
theorem readE (rd:Nat) (s:ByteArray) (a a1 a2:Nat) (L:List Ent) (h1:Reads s a [(L.length:Int)] a1) (hr2:Reads s a1 (L.flatMap Ent.ints) a2) (hl:L.length≤1000) (hs:s.size≤1000000000) :
 Triple Tryz.prog 83 [pP rd,.func (.func 84) #[pP rd] #[]] [Pt rd 139 (rdC s a)] [] Sl (fun (A',c')=>.slice A' L.length c') (fun _=>True) (fun (A',c')=>[Pt rd 139 (rdC s a2),Row 101 6 A' L.length c' (L.flatMap encE)]):=by
 have T1:=fun b lt=>readInts rd b lt 3 s a a1 1 [(L.length:Int)] [z0] h1 hs rfl (by decide) (by decide) (by decide)
 obtain ⟨m,hm⟩:∃ m,m=L.length:=⟨_,rfl⟩
 rw [←hm] at T1 hl ⊢
 refine aT Tryz.func83 [.pt 0 rd 0,.fu (.func 84) [.pt 0 rd 0] []] [.box rd 139 [.va (.string s),vI (a:Int),.bq false]] (fun E=>?_) ⟨rfl,⟨⟨rfl,trivial⟩,trivial⟩,trivial⟩
 refine go_fact (Row 101 6 none 0 0 (([]:List Ent).flatMap encE)) (Row.nilE _ _) ?_
 refine aG ?_
 refine ev_new fun b0=>?_
 refine ev_new fun b1=>?_
 refine aD (T1 (b0) (b1)) [0,2] [.inr 3] (fun v0_=>[.box (rd) 139 [.va (Value.string s),vI ↑a1,.bl false],.box (b0) 3 [vI ↑m]]) fun _ h2=>?_
 refine ev_stop (go_loopR [6,9,10,11,12,13,14,15,16,17,18,19,20,21,22,23,24,25] (fun (i,C,c,_)=>[(6,vL C i c)]) (fun (i,C,c,p,z,M)=>[(0,.box rd 139 [.va (.string s),vI (p:Int),.bl false]),(1,.fact (Row 101 6 C i c (M.flatMap encE))),(2,.box b0 3 [vI z])]) (fun (i,_,_,p,z,M)=>i≤m∧z=(m:Int)-i∧M=L.take i∧Reads s p ((L.drop i).flatMap Ent.ints) a2) (fun (i,_)=>m-i) ((0,none,0,a1,(m:Int),[]):Nat × Option Addr × Nat × Nat × Int × List Ent) ⟨Nat.zero_le _,by omega,rfl,hr2⟩ aS (fun x_ h_=>?_))
 obtain ⟨i,C,c,p,z,M⟩:=x_
 obtain ⟨hi,hz,hM,hp⟩:=h_
 rcases Nat.lt_or_ge i m with him | him
 · have hil:i<L.length:=by omega
   rw [List.drop_eq_getElem_cons hil,List.flatMap_cons] at hp
   obtain ⟨q,g1,g2⟩:=Reads.split hp
   have T2:=entryR rd s p q L[i] g1 hs
   have htk:L.take (i+1)=L.take i++[L[i]]:=(List.take_append_getElem hil).symm
   have hMl:i=M.length:=by rw [hM,List.length_take];omega
   refine aG ?_
   refine aJ ?_ (decide_eq_true (show z > 0 from (by omega)))
   refine aD T2 [0] [] (fun v0_=>[.box (rd) 139 [.va (Value.string s),vI ↑q,.bl false]]) fun _ h10=>?_
   refine ev_new fun b11=>?_
   refine ev_stop (go_appendE (sz:=6) (M:=[_]) (enc:=encE) Tryz.tbs_ok [1] [] (.inr 4) (M) ([L[i]]) ((M)++([L[i]])) (i+1) rfl rfl rfl rfl rfl rfl rfl (by decide) rfl (by decide) (fun _ p=>starH_one.1 p) rfl (fun _ p=>Pt.rd p rfl) (by first | rfl | simp) (by first | rfl | omega) (aM (i+1)) (aN (i+1)) (fun _ _=>aL) (fun A12 c13 h14=>?_))
   refine aG ?_
   refine w6 ?_
   refine ev_fin (round_next ((i+1,A12,c13,q,z-1,M++[L[i]])) (?_:i+1≤m∧z-1=(↑m:Int)-(↑(i+1):Int)∧M++[L[i]]=List.take (i+1) L∧Reads s q (List.flatMap Ent.ints (List.drop (i+1) L)) a2) (show m-(i+1)<m-i from (by omega)) aS)
   exact ⟨by omega,by omega,by rw [hM,htk],g2⟩
 have hir:i=m:=by omega
 rw [List.take_of_length_le (by omega)] at hM
 subst hM hir
 rw [List.drop_of_length_le (by omega)] at hp
 obtain ⟨rfl,_⟩:=hp
 refine aG ?_
 refine aI ?_ (decide_eq_false (show ¬z > 0 from (by omega)))
 refine ev_fin (go Tryz.tbs_ok 1000 ?_)
 exact ev_fin ⟨trivial,_,rfl,((C,c)),rfl,by trivial,aF [0,1]⟩
 all_goals skip
theorem readP (rd pb:Nat) (s:ByteArray) (a a1 a2:Nat) (L:List Spt) (h1:Reads s a [(L.length:Int)] a1) (hr2:Reads s a1 (L.flatMap Spt.ints) a2) (hl:L.length≤1000) (hs:s.size≤1000000000) :
 Triple Tryz.prog 85 [pP rd,.func (.func 86) #[] #[pP pb]] [Pt rd 139 (rdC s a),Pt pb 137 [pP rd]] [] Sl (fun (A',c')=>.slice A' L.length c') (fun _=>True) (fun (A',c')=>[Pt rd 139 (rdC s a2),Pt pb 137 [pP rd],Row 72 2 A' L.length c' (L.flatMap encP)]):=by
 have T1:=fun b lt=>readInts rd b lt 3 s a a1 1 [(L.length:Int)] [z0] h1 hs rfl (by decide) (by decide) (by decide)
 obtain ⟨m,hm⟩:∃ m,m=L.length:=⟨_,rfl⟩
 rw [←hm] at T1 hl ⊢
 refine aT Tryz.func85 [.pt 0 rd 0,.fu (.func 86) [] [.pt 1 pb 0]] [.box rd 139 [.va (.string s),vI (a:Int),.bq false],.box pb 137 [.pt 0 rd 0]] (fun E=>?_) ⟨rfl,⟨trivial,⟨rfl,trivial⟩⟩,trivial⟩
 refine go_fact (Row 72 2 none 0 0 (([]:List Spt).flatMap encP)) (Row.nilE _ _) ?_
 refine aG ?_
 refine ev_new fun b0=>?_
 refine ev_new fun b1=>?_
 refine aD (T1 (b0) (b1)) [0,3] [.inr 4] (fun v0_=>[.box (rd) 139 [.va (Value.string s),vI ↑a1,.bl false],.box (b0) 3 [vI ↑m]]) fun _ h2=>?_
 refine ev_stop (go_loopR [6,9,10,11,12,13,14,15,16,17,18,19,20,21,22,23,24,25] (fun (i,C,c,_)=>[(6,vL C i c)]) (fun (i,C,c,p,z,M)=>[(0,.box rd 139 [.va (.string s),vI (p:Int),.bl false]),(2,.fact (Row 72 2 C i c (M.flatMap encP))),(3,.box b0 3 [vI z])]) (fun (i,_,_,p,z,M)=>i≤m∧z=(m:Int)-i∧M=L.take i∧Reads s p ((L.drop i).flatMap Spt.ints) a2) (fun (i,_)=>m-i) ((0,none,0,a1,(m:Int),[]):Nat × Option Addr × Nat × Nat × Int × List Spt) ⟨Nat.zero_le _,by omega,rfl,hr2⟩ aS (fun x_ h_=>?_))
 obtain ⟨i,C,c,p,z,M⟩:=x_
 obtain ⟨hi,hz,hM,hp⟩:=h_
 rcases Nat.lt_or_ge i m with him | him
 · have hil:i<L.length:=by omega
   rw [List.drop_eq_getElem_cons hil,List.flatMap_cons] at hp
   obtain ⟨q,g1,g2⟩:=Reads.split hp
   have T2:=spotR rd pb s p q L[i] g1 hs
   have htk:L.take (i+1)=L.take i++[L[i]]:=(List.take_append_getElem hil).symm
   have hMl:i=M.length:=by rw [hM,List.length_take];omega
   refine aG ?_
   refine aJ ?_ (decide_eq_true (show z > 0 from (by omega)))
   refine ev_call (T2 ) [0,1] [] (fun v0_=>[.box (rd) 139 [.va (Value.string s),vI ↑q,.bl false],.box (pb) 137 [SV.pt 0 rd 0]]) rfl rfl (by decide) rfl (by simp) (fun _=>rfl) (fun _=>(newsOk_box (by repeat (first | exact trivial | refine ⟨rfl,?_⟩ | refine ⟨trivial,?_⟩)) (newsOk_box (by repeat (first | exact trivial | refine ⟨rfl,?_⟩ | refine ⟨trivial,?_⟩)) (newsOk_nil _)))) (fun _=>aL) (fun _ h10=>?_)
   refine aG ?_
   refine ev_new fun b11=>?_
   refine ev_stop (go_appendE (sz:=2) (M:=[_]) (enc:=encP) Tryz.tbs_ok [2] [] (.inr 5) (M) ([L[i]]) ((M)++([L[i]])) (i+1) rfl rfl rfl rfl rfl rfl rfl (by decide) rfl (by decide) (fun _ p=>starH_one.1 p) rfl (fun _ p=>Pt.rd p rfl) (by first | rfl | simp) (by first | rfl | omega) (aM (i+1)) (aN (i+1)) (fun _ _=>aL) (fun A12 c13 h14=>?_))
   refine aG ?_
   refine w6 ?_
   refine ev_fin (round_next ((i+1,A12,c13,q,z-1,M++[L[i]])) (?_:i+1≤m∧z-1=(↑m:Int)-(↑(i+1):Int)∧M++[L[i]]=List.take (i+1) L∧Reads s q (List.flatMap Spt.ints (List.drop (i+1) L)) a2) (show m-(i+1)<m-i from (by omega)) aS)
   exact ⟨by omega,by omega,by rw [hM,htk],g2⟩
 have hir:i=m:=by omega
 rw [List.take_of_length_le (by omega)] at hM
 subst hM hir
 rw [List.drop_of_length_le (by omega)] at hp
 obtain ⟨rfl,_⟩:=hp
 refine aG ?_
 refine aI ?_ (decide_eq_false (show ¬z > 0 from (by omega)))
 refine ev_fin (go Tryz.tbs_ok 1000 ?_)
 exact ev_fin ⟨trivial,_,rfl,((C,c)),rfl,by trivial,aF [0,1,2]⟩
 all_goals skip
set_option maxHeartbeats 1000000 in
theorem decGood (x:Rec) (h:mayR x=true) :
 Triple Tryz.prog 43 [.string (recB x)] [] [] (Sl × Sl) (fun (p,q)=>.tuple #[.agg (encR ⟨x,p.1,p.2,q.1,q.2⟩).toArray,.int .i64 0]) (fun _=>True) (fun (p,q)=>[Row 101 6 p.1 x.L.length p.2 (x.L.flatMap encE),Row 72 2 q.1 x.F.length q.2 (x.F.flatMap encP)]):=by
 have hs:=small_of_may h
 have hb:=hs.bytes
 obtain ⟨s,hS⟩:∃ s,s=recB x:=⟨_,rfl⟩
 have hsl:s.data.toList=recL x:=by rw [hS];rfl
 have hsz:s.size=(recL x).length:=by rw [←size_data,hsl]
 obtain ⟨r1,d1,l1⟩:=reads_of (s:=s) (a:=0) (vs:=x.ints) (r:=intsL [(x.L.length:Int)]++(entsL x.L++(intsL [(x.F.length:Int)]++sptsL x.F))) hs.ints (Nat.zero_le _) (by rw [List.drop_zero,hsl];rfl)
 obtain ⟨r2,d2,l2⟩:=reads_of (vs:=[(x.L.length:Int)]) (fun v hv=>by rw [List.mem_singleton.1 hv];exact i5_len (by have:=hs.len;omega)) l1 d1
 have hf:∀ {α:Type} {g:α→List Int} {l:List α},(l.flatMap fun y=>intsL (g y))=intsL (l.flatMap g):=fun {α} {g} {l}=>by
  induction l with
  | nil=>rfl
  | cons y l ih=>rw [List.flatMap_cons,List.flatMap_cons,intsL_append,ih]
 obtain ⟨r3,d3,l3⟩:=reads_of (vs:=x.L.flatMap Ent.ints) (fun v hv=>by
  obtain ⟨y,hy,hv⟩:=List.mem_flatMap.1 hv
  exact ent_i5 ⟨(hs.ents y hy).1,(hs.ents y hy).2.1⟩ (hs.ents y hy).2.2.2 v hv) l2 (by rw [d2];unfold entsL;rw [hf])
 obtain ⟨r4,d4,l4⟩:=reads_of (vs:=[(x.F.length:Int)]) (fun v hv=>by rw [List.mem_singleton.1 hv];exact i5_len (by have:=hs.flen;omega)) l3 d3
 obtain ⟨r5,_,l5⟩:=reads_of (vs:=x.F.flatMap Spt.ints) (r:=[]) (fun v hv=>by
  obtain ⟨y,hy,hv⟩:=List.mem_flatMap.1 hv
  exact spt_i5 (hs.feed y hy) v hv) l4 (by rw [d4,List.append_nil];unfold sptsL;rw [hf])
 have T5:=fun A a B b=>(encGood ⟨x,A,a,B,b⟩ h).reads (N':=[Row 101 6 A x.L.length a (x.L.flatMap encE),Row 72 2 B x.F.length b (x.F.flatMap encP)]) (fun X hX=>by
  simp only [List.mem_cons,List.not_mem_nil,or_false] at hX
  rcases hX with rfl | rfl
  · exact ⟨_,List.mem_cons_self,fun _ q=>Row.rd q⟩
  exact ⟨_,List.mem_cons_of_mem _ List.mem_cons_self,fun _ q=>Row.rd q⟩)
 simp only [←hS] at T5 ⊢
 generalize 0+(intsL x.ints).length=p1 at *
 generalize p1+(intsL [(x.L.length:Int)]).length=p2 at *
 generalize p2+(intsL (x.L.flatMap Ent.ints)).length=p3 at *
 generalize p3+(intsL [(x.F.length:Int)]).length=p4 at *
 generalize p4+(intsL (x.F.flatMap Spt.ints)).length=p5 at *
 have hll:=hs.len
 have hfl:=hs.flen
 clear hf hsl d1 d2 d3 d4 hs hS h
 obtain ⟨k,u,e,v,f,n,L,F⟩:=x
 simp only at *
 have T1:=fun rd b lt=>readInts rd b lt 54 s 0 p1 6 [k,u,e,v,f,n] [z0,z0,z0,z0,z0,z0,.slice none 0 0,.slice none 0 0] r1 (by omega) rfl (by decide) (by decide) (by decide)
 have T2:=fun rd=>readE rd s p1 p2 p3 L r2 r3 (by omega) (by omega)
 have T3:=fun rd pb=>readP rd pb s p3 p4 p5 F r4 r5 (by omega) (by omega)
 refine aT Tryz.func43 [.va (.string s)] [] (fun E=>?_) ⟨trivial,trivial⟩
 refine aG ?_
 refine ev_new fun b0=>?_
 refine ev_new fun b1=>?_
 refine ev_new fun b2=>?_
 refine ev_new fun b3=>?_
 refine ev_new fun b4=>?_
 have T4:=T1 b1 b3 b4
 refine aD T4 [1,3] [.inr 4] (fun v0_=>[.box (b1) 139 [.va (Value.string s),vI ↑p1,.bl false],.box (b3) 54 [vI k,vI u,vI e,vI v,vI f,vI n,vL none 0 0,vL none 0 0]]) fun _ h10=>?_
 refine aD (T2 (b1)) [1] [] (fun (v0_,v1_)=>[.box (b1) 139 [.va (Value.string s),vI ↑p3,.bl false],.fact (Row 101 6 v0_ L.length v1_ (List.flatMap encE L))]) fun ⟨x11,x12⟩ h13=>?_
 refine ev_call (T3 (b1) (b2)) [1,2] [] (fun (v0_,v1_)=>[.box (b1) 139 [.va (Value.string s),vI ↑p5,.bl false],.box (b2) 137 [SV.pt 1 b1 0],.fact (Row 72 2 v0_ F.length v1_ (List.flatMap encP F))]) rfl rfl (by decide) rfl (by simp) (fun _=>rfl) (fun _=>(newsOk_box (by repeat (first | exact trivial | refine ⟨rfl,?_⟩ | refine ⟨trivial,?_⟩)) (newsOk_box (by repeat (first | exact trivial | refine ⟨rfl,?_⟩ | refine ⟨trivial,?_⟩)) (newsOk_fact (newsOk_nil _))))) (fun _=>aL) (fun ⟨x14,x15⟩ h16=>?_)
 refine aG ?_
 refine aC (T5 (x11) (x12) (x14) (x15)) [] [.inr 5,.inr 6] fun _ h17=>?_
 refine aI ?_
 refine aI ?_ (dec_no (by rfl))
 exact ev_fin ⟨trivial,_,rfl,(((x11,x12),x14,x15)),rfl,by trivial,aF [5,6]⟩
 all_goals skip
def RecsRd (L:List RecS):Asn:=⟨fun h=>∀ y∈L,y.rdL.holds h∧y.rdF.holds h,fun e p y hy=>⟨Asn.mono _ e (p y hy).1,Asn.mono _ e (p y hy).2⟩⟩
def Both (x X:StaS):Asn:=Asn.and x.rd X.rd
def recsR (L:List RecS):List Rec:=L.map (·.r)
theorem encR_len (y:RecS):(encR y).length=8:=rfl
theorem both_step (x X X':StaS) (h:Hp) (p:Asn.starH [Both x X,Gives X.rd X'.rd] h):∃ _:Unit,Asn.starH [Both x X',Asn.tt] h:=by
 obtain ⟨h1,h2,_,a1,a2,p1,p2⟩:=p
 refine ⟨(),h,Hp.emp,Hp.dis_emp _,Hp.le_refl _,Hp.emp_le _,⟨Asn.mono _ a1 p1.1,(starH_one.1 p2) h a2 (Asn.mono _ a1 p1.2)⟩,starH_one.2 trivial⟩
theorem writeS_stop {l:List Rec} {r:Rec} {m:List Rec} {x y:Sta} (h:writeS x l=some y) (e:stepS y r=none):writeS x (l++r::m)=none:=by
 induction l generalizing x with
 | nil=>cases h;simp [writeS,e]
 |
  cons a l ih =>
  rw [List.cons_append,writeS]
  rw [writeS] at h
  cases hs:stepS x a with
  | none=>rfl
  | some z=>rw [hs] at h;exact ih h
theorem writeS_snoc {l:List Rec} {r:Rec} {x y z:Sta} (h:writeS x l=some y) (e:stepS y r=some z):writeS x (l++[r])=some z:=by
 induction l generalizing x with
 | nil=>cases h;simp [writeS,e]
 |
  cons a l ih =>
  rw [List.cons_append,writeS]
  rw [writeS] at h
  cases hs:stepS x a with
  | none=>rw [hs] at h;cases h
  | some w=>rw [hs] at h;exact ih h
theorem both_back (x X:StaS) (h:Hp) (p:Asn.starH [Both x X] h):∃ _:Unit,Asn.starH [Both x x] h:=⟨(),starH_one.2 ⟨(starH_one.1 p).1,(starH_one.1 p).1⟩⟩
def WriteR (L:List RecS) (x:Sta) (W:WK) (D:DK):WK × DK × Int × Bool:=match writeS x (recsR L) with
 | none=>(W,D,2,false)
 | some _=>if L.length=0 then (W,D,0,false) else let r:=appW W D ((recsR L).map recB);(r.1,r.2.1,r.2.2,decide (r.2.2=0))
set_option maxHeartbeats 2000000 in
theorem writeST (p w q:Nat) (x:StaS) (sure:Nat) (dirty:Bool) (W:WK) (D:DK) (C:Option Addr) (L:List RecS) (n c:Nat) (hn:n=L.length) (hn1:n≤1000) (hL:∀ y∈L,y.r.L.length≤2000∧y.r.F.length≤100000) (hD:okD D) (hW:okW W) (hx:okS x.abs) (R:WK × DK × Int × Bool) (hR:R=WriteR L x.abs W D) :
 Triple Tryz.prog 12 [pP p,.slice C n c] [StoP p w x sure dirty,WalM w q W,DiskM q D,x.rd] [TabA,Rd 8 C n (L.flatMap encR),RecsRd L] StaS (fun _=>.int .i64 R.2.2.1) (fun X=>if R.2.2.2=true then writeS x.abs (recsR L)=some X.abs else X=x) (fun X=>[Both x X,StoP p w X sure (R.2.2.2 || dirty),WalM w q R.1,DiskM q R.2.1]):=by
 refine triple_intro Tryz.tbs_ok Tryz.func12 rfl [.pt 0 p 0,vL C n c] [.box p 64 (stoV w x sure dirty),.fact (WalM w q W),.fact (DiskM q D),.fact x.rd] ⟨rfl,trivial,trivial⟩ rfl (by simp [stoV,svG,SV.good,SV.goodL]) ?_
 intro E
 refine aG ?_
 refine ev_inline Tryz.tbs_ok Tryz.func31 rfl rfl ?_
 refine aG ?_
 refine ev_fin ⟨trivial,aL,_,rfl,?_⟩
 refine aG ?_
 refine ev_new fun b10=>?_
 refine ev_stop (go_ghost [3] (M:=[x.rd]) (X:=Unit) (fun _=>[.fact (Both x x)]) rfl (by decide) (fun h p=>⟨(),starH_one.2 ⟨starH_one.1 p,starH_one.1 p⟩⟩) (fun _=>newsOk_fact (fun x hx=>by cases hx)) (fun _=>by repeat (first | exact trivial | refine ⟨rfl,?_⟩)) (fun _=>?_))
 refine go_fact (Row 9 1 none 0 0 (([]:List ByteArray).flatMap encS)) (Row.nilE _ _) ?_
 refine aG ?_
 refine ev_stop (go_loopR [4,6,8,9,10,11,18,21,22,23,24,25,26,27,28,29,30,31,32,33,34,35,36,37,38,39,40,41,42,43,44,45,46,47,48,49,50,51,52,53,54,55] (fun (i,_,T,t,_)=>[(6,vL T i t),(21,vI (i:Nat))]) (fun (i,X,T,t,M)=>[(3,.fact (Both x X)),(4,.box b10 62 (svSt X)),(5,.fact (Row 9 1 T i t (M.flatMap encS)))]) (fun (i,X,_,_,M)=>i≤n∧writeS x.abs (recsR (L.take i))=some X.abs∧M=(recsR (L.take i)).map recB) (fun (i,_)=>n-i) ((0,x,none,0,[]):Nat × StaS × Option Addr × Nat × List ByteArray) ⟨Nat.zero_le _,rfl,rfl⟩ aS (fun x_ h_=>?_))
 obtain ⟨i,X,T,t,M⟩:=x_
 obtain ⟨hi,hX,hM⟩:=h_
 have hok:okS X.abs:=(writeS_some hX hx).1
 have hXF:X.F.length≤256:=(feed_small hok).1
 have hXR:∀ g∈X.regs,okR g.r=true:=fun g hg=>hok.regs _ (by rw [abs_R];exact List.mem_map_of_mem hg)
 rcases Nat.lt_or_ge i n with him | him
 · have hil:i<L.length:=by omega
   have hm:L[i]∈L:=List.getElem_mem hil
   have hlim:=hL L[i] hm
   have hrd:∀ Z∈[X.rd,L[i].rdL,L[i].rdF],∃ A∈[Both x X,RecsRd L],∀ h,A.holds h→Z.holds h:=fun Z hZ=>by
    simp only [List.mem_cons,List.not_mem_nil,or_false] at hZ
    rcases hZ with rfl | rfl | rfl
    · exact ⟨_,List.mem_cons_self,fun _ q=>q.2⟩
    · exact ⟨_,List.mem_cons_of_mem _ List.mem_cons_self,fun _ q=>(q L[i] hm).1⟩
    exact ⟨_,List.mem_cons_of_mem _ List.mem_cons_self,fun _ q=>(q L[i] hm).2⟩
   have hre:∀ Z∈[L[i].rdL,L[i].rdF],∃ A∈[RecsRd L],∀ h,A.holds h→Z.holds h:=fun Z hZ=>by
    simp only [List.mem_cons,List.not_mem_nil,or_false] at hZ
    rcases hZ with rfl | rfl
    · exact ⟨_,List.mem_cons_self,fun _ q=>(q _ hm).1⟩
    exact ⟨_,List.mem_cons_self,fun _ q=>(q _ hm).2⟩
   have hcut:recsR L=recsR (L.take i)++L[i].r::recsR (L.drop (i+1)):=by
    unfold recsR
    rw [←List.map_cons,←List.drop_eq_getElem_cons hil,←List.map_append,List.take_append_drop]
   cases hst:stepS X.abs L[i].r with
   |
    none =>
    have hno:=writeS_stop (m:=recsR (L.drop (i+1))) hX hst
    rw [←hcut] at hno
    obtain rfl:R=(W,D,2,false):=by rw [hR];unfold WriteR;rw [hno]
    unfold stepS at hst
    have hl1:L[i].r.L.length≤1000000:=by omega
    have hl2:L[i].r.F.length≤1000000:=by omega
    cases hmay:mayR L[i].r with
    |
     true =>
     have T2:=(encGood L[i] hmay).reads (N':=[RecsRd L]) hre
     by_cases h4:L[i].r.k=4
     · refine aG ?_
       refine aJ ?_ (decide_eq_true (show (↑i:Int)<(↑n:Int) from (by omega)))
       refine ev_stop (go_indexE (sz:=8) Tryz.tbs_ok (.inl 1) (i) rfl rfl rfl rfl rfl rfl (by omega) rfl (fun _ h=>h) (fun g130 o132 e131=>?_))
       subst e131
       refine aG ?_
       have l133:i<(L).length:=(by omega)
       refine ev_stop (go_loadE Tryz.tbs_ok (.inl 1) (i) 0 rfl rfl rfl rfl (fun _ h=>h) (by omega) (fun _=>rfl) (by omega) l133 (by decide) ?_)
       refine aG ?_
       refine ev_new fun b134=>?_
       refine aI ?_ (ne_no (by with_reducible assumption))
       refine ev_ghost [3] (M:=[Both x X]) (X:=Unit) (fun _=>[.fact (Both x x)]) rfl (by decide) (both_back x X) (fun _=>newsOk_fact (fun x hx=>by cases hx)) (fun _=>by repeat (first | exact trivial | refine ⟨rfl,?_⟩)) (fun _=>?_)
       refine aC T2 [] [.inl 2] fun _ h150=>?_
       exact ev_fin ⟨trivial,_,rfl,(x),rfl,by trivial,aF [3,0,1,2]⟩
     by_cases h5:L[i].r.k=5
     · refine aG ?_
       refine aJ ?_ (decide_eq_true (show (↑i:Int)<(↑n:Int) from (by omega)))
       refine ev_stop (go_indexE (sz:=8) Tryz.tbs_ok (.inl 1) (i) rfl rfl rfl rfl rfl rfl (by omega) rfl (fun _ h=>h) (fun g180 o182 e181=>?_))
       subst e181
       refine aG ?_
       have l183:i<(L).length:=(by omega)
       refine ev_stop (go_loadE Tryz.tbs_ok (.inl 1) (i) 0 rfl rfl rfl rfl (fun _ h=>h) (by omega) (fun _=>rfl) (by omega) l183 (by decide) ?_)
       refine aG ?_
       refine ev_new fun b184=>?_
       refine aJ ?_ (ne_yes (by with_reducible assumption))
       refine aI ?_ (ne_no (by with_reducible assumption))
       refine ev_ghost [3] (M:=[Both x X]) (X:=Unit) (fun _=>[.fact (Both x x)]) rfl (by decide) (both_back x X) (fun _=>newsOk_fact (fun x hx=>by cases hx)) (fun _=>by repeat (first | exact trivial | refine ⟨rfl,?_⟩)) (fun _=>?_)
       refine aC T2 [] [.inl 2] fun _ h200=>?_
       refine aJ ?_ (by simp [*])
       exact ev_fin ⟨trivial,_,rfl,(x),rfl,by trivial,aF [3,0,1,2]⟩
     have hap:applyS X.abs L[i].r=none:=by rw [if_neg (by rw [hmay];simp [h4,h5])] at hst;exact hst
     have T1:=(applyBad X L[i] hXR hlim.1 hlim.2 hap).reads hrd
     refine aG ?_
     refine aJ ?_ (decide_eq_true (show (↑i:Int)<(↑n:Int) from (by omega)))
     refine ev_stop (go_indexE (sz:=8) Tryz.tbs_ok (.inl 1) (i) rfl rfl rfl rfl rfl rfl (by omega) rfl (fun _ h=>h) (fun g230 o232 e231=>?_))
     subst e231
     refine aG ?_
     have l233:i<(L).length:=(by omega)
     refine ev_stop (go_loadE Tryz.tbs_ok (.inl 1) (i) 0 rfl rfl rfl rfl (fun _ h=>h) (by omega) (fun _=>rfl) (by omega) l233 (by decide) ?_)
     refine aG ?_
     refine ev_new fun b234=>?_
     refine aJ ?_ (ne_yes (by with_reducible assumption))
     refine aJ ?_ (ne_yes (by with_reducible assumption))
     refine aC T1 [] [.inr 3,.inl 2] fun x235 h236=>?_
     refine ev_ghost [3] (M:=[Both x X]) (X:=Unit) (fun _=>[.fact (Both x x)]) rfl (by decide) (both_back x X) (fun _=>newsOk_fact (fun x hx=>by cases hx)) (fun _=>by repeat (first | exact trivial | refine ⟨rfl,?_⟩)) (fun _=>?_)
     refine aC T2 [] [.inl 2] fun _ h250=>?_
     refine aJ ?_
     exact ev_fin ⟨trivial,_,rfl,(x),rfl,by trivial,aF [3,0,1,2]⟩
    |
     false =>
     have T2:=(encBad L[i] hl1 hl2 hmay).reads (N':=[RecsRd L]) hre
     by_cases h4:L[i].r.k=4
     · refine aG ?_
       refine aJ ?_ (decide_eq_true (show (↑i:Int)<(↑n:Int) from (by omega)))
       refine ev_stop (go_indexE (sz:=8) Tryz.tbs_ok (.inl 1) (i) rfl rfl rfl rfl rfl rfl (by omega) rfl (fun _ h=>h) (fun g280 o282 e281=>?_))
       subst e281
       refine aG ?_
       have l283:i<(L).length:=(by omega)
       refine ev_stop (go_loadE Tryz.tbs_ok (.inl 1) (i) 0 rfl rfl rfl rfl (fun _ h=>h) (by omega) (fun _=>rfl) (by omega) l283 (by decide) ?_)
       refine aG ?_
       refine ev_new fun b284=>?_
       refine aI ?_ (ne_no (by with_reducible assumption))
       refine ev_ghost [3] (M:=[Both x X]) (X:=Unit) (fun _=>[.fact (Both x x)]) rfl (by decide) (both_back x X) (fun _=>newsOk_fact (fun x hx=>by cases hx)) (fun _=>by repeat (first | exact trivial | refine ⟨rfl,?_⟩)) (fun _=>?_)
       refine aC T2 [] [.inl 2] fun _ h300=>?_
       exact ev_fin ⟨trivial,_,rfl,(x),rfl,by trivial,aF [3,0,1,2]⟩
     by_cases h5:L[i].r.k=5
     · refine aG ?_
       refine aJ ?_ (decide_eq_true (show (↑i:Int)<(↑n:Int) from (by omega)))
       refine ev_stop (go_indexE (sz:=8) Tryz.tbs_ok (.inl 1) (i) rfl rfl rfl rfl rfl rfl (by omega) rfl (fun _ h=>h) (fun g330 o332 e331=>?_))
       subst e331
       refine aG ?_
       have l333:i<(L).length:=(by omega)
       refine ev_stop (go_loadE Tryz.tbs_ok (.inl 1) (i) 0 rfl rfl rfl rfl (fun _ h=>h) (by omega) (fun _=>rfl) (by omega) l333 (by decide) ?_)
       refine aG ?_
       refine ev_new fun b334=>?_
       refine aJ ?_ (ne_yes (by with_reducible assumption))
       refine aI ?_ (ne_no (by with_reducible assumption))
       refine ev_ghost [3] (M:=[Both x X]) (X:=Unit) (fun _=>[.fact (Both x x)]) rfl (by decide) (both_back x X) (fun _=>newsOk_fact (fun x hx=>by cases hx)) (fun _=>by repeat (first | exact trivial | refine ⟨rfl,?_⟩)) (fun _=>?_)
       refine aC T2 [] [.inl 2] fun _ h350=>?_
       refine aJ ?_ (by simp [*])
       exact ev_fin ⟨trivial,_,rfl,(x),rfl,by trivial,aF [3,0,1,2]⟩
     cases hap:applyS X.abs L[i].r with
     |
      none =>
      have T1:=(applyBad X L[i] hXR hlim.1 hlim.2 hap).reads hrd
      refine aG ?_
      refine aJ ?_ (decide_eq_true (show (↑i:Int)<(↑n:Int) from (by omega)))
      refine ev_stop (go_indexE (sz:=8) Tryz.tbs_ok (.inl 1) (i) rfl rfl rfl rfl rfl rfl (by omega) rfl (fun _ h=>h) (fun g380 o382 e381=>?_))
      subst e381
      refine aG ?_
      have l383:i<(L).length:=(by omega)
      refine ev_stop (go_loadE Tryz.tbs_ok (.inl 1) (i) 0 rfl rfl rfl rfl (fun _ h=>h) (by omega) (fun _=>rfl) (by omega) l383 (by decide) ?_)
      refine aG ?_
      refine ev_new fun b384=>?_
      refine aJ ?_ (ne_yes (by with_reducible assumption))
      refine aJ ?_ (ne_yes (by with_reducible assumption))
      refine aC T1 [] [.inr 3,.inl 2] fun x385 h386=>?_
      refine ev_ghost [3] (M:=[Both x X]) (X:=Unit) (fun _=>[.fact (Both x x)]) rfl (by decide) (both_back x X) (fun _=>newsOk_fact (fun x hx=>by cases hx)) (fun _=>by repeat (first | exact trivial | refine ⟨rfl,?_⟩)) (fun _=>?_)
      refine aC T2 [] [.inl 2] fun _ h400=>?_
      refine aJ ?_
      exact ev_fin ⟨trivial,_,rfl,(x),rfl,by trivial,aF [3,0,1,2]⟩
     |
      some z =>
      have T1:=(applyT X L[i] z hXR (by omega) hlim.1 hlim.2 hap).reads hrd
      refine aG ?_
      refine aJ ?_ (decide_eq_true (show (↑i:Int)<(↑n:Int) from (by omega)))
      refine ev_stop (go_indexE (sz:=8) Tryz.tbs_ok (.inl 1) (i) rfl rfl rfl rfl rfl rfl (by omega) rfl (fun _ h=>h) (fun g430 o432 e431=>?_))
      subst e431
      refine aG ?_
      have l433:i<(L).length:=(by omega)
      refine ev_stop (go_loadE Tryz.tbs_ok (.inl 1) (i) 0 rfl rfl rfl rfl (fun _ h=>h) (by omega) (fun _=>rfl) (by omega) l433 (by decide) ?_)
      refine aG ?_
      refine ev_new fun b434=>?_
      refine aJ ?_ (ne_yes (by with_reducible assumption))
      refine aJ ?_ (ne_yes (by with_reducible assumption))
      refine aC T1 [] [.inr 3,.inl 2] fun x435 h436=>?_
      refine ev_ghost [3] (M:=[Both x X]) (X:=Unit) (fun _=>[.fact (Both x x)]) rfl (by decide) (both_back x X) (fun _=>newsOk_fact (fun x hx=>by cases hx)) (fun _=>by repeat (first | exact trivial | refine ⟨rfl,?_⟩)) (fun _=>?_)
      refine aC T2 [] [.inl 2] fun _ h450=>?_
      refine aI (aJ ?_)
      exact ev_fin ⟨trivial,_,rfl,(x),rfl,by trivial,aF [3,0,1,2]⟩
   |
    some z =>
    obtain ⟨h4,h5,hmay,hap⟩:=stepS_some hst
    have T1:=(applyT X L[i] z hXR (by omega) hlim.1 hlim.2 hap).reads hrd
    have T2:=(encGood L[i] hmay).reads (N':=[RecsRd L]) hre
    refine aG ?_
    refine aJ ?_ (decide_eq_true (show (↑i:Int)<(↑n:Int) from (by omega)))
    refine ev_stop (go_indexE (sz:=8) Tryz.tbs_ok (.inl 1) (i) rfl rfl rfl rfl rfl rfl (by omega) rfl (fun _ h=>h) (fun g30 o32 e31=>?_))
    subst e31
    refine aG ?_
    have l33:i<(L).length:=(by omega)
    refine ev_stop (go_loadE Tryz.tbs_ok (.inl 1) (i) 0 rfl rfl rfl rfl (fun _ h=>h) (by omega) (fun _=>rfl) (by omega) l33 (by decide) ?_)
    refine aG ?_
    refine ev_new fun b34=>?_
    refine aJ ?_ (ne_yes (by with_reducible assumption))
    refine aJ ?_ (ne_yes (by with_reducible assumption))
    refine aC T1 [] [.inr 3,.inl 2] fun x35 h36=>?_
    refine ev_ghost [3,7] (M:=[Both x X,Gives X.rd x35.rd]) (X:=Unit) (fun _=>[.fact (Both x x35),.dead none]) rfl (by decide) (both_step x X x35) (fun _=>newsOk_fact (fun x hx=>by rw [List.mem_singleton.1 hx];trivial)) (fun _=>by repeat (first | exact trivial | refine ⟨rfl,?_⟩)) (fun _=>?_)
    refine aC T2 [] [.inl 2] fun _ h50=>?_
    refine aI (aI ?_)
    refine ev_new fun b51=>?_
    refine ev_stop (go_appendE (sz:=1) (M:=[_]) (enc:=encS) Tryz.tbs_ok [5] [] (.inr 8) (M) ([recB L[i].r]) ((M)++([recB L[i].r])) (i+1) rfl rfl rfl rfl rfl rfl rfl (by decide) rfl (by decide) (fun _ p=>starH_one.1 p) rfl (fun _ p=>Pt.rd p rfl) (by first | rfl | simp) (by first | rfl | omega) (aM (i+1)) (aN (i+1)) (fun _ _=>aL) (fun A52 c53 h54=>?_))
    refine aG ?_
    refine wN (i+1) ?_
    refine ev_fin (round_next ((i+1,x35,A52,c53,M++[recB L[i].r])) (?_:i+1≤n∧writeS x.abs (recsR (List.take (i+1) L))=some x35.abs∧M++[recB L[i].r]=List.map recB (recsR (List.take (i+1) L))) (show n-(i+1)<n-i from (by omega)) aS)
    have ht:recsR (L.take (i+1))=recsR (L.take i)++[L[i].r]:=by unfold recsR;rw [←List.take_append_getElem hil,List.map_append];rfl
    rw [ht,List.map_append,hM]
    exact ⟨by omega,writeS_snoc hX (by rw [hst];exact congrArg some (Eq.symm ‹x35.abs=z›)),rfl⟩
 obtain rfl:i=n:=by omega
 have htk:L.take i=L:=by rw [hn];exact List.take_length
 rw [htk] at hX hM
 have hmy:=(writeS_some hX hx).2.2.2
 have hMl:M.length=i:=by rw [hM,List.length_map];unfold recsR;rw [List.length_map,hn]
 rcases Nat.eq_zero_or_pos i with h0 | h0
 · obtain rfl:R=(W,D,0,false):=by rw [hR];unfold WriteR;rw [hX];dsimp only;rw [if_pos (by omega)]
   refine go_ghost [3] (M:=[Both x X]) (X:=Unit) (fun _=>[.fact (Both x x)]) rfl (by decide) (both_back x X) (fun _=>newsOk_fact (fun x hx=>by cases hx)) (fun _=>by repeat (first | exact trivial | refine ⟨rfl,?_⟩)) (fun _=>?_)
   refine aG ?_
   refine aI ?_ (decide_eq_false (show ¬(↑i:Int)<(↑i:Int) from (by omega)))
   refine ev_fin (go Tryz.tbs_ok 1000 ?_)
   refine aJ ?_ (beq_iff_eq.2 (show (↑i:Int)=0 from (by omega)))
   exact ev_fin ⟨trivial,_,rfl,(x),rfl,by trivial,aF [3,0,1,2]⟩
   all_goals skip
 have T3:=(appWT w q W D T M i t hMl.symm (by omega) (fun s hs=>by
  rw [hM] at hs
  obtain ⟨r,hr,rfl⟩:=List.mem_map.1 hs
  have:=(small_of_may (hmy r hr)).bytes
  exact Nat.le_trans this (by decide)) hD hW).reads (N':=[TabA,Row 9 1 T i t (M.flatMap encS)]) (fun Z hZ=>by
   simp only [List.mem_cons,List.not_mem_nil,or_false] at hZ
   rcases hZ with rfl | rfl
   · exact ⟨_,List.mem_cons_self,fun _ q=>q⟩
   exact ⟨_,List.mem_cons_of_mem _ List.mem_cons_self,fun _ q=>Row.rd q⟩)
 obtain ⟨r,hr⟩:∃ r,r=appW W D M:=⟨_,rfl⟩
 rw [←hr] at T3
 have hR2:R=(r.1,r.2.1,r.2.2,decide (r.2.2=0)):=by rw [hR];unfold WriteR;rw [hX];dsimp only;rw [if_neg (by omega),←hM,←hr]
 by_cases he:r.2.2=0
 · rw [he] at T3
   rw [decide_eq_true he,he] at hR2
   subst hR2
   refine aG ?_
   refine aI ?_ (decide_eq_false (show ¬(↑i:Int)<(↑i:Int) from (by omega)))
   refine ev_fin (go Tryz.tbs_ok 1000 ?_)
   refine aI ?_ (beq_eq_false_iff_ne.2 (show ¬(↑i:Int)=0 from (by omega)))
   refine aC T3 [1,2] [.inl 0,.inr 5] fun _ h90=>?_
   refine aI ?_
   exact ev_fin ⟨trivial,_,rfl,(X),rfl,by trivial,aF [3,0,1,2]⟩
   all_goals skip
 rw [decide_eq_false he] at hR2
 subst hR2
 refine go_ghost [3] (M:=[Both x X]) (X:=Unit) (fun _=>[.fact (Both x x)]) rfl (by decide) (both_back x X) (fun _=>newsOk_fact (fun x hx=>by cases hx)) (fun _=>by repeat (first | exact trivial | refine ⟨rfl,?_⟩)) (fun _=>?_)
 refine aG ?_
 refine aI ?_ (decide_eq_false (show ¬(↑i:Int)<(↑i:Int) from (by omega)))
 refine ev_fin (go Tryz.tbs_ok 1000 ?_)
 refine aI ?_ (beq_eq_false_iff_ne.2 (show ¬(↑i:Int)=0 from (by omega)))
 refine aC T3 [1,2] [.inl 0,.inr 5] fun _ h110=>?_
 refine aJ ?_ (ne_yes (by with_reducible assumption))
 exact ev_fin ⟨trivial,_,rfl,(x),rfl,by trivial,aF [3,0,1,2]⟩
 all_goals skip
theorem applyS_keeps {x y:Sta} {r:Rec} (h:applyS x r=some y) (hR:∀ g∈x.R,okR g=true):(∀ g∈y.R,okR g=true)∧x.F.length≤y.F.length:=by
 unfold applyS at h
 split at h
 · split at h
   · rename_i hc
     cases h
     exact ⟨hR,by rw [hc.1];exact Nat.zero_le _⟩
   cases h
 split at h
 · split at h
   · cases h
   rename_i r' hr
   cases h
   refine ⟨fun g hg=>?_,?_⟩
   · rcases List.mem_or_eq_of_mem_set hg with hg | rfl
     · exact hR g hg
     exact (applyR_ok hr).2
   dsimp only
   split
   · rw [List.length_append];omega
   exact Nat.le_refl _
 cases h
theorem foldS_keeps {l:List Rec}:∀ {x z:Sta},foldS x l=some z→x.F.length≤z.F.length∨¬ (∀ g∈x.R,okR g=true):=by
 induction l with
 | nil=>intro x z h;cases h;exact .inl (Nat.le_refl _)
 |
  cons r l ih =>
  intro x z h
  rw [foldS] at h
  by_cases hR:∀ g∈x.R,okR g=true
  · cases hs:applyS x r with
    | none=>rw [hs] at h;cases h
    |
     some y =>
     rw [hs] at h
     obtain ⟨h1,h2⟩:=applyS_keeps hs hR
     rcases ih h with h3 | h3
     · exact .inl (by omega)
     exact absurd h1 h3
  exact .inr hR
def stoZ (w:Nat) (x:StaS):List SV:=vP w::(svG x.r0++(svG x.r1++(svG x.r2++(svG x.r3++[vL x.A x.F.length x.c,vI 0,.bl false]))))
theorem zero_rd:∀ h,zeroSt.rd.holds h:=fun h=>⟨fun y hy=>by
 simp only [StaS.regs,zeroSt,List.mem_cons,List.not_mem_nil,or_false,or_self] at hy
 subst hy
 exact ⟨⟨rfl,(fun c hc=>by cases hc),fun h0=>absurd h0 (by decide)⟩,Nat.le_refl _⟩,⟨rfl,(fun c hc=>by cases hc),fun h0=>absurd h0 (by decide)⟩,Nat.le_refl _,fun _=>rfl⟩
set_option maxHeartbeats 2000000 in
theorem openST (q:Nat) (D:DK) (hD:okD D) (h:(openD D).2.1=0) (rs:List Rec) (hrs:(openD D).2.2.2=rs.map recB) (hmay:∀ r∈rs,mayR r=true) (hn:rs.length≤100000) (z:Sta) (hz:foldS noSta rs=some z) (hok:okS z) :
 Triple Tryz.prog 22 [pP q] [DiskM q D] [TabA] (Nat × Nat × StaS) (fun (p,_,_)=>.tuple #[pP p,.int .i64 0]) (fun (_,_,X)=>X.abs=z) (fun (p,w,X)=>[X.rd,StoP p w X z.F.length false,WalM w q (openD D).2.2.1,DiskM q (openD D).1]):=by
 have T1:=openOk q D hD h
 obtain ⟨ps,hps⟩:∃ ps,ps=rs.map recB:=⟨_,rfl⟩
 obtain ⟨n,hnl⟩:∃ n,n=ps.length:=⟨_,rfl⟩
 rw [hrs,←hps,←hnl] at T1
 obtain ⟨W',hW'⟩:∃ W',W'=(openD D).2.2.1:=⟨_,rfl⟩
 obtain ⟨D',hD'⟩:∃ D',D'=(openD D).1:=⟨_,rfl⟩
 rw [←hW',←hD'] at T1 ⊢
 refine aT Tryz.func22 [vP q] [.fact (DiskM q D)] (fun E=>?_) ⟨trivial,trivial⟩
 refine go_fact zeroSt.rd zero_rd ?_
 refine aG ?_
 refine aC T1 [0] [.inl 0] fun ⟨x10,x11,x12⟩ h13=>?_
 refine aI ?_
 refine ev_new fun b14=>?_
 have hnr:n=rs.length:=by rw [hnl,hps,List.length_map]
 refine ev_stop (go_loopR [2,3,9,10,11,12,13,15,23,27,28,29,30,31,32,33,34,35,36,37,38,39,40,41,42,43,44,45,46,47,48,49,50,51,52] (fun (i,_)=>[(27,vI (i:Nat))]) (fun (i,X)=>[(1,.fact X.rd),(4,.box b14 64 (stoZ x10 X))]) (fun (i,X)=>i≤n∧foldS X.abs (rs.drop i)=some z∧∀ g∈X.abs.R,okR g=true) (fun (i,_)=>n-i) ((0,zeroSt):Nat × StaS) ⟨Nat.zero_le _,hz,okS_no.regs⟩ aS (fun x_ h_=>?_))
 obtain ⟨i,X⟩:=x_
 obtain ⟨hi,hX,hXR⟩:=h_
 have hXF:X.F.length≤256:=by
  rcases foldS_keeps hX with h1 | h1
  · exact Nat.le_trans h1 (feed_small hok).1
  exact absurd hXR h1
 rcases Nat.lt_or_ge i n with him | him
 · have hil:i<rs.length:=by omega
   have hip:i<ps.length:=by omega
   have hpi:ps[i]=recB rs[i]:=by simp only [hps,List.getElem_map]
   have hmi:=hmay rs[i] (List.getElem_mem hil)
   have hlen:=(small_of_may hmi).len
   have hflen:=(small_of_may hmi).flen
   rw [List.drop_eq_getElem_cons hil,foldS] at hX
   cases hap:applyS X.abs rs[i] with
   | none=>rw [hap] at hX;cases hX
   |
    some y =>
    rw [hap] at hX
    have T2:=decGood rs[i] hmi
    rw [←hpi] at T2
    have T3:=fun A a B b=>((applyT X ⟨rs[i],A,a,B,b⟩ y (fun g hg=>hXR _ (by rw [abs_R];exact List.mem_map_of_mem hg)) (by omega) (by show rs[i].L.length≤2000;omega) (by show rs[i].F.length≤100000;omega) hap).lend [X.rd,Row 101 6 A rs[i].L.length a (rs[i].L.flatMap encE),Row 72 2 B rs[i].F.length b (rs[i].F.flatMap encP)] (fun h ⟨h1,h2,_,a1,a2,p1,h3,h4,_,a3,a4,p2,p3⟩ Z hZ=>by
     simp only [List.mem_cons,List.not_mem_nil,or_false] at hZ
     rcases hZ with rfl | rfl | rfl
     · exact Asn.mono _ a1 p1
     · exact Asn.mono _ (a3.trans a2) (Row.rd p2)
     exact Asn.mono _ (a4.trans a2) (Row.rd (starH_one.1 p3)))).imp' (post':=fun x'=>[x'.rd]) (fun x' h g ⟨h1,h2,_,a1,a2,p1,h3,h4,_,a3,a4,p2,p3⟩=>⟨x',rfl,g,starH_one.2 (p1 h a1 (Asn.mono _ (a3.trans a2) p2))⟩)
    refine aG ?_
    refine aJ ?_ (decide_eq_true (show (↑i:Int)<(↑n:Int) from (by omega)))
    refine ev_stop (go_index0 (sz:=1) Tryz.tbs_ok (.inr 3) (i) rfl rfl rfl rfl rfl rfl (by omega) rfl Row.at0 (fun g30 e31=>?_))
    subst e31
    refine aG ?_
    have l32:i<(ps).length:=(by omega)
    refine ev_stop (go_loadE Tryz.tbs_ok (.inr 3) (i) 0 rfl rfl rfl rfl (fun _ h=>Row.rd h) (by omega) (fun _=>rfl) (by omega) l32 (by decide) ?_)
    refine aG ?_
    refine aC T2 [] [] fun ⟨x33,x34,x35⟩ h36=>?_
    refine ev_new fun b37=>?_
    refine aI ?_
    refine ev_stop (go_draw Tryz.tbs_ok false [7] [(0,true),(1,true),(2,true),(3,true),(5,true),(4,false),(6,false),(7,false),(8,true),(9,true),(10,false),(11,false),(12,false),(13,false)] rfl ?_)
    refine aG (aE (aE ?_))
    refine aC (T3 (x33.fst) (x33.snd) (x34) (x35)) [1,5,6] [] fun x38 h39=>?_
    refine aE (aE (aE (aE (aE (aK (aI ?_))))))
    refine wN (i+1) ?_
    refine ev_fin (round_next ((i+1,x38)) (?_:i+1≤n∧foldS x38.abs (List.drop (i+1) rs)=some z∧∀ (g:Reg),g∈x38.abs.R→okR g=true) (show n-(i+1)<n-i from (by omega)) aS)
    have e:x38.abs=y := ‹_›
    rw [e]
    exact ⟨by omega,hX,(applyS_keeps hap hXR).1⟩
 obtain rfl:i=n:=by omega
 rw [hnr,List.drop_length] at hX
 obtain rfl:X.abs=z:=by cases hX;rfl
 have T4:=toldT X X.A X.F X.F.length X.c rfl (by omega)
 rw [show toldF X.abs.R X.F=true from hok.told] at T4
 have T5:=T4.reads (N':=[X.rd]) (fun Z hZ=>by
  obtain rfl:=List.mem_singleton.1 hZ
  exact ⟨_,List.mem_cons_self,fun _ q=>q.2.1⟩)
 refine aG ?_
 refine aI ?_ (decide_eq_false (show ¬(↑i:Int)<(↑i:Int) from (by omega)))
 refine ev_fin (go Tryz.tbs_ok 1000 ?_)
 refine ev_stop (go_draw Tryz.tbs_ok true [4] [(0,true),(1,true),(2,true),(3,true),(4,true),(5,true),(6,true),(7,true),(8,true),(9,false),(10,false)] rfl ?_)
 refine aG (aE ?_)
 refine aC T5 [] [.inr 1] fun _ h90=>?_
 refine aE (aE (aI ?_))
 exact ev_fin ⟨trivial,_,rfl,((b14,x10,X)),rfl,by trivial,aF [1,4,0,2]⟩
 all_goals skip
theorem ck_len (x:Sta) (h:x.R.length=4):(ckR x).length≤5:=by
 obtain ⟨R,F⟩:=x
 match R,h with
 |
  [a,b,c,d],_ =>
  have e:∀ (p:Prop) [Decidable p] (r:Rec),(if p then [r] else []).length≤1:=fun p _ r=>by split<;>simp
  have e':(if F=[] then [] else [feedR F]).length≤1:=by split<;>simp
  have h1:=e (0<a.p) (baseR 0 a)
  have h2:=e (0<b.p) (baseR (0+1) b)
  have h3:=e (0<c.p) (baseR (0+1+1) c)
  have h4:=e (0<d.p) (baseR (0+1+1+1) d)
  simp only [ckR,basesR,List.length_append,List.length_nil]
  omega
set_option maxHeartbeats 2000000 in
theorem ckST (p w q:Nat) (x:StaS) (sure:Nat) (dirty:Bool) (W:WK) (D:DK) (hD:okD D) (hW:okW W) (hx:okS x.abs) (S:(Nat × Bool) × (WK × DK) × Int) (hS:S=SyncR w q x sure dirty W D) (hD1:okD S.2.1.2) (hW1:okW S.2.1.1) (h0:S.2.2=0) (R:WK × DK × Int) (hR:R=ckW S.2.1.1 S.2.1.2 ((ckR x.abs).map recB)) :
 Triple Tryz.prog 16 [pP p] [StoP p w x sure dirty,WalM w q W,DiskM q D] [TabA,x.rd] Unit (fun _=>.int .i64 R.2.2) (fun _=>True) (fun _=>[StoP p w x S.1.1 S.1.2,WalM w q R.1,DiskM q R.2.1]):=by
 have T1:=syncStT p w q x sure dirty W D hD hW
 rw [←hS,h0] at T1
 unfold StoP stoV svG at T1
 simp only [SV.denL,SV.den,List.cons_append,List.nil_append] at T1
 refine triple_intro Tryz.tbs_ok Tryz.func16 rfl [.pt 0 p 0] [.box p 64 (stoV w x sure dirty),.fact (WalM w q W),.fact (DiskM q D)] ⟨rfl,trivial⟩ rfl (by simp [stoV,svG,SV.good,SV.goodL]) ?_
 intro E
 refine go_fact (Row 9 1 none 0 0 (([]:List ByteArray).flatMap encS)) (Row.nilE _ _) ?_
 refine aG ?_
 refine aD T1 [0,1,2] [.inl 0] (fun v0_=>[.box (p) 64 [vP w,vI x.r0.r.p,vI x.r0.r.v,vL x.r0.A x.r0.r.L.length x.r0.a,vI x.r0.r.c,vI x.r1.r.p,vI x.r1.r.v,vL x.r1.A x.r1.r.L.length x.r1.a,vI x.r1.r.c,vI x.r2.r.p,vI x.r2.r.v,vL x.r2.A x.r2.r.L.length x.r2.a,vI x.r2.r.c,vI x.r3.r.p,vI x.r3.r.v,vL x.r3.A x.r3.r.L.length x.r3.a,vI x.r3.r.c,vL x.A x.F.length x.c,vI ↑S.fst.fst,.bq (S.fst.snd)],.fact (WalM w q S.snd.fst.fst),.fact (DiskM q S.snd.fst.snd)]) fun _ h10=>?_
 refine aI ?_
 refine ev_new fun b11=>?_
 have HB:∀ (j:Nat) (g:RegS),x.regs[j]? = some g→Triple Tryz.prog 38 [.int .i64 (j:Int),.agg (encG g).toArray] [] [x.rd] Sl (fun (A',c')=>.agg (encR ⟨baseR j g.r,A',c',none,0⟩).toArray) (fun _=>True) (fun (A',c')=>[Row 101 6 A' g.r.L.length c' (g.r.L.flatMap encE)]):=fun j g hg=>by
  have hl:=wholeE_len (okR_of (hx.regs g.r (by rw [abs_R];exact List.mem_map_of_mem (List.mem_of_getElem? hg)))).2.2.2.1
  exact (baseT j g (by omega)).reads (fun Z hZ=>by
   obtain rfl:=List.mem_singleton.1 hZ
   exact ⟨_,List.mem_cons_self,fun _ q=>(q.1 g (List.mem_of_getElem? hg)).1⟩)
 have HE:∀ (j:Nat) (g:RegS),x.regs[j]? = some g→∀ (A':Option Addr) (c':Nat),Triple Tryz.prog 33 [.agg (encR ⟨baseR j g.r,A',c',none,0⟩).toArray] [] [Row 101 6 A' g.r.L.length c' (g.r.L.flatMap encE)] Unit (fun _=>.tuple #[.string (recB (baseR j g.r)),.int .i64 0]) (fun _=>True) (fun _=>[]):=fun j g hg A' c' =>
  (encGood ⟨baseR j g.r,A',c',none,0⟩ (base_may hx (by rw [regs_abs,hg];rfl))).reads (fun Z hZ=>by
   simp only [List.mem_cons,List.not_mem_nil,or_false] at hZ
   rcases hZ with rfl | rfl
   · exact ⟨_,List.mem_cons_self,fun _ q=>Row.rd q⟩
   exact ⟨_,List.mem_cons_self,fun _ q=>⟨rfl,(fun c hc=>by cases hc),fun h0=>absurd h0 (Nat.lt_irrefl 0)⟩⟩)
 have HC:∀ (ps:List ByteArray) (m:Nat),ps=(ckR x.abs).map recB→m=ps.length→∀ (A:Option Addr) (c:Nat),Triple Tryz.prog 39 [pP w,.slice A m c] [WalM w q S.2.1.1,DiskM q S.2.1.2] [TabA,Row 9 1 A m c (ps.flatMap encS)] Unit (fun _=>.int .i64 R.2.2) (fun _=>True) (fun _=>[WalM w q R.1,DiskM q R.2.1]):=fun ps m hps hm A c=>by
  have h5:=ck_len x.abs hx.four
  have hl:ps.length=(ckR x.abs).length:=by rw [hps,List.length_map]
  have:=(ckWT w q S.2.1.1 S.2.1.2 A ps m c hm (by omega) (fun s hs=>by
   rw [hps] at hs
   obtain ⟨r,hr,rfl⟩:=List.mem_map.1 hs
   exact Nat.le_trans (small_of_may (ck_may hx r hr)).bytes (by decide)) hD1 hW1).reads (N':=[TabA,Row 9 1 A m c (ps.flatMap encS)]) (fun Z hZ=>by
    simp only [List.mem_cons,List.not_mem_nil,or_false] at hZ
    rcases hZ with rfl | rfl
    · exact ⟨_,List.mem_cons_self,fun _ q=>q⟩
    exact ⟨_,List.mem_cons_of_mem _ List.mem_cons_self,fun _ q=>Row.rd q⟩)
  rw [hps,←hR,←hps] at this
  exact this
 have T4:=(encGood ⟨feedR x.F,none,0,x.A,x.c⟩ (feed_may hx)).reads (N':=[x.rd]) (fun Z hZ=>by
  simp only [List.mem_cons,List.not_mem_nil,or_false] at hZ
  rcases hZ with rfl | rfl
  · exact ⟨_,List.mem_cons_self,fun _ q=>⟨rfl,(fun c hc=>by cases hc),fun h0=>absurd h0 (Nat.lt_irrefl 0)⟩⟩
  exact ⟨_,List.mem_cons_self,fun _ q=>q.2.1⟩)
 have hF:=(feed_small hx).1
 refine ev_stop (go_slot 18 _ (.va (.agg #[.int .i64 x.r0.r.p,.int .i64 x.r0.r.v,.slice x.r0.A x.r0.r.L.length x.r0.a,.int .i64 x.r0.r.c,.int .i64 x.r1.r.p,.int .i64 x.r1.r.v,.slice x.r1.A x.r1.r.L.length x.r1.a,.int .i64 x.r1.r.c,.int .i64 x.r2.r.p,.int .i64 x.r2.r.v,.slice x.r2.A x.r2.r.L.length x.r2.a,.int .i64 x.r2.r.c,.int .i64 x.r3.r.p,.int .i64 x.r3.r.v,.slice x.r3.A x.r3.r.L.length x.r3.a,.int .i64 x.r3.r.c])) rfl rfl rfl (fun _=>trivial) ?_)
 refine aG ?_
 refine ev_stop (go_loopR [6,7,19,20,21,22,23,24,25,26,27,28,29,30,31] (fun (i,_)=>[(19,vI (i:Nat))]) (fun (_,T,m,c,M)=>[(3,.fact (Row 9 1 T m c (M.flatMap encS))),(4,.box b11 74 [vL T m c])]) (fun (i,T,m,c,M)=>i≤4∧m=M.length∧m≤i∧M=(basesR 0 (x.abs.R.take i)).map recB) (fun (i,_)=>4-i) ((0,none,0,0,[]):Nat × Option Addr × Nat × Nat × List ByteArray) ⟨Nat.zero_le _,rfl,Nat.zero_le _,rfl⟩ aS (fun x_ h_=>?_))
 obtain ⟨i,T,m,c,M⟩:=x_
 obtain ⟨hi,hm,hmi,hM⟩:=h_
 rcases Nat.lt_or_ge i 4 with him | him
 · refine go_slot 18 _ (.ag [vI x.r0.r.p,vI x.r0.r.v,vL x.r0.A x.r0.r.L.length x.r0.a,vI x.r0.r.c,vI x.r1.r.p,vI x.r1.r.v,vL x.r1.A x.r1.r.L.length x.r1.a,vI x.r1.r.c,vI x.r2.r.p,vI x.r2.r.v,vL x.r2.A x.r2.r.L.length x.r2.a,vI x.r2.r.c,vI x.r3.r.p,vI x.r3.r.v,vL x.r3.A x.r3.r.L.length x.r3.a,vI x.r3.r.c]) rfl rfl rfl (fun _=>by repeat (first | exact trivial | refine ⟨trivial,?_⟩)) ?_
   rcases (show i=0∨i=1∨i=2∨i=3 by omega) with rfl | rfl | rfl | rfl
   · have T2:=HB 0 x.r0 rfl
     have T3:=HE 0 x.r0 rfl
     refine aG (aJ ?_)
     refine ev_stop (go_indexAg Tryz.tbs_ok (0) rfl rfl rfl rfl rfl rfl (by decide) rfl ?_)
     refine aG ?_
     refine ev_new fun b40=>?_
     by_cases hp:0<x.r0.r.p
     · refine ev_if_yes (decide_eq_true hp) ?_
       refine go_slot 18 _ (.va (.agg #[.int .i64 x.r0.r.p,.int .i64 x.r0.r.v,.slice x.r0.A x.r0.r.L.length x.r0.a,.int .i64 x.r0.r.c,.int .i64 x.r1.r.p,.int .i64 x.r1.r.v,.slice x.r1.A x.r1.r.L.length x.r1.a,.int .i64 x.r1.r.c,.int .i64 x.r2.r.p,.int .i64 x.r2.r.v,.slice x.r2.A x.r2.r.L.length x.r2.a,.int .i64 x.r2.r.c,.int .i64 x.r3.r.p,.int .i64 x.r3.r.v,.slice x.r3.A x.r3.r.L.length x.r3.a,.int .i64 x.r3.r.c])) rfl rfl rfl (fun _=>trivial) ?_
       refine aG ?_
       refine aC T2 [] [.inl 1] fun ⟨x50,x51⟩ h52=>?_
       refine ev_inline Tryz.tbs_ok Tryz.func37 rfl rfl ?_
       refine aG ?_
       refine ev_new fun b53=>?_
       refine aC (T3 (x50) (x51)) [] [.inr 6] fun _ h54=>?_
       refine ev_new fun b55=>?_
       refine ev_stop (go_appendE (sz:=1) (M:=[_]) (enc:=encS) Tryz.tbs_ok [3] [] (.inr 8) (M) ([recB (baseR 0 x.r0.r)]) ((M)++([recB (baseR 0 x.r0.r)])) (m+1) rfl rfl rfl rfl rfl rfl rfl (by decide) rfl (by decide) (fun _ p=>starH_one.1 p) rfl (fun _ p=>Pt.rd p rfl) (by first | rfl | simp) (by first | rfl | omega) (aM (m+1)) (aN (m+1)) (fun _ _=>aL) (fun A56 c57 h58=>?_))
       refine aG ?_
       refine ev_fin ⟨trivial,aL,_,rfl,?_⟩
       refine aG ?_
       refine wN (0+1) ?_
       refine ev_fin (round_next ((0+1,A56,m+1,c57,M++[recB (baseR 0 x.r0.r)])) (?_:0+1≤4∧m+1=(M++[recB (baseR 0 x.r0.r)]).length∧m+1≤0+1∧M++[recB (baseR 0 x.r0.r)]=List.map recB (basesR 0 (List.take (0+1) x.abs.R))) (show 4-(0+1)<4-0 from (by omega)) aS)
       exact ⟨by omega,by rw [List.length_append,←hm];rfl,by omega,by rw [hM];simp [StaS.abs,basesR,hp]⟩
     refine ev_if_no (decide_eq_false hp) ?_
     refine go_slot 18 _ (.va (.agg #[.int .i64 x.r0.r.p,.int .i64 x.r0.r.v,.slice x.r0.A x.r0.r.L.length x.r0.a,.int .i64 x.r0.r.c,.int .i64 x.r1.r.p,.int .i64 x.r1.r.v,.slice x.r1.A x.r1.r.L.length x.r1.a,.int .i64 x.r1.r.c,.int .i64 x.r2.r.p,.int .i64 x.r2.r.v,.slice x.r2.A x.r2.r.L.length x.r2.a,.int .i64 x.r2.r.c,.int .i64 x.r3.r.p,.int .i64 x.r3.r.v,.slice x.r3.A x.r3.r.L.length x.r3.a,.int .i64 x.r3.r.c])) rfl rfl rfl (fun _=>trivial) ?_
     refine aG ?_
     refine wN (0+1) ?_
     refine ev_fin (round_next ((0+1,T,m,c,M)) (?_:0+1≤4∧m=M.length∧m≤0+1∧M=List.map recB (basesR 0 (List.take (0+1) x.abs.R))) (show 4-(0+1)<4-0 from (by omega)) aS)
     exact ⟨by omega,hm,by omega,by rw [hM];simp [StaS.abs,basesR,hp]⟩
   · have T2:=HB 1 x.r1 rfl
     have T3:=HE 1 x.r1 rfl
     refine aG (aJ ?_)
     refine ev_stop (go_indexAg Tryz.tbs_ok (1) rfl rfl rfl rfl rfl rfl (by decide) rfl ?_)
     refine aG ?_
     refine ev_new fun b80=>?_
     by_cases hp:0<x.r1.r.p
     · refine ev_if_yes (decide_eq_true hp) ?_
       refine go_slot 18 _ (.va (.agg #[.int .i64 x.r0.r.p,.int .i64 x.r0.r.v,.slice x.r0.A x.r0.r.L.length x.r0.a,.int .i64 x.r0.r.c,.int .i64 x.r1.r.p,.int .i64 x.r1.r.v,.slice x.r1.A x.r1.r.L.length x.r1.a,.int .i64 x.r1.r.c,.int .i64 x.r2.r.p,.int .i64 x.r2.r.v,.slice x.r2.A x.r2.r.L.length x.r2.a,.int .i64 x.r2.r.c,.int .i64 x.r3.r.p,.int .i64 x.r3.r.v,.slice x.r3.A x.r3.r.L.length x.r3.a,.int .i64 x.r3.r.c])) rfl rfl rfl (fun _=>trivial) ?_
       refine aG ?_
       refine aC T2 [] [.inl 1] fun ⟨x90,x91⟩ h92=>?_
       refine ev_inline Tryz.tbs_ok Tryz.func37 rfl rfl ?_
       refine aG ?_
       refine ev_new fun b93=>?_
       refine aC (T3 (x90) (x91)) [] [.inr 6] fun _ h94=>?_
       refine ev_new fun b95=>?_
       refine ev_stop (go_appendE (sz:=1) (M:=[_]) (enc:=encS) Tryz.tbs_ok [3] [] (.inr 8) (M) ([recB (baseR 1 x.r1.r)]) ((M)++([recB (baseR 1 x.r1.r)])) (m+1) rfl rfl rfl rfl rfl rfl rfl (by decide) rfl (by decide) (fun _ p=>starH_one.1 p) rfl (fun _ p=>Pt.rd p rfl) (by first | rfl | simp) (by first | rfl | omega) (aM (m+1)) (aN (m+1)) (fun _ _=>aL) (fun A96 c97 h98=>?_))
       refine aG ?_
       refine ev_fin ⟨trivial,aL,_,rfl,?_⟩
       refine aG ?_
       refine wN (1+1) ?_
       refine ev_fin (round_next ((1+1,A96,m+1,c97,M++[recB (baseR 1 x.r1.r)])) (?_:1+1≤4∧m+1=(M++[recB (baseR 1 x.r1.r)]).length∧m+1≤1+1∧M++[recB (baseR 1 x.r1.r)]=List.map recB (basesR 0 (List.take (1+1) x.abs.R))) (show 4-(1+1)<4-1 from (by omega)) aS)
       exact ⟨by omega,by rw [List.length_append,←hm];rfl,by omega,by rw [hM];simp [StaS.abs,basesR,hp]⟩
     refine ev_if_no (decide_eq_false hp) ?_
     refine go_slot 18 _ (.va (.agg #[.int .i64 x.r0.r.p,.int .i64 x.r0.r.v,.slice x.r0.A x.r0.r.L.length x.r0.a,.int .i64 x.r0.r.c,.int .i64 x.r1.r.p,.int .i64 x.r1.r.v,.slice x.r1.A x.r1.r.L.length x.r1.a,.int .i64 x.r1.r.c,.int .i64 x.r2.r.p,.int .i64 x.r2.r.v,.slice x.r2.A x.r2.r.L.length x.r2.a,.int .i64 x.r2.r.c,.int .i64 x.r3.r.p,.int .i64 x.r3.r.v,.slice x.r3.A x.r3.r.L.length x.r3.a,.int .i64 x.r3.r.c])) rfl rfl rfl (fun _=>trivial) ?_
     refine aG ?_
     refine wN (1+1) ?_
     refine ev_fin (round_next ((1+1,T,m,c,M)) (?_:1+1≤4∧m=M.length∧m≤1+1∧M=List.map recB (basesR 0 (List.take (1+1) x.abs.R))) (show 4-(1+1)<4-1 from (by omega)) aS)
     exact ⟨by omega,hm,by omega,by rw [hM];simp [StaS.abs,basesR,hp]⟩
   · have T2:=HB 2 x.r2 rfl
     have T3:=HE 2 x.r2 rfl
     refine aG (aJ ?_)
     refine ev_stop (go_indexAg Tryz.tbs_ok (2) rfl rfl rfl rfl rfl rfl (by decide) rfl ?_)
     refine aG ?_
     refine ev_new fun b120=>?_
     by_cases hp:0<x.r2.r.p
     · refine ev_if_yes (decide_eq_true hp) ?_
       refine go_slot 18 _ (.va (.agg #[.int .i64 x.r0.r.p,.int .i64 x.r0.r.v,.slice x.r0.A x.r0.r.L.length x.r0.a,.int .i64 x.r0.r.c,.int .i64 x.r1.r.p,.int .i64 x.r1.r.v,.slice x.r1.A x.r1.r.L.length x.r1.a,.int .i64 x.r1.r.c,.int .i64 x.r2.r.p,.int .i64 x.r2.r.v,.slice x.r2.A x.r2.r.L.length x.r2.a,.int .i64 x.r2.r.c,.int .i64 x.r3.r.p,.int .i64 x.r3.r.v,.slice x.r3.A x.r3.r.L.length x.r3.a,.int .i64 x.r3.r.c])) rfl rfl rfl (fun _=>trivial) ?_
       refine aG ?_
       refine aC T2 [] [.inl 1] fun ⟨x130,x131⟩ h132=>?_
       refine ev_inline Tryz.tbs_ok Tryz.func37 rfl rfl ?_
       refine aG ?_
       refine ev_new fun b133=>?_
       refine aC (T3 (x130) (x131)) [] [.inr 6] fun _ h134=>?_
       refine ev_new fun b135=>?_
       refine ev_stop (go_appendE (sz:=1) (M:=[_]) (enc:=encS) Tryz.tbs_ok [3] [] (.inr 8) (M) ([recB (baseR 2 x.r2.r)]) ((M)++([recB (baseR 2 x.r2.r)])) (m+1) rfl rfl rfl rfl rfl rfl rfl (by decide) rfl (by decide) (fun _ p=>starH_one.1 p) rfl (fun _ p=>Pt.rd p rfl) (by first | rfl | simp) (by first | rfl | omega) (aM (m+1)) (aN (m+1)) (fun _ _=>aL) (fun A136 c137 h138=>?_))
       refine aG ?_
       refine ev_fin ⟨trivial,aL,_,rfl,?_⟩
       refine aG ?_
       refine wN (2+1) ?_
       refine ev_fin (round_next ((2+1,A136,m+1,c137,M++[recB (baseR 2 x.r2.r)])) (?_:2+1≤4∧m+1=(M++[recB (baseR 2 x.r2.r)]).length∧m+1≤2+1∧M++[recB (baseR 2 x.r2.r)]=List.map recB (basesR 0 (List.take (2+1) x.abs.R))) (show 4-(2+1)<4-2 from (by omega)) aS)
       exact ⟨by omega,by rw [List.length_append,←hm];rfl,by omega,by rw [hM];simp [StaS.abs,basesR,hp]⟩
     refine ev_if_no (decide_eq_false hp) ?_
     refine go_slot 18 _ (.va (.agg #[.int .i64 x.r0.r.p,.int .i64 x.r0.r.v,.slice x.r0.A x.r0.r.L.length x.r0.a,.int .i64 x.r0.r.c,.int .i64 x.r1.r.p,.int .i64 x.r1.r.v,.slice x.r1.A x.r1.r.L.length x.r1.a,.int .i64 x.r1.r.c,.int .i64 x.r2.r.p,.int .i64 x.r2.r.v,.slice x.r2.A x.r2.r.L.length x.r2.a,.int .i64 x.r2.r.c,.int .i64 x.r3.r.p,.int .i64 x.r3.r.v,.slice x.r3.A x.r3.r.L.length x.r3.a,.int .i64 x.r3.r.c])) rfl rfl rfl (fun _=>trivial) ?_
     refine aG ?_
     refine wN (2+1) ?_
     refine ev_fin (round_next ((2+1,T,m,c,M)) (?_:2+1≤4∧m=M.length∧m≤2+1∧M=List.map recB (basesR 0 (List.take (2+1) x.abs.R))) (show 4-(2+1)<4-2 from (by omega)) aS)
     exact ⟨by omega,hm,by omega,by rw [hM];simp [StaS.abs,basesR,hp]⟩
   have T2:=HB 3 x.r3 rfl
   have T3:=HE 3 x.r3 rfl
   refine aG (aJ ?_)
   refine ev_stop (go_indexAg Tryz.tbs_ok (3) rfl rfl rfl rfl rfl rfl (by decide) rfl ?_)
   refine aG ?_
   refine ev_new fun b160=>?_
   by_cases hp:0<x.r3.r.p
   · refine ev_if_yes (decide_eq_true hp) ?_
     refine go_slot 18 _ (.va (.agg #[.int .i64 x.r0.r.p,.int .i64 x.r0.r.v,.slice x.r0.A x.r0.r.L.length x.r0.a,.int .i64 x.r0.r.c,.int .i64 x.r1.r.p,.int .i64 x.r1.r.v,.slice x.r1.A x.r1.r.L.length x.r1.a,.int .i64 x.r1.r.c,.int .i64 x.r2.r.p,.int .i64 x.r2.r.v,.slice x.r2.A x.r2.r.L.length x.r2.a,.int .i64 x.r2.r.c,.int .i64 x.r3.r.p,.int .i64 x.r3.r.v,.slice x.r3.A x.r3.r.L.length x.r3.a,.int .i64 x.r3.r.c])) rfl rfl rfl (fun _=>trivial) ?_
     refine aG ?_
     refine aC T2 [] [.inl 1] fun ⟨x170,x171⟩ h172=>?_
     refine ev_inline Tryz.tbs_ok Tryz.func37 rfl rfl ?_
     refine aG ?_
     refine ev_new fun b173=>?_
     refine aC (T3 (x170) (x171)) [] [.inr 6] fun _ h174=>?_
     refine ev_new fun b175=>?_
     refine ev_stop (go_appendE (sz:=1) (M:=[_]) (enc:=encS) Tryz.tbs_ok [3] [] (.inr 8) (M) ([recB (baseR 3 x.r3.r)]) ((M)++([recB (baseR 3 x.r3.r)])) (m+1) rfl rfl rfl rfl rfl rfl rfl (by decide) rfl (by decide) (fun _ p=>starH_one.1 p) rfl (fun _ p=>Pt.rd p rfl) (by first | rfl | simp) (by first | rfl | omega) (aM (m+1)) (aN (m+1)) (fun _ _=>aL) (fun A176 c177 h178=>?_))
     refine aG ?_
     refine ev_fin ⟨trivial,aL,_,rfl,?_⟩
     refine aG ?_
     refine wN (3+1) ?_
     refine ev_fin (round_next ((3+1,A176,m+1,c177,M++[recB (baseR 3 x.r3.r)])) (?_:3+1≤4∧m+1=(M++[recB (baseR 3 x.r3.r)]).length∧m+1≤3+1∧M++[recB (baseR 3 x.r3.r)]=List.map recB (basesR 0 (List.take (3+1) x.abs.R))) (show 4-(3+1)<4-3 from (by omega)) aS)
     exact ⟨by omega,by rw [List.length_append,←hm];rfl,by omega,by rw [hM];simp [StaS.abs,basesR,hp]⟩
   refine ev_if_no (decide_eq_false hp) ?_
   refine go_slot 18 _ (.va (.agg #[.int .i64 x.r0.r.p,.int .i64 x.r0.r.v,.slice x.r0.A x.r0.r.L.length x.r0.a,.int .i64 x.r0.r.c,.int .i64 x.r1.r.p,.int .i64 x.r1.r.v,.slice x.r1.A x.r1.r.L.length x.r1.a,.int .i64 x.r1.r.c,.int .i64 x.r2.r.p,.int .i64 x.r2.r.v,.slice x.r2.A x.r2.r.L.length x.r2.a,.int .i64 x.r2.r.c,.int .i64 x.r3.r.p,.int .i64 x.r3.r.v,.slice x.r3.A x.r3.r.L.length x.r3.a,.int .i64 x.r3.r.c])) rfl rfl rfl (fun _=>trivial) ?_
   refine aG ?_
   refine wN (3+1) ?_
   refine ev_fin (round_next ((3+1,T,m,c,M)) (?_:3+1≤4∧m=M.length∧m≤3+1∧M=List.map recB (basesR 0 (List.take (3+1) x.abs.R))) (show 4-(3+1)<4-3 from (by omega)) aS)
   exact ⟨by omega,hm,by omega,by rw [hM];simp [StaS.abs,basesR,hp]⟩
 obtain rfl:i=4:=by omega
 by_cases hF0:x.F=[]
 · have hn0:x.F.length=0:=by rw [hF0];rfl
   have T5:=HC M m (by rw [hM];simp [ckR,hF0,StaS.abs]) hm
   refine aG (aI ?_)
   refine ev_fin (go Tryz.tbs_ok 1000 ?_)
   refine aI ?_ (decide_eq_false (show ¬(↑x.F.length:Int) > 0 from (by omega)))
   refine ev_stop (go_draw Tryz.tbs_ok false [0,4] [(0,true),(1,true),(2,true),(3,true),(4,true),(5,false),(6,false)] rfl ?_)
   refine aG (aE ?_)
   refine aC (T5 (T) (c)) [1,2] [.inl 0,.inr 3] fun _ h220=>?_
   refine aE (aK ?_)
   exact ev_fin ⟨trivial,_,rfl,(),rfl,by trivial,aF [0,1,2]⟩
   all_goals skip
 have hn0:x.F.length≠0:=fun e=>hF0 (List.eq_nil_of_length_eq_zero e)
 have T5:=HC (M++[recB (feedR x.F)]) (m+1) (by rw [hM];simp [ckR,hF0,StaS.abs]) (by rw [List.length_append,←hm];rfl)
 refine aG (aI ?_)
 refine ev_fin (go Tryz.tbs_ok 1000 ?_)
 refine aJ ?_ (decide_eq_true (show (↑x.F.length:Int) > 0 from (by omega)))
 refine ev_inline Tryz.tbs_ok Tryz.func37 rfl rfl ?_
 refine aG ?_
 refine ev_new fun b250=>?_
 refine aC T4 [] [.inl 1] fun _ h251=>?_
 refine ev_new fun b252=>?_
 refine ev_stop (go_appendE (sz:=1) (M:=[_]) (enc:=encS) Tryz.tbs_ok [3] [] (.inr 6) (M) ([recB (feedR x.F)]) ((M)++([recB (feedR x.F)])) (m+1) rfl rfl rfl rfl rfl rfl rfl (by decide) rfl (by decide) (fun _ p=>starH_one.1 p) rfl (fun _ p=>Pt.rd p rfl) (by first | rfl | simp) (by first | rfl | omega) (aM (m+1)) (aN (m+1)) (fun _ _=>aL) (fun A253 c254 h255=>?_))
 refine aG ?_
 refine ev_fin ⟨trivial,aL,_,rfl,?_⟩
 refine aG ?_
 refine ev_stop (go_draw Tryz.tbs_ok false [0,4] [(0,true),(1,true),(2,true),(3,true),(4,true),(5,false),(6,false)] rfl ?_)
 refine aG (aE ?_)
 refine aC (T5 (A253) (c254)) [1,2] [.inl 0,.inr 3] fun _ h256=>?_
 refine aE (aK ?_)
 exact ev_fin ⟨trivial,_,rfl,(),rfl,by trivial,aF [0,1,2]⟩
 all_goals skip
theorem regBad (p w:Nat) (x:StaS) (sure:Nat) (dirty:Bool) (j:Int) (hj:j<0∨4≤j):Triple Tryz.prog 25 [pP p,.int .i64 j] [StoP p w x sure dirty] [] Unit (fun _=>.tuple #[.agg (encG ⟨noReg,none,0⟩).toArray,.int .i64 2]) (fun _=>True) (fun _=>[StoP p w x sure dirty]):=by
 refine triple_intro Tryz.tbs_ok Tryz.func25 rfl [.pt 0 p 0,vI j] [.box p 64 (stoV w x sure dirty)] ⟨rfl,trivial,trivial⟩ rfl (by simp [stoV,svG,SV.good,SV.goodL]) ?_
 intro E
 refine aG ?_
 refine ev_new fun b10=>?_
 refine ev_inline Tryz.tbs_ok Tryz.func31 rfl rfl ?_
 refine aG ?_
 refine ev_fin ⟨trivial,aL,_,rfl,?_⟩
 refine aG ?_
 refine ev_if_lt (fun h11=>?_) (fun h11=>?_)
 refine aG ?_
 exact ev_fin ⟨trivial,_,rfl,(),rfl,by trivial,aF [0]⟩
 refine aG ?_
 refine aJ ?_ (decide_eq_true (show j ≥ 4 from (by omega)))
 exact ev_fin ⟨trivial,_,rfl,(),rfl,by trivial,aF [0]⟩
 all_goals skip
set_option maxHeartbeats 2000000 in
theorem regGood (p w:Nat) (x:StaS) (sure:Nat) (dirty:Bool) (j:Nat) (g:RegS) (hj:j<4) (hg:x.regs[j]? = some g) (hl:g.r.L.length≤1000):Triple Tryz.prog 25 [pP p,.int .i64 (j:Int)] [StoP p w x sure dirty] [x.rd] Sl (fun (A',c')=>.tuple #[.agg (encG ⟨g.r,A',c'⟩).toArray,.int .i64 0]) (fun (_,c')=>g.r.L.length≤c') (fun (A',c')=>[StoP p w x sure dirty,Row 101 6 A' g.r.L.length c' (g.r.L.flatMap encE)]):=by
 have T1:=(cloneG g (by omega)).reads (N':=[x.rd]) (fun X hX=>by
  obtain rfl:=List.mem_singleton.1 hX
  exact ⟨_,List.mem_cons_self,fun _ q=>(q.1 g (List.mem_of_getElem? hg)).1⟩)
 refine triple_intro Tryz.tbs_ok Tryz.func25 rfl [.pt 0 p 0,vI (j:Int)] [.box p 64 (stoV w x sure dirty)] ⟨rfl,trivial,trivial⟩ rfl (by simp [stoV,svG,SV.good,SV.goodL]) ?_
 intro E
 rcases (show j=0∨j=1∨j=2∨j=3 by omega) with rfl | rfl | rfl | rfl
 · obtain rfl:x.r0=g:=Option.some.inj hg
   refine aG ?_
   refine ev_new fun b10=>?_
   refine ev_inline Tryz.tbs_ok Tryz.func31 rfl rfl ?_
   refine aG ?_
   refine ev_fin ⟨trivial,aL,_,rfl,?_⟩
   refine aG (aI (aI ?_))
   refine ev_stop (go_indexArr Tryz.tbs_ok (0) rfl rfl rfl rfl rfl rfl (by first | decide | omega) rfl rfl ?_)
   refine aG ?_
   refine aC T1 [] [.inl 0] fun ⟨x11,x12⟩ h13=>?_
   refine ev_fin ⟨trivial,_,rfl,((x11,x12)),?_,by trivial,aF [0,2]⟩
   rfl
 · obtain rfl:x.r1=g:=Option.some.inj hg
   refine aG ?_
   refine ev_new fun b30=>?_
   refine ev_inline Tryz.tbs_ok Tryz.func31 rfl rfl ?_
   refine aG ?_
   refine ev_fin ⟨trivial,aL,_,rfl,?_⟩
   refine aG (aI (aI ?_))
   refine ev_stop (go_indexArr Tryz.tbs_ok (1) rfl rfl rfl rfl rfl rfl (by first | decide | omega) rfl rfl ?_)
   refine aG ?_
   refine aC T1 [] [.inl 0] fun ⟨x31,x32⟩ h33=>?_
   refine ev_fin ⟨trivial,_,rfl,((x31,x32)),?_,by trivial,aF [0,2]⟩
   rfl
 · obtain rfl:x.r2=g:=Option.some.inj hg
   refine aG ?_
   refine ev_new fun b50=>?_
   refine ev_inline Tryz.tbs_ok Tryz.func31 rfl rfl ?_
   refine aG ?_
   refine ev_fin ⟨trivial,aL,_,rfl,?_⟩
   refine aG (aI (aI ?_))
   refine ev_stop (go_indexArr Tryz.tbs_ok (2) rfl rfl rfl rfl rfl rfl (by first | decide | omega) rfl rfl ?_)
   refine aG ?_
   refine aC T1 [] [.inl 0] fun ⟨x51,x52⟩ h53=>?_
   refine ev_fin ⟨trivial,_,rfl,((x51,x52)),?_,by trivial,aF [0,2]⟩
   rfl
 obtain rfl:x.r3=g:=Option.some.inj hg
 refine aG ?_
 refine ev_new fun b70=>?_
 refine ev_inline Tryz.tbs_ok Tryz.func31 rfl rfl ?_
 refine aG ?_
 refine ev_fin ⟨trivial,aL,_,rfl,?_⟩
 refine aG (aI (aI ?_))
 refine ev_stop (go_indexArr Tryz.tbs_ok (3) rfl rfl rfl rfl rfl rfl (by first | decide | omega) rfl rfl ?_)
 refine aG ?_
 refine aC T1 [] [.inl 0] fun ⟨x71,x72⟩ h73=>?_
 refine ev_fin ⟨trivial,_,rfl,((x71,x72)),?_,by trivial,aF [0,2]⟩
 rfl
set_option maxHeartbeats 2000000 in
theorem ckErr (p w q:Nat) (x:StaS) (sure:Nat) (dirty:Bool) (W:WK) (D:DK) (hD:okD D) (hW:okW W) (S:(Nat × Bool) × (WK × DK) × Int) (hS:S=SyncR w q x sure dirty W D) (h0:S.2.2≠0) :
 Triple Tryz.prog 16 [pP p] [StoP p w x sure dirty,WalM w q W,DiskM q D] [TabA] Unit (fun _=>.int .i64 S.2.2) (fun _=>True) (fun _=>[StoP p w x S.1.1 S.1.2,WalM w q S.2.1.1,DiskM q S.2.1.2]):=by
 have T1:=syncStT p w q x sure dirty W D hD hW
 rw [←hS] at T1
 unfold StoP stoV svG at T1
 simp only [SV.denL,SV.den,List.cons_append,List.nil_append] at T1
 refine triple_intro Tryz.tbs_ok Tryz.func16 rfl [.pt 0 p 0] [.box p 64 (stoV w x sure dirty),.fact (WalM w q W),.fact (DiskM q D)] ⟨rfl,trivial⟩ rfl (by simp [stoV,svG,SV.good,SV.goodL]) ?_
 intro E
 refine aG ?_
 refine aD T1 [0,1,2] [.inl 0] (fun v0_=>[.box (p) 64 [vP w,vI x.r0.r.p,vI x.r0.r.v,vL x.r0.A x.r0.r.L.length x.r0.a,vI x.r0.r.c,vI x.r1.r.p,vI x.r1.r.v,vL x.r1.A x.r1.r.L.length x.r1.a,vI x.r1.r.c,vI x.r2.r.p,vI x.r2.r.v,vL x.r2.A x.r2.r.L.length x.r2.a,vI x.r2.r.c,vI x.r3.r.p,vI x.r3.r.v,vL x.r3.A x.r3.r.L.length x.r3.a,vI x.r3.r.c,vL x.A x.F.length x.c,vI ↑S.fst.fst,.bq (S.fst.snd)],.fact (WalM w q S.snd.fst.fst),.fact (DiskM q S.snd.fst.snd)]) fun _ h10=>?_
 refine aJ ?_ (ne_yes (by with_reducible assumption))
 exact ev_fin ⟨trivial,_,rfl,(),rfl,by trivial,aF [0,1,2]⟩
 all_goals skip
def nonV:List Value:=.pointer none::(encSt zeroSt++[.int .i64 0,.bool false])
def NonP (p:Nat):Asn:=Pt p 64 nonV
theorem dirtyN0:Triple Tryz.prog 28 [.pointer none] [] [] Unit (fun _=>.bool false) (fun _=>True) (fun _=>[]):=by
 refine aT Tryz.func28 [.va (.pointer none)] [] (fun E=>?_) ⟨trivial,trivial⟩
 refine aG ?_
 refine ev_inline Tryz.tbs_ok Tryz.func31 rfl rfl ?_
 refine aG ?_
 refine ev_fin ⟨trivial,aL,_,rfl,?_⟩
 refine aG ?_
 refine ev_fin ⟨trivial,_,rfl,(()),rfl,(by trivial),Frm.nil _⟩
theorem dirtyN1 (p:Nat):Triple Tryz.prog 28 [pP p] [NonP p] [] Unit (fun _=>.bool false) (fun _=>True) (fun _=>[NonP p]):=by
 refine triple_intro Tryz.tbs_ok Tryz.func28 rfl [.pt 0 p 0] [.box p 64 (nonV.map SV.va)] ⟨rfl,trivial⟩ rfl (by simp [nonV,encSt,encG,zeroSt,SV.good,SV.goodL]) ?_
 intro E
 refine aG ?_
 refine ev_inline Tryz.tbs_ok Tryz.func31 rfl rfl ?_
 refine aG ?_
 refine ev_fin ⟨trivial,aL,_,rfl,?_⟩
 refine aG ?_
 exact ev_fin ⟨trivial,_,rfl,(),rfl,by trivial,aF [0]⟩
theorem syncN0:Triple Tryz.prog 14 [.pointer none] [] [] Unit (fun _=>.int .i64 1) (fun _=>True) (fun _=>[]):=by
 refine aT Tryz.func14 [.va (.pointer none)] [] (fun E=>?_) ⟨trivial,trivial⟩
 refine aG ?_
 refine ev_inline Tryz.tbs_ok Tryz.func31 rfl rfl ?_
 refine aG ?_
 refine ev_fin ⟨trivial,aL,_,rfl,?_⟩
 refine aG ?_
 refine ev_fin ⟨trivial,_,rfl,(()),rfl,(by trivial),Frm.nil _⟩
theorem syncN1 (p:Nat):Triple Tryz.prog 14 [pP p] [NonP p] [] Unit (fun _=>.int .i64 1) (fun _=>True) (fun _=>[NonP p]):=by
 refine triple_intro Tryz.tbs_ok Tryz.func14 rfl [.pt 0 p 0] [.box p 64 (nonV.map SV.va)] ⟨rfl,trivial⟩ rfl (by simp [nonV,encSt,encG,zeroSt,SV.good,SV.goodL]) ?_
 intro E
 refine aG ?_
 refine ev_inline Tryz.tbs_ok Tryz.func31 rfl rfl ?_
 refine aG ?_
 refine ev_fin ⟨trivial,aL,_,rfl,?_⟩
 refine aG ?_
 exact ev_fin ⟨trivial,_,rfl,(),rfl,by trivial,aF [0]⟩
theorem regN0 (j:Int):Triple Tryz.prog 25 [.pointer none,.int .i64 j] [] [] Unit (fun _=>.tuple #[.agg (encG ⟨noReg,none,0⟩).toArray,.int .i64 1]) (fun _=>True) (fun _=>[]):=by
 refine aT Tryz.func25 [.va (.pointer none),vI j] [] (fun E=>?_) ⟨trivial,trivial,trivial⟩
 refine aG ?_
 refine ev_new fun b130=>?_
 refine ev_inline Tryz.tbs_ok Tryz.func31 rfl rfl ?_
 refine aG ?_
 refine ev_fin ⟨trivial,aL,_,rfl,?_⟩
 refine aG ?_
 refine ev_fin ⟨trivial,_,rfl,(()),rfl,(by trivial),Frm.nil _⟩
theorem regN1 (p:Nat) (j:Int):Triple Tryz.prog 25 [pP p,.int .i64 j] [NonP p] [] Unit (fun _=>.tuple #[.agg (encG ⟨noReg,none,0⟩).toArray,.int .i64 1]) (fun _=>True) (fun _=>[NonP p]):=by
 refine triple_intro Tryz.tbs_ok Tryz.func25 rfl [.pt 0 p 0,vI j] [.box p 64 (nonV.map SV.va)] ⟨rfl,trivial,trivial⟩ rfl (by simp [nonV,encSt,encG,zeroSt,SV.good,SV.goodL]) ?_
 intro E
 refine aG ?_
 refine ev_new fun b130=>?_
 refine ev_inline Tryz.tbs_ok Tryz.func31 rfl rfl ?_
 refine aG ?_
 refine ev_fin ⟨trivial,aL,_,rfl,?_⟩
 refine aG ?_
 exact ev_fin ⟨trivial,_,rfl,(),rfl,by trivial,aF [0]⟩
theorem feedN0:Triple Tryz.prog 26 [.pointer none] [] [] Unit (fun _=>.tuple #[.slice none 0 0,.int .i64 0]) (fun _=>True) (fun _=>[]):=by
 refine aT Tryz.func26 [.va (.pointer none)] [] (fun E=>?_) ⟨trivial,trivial⟩
 refine aG ?_
 refine ev_inline Tryz.tbs_ok Tryz.func31 rfl rfl ?_
 refine aG ?_
 refine ev_fin ⟨trivial,aL,_,rfl,?_⟩
 refine aG ?_
 refine ev_fin ⟨trivial,_,rfl,(()),rfl,(by trivial),Frm.nil _⟩
theorem feedN1 (p:Nat):Triple Tryz.prog 26 [pP p] [NonP p] [] Unit (fun _=>.tuple #[.slice none 0 0,.int .i64 0]) (fun _=>True) (fun _=>[NonP p]):=by
 refine triple_intro Tryz.tbs_ok Tryz.func26 rfl [.pt 0 p 0] [.box p 64 (nonV.map SV.va)] ⟨rfl,trivial⟩ rfl (by simp [nonV,encSt,encG,zeroSt,SV.good,SV.goodL]) ?_
 intro E
 refine aG ?_
 refine ev_inline Tryz.tbs_ok Tryz.func31 rfl rfl ?_
 refine aG ?_
 refine ev_fin ⟨trivial,aL,_,rfl,?_⟩
 refine aG ?_
 exact ev_fin ⟨trivial,_,rfl,(),rfl,by trivial,aF [0]⟩
theorem writeN0 (C:Option Addr) (n c:Nat):Triple Tryz.prog 12 [.pointer none,.slice C n c] [] [] Unit (fun _=>.int .i64 1) (fun _=>True) (fun _=>[]):=by
 refine aT Tryz.func12 [.va (.pointer none),vL C n c] [] (fun E=>?_) ⟨trivial,trivial,trivial⟩
 refine aG ?_
 refine ev_inline Tryz.tbs_ok Tryz.func31 rfl rfl ?_
 refine aG ?_
 refine ev_fin ⟨trivial,aL,_,rfl,?_⟩
 refine aG ?_
 refine ev_fin ⟨trivial,_,rfl,(()),rfl,(by trivial),Frm.nil _⟩
theorem writeN1 (p:Nat) (C:Option Addr) (n c:Nat):Triple Tryz.prog 12 [pP p,.slice C n c] [NonP p] [] Unit (fun _=>.int .i64 1) (fun _=>True) (fun _=>[NonP p]):=by
 refine triple_intro Tryz.tbs_ok Tryz.func12 rfl [.pt 0 p 0,vL C n c] [.box p 64 (nonV.map SV.va)] ⟨rfl,trivial,trivial⟩ rfl (by simp [nonV,encSt,encG,zeroSt,SV.good,SV.goodL]) ?_
 intro E
 refine aG ?_
 refine ev_inline Tryz.tbs_ok Tryz.func31 rfl rfl ?_
 refine aG ?_
 refine ev_fin ⟨trivial,aL,_,rfl,?_⟩
 refine aG ?_
 exact ev_fin ⟨trivial,_,rfl,(),rfl,by trivial,aF [0]⟩
theorem ckN0:Triple Tryz.prog 16 [.pointer none] [] [] Unit (fun _=>.int .i64 1) (fun _=>True) (fun _=>[]):=by
 refine aT Tryz.func16 [.va (.pointer none)] [] (fun E=>?_) ⟨trivial,trivial⟩
 refine aG ?_
 refine aC syncN0 [] [] fun _ h310=>?_
 refine aJ ?_
 refine ev_fin ⟨trivial,_,rfl,(()),rfl,(by trivial),Frm.nil _⟩
theorem ckN1 (p:Nat):Triple Tryz.prog 16 [pP p] [NonP p] [] Unit (fun _=>.int .i64 1) (fun _=>True) (fun _=>[NonP p]):=by
 have T1:=syncN1 p
 unfold NonP nonV encSt encG zeroSt at T1
 simp only [List.cons_append,List.nil_append,List.length_nil] at T1
 refine triple_intro Tryz.tbs_ok Tryz.func16 rfl [.pt 0 p 0] [.box p 64 (nonV.map SV.va)] ⟨rfl,trivial⟩ rfl (by simp [nonV,encSt,encG,zeroSt,SV.good,SV.goodL]) ?_
 intro E
 refine aG ?_
 refine aD T1 [0] [] (fun v0_=>[.box (p) 64 [.va (Value.pointer none),vI 0,vI 0,vL none 0 0,vI 0,vI 0,vI 0,vL none 0 0,vI 0,vI 0,vI 0,vL none 0 0,vI 0,vI 0,vI 0,vL none 0 0,vI 0,vL none 0 0,vI 0,.bl false]]) fun _ h310=>?_
 refine aJ ?_
 exact ev_fin ⟨trivial,_,rfl,(),rfl,by trivial,aF [0]⟩
abbrev BA:=ByteArray
def FB (ps:List BA):BA:=strL (framesL ckL (ps.map fun p=>p.data.toList))
def small (ps:List BA):Prop:=∀ p∈ps,p.size≤8192
theorem FB_nil:FB [] = .empty:=ba_eq rfl
theorem FB_list (ps:List BA):(FB ps).data.toList=framesL ckL (ps.map fun p=>p.data.toList):=rfl
theorem FB_append (ps qs:List BA):FB (ps++qs)=FB ps++FB qs:=ba_eq (by rw [ba_app,FB_list,FB_list,FB_list,List.map_append,framesL_append])
theorem FB_size_append (ps qs:List BA):(FB (ps++qs)).size=(FB ps).size+(FB qs).size:=by rw [FB_append,ByteArray.size_append]
theorem FB_take_le (ps:List BA) (j:Nat):(FB (ps.take j)).size≤(FB ps).size:=by
 conv=>rhs;rw [←List.take_append_drop j ps]
 rw [FB_size_append]
 omega
theorem FB_take_mono (ps:List BA) {i j:Nat} (h:i≤j):(FB (ps.take i)).size≤(FB (ps.take j)).size:=by
 have:=FB_take_le (ps.take j) i
 rwa [List.take_take,Nat.min_eq_left h] at this
theorem back_map (ps:List BA):(ps.map fun p=>p.data.toList).map strL=ps:=by
 rw [List.map_map]
 conv=>rhs;rw [←List.map_id ps]
 exact List.map_congr_left fun p _=>list_strL p
theorem framed_small {ps:List BA} (h:small ps):framedM ps=(FB ps,0):=by
 unfold framedM
 rw [if_pos (List.all_eq_true.2 fun p hp=>decide_eq_true (h p hp))]
 rfl
theorem framed_ok {ps:List BA} (h:(framedM ps).2=0):small ps∧(framedM ps).1=FB ps:=by
 unfold framedM at h ⊢
 split at h
 · rename_i hp
   rw [if_pos hp]
   exact ⟨fun p hp2=>of_decide_eq_true (List.all_eq_true.1 hp p hp2),rfl⟩
 cases h
theorem framed_err {ps:List BA} (h:(framedM ps).2≠0):(framedM ps).2=3:=by
 unfold framedM at h ⊢
 split at h
 · exact absurd rfl h
 rename_i hp
 rw [if_neg hp]
theorem small_map {ps:List BA} (h:small ps):∀ p∈ps.map (fun p=>p.data.toList),p.length≤8192:=fun p hp=>by
 obtain ⟨q,hq,rfl⟩:=List.mem_map.1 hp
 rw [size_data]
 exact h q hq
theorem whole_FB {ps:List BA} (h:small ps):wholeM (FB ps)=(ps,(FB ps).size):=by
 have:=whole_frames ckL_len (ps.map fun p=>p.data.toList) [] (small_map h)
 rw [List.append_nil,wholeL_none (l:=[]) rfl] at this
 unfold wholeM
 rw [FB_list,this]
 simp only [List.append_nil,Nat.add_zero,back_map]
 rw [←FB_list,size_data]
theorem wholeB_FB {ps:List BA} (h:small ps):wholeB (FB ps)=true:=by
 unfold wholeB
 rw [whole_FB h]
 exact decide_eq_true rfl
theorem whole_torn {ps:List BA} (h:small ps) {l r:BA} (e:l++r=FB ps):∃ k,k≤ps.length∧wholeM l=(ps.take k,(FB (ps.take k)).size)∧(FB (ps.take k)).size≤l.size∧∀ j,j≤ps.length→(FB (ps.take j)).size≤l.size→j≤k:=by
 have e2:l.data.toList++r.data.toList=framesL ckL (ps.map fun p=>p.data.toList):=by rw [←ba_app,e];rfl
 obtain ⟨k,hk,hw,hmax⟩:=whole_cut ckL_len _ _ _ (small_map h) e2
 rw [List.length_map] at hk hmax
 have hs:∀ j,(framesL ckL ((ps.map fun p=>p.data.toList).take j)).length=(FB (ps.take j)).size:=fun j=>by
  rw [←List.map_take]
  exact (size_data (FB (ps.take j))).symm ▸ rfl
 refine ⟨k,hk,?_,?_,fun j hj hle=>hmax j hj ?_⟩
 · unfold wholeM
   rw [hw,hs]
   simp only [←List.map_take,back_map]
 · have:=(whole_len l).2
   unfold wholeM at this
   rw [hw] at this
   simp only [hs] at this
   exact this
 rw [hs,size_data]
 exact hle
theorem torn_take {ps:List BA} {l r:BA} (e:l++r=FB ps) {k:Nat} (h:(FB (ps.take k)).size≤l.size):l.extract 0 (FB (ps.take k)).size=FB (ps.take k):=by
 refine ba_eq ?_
 rw [ext_l,List.drop_zero]
 have e2:l.data.toList++r.data.toList=(FB (ps.take k)).data.toList++(FB (ps.drop k)).data.toList:=by rw [←ba_app,e,←ba_app,←FB_append,List.take_append_drop]
 have e3:=congrArg (fun x=>x.take (FB (ps.take k)).size) e2
 rw [List.take_append_of_le_length (by rw [size_data];exact h)] at e3
 rw [e3,←size_data,List.take_left]
def full (L:List Fl) (names:List BA) (Ps:List (List BA)):Prop:=names.map (lk L)=Ps.map fun ps=>some (FB ps,((FB ps).size:Int))
structure Torn (L:List Fl) (b t:Nat) (init:List (List BA)) (last:List BA) (l:BA) (s:Int):Prop where
 rise:riseF L
 lay:Lay (L.map (·.n)) b t
 few:(segsM b t).length≤15
 smalls:(∀ ps∈init,small ps)∧small last
 zero:t=0→full L (segsM b 0) init∧last=[]
 more:0<t→full L (segsM b (t-1)) init∧lk L (nmB 115 (b+t))=some (l,s)∧∃ r,l++r=FB last
theorem segs_succ {b t:Nat} (h:0<t):segsM b t=segsM b (t-1)++[nmB 115 (b+t)]:=by
 obtain ⟨k,rfl⟩:∃ k,t=k+1:=⟨t-1,by omega⟩
 unfold segsM
 rw [List.range_succ,List.map_append,←List.append_assoc,Nat.add_sub_cancel]
 simp only [List.map_cons,List.map_nil]
 rw [show b+1+k=b+(k+1) by omega]
theorem names_fl (D:DK):namesD D=D.files.map (·.n):=rfl
theorem read_lk {D:DK} (h:D.down=false) (hs:riseF D.files) (x:BA):(readD D x).1=match lk D.files x with | some v=>v.1 | none=>.empty:=by
 unfold readD
 rw [h,if_neg (by decide),lk_has]
 cases hl:lk D.files x with
 | none=>rfl
 |
  some v =>
  obtain ⟨hi,he⟩:=lk_at hs hl
  simp only [Option.isSome_some,if_true]
  rw [getF_eq hi,he]
theorem data_full {D:DK} (h:D.down=false) (hs:riseF D.files) {names:List BA} {Ps:List (List BA)} (hf:full D.files names Ps):(names.map fun x=>(readD D x).1)=Ps.map FB:=by
 unfold full at hf
 induction names generalizing Ps with
 |
  nil =>
  cases Ps with
  | nil=>rfl
  | cons p Ps=>simp at hf
 |
  cons x names ih =>
  cases Ps with
  | nil=>simp at hf
  |
   cons p Ps =>
   simp only [List.map_cons,List.cons.injEq] at hf
   simp only [List.map_cons]
   rw [ih hf.2,read_lk h hs,hf.1]
theorem Torn.data {D:DK} {b t:Nat} {init:List (List BA)} {last:List BA} {l:BA} {s:Int} (H:Torn D.files b t init last l s) (hu:D.down=false):dataD D=init.map FB++if 0<t then [l] else []:=by
 unfold dataD
 rw [names_fl,H.lay.base,H.lay.tails]
 rcases Nat.eq_zero_or_pos t with h0 | h0
 · rw [if_neg (by omega),List.append_nil]
   subst h0
   exact data_full hu H.rise (H.zero rfl).1
 rw [if_pos h0,segs_succ h0,List.map_append,data_full hu H.rise (H.more h0).1]
 congr 1
 simp only [List.map_cons,List.map_nil]
 rw [read_lk hu H.rise,(H.more h0).2.1]
theorem Torn.okSeg {D:DK} {b t:Nat} {init:List (List BA)} {last:List BA} {l:BA} {s:Int} (H:Torn D.files b t init last l s) (hu:D.down=false):okSeg t (dataD D)=true:=by
 rw [H.data hu]
 have h1:∀ x∈init.map FB,wholeB x=true:=fun x hx=>by
  obtain ⟨ps,hp,rfl⟩:=List.mem_map.1 hx
  exact wholeB_FB (H.smalls.1 ps hp)
 rcases Nat.eq_zero_or_pos t with h0 | h0
 · rw [if_neg (by omega),List.append_nil]
   exact okSeg_yes h1
 rw [if_pos h0]
 unfold Proofs.YtnbaejindfillaaGreatDoor.okSeg
 rw [List.dropLast_concat]
 simp only [Bool.and_eq_true,Bool.or_eq_true,decide_eq_true_eq]
 exact ⟨List.all_eq_true.2 h1,.inl h0⟩
theorem pay_FB {Ps:List (List BA)} (h:∀ ps∈Ps,small ps):payM (Ps.map FB)=Ps.flatten:=by
 unfold payM
 induction Ps with
 | nil=>rfl
 |
  cons ps Ps ih =>
  simp only [List.map_cons,List.flatMap_cons,List.flatten_cons]
  rw [ih fun q hq=>h q (List.mem_cons_of_mem _ hq),whole_FB (h ps List.mem_cons_self)]
/-! removals -/
theorem rem_calm {D:DK} (_hD:okD D) (hu:D.down=false) (hf:D.fails=none) {x:BA} {v:BA × Int} (h:lk D.files x=some v):remD D x=(⟨D.most,D.starts,false,D.files.eraseIdx (posF D.files x),none,D.keep⟩,0):=by
 unfold remD
 rw [hu,if_neg (by decide),lk_has,h]
 simp only [Option.isSome_some,if_true]
 unfold chg
 rw [hf,hu]
theorem rem_all:∀ {S:List BA} {D:DK},okD D→D.down=false→D.fails=none→S.Nodup→(∀ x∈S,∃ v,lk D.files x=some v) →
 (runD (remL S) D).2=0∧okD (runD (remL S) D).1∧(runD (remL S) D).1.down=false∧(runD (remL S) D).1.fails=none∧(runD (remL S) D).1.starts=D.starts∧(runD (remL S) D).1.most=D.most∧(runD (remL S) D).1.keep=D.keep∧∀ z,lk (runD (remL S) D).1.files z=if memB S z then none else lk D.files z
 | [],D,h1,h2,h3,_,_=>⟨rfl,h1,h2,h3,rfl,rfl,rfl,fun z=>rfl⟩
 |
  x::S,D,h1,h2,h3,h4,h5=>by
  obtain ⟨v,hv⟩:=h5 x List.mem_cons_self
  have e:=rem_calm h1 h2 h3 hv
  obtain ⟨n1,n2⟩:=List.nodup_cons.1 h4
  have hl:∀ z,lk (D.files.eraseIdx (posF D.files x)) z=if z=x then none else lk D.files z:=lk_erase h1.rise hv
  have hok:okD (⟨D.most,D.starts,false,D.files.eraseIdx (posF D.files x),none,D.keep⟩:DK):=by
   have:=rem_ok h1 x
   rwa [e] at this
  obtain ⟨i1,i2,i3,i4,i5,i6,i7,i8⟩:=rem_all (S:=S) hok rfl rfl n2 (fun y hy=>by
   obtain ⟨w,hw⟩:=h5 y (List.mem_cons_of_mem _ hy)
   exact ⟨w,by rw [hl,if_neg (fun q=>n1 (by rw [←q];exact hy))];exact hw⟩)
  have er:runD (remL (x::S)) D=runD (remL S) ⟨D.most,D.starts,false,D.files.eraseIdx (posF D.files x),none,D.keep⟩:=by
   show runD ((fun D=>remD D x)::remL S) D=_
   rw [runD]
   simp only [e,if_true]
  rw [er]
  refine ⟨i1,i2,i3,i4,i5,i6,i7,fun z=>?_⟩
  rw [i8,hl]
  have em:memB (x::S) z=(decide (x=z) || memB S z):=rfl
  rw [em]
  by_cases hx:z=x
  · rw [if_pos hx,decide_eq_true hx.symm]
    simp
  rw [if_neg hx,decide_eq_false (fun q=>hx q.symm),Bool.false_or]
theorem mem_names {L:List Fl} {x:BA}:x∈L.map (·.n)↔lk L x≠none:=by
 rw [Ne,lk_none]
 constructor
 · intro h q
   obtain ⟨f,hf,e⟩:=List.mem_map.1 h
   exact q f hf e
 intro h
 refine Classical.byContradiction fun q=>h fun f hf e=>q (List.mem_map.2 ⟨f,hf,e⟩)
theorem full_congr {L L':List Fl} {names:List BA} {Ps:List (List BA)} (h:∀ x∈names,lk L' x=lk L x) (H:full L names Ps):full L' names Ps:=by
 unfold full at H ⊢
 rw [←H]
 exact List.map_congr_left h
theorem full_has {L:List Fl} {names:List BA} {Ps:List (List BA)} (H:full L names Ps) {x:BA} (h:x∈names):∃ ps∈Ps,lk L x=some (FB ps,((FB ps).size:Int)):=by
 unfold full at H
 have h1:lk L x∈names.map (lk L):=List.mem_map.2 ⟨x,h,rfl⟩
 rw [H] at h1
 obtain ⟨ps,hp,e⟩:=List.mem_map.1 h1
 exact ⟨ps,hp,e.symm⟩
theorem seg_in {b t:Nat} (h:0<t) {x:BA} (hx:x∈segsM b (t-1)):x∈segsM b t∧x≠nmB 115 (b+t):=by
 rw [segs_succ h]
 refine ⟨List.mem_append_left _ hx,fun e=>?_⟩
 have:=segs_nodup b t
 rw [segs_succ h,List.nodup_append] at this
 exact this.2.2 x hx _ (List.mem_singleton_self _) e
theorem Torn.move {L L':List Fl} {b t:Nat} {init:List (List BA)} {last last':List BA} {l l':BA} {s s':Int} (H:Torn L b t init last l s) (hr:riseF L') (hsegs:∀ x∈segsM b t,(0<t→x≠nmB 115 (b+t))→lk L' x=lk L x)
 (hend:0<t→lk L' (nmB 115 (b+t))=some (l',s')) (hall:∀ x,lk L' x≠none→x∈segsM b t∨staleB b x=true) (hsm:small last') (hl:0<t→∃ r,l'++r=FB last') (h0:t=0→last'=[]):Torn L' b t init last' l' s':=by
 refine ⟨hr,⟨H.lay.few,fun x hx=>mem_names.2 ?_,fun x hx=>hall x (mem_names.1 hx)⟩,H.few,⟨H.smalls.1,hsm⟩,fun ht=>⟨?_,h0 ht⟩,fun ht=>⟨?_,hend ht,hl ht⟩⟩
 · by_cases hq:0<t∧x=nmB 115 (b+t)
   · rw [hq.2,hend hq.1]
     simp
   rw [hsegs x hx fun ht e=>hq ⟨ht,e⟩]
   exact mem_names.1 (H.lay.segs x hx)
 · subst ht
   exact full_congr (fun x hx=>hsegs x hx fun q=>absurd q (by decide)) (H.zero rfl).1
 exact full_congr (fun x hx=>hsegs x (seg_in ht hx).1 fun _=>(seg_in ht hx).2) (H.more ht).1
theorem extract_all (x:BA):x.extract 0 x.size=x:=ba_eq (by rw [ext_l,List.drop_zero,←size_data,List.take_length])
theorem Torn.crash {L:List Fl} {b t:Nat} {init:List (List BA)} {last:List BA} {l:BA} {s:Int} (H:Torn L b t init last l s) (hL:∀ f∈L,0≤f.s∧f.s≤f.d.size) (K:List Int) :
 ∃ l':BA,Torn (crashF L K) b t init last l' (l'.size:Nat)∧(0<t→s≤(l'.size:Nat)):=by
 have hr:riseF (crashF L K):=riseF_names (crashF_names L K) H.rise
 have hfull:∀ x,(∃ d:BA,lk L x=some (d,(d.size:Int)))→lk (crashF L K) x=lk L x:=fun x ⟨d,hd⟩=>by
  rcases lk_crash hL K x with ⟨_,h2⟩ | ⟨v,w,h1,h2,k,h3,h4,h5⟩
  · rw [hd] at h2
    cases h2
  rw [hd] at h1
  cases h1
  obtain rfl:k=d.size:=by simp only at h3 h4;omega
  rw [h2,h5,hd]
  simp only
  rw [extract_all]
 have hsegs:∀ x∈segsM b t,(0<t→x≠nmB 115 (b+t))→lk (crashF L K) x=lk L x:=fun x hx hne=>by
  refine hfull x ?_
  rcases Nat.eq_zero_or_pos t with h0 | h0
  · subst h0
    obtain ⟨ps,_,e⟩:=full_has (H.zero rfl).1 hx
    exact ⟨_,e⟩
  rw [segs_succ h0] at hx
  rcases List.mem_append.1 hx with hx | hx
  · obtain ⟨ps,_,e⟩:=full_has (H.more h0).1 hx
    exact ⟨_,e⟩
  exact absurd (List.mem_singleton.1 hx) (hne h0)
 have hall:∀ x,lk (crashF L K) x≠none→x∈segsM b t∨staleB b x=true:=fun x hx=>by
  refine H.lay.all x (mem_names.2 ?_)
  rcases lk_crash hL K x with ⟨h1,_⟩ | ⟨v,w,h1,_⟩
  · exact absurd h1 hx
  rw [h1]
  simp
 rcases Nat.eq_zero_or_pos t with h0 | h0
 · exact ⟨.empty,H.move hr hsegs (fun q=>by omega) hall H.smalls.2 (fun q=>by omega) (fun _=>(H.zero h0).2),fun q=>by omega⟩
 obtain ⟨h1,h2,r,h3⟩:=H.more h0
 rcases lk_crash hL K (nmB 115 (b+t)) with ⟨_,h4⟩ | ⟨v,w,h4,h5,k,h6,h7,h8⟩
 · rw [h2] at h4
   cases h4
 rw [h2] at h4
 cases h4
 simp only at h6 h7
 have hk:(l.extract 0 k).size=k:=by rw [ByteArray.size_extract];omega
 refine ⟨l.extract 0 k,H.move hr hsegs (fun _=>by rw [h5,h8,hk]) hall H.smalls.2 (fun _=>⟨l.extract k l.size++r,?_⟩) (fun q=>by omega),fun _=>by rw [hk];exact h6⟩
 rw [←h3]
 refine ba_eq ?_
 rw [ba_app,ba_app,ba_app,ext_l,ext_l,←size_data,List.take_length,List.drop_zero,←List.append_assoc,List.take_append_drop]
structure Live (W:WK) (D:DK) (init:List (List BA)) (last:List BA) (j:Nat):Prop where
 ok:okD D
 up:D.down=false
 st:D.starts=W.s
 nb:W.bad=false
 torn:∃ s:Int,Torn D.files W.b W.t init last (FB last) s∧(0<W.t→((FB (last.take j)).size:Int)≤s)
 few:j≤last.length
 bare:∀ x,lk D.files x≠none→x∈segsM W.b W.t
theorem Live.names {W:WK} {D:DK} {init:List (List BA)} {last:List BA} {j:Nat} (H:Live W D init last j):Bare (namesD D) W.b W.t:=by
 obtain ⟨s,h,_⟩:=H.torn
 exact ⟨h.lay.few,fun x=>⟨fun hx=>H.bare x (mem_names.1 hx),fun hx=>h.lay.segs x hx⟩⟩
theorem Live.okW {W:WK} {D:DK} {init:List (List BA)} {last:List BA} {j:Nat} (H:Live W D init last j):Proofs.YtnbaejindfillaaGreatDoor.okW W:=H.names.1
theorem Live.ask {W:WK} {D:DK} {init:List (List BA)} {last:List BA} {j:Nat} (H:Live W D init last j):askW W.s W.bad D=0:=by
 unfold askW
 rw [H.nb,H.up,H.st]
 simp
theorem rise_nodup {L:List Fl} (h:riseF L):(L.map (·.n)).Nodup:=by
 refine List.Pairwise.map _ ?_ h
 exact fun a b hab=>hab.ne
theorem Live.len {W:WK} {D:DK} {init:List (List BA)} {last:List BA} {j:Nat} (H:Live W D init last j):D.files.length=(segsM W.b W.t).length:=by
 have h1:=H.names
 have h2:=((List.perm_ext_iff_of_nodup (rise_nodup H.ok.rise) (segs_nodup W.b W.t)).2 h1.2).length_eq
 rwa [List.length_map] at h2
theorem Live.opens {W:WK} {D:DK} {init:List (List BA)} {last:List BA} {j:Nat} (H:Live W D init last j):openD D=(D,0,⟨D.starts,false,W.b,W.t⟩,init.flatten++last):=by
 obtain ⟨s,hT,_⟩:=H.torn
 have hb:=H.names
 unfold openD
 rw [H.up,if_neg (by decide),if_neg]
 · rw [hb.stale]
   have hd:=hT.data H.up
   have hc:cutM (dataD D)=none:=by
    rw [hd]
    refine cutM_no fun x hx=>?_
    rcases List.mem_append.1 hx with hx | hx
    · obtain ⟨ps,hp,rfl⟩:=List.mem_map.1 hx
      exact wholeB_FB (hT.smalls.1 ps hp)
    split at hx
    · rw [List.mem_singleton.1 hx]
      exact wholeB_FB hT.smalls.2
    cases hx
   have hp:payM (dataD D)=init.flatten++last:=by
    rw [hd]
    split
    · have:init.map FB++[FB last]=(init++[last]).map FB:=by simp
      rw [this,pay_FB (fun ps hps=>by
       rcases List.mem_append.1 hps with h | h
       · exact hT.smalls.1 ps h
       rw [List.mem_singleton.1 h];exact hT.smalls.2)]
      simp
    rename_i ht
    rw [(hT.zero (by omega)).2,List.append_nil,List.append_nil,pay_FB hT.smalls.1]
   simp only [remL,List.map_nil,runD,hc,hp,ne_eq,not_true_eq_false,if_false]
   rw [names_fl,hT.lay.base,hT.lay.tails]
 rw [names_fl,hT.lay.okN,hT.lay.tails,hT.okSeg H.up]
 decide
theorem Torn.opens {D:DK} {b t:Nat} {init:List (List BA)} {last:List BA} {l:BA} {s:Int} (hD:okD D) (hu:D.down=false) (hf:D.fails=none) (H:Torn D.files b t init last l s) (_hs:0<t→0≤s∧s≤(l.size:Nat)) :
 ∃ (k:Nat) (D':DK),k≤last.length∧(0<t→(FB (last.take k)).size≤l.size)∧(∀ j,j≤last.length→(0<t→(FB (last.take j)).size≤l.size)→j≤k)∧openD D=(D',0,⟨D.starts,false,b,t⟩,init.flatten++last.take k)∧D'.fails=none∧D'.most=D.most∧D'.keep=D.keep ∧
  ∀ j,j≤k→(0<t→((FB (last.take j)).size:Int)≤s)→Live ⟨D.starts,false,b,t⟩ D' init (last.take k) j:=by
 have hst:=H.lay.stale
 have hnd:(D.files.map (·.n)).Nodup:=rise_nodup H.rise
 obtain ⟨S,hS⟩:∃ S,S=staleM (namesD D):=⟨_,rfl⟩
 have hSm:∀ x,x∈S↔lk D.files x≠none∧staleB b x=true:=fun x=>by
  rw [hS,names_fl,hst,List.mem_filter,mem_names]
 obtain ⟨r1,r2,r3,r4,r5,r6,r7,r8⟩:=rem_all (S:=S) hD hu hf (by rw [hS,names_fl,hst];exact hnd.filter _) (fun x hx=>Option.ne_none_iff_exists'.1 ((hSm x).1 hx).1)
 obtain ⟨D1,hD1⟩:∃ D1,D1=(runD (remL S) D).1:=⟨_,rfl⟩
 rw [←hD1] at r2 r3 r4 r5 r6 r7 r8
 have hseg:∀ x∈segsM b t,lk D1.files x=lk D.files x:=fun x hx=>by
  rw [r8,if_neg]
  intro q
  have:=((hSm x).1 (memB_iff.1 q)).2
  rw [seg_fresh H.lay.few hx] at this
  cases this
 have hbare:∀ x,lk D1.files x≠none→x∈segsM b t:=fun x hx=>by
  rw [r8] at hx
  split at hx
  · exact absurd rfl hx
  rename_i hq
  rcases H.lay.all x (mem_names.2 hx) with h | h
  · exact h
  exact absurd (memB_iff.2 ((hSm x).2 ⟨hx,h⟩)) hq
 have hdat:=H.data hu
 have fin:∀ (k:Nat) (D':DK),k≤last.length→(t=0→k=0)→okD D'→D'.down=false→D'.starts=D.starts→(∃ s':Int,(0<t→lk D'.files (nmB 115 (b+t))=some (FB (last.take k),s')∧∀ j,j≤k→((FB (last.take j)).size:Int)≤s→((FB (last.take j)).size:Int)≤s')) →
  (∀ x∈segsM b t,(0<t→x≠nmB 115 (b+t))→lk D'.files x=lk D.files x)→(∀ x,lk D'.files x≠none→x∈segsM b t)→∀ j,j≤k→(0<t→((FB (last.take j)).size:Int)≤s)→Live ⟨D.starts,false,b,t⟩ D' init (last.take k) j:=by
  intro k D' hk hk0 h1 h2 h3 ⟨s',h4⟩ h5 h6 j hj hjs
  refine ⟨h1,h2,h3,rfl,⟨s',?_,fun ht=>?_⟩,by rw [List.length_take];omega,h6⟩
  · refine H.move h1.rise h5 (fun ht=>(h4 ht).1) (fun x hx=>.inl (h6 x hx)) (fun p hp=>H.smalls.2 p (List.mem_of_mem_take hp)) (fun ht=>⟨.empty,?_⟩) (fun ht=>by rw [hk0 ht];rfl)
    exact ba_eq (by rw [ba_app];simp)
  rw [List.take_take,Nat.min_eq_left hj]
  exact (h4 ht).2 j hj (hjs ht)
 have hinit:∀ x∈init.map FB,wholeB x=true:=fun x hx=>by
  obtain ⟨ps,hp,rfl⟩:=List.mem_map.1 hx
  exact wholeB_FB (H.smalls.1 ps hp)
 have hopen:∀ (k:Nat) (D':DK),payM (dataD D)=init.flatten++last.take k→((cutM (dataD D)=none∧D'=D1)∨∃ z:Nat,cutM (dataD D)=some z∧truncD D1 (endM b t) (z:Nat)=(D',0))→openD D=(D',0,⟨D.starts,false,b,t⟩,init.flatten++last.take k):=by
  intro k D' hp hc
  unfold openD
  rw [hu,if_neg (by decide),if_neg]
  · rw [←hS]
    simp only [r1,ne_eq,not_true_eq_false,if_false]
    rw [←hD1,names_fl,H.lay.base,H.lay.tails,hp]
    rcases hc with ⟨hc,rfl⟩ | ⟨z,hc,hz⟩
    · rw [hc]
    rw [hc]
    simp only [hz]
  rw [names_fl,H.lay.okN,H.lay.tails,H.okSeg hu]
  decide
 rcases Nat.eq_zero_or_pos t with h0 | h0
 · obtain ⟨hf0,hl0⟩:=H.zero h0
   subst hl0
   rw [if_neg (by omega),List.append_nil] at hdat
   refine ⟨0,D1,Nat.zero_le _,fun q=>by omega,fun j hj _=>hj,hopen 0 D1 ?_ (.inl ⟨by rw [hdat];exact cutM_no hinit,rfl⟩),r4,r6,r7,fin 0 D1 (Nat.zero_le _) (fun _=>rfl) r2 r3 r5 ⟨0,fun q=>by omega⟩ (fun x hx _=>hseg x hx) hbare⟩
   rw [hdat,pay_FB H.smalls.1]
   simp
 obtain ⟨hfm,hle,r,hr⟩:=H.more h0
 rw [if_pos h0] at hdat
 obtain ⟨k,hk,hw,hkl,hmax⟩:=whole_torn H.smalls.2 hr
 have hkf:=torn_take hr hkl
 have hpay:payM (dataD D)=init.flatten++last.take k:=by
  rw [hdat]
  unfold payM
  rw [List.flatMap_append]
  have:=pay_FB H.smalls.1
  unfold payM at this
  rw [this]
  simp [hw]
 have hend:endM b t=nmB 115 (b+t):=by unfold endM;rw [if_neg (by omega)]
 have hmemE:nmB 115 (b+t)∈segsM b t:=by rw [segs_succ h0];exact List.mem_append_right _ (List.mem_singleton_self _)
 have hle1:lk D1.files (nmB 115 (b+t))=some (l,s):=by rw [hseg _ hmemE];exact hle
 have hlast:(dataD D).getLast? = some l:=by rw [hdat];simp
 by_cases hz:(FB (last.take k)).size=l.size
 · have hl:l=FB (last.take k):=by rw [←hkf,hz,extract_all]
   refine ⟨k,D1,hk,fun _=>hkl,fun j hj hjl=>hmax j hj (hjl h0),hopen k D1 hpay (.inl ⟨?_,rfl⟩),r4,r6,r7,fin k D1 hk (fun q=>by omega) r2 r3 r5 ⟨s,fun _=>⟨by rw [←hl];exact hle1,fun j _ h=>h⟩⟩ (fun x hx _=>hseg x hx) hbare⟩
   unfold cutM
   rw [hlast]
   simp only
   rw [if_pos]
   unfold wholeB
   rw [hw]
   exact decide_eq_true hz
 have hcut:cutM (dataD D)=some (FB (last.take k)).size:=by
  unfold cutM
  rw [hlast]
  simp only
  rw [if_neg,hw]
  unfold wholeB
  rw [hw]
  simpa using hz
 obtain ⟨hi,he⟩:=lk_at r2.rise hle1
 have htr:truncD D1 (nmB 115 (b+t)) ((FB (last.take k)).size:Nat)=(⟨D1.most,D1.starts,false,setF D1.files (nmB 115 (b+t)) fun f=>⟨f.n,f.d.extract 0 (((FB (last.take k)).size:Nat):Int).toNat,min f.s ((FB (last.take k)).size:Nat)⟩,none,D1.keep⟩,0):=by
  unfold truncD
  rw [r3,if_neg (by decide),lk_has,hle1]
  simp only [Option.isSome_some,if_true]
  rw [getF_eq hi,he,if_neg (by simp only;omega)]
  unfold chg
  rw [r4,r3]
 obtain ⟨D2,hD2⟩:∃ D2,D2=(truncD D1 (nmB 115 (b+t)) ((FB (last.take k)).size:Nat)).1:=⟨_,rfl⟩
 have hok2:okD D2:=by rw [hD2];exact trunc_ok r2 _ _
 rw [htr] at hD2
 have hl2:∀ z,lk D2.files z=if z=nmB 115 (b+t) then some (FB (last.take k),min s ((FB (last.take k)).size:Nat)) else lk D1.files z:=fun z=>by
  rw [hD2]
  simp only
  rw [lk_setF r2.rise hle1 (g:=fun f=>⟨f.n,f.d.extract 0 (((FB (last.take k)).size:Nat):Int).toNat,min f.s ((FB (last.take k)).size:Nat)⟩) (fun _=>rfl)]
  simp only [Int.toNat_natCast,hkf]
 refine ⟨k,D2,hk,fun _=>hkl,fun j hj hjl=>hmax j hj (hjl h0),hopen k D2 hpay (.inr ⟨_,hcut,by rw [hend,htr,hD2]⟩),by rw [hD2],by rw [hD2];exact r6,by rw [hD2];exact r7,fin k D2 hk (fun q=>by omega) hok2 (by rw [hD2]) (by rw [hD2];exact r5) ⟨min s ((FB (last.take k)).size:Nat),fun _=>⟨by rw [hl2,if_pos rfl],fun j hj h=>?_⟩⟩ (fun x hx hne=>by rw [hl2,if_neg (hne h0),hseg x hx]) (fun x hx=>?_)⟩
 · have:=FB_take_mono last hj
   omega
 rw [hl2] at hx
 split at hx
 · rename_i e
   rw [e]
   exact hmemE
 exact hbare x hx
def Logs (W:WK) (D:DK) (have_:List BA) (sure:Nat):Prop:=∃ init last j,Live W D init last j∧init.flatten++last=have_∧sure≤init.flatten.length+j
structure Brk (D:DK) (longer:List BA) (sure:Nat):Prop where
 ok:okD D
 down:D.down=true
 fails:D.fails=none
 torn:∃ b t init last l j,Torn D.files b t init last l (l.size:Nat)∧j≤last.length∧(0<t→(FB (last.take j)).size≤l.size)∧sure≤init.flatten.length+j∧(init.flatten++last) <+: longer
theorem chg_cases {D:DK} (hu:D.down=false) (late:Bool) (L2:List Fl):(∃ fl,(D.fails=none→fl=none)∧chg D late L2=(⟨D.most,D.starts,false,L2,fl,D.keep⟩,0))∨(D.fails≠none∧chg D late L2=(⟨D.most,D.starts,true,crashF (if late then L2 else D.files) D.keep,none,D.keep⟩,41)):=by
 unfold chg
 split
 · exact .inl ⟨none,fun _=>rfl,by rw [hu]⟩
 rename_i q hq
 split
 · exact .inl ⟨some (q-1),fun h=>by (rw [hq] at h;cases h),by rw [hu]⟩
 exact .inr ⟨by rw [hq];simp,rfl⟩
theorem Brk.of {_D:DK} {K:List Int} {L:List Fl} {D':DK} (h1:okD D') (h2:D'.down=true) (h3:D'.fails=none) (h4:D'.files=crashF L K) (hL:∀ f∈L,0≤f.s∧f.s≤f.d.size)
 {b t:Nat} {init:List (List BA)} {last:List BA} {s:Int} (H:Torn L b t init last (FB last) s) {j:Nat} (hj:j≤last.length) (hjs:0<t→((FB (last.take j)).size:Int)≤s) {longer:List BA} {sure:Nat} (hs:sure≤init.flatten.length+j) (hp:(init.flatten++last) <+: longer):Brk D' longer sure:=by
 obtain ⟨l',h5,h6⟩:=H.crash hL K
 refine ⟨h1,h2,h3,b,t,init,last,l',j,by rw [h4];exact h5,hj,fun ht=>?_,hs,hp⟩
 have:=h6 ht
 have:=hjs ht
 omega
theorem Brk.opens {D:DK} {longer:List BA} {sure:Nat} (H:Brk D longer sure):∃ D2 W3 D3 l,startD D=(D2,0)∧D2.starts=D.starts+1∧openD D2=(D3,0,W3,l)∧D3.starts=D2.starts∧Logs W3 D3 l l.length∧l <+: longer∧sure≤l.length∧okD D2∧D3.fails=none∧D3.most=D.most:=by
 obtain ⟨b,t,init,last,l,j,hT,hj,hjl,hs,hp⟩:=H.torn
 have e:startD D=(⟨D.most,D.starts+1,false,D.files,D.fails,D.keep⟩,0):=by unfold startD;rw [H.down];rfl
 have hok2:okD (⟨D.most,D.starts+1,false,D.files,D.fails,D.keep⟩:DK):=by
  have:=start_ok H.ok
  rwa [e] at this
 obtain ⟨k,D',hk,hkl0,hmax,ho,hf,hmo,_,hL⟩:=Torn.opens (D:=⟨D.most,D.starts+1,false,D.files,D.fails,D.keep⟩) hok2 rfl H.fails hT (fun _=>⟨by omega,Int.le_refl _⟩)
 have hjk:=hmax j hj hjl
 have hkl:0<t→((FB (last.take k)).size:Int)≤(l.size:Nat):=fun ht=>Int.ofNat_le.2 (hkl0 ht)
 refine ⟨_,_,D',_,e,rfl,ho,(hL 0 (Nat.zero_le _) (fun _=>by simp [FB_nil])).st,⟨init,last.take k,k,hL k (Nat.le_refl _) hkl,rfl,?_⟩,?_,?_,hok2,hf,hmo⟩
 · rw [List.length_append,List.length_take]
   omega
 · refine List.IsPrefix.trans ?_ hp
   exact (List.prefix_append_right_inj _).2 (List.take_prefix _ _)
 rw [List.length_append,List.length_take]
 omega
theorem Logs.crash {W:WK} {D:DK} {l:List BA} {sure:Nat} (H:Logs W D l sure) (K:List Int):(crashD D K).2=0∧Brk (crashD D K).1 l sure∧(crashD D K).1.starts=D.starts:=by
 obtain ⟨init,last,j,hL,e,hs⟩:=H
 obtain ⟨s,hT,hjs⟩:=hL.torn
 have ec:crashD D K=(⟨D.most,D.starts,true,crashF D.files K,none,D.keep⟩,0):=by unfold crashD;rw [hL.up];rfl
 have hok:=crash_ok hL.ok K
 rw [ec] at hok ⊢
 exact ⟨rfl,Brk.of (_D:=D) hok rfl rfl rfl hL.ok.sure hT hL.few hjs hs (by rw [e];exact List.prefix_rfl),rfl⟩
theorem Live.last {W:WK} {D:DK} {init:List (List BA)} {last:List BA} {j:Nat} (H:Live W D init last j) (ht:0<W.t):∃ s:Int,lk D.files (nmB 115 (W.b+W.t))=some (FB last,s)∧((FB (last.take j)).size:Int)≤s∧s≤(FB last).size∧full D.files (segsM W.b (W.t-1)) init:=by
 obtain ⟨s,hT,hjs⟩:=H.torn
 obtain ⟨h1,h2,_⟩:=hT.more ht
 exact ⟨s,h2,hjs ht,(H.ok.sure _ (lk_mem h2)).2,h1⟩
theorem Live.sync {W:WK} {D:DK} {init:List (List BA)} {last:List BA} {j:Nat} (H:Live W D init last j) (ht:0<W.t) :
 ((syncD D (nmB 115 (W.b+W.t))).2=0∧Live W (syncD D (nmB 115 (W.b+W.t))).1 init last last.length∧(∀ x,(lk (syncD D (nmB 115 (W.b+W.t))).1.files x).map (·.1)=(lk D.files x).map (·.1))∧(D.fails=none→(syncD D (nmB 115 (W.b+W.t))).1.fails=none)) ∨
 (D.fails≠none∧(syncD D (nmB 115 (W.b+W.t))).2=41∧Brk (syncD D (nmB 115 (W.b+W.t))).1 (init.flatten++last) (init.flatten.length+j)):=by
 obtain ⟨s,hT,hjs⟩:=H.torn
 obtain ⟨s0,hl,_,_,hf⟩:=H.last ht
 have hok:=sync_ok H.ok (nmB 115 (W.b+W.t))
 have e:syncD D (nmB 115 (W.b+W.t))=chg D false (setF D.files (nmB 115 (W.b+W.t)) fun f=>⟨f.n,f.d,(f.d.size:Nat)⟩):=by
  unfold syncD
  rw [H.up,if_neg (by decide),lk_has,hl]
  rfl
 rw [e] at hok ⊢
 have hl2:∀ z,lk (setF D.files (nmB 115 (W.b+W.t)) fun f=>⟨f.n,f.d,(f.d.size:Nat)⟩) z=if z=nmB 115 (W.b+W.t) then some (FB last,((FB last).size:Int)) else lk D.files z:=fun z=>lk_setF H.ok.rise hl (g:=fun f=>⟨f.n,f.d,(f.d.size:Nat)⟩) (fun _=>rfl) z
 rcases chg_cases H.up false (setF D.files (nmB 115 (W.b+W.t)) fun f=>⟨f.n,f.d,(f.d.size:Nat)⟩) with ⟨fl,hfl,ec⟩ | ⟨hfn,ec⟩
 · left
   rw [ec] at hok ⊢
   have hb:∀ x,lk (setF D.files (nmB 115 (W.b+W.t)) fun f=>⟨f.n,f.d,(f.d.size:Nat)⟩) x≠none→x∈segsM W.b W.t:=fun x hx=>by
    rw [hl2] at hx
    split at hx
    · rename_i e
      rw [e,segs_succ ht]
      exact List.mem_append_right _ (List.mem_singleton_self _)
    exact H.bare x hx
   refine ⟨rfl,⟨hok,rfl,H.st,H.nb,⟨((FB last).size:Nat),?_,fun _=>by rw [List.take_length];exact Int.le_refl _⟩,Nat.le_refl _,hb⟩,fun x=>?_,hfl⟩
   · refine hT.move hok.rise (fun x _ hne=>by rw [hl2,if_neg (hne ht)]) (fun _=>by rw [hl2,if_pos rfl]) (fun x hx=>.inl (hb x hx)) hT.smalls.2 (fun _=>⟨.empty,ba_eq (by rw [ba_app];simp)⟩) (fun h0=>by omega)
   simp only
   rw [hl2]
   split
   · rename_i e
     rw [e,hl]
     rfl
   rfl
 right
 rw [ec] at hok ⊢
 exact ⟨hfn,rfl,Brk.of (_D:=D) hok rfl rfl rfl H.ok.sure hT H.few hjs (Nat.le_refl _) List.prefix_rfl⟩
theorem FB_add (ps qs:List BA):FB ps++FB qs=FB (ps++qs):=(FB_append ps qs).symm
theorem nm_odd {c:UInt8} {n:Nat} (h:n≤9999999999):oddS (nmB c n)=false:=by
 have h1:=nmB_size c n h
 have h2:=nmB_pos c n
 unfold oddS
 simp only [Bool.or_eq_false_iff,decide_eq_false_iff_not]
 omega
theorem Live.put {W:WK} {D:DK} {init:List (List BA)} {last:List BA} {j:Nat} (H:Live W D init last j) (ht:0<W.t) {ps:List BA} (hp:small ps) :
 (D.most-sumD D.files<((FB ps).size:Int)∧appD D (nmB 115 (W.b+W.t)) (FB ps)=(D,40)) ∨
 ((appD D (nmB 115 (W.b+W.t)) (FB ps)).2=0∧Live W (appD D (nmB 115 (W.b+W.t)) (FB ps)).1 init (last++ps) j∧(D.fails=none→(appD D (nmB 115 (W.b+W.t)) (FB ps)).1.fails=none)) ∨
 (D.fails≠none∧(appD D (nmB 115 (W.b+W.t)) (FB ps)).2=41∧Brk (appD D (nmB 115 (W.b+W.t)) (FB ps)).1 (init.flatten++last++ps) (init.flatten.length+j)):=by
 obtain ⟨s0,hl,hjs,hs0,hf⟩:=H.last ht
 obtain ⟨s,hT,_⟩:=H.torn
 have hfew:=H.few
 have hok:=app_ok H.ok (nmB 115 (W.b+W.t)) (FB ps)
 have hb9:=H.okW
 unfold Proofs.YtnbaejindfillaaGreatDoor.okW at hb9
 have hodd:=nm_odd (c:=115) (n:=W.b+W.t) (by omega)
 have hhas:hasF D.files (nmB 115 (W.b+W.t))=true:=by rw [lk_has,hl];rfl
 by_cases hroom:D.most-sumD D.files<((FB ps).size:Int)
 · left
   refine ⟨hroom,?_⟩
   unfold appD
   rw [H.up,if_neg (by decide),hodd,if_neg (by decide),if_pos (.inr hroom)]
 right
 have e:appD D (nmB 115 (W.b+W.t)) (FB ps)=chg D true (appF D.files (nmB 115 (W.b+W.t)) (FB ps)):=by
  unfold appD
  rw [H.up,if_neg (by decide),hodd,if_neg (by decide),if_neg]
  rintro (⟨h1,_⟩ | h1)
  · rw [hhas] at h1
    cases h1
  exact hroom h1
 rw [e] at hok ⊢
 obtain ⟨L2,hL2⟩:∃ L2,L2=appF D.files (nmB 115 (W.b+W.t)) (FB ps):=⟨_,rfl⟩
 have hl2:∀ z,lk L2 z=if z=nmB 115 (W.b+W.t) then some (FB (last++ps),s0) else lk D.files z:=fun z=>by
  rw [hL2,lk_app H.ok.rise,hl]
  simp only [FB_add]
 have hrise:riseF L2:=by
  rw [hL2]
  unfold appF
  rw [if_pos hhas]
  exact riseF_names (setF_names fun _=>rfl) H.ok.rise
 have hsure:∀ f∈L2,0≤f.s∧f.s≤f.d.size:=fun f hf=>by
  have h1:=lk_of hrise hf
  rw [hl2] at h1
  split at h1
  · rename_i en
    have h2:=H.ok.sure _ (lk_mem hl)
    simp only [Option.some.injEq,Prod.mk.injEq] at h1
    rw [←h1.1,←h1.2,FB_size_append]
    simp only at h2
    omega
  exact H.ok.sure _ (lk_mem h1)
 have hb:∀ x,lk L2 x≠none→x∈segsM W.b W.t:=fun x hx=>by
  rw [hl2] at hx
  split at hx
  · rename_i e
    rw [e,segs_succ ht]
    exact List.mem_append_right _ (List.mem_singleton_self _)
  exact H.bare x hx
 have hT2:Torn L2 W.b W.t init (last++ps) (FB (last++ps)) s0:=by
  refine hT.move hrise (fun x _ hne=>by rw [hl2,if_neg (hne ht)]) (fun _=>by rw [hl2,if_pos rfl]) (fun x hx=>.inl (hb x hx)) (fun p hp2=>?_) (fun _=>⟨.empty,ba_eq (by rw [ba_app];simp)⟩) (fun h0=>by omega)
  rcases List.mem_append.1 hp2 with h | h
  · exact hT.smalls.2 p h
  exact hp p h
 have hjs2:0<W.t→((FB ((last++ps).take j)).size:Int)≤s0:=fun _=>by
  rw [List.take_append_of_le_length H.few]
  exact hjs
 have hjl:j≤(last++ps).length:=by rw [List.length_append];omega
 rw [←hL2] at hok ⊢
 rcases chg_cases H.up true L2 with ⟨fl,hfl,ec⟩ | ⟨hfn,ec⟩
 · left
   rw [ec] at hok ⊢
   exact ⟨rfl,⟨hok,rfl,H.st,H.nb,⟨s0,hT2,hjs2⟩,hjl,hb⟩,hfl⟩
 right
 rw [ec] at hok ⊢
 refine ⟨hfn,rfl,Brk.of (_D:=D) hok rfl rfl rfl hsure hT2 hjl hjs2 (Nat.le_refl _) (by rw [List.append_assoc];exact List.prefix_rfl)⟩
structure Whole (W:WK) (D:DK) (Ps:List (List BA)):Prop where
 ok:okD D
 up:D.down=false
 st:D.starts=W.s
 nb:W.bad=false
 lay:Bare (namesD D) W.b W.t
 smalls:∀ ps∈Ps,small ps
 full:Proofs.YtnbaejindfillaaGreatDoor.full D.files (segsM W.b W.t) Ps
theorem Live.whole {W:WK} {D:DK} {init:List (List BA)} {last:List BA} (H:Live W D init last last.length):∃ Ps,Whole W D Ps∧Ps.flatten=init.flatten++last:=by
 obtain ⟨s,hT,hjs⟩:=H.torn
 rcases Nat.eq_zero_or_pos W.t with h0 | h0
 · obtain ⟨h1,h2⟩:=hT.zero h0
   exact ⟨init,⟨H.ok,H.up,H.st,H.nb,H.names,hT.smalls.1,by rw [h0];exact h1⟩,by rw [h2,List.append_nil]⟩
 obtain ⟨s0,hl,hj,hs0,hf⟩:=H.last h0
 rw [List.take_length] at hj
 obtain rfl:s0=((FB last).size:Int):=by omega
 refine ⟨init++[last],⟨H.ok,H.up,H.st,H.nb,H.names,fun ps hps=>?_,?_⟩,by simp⟩
 · rcases List.mem_append.1 hps with h | h
   · exact hT.smalls.1 ps h
   rw [List.mem_singleton.1 h];exact hT.smalls.2
 unfold full at hf ⊢
 rw [segs_succ h0,List.map_append,List.map_append,hf]
 simp [hl]
theorem Whole.next {W:WK} {D:DK} {Ps:List (List BA)} (H:Whole W D Ps) {ps:List BA} (hp:small ps) (h9:W.b+W.t<999999999) (h15:D.files.length<15) :
 (D.most-sumD D.files<((FB ps).size:Int)∧appD D (nmB 115 (W.b+W.t+1)) (FB ps)=(D,40)) ∨
 ((appD D (nmB 115 (W.b+W.t+1)) (FB ps)).2=0∧Live ⟨W.s,W.bad,W.b,W.t+1⟩ (appD D (nmB 115 (W.b+W.t+1)) (FB ps)).1 Ps ps 0∧(D.fails=none→(appD D (nmB 115 (W.b+W.t+1)) (FB ps)).1.fails=none)) ∨
 (D.fails≠none∧(appD D (nmB 115 (W.b+W.t+1)) (FB ps)).2=41∧Brk (appD D (nmB 115 (W.b+W.t+1)) (FB ps)).1 (Ps.flatten++ps) Ps.flatten.length):=by
 have hok:=app_ok H.ok (nmB 115 (W.b+W.t+1)) (FB ps)
 have hodd:=nm_odd (c:=115) (n:=W.b+W.t+1) (by omega)
 have hss:segsM W.b (W.t+1)=segsM W.b W.t++[nmB 115 (W.b+W.t+1)]:=segs_succ (b:=W.b) (t:=W.t+1) (by omega)
 have hnew:nmB 115 (W.b+W.t+1) ∉ segsM W.b W.t:=fun hx=>by
  have:=segs_nodup W.b (W.t+1)
  rw [hss,List.nodup_append] at this
  exact this.2.2 _ hx _ (List.mem_singleton_self _) rfl
 have hno:lk D.files (nmB 115 (W.b+W.t+1))=none:=by
  cases h:lk D.files (nmB 115 (W.b+W.t+1)) with
  | none=>rfl
  | some v=>exact absurd ((H.lay.2 _).1 (mem_names.2 (by rw [h];simp))) hnew
 have hhas:hasF D.files (nmB 115 (W.b+W.t+1))=false:=by rw [lk_has,hno];rfl
 have hlen:(segsM W.b W.t).length=D.files.length:=by
  have h2:=((List.perm_ext_iff_of_nodup (rise_nodup H.ok.rise) (segs_nodup W.b W.t)).2 H.lay.2).length_eq
  rw [List.length_map] at h2
  exact h2.symm
 by_cases hroom:D.most-sumD D.files<((FB ps).size:Int)
 · left
   refine ⟨hroom,?_⟩
   unfold appD
   rw [H.up,if_neg (by decide),hodd,if_neg (by decide),if_pos (.inr hroom)]
 right
 have e:appD D (nmB 115 (W.b+W.t+1)) (FB ps)=chg D true (appF D.files (nmB 115 (W.b+W.t+1)) (FB ps)):=by
  unfold appD
  rw [H.up,if_neg (by decide),hodd,if_neg (by decide),if_neg]
  rintro (⟨_,h1⟩ | h1)
  · omega
  exact hroom h1
 rw [e] at hok ⊢
 obtain ⟨L2,hL2⟩:∃ L2,L2=appF D.files (nmB 115 (W.b+W.t+1)) (FB ps):=⟨_,rfl⟩
 have hl2:∀ z,lk L2 z=if z=nmB 115 (W.b+W.t+1) then some (FB ps,0) else lk D.files z:=fun z=>by
  rw [hL2,lk_app H.ok.rise,hno]
 have hrise:riseF L2:=by
  rw [hL2]
  unfold appF
  rw [if_neg (by rw [hhas];decide)]
  exact riseF_ins H.ok.rise hhas
 have hsure:∀ f∈L2,0≤f.s∧f.s≤f.d.size:=fun f hf=>by
  have h1:=lk_of hrise hf
  rw [hl2] at h1
  split at h1
  · simp only [Option.some.injEq,Prod.mk.injEq] at h1
    rw [←h1.2]
    exact ⟨Int.le_refl _,Int.natCast_nonneg _⟩
  exact H.ok.sure _ (lk_mem h1)
 have hb:∀ x,lk L2 x≠none→x∈segsM W.b (W.t+1):=fun x hx=>by
  rw [hss]
  rw [hl2] at hx
  split at hx
  · rename_i e
    rw [e]
    exact List.mem_append_right _ (List.mem_singleton_self _)
  exact List.mem_append_left _ ((H.lay.2 x).1 (mem_names.2 hx))
 have hold:∀ x∈segsM W.b W.t,lk L2 x=lk D.files x:=fun x hx=>by
  rw [hl2,if_neg (fun e=>hnew (by rw [←e];exact hx))]
 have hT2:Torn L2 W.b (W.t+1) Ps ps (FB ps) 0:=by
  refine ⟨hrise,⟨by omega,fun x hx=>mem_names.2 ?_,fun x hx=>.inl (hb x (mem_names.1 hx))⟩,by rw [hss,List.length_append];simp only [List.length_singleton];omega,⟨H.smalls,hp⟩,fun q=>by omega,fun _=>⟨?_,?_,.empty,ba_eq (by rw [ba_app];simp)⟩⟩
  · rw [hss] at hx
    rcases List.mem_append.1 hx with hx | hx
    · rw [hold x hx]
      exact mem_names.1 ((H.lay.2 x).2 hx)
    rw [List.mem_singleton.1 hx,hl2,if_pos rfl]
    simp
  · exact full_congr hold H.full
  show lk L2 (nmB 115 (W.b+W.t+1))=_
  rw [hl2,if_pos rfl]
 have hjs2:0<W.t+1→((FB (ps.take 0)).size:Int)≤0:=fun _=>by
  rw [List.take_zero,FB_nil]
  exact Int.le_refl _
 rw [←hL2] at hok ⊢
 rcases chg_cases H.up true L2 with ⟨fl,hfl,ec⟩ | ⟨hfn,ec⟩
 · left
   rw [ec] at hok ⊢
   exact ⟨rfl,⟨hok,rfl,H.st,H.nb,⟨0,hT2,hjs2⟩,Nat.zero_le _,hb⟩,hfl⟩
 right
 rw [ec] at hok ⊢
 exact ⟨hfn,rfl,Brk.of (_D:=D) hok rfl rfl rfl hsure hT2 (Nat.zero_le _) hjs2 (Nat.le_refl _) List.prefix_rfl⟩
theorem bad40 (b:Bool):(b || badE 40)=b:=by simp [badE]
theorem rem_torn {b t:Nat} {init:List (List BA)} {last:List BA} {s:Int}:∀ {S:List BA} {D:DK},okD D→D.down=false→Torn D.files b t init last (FB last) s→S.Nodup→(∀ x∈S,staleB b x=true∧∃ v,lk D.files x=some v) →
 ((runD (remL S) D).2=0∧okD (runD (remL S) D).1∧(runD (remL S) D).1.down=false∧(runD (remL S) D).1.starts=D.starts∧Torn (runD (remL S) D).1.files b t init last (FB last) s∧(∀ z,lk (runD (remL S) D).1.files z=if memB S z then none else lk D.files z)∧(D.fails=none→(runD (remL S) D).1.fails=none)∧(runD (remL S) D).1.most=D.most) ∨
 (D.fails≠none∧(runD (remL S) D).2=41∧okD (runD (remL S) D).1∧(runD (remL S) D).1.down=true∧(runD (remL S) D).1.fails=none∧∃ L K,(runD (remL S) D).1.files=crashF L K∧(∀ f∈L,0≤f.s∧f.s≤f.d.size)∧Torn L b t init last (FB last) s)
 | [],D,h1,h2,h3,_,_=>.inl ⟨rfl,h1,h2,rfl,h3,fun z=>rfl,fun h=>h,rfl⟩
 |
  x::S,D,h1,h2,h3,h4,h5=>by
  obtain ⟨hst,v,hv⟩:=h5 x List.mem_cons_self
  obtain ⟨n1,n2⟩:=List.nodup_cons.1 h4
  have hl:∀ z,lk (D.files.eraseIdx (posF D.files x)) z=if z=x then none else lk D.files z:=lk_erase h1.rise hv
  have hok:=rem_ok h1 x
  have e:remD D x=chg D false (D.files.eraseIdx (posF D.files x)):=by
   unfold remD
   rw [h2,if_neg (by decide),lk_has,hv]
   rfl
  have er:runD (remL (x::S)) D=if (remD D x).2=0 then runD (remL S) (remD D x).1 else remD D x:=rfl
  rw [er]
  rw [e] at hok ⊢
  rcases chg_cases h2 false (D.files.eraseIdx (posF D.files x)) with ⟨fl,hfl,ec⟩ | ⟨hfn,ec⟩
  · rw [ec] at hok ⊢
    rw [if_pos rfl]
    have hne:∀ y∈segsM b t,y≠x:=fun y hy q=>by
     have:=seg_fresh h3.lay.few hy
     rw [q,hst] at this
     cases this
    have hT2:Torn (D.files.eraseIdx (posF D.files x)) b t init last (FB last) s:=by
     refine h3.move (rise_erase h1.rise _) (fun y hy _=>by rw [hl,if_neg (hne y hy)]) (fun ht=>?_) (fun y hy=>?_) h3.smalls.2 (fun _=>⟨.empty,ba_eq (by rw [ba_app];simp)⟩) (fun h0=>(h3.zero h0).2)
     · rw [hl,if_neg (hne _ (by rw [segs_succ ht];exact List.mem_append_right _ (List.mem_singleton_self _)))]
       exact (h3.more ht).2.1
     rw [hl] at hy
     split at hy
     · exact absurd rfl hy
     exact h3.lay.all y (mem_names.2 hy)
    have hrest:=rem_torn (S:=S) (D:=⟨D.most,D.starts,false,D.files.eraseIdx (posF D.files x),fl,D.keep⟩) hok rfl hT2 n2 (fun y hy=>by
     obtain ⟨q1,w,q2⟩:=h5 y (List.mem_cons_of_mem _ hy)
     exact ⟨q1,w,by rw [hl,if_neg (fun q=>n1 (by rw [←q];exact hy))];exact q2⟩)
    rcases hrest with ⟨a1,a2,a3,a4,a5,a6,a7,a8⟩ | ⟨h0,h⟩
    · refine .inl ⟨a1,a2,a3,a4,a5,fun z=>?_,fun q=>a7 (hfl q),a8⟩
      rw [a6,hl]
      have em:memB (x::S) z=(decide (x=z) || memB S z):=rfl
      rw [em]
      by_cases hx:z=x
      · rw [if_pos hx,decide_eq_true hx.symm]
        simp
      rw [if_neg hx,decide_eq_false (fun q=>hx q.symm),Bool.false_or]
    exact .inr ⟨fun q=>h0 (hfl q),h⟩
  rw [ec] at hok ⊢
  rw [if_neg (by simp)]
  exact .inr ⟨hfn,rfl,hok,rfl,rfl,D.files,D.keep,rfl,h1.sure,h3⟩
theorem tB_seg {b t:Nat}:tB ∉ segsM b t:=fun h=>by
 rcases segs_mem.1 h with ⟨_,e⟩ | ⟨i,_,e⟩
 · have:=congrArg (fun x=>x.data.toList) e
   rw [nmB_list] at this
   simp [tB] at this
 have:=congrArg (fun x=>x.data.toList) e
 rw [nmB_list] at this
 simp [tB] at this
theorem tB_stale (b:Nat):staleB b tB=true:=stale_iff.2 (.inl rfl)
theorem tB_odd:oddS tB=false:=by decide
theorem Torn.draft {L L':List Fl} {b t:Nat} {init:List (List BA)} {last:List BA} {s:Int} (H:Torn L b t init last (FB last) s) (hr:riseF L') (h:∀ z,z≠tB→lk L' z=lk L z):Torn L' b t init last (FB last) s:=by
 have hne:∀ y∈segsM b t,y≠tB:=fun y hy q=>tB_seg (by rw [←q];exact hy)
 refine H.move hr (fun y hy _=>h y (hne y hy)) (fun ht=>?_) (fun y hy=>?_) H.smalls.2 (fun _=>⟨.empty,ba_eq (by rw [ba_app];simp)⟩) (fun h0=>(H.zero h0).2)
 · rw [h _ (hne _ (by rw [segs_succ ht];exact List.mem_append_right _ (List.mem_singleton_self _)))]
   exact (H.more ht).2.1
 by_cases e:y=tB
 · rw [e]
   exact .inr (tB_stale b)
 rw [h y e] at hy
 exact H.lay.all y (mem_names.2 hy)
theorem app_rise {D:DK} (h:okD D) (x y:BA) (_hx:oddS x=false):riseF (appF D.files x y):=by
 unfold appF
 split
 · exact riseF_names (setF_names fun _=>rfl) h.rise
 rename_i hh
 exact riseF_ins h.rise (by simpa using hh)
theorem app_sure {D:DK} (h:okD D) (x y:BA) (hx:oddS x=false):∀ f∈appF D.files x y,0≤f.s∧f.s≤f.d.size:=fun f hf=>by
 have h1:=lk_of (app_rise h x y hx) hf
 rw [lk_app h.rise] at h1
 split at h1
 · cases hl:lk D.files x with
   |
    none =>
    rw [hl] at h1
    simp only [Option.some.injEq,Prod.mk.injEq] at h1
    rw [←h1.2]
    exact ⟨Int.le_refl _,Int.natCast_nonneg _⟩
   |
    some v =>
    rw [hl] at h1
    have h2:=h.sure _ (lk_mem hl)
    simp only [Option.some.injEq,Prod.mk.injEq] at h1
    rw [←h1.1,←h1.2,ByteArray.size_append]
    simp only at h2
    omega
 exact h.sure _ (lk_mem h1)
theorem Torn.anew {L L':List Fl} {b t n:Nat} {init:List (List BA)} {last:List BA} {s:Int} {ps:List BA} (H:Torn L b t init last (FB last) s) (hn:b+t<n) (hn9:n≤999999999) (hr:riseF L') (hp:small ps)
 (hc:lk L' (nmB 99 n)=some (FB ps,((FB ps).size:Int))) (hall:∀ z,lk L' z≠none→z=nmB 99 n∨lk L z≠none):Torn L' n 0 [ps] [] (FB []) 0:=by
 have hs0:segsM n 0=[nmB 99 n]:=by unfold segsM;rw [if_pos (by omega)];rfl
 refine ⟨hr,⟨by omega,fun x hx=>mem_names.2 ?_,fun x hx=>?_⟩,by rw [hs0];simp,⟨fun q hq=>by rw [List.mem_singleton.1 hq];exact hp,fun p h=>by cases h⟩,fun _=>⟨?_,rfl⟩,fun q=>absurd q (by decide)⟩
 · rw [hs0] at hx
   rw [List.mem_singleton.1 hx,hc]
   simp
 · rcases hall x (mem_names.1 hx) with h | h
   · rw [hs0,h]
     exact .inl (List.mem_singleton_self _)
   right
   rcases H.lay.all x (mem_names.2 h) with h2 | h2
   · exact stale_old hn hn9 h2
   rcases stale_iff.1 h2 with h3 | h3 | h3
   · exact stale_iff.2 (.inl h3)
   · exact stale_iff.2 (.inr (.inl (by omega)))
   exact stale_iff.2 (.inr (.inr (by omega)))
 unfold full
 rw [hs0]
 simp [hc]
theorem Live.ck {W:WK} {D:DK} {init:List (List BA)} {last:List BA} {j:Nat} (hL:Live W D init last j) {sure:Nat} (hs:sure≤init.flatten.length+j) (ps:List BA) :
 ((ckW W D ps).2.2=0∧small ps∧(ckW W D ps).1=⟨W.s,W.bad,W.b+W.t+1,0⟩∧Live (ckW W D ps).1 (ckW W D ps).2.1 [ps] [] 0∧(D.fails=none→(ckW W D ps).2.1.fails=none)∧(ckW W D ps).2.1.most=D.most) ∨
 (((ckW W D ps).2.2=3∧¬ small ps∨(ckW W D ps).2.2=40∧(999999999≤W.b+W.t∨D.most-sumD D.files<((FB ps).size:Int)))∧(ckW W D ps).1=W∧(ckW W D ps).2.1=D) ∨
 (D.fails≠none∧(ckW W D ps).2.2=41∧(Brk (ckW W D ps).2.1 (init.flatten++last) sure∨Brk (ckW W D ps).2.1 ps ps.length)):=by
 obtain ⟨s,hT,hjs⟩:=hL.torn
 unfold ckW
 rw [hL.ask,if_neg (by decide)]
 by_cases hf:(framedM ps).2=0
 · obtain ⟨hsm,hFB⟩:=framed_ok hf
   rw [if_neg (by simpa using hf),hFB]
   by_cases h99:999999999≤W.b+W.t
   · rw [if_pos h99]
     exact .inr (.inl ⟨.inr ⟨rfl,.inl h99⟩,rfl,rfl⟩)
   rw [if_neg h99]
   dsimp only
   have h15:D.files.length≤15:=by
    have h1:=hL.len
    have h2:=hT.few
    omega
   have hno:lk D.files tB=none:=by
    cases h:lk D.files tB with
    | none=>rfl
    | some v=>exact absurd (hL.bare tB (by rw [h];simp)) tB_seg
   have brk:∀ {D':DK} {L:List Fl} {K:List Int},okD D'→D'.down=true→D'.fails=none→D'.files=crashF L K→(∀ f∈L,0≤f.s∧f.s≤f.d.size)→Torn L W.b W.t init last (FB last) s→Brk D' (init.flatten++last) sure:=fun h1 h2 h3 h4 h5 h6 =>
    Brk.of (_D:=D) h1 h2 h3 h4 h5 h6 hL.few hjs hs List.prefix_rfl
   by_cases hroom:D.most-sumD D.files<((FB ps).size:Int)
   · have e:appD D tB (FB ps)=(D,40):=by
      unfold appD
      rw [hL.up,if_neg (by decide),tB_odd,if_neg (by decide),if_pos (.inr hroom)]
     have er:runD (ckL3 (FB ps) (W.b+W.t+1)) D=(D,40):=by
      show (if (appD D tB (FB ps)).2=0 then _ else appD D tB (FB ps))=_
      rw [e,if_neg (by simp)]
     rw [er,if_pos (by simp)]
     exact .inr (.inl ⟨.inr ⟨rfl,.inr hroom⟩,by simp only;rw [bad40],rfl⟩)
   have e:appD D tB (FB ps)=chg D true (appF D.files tB (FB ps)):=by
    unfold appD
    rw [hL.up,if_neg (by decide),tB_odd,if_neg (by decide),if_neg]
    rintro (⟨_,h1⟩ | h1)
    · omega
    exact hroom h1
   have hok1:=app_ok hL.ok tB (FB ps)
   obtain ⟨L1,hL1⟩:∃ L1,L1=appF D.files tB (FB ps):=⟨_,rfl⟩
   have hl1:∀ z,lk L1 z=if z=tB then some (FB ps,0) else lk D.files z:=fun z=>by rw [hL1,lk_app hL.ok.rise,hno]
   have hr1:riseF L1:=by rw [hL1];exact app_rise hL.ok _ _ tB_odd
   have hs1:∀ f∈L1,0≤f.s∧f.s≤f.d.size:=by rw [hL1];exact app_sure hL.ok _ _ tB_odd
   have hT1:Torn L1 W.b W.t init last (FB last) s:=hT.draft hr1 fun z hz=>by rw [hl1,if_neg hz]
   rw [←hL1] at e
   rw [e] at hok1
   rcases chg_cases hL.up true L1 with ⟨fl,hfl,ec⟩ | ⟨hfn,ec⟩
   rotate_left
   · have er:runD (ckL3 (FB ps) (W.b+W.t+1)) D=chg D true L1:=by
      show (if (appD D tB (FB ps)).2=0 then _ else appD D tB (FB ps))=_
      rw [e,ec,if_neg (by simp)]
     rw [er]
     rw [ec] at hok1 ⊢
     rw [if_pos (by simp)]
     exact .inr (.inr ⟨hfn,rfl,.inl (brk hok1 rfl rfl rfl hs1 hT1)⟩)
   obtain ⟨D1,hD1⟩:∃ D1:DK,D1=⟨D.most,D.starts,false,L1,fl,D.keep⟩:=⟨_,rfl⟩
   rw [←hD1] at ec
   rw [ec] at hok1
   replace hok1:okD D1:=hok1
   have hf1:D1.files=L1:=by rw [hD1]
   have hu1:D1.down=false:=by rw [hD1]
   have hst1:D1.starts=D.starts:=by rw [hD1]
   have er1:runD (ckL3 (FB ps) (W.b+W.t+1)) D=runD [fun D=>syncD D tB,fun D=>renD D tB (nmB 99 (W.b+W.t+1))] D1:=by
    unfold ckL3
    rw [runD]
    simp only [e,ec,if_true]
   rw [er1]
   have hlt1:lk D1.files tB=some (FB ps,0):=by rw [hf1,hl1,if_pos rfl]
   have e2:syncD D1 tB=chg D1 false (setF D1.files tB fun f=>⟨f.n,f.d,(f.d.size:Nat)⟩):=by
    unfold syncD
    rw [hu1,if_neg (by decide),lk_has,hlt1]
    rfl
   have hok2:=sync_ok hok1 tB
   obtain ⟨L2,hL2⟩:∃ L2,L2=setF D1.files tB fun f=>⟨f.n,f.d,(f.d.size:Nat)⟩:=⟨_,rfl⟩
   have hl2:∀ z,lk L2 z=if z=tB then some (FB ps,((FB ps).size:Int)) else lk L1 z:=fun z=>by
    rw [hL2,lk_setF hok1.rise hlt1 (g:=fun f=>⟨f.n,f.d,(f.d.size:Nat)⟩) (fun _=>rfl),hf1]
   have hr2:riseF L2:=by rw [hL2];exact riseF_names (setF_names fun _=>rfl) hok1.rise
   have hT2:Torn L2 W.b W.t init last (FB last) s:=hT1.draft hr2 fun z hz=>by rw [hl2,if_neg hz]
   rw [←hL2] at e2
   rw [e2] at hok2
   rcases chg_cases hu1 false L2 with ⟨fl2,hfl2,ec2⟩ | ⟨hfn,ec2⟩
   rotate_left
   · have er:runD [fun D=>syncD D tB,fun D=>renD D tB (nmB 99 (W.b+W.t+1))] D1=chg D1 false L2:=by
      rw [runD]
      simp only [e2,ec2]
      rw [if_neg (by simp)]
     rw [er]
     rw [ec2] at hok2 ⊢
     rw [if_pos (by simp)]
     exact .inr (.inr ⟨fun q=>hfn (by rw [hD1];exact hfl q),rfl,.inl (brk hok2 rfl rfl rfl hok1.sure (by rw [hf1];exact hT1))⟩)
   obtain ⟨D2,hD2⟩:∃ D2:DK,D2=⟨D1.most,D1.starts,false,L2,fl2,D1.keep⟩:=⟨_,rfl⟩
   rw [←hD2] at ec2
   rw [ec2] at hok2
   replace hok2:okD D2:=hok2
   have hf2:D2.files=L2:=by rw [hD2]
   have hu2:D2.down=false:=by rw [hD2]
   have hst2:D2.starts=D.starts:=by rw [hD2];exact hst1
   have er2:runD [fun D=>syncD D tB,fun D=>renD D tB (nmB 99 (W.b+W.t+1))] D1=renD D2 tB (nmB 99 (W.b+W.t+1)):=by
    rw [runD]
    simp only [e2,ec2,if_true]
    exact run_one (fun D=>renD D tB (nmB 99 (W.b+W.t+1))) D2
   rw [er2]
   have hlt2:lk D2.files tB=some (FB ps,((FB ps).size:Int)):=by rw [hf2,hl2,if_pos rfl]
   have hoc:=nm_odd (c:=99) (n:=W.b+W.t+1) (by omega)
   have e3:renD D2 tB (nmB 99 (W.b+W.t+1))=chg D2 false (renF D2.files tB (nmB 99 (W.b+W.t+1))):=by
    unfold renD
    rw [hu2,if_neg (by decide),lk_has,hlt2]
    simp only [Option.isSome_some,if_true]
    rw [hoc,if_neg (by decide)]
   have hok3:=ren_ok hok2 tB (nmB 99 (W.b+W.t+1))
   obtain ⟨L3,hL3⟩:∃ L3,L3=renF D2.files tB (nmB 99 (W.b+W.t+1)):=⟨_,rfl⟩
   have hl3:∀ z,lk L3 z=if z=nmB 99 (W.b+W.t+1) then some (FB ps,((FB ps).size:Int)) else if z=tB then none else lk L2 z:=fun z=>by rw [hL3,lk_ren hok2.rise hlt2,hf2]
   rw [←hL3] at e3
   rw [e3] at hok3 ⊢
   rcases chg_cases hu2 false L3 with ⟨fl3,hfl3,ec3⟩ | ⟨hfn,ec3⟩
   rotate_left
   · rw [ec3] at hok3 ⊢
     rw [if_pos (by simp)]
     exact .inr (.inr ⟨fun q=>hfn (by rw [hD2];exact hfl2 (by rw [hD1];exact hfl q)),rfl,.inl (brk hok3 rfl rfl rfl hok2.sure (by rw [hf2];exact hT2))⟩)
   rw [ec3] at hok3 ⊢
   rw [if_neg (by simp)]
   have hT3:Torn L3 (W.b+W.t+1) 0 [ps] [] (FB []) 0:=hT2.anew (by omega) (by omega) hok3.rise hsm (by rw [hl3,if_pos rfl]) fun z hz=>by
    rw [hl3] at hz
    split at hz
    · rename_i q
      exact .inl q
    split at hz
    · exact absurd rfl hz
    exact .inr hz
   obtain ⟨D3,hD3⟩:∃ D3:DK,D3=⟨D2.most,D2.starts,false,L3,fl3,D2.keep⟩:=⟨_,rfl⟩
   have hf3:D3.files=L3:=by rw [hD3]
   have hu3:D3.down=false:=by rw [hD3]
   have hst3:D3.starts=D.starts:=by rw [hD3];exact hst2
   rw [←hD3] at hok3 ⊢
   replace hok3:okD D3:=hok3
   rw [←hf3] at hT3
   have hbase:baseM (namesD D3)=W.b+W.t+1:=hT3.lay.base
   have htail:tailsM (namesD D3)=0:=hT3.lay.tails
   have hstal:staleM (namesD D3)=(namesD D3).filter (staleB (W.b+W.t+1)):=hT3.lay.stale
   simp only
   rw [hbase,htail,hstal]
   have hSm:∀ x,x∈(namesD D3).filter (staleB (W.b+W.t+1))↔lk D3.files x≠none∧staleB (W.b+W.t+1) x=true:=fun x=>by rw [List.mem_filter,names_fl,mem_names]
   rcases rem_torn (S:=(namesD D3).filter (staleB (W.b+W.t+1))) hok3 hu3 hT3 ((rise_nodup hT3.rise).filter _) (fun x hx=>⟨((hSm x).1 hx).2,Option.ne_none_iff_exists'.1 ((hSm x).1 hx).1⟩) with ⟨a1,a2,a3,a4,a5,a6,a7,a8⟩ | ⟨a0,a1,a2,a3,a4,L,K,a5,a6,a7⟩
   · have hca:D.fails=none→D3.fails=none:=fun q=>by
      rw [hD3]
      exact hfl3 (by rw [hD2];exact hfl2 (by rw [hD1];exact hfl q))
     have hmo:D3.most=D.most:=by rw [hD3,hD2,hD1]
     refine .inl ⟨a1,hsm,by rw [a1,bad_zero],⟨a2,a3,?_,?_,⟨0,a5,fun q=>absurd q (by simp)⟩,Nat.le_refl _,fun x hx=>?_⟩,fun q=>a7 (hca q),by rw [a8,hmo]⟩
     · rw [a4,hst3,hL.st]
     · simp only
       rw [a1,bad_zero,hL.nb]
     rw [a6] at hx
     split at hx
     · exact absurd rfl hx
     rename_i q
     rcases hT3.lay.all x (mem_names.2 hx) with h | h
     · exact h
     exact absurd (memB_iff.2 ((hSm x).2 ⟨hx,h⟩)) q
   exact .inr (.inr ⟨fun q=>a0 (by rw [hD3];exact hfl3 (by rw [hD2];exact hfl2 (by rw [hD1];exact hfl q))),a1,.inr (Brk.of (_D:=D) a2 a3 a4 a5 a6 a7 (Nat.le_refl _) (fun q=>absurd q (by decide)) (by simp) (by simp))⟩)
 rw [if_pos hf]
 exact .inr (.inl ⟨.inl ⟨framed_err hf,fun q=>hf (by rw [framed_small q])⟩,rfl,rfl⟩)
theorem Live.new {m:Int} (h1:1≤m) (h2:m≤1048576):Live ⟨0,false,0,0⟩ ⟨m,0,false,[],none,[]⟩ [] [] 0:=by
 have hs0:segsM 0 0=[]:=rfl
 exact ⟨new_ok h1 h2,rfl,rfl,rfl,⟨0,⟨List.Pairwise.nil,⟨by decide,fun x hx=>(by rw [hs0] at hx;cases hx),fun x hx=>(by cases hx)⟩,by rw [hs0];decide,⟨fun q hq=>(by cases hq),fun q hq=>(by cases hq)⟩,fun _=>⟨rfl,rfl⟩,fun q=>absurd q (by decide)⟩,fun q=>absurd q (by decide)⟩,Nat.le_refl _,fun x hx=>absurd rfl hx⟩
structure Calm (D D':DK) (n:Int):Prop where
 fails:D'.fails=none
 most:D'.most=D.most
 starts:D'.starts=D.starts
 sum:(sumD D'.files:Int)=sumD D.files+n
theorem chg_calm0 {D:DK} (hu:D.down=false) (hf:D.fails=none) (late:Bool) (L2:List Fl):chg D late L2=(⟨D.most,D.starts,false,L2,none,D.keep⟩,0):=by
 unfold chg
 rw [hf,hu]
theorem appD_calm {D:DK} (hD:okD D) (hu:D.down=false) (hf:D.fails=none) {x y:BA} (ho:oddS x=false) (hr:(sumD D.files:Int)+y.size≤D.most) (hh:hasF D.files x=true∨D.files.length≠16) :
 (appD D x y).2=0∧Calm D (appD D x y).1 y.size∧(appD D x y).1.files=appF D.files x y:=by
 have e:appD D x y=(⟨D.most,D.starts,false,appF D.files x y,none,D.keep⟩,0):=by
  unfold appD
  rw [hu,if_neg (by decide),ho,if_neg (by decide),if_neg,chg_calm0 hu hf]
  rintro (⟨h1,h2⟩ | h1)
  · rcases hh with h | h
    · rw [h] at h1
      cases h1
    exact h h2
  omega
 rw [e]
 refine ⟨rfl,⟨rfl,rfl,rfl,?_⟩,rfl⟩
 simp only
 rw [appF_sum hD.rise]
 omega
theorem syncD_calm {D:DK} (hD:okD D) (hu:D.down=false) (hf:D.fails=none) {x:BA} {v:BA × Int} (hv:lk D.files x=some v):(syncD D x).2=0∧Calm D (syncD D x).1 0:=by
 obtain ⟨hi,he⟩:=lk_at hD.rise hv
 have e:syncD D x=(⟨D.most,D.starts,false,setF D.files x fun f=>⟨f.n,f.d,(f.d.size:Nat)⟩,none,D.keep⟩,0):=by
  unfold syncD
  rw [hu,if_neg (by decide),lk_has,hv]
  simp only [Option.isSome_some,if_true]
  rw [chg_calm0 hu hf]
 rw [e]
 refine ⟨rfl,rfl,rfl,rfl,?_⟩
 simp only
 rw [setF_eq hi]
 have:=sumD_set hi (⟨D.files[posF D.files x].n,D.files[posF D.files x].d,(D.files[posF D.files x].d.size:Nat)⟩:Fl)
 simp only at this
 omega
theorem Live.more {W:WK} {D:DK} {init:List (List BA)} {last:List BA} {j:Nat} (H:Live W D init last j) (hf:D.fails=none) (ht:0<W.t) (hz:(FB last).size<16384) {ps:List BA} (hp:small ps) (hn:ps≠[]) (hr:(sumD D.files:Int)+(FB ps).size≤D.most) :
 ∃ D',appW W D ps=(W,D',0)∧Live W D' init (last++ps) j∧Calm D D' (FB ps).size∧∀ v,lk D.files (nmB 115 (W.b+W.t))=some v→lk D'.files (nmB 115 (W.b+W.t))=some (v.1++FB ps,v.2):=by
 have hb9:=H.okW
 unfold Proofs.YtnbaejindfillaaGreatDoor.okW at hb9
 obtain ⟨s0,hl,_⟩:=H.last ht
 obtain ⟨h1,h2,hfiles⟩:=appD_calm H.ok H.up hf (nm_odd (c:=115) (n:=W.b+W.t) (by omega)) hr (.inl (by rw [lk_has,hl];rfl))
 rcases H.put ht hp with ⟨_,h⟩ | ⟨_,h,_⟩ | ⟨_,h,_⟩
 · rw [h] at h1
   cases h1
 · refine ⟨_,?_,h,h2,fun v hv=>by rw [hfiles,lk_app H.ok.rise,if_pos rfl,hv]⟩
   rw [appW_some H.ask (by rw [framed_small hp]) hn,framed_small hp]
   have e:(readD D (nmB 115 (W.b+W.t))).1=FB last:=by rw [read_lk H.up H.ok.rise,hl]
   rw [e,if_pos ⟨ht,hz⟩]
   simp only [h1,bad_zero]
 rw [h1] at h
 cases h
theorem Live.first {W:WK} {D:DK} {init:List (List BA)} (H:Live W D init [] 0) (hf:D.fails=none) (ht:W.t=0) (h9:W.b<999999999) (h15:D.files.length<15) {ps:List BA} (hp:small ps) (hn:ps≠[]) (hr:(sumD D.files:Int)+(FB ps).size≤D.most) :
 ∃ D',appW W D ps=(⟨W.s,W.bad,W.b,1⟩,D',0)∧Live ⟨W.s,W.bad,W.b,1⟩ D' init ps 0∧Calm D D' (FB ps).size:=by
 obtain ⟨s,hT,_⟩:=H.torn
 obtain ⟨hfu,_⟩:=hT.zero ht
 have hw:Whole W D init:=⟨H.ok,H.up,H.st,H.nb,H.names,hT.smalls.1,by rw [ht];exact hfu⟩
 obtain ⟨h1,h2,hfiles⟩:=appD_calm H.ok H.up hf (nm_odd (c:=115) (n:=W.b+W.t+1) (by omega)) hr (.inr (by omega))
 rcases hw.next hp (by omega) h15 with ⟨_,h⟩ | ⟨_,h,_⟩ | ⟨_,h,_⟩
 · rw [h] at h1
   cases h1
 · rw [ht] at h
   refine ⟨(appD D (nmB 115 (W.b+0+1)) (FB ps)).1,?_,h,by rw [ht] at h2;exact h2⟩
   rw [appW_some H.ask (by rw [framed_small hp]) hn,framed_small hp,ht]
   simp only [Nat.lt_irrefl,if_false,false_and,ne_eq,not_true_eq_false]
   rw [if_neg (by omega)]
   rw [ht] at h1
   simp only [h1,bad_zero,if_true]
 rw [h1] at h
 cases h
theorem Live.grows {W:WK} {D:DK} {init:List (List BA)} {last:List BA} {j:Nat} (H:Live W D init last j) (hf:D.fails=none) (ht:0<W.t) (hz:¬ (FB last).size<16384) (h9:W.b+W.t<999999999) (h15:D.files.length<15) {ps:List BA} (hp:small ps) (hn:ps≠[]) (hr:(sumD D.files:Int)+(FB ps).size≤D.most) :
 ∃ D' Ps,appW W D ps=(⟨W.s,W.bad,W.b,W.t+1⟩,D',0)∧Live ⟨W.s,W.bad,W.b,W.t+1⟩ D' Ps ps 0∧Calm D D' (FB ps).size∧Ps.flatten=init.flatten++last:=by
 obtain ⟨s0,hl,_⟩:=H.last ht
 obtain ⟨g1,g2⟩:=syncD_calm H.ok H.up hf hl
 rcases H.sync ht with ⟨_,h2,h3,_⟩ | ⟨_,h,_⟩
 · obtain ⟨D1,hD1⟩:∃ D1,D1=(syncD D (nmB 115 (W.b+W.t))).1:=⟨_,rfl⟩
   rw [←hD1] at g2 h2
   obtain ⟨Ps,hw,hfl⟩:=h2.whole
   have hlen:D1.files.length=D.files.length:=by rw [h2.len,H.len]
   have hsum:=g2.sum
   obtain ⟨k1,k2,_⟩:=appD_calm h2.ok h2.up g2.fails (nm_odd (c:=115) (n:=W.b+W.t+1) (by omega)) (y:=FB ps) (by rw [g2.most];omega) (.inr (by omega))
   rcases hw.next hp h9 (by omega) with ⟨_,h⟩ | ⟨_,h,_⟩ | ⟨_,h,_⟩
   · rw [h] at k1
     cases k1
   · refine ⟨_,Ps,?_,h,⟨k2.fails,by rw [k2.most,g2.most],by rw [k2.starts,g2.starts],by rw [k2.sum];omega⟩,hfl⟩
     rw [appW_some H.ask (by rw [framed_small hp]) hn,framed_small hp]
     have e:(readD D (nmB 115 (W.b+W.t))).1=FB last:=by rw [read_lk H.up H.ok.rise,hl]
     rw [e,if_neg (fun q=>hz q.2),if_pos ht]
     dsimp only
     rw [g1,if_neg (by decide),←hD1,if_neg (by omega)]
     simp only [k1,bad_zero,if_true]
   rw [k1] at h
   cases h
 rw [g1] at h
 cases h
theorem Live.syncs {W:WK} {D:DK} {init:List (List BA)} {last:List BA} {j:Nat} (H:Live W D init last j) (hf:D.fails=none) (ht:0<W.t):∃ D',syncW W D=(W,D',0)∧Live W D' init last last.length∧Calm D D' 0:=by
 obtain ⟨s0,hl,_⟩:=H.last ht
 obtain ⟨g1,g2⟩:=syncD_calm H.ok H.up hf hl
 rcases H.sync ht with ⟨_,h2,h3,_⟩ | ⟨_,h,_⟩
 · refine ⟨_,?_,h2,g2⟩
   unfold syncW
   rw [H.ask,if_neg (by decide),if_neg (by omega)]
   simp only [g1,bad_zero]
 rw [g1] at h
 cases h
theorem FB_cons (p:BA) (ps:List BA):(FB (p::ps)).size=(putL (2*p.size)).length+4+p.size+(FB ps).size:=by
 have h:FB (p::ps)=FB [p]++FB ps:=by rw [FB_add];rfl
 rw [h,ByteArray.size_append]
 have h2:(FB [p]).size=(frameL ckL p.data.toList).length:=by
  unfold FB
  rw [strL_size]
  simp [framesL]
 rw [h2]
 unfold frameL
 simp only [List.length_append,ckL_len,size_data]
 omega
def szF (L:List Fl) (x:BA):Nat:=match lk L x with | some v=>v.1.size | none=>0
theorem sumD_names {L:List Fl} (h:riseF L):sumD L=((L.map (·.n)).map (szF L)).sum:=by
 unfold sumD
 rw [List.map_map]
 congr 1
 refine List.map_congr_left fun f hf=>?_
 simp only [Function.comp_apply,szF]
 rw [lk_of h hf]
theorem perm_sum {l m:List Nat} (h:l.Perm m):l.sum=m.sum:=by
 induction h with
 | nil=>rfl
 | cons x _ ih=>rw [List.sum_cons,List.sum_cons,ih]
 | swap x y l=>simp only [List.sum_cons];omega
 | trans _ _ h1 h2=>rw [h1,h2]
theorem full_sum {L:List Fl}:∀ {names:List BA} {Ps:List (List BA)},full L names Ps→(names.map (szF L)).sum=(FB Ps.flatten).size
 | [],[],_=>by rw [List.flatten_nil,FB_nil];rfl
 | [],p::Ps,h=>by simp [full] at h
 | x::names,[],h=>by simp [full] at h
 |
  x::names,p::Ps,h=>by
  unfold full at h
  simp only [List.map_cons,List.cons.injEq] at h
  rw [List.map_cons,List.sum_cons,full_sum (names:=names) (Ps:=Ps) h.2,List.flatten_cons,FB_size_append]
  congr 1
  unfold szF
  rw [h.1]
theorem Live.segsum {W:WK} {D:DK} {init:List (List BA)} {last:List BA} {j:Nat} (H:Live W D init last j):((segsM W.b W.t).map (szF D.files)).sum=(FB (init.flatten++last)).size:=by
 obtain ⟨s,hT,_⟩:=H.torn
 rcases Nat.eq_zero_or_pos W.t with h0 | h0
 · obtain ⟨h1,h2⟩:=hT.zero h0
   rw [h2,List.append_nil,h0]
   exact full_sum h1
 obtain ⟨h1,h2,_⟩:=hT.more h0
 rw [segs_succ h0,List.map_append,List.sum_append,full_sum h1,FB_size_append]
 congr 1
 simp [szF,h2]
theorem Live.sum {W:WK} {D:DK} {init:List (List BA)} {last:List BA} {j:Nat} (H:Live W D init last j):sumD D.files=(FB (init.flatten++last)).size:=by
 rw [sumD_names H.ok.rise,←H.segsum]
 exact perm_sum (((List.perm_ext_iff_of_nodup (rise_nodup H.ok.rise) (segs_nodup W.b W.t)).2 H.names.2).map _)
theorem Live.few15 {W:WK} {D:DK} {init:List (List BA)} {last:List BA} {j:Nat} (H:Live W D init last j):D.files.length≤15∧W.t≤15:=by
 obtain ⟨s,hT,_⟩:=H.torn
 have h1:=hT.few
 rw [H.len]
 refine ⟨h1,?_⟩
 unfold segsM at h1
 simp only [List.length_append,List.length_map,List.length_range] at h1
 omega
theorem Live.anew {W:WK} {D:DK} {init:List (List BA)} {last:List BA} {j:Nat} (H:Live W D init last j) (hf:D.fails=none) (h9:W.b+W.t<999999999) {ps:List BA} (hp:small ps) (hr:(sumD D.files:Int)+(FB ps).size≤D.most) :
 ∃ D',ckW W D ps=(⟨W.s,W.bad,W.b+W.t+1,0⟩,D',0)∧Live ⟨W.s,W.bad,W.b+W.t+1,0⟩ D' [ps] [] 0∧D'.fails=none∧D'.most=D.most:=by
 rcases H.ck (sure:=0) (Nat.zero_le _) ps with ⟨h1,_,h3,h4,h5,h6⟩ | ⟨h1,_⟩ | ⟨h1,_⟩
 · rw [h3] at h4
   exact ⟨_,Prod.ext h3 (Prod.ext rfl h1),h4,h5 hf,h6⟩
 · rcases h1 with ⟨_,h1⟩ | ⟨_,h1 | h1⟩
   · exact absurd hp h1
   · omega
   omega
 exact absurd hf h1
theorem appW_ok {W:WK} {D:DK} (h:okD D) (ps:List BA):okD (appW W D ps).2.1:=by
 unfold appW
 dsimp only
 obtain ⟨r,hr⟩:∃ r,r=(if 0<W.t then syncD D (nmB 115 (W.b+W.t)) else (D,0)):=⟨_,rfl⟩
 rw [←hr]
 split
 · exact h
 split
 · exact h
 split
 · exact h
 split
 · exact app_ok h _ _
 have h1:okD r.1:=by
  rw [hr]
  split
  · exact sync_ok h _
  exact h
 split
 · exact h1
 split
 · exact h1
 exact app_ok h1 _ _
theorem Live.self {W:WK} {D:DK} {init:List (List BA)} {last:List BA} {j:Nat} (H:Live W D init last j):openD D=(D,0,W,init.flatten++last):=by
 have h:=H.opens
 have hb:=H.nb
 have hs:=H.st
 obtain ⟨s,bad,b,t⟩:=W
 dsimp only at *
 subst hb hs
 exact h
theorem Logs.self {W:WK} {D:DK} {l:List BA} {sure:Nat} (H:Logs W D l sure):openD D=(D,0,W,l):=by
 obtain ⟨init,last,j,hL,hl,_⟩:=H
 rw [hL.self,hl]
theorem appW_w (W:WK) (D:DK) (ps:List BA):(appW W D ps).1.b=W.b∧((appW W D ps).1.t=W.t∨(appW W D ps).2.2=0∧(appW W D ps).1.t=W.t+1∧W.b+W.t<999999999):=by
 unfold appW
 dsimp only
 obtain ⟨r,hr⟩:∃ r,r=(if 0<W.t then syncD D (nmB 115 (W.b+W.t)) else (D,0)):=⟨_,rfl⟩
 rw [←hr]
 split
 · exact ⟨rfl,.inl rfl⟩
 split
 · exact ⟨rfl,.inl rfl⟩
 split
 · exact ⟨rfl,.inl rfl⟩
 split
 · exact ⟨rfl,.inl rfl⟩
 split
 · exact ⟨rfl,.inl rfl⟩
 split
 · exact ⟨rfl,.inl rfl⟩
 rename_i h
 refine ⟨rfl,?_⟩
 dsimp only
 split
 · rename_i h0
   exact .inr ⟨h0,rfl,by omega⟩
 exact .inl rfl
theorem appW_okW {W:WK} (D:DK) (ps:List BA) (h:okW W):okW (appW W D ps).1:=by
 obtain ⟨h1,h2⟩:=appW_w W D ps
 unfold okW at h ⊢
 rcases h2 with h2 | ⟨_,h2,_⟩<;>omega
theorem syncW_okW {W:WK} (D:DK) (h:okW W):okW (syncW W D).1:=by
 unfold syncW
 dsimp only
 repeat' split
 all_goals exact h
theorem ckW_okW {W:WK} (D:DK) (ps:List BA) (h:okW W):okW (ckW W D ps).1:=by
 unfold ckW
 dsimp only
 repeat' split
 all_goals first | exact h | exact last_le _
theorem recB_size (x:Rec):(recB x).size=(recL x).length:=by simp [recB,ByteArray.size]
theorem FB_le:∀ {ps:List BA},small ps→(FB ps).size≤(ps.map ByteArray.size).sum+7*ps.length
 | [],_=>by rw [FB_nil];exact Nat.le_refl _
 |
  p::ps,h=>by
  have h1:=h p List.mem_cons_self
  have h2:=FB_le (ps:=ps) fun q hq=>h q (List.mem_cons_of_mem _ hq)
  have h3:=putL_le 2 (2*p.size) (by have:(128:Nat) ^ (2+1)=2097152:=rfl;omega)
  rw [FB_cons,List.map_cons,List.sum_cons,List.length_cons]
  omega
def roomR (r:Rec):Nat:=47+30*r.L.length+10*r.F.length
def roomL (l:List Rec):Nat:=(l.map roomR).sum
theorem roomL_cons (r:Rec) (l:List Rec):roomL (r::l)=roomR r+roomL l:=by simp [roomL]
theorem roomL_append (l m:List Rec):roomL (l++m)=roomL l+roomL m:=by simp [roomL]
theorem recs_small {l:List Rec} (h:∀ r∈l,mayR r=true):small (l.map recB):=fun p hp=>by
 obtain ⟨r,hr,rfl⟩:=List.mem_map.1 hp
 rw [recB_size]
 exact (small_of_may (h r hr)).bytes
theorem recs_room {l:List Rec} (h:∀ r∈l,mayR r=true):(FB (l.map recB)).size≤roomL l:=by
 have h1:=FB_le (recs_small h)
 have h2:((l.map recB).map ByteArray.size).sum+7*(l.map recB).length≤roomL l:=by
  clear h1
  induction l with
  | nil=>exact Nat.le_refl _
  |
   cons r l ih =>
   have h3:=ih fun q hq=>h q (List.mem_cons_of_mem _ hq)
   have h4:=(small_of_may (h r List.mem_cons_self)).len_le
   rw [roomL_cons,List.map_cons,List.map_cons,List.sum_cons,List.length_cons,recB_size]
   unfold roomR
   omega
 omega
theorem bases_room {x:Sta} (h:okS x):∀ (l:List Reg) (i:Nat),(∀ r∈l,r∈x.R)→roomL (basesR i l)≤1967*l.length
 | [],_,_=>Nat.le_refl _
 |
  r::l,i,hl=>by
  have h1:=bases_room h l (i+1) fun q hq=>hl q (List.mem_cons_of_mem _ hq)
  have h2:=wholeE_len (okR_of (h.regs r (hl r List.mem_cons_self))).2.2.2.1
  rw [basesR,roomL_append,List.length_cons]
  split
  · simp only [roomL,roomR,baseR,List.map_cons,List.map_nil,List.sum_cons,List.sum_nil,List.length_nil] at *
    omega
  simp only [roomL,List.map_nil,List.sum_nil] at *
  omega
theorem ck_room {x:Sta} (h:okS x):roomL (ckR x)≤10475:=by
 have h1:=bases_room h x.R 0 fun _ q=>q
 have h2:=(feed_small h).1
 rw [h.four] at h1
 unfold ckR
 rw [roomL_append]
 split
 · simp only [roomL,List.map_nil,List.sum_nil] at *
   omega
 simp only [roomL,roomR,feedR,List.map_cons,List.map_nil,List.sum_cons,List.sum_nil,List.length_nil] at *
 omega
/-! the example -/
def exE:List Ent:=[⟨1,5,0,-1,1,1⟩,⟨1,6,0,-1,2,2⟩]
def exR:List Rec:=[⟨1,0,1,0,0,0,[],[]⟩,⟨2,0,1,0,0,0,exE,[]⟩,⟨3,0,0,0,0,2,[],[]⟩]
def exS:Sta:=⟨[⟨1,1,exE,2⟩,noReg,noReg,noReg],[⟨0,0⟩,⟨0,1⟩]⟩
def exD:DK:=⟨1048576,0,false,[],none,[]⟩
def exW:WK:=⟨0,false,0,0⟩
def exW1:WK:=⟨0,false,0,1⟩
def exW3:WK:=⟨0,false,2,0⟩
theorem ex_write:writeS noSta exR=some exS:=by kernel_rfl
theorem ex_live:Live exW exD [] [] 0:=Live.new (by decide) (by decide)
theorem ex_chain:∃ D1 D2 D3 D4 D5 D6 W6,(okD exD∧okD D1∧okD D2∧okD D3∧okD D4∧okD D5)∧openD exD=(exD,0,exW,[])∧appW exW exD (exR.map recB)=(exW1,D1,0)∧syncW exW1 D1=(exW1,D2,0) ∧
 ckW exW1 D2 ((ckR exS).map recB)=(exW3,D3,0)∧crashD D3 []=(D4,0)∧D4.starts=0∧startD D4=(D5,0)∧openD D5=(D6,0,W6,(ckR exS).map recB):=by
 have ho:=(writeS_some ex_write okS_no)
 have s1:=recs_small ho.2.2.2
 have r1:=recs_room ho.2.2.2
 have hr:roomL exR=201:=by decide
 have z0:sumD exD.files=0:=rfl
 obtain ⟨D1,e1,L1,c1⟩:=ex_live.first rfl rfl (by decide) (by decide) s1 (by simp [exR]) (by rw [z0];simp only [exD];omega)
 replace L1:Live exW1 D1 [] (exR.map recB) 0:=L1
 have m1:D1.most=1048576:=c1.most
 obtain ⟨D2,e2,L2,c2⟩:=L1.syncs c1.fails (by decide)
 have m2:D2.most=1048576:=by rw [c2.most,m1]
 have s2:=L2.sum
 simp only [List.flatten_nil,List.nil_append] at s2
 have s3:=recs_small (ck_may ho.1)
 have r3:=recs_room (ck_may ho.1)
 have k3:=ck_room ho.1
 obtain ⟨D3,e3,L3,f3,m3⟩:=L2.anew c2.fails (by decide) s3 (by rw [s2,m2];omega)
 replace L3:Live exW3 D3 [(ckR exS).map recB] [] 0:=L3
 have LL:Logs exW3 D3 ((ckR exS).map recB) ((ckR exS).map recB).length:=⟨_,_,_,L3,by simp,by simp⟩
 obtain ⟨h1,h2,h3⟩:=LL.crash []
 obtain ⟨D4,hD4⟩:∃ D4,D4=(crashD D3 []).1:=⟨_,rfl⟩
 rw [←hD4] at h2 h3
 have st4:D4.starts=0:=by rw [h3];exact L3.st
 obtain ⟨D5,W6,D6,l,e5,_,e6,_,hL6,hp,hs,o5,_⟩:=h2.opens
 have hl:l=(ckR exS).map recB:=hp.eq_of_length (Nat.le_antisymm hp.length_le hs)
 subst hl
 exact ⟨D1,D2,D3,D4,D5,D6,W6,⟨ex_live.ok,L1.ok,L2.ok,L3.ok,h2.ok,o5⟩,ex_live.self,e1,e2,e3,Prod.ext hD4.symm h1,st4,e5,e6⟩
theorem rot4 {A B C D:Asn} {h:Hp} (p:Asn.starH [A,B,C,D] h):Asn.starH [B,C,D,A] h:=by
 obtain ⟨h1,h2,d,a,b,p1,p2⟩:=starH_swap p
 obtain ⟨h3,h4,d2,a2,b2,p3,p4⟩:=starH_swap p2
 exact ⟨h1,h2,d,a,b,p1,h3,h4,d2,a2,b2,p3,starH_swap p4⟩
theorem writeLT (p w q:Nat) (x:StaS) (sure:Nat) (dirty:Bool) (W:WK) (D:DK) (C:Option Addr) (L:List RecS) (n c:Nat) (hn:n=L.length) (hn1:n≤1000) (hL:∀ y∈L,y.r.L.length≤2000∧y.r.F.length≤100000) (hD:okD D) (hW:okW W) (hx:okS x.abs) (R:WK × DK × Int × Bool) (hR:WriteR L x.abs W D=R) :
 Triple Tryz.prog 12 [pP p,.slice C n c] [StoP p w x sure dirty,WalM w q W,DiskM q D,x.rd] [TabA,Rd 8 C n (L.flatMap encR),RecsRd L] StaS (fun _=>.int .i64 R.2.2.1) (fun X=>if R.2.2.2=true then writeS x.abs (recsR L)=some X.abs else X=x) (fun X=>[StoP p w X sure (R.2.2.2 || dirty),WalM w q R.1,DiskM q R.2.1,X.rd]) :=
 (writeST p w q x sure dirty W D C L n c hn hn1 hL hD hW hx R hR.symm).imp fun X g=>⟨X,rfl,g,fun _h ⟨h1,h2,e,a1,a2,p1,p2⟩=>rot4 ⟨h1,h2,e,a1,a2,p1.2,p2⟩⟩
theorem syncLT (p w q:Nat) (x:StaS) (sure:Nat) (dirty:Bool) (W:WK) (D:DK) (hD:okD D) (hW:okW W) {s:Nat} {d:Bool} {W':WK} {D':DK} {e:Int} (h:SyncR w q x sure dirty W D=((s,d),(W',D'),e)) :
 Triple Tryz.prog 14 [pP p] [StoP p w x sure dirty,WalM w q W,DiskM q D] [TabA] Unit (fun _=>.int .i64 e) (fun _=>True) (fun _=>[StoP p w x s d,WalM w q W',DiskM q D']):=by
 have:=syncStT p w q x sure dirty W D hD hW
 rw [h] at this
 exact this
theorem ckLT (p w q:Nat) (x:StaS) (sure:Nat) (dirty:Bool) (W:WK) (D:DK) (hD:okD D) (hW:okW W) (hx:okS x.abs) {s:Nat} {d:Bool} {W1:WK} {D1:DK} (h:SyncR w q x sure dirty W D=((s,d),(W1,D1),0)) (hD1:okD D1) (hW1:okW W1) {W':WK} {D':DK} {e:Int} (h2:ckW W1 D1 ((ckR x.abs).map recB)=(W',D',e)) :
 Triple Tryz.prog 16 [pP p] [StoP p w x sure dirty,WalM w q W,DiskM q D] [TabA,x.rd] Unit (fun _=>.int .i64 e) (fun _=>True) (fun _=>[StoP p w x s d,WalM w q W',DiskM q D']):=by
 have:=ckST p w q x sure dirty W D hD hW hx _ h.symm hD1 hW1 rfl _ rfl
 rw [h2] at this
 exact this
theorem openLT (q:Nat) (D:DK) (hD:okD D) {D':DK} {W':WK} (rs:List Rec) (h:openD D=(D',0,W',rs.map recB)) (hmay:∀ r∈rs,mayR r=true) (hn:rs.length≤100000) (z:Sta) (hz:foldS noSta rs=some z) (hok:okS z) (m:Nat) (hm:m=z.F.length) :
 Triple Tryz.prog 22 [pP q] [DiskM q D] [TabA] (Nat × Nat × StaS) (fun (p,_,_)=>.tuple #[pP p,.int .i64 0]) (fun (_,_,X)=>X.abs=z) (fun (p,w,X)=>[DiskM q D',X.rd,StoP p w X m false,WalM w q W']):=by
 subst hm
 have:=openST q D hD (by rw [h]) rs (by rw [h]) hmay hn z hz hok
 rw [h] at this
 exact this.imp fun x g=>⟨x,rfl,g,fun _ p=>rot4 (rot4 (rot4 p))⟩
theorem ok_spt:EqOk Tryz.prog 72:=⟨by kernel_rfl,by kernel_rfl⟩
theorem eq_spt (x y:Spt) (n:Nat) (w:World):(Op.equalIn (n+2) 72 (.agg (encP x).toArray) (.agg (encP y).toArray)).run Tryz.prog w = .ok (decide (x=y)) w:=by
 have h:decide (x=y)=(x.s==y.s&&(x.i==y.i&&true)):=by
  obtain ⟨a,b⟩:=x
  obtain ⟨a',b'⟩:=y
  simp [Spt.mk.injEq,Bool.decide_and]
  rfl
 rw [h]
 refine eq_struct ok_spt rfl ?_
 iterate 2 refine eqF_int (by decide) Tryz.underlying3 rfl rfl ?_
 exact eqF_nil
theorem openedT:Triple Tryz.prog 11 [] [] [TabA] (Nat × Nat × Nat × StaS) (fun (q,p,_,_)=>.tuple #[pP q,pP p]) (fun (_,_,_,X)=>X.abs=noSta) (fun (q,p,w,X)=>[X.rd,StoP p w X 0 false,WalM w q exW,DiskM q exD]):=by
 have T0:Triple Tryz.prog 29 [.int .i64 1048576] [] [] Nat (fun p=>.tuple #[pP p,.int .i64 0]) (fun _=>True) (fun p=>[DiskM p exD]):=newM 1048576 (by decide) (by decide)
 have T1:=fun q=>openLT q exD ex_live.ok [] ex_live.self (fun _ h=>by cases h) (by decide) noSta rfl okS_no 0 rfl
 refine aT Tryz.func11 [] [] (fun E=>?_) trivial
 refine aG ?_
 refine aC T0 [] [] fun x10 h11=>?_
 refine aI ?_
 refine aC (T1 (x10)) [0] [.inl 0] fun ⟨x12,x13,x14⟩ h15=>?_
 refine aI ?_
 exact ev_fin ⟨trivial,_,rfl,((x10,x12,x13,x14)),rfl,by trivial,aF [1,2,3,0]⟩
 all_goals skip
theorem recs_nil (r:Rec) (h1:r.L=[]) (h2:r.F=[]):∀ h,(RecsRd [⟨r,none,0,none,0⟩]).holds h:=fun h y hy=>by
 rw [List.mem_singleton.1 hy]
 unfold RecS.rdL RecS.rdF
 simp only
 rw [h1,h2]
 exact ⟨Rd.nil _ _ h,Rd.nil _ _ h⟩
def exL (be:Nat):List RecS:=[⟨⟨1,0,1,0,0,0,[],[]⟩,none,0,none,0⟩,⟨⟨2,0,1,0,0,0,exE,[]⟩,some ⟨be,0,none⟩,2,none,0⟩,⟨⟨3,0,0,0,0,2,[],[]⟩,none,0,none,0⟩]
theorem exWriteT (p w q bx be:Nat) (X:StaS) {D1:DK} (hX:X.abs=noSta) (e1:appW exW exD (exR.map recB)=(exW1,D1,0)) :
 Triple Tryz.prog 12 [pP p,.slice (some ⟨bx,0,none⟩) 3 3] [StoP p w X 0 false,WalM w q exW,DiskM q exD,X.rd] [TabA,Pt bx 54 [.int .i64 1,.int .i64 0,.int .i64 1,.int .i64 0,.int .i64 0,.int .i64 0,.slice none 0 0,.slice none 0 0,.int .i64 2,.int .i64 0,.int .i64 1,.int .i64 0,.int .i64 0,.int .i64 0,.slice (some ⟨be,0,none⟩) 2 2,.slice none 0 0,.int .i64 3,.int .i64 0,.int .i64 0,.int .i64 0,.int .i64 0,.int .i64 2,.slice none 0 0,.slice none 0 0],Pt be 101 [.int .i64 1,.int .i64 5,.int .i64 0,.int .i64 (-1),.int .i64 1,.int .i64 1,.int .i64 1,.int .i64 6,.int .i64 0,.int .i64 (-1),.int .i64 2,.int .i64 2]] StaS (fun _=>.int .i64 0) (fun Y=>Y.abs=exS) (fun Y=>[StoP p w Y 0 true,WalM w q exW1,DiskM q D1,Y.rd]):=by
 have hR:WriteR (exL be) X.abs exW exD=(exW1,D1,0,true):=by
  unfold WriteR
  rw [show recsR (exL be)=exR from rfl,hX,ex_write]
  dsimp only
  rw [if_neg (show ¬ (exL be).length=0 by simp [exL]),e1]
  rfl
 have hw:=ex_write
 refine ((writeLT p w q X 0 false exW exD (some ⟨bx,0,none⟩) (exL be) 3 3 rfl (by decide) (fun y hy=>by
  simp only [exL,List.mem_cons,List.not_mem_nil,or_false] at hy
  rcases hy with rfl | rfl | rfl<;>exact ⟨by simp [exE],by simp⟩) ex_live.ok ex_live.okW (by rw [hX];exact okS_no) _ hR).reads fun Z hZ=>?_).imp fun Y g=>⟨Y,rfl,?_,fun h q=>q⟩
 · simp only [List.mem_cons,List.not_mem_nil,or_false] at hZ
   rcases hZ with rfl | rfl | rfl
   · exact ⟨_,List.mem_cons_self,fun _ q=>q⟩
   · exact ⟨_,List.mem_cons_of_mem _ List.mem_cons_self,fun _ q=>Pt.rd q rfl⟩
   refine ⟨_,List.mem_cons_of_mem _ (List.mem_cons_of_mem _ List.mem_cons_self),fun h q y hy=>?_⟩
   simp only [exL,List.mem_cons,List.not_mem_nil,or_false] at hy
   rcases hy with rfl | rfl | rfl
   · exact ⟨Rd.nil _ _ h,Rd.nil _ _ h⟩
   · exact ⟨Pt.rd q rfl,Rd.nil _ _ h⟩
   exact ⟨Rd.nil _ _ h,Rd.nil _ _ h⟩
 rw [if_pos rfl,show recsR (exL be)=exR from rfl,hX,hw] at g
 exact (Option.some.inj g).symm
theorem exNoT (p w q bx:Nat) (X:StaS) (s:Nat) (d:Bool) {W:WK} {D:DK} (hX:X.abs=exS) (hD:okD D) (hW:okW W) (r:Rec) (h1:r.L=[]) (h2:r.F=[]) (hr:writeS exS [r]=none) (vs:List Value) (hvs:vs=[.int .i64 r.k,.int .i64 r.s,.int .i64 r.e,.int .i64 r.v,.int .i64 r.f,.int .i64 r.n,.slice none 0 0,.slice none 0 0]) :
 Triple Tryz.prog 12 [pP p,.slice (some ⟨bx,0,none⟩) 1 1] [StoP p w X s d,WalM w q W,DiskM q D,X.rd] [TabA,Pt bx 54 vs] Unit (fun _=>.int .i64 2) (fun _=>True) (fun _=>[StoP p w X s d,WalM w q W,DiskM q D,X.rd]):=by
 obtain ⟨k,st,e,v,f,n,L,F⟩:=r
 simp only at h1 h2 hvs
 subst h1 h2
 obtain ⟨r,hrr⟩:∃ r:Rec,r=⟨k,st,e,v,f,n,[],[]⟩:=⟨_,rfl⟩
 have hR:WriteR [⟨r,none,0,none,0⟩] X.abs W D=(W,D,2,false):=by
  unfold WriteR
  rw [show recsR [⟨r,none,0,none,0⟩]=[r] from rfl,hX,hrr,hr]
 refine ((writeLT p w q X s d W D (some ⟨bx,0,none⟩) [⟨r,none,0,none,0⟩] 1 1 rfl (by decide) (fun y hy=>by
  rw [List.mem_singleton.1 hy,hrr]
  exact ⟨Nat.zero_le _,Nat.zero_le _⟩) hD hW (by rw [hX];exact (writeS_some ex_write okS_no).1) _ hR).reads fun Z hZ=>?_).imp fun Y g=>⟨(),rfl,trivial,?_⟩
 · simp only [List.mem_cons,List.not_mem_nil,or_false] at hZ
   rcases hZ with rfl | rfl | rfl
   · exact ⟨_,List.mem_cons_self,fun _ q=>q⟩
   · refine ⟨_,List.mem_cons_of_mem _ List.mem_cons_self,fun _ q=>?_⟩
     rw [show ([⟨r,none,0,none,0⟩]:List RecS).flatMap encR=vs by rw [hvs,hrr];rfl]
     exact Pt.rd q (by rw [hvs];rfl)
   refine ⟨TabA,List.mem_cons_self,fun h _=>?_⟩
   rw [hrr]
   exact recs_nil _ rfl rfl h
 rw [if_neg (by simp)] at g
 rw [g]
 exact fun h q=>q
theorem exFeedT (p w:Nat) (X:StaS) (s:Nat) (d:Bool) (hX:X.abs=exS):Triple Tryz.prog 26 [pP p] [StoP p w X s d] [X.rd] Sl (fun (A',c')=>.tuple #[.slice A' 2 c',.int .i64 (s:Nat)]) (fun (_,c')=>2≤c') (fun (A',c')=>[StoP p w X s d,Row 72 2 A' 2 c' (([⟨0,0⟩,⟨0,1⟩]:List Spt).flatMap encP)]):=by
 have h:X.F=[⟨0,0⟩,⟨0,1⟩]:=congrArg Sta.F hX
 have:=feedSt p w X s d (by rw [h];decide)
 rw [h] at this
 exact this
theorem exRegT (p w:Nat) (X:StaS) (s:Nat) (d:Bool) (hX:X.abs=exS):Triple Tryz.prog 25 [pP p,.int .i64 0] [StoP p w X s d] [X.rd] Sl (fun (A',c')=>.tuple #[.agg #[.int .i64 1,.int .i64 1,.slice A' 2 c',.int .i64 2],.int .i64 0]) (fun _=>True) (fun (_,_)=>[StoP p w X s d]):=by
 have h:X.r0.r=⟨1,1,exE,2⟩:=by
  have:=congrArg Sta.R hX
  unfold StaS.abs exS at this
  simp only [List.cons.injEq] at this
  exact this.1
 have:=regGood p w X s d 0 X.r0 (by decide) rfl (by rw [h];decide)
 rw [h] at this
 exact this.imp fun x g=>⟨x,rfl,trivial,fun hh ⟨h1,h2,e,a1,a2,p1,_⟩=>starH_one.2 (Asn.mono _ a1 p1)⟩
set_option maxHeartbeats 8000000 in
theorem livesT:Triple Tryz.prog 10 [] [] [TabA] Unit (fun _=>.bool true) (fun _=>True) (fun _=>[]):=by
 obtain ⟨D1,D2,D3,D4,D5,D6,W6,⟨o0,o1,o2,o3,o4,o5⟩,e0,e1,e2,e3,e4,s4,e5,e6⟩:=ex_chain
 have TO:=openedT
 have okX:=(writeS_some ex_write okS_no).1
 refine aT Tryz.func10 [] [] (fun E=>?_) trivial
 refine go_fact (Rd 1 none 0 (([]:List Int).flatMap encN)) (fun h=>Rd.nil _ _ h) ?_
 refine aG ?_
 refine aC TO [] [.inl 0] fun ⟨x10,x11,x12,x13⟩ h14=>?_
 refine ev_inline Tryz.tbs_ok Tryz.func30 rfl rfl ?_
 refine aG ?_
 refine ev_new fun b15=>?_
 refine ev_new fun b16=>?_
 refine ev_new fun b17=>?_
 refine ev_fin ⟨trivial,aL,_,rfl,?_⟩
 refine aG ?_
 refine ev_new fun b18=>?_
 have hX:x13.abs=noSta := ‹_›
 have TW:=fun bx be=>exWriteT x11 x12 x10 bx be x13 hX e1
 refine aC (TW (b18) (b17)) [2,3,4,1] [.inl 0,.inr 8,.inr 7] fun x30 h31=>?_
 have hY:x30.abs=exS := ‹_›
 have TF:=fun s d=>exFeedT x11 x12 x30 s d hY
 have TD:=fun s d=>dirtyT x11 x12 x30 s d
 have hYF:x30.F.length=2:=by rw [show x30.F=[⟨0,0⟩,⟨0,1⟩] from congrArg Sta.F hY];rfl
 have TS:=syncLT x11 x12 x10 x30 0 true exW1 D1 o1 (by unfold okW;decide) (s:=2) (d:=false) (W':=exW1) (D':=D2) (e:=0) (by unfold SyncR;rw [if_neg (by decide),e2,if_neg (by simp),hYF])
 refine aC (TF (0) (true)) [2] [.inr 1] fun ⟨x50,x51⟩ h52=>?_
 refine aI (aI ?_)
 refine ev_stop (go_index0 (sz:=2) Tryz.tbs_ok (.inr 9) (1) rfl rfl rfl rfl rfl rfl (by omega) rfl Row.at0 (fun g53 e54=>?_))
 subst e54
 refine aG ?_
 have l55:1<([{ s:=0,i:=0:Spt },{ s:=0,i:=1:Spt }]).length:=(by (simp only [List.length_cons,List.length_nil];omega))
 refine ev_stop (go_loadE Tryz.tbs_ok (.inr 9) (1) 0 rfl rfl rfl rfl (fun _ h=>Row.rd h) (by omega) (fun _=>rfl) (by omega) l55 (by decide) ?_)
 refine aG ?_
 refine ev_stop (go_val rfl (.bq (!(decide ((⟨0,1⟩:Spt)=⟨0,1⟩)))) trivial (fun a w hR=>neq_run (ev_denv hR.fr rfl rfl) (ev_denv hR.fr rfl rfl) (by kernel_rfl) (eq_spt ⟨0,1⟩ ⟨0,1⟩ 9998 w)) ?_)
 refine aG ?_
 have wk1:okW exW1:=by unfold okW;decide
 have TN1:=fun bx=>exNoT x11 x12 x10 bx x30 2 false hY o2 wk1 ⟨3,0,0,0,0,3,[],[]⟩ rfl rfl rfl _ rfl
 have TN2:=fun bx=>exNoT x11 x12 x10 bx x30 2 false hY o2 wk1 ⟨4,0,1,0,0,0,[],[]⟩ rfl rfl rfl _ rfl
 have TK:=ckLT x11 x12 x10 x30 2 false exW1 D2 o2 wk1 (by rw [hY];exact okX) (s:=2) (d:=false) (W1:=exW1) (D1:=D2) rfl o2 wk1 (W':=exW3) (D':=D3) (e:=0) (by rw [hY];exact e3)
 have TC:=crashM x10 D3 none 0 0 [] o3 rfl
 rw [e4] at TC
 have TU:=startM x10 D4 o4 (by rw [s4];decide) (by rw [s4];decide)
 rw [e5] at TU
 have TP:=openLT x10 D5 o5 (ckR exS) e6 (ck_may okX) (Nat.le_trans (ck_len exS rfl) (by decide)) exS (ck_fold okX) okX 2 rfl
 refine aI (aI ?_)
 refine aC (TD (0) (true)) [2] [] fun _ h70=>?_
 refine aI ?_
 refine aC TS [2,3,4] [.inl 0] fun _ h71=>?_
 refine aI ?_
 refine aC (TF (2) (false)) [2] [.inr 1] fun ⟨x72,x73⟩ h74=>?_
 refine aI ?_
 refine ev_new fun b75=>?_
 refine aC (TN1 (b75)) [2,3,4,1] [.inl 0,.inr 11] fun _ h76=>?_
 refine aI ?_
 refine ev_new fun b77=>?_
 refine aC (TN2 (b77)) [2,3,4,1] [.inl 0,.inr 12] fun _ h78=>?_
 refine aI ?_
 refine aC TK [2,3,4] [.inl 0,.inr 1] fun _ h79=>?_
 refine aI ?_
 refine aC TC [4] [.inr 0] fun _ h80=>?_
 refine aI ?_
 refine aC TU [4] [] fun _ h81=>?_
 refine aI ?_
 refine aC TP [4] [.inl 0] fun ⟨x82,x83,x84⟩ h85=>?_
 refine aI ?_
 have hZ:x84.abs=exS := ‹_›
 have TR:=exRegT x82 x83 x84 2 false hZ
 refine aC TR [14] [.inr 13] fun ⟨x100,x101⟩ h102=>?_
 refine ev_new fun b103=>?_
 refine aJ (aJ (aJ (aJ ?_)))
 refine ev_fin ⟨trivial,_,rfl,(()),rfl,(by trivial),Frm.nil _⟩
 all_goals skip
theorem sameLogT (C D:Option Addr) (L M:List Ent) (m n d e:Nat) (hm:m=L.length) (hn:n=M.length) (h1:m≤1000000) :
 Triple Tryz.prog 47 [.slice C m d,.slice D n e] [] [Rd 6 C m (L.flatMap encE),Rd 6 D n (M.flatMap encE)] Unit (fun _=>.bool (decide (L=M))) (fun _=>True) (fun _=>[]):=by
 refine aT Tryz.func47 [vL C m d,vL D n e] [] (fun E=>?_) ⟨trivial,trivial,trivial⟩
 refine aG ?_
 refine ev_if_ne (fun h0=>?_) (fun h0=>?_)
 refine aG ?_
 refine ev_fin ⟨trivial,_,rfl,(()),?_,(by trivial),Frm.nil _⟩
 rotate_left
 refine aG ?_
 rotate_left
 · have:m≠n:=by omega
   rw [decide_eq_false (fun e=>this (by rw [hm,hn,e]))]
   rfl
 have hmn:m=n:=by omega
 refine ev_stop (go_loopR [4,5,11,12,13,14,15,16,17,18,19,20,21,22,23,24,25] (fun i=>[(5,vI (i:Nat))]) (fun _=>[]) (fun i=>i≤m∧L.take i=M.take i) (fun i=>m-i) (0:Nat) ⟨Nat.zero_le _,rfl⟩ aS (fun i h_=>?_))
 obtain ⟨hi,hE⟩:=h_
 rcases Nat.lt_or_ge i m with him | him
 · have hil:i<L.length:=by omega
   have hin:i<M.length:=by omega
   refine aG ?_
   refine aJ ?_ (decide_eq_true (show (↑i:Int)<(↑m:Int) from (by omega)))
   refine ev_stop (go_draw Tryz.tbs_ok true [] [(0,true),(1,true),(2,true),(3,true),(4,true),(5,true),(6,true),(7,true),(8,true)] rfl ?_)
   refine aG (aE ?_)
   refine ev_stop (tk_indexE (sz:=6) Tryz.tbs_ok (.inl 0) (i) aB rfl rfl rfl rfl rfl rfl rfl (by omega) rfl (fun _ h=>h) (fun g10 o12 e11=>?_))
   subst e11
   refine aG (aE ?_)
   have l13:i<(L).length:=(by omega)
   refine ev_stop (tk_loadE Tryz.tbs_ok (.inl 0) (i) 0 aB rfl rfl rfl rfl rfl (fun _ h=>h) (by omega) (fun _=>rfl) (by omega) l13 (by decide) ?_)
   refine aG (aE ?_)
   refine ev_stop (tk_indexE (sz:=6) Tryz.tbs_ok (.inl 1) (i) aB rfl rfl rfl rfl rfl rfl rfl (by omega) rfl (fun _ h=>h) (fun g14 o16 e15=>?_))
   subst e15
   refine aG (aE ?_)
   have l17:i<(M).length:=(by omega)
   refine ev_stop (tk_loadE Tryz.tbs_ok (.inl 1) (i) 0 aB rfl rfl rfl rfl rfl (fun _ h=>h) (by omega) (fun _=>rfl) (by omega) l17 (by decide) ?_)
   refine aG (aE ?_)
   refine ev_stop (tk_val (o:=_) ⟨⟨trivial,rfl⟩,by kernel_rfl⟩ rfl rfl (.bq (!(decide (L[i]=M[i])))) trivial (fun a w hF _=>neq_run (ev_denv hF rfl rfl) (ev_denv hF rfl rfl) (by kernel_rfl) (eq_ent L[i] M[i] 9997 w)) ?_)
   refine aG (aE ?_)
   refine ev_if_nd (fun h30=>?_) (fun h30=>?_)
   refine aG ?_
   refine ev_fin ⟨trivial,_,rfl,(()),?_,(by trivial),Frm.nil _⟩
   rotate_left
   refine aG ?_
   refine wN (i+1) ?_
   refine ev_fin (round_next (i+1) (?_:i+1≤m∧List.take (i+1) L=List.take (i+1) M) (show m-(i+1)<m-i from (by omega)) aS)
   rotate_left
   · rw [decide_eq_false (fun e=>h30 (by subst e;rfl))]
     rfl
   have he:L[i]=M[i]:=by simpa using ‹_›
   exact ⟨by omega,by rw [←List.take_append_getElem hil,←List.take_append_getElem hin,hE,he]⟩
 have hir:i=m:=by omega
 rw [List.take_of_length_le (by omega),List.take_of_length_le (by omega)] at hE
 rw [decide_eq_true hE]
 refine aG ?_
 refine aI ?_ (decide_eq_false (show ¬(↑i:Int)<(↑m:Int) from (by omega)))
 refine ev_fin (go Tryz.tbs_ok 1000 ?_)
 refine ev_fin ⟨trivial,_,rfl,(()),rfl,(by trivial),Frm.nil _⟩
theorem sameRegT (x y:RegS) (hl:x.r.L.length≤1000000):Triple Tryz.prog 27 [.agg (encG x).toArray,.agg (encG y).toArray] [] [x.rd,y.rd] Unit (fun _=>.bool (decide (x.r=y.r))) (fun _=>True) (fun _=>[]):=by
 obtain ⟨⟨p,v,L,c⟩,A,a⟩:=x
 obtain ⟨⟨p',v',L',c'⟩,A',a'⟩:=y
 obtain ⟨m,hm⟩:∃ m,m=L.length:=⟨_,rfl⟩
 obtain ⟨m',hm'⟩:∃ m,m=L'.length:=⟨_,rfl⟩
 have T1:=sameLogT A A' L L' m m' a a' hm hm' (by rw [hm];exact hl)
 obtain ⟨w,hw⟩:∃ w,w=decide (L=L'):=⟨_,rfl⟩
 obtain ⟨R,hR⟩:∃ R,R=decide ((⟨p,v,L,c⟩:Reg)=⟨p',v',L',c'⟩):=⟨_,rfl⟩
 have hR2:R=(decide (p=p')&&decide (v=v')&&decide (c=c')&&w):=by
  rw [hR,hw]
  simp only [Reg.mk.injEq,Bool.decide_and]
  cases decide (p=p')<;>cases decide (v=v')<;>cases decide (L=L')<;>cases decide (c=c')<;>rfl
 rw [←hw] at T1
 rw [←hR]
 unfold RegS.rd encG
 simp only [←hm,←hm']
 clear hR hw
 refine aT Tryz.func27 [.ag [vI p,vI v,vL A m a,vI c],.ag [vI p',vI v',vL A' m' a',vI c']] [] (fun E=>?_) ⟨⟨trivial,trivial,trivial,trivial,trivial⟩,⟨trivial,trivial,trivial,trivial,trivial⟩,trivial⟩
 refine aG ?_
 refine ev_new fun b10=>?_
 refine ev_new fun b11=>?_
 refine ev_if_eq (fun h12=>?_) (fun h12=>?_)
 refine aG ?_
 refine ev_if_eq (fun h13=>?_) (fun h13=>?_)
 refine aG ?_
 refine ev_if_eq (fun h14=>?_) (fun h14=>?_)
 refine aG ?_
 refine aC T1 [] [.inl 0,.inl 1] fun _ h15=>?_
 refine ev_fin ⟨trivial,_,rfl,(()),?_,(by trivial),Frm.nil _⟩
 rotate_left
 refine aG ?_
 refine ev_fin ⟨trivial,_,rfl,(()),?_,(by trivial),Frm.nil _⟩
 rotate_left
 refine aG ?_
 refine ev_fin ⟨trivial,_,rfl,(()),?_,(by trivial),Frm.nil _⟩
 rotate_left
 refine aG ?_
 refine ev_fin ⟨trivial,_,rfl,(()),?_,(by trivial),Frm.nil _⟩
 rotate_left
 all_goals (show Value.bool _=Value.bool R;congr 1;rw [hR2];first | grind | (simp [*];first | done | omega))
structure ActA where
 k:Int
 L:List RecS
 A:Option Addr
 c:Nat
 K:List Int
 B:Option Addr
 d:Nat
instance:Inhabited RecS:=⟨⟨⟨0,0,0,0,0,0,[],[]⟩,none,0,none,0⟩⟩
instance:Inhabited ActA:=⟨⟨0,[],none,0,[],none,0⟩⟩
def encA (x:ActA):List Value:=[.int .u8 x.k,.slice x.A x.L.length x.c,.slice x.B x.K.length x.d]
theorem encA_len (x:ActA):(encA x).length=3:=rfl
def ActA.rdA (x:ActA):Asn:=Rd 8 x.A x.L.length (x.L.flatMap encR)
def ActA.rdK (x:ActA):Asn:=Rd 1 x.B x.K.length (x.K.flatMap encN)
def ActsA (l:List ActA):Asn:=⟨fun h=>∀ x∈l,x.rdA.holds h∧(RecsRd x.L).holds h∧x.rdK.holds h,fun e p x hx=>⟨x.rdA.mono e (p x hx).1,(RecsRd x.L).mono e (p x hx).2.1,x.rdK.mono e (p x hx).2.2⟩⟩
def entsR (L:List RecS):Nat:=(L.map fun y=>y.r.L.length).sum
def entsA (l:List ActA):Nat:=(l.map fun x=>entsR x.L).sum
theorem entsR_take {L:List RecS} {k:Nat} (h:k<L.length):entsR (L.take (k+1))=entsR (L.take k)+L[k].r.L.length:=by
 unfold entsR
 rw [←List.take_append_getElem h,List.map_append,List.sum_append,List.map_cons,List.map_nil,List.sum_cons,List.sum_nil,Nat.add_zero]
theorem entsA_take {L:List ActA} {k:Nat} (h:k<L.length):entsA (L.take (k+1))=entsA (L.take k)+entsR L[k].L:=by
 unfold entsA
 rw [←List.take_append_getElem h,List.map_append,List.sum_append,List.map_cons,List.map_nil,List.sum_cons,List.sum_nil,Nat.add_zero]
structure Fit (x:ActA):Prop where
 recs:x.L.length≤6
 kp:x.K.length≤20
 feed:∀ y∈x.L,y.r.F.length≤300
set_option maxHeartbeats 4000000 in
theorem beyondT (A:Option Addr) (l:List ActA) (n c:Nat) (a:Nat) (hn:n=l.length) (h1:n≤9223372036854775807) (hB:∀ x∈l,∀ y∈x.L,y.r.L.length≤140737488351232) :
 Triple Tryz.prog 9 [.slice A n c,.int .i64 (a:Int)] [] [Rd 3 A n (l.flatMap encA),ActsA l] Bool (fun b=>.bool b) (fun b=>b=false→n≤a∧(∀ x∈l,Fit x)∧entsA l≤1500) (fun _=>[]):=by
 refine aT Tryz.func9 [vL A n c,vI (a:Int)] [] (fun E=>?_) ⟨trivial,trivial,trivial⟩
 refine aG ?_
 refine ev_if_lt (fun h0=>?_) (fun h0=>?_)
 refine aG ?_
 refine ev_fin ⟨trivial,_,rfl,(true),rfl,(by simp [*]),Frm.nil _⟩
 refine aG ?_
 refine ev_stop (go_loopR [4,5,6,7,12,13,14,15,16,17,18,19,20,21,22,23,24,25,26,27,28,29,30,31,32,33,34,35,36,37,38,39,40,41,42,43,44,45,46,47,48,49,50,51,52,53,54,55,56,57,58,59,60,61,62,63,64,65,66,67,68,69,70] (fun (i,s)=>[(5,vI (s:Nat)),(6,vI (i:Nat))]) (fun _=>[]) (fun (i,s)=>i≤n∧s≤1500∧s=entsA (l.take i)∧∀ x∈l.take i,Fit x) (fun (i,_)=>n-i) ((0,0):Nat × Nat) ⟨Nat.zero_le _,by decide,by rw [List.take_zero];rfl,by simp⟩ aS (fun x_ h_=>?_))
 obtain ⟨i,s⟩:=x_
 obtain ⟨hi,hs,hs2,hF⟩:=h_
 rcases Nat.lt_or_ge i n with hin | hin
 · have hil:i<l.length:=by omega
   obtain ⟨x,hx⟩:∃ x,x=l[i]:=⟨_,rfl⟩
   refine aG ?_
   refine aJ ?_ (decide_eq_true (show (↑i:Int)<(↑n:Int) from (by omega)))
   refine ev_stop (go_indexE (sz:=3) Tryz.tbs_ok (.inl 0) (i) rfl rfl rfl rfl rfl rfl (by omega) rfl (fun _ h=>h) (fun g20 o22 e21=>?_))
   subst e21
   refine aG ?_
   have l23:i<(l).length:=(by omega)
   refine ev_stop (go_loadE Tryz.tbs_ok (.inl 0) (i) 1 rfl rfl rfl rfl (fun _ h=>h) (by omega) (fun _=>rfl) (by omega) l23 (by decide) ?_)
   refine aG ?_
   refine ev_if_lt (fun h24=>?_) (fun h24=>?_)
   refine aG ?_
   refine ev_fin ⟨trivial,_,rfl,(true),rfl,(by simp [*]),Frm.nil _⟩
   refine aG ?_
   refine ev_stop (go_atE (sz:=3) Tryz.tbs_ok (i) rfl rfl rfl rfl rfl rfl (by omega) ?_)
   refine aG ?_
   have l25:i<(l).length:=(by omega)
   refine ev_stop (go_loadE Tryz.tbs_ok (.inl 0) (i) 2 rfl rfl rfl rfl (fun _ h=>h) (by omega) (fun _=>rfl) (by omega) l25 (by decide) ?_)
   refine aG ?_
   refine ev_if_lt (fun h26=>?_) (fun h26=>?_)
   refine aG ?_
   refine ev_fin ⟨trivial,_,rfl,(true),rfl,(by simp [*]),Frm.nil _⟩
   refine aG ?_
   have hB1:=hB x (by rw [hx];exact List.getElem_mem hil)
   have hK:x.K.length≤20:=by rw [hx];omega
   have hL:x.L.length≤6:=by rw [hx];omega
   have hst:∀ y∈l.take (i+1),y∈l.take i∨y=x:=fun y hy=>by
    rw [←List.take_append_getElem hil] at hy
    rcases List.mem_append.1 hy with hy | hy
    · exact .inl hy
    rw [hx];exact .inr (List.mem_singleton.1 hy)
   have hsx:entsA (l.take (i+1))=s+entsR x.L:=by rw [entsA_take hil,←hx,←hs2]
   obtain ⟨m,hm⟩:∃ m,m=x.L.length:=⟨_,rfl⟩
   have hm2:l[i].L.length=m:=by rw [hm,hx]
   refine ev_stop (go_loopR [4,5,7,34,35,36,37,38,39,40,41,42,43,44,45,46,47,48,49,50,51,52,53,54,55,56,57,58,59,60,61,62,63,64,65,66,67,68,69,70] (fun (k,u)=>[(5,vI (u:Nat)),(7,vI (k:Nat))]) (fun _=>[]) (fun (k,u)=>k≤m∧u≤1500∧u=s+entsR (x.L.take k)∧∀ y∈x.L.take k,y.r.F.length≤300) (fun (k,_)=>m-k) ((0,s):Nat × Nat) ⟨Nat.zero_le _,hs,by rw [List.take_zero];rfl,by simp⟩ aS (fun x_ h_=>?_))
   obtain ⟨k,u⟩:=x_
   obtain ⟨hk,hu,hu2,hp⟩:=h_
   rcases Nat.lt_or_ge k m with hkm | hkm
   · have hkl:k<x.L.length:=by omega
     have hkl2:k<l[i].L.length:=by omega
     have hBk:=hB1 x.L[k] (List.getElem_mem hkl)
     have htk:=entsR_take hkl
     have hxk:l[i].L[k]=x.L[k]:=by simp only [hx]
     rw [←hxk] at hBk htk
     refine go_know (.inl 1) (ActsA l) rfl (p:=∃ g o,l[i].A=some ⟨g,o,none⟩) (fun h p=>?_) fun ⟨g,o,hA⟩=>?_
     · obtain ⟨_,_,q⟩:=(p l[i] (List.getElem_mem hil)).1
       obtain ⟨g,o,_,_,_,e,_⟩:=q (by omega)
       exact ⟨g,o,e⟩
     refine go_more 1 (ActsA l) (Rd 8 (some ⟨g,o,none⟩) m (l[i].L.flatMap encR)) rfl (fun h p=>by rw [←hA,←hm2];exact (p _ (List.getElem_mem hil)).1) ?_
     refine aG ?_
     refine ev_stop (go_atE (sz:=3) Tryz.tbs_ok (i) rfl rfl rfl rfl rfl rfl (by omega) ?_)
     refine aG ?_
     have l60:i<(l).length:=(by omega)
     refine ev_stop (go_loadE Tryz.tbs_ok (.inl 0) (i) 1 rfl rfl rfl rfl (fun _ h=>h) (by omega) (fun _=>rfl) (by omega) l60 (by decide) ?_)
     refine aG ?_
     refine aJ ?_ (decide_eq_true (show (↑k:Int)<(↑l[i].L.length:Int) from (by omega)))
     refine ev_stop (go_atE (sz:=3) Tryz.tbs_ok (i) rfl rfl rfl rfl rfl rfl (by omega) ?_)
     refine aG ?_
     have l61:i<(l).length:=(by omega)
     refine ev_stop (go_loadE Tryz.tbs_ok (.inl 0) (i) 1 rfl rfl rfl rfl (fun _ h=>h) (by omega) (fun _=>rfl) (by omega) l61 (by decide) ?_)
     refine aG ?_
     refine ev_stop (go_slot 49 _ (vL (some ⟨g,o,none⟩) m l[i].c) rfl rfl (by show SV.den (vL l[i].A l[i].L.length l[i].c)=_;rw [hA,hm2]) (fun _=>trivial) ?_)
     refine aG ?_
     refine ev_stop (go_atE (sz:=8) Tryz.tbs_ok (k) rfl rfl rfl rfl rfl rfl (by omega) ?_)
     refine aG ?_
     have l80:k<(l[i].L).length:=(by omega)
     refine ev_stop (go_loadE Tryz.tbs_ok (.inl 2) (k) 6 rfl rfl rfl rfl (fun _ h=>h) (by omega) (fun _=>rfl) (by omega) l80 (by decide) ?_)
     refine aG ?_
     refine wN (u+l[i].L[k].r.L.length) ?_
     refine ev_if_lt (fun h81=>?_) (fun h81=>?_)
     refine aG ?_
     refine ev_fin ⟨trivial,_,rfl,(true),rfl,(by simp [*]),Frm.nil _⟩
     refine aG ?_
     refine ev_stop (go_atE (sz:=3) Tryz.tbs_ok (i) rfl rfl rfl rfl rfl rfl (by omega) ?_)
     refine aG ?_
     have l82:i<(l).length:=(by omega)
     refine ev_stop (go_loadE Tryz.tbs_ok (.inl 0) (i) 1 rfl rfl rfl rfl (fun _ h=>h) (by omega) (fun _=>rfl) (by omega) l82 (by decide) ?_)
     refine aG ?_
     refine ev_stop (go_slot 63 _ (vL (some ⟨g,o,none⟩) m l[i].c) rfl rfl (by show SV.den (vL l[i].A l[i].L.length l[i].c)=_;rw [hA,hm2]) (fun _=>trivial) ?_)
     refine aG ?_
     refine ev_stop (go_atE (sz:=8) Tryz.tbs_ok (k) rfl rfl rfl rfl rfl rfl (by omega) ?_)
     refine aG ?_
     have l90:k<(l[i].L).length:=(by omega)
     refine ev_stop (go_loadE Tryz.tbs_ok (.inl 2) (k) 7 rfl rfl rfl rfl (fun _ h=>h) (by omega) (fun _=>rfl) (by omega) l90 (by decide) ?_)
     refine aG ?_
     refine ev_if_lt (fun h91=>?_) (fun h91=>?_)
     refine aG ?_
     refine ev_fin ⟨trivial,_,rfl,(true),rfl,(by simp [*]),Frm.nil _⟩
     refine aG ?_
     refine wN (k+1) ?_
     refine ev_fin (round_next ((k+1,u+l[i].L[k].r.L.length)) (?_:k+1≤m∧u+l[i].L[k].r.L.length≤1500∧u+l[i].L[k].r.L.length=s+entsR (List.take (k+1) x.L)∧∀ (y:RecS),y∈List.take (k+1) x.L→y.r.F.length≤300) (show m-(k+1)<m-k from (by omega)) aS)
     refine ⟨by omega,by omega,by omega,fun p hp2=>?_⟩
     rw [←List.take_append_getElem hkl] at hp2
     rcases List.mem_append.1 hp2 with h | h
     · exact hp p h
     rw [List.mem_singleton.1 h,←hxk]
     omega
   rw [List.take_of_length_le (by omega)] at hp hu2
   refine aG ?_
   refine ev_stop (go_atE (sz:=3) Tryz.tbs_ok (i) rfl rfl rfl rfl rfl rfl (by omega) ?_)
   refine aG ?_
   have l100:i<(l).length:=(by omega)
   refine ev_stop (go_loadE Tryz.tbs_ok (.inl 0) (i) 1 rfl rfl rfl rfl (fun _ h=>h) (by omega) (fun _=>rfl) (by omega) l100 (by decide) ?_)
   refine aG ?_
   refine aI ?_ (decide_eq_false (show ¬(↑k:Int)<(↑l[i].L.length:Int) from (by omega)))
   refine ev_fin (go Tryz.tbs_ok 1000 ?_)
   refine wN (i+1) ?_
   refine ev_fin (round_next ((i+1,u)) (?_:i+1≤n∧u≤1500∧u=entsA (List.take (i+1) l)∧∀ (x:ActA),x∈List.take (i+1) l→Fit x) (show n-(i+1)<n-i from (by omega)) aS)
   refine ⟨by omega,hu,by omega,fun y hy=>?_⟩
   rcases hst y hy with h | h
   · exact hF y h
   rw [h]
   exact ⟨hL,hK,hp⟩
 obtain rfl:i=n:=by omega
 rw [List.take_of_length_le (by omega)] at hF hs2
 refine aG ?_
 refine aI ?_ (decide_eq_false (show ¬(↑i:Int)<(↑i:Int) from (by omega)))
 refine ev_fin (go Tryz.tbs_ok 1000 ?_)
 refine ev_fin ⟨trivial,_,rfl,(false),rfl,?_,Frm.nil _⟩
 intro h
 exact ⟨by omega,hF,by omega⟩
end Go.Proofs.YtnbaejindfillaaGreatDoor
namespace Go.Sy
open Go.RowKit Go.ChangeShapes Go.WideShapes
section
variable {H:Type} {enc:TypeId × Value→H} {P:Program}
def typesOk (P:Program) (ts:List TypeId):Bool:=ts.all fun t=>P.readableRec t&&decide (t<P.types.size)
theorem trodAll_below (hl:laidOutB P=true) {W W':World} (hb:Below W.heap.size W W') (sp:Nat→Bool) :
 ∀ {ts:List TypeId} {vs:List Value} {ds:List (DataW H)} {ps:List MemPlace},typesOk P ts=true→DataW.TrodAll enc P W 0 (fun _=>true) true ts vs ds ps→(∀ x∈ps,x.block<W.heap.size)→(∀ x∈ps,sp x.block=true) →
  DataW.TrodAll enc P W' 0 sp true ts vs ds ps
 | [],[],[],_,_,h,_,_=>h
 |
  t::ts,v::vs,d::ds,_,ht,⟨p,q,h1,h2,e⟩,hlt,hsp=>by
  subst e
  simp only [typesOk,List.all_cons,Bool.and_eq_true,decide_eq_true_eq] at ht
  exact ⟨p,q,WideElems.Trod_stays hl ht.1.1 ht.1.2 h1 (fun x hx=>hb.same (hlt x (List.mem_append_left _ hx))) (fun x hx=>hsp x (List.mem_append_left _ hx)),
   trodAll_below hl hb sp (ts:=ts) (by simpa [typesOk] using ht.2) h2 (fun x hx=>hlt x (List.mem_append_right _ hx)) (fun x hx=>hsp x (List.mem_append_right _ hx)),rfl⟩
 | [],[],_::_,_,_,h,_,_=>h.elim
 | [],_::_,[],_,_,h,_,_=>h.elim
 | [],_::_,_::_,_,_,h,_,_=>h.elim
 | _::_,[],[],_,_,h,_,_=>h.elim
 | _::_,[],_::_,_,_,h,_,_=>h.elim
 | _::_,_::_,[],_,_,h,_,_=>h.elim
theorem post_true {f:Func} {s:ChangeSpec} {apart fresh handsOn again:Bool} {W W':World} {args:Array Value} {ds gs:List (DataW H)} {before:List MemPlace} {rt:TypeId}
 (hl:laidOutB P=true) (hts:typesOk P f.params.toList=true) (hvars:s.vars=[]) (hrt:f.resultTypes = #[rt]) (hbool:P.underlying rt=some .bool)
 (hW:DataW.Whole enc P f.params.toList s.vars apart W args.toList ds gs before) (hb:Below W.heap.size W W')
 (hr:(s.fn H (ds++gs)).results=[.lit (.bool true)]) (ha:(s.fn H (ds++gs)).args=ds) (hv:(s.fn H (ds++gs)).vars=[]) :
 s.post enc P f apart fresh handsOn again W args (.bool true) W':=by
 have hlt:∀ p∈before,p.block<W.heap.size:=fun p hp=>hW.lt p hp
 have hold:∀ p∈before,(fun b=>decide (b<W.heap.size)) p.block=true:=fun p hp=>by simpa using hlt p hp
 have hW2:=hW
 obtain ⟨p,q,hA,hV,rfl,hz,hn⟩:=hW2
 rw [hvars] at hV
 obtain ⟨rfl,rfl⟩:=trodVars_none hV
 rw [List.append_nil] at hlt hold hz hn hW
 have hres:∀ (b:Nat) (sp:Nat→Bool) (hd:Bool),DataW.TrodAll enc P W' b sp hd f.resultTypes.toList ((Value.bool true).resultList f.resultTypes.size) (s.fn H (ds++[])).results []:=fun b sp hd=>by
  rw [hr,hrt]
  exact trodAll_mk1 (shut_bool hbool true)
 have hargs:∀ sp:Nat→Bool,(∀ x∈p,sp x.block=true)→DataW.TrodAll enc P W' 0 sp true f.params.toList args.toList (s.fn H (ds++[])).args p:=fun sp hsp=>by
  rw [ha]
  exact trodAll_below hl hb sp hts hA hlt hsp
 have hvs:∀ sp:Nat→Bool,DataW.TrodVars enc P W' sp s.vars (s.fn H (ds++[])).vars []:=fun sp=>by rw [hv,hvars];rfl
 have hok:∀ (j:Nat) (t:TypeId) (r:Value),f.resultTypes[j]? = some t→((Value.bool true).resultList f.resultTypes.size)[j]? = some r→Value.okWide P W' .any 0 t r:=by
  intro j t r hj hr'
  rw [hrt] at hj hr'
  match j,hj,hr' with
  |
   0,hj,hr' =>
   simp [Value.resultList] at hj hr'
   subst hj;subst hr'
   exact okWide_bool_mk hbool true
 refine ⟨ds,[],p,[],p,[],hW,hres _ _ _,hargs _ hold,hvs _,World.keptBut_mono (fun x hx=>⟨hx,?_⟩) (hb.frame (· ∈ p)),fun _=>?_⟩
 · exact .inr (.inl hx)
 refine ⟨hok,_,_,([]++p)++[],⟨[]++p,[],trodAll_append (hargs _ (fun _ _=>rfl)) (hres _ _ _),hvs _,rfl,?_,?_⟩,?_⟩
 · intro b off hp
   have hin:MemPlace.cell b off∈p:=by simpa using hp
   rw [hb.frozen (hlt _ hin)]
   exact hz b off hin
 · intro h
   simpa using hn h
 intro x hx _
 simpa using hx
end
end Go.Sy

/-
  What is proved: the texts that the claims share, part 6 of 7, each text behind the other. Conditions: none.
-/
import Derived.Test.YtjlfdfmkofbccaaGreatDoorWp5
set_option maxRecDepth 100000
namespace Go.Proofs.YtjlfdfmkofbccaaGreatDoor
open Go.Sy
theorem framedM_step {ps:List ByteArray} {i:Nat} (h:i<ps.length) (h8:ps[i].size≤8192):strL (framesL ckL ((ps.take (i+1)).map fun p=>p.data.toList))=strL (framesL ckL ((ps.take i).map fun p=>p.data.toList))++frameB ps[i]:=by
 apply ba_eq
 rw [strL_list,ba_app,strL_list,framesL_take h]
 rfl
theorem rFramed (A:Option Addr) (ps:List ByteArray) (np cp:Nat) (hp:np=ps.length) (hp1:np≤10000) (hp2:∀ p∈ps,p.size≤900000000):Triple Tryz.prog 115 [.slice A np cp] [] [Rd 1 A np (ps.flatMap encS)] Unit (fun _=>.tuple #[.string (framedM ps).1,.bool (decide ((framedM ps).2=0))]) (fun _=>True) (fun _=>[]):=by
 refine aT Tryz.func115 [vL A np cp] [] (fun E=>?_) ⟨trivial,trivial⟩
 have hz0:(⟨#[]⟩:ByteArray) = .empty:=rfl
 refine aG ?_
 refine ev_stop (go_loopR [2,3,4,5,6,7,8,9,10,11,12,13,14,15,16,17,18,19,20,21,22,23,24,25,26] (fun (i,s)=>[(4,.va (.string s)),(5,vI (i:Nat))]) (fun _=>[]) (fun (i,s)=>i≤np∧s=strL (framesL ckL ((ps.take i).map fun p=>p.data.toList))∧(ps.take i).all (fun p=>decide (p.size≤8192))=true∧s.size≤i*8220) (fun (i,_)=>np-i) ((0,.empty):Nat × ByteArray) ⟨Nat.zero_le _,rfl,rfl,Nat.zero_le _⟩ aS (fun x_ h_=>?_))
 obtain ⟨i,s⟩:=x_
 obtain ⟨hi,hs,hall,hs2⟩:=h_
 rcases Nat.lt_or_ge i np with hin | hin
 · have hil:i<ps.length:=by omega
   have T1:=rFrame ps[i] (hp2 _ (List.getElem_mem hil))
   by_cases h8:ps[i].size≤8192
   · rw [show frameM ps[i]=(frameB ps[i],0) by unfold frameM;rw [if_pos h8]] at T1
     dsimp only at T1
     have hst:=framedM_step hil h8
     have hf2:(frameB ps[i]).size≤8220:=by
      have e:(frameB ps[i]).size=(frameL ckL ps[i].data.toList).length:=strL_size _
      have h3:=frameL_size ps[i].data.toList
      rw [size_data] at h3
      omega
     obtain ⟨F,hF⟩:∃ F,F=frameB ps[i]:=⟨_,rfl⟩
     rw [←hF] at T1 hst hf2
     have hgo:i+1≤np∧s++F=strL (framesL ckL ((ps.take (i+1)).map fun p=>p.data.toList))∧(ps.take (i+1)).all (fun p=>decide (p.size≤8192))=true∧(s++F).size≤(i+1)*8220:=⟨hin,by rw [hst,hs],by rw [←List.take_append_getElem hil,List.all_append,hall];simpa using h8,by rw [ByteArray.size_append];omega⟩
     refine aG ?_
     refine aJ ?_ (decide_eq_true (show (↑i:Int)<(↑np:Int) from (by omega)))
     refine ev_stop (go_indexE (sz:=1) Tryz.tbs_ok (.inl 0) (i) rfl rfl rfl rfl rfl rfl (by omega) rfl (fun _ h=>h) (fun g20 o22 e21=>?_))
     subst e21
     refine aG ?_
     have l23:i<(ps).length:=(by omega)
     refine ev_stop (go_loadE Tryz.tbs_ok (.inl 0) (i) 0 rfl rfl rfl rfl (fun _ h=>h) (by omega) (fun _=>rfl) (by omega) l23 (by decide) ?_)
     refine aG ?_
     refine aC T1 [] [] fun _ h24=>?_
     refine aI ?_
     refine ev_stop (go_bin (.va _) trivial rfl rfl rfl rfl rfl (by decide) (by decide) (fun w=>cat_run (by omega) w) ?_)
     refine aG ?_
     refine wN (i+1) ?_
     refine ev_fin (round_next ((i+1,s++F)) (show i+1≤np∧s++F=strL (framesL ckL (List.map (fun p ↦ p.data.toList) (List.take (i+1) ps)))∧((List.take (i+1) ps).all fun p ↦ decide (p.size≤8192))=true∧(s++F).size≤(i+1)*8220 from (by assumption)) (show np-(i+1)<np-i from (by omega)) aS)
   rw [show frameM ps[i]=(.empty,3) by unfold frameM;rw [if_neg h8]] at T1
   dsimp only at T1
   have hR:framedM ps=(.empty,3):=by
    unfold framedM
    rw [if_neg]
    intro q
    exact h8 (of_decide_eq_true (List.all_eq_true.1 q _ (List.getElem_mem hil)))
   rw [hR]
   refine aG ?_
   refine aJ ?_ (decide_eq_true (show (↑i:Int)<(↑np:Int) from (by omega)))
   refine ev_stop (go_indexE (sz:=1) Tryz.tbs_ok (.inl 0) (i) rfl rfl rfl rfl rfl rfl (by omega) rfl (fun _ h=>h) (fun g20 o22 e21=>?_))
   subst e21
   refine aG ?_
   have l23:i<(ps).length:=(by omega)
   refine ev_stop (go_loadE Tryz.tbs_ok (.inl 0) (i) 0 rfl rfl rfl rfl (fun _ h=>h) (by omega) (fun _=>rfl) (by omega) l23 (by decide) ?_)
   refine aG ?_
   refine aC T1 [] [] fun _ h24=>?_
   refine aJ ?_
   refine ev_fin ⟨trivial,_,rfl,(()),rfl,(by trivial),Frm.nil _⟩
 obtain rfl:i=np:=by omega
 rw [List.take_of_length_le (by omega)] at hs hall
 have hR:framedM ps=(s,0):=by unfold framedM;rw [if_pos hall,hs]
 rw [hR]
 refine aG ?_
 refine aI ?_ (decide_eq_false (show ¬(↑i:Int)<(↑i:Int) from (by omega)))
 refine ev_fin (go Tryz.tbs_ok 1000 ?_)
 refine ev_fin ⟨trivial,_,rfl,(()),rfl,(by trivial),Frm.nil _⟩
theorem rSegsW (w r:Nat) (W:WK) (A:Option Addr) (c:Nat) (D:DK):Triple Tryz.prog 73 [pP w] [ptV w r W A c,rowV W A c,RefD r D] [] Unit (fun _=>.int .i64 (segsW W D:Nat)) (fun _=>True) (fun _=>[ptV w r W A c,rowV W A c,RefD r D]):=by
 obtain ⟨s,bad,b,t⟩:=W
 have T1:=rOver w r b A (segN b t) c (decide (0<t)) s bad D
 unfold ptU at T1
 unfold ptV segsW
 dsimp only
 refine aT Tryz.func73 [.pt 0 w 0] [.box w 139 [vP r,vI (b:Nat),vL A (segN b t) c,.bq (decide (0<t)),vI s,.bq bad],.fact (rowV ⟨s,bad,b,t⟩ A c),.fact (RefD r D)] (fun E=>?_) ⟨rfl,trivial⟩
 by_cases h:askW s bad D=0
 · rw [show (askW s bad D != 0)=false by simpa using h] at T1
   rw [if_neg (by simpa using h)]
   refine aG ?_
   refine aD T1 [0,2] [] (fun v0_=>[.box (w) 139 [vP r,vI ↑b,vL A (segN b t) c,.bq (Decidable.rec (fun h ↦ false) (fun h ↦ true) (Nat.decLt 0 t)),vI s,.bq (bad)],.fact (RefD r D)]) fun _ h0=>?_
   refine aI ?_
   exact ev_fin ⟨trivial,_,rfl,(),rfl,trivial,aF [0,1,2]⟩
 rw [show (askW s bad D != 0)=true by simpa using h] at T1
 rw [if_pos h]
 refine aG ?_
 refine aD T1 [0,2] [] (fun v0_=>[.box (w) 139 [vP r,vI ↑b,vL A (segN b t) c,.bq (Decidable.rec (fun h ↦ false) (fun h ↦ true) (Nat.decLt 0 t)),vI s,.bq (bad)],.fact (RefD r D)]) fun _ h0=>?_
 refine aJ ?_
 exact ev_fin ⟨trivial,_,rfl,(),rfl,trivial,aF [0,1,2]⟩
set_option maxHeartbeats 1000000 in
theorem rSyncW (w r:Nat) (W:WK) (A:Option Addr) (c:Nat) (D:DK) (hD:okD D) (hW:okW W):Triple Tryz.prog 64 [pP w] [ptV w r W A c,rowV W A c,RefD r D] [] Unit (fun _=>.int .i64 (syncW W D).2.2) (fun _=>True) (fun _=>[ptV w r (syncW W D).1 A c,rowV (syncW W D).1 A c,RefD r (syncW W D).2.1]):=by
 obtain ⟨s,bad,b,t⟩:=W
 have T1:=rOver w r b A (segN b t) c (decide (0<t)) s bad D
 unfold ptU at T1
 replace hW:b+t≤999999999:=hW
 have hse:=segN_eq b t
 obtain ⟨R,hR⟩:∃ R,R=syncW ⟨s,bad,b,t⟩ D:=⟨_,rfl⟩
 rw [←hR]
 unfold syncW at hR
 dsimp only at hR
 by_cases h:askW s bad D=0
 · rw [show (askW s bad D != 0)=false by simpa using h] at T1
   rw [if_neg (by simpa using h)] at hR
   by_cases ht:t=0
   · rw [if_pos ht] at hR
     subst hR ht
     unfold ptV rowV;refine triple_intro Tryz.tbs_ok Tryz.func64 rfl [.pt 0 w 0] [.box w 139 [vP r,vI (b:Nat),vL A (segN b _) c,.bq _,vI s,.bq bad],.fact (Row 9 1 A (segN b _) c ((segsM b _).flatMap encS)),.fact (RefD r D)] ⟨rfl,trivial⟩ rfl (by simp [SV.good,SV.goodL,blkAt,Res.blk]) ?_
     intro E
     refine aG ?_
     refine aD T1 [0,2] [] (fun v0_=>[.box (w) 139 [vP r,vI ↑b,vL A (segN b 0) c,.bl false,vI s,.bq (bad)],.fact (RefD r D)]) fun _ h0=>?_
     refine aI ?_
     exact ev_fin ⟨trivial,_,rfl,(),rfl,trivial,aF [0,1,2]⟩
   rw [if_neg ht] at hR
   have ht0:0<t:=by omega
   have hs9:segN b t≤1000000000:=by split at hse<;>omega
   have hld:decide (0<t)=true:=decide_eq_true ht0
   rw [hld] at T1
   obtain ⟨hli,hla⟩:=seg_lastN (b:=b) ht0
   have hsp:=segN_pos (b:=b) ht0
   have T2:=qSync r D (nmB 115 (b+t)) hD
   obtain ⟨G,hG⟩:∃ G,G=syncD D (nmB 115 (b+t)):=⟨_,rfl⟩
   rw [←hG] at T2 hR
   rw [←hla] at T2
   have T3:=rTold w r b A (segN b t) c true s bad G.2
   obtain ⟨bd,hbd⟩:∃ bd,bd=(bad || badE G.2):=⟨_,rfl⟩
   rw [←hbd] at T3 hR
   subst hR
   unfold ptU at T3
   unfold ptV rowV
   dsimp only
   rw [hld]
   refine aT Tryz.func64 [.pt 0 w 0] [.box w 139 [vP r,vI (b:Nat),vL A (segN b t) c,.va (.bool true),vI s,.bq bad],.fact (Row 9 1 A (segN b t) c ((segsM b t).flatMap encS)),.fact (RefD r D)] (fun E=>?_) ⟨rfl,trivial⟩
   refine aG ?_
   refine aD T1 [0,2] [] (fun v0_=>[.box (w) 139 [vP r,vI ↑b,vL A (segN b t) c,.bl true,vI s,.bq (bad)],.fact (RefD r D)]) fun _ h0=>?_
   refine aI ?_
   refine ev_stop (go_draw Tryz.tbs_ok false [1] [(0,true),(1,true),(2,true),(3,true),(5,true),(6,true),(7,true),(9,true),(10,true),(11,true),(99,false),(0,true),(0,true),(0,true),(0,true),(0,true),(0,true),(0,true),(0,true),(0,true)] rfl ?_)
   refine aG (aE ?_)
   refine ev_stop (go_fork3 4 8 12 [(99,false),(0,true),(0,true),(0,true),(0,true),(0,true),(0,true),(0,true),(0,true)] [(99,false),(0,true),(0,true),(0,true),(0,true),(0,true),(0,true),(0,true),(0,true)] [(13,true),(14,true),(99,false),(0,true),(0,true),(0,true),(0,true),(0,true),(0,true)] _ _ _ ⟨aL,rfl⟩ (by kernel_rfl) rfl rfl rfl rfl rfl rfl ?_ ?_ ?_)
   refine aG (aE ?_)
   refine ev_stop (go_fork 8 12 [(12,false),(13,false),(14,false),(15,false),(16,false),(17,false),(18,false),(19,false)] [(13,true),(14,true),(8,false),(15,false),(16,false),(17,false),(18,false),(19,false)] _ _ ⟨aL,rfl⟩ (by kernel_rfl) rfl rfl rfl rfl ?_ ?_)
   refine aG (aE (aE (aE ?_)))
   refine wO (segN b t-1) ?_
   refine aE ?_
   refine ev_stop (go_index0 (sz:=1) Tryz.tbs_ok (.inr 1) (segN b t-1) rfl rfl rfl rfl rfl rfl (by omega) rfl Row.at0 (fun g1 e2=>?_))
   subst e2
   refine aG (aE ?_)
   have l3:segN b t-1<(segsM b t).length:=(by omega)
   refine ev_stop (go_loadE Tryz.tbs_ok (.inr 1) (segN b t-1) 0 rfl rfl rfl rfl (fun _ h=>Row.rd h) (by omega) (fun _=>rfl) (by omega) l3 (by decide) ?_)
   refine aG (aE ?_)
   refine aC T2 [2] [] fun _ h4=>?_
   refine aE ?_
   refine aD T3 [0] [] (fun v0_=>[.box (w) 139 [vP r,vI ↑b,vL (some { block:=g1,off:=0:Addr }) (segN b t) c,.bl true,vI s,.bq (bd)]]) fun _ h5=>?_
   refine aE (aK ?_)
   exact ev_fin ⟨trivial,_,rfl,(),rfl,trivial,aF [0,1,2]⟩
   refine aG (aE ?_)
   refine wO (segN b t-1) ?_
   refine aE ?_
   refine ev_stop (go_index0 (sz:=1) Tryz.tbs_ok (.inr 1) (segN b t-1) rfl rfl rfl rfl rfl rfl (by omega) rfl Row.at0 (fun g6 e7=>?_))
   subst e7
   refine aG (aE ?_)
   have l8:segN b t-1<(segsM b t).length:=(by omega)
   refine ev_stop (go_loadE Tryz.tbs_ok (.inr 1) (segN b t-1) 0 rfl rfl rfl rfl (fun _ h=>Row.rd h) (by omega) (fun _=>rfl) (by omega) l8 (by decide) ?_)
   refine aG (aE ?_)
   refine aC T2 [2] [] fun _ h9=>?_
   refine aE ?_
   refine aD T3 [0] [] (fun v0_=>[.box (w) 139 [vP r,vI ↑b,vL (some { block:=g6,off:=0:Addr }) (segN b t) c,.bl true,vI s,.bq (bd)]]) fun _ h10=>?_
   refine aE (aK ?_)
   exact ev_fin ⟨trivial,_,rfl,(),rfl,trivial,aF [0,1,2]⟩
   refine aG (aE ?_)
   refine ev_stop (go_fork 4 12 [(12,false),(13,false),(14,false),(15,false),(16,false),(17,false),(18,false),(19,false)] [(13,true),(14,true),(15,true),(16,true),(4,false),(17,false),(18,false),(19,false)] _ _ ⟨aL,rfl⟩ (by kernel_rfl) rfl rfl rfl rfl ?_ ?_)
   refine aG (aE (aE (aE ?_)))
   refine wO (segN b t-1) ?_
   refine aE ?_
   refine ev_stop (go_index0 (sz:=1) Tryz.tbs_ok (.inr 1) (segN b t-1) rfl rfl rfl rfl rfl rfl (by omega) rfl Row.at0 (fun g11 e12=>?_))
   subst e12
   refine aG (aE ?_)
   have l13:segN b t-1<(segsM b t).length:=(by omega)
   refine ev_stop (go_loadE Tryz.tbs_ok (.inr 1) (segN b t-1) 0 rfl rfl rfl rfl (fun _ h=>Row.rd h) (by omega) (fun _=>rfl) (by omega) l13 (by decide) ?_)
   refine aG (aE ?_)
   refine aC T2 [2] [] fun _ h14=>?_
   refine aE ?_
   refine aD T3 [0] [] (fun v0_=>[.box (w) 139 [vP r,vI ↑b,vL (some { block:=g11,off:=0:Addr }) (segN b t) c,.bl true,vI s,.bq (bd)]]) fun _ h15=>?_
   refine aE (aK ?_)
   exact ev_fin ⟨trivial,_,rfl,(),rfl,trivial,aF [0,1,2]⟩
   refine aG (aE ?_)
   refine wO (segN b t-1) ?_
   refine ev_stop (tk_index0 (sz:=1) Tryz.tbs_ok (.inr 1) (segN b t-1) aB rfl rfl rfl rfl rfl rfl rfl (by omega) rfl Row.at0 (fun g16 e17=>?_))
   subst e17
   refine aG (aE ?_)
   have l18:segN b t-1<(segsM b t).length:=(by omega)
   refine ev_stop (tk_loadE Tryz.tbs_ok (.inr 0) (segN b t-1) 0 aB rfl rfl rfl rfl rfl (fun _ h=>Row.rd h) (by omega) (fun _=>rfl) (by omega) l18 (by decide) ?_)
   refine aG (aE (aE ?_))
   refine aC T2 [2] [] fun _ h19=>?_
   refine aE ?_
   refine aD T3 [0] [] (fun v0_=>[.box (w) 139 [vP r,vI ↑b,vL (some { block:=g16,off:=0:Addr }) (segN b t) c,.bl true,vI s,.bq (bd)]]) fun _ h20=>?_
   refine aE (aK ?_)
   exact ev_fin ⟨trivial,_,rfl,(),rfl,trivial,aF [0,1,2]⟩
   refine aG (aE ?_)
   refine wO (segN b t-1) ?_
   refine ev_stop (go_fork 4 8 [(8,false),(15,false),(16,false),(17,false),(18,false),(19,false)] [(15,true),(16,true),(4,false),(17,false),(18,false),(19,false)] _ _ ⟨aL,rfl⟩ (by kernel_rfl) rfl rfl rfl rfl ?_ ?_)
   refine aG (aE (aE ?_))
   refine ev_stop (go_index0 (sz:=1) Tryz.tbs_ok (.inr 1) (segN b t-1) rfl rfl rfl rfl rfl rfl (by omega) rfl Row.at0 (fun g21 e22=>?_))
   subst e22
   refine aG (aE ?_)
   have l23:segN b t-1<(segsM b t).length:=(by omega)
   refine ev_stop (go_loadE Tryz.tbs_ok (.inr 1) (segN b t-1) 0 rfl rfl rfl rfl (fun _ h=>Row.rd h) (by omega) (fun _=>rfl) (by omega) l23 (by decide) ?_)
   refine aG (aE ?_)
   refine aC T2 [2] [] fun _ h24=>?_
   refine aE ?_
   refine aD T3 [0] [] (fun v0_=>[.box (w) 139 [vP r,vI ↑b,vL (some { block:=g21,off:=0:Addr }) (segN b t) c,.bl true,vI s,.bq (bd)]]) fun _ h25=>?_
   refine aE (aK ?_)
   exact ev_fin ⟨trivial,_,rfl,(),rfl,trivial,aF [0,1,2]⟩
   refine aG (aE ?_)
   refine ev_stop (tk_index0 (sz:=1) Tryz.tbs_ok (.inr 1) (segN b t-1) aB rfl rfl rfl rfl rfl rfl rfl (by omega) rfl Row.at0 (fun g26 e27=>?_))
   subst e27
   refine aG (aE ?_)
   have l28:segN b t-1<(segsM b t).length:=(by omega)
   refine ev_stop (tk_loadE Tryz.tbs_ok (.inr 0) (segN b t-1) 0 aB rfl rfl rfl rfl rfl (fun _ h=>Row.rd h) (by omega) (fun _=>rfl) (by omega) l28 (by decide) ?_)
   refine aG (aE (aE ?_))
   refine aC T2 [2] [] fun _ h29=>?_
   refine aE ?_
   refine aD T3 [0] [] (fun v0_=>[.box (w) 139 [vP r,vI ↑b,vL (some { block:=g26,off:=0:Addr }) (segN b t) c,.bl true,vI s,.bq (bd)]]) fun _ h30=>?_
   refine aE (aK ?_)
   exact ev_fin ⟨trivial,_,rfl,(),rfl,trivial,aF [0,1,2]⟩
 rw [show (askW s bad D != 0)=true by simpa using h] at T1
 rw [if_pos h] at hR
 have h41:askW s bad D=41:=(ask_cases s bad D).resolve_left h
 rw [h41] at hR
 subst hR
 unfold ptV rowV;refine triple_intro Tryz.tbs_ok Tryz.func64 rfl [.pt 0 w 0] [.box w 139 [vP r,vI (b:Nat),vL A (segN b _) c,.bq _,vI s,.bq bad],.fact (Row 9 1 A (segN b _) c ((segsM b _).flatMap encS)),.fact (RefD r D)] ⟨rfl,trivial⟩ rfl (by simp [SV.good,SV.goodL,blkAt,Res.blk]) ?_
 intro E
 refine aG ?_
 refine aD T1 [0,2] [] (fun v0_=>[.box (w) 139 [vP r,vI ↑b,vL A (segN b t) c,.bq (Decidable.rec (fun h ↦ false) (fun h ↦ true) (Nat.decLt 0 t)),vI s,.bq (bad)],.fact (RefD r D)]) fun _ h0=>?_
 refine aJ ?_
 exact ev_fin ⟨trivial,_,rfl,(),rfl,trivial,aF [0,1,2]⟩
set_option maxHeartbeats 1000000 in
theorem rSizeW (w r:Nat) (W:WK) (A:Option Addr) (c:Nat) (D:DK) (hD:okD D) (hW:okW W) (ht:W.t≤1000):Triple Tryz.prog 74 [pP w] [ptV w r W A c,rowV W A c,RefD r D] [] Unit (fun _=>.int .i64 (sizeOfW W D:Nat)) (fun _=>True) (fun _=>[ptV w r W A c,rowV W A c,RefD r D]):=by
 have TS:=rSegsW w r W A c D
 obtain ⟨s,bad,b,t⟩:=W
 replace hW:b+t≤999999999:=hW
 replace ht:t≤1000:=ht
 have TZ:=fun x=>rData w r b A (segN b t) c (decide (0<t)) s bad D x hD
 obtain ⟨R,hR⟩:∃ R,R=sizeOfW ⟨s,bad,b,t⟩ D:=⟨_,rfl⟩
 rw [←hR]
 unfold ptU at TZ
 unfold ptV rowV at TS ⊢
 unfold sizeOfW at hR
 unfold segsW at TS
 dsimp only at hR TS ⊢
 have hl:=Proofs.YtjlfdfmkofbccaaGreatDoor.segs_len b t
 have hln:(segsM b t).length=segN b t:=rfl
 obtain ⟨L,hL⟩:∃ L,L=segsM b t:=⟨_,rfl⟩
 obtain ⟨n,hn⟩:∃ n,n=segN b t:=⟨_,rfl⟩
 rw [←hn,←hL] at hln
 rw [←hL,hln,←hn] at TS
 rw [←hL] at hR hl
 rw [hln] at hl
 rw [←hn] at TZ
 rw [←hL,←hn]
 obtain ⟨l,hll⟩:∃ l,l=decide (0<t):=⟨_,rfl⟩
 rw [←hll] at TS TZ ⊢
 refine aT Tryz.func74 [.pt 0 w 0] [.box w 139 [vP r,vI (b:Nat),vL A n c,.bq l,vI s,.bq bad],.fact (Row 9 1 A n c (L.flatMap encS)),.fact (RefD r D)] (fun E=>?_) ⟨rfl,trivial⟩
 rcases ask_cases s bad D with h | h
 · rw [h,if_neg (by decide)] at hR TS
   refine aG ?_
   refine ev_stop (go_loopR [3,4,5,6,7,8,9,10,11,12,13,14,15,16,17,18,19,20,21,22] (fun (i,m)=>[(3,vI (m:Nat)),(4,vI (i:Nat))]) (fun _=>[]) (fun (i,m)=>i≤n∧m=sumS D (L.take i)) (fun (i,_)=>n-i) ((0,0):Nat × Nat) ⟨Nat.zero_le _,rfl⟩ aS (fun x_ h_=>?_))
   obtain ⟨i,m⟩:=x_
   obtain ⟨hi,hm⟩:=h_
   have hm2:m≤i*1048576:=by rw [hm];exact sumS_le hD L i
   rcases Nat.lt_or_ge i n with hin | hin
   · have hz:=read_size hD (L[i]'(by omega))
     have hst:=sumS_step (D:=D) (L:=L) (i:=i) (by omega)
     rw [←hm] at hst
     refine aG ?_
     refine aD TS [0,1,2] [] (fun v0_=>[.box (w) 139 [vP r,vI ↑b,vL A n c,.bq (l),vI s,.bq (bad)],.fact (Row 9 1 A n c (List.flatMap encS L)),.fact (RefD r D)]) fun _ h20=>?_
     refine aJ ?_ (decide_eq_true (show (↑i:Int)<(↑n:Int) from (by omega)))
     refine ev_stop (go_index0 (sz:=1) Tryz.tbs_ok (.inr 1) (i) rfl rfl rfl rfl rfl rfl (by omega) rfl Row.at0 (fun g21 e22=>?_))
     subst e22
     refine aG ?_
     have l23:i<(L).length:=(by omega)
     refine ev_stop (go_loadE Tryz.tbs_ok (.inr 1) (i) 0 rfl rfl rfl rfl (fun _ h=>Row.rd h) (by omega) (fun _=>rfl) (by omega) l23 (by decide) ?_)
     refine aG ?_
     refine aD (TZ (L[i])) [0,2] [] (fun v0_=>[.box (w) 139 [vP r,vI ↑b,vL (some { block:=g21,off:=0:Addr }) n c,.bq (l),vI s,.bq (bad)],.fact (RefD r D)]) fun _ h24=>?_
     refine wN (m+(readD D L[i]).fst.size) ?_
     refine wN (i+1) ?_
     refine ev_fin (round_next ((i+1,m+(readD D L[i]).fst.size)) (show i+1≤n∧m+(readD D L[i]).fst.size=sumS D (List.take (i+1) L) from (by omega)) (show n-(i+1)<n-i from (by omega)) aS)
   obtain rfl:i=n:=by omega
   rw [List.take_of_length_le (by omega),←hR] at hm
   subst hm
   refine aG ?_
   refine aD TS [0,1,2] [] (fun v0_=>[.box (w) 139 [vP r,vI ↑b,vL A i c,.bq (l),vI s,.bq (bad)],.fact (Row 9 1 A i c (List.flatMap encS L)),.fact (RefD r D)]) fun _ h20=>?_
   refine aI ?_ (decide_eq_false (show ¬(↑i:Int)<(↑i:Int) from (by omega)))
   refine ev_fin (go Tryz.tbs_ok 1000 ?_)
   exact ev_fin ⟨trivial,_,rfl,(),rfl,trivial,aF [0,1,2]⟩
 rw [h,if_pos (by decide)] at hR TS
 subst hR
 refine aG ?_
 refine ev_stop (go_loopR [3,4,5,6,7,8,9,10,11,12,13,14,15,16,17,18,19,20,21,22] (fun m=>[(3,vI (m:Nat)),(4,vI (m:Nat))]) (fun _=>[]) (fun m=>m=0) (fun _=>0) (0:Nat) rfl aS (fun m hm=>?_))
 subst hm
 refine aG ?_
 refine aD TS [0,1,2] [] (fun v0_=>[.box (w) 139 [vP r,vI ↑b,vL A n c,.bq (l),vI s,.bq (bad)],.fact (Row 9 1 A n c (List.flatMap encS L)),.fact (RefD r D)]) fun _ h20=>?_
 refine aI ?_
 refine ev_fin (go Tryz.tbs_ok 1000 ?_)
 exact ev_fin ⟨trivial,_,rfl,(),rfl,trivial,aF [0,1,2]⟩
theorem rClean (w r b:Nat) (A:Option Addr) (n c:Nat) (l:Bool) (s:Int) (bad:Bool) (D:DK) (B:Option Addr) (S:List ByteArray) (k d:Nat) (hk:k=S.length) (hk1:k≤1000000) (hD:okD D):Triple Tryz.prog 110 [pP w,.slice B k d] [ptU w r b A n c l s bad,RefD r D] [Rd 1 B k (S.flatMap encS)] Unit (fun _=>.int .i64 (runD (remL S) D).2) (fun _=>True) (fun _=>[ptU w r b A n c l s bad,RefD r (runD (remL S) D).1]):=by
 refine aT Tryz.func110 [.pt 0 w 0,vL B k d] [.box w 139 [vP r,vI (b:Nat),vL A n c,.bq l,vI s,.bq bad],.fact (RefD r D)] (fun E=>?_) ⟨rfl,trivial,trivial⟩
 obtain ⟨R,hR⟩:∃ R,R=runD (remL S) D:=⟨_,rfl⟩
 rw [←hR]
 refine aG ?_
 refine ev_stop (go_loopR [4,5,6,7,8,9,10,11,12,13,14,15,16,17,18,19,20,21,22,23,24] (fun (i,_)=>[(5,vI (i:Nat))]) (fun (_,D')=>[(1,.fact (RefD r D'))]) (fun (i,D')=>i≤k∧runD ((remL S).take i) D=(D',0)∧okD D') (fun (i,_)=>k-i) ((0,D):Nat × DK) ⟨Nat.zero_le _,rfl,hD⟩ aS (fun x_ h_=>?_))
 obtain ⟨i,D'⟩:=x_
 obtain ⟨hi,hr,hok⟩:=h_
 rcases Nat.lt_or_ge i k with hik | hik
 · have hil:i<S.length:=by omega
   have T1:=qRem r D' S[i] hok
   obtain ⟨s1,s2⟩:=run_step (fs:=remL S) (i:=i) (f:=fun D=>remD D S[i]) (D:=D) (by unfold remL;rw [List.getElem?_map,List.getElem?_eq_getElem hil];rfl) (by rw [hr])
   rw [hr,←hR] at s2
   rw [hr] at s1
   have hok2:=rem_ok hok S[i]
   obtain ⟨G,hG⟩:∃ G,G=remD D' S[i]:=⟨_,rfl⟩
   dsimp only at s1 s2
   rw [←hG] at T1 s1 s2 hok2
   by_cases hg:G.2=0
   · have s3:=s1 hg
     have s4:runD ((remL S).take (i+1)) D=(G.1,0):=by rw [s3,←hg]
     refine aG ?_
     refine aJ ?_ (decide_eq_true (show (↑i:Int)<(↑k:Int) from (by omega)))
     refine ev_stop (go_draw Tryz.tbs_ok false [0] [(0,true),(1,true),(2,true),(3,true),(4,true),(5,true),(6,true),(7,true),(8,false),(9,false)] rfl ?_)
     refine aG (aE ?_)
     refine ev_stop (tk_indexE (sz:=1) Tryz.tbs_ok (.inl 0) (i) aB rfl rfl rfl rfl rfl rfl rfl (by omega) rfl (fun _ h=>h) (fun g20 o22 e21=>?_))
     subst e21
     refine aG (aE ?_)
     have l23:i<(S).length:=(by omega)
     refine ev_stop (tk_loadE Tryz.tbs_ok (.inl 0) (i) 0 aB rfl rfl rfl rfl rfl (fun _ h=>h) (by omega) (fun _=>rfl) (by omega) l23 (by decide) ?_)
     refine aG (aE ?_)
     refine aC T1 [1] [] fun _ h24=>?_
     refine aE (aK ?_)
     refine aI ?_ (ne_no (by with_reducible assumption))
     refine wN (i+1) ?_
     refine ev_fin (round_next ((i+1,G.fst)) (show i+1≤k∧runD (List.take (i+1) (remL S)) D=(G.fst,0)∧okD G.fst from (by trivial)) (show k-(i+1)<k-i from (by omega)) aS)
   have s3:=s2 hg
   rw [s3]
   refine aG ?_
   refine aJ ?_ (decide_eq_true (show (↑i:Int)<(↑k:Int) from (by omega)))
   refine ev_stop (go_draw Tryz.tbs_ok false [0] [(0,true),(1,true),(2,true),(3,true),(4,true),(5,true),(6,true),(7,true),(8,false),(9,false)] rfl ?_)
   refine aG (aE ?_)
   refine ev_stop (tk_indexE (sz:=1) Tryz.tbs_ok (.inl 0) (i) aB rfl rfl rfl rfl rfl rfl rfl (by omega) rfl (fun _ h=>h) (fun g20 o22 e21=>?_))
   subst e21
   refine aG (aE ?_)
   have l23:i<(S).length:=(by omega)
   refine ev_stop (tk_loadE Tryz.tbs_ok (.inl 0) (i) 0 aB rfl rfl rfl rfl rfl (fun _ h=>h) (by omega) (fun _=>rfl) (by omega) l23 (by decide) ?_)
   refine aG (aE ?_)
   refine aC T1 [1] [] fun _ h24=>?_
   refine aE (aK ?_)
   refine aJ ?_ (ne_yes (by with_reducible assumption))
   exact ev_fin ⟨trivial,_,rfl,(),rfl,trivial,aF [0,1]⟩
 obtain rfl:i=k:=by omega
 rw [List.take_of_length_le (by unfold remL;rw [List.length_map];omega),←hR] at hr
 rw [hr]
 refine aG ?_
 refine aI ?_ (decide_eq_false (show ¬(↑i:Int)<(↑i:Int) from (by omega)))
 refine ev_fin (go Tryz.tbs_ok 1000 ?_)
 exact ev_fin ⟨trivial,_,rfl,(),rfl,trivial,aF [0,1]⟩
abbrev BA:=ByteArray
def FB (ps:List BA):BA:=strL (framesL ckL (ps.map fun p=>p.data.toList))
def small (ps:List BA):Prop:=∀ p∈ps,p.size≤8192
theorem FB_nil:FB [] = .empty:=ba_eq rfl
theorem FB_list (ps:List BA):(FB ps).data.toList=framesL ckL (ps.map fun p=>p.data.toList):=rfl
theorem FB_append (ps qs:List BA):FB (ps++qs)=FB ps++FB qs:=ba_eq (by rw [ba_app,FB_list,FB_list,FB_list,List.map_append,framesL_append])
theorem FB_size_append (ps qs:List BA):(FB (ps++qs)).size=(FB ps).size+(FB qs).size:=by rw [FB_append,ByteArray.size_append]
theorem FB_take_le (ps:List BA) (j:Nat):(FB (ps.take j)).size≤(FB ps).size:=by
 conv=>rhs;rw [←List.take_append_drop j ps]
 rw [FB_size_append]
 omega
theorem FB_take_mono (ps:List BA) {i j:Nat} (h:i≤j):(FB (ps.take i)).size≤(FB (ps.take j)).size:=by
 have:=FB_take_le (ps.take j) i
 rwa [List.take_take,Nat.min_eq_left h] at this
theorem back_map (ps:List BA):(ps.map fun p=>p.data.toList).map strL=ps:=by
 rw [List.map_map]
 conv=>rhs;rw [←List.map_id ps]
 exact List.map_congr_left fun p _=>list_strL p
theorem framed_small {ps:List BA} (h:small ps):framedM ps=(FB ps,0):=by
 unfold framedM
 rw [if_pos (List.all_eq_true.2 fun p hp=>decide_eq_true (h p hp))]
 rfl
theorem framed_ok {ps:List BA} (h:(framedM ps).2=0):small ps∧(framedM ps).1=FB ps:=by
 unfold framedM at h ⊢
 split at h
 · rename_i hp
   rw [if_pos hp]
   exact ⟨fun p hp2=>of_decide_eq_true (List.all_eq_true.1 hp p hp2),rfl⟩
 cases h
theorem framed_err {ps:List BA} (h:(framedM ps).2≠0):(framedM ps).2=3:=by
 unfold framedM at h ⊢
 split at h
 · exact absurd rfl h
 rename_i hp
 rw [if_neg hp]
theorem small_map {ps:List BA} (h:small ps):∀ p∈ps.map (fun p=>p.data.toList),p.length≤8192:=fun p hp=>by
 obtain ⟨q,hq,rfl⟩:=List.mem_map.1 hp
 rw [size_data]
 exact h q hq
theorem whole_FB {ps:List BA} (h:small ps):wholeM (FB ps)=(ps,(FB ps).size):=by
 have:=whole_frames ckL_len (ps.map fun p=>p.data.toList) [] (small_map h)
 rw [List.append_nil,wholeL_none (l:=[]) rfl] at this
 unfold wholeM
 rw [FB_list,this]
 simp only [List.append_nil,Nat.add_zero,back_map]
 rw [←FB_list,size_data]
theorem wholeB_FB {ps:List BA} (h:small ps):wholeB (FB ps)=true:=by
 unfold wholeB
 rw [whole_FB h]
 exact decide_eq_true rfl
theorem whole_torn {ps:List BA} (h:small ps) {l r:BA} (e:l++r=FB ps):∃ k,k≤ps.length∧wholeM l=(ps.take k,(FB (ps.take k)).size)∧(FB (ps.take k)).size≤l.size∧∀ j,j≤ps.length→(FB (ps.take j)).size≤l.size→j≤k:=by
 have e2:l.data.toList++r.data.toList=framesL ckL (ps.map fun p=>p.data.toList):=by rw [←ba_app,e];rfl
 obtain ⟨k,hk,hw,hmax⟩:=whole_cut ckL_len _ _ _ (small_map h) e2
 rw [List.length_map] at hk hmax
 have hs:∀ j,(framesL ckL ((ps.map fun p=>p.data.toList).take j)).length=(FB (ps.take j)).size:=fun j=>by
  rw [←List.map_take]
  exact (size_data (FB (ps.take j))).symm ▸ rfl
 refine ⟨k,hk,?_,?_,fun j hj hle=>hmax j hj ?_⟩
 · unfold wholeM
   rw [hw,hs]
   simp only [←List.map_take,back_map]
 · have:=(whole_len l).2
   unfold wholeM at this
   rw [hw] at this
   simp only [hs] at this
   exact this
 rw [hs,size_data]
 exact hle
theorem torn_take {ps:List BA} {l r:BA} (e:l++r=FB ps) {k:Nat} (h:(FB (ps.take k)).size≤l.size):l.extract 0 (FB (ps.take k)).size=FB (ps.take k):=by
 refine ba_eq ?_
 rw [ext_l,List.drop_zero]
 have e2:l.data.toList++r.data.toList=(FB (ps.take k)).data.toList++(FB (ps.drop k)).data.toList:=by rw [←ba_app,e,←ba_app,←FB_append,List.take_append_drop]
 have e3:=congrArg (fun x=>x.take (FB (ps.take k)).size) e2
 rw [List.take_append_of_le_length (by rw [size_data];exact h)] at e3
 rw [e3,←size_data,List.take_left]
def full (L:List Fl) (names:List BA) (Ps:List (List BA)):Prop:=names.map (lk L)=Ps.map fun ps=>some (FB ps,((FB ps).size:Int))
structure Torn (L:List Fl) (b t:Nat) (init:List (List BA)) (last:List BA) (l:BA) (s:Int):Prop where
 rise:riseF L
 lay:Lay (L.map (·.n)) b t
 few:(segsM b t).length≤15
 smalls:(∀ ps∈init,small ps)∧small last
 zero:t=0→full L (segsM b 0) init∧last=[]
 more:0<t→full L (segsM b (t-1)) init∧lk L (nmB 115 (b+t))=some (l,s)∧∃ r,l++r=FB last
theorem segs_succ {b t:Nat} (h:0<t):segsM b t=segsM b (t-1)++[nmB 115 (b+t)]:=by
 obtain ⟨k,rfl⟩:∃ k,t=k+1:=⟨t-1,by omega⟩
 unfold segsM
 rw [List.range_succ,List.map_append,←List.append_assoc,Nat.add_sub_cancel]
 simp only [List.map_cons,List.map_nil]
 rw [show b+1+k=b+(k+1) by omega]
theorem names_fl (D:DK):namesD D=D.files.map (·.n):=rfl
theorem read_lk {D:DK} (h:D.down=false) (hs:riseF D.files) (x:BA):(readD D x).1=match lk D.files x with | some v=>v.1 | none=>.empty:=by
 unfold readD
 rw [h,if_neg (by decide),lk_has]
 cases hl:lk D.files x with
 | none=>rfl
 |
  some v =>
  obtain ⟨hi,he⟩:=lk_at hs hl
  simp only [Option.isSome_some,if_true]
  rw [getF_eq hi,he]
theorem data_full {D:DK} (h:D.down=false) (hs:riseF D.files) {names:List BA} {Ps:List (List BA)} (hf:full D.files names Ps):(names.map fun x=>(readD D x).1)=Ps.map FB:=by
 unfold full at hf
 induction names generalizing Ps with
 |
  nil =>
  cases Ps with
  | nil=>rfl
  | cons p Ps=>simp at hf
 |
  cons x names ih =>
  cases Ps with
  | nil=>simp at hf
  |
   cons p Ps =>
   simp only [List.map_cons,List.cons.injEq] at hf
   simp only [List.map_cons]
   rw [ih hf.2,read_lk h hs,hf.1]
theorem Torn.data {D:DK} {b t:Nat} {init:List (List BA)} {last:List BA} {l:BA} {s:Int} (H:Torn D.files b t init last l s) (hu:D.down=false):dataD D=init.map FB++if 0<t then [l] else []:=by
 unfold dataD
 rw [names_fl,H.lay.base,H.lay.tails]
 rcases Nat.eq_zero_or_pos t with h0 | h0
 · rw [if_neg (by omega),List.append_nil]
   subst h0
   exact data_full hu H.rise (H.zero rfl).1
 rw [if_pos h0,segs_succ h0,List.map_append,data_full hu H.rise (H.more h0).1]
 congr 1
 simp only [List.map_cons,List.map_nil]
 rw [read_lk hu H.rise,(H.more h0).2.1]
theorem Torn.okSeg {D:DK} {b t:Nat} {init:List (List BA)} {last:List BA} {l:BA} {s:Int} (H:Torn D.files b t init last l s) (hu:D.down=false):okSeg t (dataD D)=true:=by
 rw [H.data hu]
 have h1:∀ x∈init.map FB,wholeB x=true:=fun x hx=>by
  obtain ⟨ps,hp,rfl⟩:=List.mem_map.1 hx
  exact wholeB_FB (H.smalls.1 ps hp)
 rcases Nat.eq_zero_or_pos t with h0 | h0
 · rw [if_neg (by omega),List.append_nil]
   exact okSeg_yes h1
 rw [if_pos h0]
 unfold Proofs.YtjlfdfmkofbccaaGreatDoor.okSeg
 rw [List.dropLast_concat]
 simp only [Bool.and_eq_true,Bool.or_eq_true,decide_eq_true_eq]
 exact ⟨List.all_eq_true.2 h1,.inl h0⟩
theorem pay_FB {Ps:List (List BA)} (h:∀ ps∈Ps,small ps):payM (Ps.map FB)=Ps.flatten:=by
 unfold payM
 induction Ps with
 | nil=>rfl
 |
  cons ps Ps ih =>
  simp only [List.map_cons,List.flatMap_cons,List.flatten_cons]
  rw [ih fun q hq=>h q (List.mem_cons_of_mem _ hq),whole_FB (h ps List.mem_cons_self)]
/-! removals -/
theorem rem_calm {D:DK} (hD:okD D) (hu:D.down=false) (hf:D.fails=none) {x:BA} {v:BA × Int} (h:lk D.files x=some v):remD D x=(⟨D.most,D.starts,false,D.files.eraseIdx (posF D.files x),none,D.keep⟩,0):=by
 unfold remD
 rw [hu,if_neg (by decide),lk_has,h]
 simp only [Option.isSome_some,if_true]
 unfold chg
 rw [hf,hu]
theorem rem_all:∀ {S:List BA} {D:DK},okD D→D.down=false→D.fails=none→S.Nodup→(∀ x∈S,∃ v,lk D.files x=some v) →
 (runD (remL S) D).2=0∧okD (runD (remL S) D).1∧(runD (remL S) D).1.down=false∧(runD (remL S) D).1.fails=none∧(runD (remL S) D).1.starts=D.starts∧(runD (remL S) D).1.most=D.most∧(runD (remL S) D).1.keep=D.keep∧∀ z,lk (runD (remL S) D).1.files z=if memB S z then none else lk D.files z
 | [],D,h1,h2,h3,_,_=>⟨rfl,h1,h2,h3,rfl,rfl,rfl,fun z=>rfl⟩
 |
  x::S,D,h1,h2,h3,h4,h5=>by
  obtain ⟨v,hv⟩:=h5 x List.mem_cons_self
  have e:=rem_calm h1 h2 h3 hv
  obtain ⟨n1,n2⟩:=List.nodup_cons.1 h4
  have hl:∀ z,lk (D.files.eraseIdx (posF D.files x)) z=if z=x then none else lk D.files z:=lk_erase h1.rise hv
  have hok:okD (⟨D.most,D.starts,false,D.files.eraseIdx (posF D.files x),none,D.keep⟩:DK):=by
   have:=rem_ok h1 x
   rwa [e] at this
  obtain ⟨i1,i2,i3,i4,i5,i6,i7,i8⟩:=rem_all (S:=S) hok rfl rfl n2 (fun y hy=>by
   obtain ⟨w,hw⟩:=h5 y (List.mem_cons_of_mem _ hy)
   exact ⟨w,by rw [hl,if_neg (fun q=>n1 (by rw [←q];exact hy))];exact hw⟩)
  have er:runD (remL (x::S)) D=runD (remL S) ⟨D.most,D.starts,false,D.files.eraseIdx (posF D.files x),none,D.keep⟩:=by
   show runD ((fun D=>remD D x)::remL S) D=_
   rw [runD]
   simp only [e,if_true]
  rw [er]
  refine ⟨i1,i2,i3,i4,i5,i6,i7,fun z=>?_⟩
  rw [i8,hl]
  have em:memB (x::S) z=(decide (x=z) || memB S z):=rfl
  rw [em]
  by_cases hx:z=x
  · rw [if_pos hx,decide_eq_true hx.symm]
    simp
  rw [if_neg hx,decide_eq_false (fun q=>hx q.symm),Bool.false_or]
theorem mem_names {L:List Fl} {x:BA}:x∈L.map (·.n)↔lk L x≠none:=by
 rw [Ne,lk_none]
 constructor
 · intro h q
   obtain ⟨f,hf,e⟩:=List.mem_map.1 h
   exact q f hf e
 intro h
 refine Classical.byContradiction fun q=>h fun f hf e=>q (List.mem_map.2 ⟨f,hf,e⟩)
theorem full_congr {L L':List Fl} {names:List BA} {Ps:List (List BA)} (h:∀ x∈names,lk L' x=lk L x) (H:full L names Ps):full L' names Ps:=by
 unfold full at H ⊢
 rw [←H]
 exact List.map_congr_left h
theorem full_has {L:List Fl} {names:List BA} {Ps:List (List BA)} (H:full L names Ps) {x:BA} (h:x∈names):∃ ps∈Ps,lk L x=some (FB ps,((FB ps).size:Int)):=by
 unfold full at H
 have h1:lk L x∈names.map (lk L):=List.mem_map.2 ⟨x,h,rfl⟩
 rw [H] at h1
 obtain ⟨ps,hp,e⟩:=List.mem_map.1 h1
 exact ⟨ps,hp,e.symm⟩
theorem seg_in {b t:Nat} (h:0<t) {x:BA} (hx:x∈segsM b (t-1)):x∈segsM b t∧x≠nmB 115 (b+t):=by
 rw [segs_succ h]
 refine ⟨List.mem_append_left _ hx,fun e=>?_⟩
 have:=segs_nodup b t
 rw [segs_succ h,List.nodup_append] at this
 exact this.2.2 x hx _ (List.mem_singleton_self _) e
theorem Torn.move {L L':List Fl} {b t:Nat} {init:List (List BA)} {last last':List BA} {l l':BA} {s s':Int} (H:Torn L b t init last l s) (hr:riseF L') (hsegs:∀ x∈segsM b t,(0<t→x≠nmB 115 (b+t))→lk L' x=lk L x)
 (hend:0<t→lk L' (nmB 115 (b+t))=some (l',s')) (hall:∀ x,lk L' x≠none→x∈segsM b t∨staleB b x=true) (hsm:small last') (hl:0<t→∃ r,l'++r=FB last') (h0:t=0→last'=[]):Torn L' b t init last' l' s':=by
 refine ⟨hr,⟨H.lay.few,fun x hx=>mem_names.2 ?_,fun x hx=>hall x (mem_names.1 hx)⟩,H.few,⟨H.smalls.1,hsm⟩,fun ht=>⟨?_,h0 ht⟩,fun ht=>⟨?_,hend ht,hl ht⟩⟩
 · by_cases hq:0<t∧x=nmB 115 (b+t)
   · rw [hq.2,hend hq.1]
     simp
   rw [hsegs x hx fun ht e=>hq ⟨ht,e⟩]
   exact mem_names.1 (H.lay.segs x hx)
 · subst ht
   exact full_congr (fun x hx=>hsegs x hx fun q=>absurd q (by decide)) (H.zero rfl).1
 exact full_congr (fun x hx=>hsegs x (seg_in ht hx).1 fun _=>(seg_in ht hx).2) (H.more ht).1
theorem extract_all (x:BA):x.extract 0 x.size=x:=ba_eq (by rw [ext_l,List.drop_zero,←size_data,List.take_length])
theorem Torn.crash {L:List Fl} {b t:Nat} {init:List (List BA)} {last:List BA} {l:BA} {s:Int} (H:Torn L b t init last l s) (hL:∀ f∈L,0≤f.s∧f.s≤f.d.size) (K:List Int) :
 ∃ l':BA,Torn (crashF L K) b t init last l' (l'.size:Nat)∧(0<t→s≤(l'.size:Nat)):=by
 have hr:riseF (crashF L K):=riseF_names (crashF_names L K) H.rise
 have hfull:∀ x,(∃ d:BA,lk L x=some (d,(d.size:Int)))→lk (crashF L K) x=lk L x:=fun x ⟨d,hd⟩=>by
  rcases lk_crash hL K x with ⟨_,h2⟩ | ⟨v,w,h1,h2,k,h3,h4,h5⟩
  · rw [hd] at h2
    cases h2
  rw [hd] at h1
  cases h1
  obtain rfl:k=d.size:=by simp only at h3 h4;omega
  rw [h2,h5,hd]
  simp only
  rw [extract_all]
 have hsegs:∀ x∈segsM b t,(0<t→x≠nmB 115 (b+t))→lk (crashF L K) x=lk L x:=fun x hx hne=>by
  refine hfull x ?_
  rcases Nat.eq_zero_or_pos t with h0 | h0
  · subst h0
    obtain ⟨ps,_,e⟩:=full_has (H.zero rfl).1 hx
    exact ⟨_,e⟩
  rw [segs_succ h0] at hx
  rcases List.mem_append.1 hx with hx | hx
  · obtain ⟨ps,_,e⟩:=full_has (H.more h0).1 hx
    exact ⟨_,e⟩
  exact absurd (List.mem_singleton.1 hx) (hne h0)
 have hall:∀ x,lk (crashF L K) x≠none→x∈segsM b t∨staleB b x=true:=fun x hx=>by
  refine H.lay.all x (mem_names.2 ?_)
  rcases lk_crash hL K x with ⟨h1,_⟩ | ⟨v,w,h1,_⟩
  · exact absurd h1 hx
  rw [h1]
  simp
 rcases Nat.eq_zero_or_pos t with h0 | h0
 · exact ⟨.empty,H.move hr hsegs (fun q=>by omega) hall H.smalls.2 (fun q=>by omega) (fun _=>(H.zero h0).2),fun q=>by omega⟩
 obtain ⟨h1,h2,r,h3⟩:=H.more h0
 rcases lk_crash hL K (nmB 115 (b+t)) with ⟨_,h4⟩ | ⟨v,w,h4,h5,k,h6,h7,h8⟩
 · rw [h2] at h4
   cases h4
 rw [h2] at h4
 cases h4
 simp only at h6 h7
 have hk:(l.extract 0 k).size=k:=by rw [ByteArray.size_extract];omega
 refine ⟨l.extract 0 k,H.move hr hsegs (fun _=>by rw [h5,h8,hk]) hall H.smalls.2 (fun _=>⟨l.extract k l.size++r,?_⟩) (fun q=>by omega),fun _=>by rw [hk];exact h6⟩
 rw [←h3]
 refine ba_eq ?_
 rw [ba_app,ba_app,ba_app,ext_l,ext_l,←size_data,List.take_length,List.drop_zero,←List.append_assoc,List.take_append_drop]
structure Live (W:WK) (D:DK) (init:List (List BA)) (last:List BA) (j:Nat):Prop where
 ok:okD D
 up:D.down=false
 st:D.starts=W.s
 nb:W.bad=false
 torn:∃ s:Int,Torn D.files W.b W.t init last (FB last) s∧(0<W.t→((FB (last.take j)).size:Int)≤s)
 few:j≤last.length
 bare:∀ x,lk D.files x≠none→x∈segsM W.b W.t
theorem Live.names {W:WK} {D:DK} {init:List (List BA)} {last:List BA} {j:Nat} (H:Live W D init last j):Bare (namesD D) W.b W.t:=by
 obtain ⟨s,h,_⟩:=H.torn
 exact ⟨h.lay.few,fun x=>⟨fun hx=>H.bare x (mem_names.1 hx),fun hx=>h.lay.segs x hx⟩⟩
theorem Live.okW {W:WK} {D:DK} {init:List (List BA)} {last:List BA} {j:Nat} (H:Live W D init last j):Proofs.YtjlfdfmkofbccaaGreatDoor.okW W:=H.names.1
theorem Live.ask {W:WK} {D:DK} {init:List (List BA)} {last:List BA} {j:Nat} (H:Live W D init last j):askW W.s W.bad D=0:=by
 unfold askW
 rw [H.nb,H.up,H.st]
 simp
theorem rise_nodup {L:List Fl} (h:riseF L):(L.map (·.n)).Nodup:=by
 refine List.Pairwise.map _ ?_ h
 exact fun a b hab=>hab.ne
theorem Live.len {W:WK} {D:DK} {init:List (List BA)} {last:List BA} {j:Nat} (H:Live W D init last j):D.files.length=(segsM W.b W.t).length:=by
 have h1:=H.names
 have h2:=((List.perm_ext_iff_of_nodup (rise_nodup H.ok.rise) (segs_nodup W.b W.t)).2 h1.2).length_eq
 rwa [List.length_map] at h2
theorem Live.opens {W:WK} {D:DK} {init:List (List BA)} {last:List BA} {j:Nat} (H:Live W D init last j):openD D=(D,0,⟨D.starts,false,W.b,W.t⟩,init.flatten++last):=by
 obtain ⟨s,hT,_⟩:=H.torn
 have hb:=H.names
 unfold openD
 rw [H.up,if_neg (by decide),if_neg]
 · rw [hb.stale]
   have hd:=hT.data H.up
   have hc:cutM (dataD D)=none:=by
    rw [hd]
    refine cutM_no fun x hx=>?_
    rcases List.mem_append.1 hx with hx | hx
    · obtain ⟨ps,hp,rfl⟩:=List.mem_map.1 hx
      exact wholeB_FB (hT.smalls.1 ps hp)
    split at hx
    · rw [List.mem_singleton.1 hx]
      exact wholeB_FB hT.smalls.2
    cases hx
   have hp:payM (dataD D)=init.flatten++last:=by
    rw [hd]
    split
    · have:init.map FB++[FB last]=(init++[last]).map FB:=by simp
      rw [this,pay_FB (fun ps hps=>by
       rcases List.mem_append.1 hps with h | h
       · exact hT.smalls.1 ps h
       rw [List.mem_singleton.1 h];exact hT.smalls.2)]
      simp
    rename_i ht
    rw [(hT.zero (by omega)).2,List.append_nil,List.append_nil,pay_FB hT.smalls.1]
   simp only [remL,List.map_nil,runD,hc,hp,ne_eq,not_true_eq_false,if_false]
   rw [names_fl,hT.lay.base,hT.lay.tails]
 rw [names_fl,hT.lay.okN,hT.lay.tails,hT.okSeg H.up]
 decide
theorem Torn.opens {D:DK} {b t:Nat} {init:List (List BA)} {last:List BA} {l:BA} {s:Int} (hD:okD D) (hu:D.down=false) (hf:D.fails=none) (H:Torn D.files b t init last l s) (hs:0<t→0≤s∧s≤(l.size:Nat)) :
 ∃ (k:Nat) (D':DK),k≤last.length∧(0<t→(FB (last.take k)).size≤l.size)∧(∀ j,j≤last.length→(0<t→(FB (last.take j)).size≤l.size)→j≤k)∧openD D=(D',0,⟨D.starts,false,b,t⟩,init.flatten++last.take k)∧D'.fails=none∧D'.most=D.most∧D'.keep=D.keep ∧
  ∀ j,j≤k→(0<t→((FB (last.take j)).size:Int)≤s)→Live ⟨D.starts,false,b,t⟩ D' init (last.take k) j:=by
 have hst:=H.lay.stale
 have hnd:(D.files.map (·.n)).Nodup:=rise_nodup H.rise
 obtain ⟨S,hS⟩:∃ S,S=staleM (namesD D):=⟨_,rfl⟩
 have hSm:∀ x,x∈S↔lk D.files x≠none∧staleB b x=true:=fun x=>by
  rw [hS,names_fl,hst,List.mem_filter,mem_names]
 obtain ⟨r1,r2,r3,r4,r5,r6,r7,r8⟩:=rem_all (S:=S) hD hu hf (by rw [hS,names_fl,hst];exact hnd.filter _) (fun x hx=>Option.ne_none_iff_exists'.1 ((hSm x).1 hx).1)
 obtain ⟨D1,hD1⟩:∃ D1,D1=(runD (remL S) D).1:=⟨_,rfl⟩
 rw [←hD1] at r2 r3 r4 r5 r6 r7 r8
 have hseg:∀ x∈segsM b t,lk D1.files x=lk D.files x:=fun x hx=>by
  rw [r8,if_neg]
  intro q
  have:=((hSm x).1 (memB_iff.1 q)).2
  rw [seg_fresh H.lay.few hx] at this
  cases this
 have hbare:∀ x,lk D1.files x≠none→x∈segsM b t:=fun x hx=>by
  rw [r8] at hx
  split at hx
  · exact absurd rfl hx
  rename_i hq
  rcases H.lay.all x (mem_names.2 hx) with h | h
  · exact h
  exact absurd (memB_iff.2 ((hSm x).2 ⟨hx,h⟩)) hq
 have hdat:=H.data hu
 have fin:∀ (k:Nat) (D':DK),k≤last.length→(t=0→k=0)→okD D'→D'.down=false→D'.starts=D.starts→(∃ s':Int,(0<t→lk D'.files (nmB 115 (b+t))=some (FB (last.take k),s')∧∀ j,j≤k→((FB (last.take j)).size:Int)≤s→((FB (last.take j)).size:Int)≤s')) →
  (∀ x∈segsM b t,(0<t→x≠nmB 115 (b+t))→lk D'.files x=lk D.files x)→(∀ x,lk D'.files x≠none→x∈segsM b t)→∀ j,j≤k→(0<t→((FB (last.take j)).size:Int)≤s)→Live ⟨D.starts,false,b,t⟩ D' init (last.take k) j:=by
  intro k D' hk hk0 h1 h2 h3 ⟨s',h4⟩ h5 h6 j hj hjs
  refine ⟨h1,h2,h3,rfl,⟨s',?_,fun ht=>?_⟩,by rw [List.length_take];omega,h6⟩
  · refine H.move h1.rise h5 (fun ht=>(h4 ht).1) (fun x hx=>.inl (h6 x hx)) (fun p hp=>H.smalls.2 p (List.mem_of_mem_take hp)) (fun ht=>⟨.empty,?_⟩) (fun ht=>by rw [hk0 ht];rfl)
    exact ba_eq (by rw [ba_app];simp)
  rw [List.take_take,Nat.min_eq_left hj]
  exact (h4 ht).2 j hj (hjs ht)
 have hinit:∀ x∈init.map FB,wholeB x=true:=fun x hx=>by
  obtain ⟨ps,hp,rfl⟩:=List.mem_map.1 hx
  exact wholeB_FB (H.smalls.1 ps hp)
 have hopen:∀ (k:Nat) (D':DK),payM (dataD D)=init.flatten++last.take k→((cutM (dataD D)=none∧D'=D1)∨∃ z:Nat,cutM (dataD D)=some z∧truncD D1 (endM b t) (z:Nat)=(D',0))→openD D=(D',0,⟨D.starts,false,b,t⟩,init.flatten++last.take k):=by
  intro k D' hp hc
  unfold openD
  rw [hu,if_neg (by decide),if_neg]
  · rw [←hS]
    simp only [r1,ne_eq,not_true_eq_false,if_false]
    rw [←hD1,names_fl,H.lay.base,H.lay.tails,hp]
    rcases hc with ⟨hc,rfl⟩ | ⟨z,hc,hz⟩
    · rw [hc]
    rw [hc]
    simp only [hz]
  rw [names_fl,H.lay.okN,H.lay.tails,H.okSeg hu]
  decide
 rcases Nat.eq_zero_or_pos t with h0 | h0
 · obtain ⟨hf0,hl0⟩:=H.zero h0
   subst hl0
   rw [if_neg (by omega),List.append_nil] at hdat
   refine ⟨0,D1,Nat.zero_le _,fun q=>by omega,fun j hj _=>hj,hopen 0 D1 ?_ (.inl ⟨by rw [hdat];exact cutM_no hinit,rfl⟩),r4,r6,r7,fin 0 D1 (Nat.zero_le _) (fun _=>rfl) r2 r3 r5 ⟨0,fun q=>by omega⟩ (fun x hx _=>hseg x hx) hbare⟩
   rw [hdat,pay_FB H.smalls.1]
   simp
 obtain ⟨hfm,hle,r,hr⟩:=H.more h0
 rw [if_pos h0] at hdat
 obtain ⟨k,hk,hw,hkl,hmax⟩:=whole_torn H.smalls.2 hr
 have hkf:=torn_take hr hkl
 have hpay:payM (dataD D)=init.flatten++last.take k:=by
  rw [hdat]
  unfold payM
  rw [List.flatMap_append]
  have:=pay_FB H.smalls.1
  unfold payM at this
  rw [this]
  simp [hw]
 have hend:endM b t=nmB 115 (b+t):=by unfold endM;rw [if_neg (by omega)]
 have hmemE:nmB 115 (b+t)∈segsM b t:=by rw [segs_succ h0];exact List.mem_append_right _ (List.mem_singleton_self _)
 have hle1:lk D1.files (nmB 115 (b+t))=some (l,s):=by rw [hseg _ hmemE];exact hle
 have hlast:(dataD D).getLast? = some l:=by rw [hdat];simp
 by_cases hz:(FB (last.take k)).size=l.size
 · have hl:l=FB (last.take k):=by rw [←hkf,hz,extract_all]
   refine ⟨k,D1,hk,fun _=>hkl,fun j hj hjl=>hmax j hj (hjl h0),hopen k D1 hpay (.inl ⟨?_,rfl⟩),r4,r6,r7,fin k D1 hk (fun q=>by omega) r2 r3 r5 ⟨s,fun _=>⟨by rw [←hl];exact hle1,fun j _ h=>h⟩⟩ (fun x hx _=>hseg x hx) hbare⟩
   unfold cutM
   rw [hlast]
   simp only
   rw [if_pos]
   unfold wholeB
   rw [hw]
   exact decide_eq_true hz
 have hcut:cutM (dataD D)=some (FB (last.take k)).size:=by
  unfold cutM
  rw [hlast]
  simp only
  rw [if_neg,hw]
  unfold wholeB
  rw [hw]
  simpa using hz
 obtain ⟨hi,he⟩:=lk_at r2.rise hle1
 have htr:truncD D1 (nmB 115 (b+t)) ((FB (last.take k)).size:Nat)=(⟨D1.most,D1.starts,false,setF D1.files (nmB 115 (b+t)) fun f=>⟨f.n,f.d.extract 0 (((FB (last.take k)).size:Nat):Int).toNat,min f.s ((FB (last.take k)).size:Nat)⟩,none,D1.keep⟩,0):=by
  unfold truncD
  rw [r3,if_neg (by decide),lk_has,hle1]
  simp only [Option.isSome_some,if_true]
  rw [getF_eq hi,he,if_neg (by simp only;omega)]
  unfold chg
  rw [r4,r3]
 obtain ⟨D2,hD2⟩:∃ D2,D2=(truncD D1 (nmB 115 (b+t)) ((FB (last.take k)).size:Nat)).1:=⟨_,rfl⟩
 have hok2:okD D2:=by rw [hD2];exact trunc_ok r2 _ _
 rw [htr] at hD2
 have hl2:∀ z,lk D2.files z=if z=nmB 115 (b+t) then some (FB (last.take k),min s ((FB (last.take k)).size:Nat)) else lk D1.files z:=fun z=>by
  rw [hD2]
  simp only
  rw [lk_setF r2.rise hle1 (g:=fun f=>⟨f.n,f.d.extract 0 (((FB (last.take k)).size:Nat):Int).toNat,min f.s ((FB (last.take k)).size:Nat)⟩) (fun _=>rfl)]
  simp only [Int.toNat_natCast,hkf]
 refine ⟨k,D2,hk,fun _=>hkl,fun j hj hjl=>hmax j hj (hjl h0),hopen k D2 hpay (.inr ⟨_,hcut,by rw [hend,htr,hD2]⟩),by rw [hD2],by rw [hD2];exact r6,by rw [hD2];exact r7,fin k D2 hk (fun q=>by omega) hok2 (by rw [hD2]) (by rw [hD2];exact r5) ⟨min s ((FB (last.take k)).size:Nat),fun _=>⟨by rw [hl2,if_pos rfl],fun j hj h=>?_⟩⟩ (fun x hx hne=>by rw [hl2,if_neg (hne h0),hseg x hx]) (fun x hx=>?_)⟩
 · have:=FB_take_mono last hj
   omega
 rw [hl2] at hx
 split at hx
 · rename_i e
   rw [e]
   exact hmemE
 exact hbare x hx
def Logs (W:WK) (D:DK) (have_:List BA) (sure:Nat):Prop:=∃ init last j,Live W D init last j∧init.flatten++last=have_∧sure≤init.flatten.length+j
structure Brk (D:DK) (longer:List BA) (sure:Nat):Prop where
 ok:okD D
 down:D.down=true
 fails:D.fails=none
 torn:∃ b t init last l j,Torn D.files b t init last l (l.size:Nat)∧j≤last.length∧(0<t→(FB (last.take j)).size≤l.size)∧sure≤init.flatten.length+j∧(init.flatten++last) <+: longer
theorem chg_cases {D:DK} (hu:D.down=false) (late:Bool) (L2:List Fl):(∃ fl,(D.fails=none→fl=none)∧chg D late L2=(⟨D.most,D.starts,false,L2,fl,D.keep⟩,0))∨(D.fails≠none∧chg D late L2=(⟨D.most,D.starts,true,crashF (if late then L2 else D.files) D.keep,none,D.keep⟩,41)):=by
 unfold chg
 split
 · exact .inl ⟨none,fun _=>rfl,by rw [hu]⟩
 rename_i q hq
 split
 · exact .inl ⟨some (q-1),fun h=>by (rw [hq] at h;cases h),by rw [hu]⟩
 exact .inr ⟨by rw [hq];simp,rfl⟩
theorem Brk.of {D:DK} {K:List Int} {L:List Fl} {D':DK} (h1:okD D') (h2:D'.down=true) (h3:D'.fails=none) (h4:D'.files=crashF L K) (hL:∀ f∈L,0≤f.s∧f.s≤f.d.size)
 {b t:Nat} {init:List (List BA)} {last:List BA} {s:Int} (H:Torn L b t init last (FB last) s) {j:Nat} (hj:j≤last.length) (hjs:0<t→((FB (last.take j)).size:Int)≤s) {longer:List BA} {sure:Nat} (hs:sure≤init.flatten.length+j) (hp:(init.flatten++last) <+: longer):Brk D' longer sure:=by
 obtain ⟨l',h5,h6⟩:=H.crash hL K
 refine ⟨h1,h2,h3,b,t,init,last,l',j,by rw [h4];exact h5,hj,fun ht=>?_,hs,hp⟩
 have:=h6 ht
 have:=hjs ht
 omega
theorem Live.last {W:WK} {D:DK} {init:List (List BA)} {last:List BA} {j:Nat} (H:Live W D init last j) (ht:0<W.t):∃ s:Int,lk D.files (nmB 115 (W.b+W.t))=some (FB last,s)∧((FB (last.take j)).size:Int)≤s∧s≤(FB last).size∧full D.files (segsM W.b (W.t-1)) init:=by
 obtain ⟨s,hT,hjs⟩:=H.torn
 obtain ⟨h1,h2,_⟩:=hT.more ht
 exact ⟨s,h2,hjs ht,(H.ok.sure _ (lk_mem h2)).2,h1⟩
theorem Live.sync {W:WK} {D:DK} {init:List (List BA)} {last:List BA} {j:Nat} (H:Live W D init last j) (ht:0<W.t) :
 ((syncD D (nmB 115 (W.b+W.t))).2=0∧Live W (syncD D (nmB 115 (W.b+W.t))).1 init last last.length∧(∀ x,(lk (syncD D (nmB 115 (W.b+W.t))).1.files x).map (·.1)=(lk D.files x).map (·.1))∧(D.fails=none→(syncD D (nmB 115 (W.b+W.t))).1.fails=none)) ∨
 (D.fails≠none∧(syncD D (nmB 115 (W.b+W.t))).2=41∧Brk (syncD D (nmB 115 (W.b+W.t))).1 (init.flatten++last) (init.flatten.length+j)):=by
 obtain ⟨s,hT,hjs⟩:=H.torn
 obtain ⟨s0,hl,_,_,hf⟩:=H.last ht
 have hok:=sync_ok H.ok (nmB 115 (W.b+W.t))
 have e:syncD D (nmB 115 (W.b+W.t))=chg D false (setF D.files (nmB 115 (W.b+W.t)) fun f=>⟨f.n,f.d,(f.d.size:Nat)⟩):=by
  unfold syncD
  rw [H.up,if_neg (by decide),lk_has,hl]
  rfl
 rw [e] at hok ⊢
 have hl2:∀ z,lk (setF D.files (nmB 115 (W.b+W.t)) fun f=>⟨f.n,f.d,(f.d.size:Nat)⟩) z=if z=nmB 115 (W.b+W.t) then some (FB last,((FB last).size:Int)) else lk D.files z:=fun z=>lk_setF H.ok.rise hl (g:=fun f=>⟨f.n,f.d,(f.d.size:Nat)⟩) (fun _=>rfl) z
 rcases chg_cases H.up false (setF D.files (nmB 115 (W.b+W.t)) fun f=>⟨f.n,f.d,(f.d.size:Nat)⟩) with ⟨fl,hfl,ec⟩ | ⟨hfn,ec⟩
 · left
   rw [ec] at hok ⊢
   have hb:∀ x,lk (setF D.files (nmB 115 (W.b+W.t)) fun f=>⟨f.n,f.d,(f.d.size:Nat)⟩) x≠none→x∈segsM W.b W.t:=fun x hx=>by
    rw [hl2] at hx
    split at hx
    · rename_i e
      rw [e,segs_succ ht]
      exact List.mem_append_right _ (List.mem_singleton_self _)
    exact H.bare x hx
   refine ⟨rfl,⟨hok,rfl,H.st,H.nb,⟨((FB last).size:Nat),?_,fun _=>by rw [List.take_length];exact Int.le_refl _⟩,Nat.le_refl _,hb⟩,fun x=>?_,hfl⟩
   · refine hT.move hok.rise (fun x _ hne=>by rw [hl2,if_neg (hne ht)]) (fun _=>by rw [hl2,if_pos rfl]) (fun x hx=>.inl (hb x hx)) hT.smalls.2 (fun _=>⟨.empty,ba_eq (by rw [ba_app];simp)⟩) (fun h0=>by omega)
   simp only
   rw [hl2]
   split
   · rename_i e
     rw [e,hl]
     rfl
   rfl
 right
 rw [ec] at hok ⊢
 exact ⟨hfn,rfl,Brk.of (D:=D) hok rfl rfl rfl H.ok.sure hT H.few hjs (Nat.le_refl _) List.prefix_rfl⟩
theorem rem_read1 {D:DK} (hD:okD D) (hu:D.down=false) {x y:BA} (h:(remD D y).2=0) (hxy:x≠y):(remD D y).1.down=false∧(readD (remD D y).1 x).1=(readD D x).1∧namesD (remD D y).1=(namesD D).filter (fun z=>decide (z≠y))∧(remD D y).1.starts=D.starts:=by
 have hs:=hD.rise
 unfold remD at h ⊢
 rw [if_neg (by rw [hu];decide)] at h ⊢
 cases hh:hasF D.files y with
 | false=>rw [hh] at h;simp at h
 |
  true =>
  rw [hh] at h
  rw [if_pos rfl] at h ⊢
  obtain ⟨v,hv⟩:∃ v,lk D.files y=some v:=Option.isSome_iff_exists.1 (by rw [←lk_has];exact hh)
  rcases chg_cases hu false (D.files.eraseIdx (posF D.files y)) with ⟨fl,_,he⟩ | ⟨_,he⟩
  · rw [he]
    refine ⟨rfl,?_,?_,rfl⟩
    · rw [read_lk rfl (rise_erase hs _) x,read_lk hu hs x,lk_erase hs hv,if_neg hxy]
    show (D.files.eraseIdx (posF D.files y)).map nameEG=(D.files.map nameEG).filter _
    obtain ⟨hi,hp⟩:=lk_at hs hv
    rw [erase_at,List.map_append]
    have hc:=cut_at hi
    have hr:riseF (D.files.take (posF D.files y)++D.files[posF D.files y]::D.files.drop (posF D.files y+1)):=by rw [←hc];exact hs
    obtain ⟨n1,n2⟩:=rise_ne hr
    have hn:(D.files[posF D.files y]).n=y:=by rw [hp]
    rw [hn] at n1 n2
    conv=>rhs;rw [hc]
    rw [List.map_append,List.map_cons,List.filter_append,List.filter_cons_of_neg (by simp [nameEG,hn])]
    congr 1
    · refine (List.filter_eq_self.2 fun z hz=>?_).symm
      obtain ⟨f,hf,rfl⟩:=List.mem_map.1 hz
      exact decide_eq_true (n1 f hf)
    refine (List.filter_eq_self.2 fun z hz=>?_).symm
    obtain ⟨f,hf,rfl⟩:=List.mem_map.1 hz
    exact decide_eq_true (n2 f hf)
  rw [he] at h
  cases h
theorem rem_read:∀ {S:List BA} {D:DK},okD D→D.down=false→(runD (remL S) D).2=0→(runD (remL S) D).1.down=false∧(∀ x,x ∉ S→(readD (runD (remL S) D).1 x).1=(readD D x).1)∧(∀ x,x∈namesD (runD (remL S) D).1↔x∈namesD D∧x ∉ S)∧(runD (remL S) D).1.starts=D.starts
 | [],D,_,hu,_=>⟨hu,fun _ _=>rfl,fun x=>by simp [remL,runD],rfl⟩
 |
  y::S,D,hD,hu,h=>by
  have hstep:runD (remL (y::S)) D=if (remD D y).2=0 then runD (remL S) (remD D y).1 else remD D y:=rfl
  rw [hstep] at h ⊢
  by_cases h0:(remD D y).2=0
  · rw [if_pos h0] at h ⊢
    have hy:=rem_read1 hD hu (x:=y++y++⟨#[0]⟩) h0 (fun q=>by have:=congrArg ByteArray.size q;rw [ByteArray.size_append,ByteArray.size_append] at this;have:(⟨#[0]⟩:BA).size=1:=rfl;omega)
    obtain ⟨h1,h2,h3,h4⟩:=rem_read (S:=S) (rem_ok hD y) hy.1 h
    refine ⟨h1,fun x hx=>?_,fun x=>?_,h4.trans hy.2.2.2⟩
    · rw [h2 x (fun q=>hx (List.mem_cons_of_mem _ q)),(rem_read1 hD hu (x:=x) h0 (fun q=>hx (by rw [q];exact List.mem_cons_self))).2.1]
    rw [h3,hy.2.2.1,List.mem_filter,List.mem_cons]
    simp only [decide_eq_true_eq,not_or]
    constructor
    · rintro ⟨⟨a,b⟩,c⟩
      exact ⟨a,b,c⟩
    rintro ⟨a,b,c⟩
    exact ⟨⟨a,b⟩,c⟩
  rw [if_neg h0] at h
  exact absurd h h0
theorem stale_mem {L:List BA} {x:BA} (h:x∈staleM L):okN L=true∧staleB (baseM L) x=true∧x∈L:=by
 unfold staleM at h
 split at h
 · rename_i ho
   obtain ⟨h1,h2⟩:=List.mem_filter.1 h
   exact ⟨ho,h2,h1⟩
 cases h
theorem seg_not_stale {L:List BA} {x:BA} (h:x∈segsM (baseM L) (tailsM L)):x ∉ staleM L:=fun q=>by
 have:=seg_fresh (last_le L) h
 rw [(stale_mem q).2.1] at this
 cases this
theorem lay_of {L:List BA} (h:okN L=true):Lay L (baseM L) (tailsM L):=by
 refine ⟨last_le L,fun x hx=>segs_sub L x hx,fun x hx=>?_⟩
 by_cases hs:staleB (baseM L) x=true
 · exact .inr hs
 left
 have ho:oddB (baseM L) (tailsM L) x=false:=by
  unfold okN at h
  rw [Bool.not_eq_true',List.any_eq_false] at h
  simpa using h x hx
 have hn:=fun q=>(show ¬ oddB (baseM L) (tailsM L) x=true by rw [ho];decide) ((odd_iff (b:=baseM L) (t:=tailsM L) (x:=x)).2 q)
 have hns:=fun q=>hs ((stale_iff (b:=baseM L) (x:=x)).2 q)
 have h1:=base_ge hx
 rw [segs_mem]
 by_cases hc:0<numM 99 x.data.toList
 · left
   obtain ⟨e,_⟩:=name_num (c:=99) rfl hc
   have hb:numM 99 x.data.toList=baseM L:=by
    have:¬ numM 99 x.data.toList<baseM L:=fun q=>hns (.inr (.inl ⟨hc,q⟩))
    omega
   exact ⟨by omega,ba_eq (by rw [nmB_list,←hb];exact e)⟩
 right
 have hs0:0<numM 115 x.data.toList:=by
  rcases Nat.eq_zero_or_pos (numM 115 x.data.toList) with q | q
  · exact absurd ⟨hs,.inl ⟨by omega,q⟩⟩ hn
  exact q
 have hle:numM 115 x.data.toList≤baseM L+tailsM L:=Nat.le_of_not_lt fun q=>hn ⟨hs,.inr q⟩
 have hgt:¬ numM 115 x.data.toList≤baseM L:=fun q=>hns (.inr (.inr ⟨hs0,q⟩))
 obtain ⟨e,_⟩:=name_num (c:=115) rfl hs0
 exact ⟨numM 115 x.data.toList-baseM L-1,by omega,ba_eq (by rw [nmB_list,show baseM L+1+(numM 115 x.data.toList-baseM L-1)=numM 115 x.data.toList by omega];exact e)⟩
theorem row_part {x:BA}:(wholeM x).2=x.size∨((wholeM x).2<x.size∧wholeB x=false):=by
 have:=(whole_len x).2
 rcases Nat.lt_or_ge (wholeM x).2 x.size with h | h
 · exact .inr ⟨h,whole_no h⟩
 exact .inl (by omega)
theorem open_zero {D:DK} (h:(openD D).2.1=0):D.down=false∧okN (namesD D)=true∧okSeg (tailsM (namesD D)) (dataD D)=true∧(runD (remL (staleM (namesD D))) D).2=0 ∧
 ∃ r2:DK × Int,r2=(match cutM (dataD D) with | none=>((runD (remL (staleM (namesD D))) D).1,0) | some z=>truncD (runD (remL (staleM (namesD D))) D).1 (endM (baseM (namesD D)) (tailsM (namesD D))) (z:Nat))∧r2.2=0∧openD D=(r2.1,0,⟨D.starts,false,baseM (namesD D),tailsM (namesD D)⟩,payM (dataD D)):=by
 unfold openD at h ⊢
 split at h
 · simp at h
 rename_i hd
 split at h
 · simp at h
 rename_i ho
 dsimp only at h
 split at h
 · rename_i hr
   exact absurd h hr
 rename_i hr
 rw [not_or] at ho
 refine ⟨by simpa using hd,by simpa using ho.1,by simpa using ho.2,by simpa using hr,_,rfl,h,?_⟩
 rw [if_neg hd,if_neg (by rw [not_or];exact ho)]
 dsimp only
 rw [if_neg hr]
 exact Prod.ext rfl (Prod.ext h rfl)
set_option maxHeartbeats 4000000 in
theorem rOpenG (r:Nat) (D:DK) (hD:okD D) (hu:D.down=false) (ho:okN (namesD D)=true) (hs:okSeg (tailsM (namesD D)) (dataD D)=true) (q0 q2:DK × Int) (hq0:q0=runD (remL (staleM (namesD D))) D) (hq2:q0.2=0→q2=(match cutM (dataD D) with | none=>(q0.1,0) | some z=>truncD q0.1 (endM (baseM (namesD D)) (tailsM (namesD D))) (z:Nat)))
 (ret:Nat × Option Addr × Nat × Option Addr × Nat→Value) (post:Nat × Option Addr × Nat × Option Addr × Nat→List Asn) (g0:q0.2≠0→ret=(fun _=>.tuple #[.pointer none,.slice none 0 0,.int .i64 q0.2])∧post=fun _=>[RefD r q0.1]) (g2:q0.2=0→q2.2≠0→ret=(fun _=>.tuple #[.pointer none,.slice none 0 0,.int .i64 q2.2])∧post=fun _=>[RefD r q2.1])
 (g1:q0.2=0→q2.2=0→ret=(fun (w,_,_,C,e)=>.tuple #[pP w,.slice C (payM (dataD D)).length e,.int .i64 0])∧post=fun (w,A,c,C,e)=>[ptV w r ⟨D.starts,false,baseM (namesD D),tailsM (namesD D)⟩ A c,rowV ⟨D.starts,false,baseM (namesD D),tailsM (namesD D)⟩ A c,RefD r q2.1,Row 9 1 C (payM (dataD D)).length e ((payM (dataD D)).flatMap encS)]) :
 Triple Tryz.prog 63 [pP r] [RefD r D] [] (Nat × Option Addr × Nat × Option Addr × Nat) ret (fun _=>True) post:=by
 obtain ⟨L,hL⟩:∃ L,L=namesD D:=⟨_,rfl⟩
 have hLl:L.length≤16:=by rw [hL];unfold namesD;rw [List.length_map];exact hD.few
 have T1:=rParts r D L hL hD
 unfold ptV rowV at g1
 dsimp only at g1
 unfold dataD at hs hq2 g1
 rw [←hL] at ho hs hq0 hq2 g1
 unfold PB PS PT at T1
 rw [ho] at T1
 have hbt:=last_le L
 have hsf:=segs_few L
 obtain ⟨Sl,hSl⟩:∃ Sl,Sl=staleM L:=⟨_,rfl⟩
 have hsl:Sl.length≤16:=by
  rw [hSl]
  unfold staleM
  rw [ho,if_pos rfl]
  exact Nat.le_trans (List.length_filter_le _ _) hLl
 have hrr:=rem_read (S:=staleM L) hD hu
 have hsn:=fun x=>seg_not_stale (L:=L) (x:=x)
 rw [←hSl] at T1 hq0 hrr hsn
 rw [←hq0] at hrr
 obtain ⟨b,hb⟩:∃ b,b=baseM L:=⟨_,rfl⟩
 obtain ⟨t,ht⟩:∃ t,t=tailsM L:=⟨_,rfl⟩
 rw [←hb,←ht] at hbt hs T1 hq2 hsf hsn g1
 obtain ⟨S,hS⟩:∃ S,S=segsM b t:=⟨_,rfl⟩
 rw [if_pos rfl,if_pos rfl,Bool.true_and] at T1
 rw [←hS] at hs T1 hq2 hsf hsn g1
 have hse:segN b t=S.length:=by rw [hS];rfl
 rw [hse] at g1
 obtain ⟨m,hm⟩:∃ m,m=S.length:=⟨_,rfl⟩
 rw [←hm] at T1 hsf g1
 have hm1:m≤16:=by omega
 obtain ⟨dat,hdat⟩:∃ dat,dat=S.map fun x=>(readD D x).1:=⟨_,rfl⟩
 rw [←hdat] at hs hq2 g1
 have hdl:dat.length=m:=by rw [hdat,List.length_map,hm]
 have hget:∀ i (hi:i<S.length),dat[i]? = some (readD D S[i]).1:=fun i hi=>by rw [hdat,List.getElem?_map,List.getElem?_eq_getElem hi];rfl
 obtain ⟨P,hP⟩:∃ P,P=payM dat:=⟨_,rfl⟩
 rw [←hP] at g1
 have hD1:okD q0.1:=by rw [hq0];exact runD_ok remL_ok hD
 obtain ⟨l,hl⟩:∃ l,l=decide (0<t):=⟨_,rfl⟩
 rw [←hl] at T1 g1
 refine aT Tryz.func63 [vP r] [.fact (RefD r D)] (fun E=>?_) ⟨trivial,trivial⟩
 refine go_fact (Row 9 1 none 0 0 (([]:List ByteArray).flatMap encS)) (Row.nilE _ _) ?_
 refine aG ?_
 have l0:0<([D]).length:=by simp
 refine ev_stop (go_loadE Tryz.tbs_ok (.inr 0) 0 2 rfl rfl rfl rfl (fun _ h=>RefD.peek3 h) (by omega) (fun _=>rfl) (by omega) l0 (by decide) ?_)
 refine aG ?_
 refine aI ?_ (by assumption)
 refine aC T1 [0] [] fun ⟨x1,x2,x3,x4⟩ h5=>?_
 refine aI ?_
 have l6:0<([D]).length:=by simp
 refine ev_stop (go_loadE Tryz.tbs_ok (.inr 0) 0 1 rfl rfl rfl rfl (fun _ h=>RefD.peek3 h) (by omega) (fun _=>rfl) (by omega) l6 (by decide) ?_)
 refine aG ?_
 refine ev_new fun b7=>?_
 refine ev_stop (go_loopR [2,3,4,11,12,13,14,25,27,43,45,46,47,48,49,50,51,52,53,54,55,56,57,58,59,60,61,62,63,64,65,66,67,68,69,70,71,72,73,74,75,76,77,78,79,80,81,82,83] (fun (i,C,z,e,_)=>[(11,vL C z e),(12,vI (i:Nat))]) (fun (_,C,z,e,M)=>[(1,.fact (Row 9 1 C z e (M.flatMap encS)))]) (fun ((i,_,z,_,M):Nat × Option Addr × Nat × Nat × List ByteArray)=>i≤m∧z=M.length∧z≤i*2000000∧M=payM (dat.take i)) (fun (i,_)=>m-i) ((0,none,0,0,[]):Nat × Option Addr × Nat × Nat × List ByteArray) ⟨Nat.zero_le _,rfl,Nat.zero_le _,rfl⟩ aS (fun x_ h_=>?_))
 obtain ⟨i,C,z,e,M⟩:=x_
 obtain ⟨hi,hz,hz2,hM⟩:=h_
 have TD:=fun x=>rData b7 r b x1 m x2 l D.starts false D x hD
 unfold ptU at TD
 rcases Nat.lt_or_ge i m with him | him
 · have hiS:i<S.length:=by omega
   obtain ⟨x,hx⟩:∃ x,x=(readD D S[i]).1:=⟨_,rfl⟩
   have hxs:=read_size hD S[i]
   have hgx:=hget i hiS
   have T6:=TD S[i]
   rw [←hx] at hxs hgx T6
   have T7:=rWhole x (by omega)
   have hwl:=whole_len x
   have hzl:z+(wholeM x).1.length≤(i+1)*2000000:=by rw [Nat.succ_mul];omega
   have hzm:z+(wholeM x).1.length≤100000000:=by have:(i+1)*2000000≤16*2000000:=Nat.mul_le_mul_right _ (by omega);omega
   have hst:=payM_step (dat:=dat) (i:=i) (by omega)
   have hxe:dat[i]'(by omega)=x:=by
    have:=hgx
    rw [List.getElem?_eq_getElem (by omega)] at this
    exact Option.some.inj this
   rw [hxe,←hM] at hst
   have hgo:i+1≤m∧z+(wholeM x).1.length=(M++(wholeM x).1).length∧z+(wholeM x).1.length≤(i+1)*2000000∧M++(wholeM x).1=payM (dat.take (i+1)):=⟨him,by rw [List.length_append,hz],hzl,hst.symm⟩
   rcases row_part (x:=x) with hw | ⟨hw1,hw2⟩
   · refine aG ?_
     refine aJ ?_ (decide_eq_true (show (↑i:Int)<(↑m:Int) from (by omega)))
     refine ev_stop (go_index0 (sz:=1) Tryz.tbs_ok (.inr 2) (i) rfl rfl rfl rfl rfl rfl (by omega) rfl Row.at0 (fun g60 e61=>?_))
     subst e61
     refine aG ?_
     have l62:i<(S).length:=(by omega)
     refine ev_stop (go_loadE Tryz.tbs_ok (.inr 2) (i) 0 rfl rfl rfl rfl (fun _ h=>Row.rd h) (by omega) (fun _=>rfl) (by omega) l62 (by decide) ?_)
     refine aG ?_
     refine aD T6 [4,0] [] (fun v0_=>[.box (b7) 139 [vP r,vI ↑b,vL (some { block:=g60,off:=0:Addr }) m x2,.bq (l),vI D.starts,.bl false],.fact (RefD r D)]) fun _ h63=>?_
     refine aC T7 [] [] fun ⟨x64,x65⟩ h66=>?_
     refine ev_stop (go_atE (sz:=1) Tryz.tbs_ok (i) rfl rfl rfl rfl rfl rfl (by omega) ?_)
     refine aG ?_
     have l67:i<(S).length:=(by omega)
     refine ev_stop (go_loadE Tryz.tbs_ok (.inr 2) (i) 0 rfl rfl rfl rfl (fun _ h=>Row.rd h) (by omega) (fun _=>rfl) (by omega) l67 (by decide) ?_)
     refine aG ?_
     refine aD T6 [4,0] [] (fun v0_=>[.box (b7) 139 [vP r,vI ↑b,vL (some { block:=g60,off:=0:Addr }) m x2,.bq (l),vI D.starts,.bl false],.fact (RefD r D)]) fun _ h68=>?_
     refine aI ?_ (decide_eq_false (show ¬(↑(wholeM x).snd:Int)<(↑x.size:Int) from (by omega)))
     refine ev_stop (go_appendE (sz:=1) (M:=[_]) (enc:=encS) Tryz.tbs_ok [1] [] (.inr 5) (M) ((wholeM x).fst) ((M)++((wholeM x).fst)) (z+(wholeM x).fst.length) rfl rfl rfl rfl rfl rfl rfl (by decide) rfl (by decide) (fun _ p=>starH_one.1 p) rfl (fun _ h=>Row.rd h) (by first | rfl | simp) (by first | rfl | omega) (aM (z+(wholeM x).fst.length)) (aN (z+(wholeM x).fst.length)) (fun _ _=>aL) (fun A69 c70 h71=>?_))
     refine aG ?_
     refine wN (i+1) ?_
     refine ev_fin (round_next ((i+1,A69,z+(wholeM x).fst.length,c70,M++(wholeM x).fst)) (show i+1≤m∧z+(wholeM x).fst.length=(M++(wholeM x).fst).length∧z+(wholeM x).fst.length≤(i+1)*2000000∧M++(wholeM x).fst=payM (List.take (i+1) dat) from (by assumption)) (show m-(i+1)<m-i from (by omega)) aS)
   have hlast:i+1=m∧0<t:=by
    rcases Nat.lt_or_ge (i+1) m with q | q
    · have:=okSeg_no (t:=t) (dat:=dat) (k:=i) (by omega) (by rw [hxe];exact hw2) (.inl (by omega))
      rw [this] at hs
      cases hs
    refine ⟨by omega,Nat.pos_of_ne_zero fun q0=>?_⟩
    have:=okSeg_no (t:=t) (dat:=dat) (k:=i) (by omega) (by rw [hxe];exact hw2) (.inr q0)
    rw [this] at hs
    cases hs
   obtain ⟨hlast1,hlast2⟩:=hlast
   have hlt:l=true:=by rw [hl];exact decide_eq_true hlast2
   refine aG ?_
   refine aJ ?_ (decide_eq_true (show (↑i:Int)<(↑m:Int) from (by omega)))
   refine ev_stop (go_index0 (sz:=1) Tryz.tbs_ok (.inr 2) (i) rfl rfl rfl rfl rfl rfl (by omega) rfl Row.at0 (fun g60 e61=>?_))
   subst e61
   refine aG ?_
   have l62:i<(S).length:=(by omega)
   refine ev_stop (go_loadE Tryz.tbs_ok (.inr 2) (i) 0 rfl rfl rfl rfl (fun _ h=>Row.rd h) (by omega) (fun _=>rfl) (by omega) l62 (by decide) ?_)
   refine aG ?_
   refine aD T6 [4,0] [] (fun v0_=>[.box (b7) 139 [vP r,vI ↑b,vL (some { block:=g60,off:=0:Addr }) m x2,.bq (l),vI D.starts,.bl false],.fact (RefD r D)]) fun _ h63=>?_
   refine aC T7 [] [] fun ⟨x64,x65⟩ h66=>?_
   refine ev_stop (go_atE (sz:=1) Tryz.tbs_ok (i) rfl rfl rfl rfl rfl rfl (by omega) ?_)
   refine aG ?_
   have l67:i<(S).length:=(by omega)
   refine ev_stop (go_loadE Tryz.tbs_ok (.inr 2) (i) 0 rfl rfl rfl rfl (fun _ h=>Row.rd h) (by omega) (fun _=>rfl) (by omega) l67 (by decide) ?_)
   refine aG ?_
   refine aD T6 [4,0] [] (fun v0_=>[.box (b7) 139 [vP r,vI ↑b,vL (some { block:=g60,off:=0:Addr }) m x2,.bq (l),vI D.starts,.bl false],.fact (RefD r D)]) fun _ h68=>?_
   refine aJ ?_ (decide_eq_true (show (↑(wholeM x).snd:Int)<(↑x.size:Int) from (by omega)))
   refine aJ ?_ (by assumption)
   refine wO (m-1) ?_
   refine aI ?_ (ne_no (show (↑i:Int)=(↑(m-1):Int) from (by omega)))
   refine ev_stop (go_appendE (sz:=1) (M:=[_]) (enc:=encS) Tryz.tbs_ok [1] [] (.inr 5) (M) ((wholeM x).fst) ((M)++((wholeM x).fst)) (z+(wholeM x).fst.length) rfl rfl rfl rfl rfl rfl rfl (by decide) rfl (by decide) (fun _ p=>starH_one.1 p) rfl (fun _ h=>Row.rd h) (by first | rfl | simp) (by first | rfl | omega) (aM (z+(wholeM x).fst.length)) (aN (z+(wholeM x).fst.length)) (fun _ _=>aL) (fun A69 c70 h71=>?_))
   refine aG ?_
   refine wN (i+1) ?_
   refine ev_fin (round_next ((i+1,A69,z+(wholeM x).fst.length,c70,M++(wholeM x).fst)) (show i+1≤m∧z+(wholeM x).fst.length=(M++(wholeM x).fst).length∧z+(wholeM x).fst.length≤(i+1)*2000000∧M++(wholeM x).fst=payM (List.take (i+1) dat) from (by assumption)) (show m-(i+1)<m-i from (by omega)) aS)
 obtain rfl:i=m:=by omega
 rw [List.take_of_length_le (by omega),←hP] at hM
 subst hM
 subst hz
 have TC:=(rClean b7 r b x1 i x2 l D.starts false D x3 Sl Sl.length x4 rfl (by omega) hD).ofRow 9 x4
 unfold ptU at TC
 rw [←hq0] at TC
 by_cases hr:q0.2=0
 case neg =>
  obtain ⟨rfl,rfl⟩:=g0 hr
  refine aG ?_
  refine aI ?_ (decide_eq_false (show ¬(↑i:Int)<(↑i:Int) from (by omega)))
  refine ev_fin (go Tryz.tbs_ok 1000 ?_)
  refine aD TC [4,0] [.inr 3] (fun v0_=>[.box (b7) 139 [vP r,vI ↑b,vL x1 i x2,.bq (l),vI D.starts,.bl false],.fact (RefD r q0.fst)]) fun _ h60=>?_
  refine aJ ?_ (ne_yes (by with_reducible assumption))
  refine ev_fin ⟨trivial,_,rfl,(0,none,0,none,0),rfl,trivial,Frm.sel [0] rfl (by decide)⟩
 have hr2:=hq2 hr
 have hrr:=hrr hr
 rw [hr] at TC
 rcases Nat.eq_zero_or_pos t with ht0 | ht0
 · have hlf:l=false:=by rw [hl,ht0];rfl
   have hcut:cutM dat=none:=by
    unfold cutM
    cases hg:dat.getLast? with
    | none=>rfl
    |
     some x =>
     have hx:=List.mem_of_getLast? hg
     have hw:wholeB x=true:=by
      unfold okSeg at hs
      simp only [ht0,Nat.lt_irrefl,decide_false,Bool.false_or,Bool.and_eq_true] at hs
      exact List.all_eq_true.1 hs.2 x hx
     simp only [hw,if_true]
   rw [hcut] at hr2
   obtain ⟨rfl,rfl⟩:=g1 hr (by rw [hr2])
   rw [hr2]
   subst hlf
   refine aG ?_
   refine aI ?_ (decide_eq_false (show ¬(↑i:Int)<(↑i:Int) from (by omega)))
   refine ev_fin (go Tryz.tbs_ok 1000 ?_)
   refine aD TC [4,0] [.inr 3] (fun v0_=>[.box (b7) 139 [vP r,vI ↑b,vL x1 i x2,.bl false,vI D.starts,.bl false],.fact (RefD r q0.fst)]) fun _ h60=>?_
   refine aI (aI ?_)
   exact ev_fin ⟨trivial,_,rfl,((b7,x1,x2,C,e)),rfl,trivial,aF [4,2,0,1]⟩
 have hlt:l=true:=by rw [hl];exact decide_eq_true ht0
 obtain ⟨hli,hla⟩:=seg_lastN (b:=b) ht0
 have hi0:0<i:=by have:=segN_pos (b:=b) ht0;omega
 have hSi:i-1<S.length:=by omega
 have hlas:S[i-1]=nmB 115 (b+t):=by
  have e:S[i-1]? = some (nmB 115 (b+t)):=by rw [hS,show i-1=segN b t-1 by omega,List.getElem?_eq_getElem hli,hla]
  rw [List.getElem?_eq_getElem hSi] at e
  exact Option.some.inj e
 obtain ⟨x,hx⟩:∃ x,x=(readD D S[i-1]).1:=⟨_,rfl⟩
 have hx1:(readD q0.1 S[i-1]).1=x:=by rw [hx];exact hrr.2.1 _ (hsn _ (List.getElem_mem hSi))
 have hgl:dat.getLast? = some x:=by rw [List.getLast?_eq_getElem?,hdl,hget _ hSi,hx]
 have hxs:x.size≤1048576:=by rw [hx];exact read_size hD _
 have TD1:=rData b7 r b x1 i x2 l D.starts false q0.1 S[i-1] hD1
 unfold ptU at TD1
 rw [hx1] at TD1
 have T7:=rWhole x (by omega)
 have hwl:=whole_len x
 subst hlt
 rcases row_part (x:=x) with hw | ⟨hw1,hw2⟩
 · have hcut:cutM dat=none:=by
    unfold cutM
    rw [hgl]
    have:wholeB x=true:=by unfold wholeB;exact decide_eq_true hw
    simp only [this,if_true]
   rw [hcut] at hr2
   obtain ⟨rfl,rfl⟩:=g1 hr (by rw [hr2])
   rw [hr2]
   refine aG ?_
   refine aI ?_ (decide_eq_false (show ¬(↑i:Int)<(↑i:Int) from (by omega)))
   refine ev_fin (go Tryz.tbs_ok 1000 ?_)
   refine aD TC [4,0] [.inr 3] (fun v0_=>[.box (b7) 139 [vP r,vI ↑b,vL x1 i x2,.bl true,vI D.starts,.bl false],.fact (RefD r q0.fst)]) fun _ h60=>?_
   refine aI (aJ ?_)
   refine wO (i-1) ?_
   refine ev_stop (go_index0 (sz:=1) Tryz.tbs_ok (.inr 2) (i-1) rfl rfl rfl rfl rfl rfl (by omega) rfl Row.at0 (fun g61 e62=>?_))
   subst e62
   refine aG ?_
   have l63:i-1<(S).length:=(by omega)
   refine ev_stop (go_loadE Tryz.tbs_ok (.inr 2) (i-1) 0 rfl rfl rfl rfl (fun _ h=>Row.rd h) (by omega) (fun _=>rfl) (by omega) l63 (by decide) ?_)
   refine aG ?_
   refine aD TD1 [4,0] [] (fun v0_=>[.box (b7) 139 [vP r,vI ↑b,vL (some { block:=g61,off:=0:Addr }) i x2,.bl true,vI D.starts,.bl false],.fact (RefD r q0.fst)]) fun _ h64=>?_
   refine aC T7 [] [] fun ⟨x65,x66⟩ h67=>?_
   refine aD TD1 [4,0] [] (fun v0_=>[.box (b7) 139 [vP r,vI ↑b,vL (some { block:=g61,off:=0:Addr }) i x2,.bl true,vI D.starts,.bl false],.fact (RefD r q0.fst)]) fun _ h68=>?_
   refine aI ?_ (decide_eq_false (show ¬(↑(wholeM x).snd:Int)<(↑x.size:Int) from (by omega)))
   exact ev_fin ⟨trivial,_,rfl,((b7,some { block:=g61,off:=0:Addr },x2,C,e)),rfl,trivial,aF [4,2,0,1]⟩
 have hcut:cutM dat=some (wholeM x).2:=by
  unfold cutM
  rw [hgl]
  simp only [hw2,Bool.false_eq_true,if_false]
 rw [hcut] at hr2
 dsimp only at hr2
 rw [show endM b t=S[i-1] by rw [hlas];unfold endM;rw [if_neg (by omega)]] at hr2
 have T9:=qTrunc r q0.1 S[i-1] ((wholeM x).2:Nat) hD1
 rw [←hr2] at T9
 by_cases hr20:q2.2=0
 · obtain ⟨rfl,rfl⟩:=g1 hr hr20
   rw [hr20] at T9
   refine aG ?_
   refine aI ?_ (decide_eq_false (show ¬(↑i:Int)<(↑i:Int) from (by omega)))
   refine ev_fin (go Tryz.tbs_ok 1000 ?_)
   refine aD TC [4,0] [.inr 3] (fun v0_=>[.box (b7) 139 [vP r,vI ↑b,vL x1 i x2,.bl true,vI D.starts,.bl false],.fact (RefD r q0.fst)]) fun _ h60=>?_
   refine aI (aJ ?_)
   refine wO (i-1) ?_
   refine ev_stop (go_index0 (sz:=1) Tryz.tbs_ok (.inr 2) (i-1) rfl rfl rfl rfl rfl rfl (by omega) rfl Row.at0 (fun g61 e62=>?_))
   subst e62
   refine aG ?_
   have l63:i-1<(S).length:=(by omega)
   refine ev_stop (go_loadE Tryz.tbs_ok (.inr 2) (i-1) 0 rfl rfl rfl rfl (fun _ h=>Row.rd h) (by omega) (fun _=>rfl) (by omega) l63 (by decide) ?_)
   refine aG ?_
   refine aD TD1 [4,0] [] (fun v0_=>[.box (b7) 139 [vP r,vI ↑b,vL (some { block:=g61,off:=0:Addr }) i x2,.bl true,vI D.starts,.bl false],.fact (RefD r q0.fst)]) fun _ h64=>?_
   refine aC T7 [] [] fun ⟨x65,x66⟩ h67=>?_
   refine aD TD1 [4,0] [] (fun v0_=>[.box (b7) 139 [vP r,vI ↑b,vL (some { block:=g61,off:=0:Addr }) i x2,.bl true,vI D.starts,.bl false],.fact (RefD r q0.fst)]) fun _ h68=>?_
   refine aJ ?_ (decide_eq_true (show (↑(wholeM x).snd:Int)<(↑x.size:Int) from (by omega)))
   refine aC T9 [0] [] fun _ h69=>?_
   refine aI ?_
   exact ev_fin ⟨trivial,_,rfl,((b7,some { block:=g61,off:=0:Addr },x2,C,e)),rfl,trivial,aF [4,2,0,1]⟩
 obtain ⟨rfl,rfl⟩:=g2 hr hr20
 refine aG ?_
 refine aI ?_ (decide_eq_false (show ¬(↑i:Int)<(↑i:Int) from (by omega)))
 refine ev_fin (go Tryz.tbs_ok 1000 ?_)
 refine aD TC [4,0] [.inr 3] (fun v0_=>[.box (b7) 139 [vP r,vI ↑b,vL x1 i x2,.bl true,vI D.starts,.bl false],.fact (RefD r q0.fst)]) fun _ h60=>?_
 refine aI (aJ ?_)
 refine wO (i-1) ?_
 refine ev_stop (go_index0 (sz:=1) Tryz.tbs_ok (.inr 2) (i-1) rfl rfl rfl rfl rfl rfl (by omega) rfl Row.at0 (fun g61 e62=>?_))
 subst e62
 refine aG ?_
 have l63:i-1<(S).length:=(by omega)
 refine ev_stop (go_loadE Tryz.tbs_ok (.inr 2) (i-1) 0 rfl rfl rfl rfl (fun _ h=>Row.rd h) (by omega) (fun _=>rfl) (by omega) l63 (by decide) ?_)
 refine aG ?_
 refine aD TD1 [4,0] [] (fun v0_=>[.box (b7) 139 [vP r,vI ↑b,vL (some { block:=g61,off:=0:Addr }) i x2,.bl true,vI D.starts,.bl false],.fact (RefD r q0.fst)]) fun _ h64=>?_
 refine aC T7 [] [] fun ⟨x65,x66⟩ h67=>?_
 refine aD TD1 [4,0] [] (fun v0_=>[.box (b7) 139 [vP r,vI ↑b,vL (some { block:=g61,off:=0:Addr }) i x2,.bl true,vI D.starts,.bl false],.fact (RefD r q0.fst)]) fun _ h68=>?_
 refine aJ ?_ (decide_eq_true (show (↑(wholeM x).snd:Int)<(↑x.size:Int) from (by omega)))
 refine aC T9 [0] [] fun _ h69=>?_
 refine aJ ?_ (ne_yes (by with_reducible assumption))
 refine ev_fin ⟨trivial,_,rfl,(0,none,0,none,0),rfl,trivial,Frm.sel [0] rfl (by decide)⟩
set_option maxHeartbeats 4000000 in
theorem rOpenBroke (r:Nat) (D:DK) (hD:okD D) (hu:D.down=false) (ho:okN (namesD D)=true) (hs:okSeg (tailsM (namesD D)) (dataD D)=false):Triple Tryz.prog 63 [pP r] [RefD r D] [] (Nat × Option Addr × Nat × Option Addr × Nat) (fun _=>.tuple #[.pointer none,.slice none 0 0,.int .i64 50]) (fun _=>True) (fun _=>[RefD r D]):=by
 obtain ⟨L,hL⟩:∃ L,L=namesD D:=⟨_,rfl⟩
 have T1:=rParts r D L hL hD
 unfold dataD at hs
 rw [←hL] at ho hs
 unfold PB PS PT at T1
 rw [ho] at T1
 have hbt:=last_le L
 have hsf:=segs_few L
 have hLl:L.length≤16:=by rw [hL];unfold namesD;rw [List.length_map];exact hD.few
 obtain ⟨b,hb⟩:∃ b,b=baseM L:=⟨_,rfl⟩
 obtain ⟨t,ht⟩:∃ t,t=tailsM L:=⟨_,rfl⟩
 rw [←hb,←ht] at hbt hs T1 hsf
 obtain ⟨S,hS⟩:∃ S,S=segsM b t:=⟨_,rfl⟩
 rw [if_pos rfl,if_pos rfl,Bool.true_and] at T1
 rw [←hS] at hs T1 hsf
 obtain ⟨m,hm⟩:∃ m,m=S.length:=⟨_,rfl⟩
 rw [←hm] at T1 hsf
 have hm1:m≤16:=by omega
 obtain ⟨dat,hdat⟩:∃ dat,dat=S.map fun x=>(readD D x).1:=⟨_,rfl⟩
 rw [←hdat] at hs
 have hdl:dat.length=m:=by rw [hdat,List.length_map,hm]
 have hget:∀ i (hi:i<S.length),dat[i]? = some (readD D S[i]).1:=fun i hi=>by rw [hdat,List.getElem?_map,List.getElem?_eq_getElem hi];rfl
 have hbad:¬ okUpto t dat m:=fun q=>by
  rw [←hdl] at q
  rw [okUpto_all q] at hs
  cases hs
 obtain ⟨l,hl⟩:∃ l,l=decide (0<t):=⟨_,rfl⟩
 rw [←hl] at T1
 refine aT Tryz.func63 [vP r] [.fact (RefD r D)] (fun E=>?_) ⟨trivial,trivial⟩
 refine go_fact (Row 9 1 none 0 0 (([]:List ByteArray).flatMap encS)) (Row.nilE _ _) ?_
 refine aG ?_
 have l0:0<([D]).length:=by simp
 refine ev_stop (go_loadE Tryz.tbs_ok (.inr 0) 0 2 rfl rfl rfl rfl (fun _ h=>RefD.peek3 h) (by omega) (fun _=>rfl) (by omega) l0 (by decide) ?_)
 refine aG ?_
 refine aI ?_ (by assumption)
 refine aC T1 [0] [] fun ⟨x1,x2,x3,x4⟩ h5=>?_
 refine aI ?_
 have l6:0<([D]).length:=by simp
 refine ev_stop (go_loadE Tryz.tbs_ok (.inr 0) 0 1 rfl rfl rfl rfl (fun _ h=>RefD.peek3 h) (by omega) (fun _=>rfl) (by omega) l6 (by decide) ?_)
 refine aG ?_
 refine ev_new fun b7=>?_
 refine ev_stop (go_loopR [2,3,4,11,12,13,14,25,27,43,45,46,47,48,49,50,51,52,53,54,55,56,57,58,59,60,61,62,63,64,65,66,67,68,69,70,71,72,73,74,75,76,77,78,79,80,81,82,83] (fun (i,C,z,e,_)=>[(11,vL C z e),(12,vI (i:Nat))]) (fun (_,C,z,e,M)=>[(1,.fact (Row 9 1 C z e (M.flatMap encS)))]) (fun ((i,_,z,_,M):Nat × Option Addr × Nat × Nat × List ByteArray)=>i≤m∧z=M.length∧z≤i*2000000∧okUpto t dat i) (fun (i,_)=>m-i) ((0,none,0,0,[]):Nat × Option Addr × Nat × Nat × List ByteArray) ⟨Nat.zero_le _,rfl,Nat.zero_le _,fun k x hk _=>absurd hk (Nat.not_lt_zero k)⟩ aS (fun x_ h_=>?_))
 obtain ⟨i,C,z,e,M⟩:=x_
 obtain ⟨hi,hz,hz2,hup⟩:=h_
 have TD:=fun x=>rData b7 r b x1 m x2 l D.starts false D x hD
 unfold ptU at TD
 rcases Nat.lt_or_ge i m with him | him
 · have hiS:i<S.length:=by omega
   obtain ⟨x,hx⟩:∃ x,x=(readD D S[i]).1:=⟨_,rfl⟩
   have hxs:=read_size hD S[i]
   have hgx:=hget i hiS
   have T6:=TD S[i]
   rw [←hx] at hxs hgx T6
   have T7:=rWhole x (by omega)
   have hwl:=whole_len x
   have hzl:z+(wholeM x).1.length≤(i+1)*2000000:=by rw [Nat.succ_mul];omega
   have hzm:z+(wholeM x).1.length≤100000000:=by have:(i+1)*2000000≤16*2000000:=Nat.mul_le_mul_right _ (by omega);omega
   rcases row_part (x:=x) with hw | ⟨hw1,hw2⟩
   · have hgo:i+1≤m∧z+(wholeM x).1.length=(M++(wholeM x).1).length∧z+(wholeM x).1.length≤(i+1)*2000000∧okUpto t dat (i+1):=⟨him,by rw [List.length_append,hz],hzl,okUpto_step hup hgx (.inl (by unfold wholeB;exact decide_eq_true hw))⟩
     refine aG ?_
     refine aJ ?_ (decide_eq_true (show (↑i:Int)<(↑m:Int) from (by omega)))
     refine ev_stop (go_index0 (sz:=1) Tryz.tbs_ok (.inr 2) (i) rfl rfl rfl rfl rfl rfl (by omega) rfl Row.at0 (fun g60 e61=>?_))
     subst e61
     refine aG ?_
     have l62:i<(S).length:=(by omega)
     refine ev_stop (go_loadE Tryz.tbs_ok (.inr 2) (i) 0 rfl rfl rfl rfl (fun _ h=>Row.rd h) (by omega) (fun _=>rfl) (by omega) l62 (by decide) ?_)
     refine aG ?_
     refine aD T6 [4,0] [] (fun v0_=>[.box (b7) 139 [vP r,vI ↑b,vL (some { block:=g60,off:=0:Addr }) m x2,.bq (l),vI D.starts,.bl false],.fact (RefD r D)]) fun _ h63=>?_
     refine aC T7 [] [] fun ⟨x64,x65⟩ h66=>?_
     refine ev_stop (go_atE (sz:=1) Tryz.tbs_ok (i) rfl rfl rfl rfl rfl rfl (by omega) ?_)
     refine aG ?_
     have l67:i<(S).length:=(by omega)
     refine ev_stop (go_loadE Tryz.tbs_ok (.inr 2) (i) 0 rfl rfl rfl rfl (fun _ h=>Row.rd h) (by omega) (fun _=>rfl) (by omega) l67 (by decide) ?_)
     refine aG ?_
     refine aD T6 [4,0] [] (fun v0_=>[.box (b7) 139 [vP r,vI ↑b,vL (some { block:=g60,off:=0:Addr }) m x2,.bq (l),vI D.starts,.bl false],.fact (RefD r D)]) fun _ h68=>?_
     refine aI ?_ (decide_eq_false (show ¬(↑(wholeM x).snd:Int)<(↑x.size:Int) from (by omega)))
     refine ev_stop (go_appendE (sz:=1) (M:=[_]) (enc:=encS) Tryz.tbs_ok [1] [] (.inr 5) (M) ((wholeM x).fst) ((M)++((wholeM x).fst)) (z+(wholeM x).fst.length) rfl rfl rfl rfl rfl rfl rfl (by decide) rfl (by decide) (fun _ p=>starH_one.1 p) rfl (fun _ h=>Row.rd h) (by first | rfl | simp) (by first | rfl | omega) (aM (z+(wholeM x).fst.length)) (aN (z+(wholeM x).fst.length)) (fun _ _=>aL) (fun A69 c70 h71=>?_))
     refine aG ?_
     refine wN (i+1) ?_
     refine ev_fin (round_next ((i+1,A69,z+(wholeM x).fst.length,c70,M++(wholeM x).fst)) (show i+1≤m∧z+(wholeM x).fst.length=(M++(wholeM x).fst).length∧z+(wholeM x).fst.length≤(i+1)*2000000∧okUpto t dat (i+1) from (by assumption)) (show m-(i+1)<m-i from (by omega)) aS)
   by_cases hlast:i+1=m∧0<t
   · obtain ⟨hlast1,hlast2⟩:=hlast
     have hgo:i+1≤m∧z+(wholeM x).1.length=(M++(wholeM x).1).length∧z+(wholeM x).1.length≤(i+1)*2000000∧okUpto t dat (i+1):=⟨him,by rw [List.length_append,hz],hzl,okUpto_step hup hgx (.inr ⟨by omega,hlast2⟩)⟩
     have hlt:l=true:=by rw [hl];exact decide_eq_true hlast2
     refine aG ?_
     refine aJ ?_ (decide_eq_true (show (↑i:Int)<(↑m:Int) from (by omega)))
     refine ev_stop (go_index0 (sz:=1) Tryz.tbs_ok (.inr 2) (i) rfl rfl rfl rfl rfl rfl (by omega) rfl Row.at0 (fun g60 e61=>?_))
     subst e61
     refine aG ?_
     have l62:i<(S).length:=(by omega)
     refine ev_stop (go_loadE Tryz.tbs_ok (.inr 2) (i) 0 rfl rfl rfl rfl (fun _ h=>Row.rd h) (by omega) (fun _=>rfl) (by omega) l62 (by decide) ?_)
     refine aG ?_
     refine aD T6 [4,0] [] (fun v0_=>[.box (b7) 139 [vP r,vI ↑b,vL (some { block:=g60,off:=0:Addr }) m x2,.bq (l),vI D.starts,.bl false],.fact (RefD r D)]) fun _ h63=>?_
     refine aC T7 [] [] fun ⟨x64,x65⟩ h66=>?_
     refine ev_stop (go_atE (sz:=1) Tryz.tbs_ok (i) rfl rfl rfl rfl rfl rfl (by omega) ?_)
     refine aG ?_
     have l67:i<(S).length:=(by omega)
     refine ev_stop (go_loadE Tryz.tbs_ok (.inr 2) (i) 0 rfl rfl rfl rfl (fun _ h=>Row.rd h) (by omega) (fun _=>rfl) (by omega) l67 (by decide) ?_)
     refine aG ?_
     refine aD T6 [4,0] [] (fun v0_=>[.box (b7) 139 [vP r,vI ↑b,vL (some { block:=g60,off:=0:Addr }) m x2,.bq (l),vI D.starts,.bl false],.fact (RefD r D)]) fun _ h68=>?_
     refine aJ ?_ (decide_eq_true (show (↑(wholeM x).snd:Int)<(↑x.size:Int) from (by omega)))
     refine aJ ?_ (by assumption)
     refine wO (m-1) ?_
     refine aI ?_ (ne_no (show (↑i:Int)=(↑(m-1):Int) from (by omega)))
     refine ev_stop (go_appendE (sz:=1) (M:=[_]) (enc:=encS) Tryz.tbs_ok [1] [] (.inr 5) (M) ((wholeM x).fst) ((M)++((wholeM x).fst)) (z+(wholeM x).fst.length) rfl rfl rfl rfl rfl rfl rfl (by decide) rfl (by decide) (fun _ p=>starH_one.1 p) rfl (fun _ h=>Row.rd h) (by first | rfl | simp) (by first | rfl | omega) (aM (z+(wholeM x).fst.length)) (aN (z+(wholeM x).fst.length)) (fun _ _=>aL) (fun A69 c70 h71=>?_))
     refine aG ?_
     refine wN (i+1) ?_
     refine ev_fin (round_next ((i+1,A69,z+(wholeM x).fst.length,c70,M++(wholeM x).fst)) (show i+1≤m∧z+(wholeM x).fst.length=(M++(wholeM x).fst).length∧z+(wholeM x).fst.length≤(i+1)*2000000∧okUpto t dat (i+1) from (by assumption)) (show m-(i+1)<m-i from (by omega)) aS)
   rcases Nat.eq_zero_or_pos t with ht0 | ht0
   · have hlf:l=false:=by rw [hl,ht0];rfl
     subst hlf
     refine aG ?_
     refine aJ ?_ (decide_eq_true (show (↑i:Int)<(↑m:Int) from (by omega)))
     refine ev_stop (go_index0 (sz:=1) Tryz.tbs_ok (.inr 2) (i) rfl rfl rfl rfl rfl rfl (by omega) rfl Row.at0 (fun g60 e61=>?_))
     subst e61
     refine aG ?_
     have l62:i<(S).length:=(by omega)
     refine ev_stop (go_loadE Tryz.tbs_ok (.inr 2) (i) 0 rfl rfl rfl rfl (fun _ h=>Row.rd h) (by omega) (fun _=>rfl) (by omega) l62 (by decide) ?_)
     refine aG ?_
     refine aD T6 [4,0] [] (fun v0_=>[.box (b7) 139 [vP r,vI ↑b,vL (some { block:=g60,off:=0:Addr }) m x2,.bl false,vI D.starts,.bl false],.fact (RefD r D)]) fun _ h63=>?_
     refine aC T7 [] [] fun ⟨x64,x65⟩ h66=>?_
     refine ev_stop (go_atE (sz:=1) Tryz.tbs_ok (i) rfl rfl rfl rfl rfl rfl (by omega) ?_)
     refine aG ?_
     have l67:i<(S).length:=(by omega)
     refine ev_stop (go_loadE Tryz.tbs_ok (.inr 2) (i) 0 rfl rfl rfl rfl (fun _ h=>Row.rd h) (by omega) (fun _=>rfl) (by omega) l67 (by decide) ?_)
     refine aG ?_
     refine aD T6 [4,0] [] (fun v0_=>[.box (b7) 139 [vP r,vI ↑b,vL (some { block:=g60,off:=0:Addr }) m x2,.bl false,vI D.starts,.bl false],.fact (RefD r D)]) fun _ h68=>?_
     refine aJ ?_ (decide_eq_true (show (↑(wholeM x).snd:Int)<(↑x.size:Int) from (by omega)))
     refine aI ?_
     refine ev_fin ⟨trivial,_,rfl,(0,none,0,none,0),rfl,trivial,Frm.sel [0] rfl (by decide)⟩
   have hlt:l=true:=by rw [hl];exact decide_eq_true ht0
   have hne:¬ i+1=m:=fun q=>hlast ⟨q,ht0⟩
   subst hlt
   refine aG ?_
   refine aJ ?_ (decide_eq_true (show (↑i:Int)<(↑m:Int) from (by omega)))
   refine ev_stop (go_index0 (sz:=1) Tryz.tbs_ok (.inr 2) (i) rfl rfl rfl rfl rfl rfl (by omega) rfl Row.at0 (fun g60 e61=>?_))
   subst e61
   refine aG ?_
   have l62:i<(S).length:=(by omega)
   refine ev_stop (go_loadE Tryz.tbs_ok (.inr 2) (i) 0 rfl rfl rfl rfl (fun _ h=>Row.rd h) (by omega) (fun _=>rfl) (by omega) l62 (by decide) ?_)
   refine aG ?_
   refine aD T6 [4,0] [] (fun v0_=>[.box (b7) 139 [vP r,vI ↑b,vL (some { block:=g60,off:=0:Addr }) m x2,.bl true,vI D.starts,.bl false],.fact (RefD r D)]) fun _ h63=>?_
   refine aC T7 [] [] fun ⟨x64,x65⟩ h66=>?_
   refine ev_stop (go_atE (sz:=1) Tryz.tbs_ok (i) rfl rfl rfl rfl rfl rfl (by omega) ?_)
   refine aG ?_
   have l67:i<(S).length:=(by omega)
   refine ev_stop (go_loadE Tryz.tbs_ok (.inr 2) (i) 0 rfl rfl rfl rfl (fun _ h=>Row.rd h) (by omega) (fun _=>rfl) (by omega) l67 (by decide) ?_)
   refine aG ?_
   refine aD T6 [4,0] [] (fun v0_=>[.box (b7) 139 [vP r,vI ↑b,vL (some { block:=g60,off:=0:Addr }) m x2,.bl true,vI D.starts,.bl false],.fact (RefD r D)]) fun _ h68=>?_
   refine aJ ?_ (decide_eq_true (show (↑(wholeM x).snd:Int)<(↑x.size:Int) from (by omega)))
   refine aJ ?_
   refine wO (m-1) ?_
   refine aJ ?_ (ne_yes (show ¬(↑i:Int)=(↑(m-1):Int) from (by omega)))
   refine ev_fin ⟨trivial,_,rfl,(0,none,0,none,0),rfl,trivial,Frm.sel [0] rfl (by decide)⟩
 obtain rfl:i=m:=by omega
 exact absurd hup hbad
theorem rOpenOk (r:Nat) (D:DK) (hD:okD D) (h:(openD D).2.1=0):Triple Tryz.prog 63 [pP r] [RefD r D] [] (Nat × Option Addr × Nat × Option Addr × Nat) (fun (w,_,_,C,e)=>.tuple #[pP w,.slice C (openD D).2.2.2.length e,.int .i64 0]) (fun _=>True) (fun (w,A,c,C,e)=>[ptV w r (openD D).2.2.1 A c,rowV (openD D).2.2.1 A c,RefD r (openD D).1,Row 9 1 C (openD D).2.2.2.length e ((openD D).2.2.2.flatMap encS)]):=by
 obtain ⟨hu,ho,hs,hr,r2,hr2,hr20,hop⟩:=open_zero h
 rw [hop]
 exact rOpenG r D hD hu ho hs _ r2 rfl (fun _=>hr2) _ _ (fun q=>absurd hr q) (fun _ q=>absurd hr20 q) (fun _ _=>⟨rfl,rfl⟩)
theorem rOpenErr (r:Nat) (D:DK) (hD:okD D) (h:(openD D).2.1≠0):Triple Tryz.prog 63 [pP r] [RefD r D] [] (Nat × Option Addr × Nat × Option Addr × Nat) (fun _=>.tuple #[.pointer none,.slice none 0 0,.int .i64 (openD D).2.1]) (fun _=>True) (fun _=>[RefD r (openD D).1]):=by
 by_cases hu:D.down=true
 · have e:openD D=(D,41,⟨0,false,0,0⟩,[]):=by unfold openD;rw [if_pos hu]
   rw [e]
   refine aT Tryz.func63 [vP r] [.fact (RefD r D)] (fun E=>?_) ⟨trivial,trivial⟩
   refine aG ?_
   have l0:0<([D]).length:=by simp
   refine ev_stop (go_loadE Tryz.tbs_ok (.inr 0) 0 2 rfl rfl rfl rfl (fun _ h=>RefD.peek3 h) (by omega) (fun _=>rfl) (by omega) l0 (by decide) ?_)
   refine aG ?_
   refine aJ ?_ (by assumption)
   refine ev_fin ⟨trivial,_,rfl,(0,none,0,none,0),rfl,trivial,Frm.sel [0] rfl (by decide)⟩
 by_cases ho:okN (namesD D)=true
 · by_cases hs:okSeg (tailsM (namesD D)) (dataD D)=true
   · have hnb:¬ (okN (namesD D)=false∨okSeg (tailsM (namesD D)) (dataD D)=false):=by rw [ho,hs];simp
     obtain ⟨q0,hq0⟩:∃ q0,q0=runD (remL (staleM (namesD D))) D:=⟨_,rfl⟩
     obtain ⟨q2,hq2⟩:∃ q2,q2=(match cutM (dataD D) with | none=>(q0.1,0) | some z=>truncD q0.1 (endM (baseM (namesD D)) (tailsM (namesD D))) (z:Nat)):=⟨_,rfl⟩
     have e:openD D=if q0.2≠0 then (q0.1,q0.2,⟨0,false,0,0⟩,[]) else (q2.1,q2.2,⟨D.starts,false,baseM (namesD D),tailsM (namesD D)⟩,payM (dataD D)):=by
      subst hq2 hq0
      unfold openD
      rw [if_neg hu,if_neg hnb]
      rfl
     rw [e] at h ⊢
     by_cases hr:q0.2=0
     · rw [if_neg (by simpa using hr)] at h ⊢
       exact rOpenG r D hD (by simpa using hu) ho hs q0 q2 hq0 (fun _=>hq2) _ _ (fun q=>absurd hr q) (fun _ _=>⟨rfl,rfl⟩) (fun _ q=>absurd q h)
     rw [if_pos hr] at h ⊢
     exact rOpenG r D hD (by simpa using hu) ho hs q0 q2 hq0 (fun _=>hq2) _ _ (fun _=>⟨rfl,rfl⟩) (fun q=>absurd q hr) (fun q=>absurd q hr)
   have e:openD D=(D,50,⟨0,false,0,0⟩,[]):=by unfold openD;rw [if_neg hu,if_pos (.inr (by simpa using hs))]
   rw [e]
   exact rOpenBroke r D hD (by simpa using hu) ho (by simpa using hs)
 have e:openD D=(D,50,⟨0,false,0,0⟩,[]):=by unfold openD;rw [if_neg hu,if_pos (.inl (by simpa using ho))]
 have hon:okN (namesD D)=false:=by simpa using ho
 have hst:staleM (namesD D)=[]:=by unfold staleM;rw [if_neg ho]
 rw [e]
 have T1:=rParts r D (namesD D) rfl hD
 unfold PB PS PT at T1
 rw [hon,hst] at T1
 refine aT Tryz.func63 [vP r] [.fact (RefD r D)] (fun E=>?_) ⟨trivial,trivial⟩
 refine aG ?_
 have l0:0<([D]).length:=by simp
 refine ev_stop (go_loadE Tryz.tbs_ok (.inr 0) 0 2 rfl rfl rfl rfl (fun _ h=>RefD.peek3 h) (by omega) (fun _=>rfl) (by omega) l0 (by decide) ?_)
 refine aG ?_
 refine aI ?_ (by simp [*])
 refine aC T1 [0] [] fun ⟨x1,x2,x3,x4⟩ h5=>?_
 refine aJ ?_
 refine ev_fin ⟨trivial,_,rfl,(0,none,0,none,0),rfl,trivial,Frm.sel [0] rfl (by decide)⟩
def RefY (r:Nat) (D:DK) (A:Option Addr) (c:Nat):Asn:=Asn.ex fun x:Int × Option Addr × Nat=>Asn.star (refL r D ⟨A,c,x.1,x.2.1,x.2.2⟩)
theorem RefD.open {r:Nat} {D:DK} (h:Hp) (q:(RefD r D).holds h):∃ x:Option Addr × Nat,(RefY r D x.1 x.2).holds h:=by
 obtain ⟨⟨A,c,lf,B,d⟩,q⟩:=q
 exact ⟨(A,c),(lf,B,d),q⟩
theorem RefY.close {r:Nat} {D:DK} {A:Option Addr} {c:Nat} {h:Hp} (q:(RefY r D A c).holds h):(RefD r D).holds h:=by
 obtain ⟨⟨lf,B,d⟩,q⟩:=q
 exact ⟨⟨A,c,lf,B,d⟩,q⟩
def encH4 (x:DK × Option Addr × Nat):List Value:=[.int .i64 x.1.most,.int .i64 x.1.starts,.bool x.1.down,.slice x.2.1 x.1.files.length x.2.2]
theorem RefY.peek {r:Nat} {D:DK} {A:Option Addr} {c:Nat} {h:Hp} (q:(RefY r D A c).holds h):(Rd 4 (some ⟨r,0,none⟩) 1 ([(D,A,c)].flatMap encH4)).holds h:=by
 obtain ⟨x,q⟩:=q
 obtain ⟨h1,h2,d,a,b,p,q⟩:=star_holds.1 q
 have p1:=Asn.mono _ a p
 refine ⟨rfl,fun v hv=>?_,fun _=>⟨r,0,_,_,_,rfl,p1.1,rfl⟩⟩
 simp only [List.flatMap_cons,List.flatMap_nil,List.append_nil,encH4,List.mem_cons,List.not_mem_nil,or_false] at hv
 rcases hv with rfl | rfl | rfl | rfl<;>rfl
theorem qAppY (r:Nat) (D:DK) (A:Option Addr) (c:Nat) (x y:ByteArray) (hD:okD D) (hy:y.size≤100000000):Triple Tryz.prog 33 [pP r,.string x,.string y] [RefY r D A c] [] Unit (fun _=>.int .i64 (appD D x y).2) (fun _=>True) (fun _=>[RefD r (appD D x y).1]) :=
 (qApp r D x y hD hy).shape (fun h z=>starH_one.2 (RefY.close (starH_one.1 z))) (fun _ h z=>z)
theorem segN_one (b t:Nat):segN b (t+1)=segN b t+1:=by rw [segN_eq,segN_eq];omega
abbrev AppV (w r:Nat) (B:Option Addr) (np cp:Nat) (ps:List ByteArray) (b n c:Nat) (A:Option Addr) (S:List ByteArray) (l:Bool) (s:Int) (bad:Bool) (D:DK) (R:WK × DK × Int):Prop :=
 Triple Tryz.prog 69 [pP w,.slice B np cp] [Pt w 139 [pP r,.int .i64 (b:Nat),.slice A n c,.bool l,.int .i64 s,.bool bad],Row 9 1 A n c (S.flatMap encS),RefD r D] [Rd 1 B np (ps.flatMap encS)] (Option Addr × Nat) (fun _=>.int .i64 R.2.2) (fun _=>True) (fun (A',c')=>[Pt w 139 [pP r,.int .i64 (R.1.b:Nat),.slice A' (segN R.1.b R.1.t) c',.bool (decide (0<R.1.t)),.int .i64 R.1.s,.bool R.1.bad],Row 9 1 A' (segN R.1.b R.1.t) c' ((segsM R.1.b R.1.t).flatMap encS),RefD r R.2.1])
set_option maxHeartbeats 8000000 in
theorem rAppW (w r:Nat) (W:WK) (A:Option Addr) (c:Nat) (D:DK) (B:Option Addr) (ps:List ByteArray) (np cp:Nat) (hp:np=ps.length) (hp1:np≤10000) (hp2:∀ p∈ps,p.size≤900000000) (hD:okD D) (hW:okW W) (ht9:W.t≤1000) :
 Triple Tryz.prog 69 [pP w,.slice B np cp] [ptV w r W A c,rowV W A c,RefD r D] [Rd 1 B np (ps.flatMap encS)] (Option Addr × Nat) (fun _=>.int .i64 (appW W D ps).2.2) (fun _=>True) (fun (A',c')=>[ptV w r (appW W D ps).1 A' c',rowV (appW W D ps).1 A' c',RefD r (appW W D ps).2.1]):=by
 obtain ⟨s,bad,b,t⟩:=W
 replace hW:b+t≤999999999:=hW
 replace ht9:t≤1000:=ht9
 have TF:=rFramed B ps np cp hp hp1 hp2
 obtain ⟨R,hR⟩:∃ R,R=appW ⟨s,bad,b,t⟩ D ps:=⟨_,rfl⟩
 rw [←hR]
 obtain ⟨S,hS⟩:∃ S,S=segsM b t:=⟨_,rfl⟩
 obtain ⟨n,hn⟩:∃ n,n=segN b t:=⟨_,rfl⟩
 obtain ⟨l,hl⟩:∃ l,l=decide (0<t):=⟨_,rfl⟩
 have hnS:n=S.length:=by rw [hn,hS];rfl
 have hse:=segN_eq b t
 rw [←hn] at hse
 have hn9:n≤1001:=by split at hse<;>omega
 have TO:=rOver w r b A n c l s bad D
 have TG:=fun A0:Option Addr=>rGreat w r b t A0 c l s bad hW
 unfold ptU at TO TG
 unfold ptV rowV
 dsimp only
 rw [←hS,←hn,←hl]
 simp only [←hn] at TG
 show AppV w r B np cp ps b n c A S l s bad D R
 unfold AppV
 rcases ask_cases s bad D with h | h
 · rw [show (askW s bad D != 0)=false by rw [h];rfl] at TO
   by_cases hf:(framedM ps).2=0
   · rw [decide_eq_true hf] at TF
     have hF:=framed_size hf
     by_cases hnn:ps=[]
     · subst hnn
       rw [appW_none h] at hR
       subst hR
       have h0:np=0:=hp
       dsimp only
       rw [←hS,←hn,←hl]
       refine aT Tryz.func69 [.pt 0 w 0,vL B np cp] [.box w 139 [vP r,vI (b:Nat),vL A n c,.bq l,vI s,.bq bad],.fact (Row 9 1 A n c (S.flatMap encS)),.fact (RefD r D)] (fun E=>?_) ⟨rfl,trivial,trivial⟩
       refine aG ?_
       refine aD TO [0,2] [] (fun v0_=>[.box (w) 139 [vP r,vI ↑b,vL A n c,.bq (l),vI s,.bq (bad)],.fact (RefD r D)]) fun _ h0=>?_
       refine aI ?_
       refine aC TF [] [.inl 0] fun _ h1=>?_
       refine aI ?_
       refine aJ ?_ (beq_iff_eq.2 (show (↑np:Int)=0 from (by omega)))
       exact ev_fin ⟨trivial,_,rfl,((A,c)),rfl,trivial,aF [0,1,2]⟩
     have hnp:0<np:=by rw [hp];exact List.length_pos_iff.2 hnn
     rw [appW_some h hf hnn] at hR
     obtain ⟨F,hFe⟩:∃ F,F=(framedM ps).1:=⟨_,rfl⟩
     rw [←hFe] at hR hF TF
     have hF2:F.size≤100000000:=by rw [←hp] at hF;omega
     dsimp only at hR
     have TN:=rName2 ⟨#[115]⟩ 115 (b+t+1) rfl (by omega)
     by_cases ht:t=0
     · subst ht
       simp only [Nat.lt_irrefl,if_false,false_and,ne_eq,not_true_eq_false] at hR
       have hlf:l=false:=by rw [hl];rfl
       subst hlf
       by_cases hful:15≤D.files.length∨999999999≤b+0
       · rw [if_pos hful] at hR
         subst hR
         dsimp only
         rw [←hS,←hn,←hl]
         refine aT Tryz.func69 [.pt 0 w 0,vL B np cp] [.box w 139 [vP r,vI (b:Nat),vL A n c,.va (.bool false),vI s,.bq bad],.fact (Row 9 1 A n c (S.flatMap encS)),.fact (RefD r D)] (fun E=>?_) ⟨rfl,trivial,trivial⟩
         refine aG ?_
         refine aD TO [0,2] [] (fun v0_=>[.box (w) 139 [vP r,vI ↑b,vL A n c,.bl false,vI s,.bq (bad)],.fact (RefD r D)]) fun _ h0=>?_
         refine aI ?_
         refine aC TF [] [.inl 0] fun _ h1=>?_
         refine aI ?_
         refine aI ?_ (beq_eq_false_iff_ne.2 (show ¬(↑np:Int)=0 from (by omega)))
         refine ev_stop (go_turn 2 (RefD r D) (fun x:Option Addr × Nat=>RefY r D x.1 x.2) rfl RefD.open (fun ⟨A1,c1⟩=>?_))
         refine aG ?_
         by_cases h15:15≤D.files.length
         · have hz15:15≤([((D,A1,c1):DK × Option Addr × Nat)][0]'(Nat.one_pos)).1.files.length:=h15
           refine ev_stop (go_draw Tryz.tbs_ok true [0] [(0,true),(1,true),(2,true),(3,true),(4,true),(5,true),(6,true),(7,true),(8,true),(9,true),(10,true),(11,true),(12,true),(13,true),(14,true),(15,true),(16,true),(17,true),(18,false),(19,false),(20,false),(21,false)] rfl ?_)
           refine aG (aE (aE (aE (aE (aE ?_)))))
           have l30:0<([(D,A1,c1)]).length:=by simp
           refine ev_stop (go_loadE Tryz.tbs_ok (.inr 2) 0 3 rfl rfl rfl rfl (fun _ h=>RefY.peek h) (by omega) (fun _=>rfl) (by omega) l30 (by decide) ?_)
           refine aG ?_
           refine aJ ?_ (decide_eq_true (show (↑[(D,A1,c1)][0].fst.files.length:Int) ≥ 15 from (by omega)))
           refine ev_fin ⟨trivial,_,rfl,(A,c),rfl,trivial,Frm.imp (M:=[_,_,RefY r D A1 c1]) [0,1,2] rfl (by decide) (fun h q=>starH_tail (fun h q=>starH_tail (fun h q=>starH_one.2 (RefY.close (starH_one.1 q))) q) q)⟩
         have h99:999999999≤b+0:=by omega
         have hz15:¬ 15≤([((D,A1,c1):DK × Option Addr × Nat)][0]'(Nat.one_pos)).1.files.length:=h15
         refine ev_stop (go_draw Tryz.tbs_ok true [0] [(0,true),(1,true),(2,true),(3,true),(4,true),(5,true),(6,true),(7,true),(8,true),(9,true),(10,true),(11,true),(12,true),(13,true),(14,true),(15,true),(16,true),(17,true),(18,false),(19,false),(20,false),(21,false)] rfl ?_)
         refine aG (aE (aE (aE (aE (aE ?_)))))
         have l30:0<([(D,A1,c1)]).length:=by simp
         refine ev_stop (go_loadE Tryz.tbs_ok (.inr 2) 0 3 rfl rfl rfl rfl (fun _ h=>RefY.peek h) (by omega) (fun _=>rfl) (by omega) l30 (by decide) ?_)
         refine aG ?_
         refine aI ?_ (decide_eq_false (show ¬(↑[(D,A1,c1)][0].fst.files.length:Int) ≥ 15 from (by omega)))
         refine aD (TG (A)) [0] [] (fun v0_=>[.box (w) 139 [vP r,vI ↑b,vL A n c,.bl false,vI s,.bq (bad)]]) fun _ h31=>?_
         refine aJ ?_ (decide_eq_true (show (↑(b+0):Int) ≥ 999999999 from (by omega)))
         refine ev_fin ⟨trivial,_,rfl,(A,c),rfl,trivial,Frm.imp (M:=[_,_,RefY r D A1 c1]) [0,1,2] rfl (by decide) (fun h q=>starH_tail (fun h q=>starH_tail (fun h q=>starH_one.2 (RefY.close (starH_one.1 q))) q) q)⟩
       rw [if_neg hful] at hR
       have h15:¬ 15≤D.files.length:=fun q=>hful (.inl q)
       have h99:¬ 999999999≤b+0:=fun q=>hful (.inr q)
       obtain ⟨G,hG⟩:∃ G,G=appD D (nmB 115 (b+0+1)) F:=⟨_,rfl⟩
       have TQ:=fun A1 c1=>qAppY r D A1 c1 (nmB 115 (b+0+1)) F hD hF2
       have TT:=rTold w r b A n c false s bad G.2
       unfold ptU at TT
       obtain ⟨bd,hbd⟩:∃ bd,bd=(bad || badE G.2):=⟨_,rfl⟩
       rw [←hG] at TQ hR
       rw [←hbd] at TT hR
       have TN:=TN (by omega)
       by_cases hg:G.2=0
       · rw [hg] at TQ TT hR
         rw [if_pos rfl] at hR
         subst hR
         dsimp only
         rw [segN_one,segsM_one,←hS,←hn,show decide (0<0+1)=true from decide_eq_true (Nat.succ_pos _)]
         refine aT Tryz.func69 [.pt 0 w 0,vL B np cp] [.box w 139 [vP r,vI (b:Nat),vL A n c,.va (.bool false),vI s,.bq bad],.fact (Row 9 1 A n c (S.flatMap encS)),.fact (RefD r D)] (fun E=>?_) ⟨rfl,trivial,trivial⟩
         refine aG ?_
         refine aD TO [0,2] [] (fun v0_=>[.box (w) 139 [vP r,vI ↑b,vL A n c,.bl false,vI s,.bq (bad)],.fact (RefD r D)]) fun _ h0=>?_
         refine aI ?_
         refine aC TF [] [.inl 0] fun _ h1=>?_
         refine aI ?_
         refine aI ?_ (beq_eq_false_iff_ne.2 (show ¬(↑np:Int)=0 from (by omega)))
         refine ev_stop (go_turn 2 (RefD r D) (fun x:Option Addr × Nat=>RefY r D x.1 x.2) rfl RefD.open (fun ⟨A1,c1⟩=>?_))
         refine aG ?_
         have hz15:¬ 15≤([((D,A1,c1):DK × Option Addr × Nat)][0]'(Nat.one_pos)).1.files.length:=h15
         refine ev_stop (go_draw Tryz.tbs_ok true [0] [(0,true),(1,true),(2,true),(3,true),(4,true),(5,true),(6,true),(7,true),(8,true),(9,true),(10,true),(11,true),(12,true),(13,true),(14,true),(15,true),(16,true),(17,true),(18,false),(19,false),(20,false),(21,false)] rfl ?_)
         refine aG (aE (aE (aE (aE (aE ?_)))))
         have l30:0<([(D,A1,c1)]).length:=by simp
         refine ev_stop (go_loadE Tryz.tbs_ok (.inr 2) 0 3 rfl rfl rfl rfl (fun _ h=>RefY.peek h) (by omega) (fun _=>rfl) (by omega) l30 (by decide) ?_)
         refine aG ?_
         refine aI ?_ (decide_eq_false (show ¬(↑[(D,A1,c1)][0].fst.files.length:Int) ≥ 15 from (by omega)))
         refine aD (TG (A)) [0] [] (fun v0_=>[.box (w) 139 [vP r,vI ↑b,vL A n c,.bl false,vI s,.bq (bad)]]) fun _ h31=>?_
         refine aI ?_ (decide_eq_false (show ¬(↑(b+0):Int) ≥ 999999999 from (by omega)))
         refine aD (TG (A)) [0] [] (fun v0_=>[.box (w) 139 [vP r,vI ↑b,vL A n c,.bl false,vI s,.bq (bad)]]) fun _ h32=>?_
         refine wN (b+0+1) ?_
         refine aC TN [] [] fun _ h33=>?_
         refine aC (TQ (A1) (c1)) [2] [] fun _ h34=>?_
         refine aD TT [0] [] (fun v0_=>[.box (w) 139 [vP r,vI ↑b,vL A n c,.bl false,vI s,.bq (bd)]]) fun _ h35=>?_
         refine aJ ?_
         refine ev_new fun b36=>?_
         refine ev_stop (go_appendE (sz:=1) (M:=[_]) (enc:=encS) Tryz.tbs_ok [1] [] (.inr 3) (S) ([nmB 115 (b+0+1)]) ((S)++([nmB 115 (b+0+1)])) (n+1) rfl rfl rfl rfl rfl rfl rfl (by decide) rfl (by decide) (fun _ p=>starH_one.1 p) rfl (fun _ p=>Pt.rd p rfl) (by first | rfl | simp) (by first | rfl | omega) (aM (n+1)) (aN (n+1)) (fun _ _=>aL) (fun A37 c38 h39=>?_))
         refine aG ?_
         exact ev_fin ⟨trivial,_,rfl,((A37,c38)),rfl,trivial,aF [0,1,2]⟩
       rw [if_neg hg] at hR
       subst hR
       dsimp only
       rw [←hS,←hn,←hl]
       refine aT Tryz.func69 [.pt 0 w 0,vL B np cp] [.box w 139 [vP r,vI (b:Nat),vL A n c,.va (.bool false),vI s,.bq bad],.fact (Row 9 1 A n c (S.flatMap encS)),.fact (RefD r D)] (fun E=>?_) ⟨rfl,trivial,trivial⟩
       refine aG ?_
       refine aD TO [0,2] [] (fun v0_=>[.box (w) 139 [vP r,vI ↑b,vL A n c,.bl false,vI s,.bq (bad)],.fact (RefD r D)]) fun _ h0=>?_
       refine aI ?_
       refine aC TF [] [.inl 0] fun _ h1=>?_
       refine aI ?_
       refine aI ?_ (beq_eq_false_iff_ne.2 (show ¬(↑np:Int)=0 from (by omega)))
       refine ev_stop (go_turn 2 (RefD r D) (fun x:Option Addr × Nat=>RefY r D x.1 x.2) rfl RefD.open (fun ⟨A1,c1⟩=>?_))
       refine aG ?_
       have hz15:¬ 15≤([((D,A1,c1):DK × Option Addr × Nat)][0]'(Nat.one_pos)).1.files.length:=h15
       refine ev_stop (go_draw Tryz.tbs_ok true [0] [(0,true),(1,true),(2,true),(3,true),(4,true),(5,true),(6,true),(7,true),(8,true),(9,true),(10,true),(11,true),(12,true),(13,true),(14,true),(15,true),(16,true),(17,true),(18,false),(19,false),(20,false),(21,false)] rfl ?_)
       refine aG (aE (aE (aE (aE (aE ?_)))))
       have l30:0<([(D,A1,c1)]).length:=by simp
       refine ev_stop (go_loadE Tryz.tbs_ok (.inr 2) 0 3 rfl rfl rfl rfl (fun _ h=>RefY.peek h) (by omega) (fun _=>rfl) (by omega) l30 (by decide) ?_)
       refine aG ?_
       refine aI ?_ (decide_eq_false (show ¬(↑[(D,A1,c1)][0].fst.files.length:Int) ≥ 15 from (by omega)))
       refine aD (TG (A)) [0] [] (fun v0_=>[.box (w) 139 [vP r,vI ↑b,vL A n c,.bl false,vI s,.bq (bad)]]) fun _ h31=>?_
       refine aI ?_ (decide_eq_false (show ¬(↑(b+0):Int) ≥ 999999999 from (by omega)))
       refine aD (TG (A)) [0] [] (fun v0_=>[.box (w) 139 [vP r,vI ↑b,vL A n c,.bl false,vI s,.bq (bad)]]) fun _ h32=>?_
       refine wN (b+0+1) ?_
       refine aC TN [] [] fun _ h33=>?_
       refine aC (TQ (A1) (c1)) [2] [] fun _ h34=>?_
       refine aD TT [0] [] (fun v0_=>[.box (w) 139 [vP r,vI ↑b,vL A n c,.bl false,vI s,.bq (bd)]]) fun _ h35=>?_
       refine aI ?_ (beq_eq_false_iff_ne.2 (by with_reducible assumption))
       exact ev_fin ⟨trivial,_,rfl,((A,c)),rfl,trivial,aF [0,1,2]⟩
     have ht0:0<t:=by omega
     obtain ⟨hli,hla0⟩:=seg_lastN (b:=b) ht0
     have hn0:0<n:=by rw [hn];exact segN_pos ht0
     have hni:n-1<S.length:=by omega
     have hla:S[n-1]=nmB 115 (b+t):=by
      have e:S[n-1]? = some (nmB 115 (b+t)):=by rw [hS,show n-1=segN b t-1 by omega,List.getElem?_eq_getElem hli,hla0]
      rw [List.getElem?_eq_getElem hni] at e
      exact Option.some.inj e
     have hlf:l=true:=by rw [hl];exact decide_eq_true ht0
     subst hlf
     have TD:=rData w r b A n c true s bad D S[n-1] hD
     unfold ptU at TD
     rw [←hla] at hR
     obtain ⟨x,hx⟩:∃ x,x=(readD D S[n-1]).1:=⟨_,rfl⟩
     have hxs:x.size≤1048576:=by rw [hx];exact read_size hD _
     rw [←hx] at TD hR
     by_cases hz2:x.size<16384
     · rw [if_pos ⟨ht0,hz2⟩] at hR
       obtain ⟨G,hG⟩:∃ G,G=appD D S[n-1] F:=⟨_,rfl⟩
       have T9:=qApp r D S[n-1] F hD hF2
       have TT:=fun A0=>rTold w r b A0 n c true s bad G.2
       unfold ptU at TT
       obtain ⟨bd,hbd⟩:∃ bd,bd=(bad || badE G.2):=⟨_,rfl⟩
       rw [←hG] at T9 hR
       rw [←hbd] at TT hR
       subst hR
       dsimp only
       rw [←hS,←hn,←hl]
       refine aT Tryz.func69 [.pt 0 w 0,vL B np cp] [.box w 139 [vP r,vI (b:Nat),vL A n c,.va (.bool true),vI s,.bq bad],.fact (Row 9 1 A n c (S.flatMap encS)),.fact (RefD r D)] (fun E=>?_) ⟨rfl,trivial,trivial⟩
       refine aG ?_
       refine aD TO [0,2] [] (fun v0_=>[.box (w) 139 [vP r,vI ↑b,vL A n c,.bl true,vI s,.bq (bad)],.fact (RefD r D)]) fun _ h0=>?_
       refine aI ?_
       refine aC TF [] [.inl 0] fun _ h1=>?_
       refine aI ?_
       refine aI ?_ (beq_eq_false_iff_ne.2 (show ¬(↑np:Int)=0 from (by omega)))
       refine ev_stop (go_draw Tryz.tbs_ok true [0,1] [(0,true),(1,true),(2,true),(3,true),(4,true),(5,true),(6,true),(7,true),(8,true),(9,true),(10,true),(11,true),(12,true),(13,true),(14,true),(15,true),(16,true),(17,true),(18,false),(19,false),(20,false),(21,false)] rfl ?_)
       refine aG (aE ?_)
       refine wO (n-1) ?_
       refine ev_stop (tk_index0 (sz:=1) Tryz.tbs_ok (.inr 1) (n-1) aB rfl rfl rfl rfl rfl rfl rfl (by omega) rfl Row.at0 (fun g2 e3=>?_))
       subst e3
       refine aG (aE ?_)
       have l4:n-1<(S).length:=(by omega)
       refine ev_stop (tk_loadE Tryz.tbs_ok (.inr 1) (n-1) 0 aB rfl rfl rfl rfl rfl (fun _ h=>Row.rd h) (by omega) (fun _=>rfl) (by omega) l4 (by decide) ?_)
       refine aG (aE ?_)
       refine aD TD [0,2] [] (fun v0_=>[.box (w) 139 [vP r,vI ↑b,vL (some { block:=g2,off:=0:Addr }) n c,.bl true,vI s,.bq (bad)],.fact (RefD r D)]) fun _ h5=>?_
       refine aE (aE (aE (aE ?_)))
       refine aJ ?_ (decide_eq_true (show (↑x.size:Int)<16384 from (by omega)))
       refine ev_stop (go_joinR [4,12,14,44,45,46,47,48,49,50,51,52,53,54,55,56,57,58,59,60,61,62,63] (fun _=>[(4,vI G.2)]) (fun A0:Option Addr=>[(0,.box w 139 [vP r,vI (b:Nat),vL A0 n c,.bl true,vI s,.bq bd]),(1,.fact (Row 9 1 A0 n c (S.flatMap encS))),(2,.fact (RefD r G.1))]) (fun _=>True) ?_ (fun x_ h_=>?_))
       · refine aG ?_
         refine ev_stop (go_draw Tryz.tbs_ok false [1] [(0,true),(1,true),(2,true),(3,true),(5,true),(6,true),(7,true),(9,true),(10,true),(11,true),(17,true),(99,false),(0,true),(0,true),(0,true),(0,true),(0,true),(0,true),(0,true),(0,true),(0,true)] rfl ?_)
         refine aG (aE ?_)
         refine ev_stop (go_fork3 4 8 12 [(99,false),(0,true),(0,true),(0,true),(0,true),(0,true),(0,true),(0,true),(0,true)] [(99,false),(0,true),(0,true),(0,true),(0,true),(0,true),(0,true),(0,true),(0,true)] [(13,true),(14,true),(99,false),(0,true),(0,true),(0,true),(0,true),(0,true),(0,true)] _ _ _ ⟨aL,rfl⟩ (by kernel_rfl) rfl rfl rfl rfl rfl rfl ?_ ?_ ?_)
         refine aG (aE ?_)
         refine ev_stop (go_fork 8 12 [(12,false),(13,false),(14,false),(15,false),(16,false),(18,false),(19,false),(20,false)] [(13,true),(14,true),(8,false),(15,false),(16,false),(18,false),(19,false),(20,false)] _ _ ⟨aL,rfl⟩ (by kernel_rfl) rfl rfl rfl rfl ?_ ?_)
         refine aG (aE (aE (aE ?_)))
         refine wO (n-1) ?_
         refine aE ?_
         refine ev_stop (go_atE (sz:=1) Tryz.tbs_ok (n-1) rfl rfl rfl rfl rfl rfl (by omega) ?_)
         refine aG (aE ?_)
         have l30:n-1<(S).length:=(by omega)
         refine ev_stop (go_loadE Tryz.tbs_ok (.inr 1) (n-1) 0 rfl rfl rfl rfl (fun _ h=>Row.rd h) (by omega) (fun _=>rfl) (by omega) l30 (by decide) ?_)
         refine aG (aE ?_)
         refine aC T9 [2] [] fun _ h31=>?_
         refine aE ?_
         refine aD (TT (some { block:=g2,off:=0:Addr })) [0] [] (fun v0_=>[.box (w) 139 [vP r,vI ↑b,vL (some { block:=g2,off:=0:Addr }) n c,.bl true,vI s,.bq (bd)]]) fun _ h32=>?_
         refine aE (aK ?_)
         refine ev_fin (join_next (some { block:=g2,off:=0:Addr }) (show True from (by assumption))  aS)
         refine aG (aE ?_)
         refine wO (n-1) ?_
         refine aE ?_
         refine ev_stop (go_atE (sz:=1) Tryz.tbs_ok (n-1) rfl rfl rfl rfl rfl rfl (by omega) ?_)
         refine aG (aE ?_)
         have l33:n-1<(S).length:=(by omega)
         refine ev_stop (go_loadE Tryz.tbs_ok (.inr 1) (n-1) 0 rfl rfl rfl rfl (fun _ h=>Row.rd h) (by omega) (fun _=>rfl) (by omega) l33 (by decide) ?_)
         refine aG (aE ?_)
         refine aC T9 [2] [] fun _ h34=>?_
         refine aE ?_
         refine aD (TT (some { block:=g2,off:=0:Addr })) [0] [] (fun v0_=>[.box (w) 139 [vP r,vI ↑b,vL (some { block:=g2,off:=0:Addr }) n c,.bl true,vI s,.bq (bd)]]) fun _ h35=>?_
         refine aE (aK ?_)
         refine ev_fin (join_next (some { block:=g2,off:=0:Addr }) (show True from (by assumption))  aS)
         refine aG (aE ?_)
         refine ev_stop (go_fork 4 12 [(12,false),(13,false),(14,false),(15,false),(16,false),(18,false),(19,false),(20,false)] [(13,true),(14,true),(15,true),(16,true),(4,false),(18,false),(19,false),(20,false)] _ _ ⟨aL,rfl⟩ (by kernel_rfl) rfl rfl rfl rfl ?_ ?_)
         refine aG (aE (aE (aE ?_)))
         refine wO (n-1) ?_
         refine aE ?_
         refine ev_stop (go_atE (sz:=1) Tryz.tbs_ok (n-1) rfl rfl rfl rfl rfl rfl (by omega) ?_)
         refine aG (aE ?_)
         have l36:n-1<(S).length:=(by omega)
         refine ev_stop (go_loadE Tryz.tbs_ok (.inr 1) (n-1) 0 rfl rfl rfl rfl (fun _ h=>Row.rd h) (by omega) (fun _=>rfl) (by omega) l36 (by decide) ?_)
         refine aG (aE ?_)
         refine aC T9 [2] [] fun _ h37=>?_
         refine aE ?_
         refine aD (TT (some { block:=g2,off:=0:Addr })) [0] [] (fun v0_=>[.box (w) 139 [vP r,vI ↑b,vL (some { block:=g2,off:=0:Addr }) n c,.bl true,vI s,.bq (bd)]]) fun _ h38=>?_
         refine aE (aK ?_)
         refine ev_fin (join_next (some { block:=g2,off:=0:Addr }) (show True from (by assumption))  aS)
         refine aG (aE ?_)
         refine wO (n-1) ?_
         refine ev_stop (tk_atE (sz:=1) Tryz.tbs_ok (n-1) aB rfl rfl rfl rfl rfl rfl rfl (by omega) ?_)
         refine aG (aE ?_)
         have l39:n-1<(S).length:=(by omega)
         refine ev_stop (tk_loadE Tryz.tbs_ok (.inr 0) (n-1) 0 aB rfl rfl rfl rfl rfl (fun _ h=>Row.rd h) (by omega) (fun _=>rfl) (by omega) l39 (by decide) ?_)
         refine aG (aE (aE ?_))
         refine aC T9 [2] [] fun _ h40=>?_
         refine aE ?_
         refine aD (TT (some { block:=g2,off:=0:Addr })) [0] [] (fun v0_=>[.box (w) 139 [vP r,vI ↑b,vL (some { block:=g2,off:=0:Addr }) n c,.bl true,vI s,.bq (bd)]]) fun _ h41=>?_
         refine aE (aK ?_)
         refine ev_fin (join_next (some { block:=g2,off:=0:Addr }) (show True from (by assumption))  aS)
         refine aG (aE ?_)
         refine wO (n-1) ?_
         refine ev_stop (go_fork 4 8 [(8,false),(15,false),(16,false),(18,false),(19,false),(20,false)] [(15,true),(16,true),(4,false),(18,false),(19,false),(20,false)] _ _ ⟨aL,rfl⟩ (by kernel_rfl) rfl rfl rfl rfl ?_ ?_)
         refine aG (aE (aE ?_))
         refine ev_stop (go_atE (sz:=1) Tryz.tbs_ok (n-1) rfl rfl rfl rfl rfl rfl (by omega) ?_)
         refine aG (aE ?_)
         have l42:n-1<(S).length:=(by omega)
         refine ev_stop (go_loadE Tryz.tbs_ok (.inr 1) (n-1) 0 rfl rfl rfl rfl (fun _ h=>Row.rd h) (by omega) (fun _=>rfl) (by omega) l42 (by decide) ?_)
         refine aG (aE ?_)
         refine aC T9 [2] [] fun _ h43=>?_
         refine aE ?_
         refine aD (TT (some { block:=g2,off:=0:Addr })) [0] [] (fun v0_=>[.box (w) 139 [vP r,vI ↑b,vL (some { block:=g2,off:=0:Addr }) n c,.bl true,vI s,.bq (bd)]]) fun _ h44=>?_
         refine aE (aK ?_)
         refine ev_fin (join_next (some { block:=g2,off:=0:Addr }) (show True from (by assumption))  aS)
         refine aG (aE ?_)
         refine ev_stop (tk_atE (sz:=1) Tryz.tbs_ok (n-1) aB rfl rfl rfl rfl rfl rfl rfl (by omega) ?_)
         refine aG (aE ?_)
         have l45:n-1<(S).length:=(by omega)
         refine ev_stop (tk_loadE Tryz.tbs_ok (.inr 0) (n-1) 0 aB rfl rfl rfl rfl rfl (fun _ h=>Row.rd h) (by omega) (fun _=>rfl) (by omega) l45 (by decide) ?_)
         refine aG (aE (aE ?_))
         refine aC T9 [2] [] fun _ h46=>?_
         refine aE ?_
         refine aD (TT (some { block:=g2,off:=0:Addr })) [0] [] (fun v0_=>[.box (w) 139 [vP r,vI ↑b,vL (some { block:=g2,off:=0:Addr }) n c,.bl true,vI s,.bq (bd)]]) fun _ h47=>?_
         refine aE (aK ?_)
         refine ev_fin (join_next (some { block:=g2,off:=0:Addr }) (show True from (by assumption))  aS)
       refine aG ?_
       exact ev_fin ⟨trivial,_,rfl,((x_,c)),rfl,trivial,aF [0,1,2]⟩
     rw [if_neg (fun q=>hz2 q.2),if_pos ht0] at hR
     obtain ⟨G1,hG1⟩:∃ G1,G1=syncD D S[n-1]:=⟨_,rfl⟩
     have T9:=qSync r D S[n-1] hD
     have TT1:=fun A0=>rTold w r b A0 n c true s bad G1.2
     unfold ptU at TT1
     have hD1:okD G1.1:=by rw [hG1];exact sync_ok hD _
     rw [←hG1] at T9 hR
     obtain ⟨bd,hbd⟩:∃ bd,bd=(bad || badE G1.2):=⟨_,rfl⟩
     rw [←hbd] at TT1 hR
     refine aT Tryz.func69 [.pt 0 w 0,vL B np cp] [.box w 139 [vP r,vI (b:Nat),vL A n c,.va (.bool true),vI s,.bq bad],.fact (Row 9 1 A n c (S.flatMap encS)),.fact (RefD r D)] (fun E=>?_) ⟨rfl,trivial,trivial⟩
     refine aG ?_
     refine aD TO [0,2] [] (fun v0_=>[.box (w) 139 [vP r,vI ↑b,vL A n c,.bl true,vI s,.bq (bad)],.fact (RefD r D)]) fun _ h0=>?_
     refine aI ?_
     refine aC TF [] [.inl 0] fun _ h1=>?_
     refine aI ?_
     refine aI ?_ (beq_eq_false_iff_ne.2 (show ¬(↑np:Int)=0 from (by omega)))
     refine ev_stop (go_draw Tryz.tbs_ok true [0,1] [(0,true),(1,true),(2,true),(3,true),(4,true),(5,true),(6,true),(7,true),(8,true),(9,true),(10,true),(11,true),(12,true),(13,true),(14,true),(15,true),(16,true),(17,true),(18,false),(19,false),(20,false),(21,false)] rfl ?_)
     refine aG (aE ?_)
     refine wO (n-1) ?_
     refine ev_stop (tk_index0 (sz:=1) Tryz.tbs_ok (.inr 1) (n-1) aB rfl rfl rfl rfl rfl rfl rfl (by omega) rfl Row.at0 (fun g2 e3=>?_))
     subst e3
     refine aG (aE ?_)
     have l4:n-1<(S).length:=(by omega)
     refine ev_stop (tk_loadE Tryz.tbs_ok (.inr 1) (n-1) 0 aB rfl rfl rfl rfl rfl (fun _ h=>Row.rd h) (by omega) (fun _=>rfl) (by omega) l4 (by decide) ?_)
     refine aG (aE ?_)
     refine aD TD [0,2] [] (fun v0_=>[.box (w) 139 [vP r,vI ↑b,vL (some { block:=g2,off:=0:Addr }) n c,.bl true,vI s,.bq (bad)],.fact (RefD r D)]) fun _ h5=>?_
     refine aE (aE (aE (aE ?_)))
     refine aI ?_ (decide_eq_false (show ¬(↑x.size:Int)<16384 from (by omega)))
     refine ev_stop (go_joinR [7,12,14,68,69,70,71,72,73,74,75,76,77,78,79,80,81,82,83,84,85,86] (fun _=>[(7,vI G1.2)]) (fun A0:Option Addr=>[(0,.box w 139 [vP r,vI (b:Nat),vL A0 n c,.bl true,vI s,.bq bd]),(1,.fact (Row 9 1 A0 n c (S.flatMap encS))),(2,.fact (RefD r G1.1))]) (fun _=>True) ?_ (fun x_ h_=>?_))
     · refine aG ?_
       refine ev_stop (go_draw Tryz.tbs_ok false [1] [(0,true),(1,true),(2,true),(3,true),(5,true),(6,true),(7,true),(9,true),(10,true),(11,true),(99,false),(0,true),(0,true),(0,true),(0,true),(0,true),(0,true),(0,true),(0,true),(0,true)] rfl ?_)
       refine aG (aE ?_)
       refine ev_stop (go_fork3 4 8 12 [(99,false),(0,true),(0,true),(0,true),(0,true),(0,true),(0,true),(0,true),(0,true)] [(99,false),(0,true),(0,true),(0,true),(0,true),(0,true),(0,true),(0,true),(0,true)] [(13,true),(14,true),(99,false),(0,true),(0,true),(0,true),(0,true),(0,true),(0,true)] _ _ _ ⟨aL,rfl⟩ (by kernel_rfl) rfl rfl rfl rfl rfl rfl ?_ ?_ ?_)
       refine aG (aE ?_)
       refine ev_stop (go_fork 8 12 [(12,false),(13,false),(14,false),(15,false),(16,false),(17,false),(18,false),(19,false)] [(13,true),(14,true),(8,false),(15,false),(16,false),(17,false),(18,false),(19,false)] _ _ ⟨aL,rfl⟩ (by kernel_rfl) rfl rfl rfl rfl ?_ ?_)
       refine aG (aE (aE (aE ?_)))
       refine wO (n-1) ?_
       refine aE ?_
       refine ev_stop (go_atE (sz:=1) Tryz.tbs_ok (n-1) rfl rfl rfl rfl rfl rfl (by omega) ?_)
       refine aG (aE ?_)
       have l30:n-1<(S).length:=(by omega)
       refine ev_stop (go_loadE Tryz.tbs_ok (.inr 1) (n-1) 0 rfl rfl rfl rfl (fun _ h=>Row.rd h) (by omega) (fun _=>rfl) (by omega) l30 (by decide) ?_)
       refine aG (aE ?_)
       refine aC T9 [2] [] fun _ h31=>?_
       refine aE ?_
       refine aD (TT1 (some { block:=g2,off:=0:Addr })) [0] [] (fun v0_=>[.box (w) 139 [vP r,vI ↑b,vL (some { block:=g2,off:=0:Addr }) n c,.bl true,vI s,.bq (bd)]]) fun _ h32=>?_
       refine aE (aK ?_)
       refine ev_fin (join_next (some { block:=g2,off:=0:Addr }) (show True from (by assumption))  aS)
       refine aG (aE ?_)
       refine wO (n-1) ?_
       refine aE ?_
       refine ev_stop (go_atE (sz:=1) Tryz.tbs_ok (n-1) rfl rfl rfl rfl rfl rfl (by omega) ?_)
       refine aG (aE ?_)
       have l33:n-1<(S).length:=(by omega)
       refine ev_stop (go_loadE Tryz.tbs_ok (.inr 1) (n-1) 0 rfl rfl rfl rfl (fun _ h=>Row.rd h) (by omega) (fun _=>rfl) (by omega) l33 (by decide) ?_)
       refine aG (aE ?_)
       refine aC T9 [2] [] fun _ h34=>?_
       refine aE ?_
       refine aD (TT1 (some { block:=g2,off:=0:Addr })) [0] [] (fun v0_=>[.box (w) 139 [vP r,vI ↑b,vL (some { block:=g2,off:=0:Addr }) n c,.bl true,vI s,.bq (bd)]]) fun _ h35=>?_
       refine aE (aK ?_)
       refine ev_fin (join_next (some { block:=g2,off:=0:Addr }) (show True from (by assumption))  aS)
       refine aG (aE ?_)
       refine ev_stop (go_fork 4 12 [(12,false),(13,false),(14,false),(15,false),(16,false),(17,false),(18,false),(19,false)] [(13,true),(14,true),(15,true),(16,true),(4,false),(17,false),(18,false),(19,false)] _ _ ⟨aL,rfl⟩ (by kernel_rfl) rfl rfl rfl rfl ?_ ?_)
       refine aG (aE (aE (aE ?_)))
       refine wO (n-1) ?_
       refine aE ?_
       refine ev_stop (go_atE (sz:=1) Tryz.tbs_ok (n-1) rfl rfl rfl rfl rfl rfl (by omega) ?_)
       refine aG (aE ?_)
       have l36:n-1<(S).length:=(by omega)
       refine ev_stop (go_loadE Tryz.tbs_ok (.inr 1) (n-1) 0 rfl rfl rfl rfl (fun _ h=>Row.rd h) (by omega) (fun _=>rfl) (by omega) l36 (by decide) ?_)
       refine aG (aE ?_)
       refine aC T9 [2] [] fun _ h37=>?_
       refine aE ?_
       refine aD (TT1 (some { block:=g2,off:=0:Addr })) [0] [] (fun v0_=>[.box (w) 139 [vP r,vI ↑b,vL (some { block:=g2,off:=0:Addr }) n c,.bl true,vI s,.bq (bd)]]) fun _ h38=>?_
       refine aE (aK ?_)
       refine ev_fin (join_next (some { block:=g2,off:=0:Addr }) (show True from (by assumption))  aS)
       refine aG (aE ?_)
       refine wO (n-1) ?_
       refine ev_stop (tk_atE (sz:=1) Tryz.tbs_ok (n-1) aB rfl rfl rfl rfl rfl rfl rfl (by omega) ?_)
       refine aG (aE ?_)
       have l39:n-1<(S).length:=(by omega)
       refine ev_stop (tk_loadE Tryz.tbs_ok (.inr 0) (n-1) 0 aB rfl rfl rfl rfl rfl (fun _ h=>Row.rd h) (by omega) (fun _=>rfl) (by omega) l39 (by decide) ?_)
       refine aG (aE (aE ?_))
       refine aC T9 [2] [] fun _ h40=>?_
       refine aE ?_
       refine aD (TT1 (some { block:=g2,off:=0:Addr })) [0] [] (fun v0_=>[.box (w) 139 [vP r,vI ↑b,vL (some { block:=g2,off:=0:Addr }) n c,.bl true,vI s,.bq (bd)]]) fun _ h41=>?_
       refine aE (aK ?_)
       refine ev_fin (join_next (some { block:=g2,off:=0:Addr }) (show True from (by assumption))  aS)
       refine aG (aE ?_)
       refine wO (n-1) ?_
       refine ev_stop (go_fork 4 8 [(8,false),(15,false),(16,false),(17,false),(18,false),(19,false)] [(15,true),(16,true),(4,false),(17,false),(18,false),(19,false)] _ _ ⟨aL,rfl⟩ (by kernel_rfl) rfl rfl rfl rfl ?_ ?_)
       refine aG (aE (aE ?_))
       refine ev_stop (go_atE (sz:=1) Tryz.tbs_ok (n-1) rfl rfl rfl rfl rfl rfl (by omega) ?_)
       refine aG (aE ?_)
       have l42:n-1<(S).length:=(by omega)
       refine ev_stop (go_loadE Tryz.tbs_ok (.inr 1) (n-1) 0 rfl rfl rfl rfl (fun _ h=>Row.rd h) (by omega) (fun _=>rfl) (by omega) l42 (by decide) ?_)
       refine aG (aE ?_)
       refine aC T9 [2] [] fun _ h43=>?_
       refine aE ?_
       refine aD (TT1 (some { block:=g2,off:=0:Addr })) [0] [] (fun v0_=>[.box (w) 139 [vP r,vI ↑b,vL (some { block:=g2,off:=0:Addr }) n c,.bl true,vI s,.bq (bd)]]) fun _ h44=>?_
       refine aE (aK ?_)
       refine ev_fin (join_next (some { block:=g2,off:=0:Addr }) (show True from (by assumption))  aS)
       refine aG (aE ?_)
       refine ev_stop (tk_atE (sz:=1) Tryz.tbs_ok (n-1) aB rfl rfl rfl rfl rfl rfl rfl (by omega) ?_)
       refine aG (aE ?_)
       have l45:n-1<(S).length:=(by omega)
       refine ev_stop (tk_loadE Tryz.tbs_ok (.inr 0) (n-1) 0 aB rfl rfl rfl rfl rfl (fun _ h=>Row.rd h) (by omega) (fun _=>rfl) (by omega) l45 (by decide) ?_)
       refine aG (aE (aE ?_))
       refine aC T9 [2] [] fun _ h46=>?_
       refine aE ?_
       refine aD (TT1 (some { block:=g2,off:=0:Addr })) [0] [] (fun v0_=>[.box (w) 139 [vP r,vI ↑b,vL (some { block:=g2,off:=0:Addr }) n c,.bl true,vI s,.bq (bd)]]) fun _ h47=>?_
       refine aE (aK ?_)
       refine ev_fin (join_next (some { block:=g2,off:=0:Addr }) (show True from (by assumption))  aS)
     by_cases hg1:G1.2=0
     · rw [if_neg (by simpa using hg1)] at hR
       rw [hg1,bad_zero] at hbd
       replace hbd:=hbd.symm
       subst hbd
       rw [hg1]
       refine go_turn 2 (RefD r G1.1) (fun x:Option Addr × Nat=>RefY r G1.1 x.1 x.2) rfl RefD.open (fun ⟨A1,c1⟩=>?_)
       refine aG ?_
       by_cases hful:15≤G1.1.files.length∨999999999≤b+t
       · rw [if_pos hful] at hR
         subst hR
         dsimp only
         rw [←hS,←hn,←hl]
         by_cases h15:15≤G1.1.files.length
         · have hz15:15≤([((G1.1,A1,c1):DK × Option Addr × Nat)][0]'(Nat.one_pos)).1.files.length:=h15
           refine aI ?_
           have l60:0<([(G1.fst,A1,c1)]).length:=by simp
           refine ev_stop (go_loadE Tryz.tbs_ok (.inr 2) 0 3 rfl rfl rfl rfl (fun _ h=>RefY.peek h) (by omega) (fun _=>rfl) (by omega) l60 (by decide) ?_)
           refine aG ?_
           refine aJ ?_ (decide_eq_true (show (↑[(G1.fst,A1,c1)][0].fst.files.length:Int) ≥ 15 from (by omega)))
           refine ev_fin ⟨trivial,_,rfl,(x_,c),rfl,trivial,Frm.imp (M:=[_,_,RefY r G1.1 A1 c1]) [0,1,2] rfl (by decide) (fun h q=>starH_tail (fun h q=>starH_tail (fun h q=>starH_one.2 (RefY.close (starH_one.1 q))) q) q)⟩
         have h99:999999999≤b+t:=by omega
         have hz15:¬ 15≤([((G1.1,A1,c1):DK × Option Addr × Nat)][0]'(Nat.one_pos)).1.files.length:=h15
         refine aI ?_
         have l60:0<([(G1.fst,A1,c1)]).length:=by simp
         refine ev_stop (go_loadE Tryz.tbs_ok (.inr 2) 0 3 rfl rfl rfl rfl (fun _ h=>RefY.peek h) (by omega) (fun _=>rfl) (by omega) l60 (by decide) ?_)
         refine aG ?_
         refine aI ?_ (decide_eq_false (show ¬(↑[(G1.fst,A1,c1)][0].fst.files.length:Int) ≥ 15 from (by omega)))
         refine aD (TG (x_)) [0] [] (fun v0_=>[.box (w) 139 [vP r,vI ↑b,vL x_ n c,.bl true,vI s,.bq (bad)]]) fun _ h61=>?_
         refine aJ ?_ (decide_eq_true (show (↑(b+t):Int) ≥ 999999999 from (by omega)))
         refine ev_fin ⟨trivial,_,rfl,(x_,c),rfl,trivial,Frm.imp (M:=[_,_,RefY r G1.1 A1 c1]) [0,1,2] rfl (by decide) (fun h q=>starH_tail (fun h q=>starH_tail (fun h q=>starH_one.2 (RefY.close (starH_one.1 q))) q) q)⟩
       rw [if_neg hful] at hR
       have h15:¬ 15≤G1.1.files.length:=fun q=>hful (.inl q)
       have h99:¬ 999999999≤b+t:=fun q=>hful (.inr q)
       have hz15:¬ 15≤([((G1.1,A1,c1):DK × Option Addr × Nat)][0]'(Nat.one_pos)).1.files.length:=h15
       obtain ⟨G,hG⟩:∃ G,G=appD G1.1 (nmB 115 (b+t+1)) F:=⟨_,rfl⟩
       have TQ:=fun A1 c1=>qAppY r G1.1 A1 c1 (nmB 115 (b+t+1)) F hD1 hF2
       have TT:=fun A0=>rTold w r b A0 n c true s bad G.2
       unfold ptU at TT
       obtain ⟨bd,hbd⟩:∃ bd,bd=(bad || badE G.2):=⟨_,rfl⟩
       rw [←hG] at TQ hR
       simp only [←hbd] at TT
       rw [←hbd] at hR
       have TN:=TN (by omega)
       by_cases hg:G.2=0
       · rw [hg] at TQ hR
         simp only [hg] at TT
         rw [if_pos rfl] at hR
         subst hR
         dsimp only
         rw [segN_one,segsM_one,←hS,←hn,show decide (0<t+1)=true from decide_eq_true (Nat.succ_pos _)]
         refine aI ?_
         have l60:0<([(G1.fst,A1,c1)]).length:=by simp
         refine ev_stop (go_loadE Tryz.tbs_ok (.inr 2) 0 3 rfl rfl rfl rfl (fun _ h=>RefY.peek h) (by omega) (fun _=>rfl) (by omega) l60 (by decide) ?_)
         refine aG ?_
         refine aI ?_ (decide_eq_false (show ¬(↑[(G1.fst,A1,c1)][0].fst.files.length:Int) ≥ 15 from (by omega)))
         refine aD (TG (x_)) [0] [] (fun v0_=>[.box (w) 139 [vP r,vI ↑b,vL x_ n c,.bl true,vI s,.bq (bad)]]) fun _ h61=>?_
         refine aI ?_ (decide_eq_false (show ¬(↑(b+t):Int) ≥ 999999999 from (by omega)))
         refine aD (TG (x_)) [0] [] (fun v0_=>[.box (w) 139 [vP r,vI ↑b,vL x_ n c,.bl true,vI s,.bq (bad)]]) fun _ h62=>?_
         refine wN (b+t+1) ?_
         refine aC TN [] [] fun _ h63=>?_
         refine aC (TQ (A1) (c1)) [2] [] fun _ h64=>?_
         refine aD (TT (x_)) [0] [] (fun v0_=>[.box (w) 139 [vP r,vI ↑b,vL x_ n c,.bl true,vI s,.bq (bd)]]) fun _ h65=>?_
         refine aJ ?_
         refine ev_new fun b66=>?_
         refine ev_stop (go_appendE (sz:=1) (M:=[_]) (enc:=encS) Tryz.tbs_ok [1] [] (.inr 3) (S) ([nmB 115 (b+t+1)]) ((S)++([nmB 115 (b+t+1)])) (n+1) rfl rfl rfl rfl rfl rfl rfl (by decide) rfl (by decide) (fun _ p=>starH_one.1 p) rfl (fun _ p=>Pt.rd p rfl) (by first | rfl | simp) (by first | rfl | omega) (aM (n+1)) (aN (n+1)) (fun _ _=>aL) (fun A67 c68 h69=>?_))
         refine aG ?_
         exact ev_fin ⟨trivial,_,rfl,((A67,c68)),rfl,trivial,aF [0,1,2]⟩
       rw [if_neg hg] at hR
       subst hR
       dsimp only
       rw [←hS,←hn,←hl]
       refine aI ?_
       have l60:0<([(G1.fst,A1,c1)]).length:=by simp
       refine ev_stop (go_loadE Tryz.tbs_ok (.inr 2) 0 3 rfl rfl rfl rfl (fun _ h=>RefY.peek h) (by omega) (fun _=>rfl) (by omega) l60 (by decide) ?_)
       refine aG ?_
       refine aI ?_ (decide_eq_false (show ¬(↑[(G1.fst,A1,c1)][0].fst.files.length:Int) ≥ 15 from (by omega)))
       refine aD (TG (x_)) [0] [] (fun v0_=>[.box (w) 139 [vP r,vI ↑b,vL x_ n c,.bl true,vI s,.bq (bad)]]) fun _ h61=>?_
       refine aI ?_ (decide_eq_false (show ¬(↑(b+t):Int) ≥ 999999999 from (by omega)))
       refine aD (TG (x_)) [0] [] (fun v0_=>[.box (w) 139 [vP r,vI ↑b,vL x_ n c,.bl true,vI s,.bq (bad)]]) fun _ h62=>?_
       refine wN (b+t+1) ?_
       refine aC TN [] [] fun _ h63=>?_
       refine aC (TQ (A1) (c1)) [2] [] fun _ h64=>?_
       refine aD (TT (x_)) [0] [] (fun v0_=>[.box (w) 139 [vP r,vI ↑b,vL x_ n c,.bl true,vI s,.bq (bd)]]) fun _ h65=>?_
       refine aI ?_ (beq_eq_false_iff_ne.2 (by with_reducible assumption))
       exact ev_fin ⟨trivial,_,rfl,((x_,c)),rfl,trivial,aF [0,1,2]⟩
     rw [if_pos (by simpa using hg1)] at hR
     subst hR
     dsimp only
     rw [←hS,←hn,←hl]
     refine aG ?_
     refine aJ ?_ (ne_yes (by with_reducible assumption))
     exact ev_fin ⟨trivial,_,rfl,((x_,c)),rfl,trivial,aF [0,1,2]⟩
   rw [decide_eq_false hf] at TF
   rw [appW_long h hf] at hR
   have h3:(framedM ps).2=3:=framed_err hf
   rw [h3] at hR
   subst hR
   dsimp only
   rw [←hS,←hn,←hl]
   refine aT Tryz.func69 [.pt 0 w 0,vL B np cp] [.box w 139 [vP r,vI (b:Nat),vL A n c,.bq l,vI s,.bq bad],.fact (Row 9 1 A n c (S.flatMap encS)),.fact (RefD r D)] (fun E=>?_) ⟨rfl,trivial,trivial⟩
   refine aG ?_
   refine aD TO [0,2] [] (fun v0_=>[.box (w) 139 [vP r,vI ↑b,vL A n c,.bq (l),vI s,.bq (bad)],.fact (RefD r D)]) fun _ h0=>?_
   refine aI ?_
   refine aC TF [] [.inl 0] fun _ h1=>?_
   refine aJ ?_
   exact ev_fin ⟨trivial,_,rfl,((A,c)),rfl,trivial,aF [0,1,2]⟩
 rw [show (askW s bad D != 0)=true by rw [h];rfl] at TO
 rw [appW_ask h] at hR
 subst hR
 dsimp only
 rw [←hS,←hn,←hl]
 refine aT Tryz.func69 [.pt 0 w 0,vL B np cp] [.box w 139 [vP r,vI (b:Nat),vL A n c,.bq l,vI s,.bq bad],.fact (Row 9 1 A n c (S.flatMap encS)),.fact (RefD r D)] (fun E=>?_) ⟨rfl,trivial,trivial⟩
 refine aG ?_
 refine aD TO [0,2] [] (fun v0_=>[.box (w) 139 [vP r,vI ↑b,vL A n c,.bq (l),vI s,.bq (bad)],.fact (RefD r D)]) fun _ h0=>?_
 refine aJ ?_
 exact ev_fin ⟨trivial,_,rfl,((A,c)),rfl,trivial,aF [0,1,2]⟩
abbrev CkV (w r:Nat) (B:Option Addr) (np cp:Nat) (ps:List ByteArray) (b n c:Nat) (A:Option Addr) (S:List ByteArray) (l:Bool) (s:Int) (bad:Bool) (D:DK) (R:WK × DK × Int):Prop :=
 Triple Tryz.prog 65 [pP w,.slice B np cp] [Pt w 139 [pP r,.int .i64 (b:Nat),.slice A n c,.bool l,.int .i64 s,.bool bad],Row 9 1 A n c (S.flatMap encS),RefD r D] [Rd 1 B np (ps.flatMap encS)] (Option Addr × Nat) (fun _=>.int .i64 R.2.2) (fun _=>True) (fun (A',c')=>[Pt w 139 [pP r,.int .i64 (R.1.b:Nat),.slice A' (segN R.1.b R.1.t) c',.bool (decide (0<R.1.t)),.int .i64 R.1.s,.bool R.1.bad],Row 9 1 A' (segN R.1.b R.1.t) c' ((segsM R.1.b R.1.t).flatMap encS),RefD r R.2.1])
set_option maxHeartbeats 8000000 in
theorem rCkW (w r:Nat) (W:WK) (A:Option Addr) (c:Nat) (D:DK) (B:Option Addr) (ps:List ByteArray) (np cp:Nat) (hp:np=ps.length) (hp1:np≤10000) (hp2:∀ p∈ps,p.size≤900000000) (hD:okD D) (hW:okW W)
 (hlay:askW W.s W.bad D=0→W.b+W.t<999999999→(runD (ckL3 (framedM ps).1 (W.b+W.t+1)) D).2=0→okN (namesD (runD (ckL3 (framedM ps).1 (W.b+W.t+1)) D).1)=true) :
 Triple Tryz.prog 65 [pP w,.slice B np cp] [ptV w r W A c,rowV W A c,RefD r D] [Rd 1 B np (ps.flatMap encS)] (Option Addr × Nat) (fun _=>.int .i64 (ckW W D ps).2.2) (fun _=>True) (fun (A',c')=>[ptV w r (ckW W D ps).1 A' c',rowV (ckW W D ps).1 A' c',RefD r (ckW W D ps).2.1]):=by
 obtain ⟨s,bad,b,t⟩:=W
 replace hW:b+t≤999999999:=hW
 have TF:=rFramed B ps np cp hp hp1 hp2
 obtain ⟨R,hR⟩:∃ R,R=ckW ⟨s,bad,b,t⟩ D ps:=⟨_,rfl⟩
 rw [←hR]
 unfold ckW at hR
 dsimp only at hR hlay
 obtain ⟨S,hS⟩:∃ S,S=segsM b t:=⟨_,rfl⟩
 obtain ⟨n,hn⟩:∃ n,n=segN b t:=⟨_,rfl⟩
 obtain ⟨l,hl⟩:∃ l,l=decide (0<t):=⟨_,rfl⟩
 have TO:=rOver w r b A n c l s bad D
 have TG:=rGreat w r b t A c l s bad hW
 unfold ptU at TO TG
 unfold ptV rowV
 dsimp only
 rw [←hS,←hn,←hl]
 rw [←hn] at TG
 show CkV w r B np cp ps b n c A S l s bad D R
 unfold CkV
 rcases ask_cases s bad D with h | h
 · rw [show (askW s bad D != 0)=false by rw [h];rfl] at TO
   rw [h,if_neg (by decide)] at hR
   by_cases hf:(framedM ps).2=0
   · rw [decide_eq_true hf] at TF
     rw [if_neg (by simpa using hf)] at hR
     have hF:=framed_size hf
     have hlay:=hlay h
     obtain ⟨F,hFe⟩:∃ F,F=(framedM ps).1:=⟨_,rfl⟩
     rw [←hFe] at hR hF TF hlay
     have hF2:F.size≤100000000:=by rw [←hp] at hF;omega
     by_cases h9:999999999≤b+t
     · rw [if_pos h9] at hR
       subst hR
       dsimp only
       rw [←hS,←hn,←hl]
       refine aT Tryz.func65 [.pt 0 w 0,vL B np cp] [.box w 139 [vP r,vI (b:Nat),vL A n c,.bq l,vI s,.bq bad],.fact (Row 9 1 A n c (S.flatMap encS)),.fact (RefD r D)] (fun E=>?_) ⟨rfl,trivial,trivial⟩
       refine aG ?_
       refine aD TO [0,2] [] (fun v0_=>[.box (w) 139 [vP r,vI ↑b,vL A n c,.bq (l),vI s,.bq (bad)],.fact (RefD r D)]) fun _ h0=>?_
       refine aI ?_
       refine aC TF [] [.inl 0] fun _ h1=>?_
       refine aI ?_
       refine aD TG [0] [] (fun v0_=>[.box (w) 139 [vP r,vI ↑b,vL A n c,.bq (l),vI s,.bq (bad)]]) fun _ h2=>?_
       refine aJ ?_ (decide_eq_true (show (↑(b+t):Int) ≥ 999999999 from (by omega)))
       exact ev_fin ⟨trivial,_,rfl,((A,c)),rfl,trivial,aF [0,1,2]⟩
     rw [if_neg h9] at hR
     have hlay:=hlay (by omega)
     have TN:=rName2 ⟨#[99]⟩ 99 (b+t+1) rfl (by omega) (by omega)
     have hrun:runD (ckL3 F (b+t+1)) D=if (appD D tB F).2=0 then (if (syncD (appD D tB F).1 tB).2=0 then (if (renD (syncD (appD D tB F).1 tB).1 tB (nmB 99 (b+t+1))).2=0 then ((renD (syncD (appD D tB F).1 tB).1 tB (nmB 99 (b+t+1))).1,0) else renD (syncD (appD D tB F).1 tB).1 tB (nmB 99 (b+t+1))) else syncD (appD D tB F).1 tB) else appD D tB F:=rfl
     rw [hrun] at hR hlay
     have T1:=qApp r D tB F hD hF2
     have hk1:=app_ok hD tB F
     obtain ⟨G1,hG1⟩:∃ G1,G1=appD D tB F:=⟨_,rfl⟩
     rw [←hG1] at T1 hR hk1 hlay
     have U1:=rTold w r b A n c l s bad G1.2
     unfold ptU at U1
     by_cases g1:G1.2=0
     · rw [if_pos g1] at hR hlay
       rw [g1] at T1
       rw [g1,bad_zero] at U1
       have T2:=qSync r G1.1 tB hk1
       have hk2:=sync_ok hk1 tB
       obtain ⟨G2,hG2⟩:∃ G2,G2=syncD G1.1 tB:=⟨_,rfl⟩
       rw [←hG2] at T2 hR hk2 hlay
       have U2:=rTold w r b A n c l s bad G2.2
       unfold ptU at U2
       by_cases g2:G2.2=0
       · rw [if_pos g2] at hR hlay
         rw [g2] at T2
         have T3:=qRen r G2.1 tB (nmB 99 (b+t+1)) hk2
         have hk3:=ren_ok hk2 tB (nmB 99 (b+t+1))
         obtain ⟨G3,hG3⟩:∃ G3,G3=renD G2.1 tB (nmB 99 (b+t+1)):=⟨_,rfl⟩
         rw [←hG3] at T3 hR hk3 hlay
         have U3:=rTold w r b A n c l s bad G3.2
         unfold ptU at U3
         by_cases g3:G3.2=0
         · rw [if_pos g3] at hR hlay
           rw [g3] at T3
           dsimp only at hR hlay
           rw [if_neg (by decide)] at hR
           have hon:=hlay rfl
           have TP:=rParts r G3.1 (namesD G3.1) rfl hk3
           obtain ⟨L,hL⟩:∃ L,L=namesD G3.1:=⟨_,rfl⟩
           rw [←hL] at TP hR hon
           have hLl:L.length≤16:=by rw [hL];unfold namesD;rw [List.length_map];exact hk3.few
           unfold PB PS PT at TP
           rw [hon] at TP
           rw [if_pos rfl,if_pos rfl,Bool.true_and] at TP
           obtain ⟨Sl,hSl⟩:∃ Sl,Sl=staleM L:=⟨_,rfl⟩
           have hsl:Sl.length≤16:=by
            rw [hSl]
            unfold staleM
            rw [hon,if_pos rfl]
            exact Nat.le_trans (List.length_filter_le _ _) hLl
           rw [←hSl] at TP hR
           have TC:=fun B2 d2=>(rClean w r b A n c l s bad G3.1 B2 Sl Sl.length d2 rfl (by omega) hk3).ofRow 9 d2
           unfold ptU at TC
           obtain ⟨G4,hG4⟩:∃ G4,G4=runD (remL Sl) G3.1:=⟨_,rfl⟩
           rw [←hG4] at TC hR
           have U4:=rTold w r b A n c l s bad G4.2
           unfold ptU at U4
           obtain ⟨bd,hbd⟩:∃ bd,bd=(bad || badE G4.2):=⟨_,rfl⟩
           rw [←hbd] at U4 hR
           subst hR
           dsimp only
           unfold segN
           refine aT Tryz.func65 [.pt 0 w 0,vL B np cp] [.box w 139 [vP r,vI (b:Nat),vL A n c,.bq l,vI s,.bq bad],.fact (Row 9 1 A n c (S.flatMap encS)),.fact (RefD r D)] (fun E=>?_) ⟨rfl,trivial,trivial⟩
           refine aG ?_
           refine aD TO [0,2] [] (fun v0_=>[.box (w) 139 [vP r,vI ↑b,vL A n c,.bq (l),vI s,.bq (bad)],.fact (RefD r D)]) fun _ h0=>?_
           refine aI ?_
           refine aC TF [] [.inl 0] fun _ h1=>?_
           refine aI ?_
           refine aD TG [0] [] (fun v0_=>[.box (w) 139 [vP r,vI ↑b,vL A n c,.bq (l),vI s,.bq (bad)]]) fun _ h2=>?_
           refine aI ?_ (decide_eq_false (show ¬(↑(b+t):Int) ≥ 999999999 from (by omega)))
           refine aD TG [0] [] (fun v0_=>[.box (w) 139 [vP r,vI ↑b,vL A n c,.bq (l),vI s,.bq (bad)]]) fun _ h3=>?_
           refine wN (b+t+1) ?_
           refine aC TN [] [] fun _ h4=>?_
           refine aC T1 [2] [] fun _ h5=>?_
           refine aD U1 [0] [] (fun v0_=>[.box (w) 139 [vP r,vI ↑b,vL A n c,.bq (l),vI s,.bq (bad)]]) fun _ h6=>?_
           refine aJ ?_
           refine aC T2 [2] [] fun _ h7=>?_
           refine aD U1 [0] [] (fun v0_=>[.box (w) 139 [vP r,vI ↑b,vL A n c,.bq (l),vI s,.bq (bad)]]) fun _ h8=>?_
           refine aJ ?_
           refine aC T3 [2] [] fun _ h9=>?_
           refine aD U1 [0] [] (fun v0_=>[.box (w) 139 [vP r,vI ↑b,vL A n c,.bq (l),vI s,.bq (bad)]]) fun _ h10=>?_
           refine aI ?_
           refine aC TP [2] [] fun ⟨x11,x12,x13,x14⟩ h15=>?_
           refine aD (TC (x13) (x14)) [0,2] [.inr 4] (fun v0_=>[.box (w) 139 [vP r,vI ↑b,vL A n c,.bq (l),vI s,.bq (bad)],.fact (RefD r G4.fst)]) fun _ h16=>?_
           refine aD U4 [0] [] (fun v0_=>[.box (w) 139 [vP r,vI ↑b,vL A n c,.bq (l),vI s,.bq (bd)]]) fun _ h17=>?_
           exact ev_fin ⟨trivial,_,rfl,((x11,x12)),rfl,trivial,aF [0,3,2]⟩
         rw [if_neg g3] at hR
         rw [if_pos g3] at hR
         obtain ⟨bd,hbd⟩:∃ bd,bd=(bad || badE G3.2):=⟨_,rfl⟩
         rw [←hbd] at U3 hR
         subst hR
         dsimp only
         rw [←hS,←hn,←hl]
         refine aT Tryz.func65 [.pt 0 w 0,vL B np cp] [.box w 139 [vP r,vI (b:Nat),vL A n c,.bq l,vI s,.bq bad],.fact (Row 9 1 A n c (S.flatMap encS)),.fact (RefD r D)] (fun E=>?_) ⟨rfl,trivial,trivial⟩
         refine aG ?_
         refine aD TO [0,2] [] (fun v0_=>[.box (w) 139 [vP r,vI ↑b,vL A n c,.bq (l),vI s,.bq (bad)],.fact (RefD r D)]) fun _ h0=>?_
         refine aI ?_
         refine aC TF [] [.inl 0] fun _ h1=>?_
         refine aI ?_
         refine aD TG [0] [] (fun v0_=>[.box (w) 139 [vP r,vI ↑b,vL A n c,.bq (l),vI s,.bq (bad)]]) fun _ h2=>?_
         refine aI ?_ (decide_eq_false (show ¬(↑(b+t):Int) ≥ 999999999 from (by omega)))
         refine aD TG [0] [] (fun v0_=>[.box (w) 139 [vP r,vI ↑b,vL A n c,.bq (l),vI s,.bq (bad)]]) fun _ h3=>?_
         refine wN (b+t+1) ?_
         refine aC TN [] [] fun _ h4=>?_
         refine aC T1 [2] [] fun _ h5=>?_
         refine aD U1 [0] [] (fun v0_=>[.box (w) 139 [vP r,vI ↑b,vL A n c,.bq (l),vI s,.bq (bad)]]) fun _ h6=>?_
         refine aJ ?_
         refine aC T2 [2] [] fun _ h7=>?_
         refine aD U1 [0] [] (fun v0_=>[.box (w) 139 [vP r,vI ↑b,vL A n c,.bq (l),vI s,.bq (bad)]]) fun _ h8=>?_
         refine aJ ?_
         refine aC T3 [2] [] fun _ h9=>?_
         refine aD U3 [0] [] (fun v0_=>[.box (w) 139 [vP r,vI ↑b,vL A n c,.bq (l),vI s,.bq (bd)]]) fun _ h10=>?_
         refine aJ ?_ (ne_yes (by with_reducible assumption))
         exact ev_fin ⟨trivial,_,rfl,((A,c)),rfl,trivial,aF [0,1,2]⟩
       rw [if_neg g2,if_pos g2] at hR
       obtain ⟨bd,hbd⟩:∃ bd,bd=(bad || badE G2.2):=⟨_,rfl⟩
       rw [←hbd] at U2 hR
       subst hR
       dsimp only
       rw [←hS,←hn,←hl]
       refine aT Tryz.func65 [.pt 0 w 0,vL B np cp] [.box w 139 [vP r,vI (b:Nat),vL A n c,.bq l,vI s,.bq bad],.fact (Row 9 1 A n c (S.flatMap encS)),.fact (RefD r D)] (fun E=>?_) ⟨rfl,trivial,trivial⟩
       refine aG ?_
       refine aD TO [0,2] [] (fun v0_=>[.box (w) 139 [vP r,vI ↑b,vL A n c,.bq (l),vI s,.bq (bad)],.fact (RefD r D)]) fun _ h0=>?_
       refine aI ?_
       refine aC TF [] [.inl 0] fun _ h1=>?_
       refine aI ?_
       refine aD TG [0] [] (fun v0_=>[.box (w) 139 [vP r,vI ↑b,vL A n c,.bq (l),vI s,.bq (bad)]]) fun _ h2=>?_
       refine aI ?_ (decide_eq_false (show ¬(↑(b+t):Int) ≥ 999999999 from (by omega)))
       refine aD TG [0] [] (fun v0_=>[.box (w) 139 [vP r,vI ↑b,vL A n c,.bq (l),vI s,.bq (bad)]]) fun _ h3=>?_
       refine wN (b+t+1) ?_
       refine aC TN [] [] fun _ h4=>?_
       refine aC T1 [2] [] fun _ h5=>?_
       refine aD U1 [0] [] (fun v0_=>[.box (w) 139 [vP r,vI ↑b,vL A n c,.bq (l),vI s,.bq (bad)]]) fun _ h6=>?_
       refine aJ ?_
       refine aC T2 [2] [] fun _ h7=>?_
       refine aD U2 [0] [] (fun v0_=>[.box (w) 139 [vP r,vI ↑b,vL A n c,.bq (l),vI s,.bq (bd)]]) fun _ h8=>?_
       refine aI ?_ (beq_eq_false_iff_ne.2 (by with_reducible assumption))
       refine aJ ?_ (ne_yes (by with_reducible assumption))
       exact ev_fin ⟨trivial,_,rfl,((A,c)),rfl,trivial,aF [0,1,2]⟩
     rw [if_neg g1,if_pos g1] at hR
     obtain ⟨bd,hbd⟩:∃ bd,bd=(bad || badE G1.2):=⟨_,rfl⟩
     rw [←hbd] at U1 hR
     subst hR
     dsimp only
     rw [←hS,←hn,←hl]
     refine aT Tryz.func65 [.pt 0 w 0,vL B np cp] [.box w 139 [vP r,vI (b:Nat),vL A n c,.bq l,vI s,.bq bad],.fact (Row 9 1 A n c (S.flatMap encS)),.fact (RefD r D)] (fun E=>?_) ⟨rfl,trivial,trivial⟩
     refine aG ?_
     refine aD TO [0,2] [] (fun v0_=>[.box (w) 139 [vP r,vI ↑b,vL A n c,.bq (l),vI s,.bq (bad)],.fact (RefD r D)]) fun _ h0=>?_
     refine aI ?_
     refine aC TF [] [.inl 0] fun _ h1=>?_
     refine aI ?_
     refine aD TG [0] [] (fun v0_=>[.box (w) 139 [vP r,vI ↑b,vL A n c,.bq (l),vI s,.bq (bad)]]) fun _ h2=>?_
     refine aI ?_ (decide_eq_false (show ¬(↑(b+t):Int) ≥ 999999999 from (by omega)))
     refine aD TG [0] [] (fun v0_=>[.box (w) 139 [vP r,vI ↑b,vL A n c,.bq (l),vI s,.bq (bad)]]) fun _ h3=>?_
     refine wN (b+t+1) ?_
     refine aC TN [] [] fun _ h4=>?_
     refine aC T1 [2] [] fun _ h5=>?_
     refine aD U1 [0] [] (fun v0_=>[.box (w) 139 [vP r,vI ↑b,vL A n c,.bq (l),vI s,.bq (bd)]]) fun _ h6=>?_
     refine aI ?_ (beq_eq_false_iff_ne.2 (by with_reducible assumption))
     refine aI ?_ (beq_eq_false_iff_ne.2 (by with_reducible assumption))
     refine aJ ?_ (ne_yes (by with_reducible assumption))
     exact ev_fin ⟨trivial,_,rfl,((A,c)),rfl,trivial,aF [0,1,2]⟩
   rw [decide_eq_false hf] at TF
   have h3:(framedM ps).2=3:=framed_err hf
   rw [if_pos hf,h3] at hR
   subst hR
   dsimp only
   rw [←hS,←hn,←hl]
   refine aT Tryz.func65 [.pt 0 w 0,vL B np cp] [.box w 139 [vP r,vI (b:Nat),vL A n c,.bq l,vI s,.bq bad],.fact (Row 9 1 A n c (S.flatMap encS)),.fact (RefD r D)] (fun E=>?_) ⟨rfl,trivial,trivial⟩
   refine aG ?_
   refine aD TO [0,2] [] (fun v0_=>[.box (w) 139 [vP r,vI ↑b,vL A n c,.bq (l),vI s,.bq (bad)],.fact (RefD r D)]) fun _ h0=>?_
   refine aI ?_
   refine aC TF [] [.inl 0] fun _ h1=>?_
   refine aJ ?_
   exact ev_fin ⟨trivial,_,rfl,((A,c)),rfl,trivial,aF [0,1,2]⟩
 rw [show (askW s bad D != 0)=true by rw [h];rfl] at TO
 rw [h,if_pos (by decide)] at hR
 subst hR
 dsimp only
 rw [←hS,←hn,←hl]
 refine aT Tryz.func65 [.pt 0 w 0,vL B np cp] [.box w 139 [vP r,vI (b:Nat),vL A n c,.bq l,vI s,.bq bad],.fact (Row 9 1 A n c (S.flatMap encS)),.fact (RefD r D)] (fun E=>?_) ⟨rfl,trivial,trivial⟩
 refine aG ?_
 refine aD TO [0,2] [] (fun v0_=>[.box (w) 139 [vP r,vI ↑b,vL A n c,.bq (l),vI s,.bq (bad)],.fact (RefD r D)]) fun _ h0=>?_
 refine aJ ?_
 exact ev_fin ⟨trivial,_,rfl,((A,c)),rfl,trivial,aF [0,1,2]⟩
theorem FB_add (ps qs:List BA):FB ps++FB qs=FB (ps++qs):=(FB_append ps qs).symm
theorem nm_odd {c:UInt8} {n:Nat} (h:n≤9999999999):oddS (nmB c n)=false:=by
 have h1:=nmB_size c n h
 have h2:=nmB_pos c n
 unfold oddS
 simp only [Bool.or_eq_false_iff,decide_eq_false_iff_not]
 omega
theorem Live.put {W:WK} {D:DK} {init:List (List BA)} {last:List BA} {j:Nat} (H:Live W D init last j) (ht:0<W.t) {ps:List BA} (hp:small ps) :
 (D.most-sumD D.files<((FB ps).size:Int)∧appD D (nmB 115 (W.b+W.t)) (FB ps)=(D,40)) ∨
 ((appD D (nmB 115 (W.b+W.t)) (FB ps)).2=0∧Live W (appD D (nmB 115 (W.b+W.t)) (FB ps)).1 init (last++ps) j∧(D.fails=none→(appD D (nmB 115 (W.b+W.t)) (FB ps)).1.fails=none)) ∨
 (D.fails≠none∧(appD D (nmB 115 (W.b+W.t)) (FB ps)).2=41∧Brk (appD D (nmB 115 (W.b+W.t)) (FB ps)).1 (init.flatten++last++ps) (init.flatten.length+j)):=by
 obtain ⟨s0,hl,hjs,hs0,hf⟩:=H.last ht
 obtain ⟨s,hT,_⟩:=H.torn
 have hfew:=H.few
 have hok:=app_ok H.ok (nmB 115 (W.b+W.t)) (FB ps)
 have hb9:=H.okW
 unfold Proofs.YtjlfdfmkofbccaaGreatDoor.okW at hb9
 have hodd:=nm_odd (c:=115) (n:=W.b+W.t) (by omega)
 have hhas:hasF D.files (nmB 115 (W.b+W.t))=true:=by rw [lk_has,hl];rfl
 by_cases hroom:D.most-sumD D.files<((FB ps).size:Int)
 · left
   refine ⟨hroom,?_⟩
   unfold appD
   rw [H.up,if_neg (by decide),hodd,if_neg (by decide),if_pos (.inr hroom)]
 right
 have e:appD D (nmB 115 (W.b+W.t)) (FB ps)=chg D true (appF D.files (nmB 115 (W.b+W.t)) (FB ps)):=by
  unfold appD
  rw [H.up,if_neg (by decide),hodd,if_neg (by decide),if_neg]
  rintro (⟨h1,_⟩ | h1)
  · rw [hhas] at h1
    cases h1
  exact hroom h1
 rw [e] at hok ⊢
 obtain ⟨L2,hL2⟩:∃ L2,L2=appF D.files (nmB 115 (W.b+W.t)) (FB ps):=⟨_,rfl⟩
 have hl2:∀ z,lk L2 z=if z=nmB 115 (W.b+W.t) then some (FB (last++ps),s0) else lk D.files z:=fun z=>by
  rw [hL2,lk_app H.ok.rise,hl]
  simp only [FB_add]
 have hrise:riseF L2:=by
  rw [hL2]
  unfold appF
  rw [if_pos hhas]
  exact riseF_names (setF_names fun _=>rfl) H.ok.rise
 have hsure:∀ f∈L2,0≤f.s∧f.s≤f.d.size:=fun f hf=>by
  have h1:=lk_of hrise hf
  rw [hl2] at h1
  split at h1
  · rename_i en
    have h2:=H.ok.sure _ (lk_mem hl)
    simp only [Option.some.injEq,Prod.mk.injEq] at h1
    rw [←h1.1,←h1.2,FB_size_append]
    simp only at h2
    omega
  exact H.ok.sure _ (lk_mem h1)
 have hb:∀ x,lk L2 x≠none→x∈segsM W.b W.t:=fun x hx=>by
  rw [hl2] at hx
  split at hx
  · rename_i e
    rw [e,segs_succ ht]
    exact List.mem_append_right _ (List.mem_singleton_self _)
  exact H.bare x hx
 have hT2:Torn L2 W.b W.t init (last++ps) (FB (last++ps)) s0:=by
  refine hT.move hrise (fun x _ hne=>by rw [hl2,if_neg (hne ht)]) (fun _=>by rw [hl2,if_pos rfl]) (fun x hx=>.inl (hb x hx)) (fun p hp2=>?_) (fun _=>⟨.empty,ba_eq (by rw [ba_app];simp)⟩) (fun h0=>by omega)
  rcases List.mem_append.1 hp2 with h | h
  · exact hT.smalls.2 p h
  exact hp p h
 have hjs2:0<W.t→((FB ((last++ps).take j)).size:Int)≤s0:=fun _=>by
  rw [List.take_append_of_le_length H.few]
  exact hjs
 have hjl:j≤(last++ps).length:=by rw [List.length_append];omega
 rw [←hL2] at hok ⊢
 rcases chg_cases H.up true L2 with ⟨fl,hfl,ec⟩ | ⟨hfn,ec⟩
 · left
   rw [ec] at hok ⊢
   exact ⟨rfl,⟨hok,rfl,H.st,H.nb,⟨s0,hT2,hjs2⟩,hjl,hb⟩,hfl⟩
 right
 rw [ec] at hok ⊢
 refine ⟨hfn,rfl,Brk.of (D:=D) hok rfl rfl rfl hsure hT2 hjl hjs2 (Nat.le_refl _) (by rw [List.append_assoc];exact List.prefix_rfl)⟩
structure Whole (W:WK) (D:DK) (Ps:List (List BA)):Prop where
 ok:okD D
 up:D.down=false
 st:D.starts=W.s
 nb:W.bad=false
 lay:Bare (namesD D) W.b W.t
 smalls:∀ ps∈Ps,small ps
 full:Proofs.YtjlfdfmkofbccaaGreatDoor.full D.files (segsM W.b W.t) Ps
theorem Live.whole {W:WK} {D:DK} {init:List (List BA)} {last:List BA} (H:Live W D init last last.length):∃ Ps,Whole W D Ps∧Ps.flatten=init.flatten++last:=by
 obtain ⟨s,hT,hjs⟩:=H.torn
 rcases Nat.eq_zero_or_pos W.t with h0 | h0
 · obtain ⟨h1,h2⟩:=hT.zero h0
   exact ⟨init,⟨H.ok,H.up,H.st,H.nb,H.names,hT.smalls.1,by rw [h0];exact h1⟩,by rw [h2,List.append_nil]⟩
 obtain ⟨s0,hl,hj,hs0,hf⟩:=H.last h0
 rw [List.take_length] at hj
 obtain rfl:s0=((FB last).size:Int):=by omega
 refine ⟨init++[last],⟨H.ok,H.up,H.st,H.nb,H.names,fun ps hps=>?_,?_⟩,by simp⟩
 · rcases List.mem_append.1 hps with h | h
   · exact hT.smalls.1 ps h
   rw [List.mem_singleton.1 h];exact hT.smalls.2
 unfold full at hf ⊢
 rw [segs_succ h0,List.map_append,List.map_append,hf]
 simp [hl]
theorem Whole.next {W:WK} {D:DK} {Ps:List (List BA)} (H:Whole W D Ps) {ps:List BA} (hp:small ps) (h9:W.b+W.t<999999999) (h15:D.files.length<15) :
 (D.most-sumD D.files<((FB ps).size:Int)∧appD D (nmB 115 (W.b+W.t+1)) (FB ps)=(D,40)) ∨
 ((appD D (nmB 115 (W.b+W.t+1)) (FB ps)).2=0∧Live ⟨W.s,W.bad,W.b,W.t+1⟩ (appD D (nmB 115 (W.b+W.t+1)) (FB ps)).1 Ps ps 0∧(D.fails=none→(appD D (nmB 115 (W.b+W.t+1)) (FB ps)).1.fails=none)) ∨
 (D.fails≠none∧(appD D (nmB 115 (W.b+W.t+1)) (FB ps)).2=41∧Brk (appD D (nmB 115 (W.b+W.t+1)) (FB ps)).1 (Ps.flatten++ps) Ps.flatten.length):=by
 have hok:=app_ok H.ok (nmB 115 (W.b+W.t+1)) (FB ps)
 have hodd:=nm_odd (c:=115) (n:=W.b+W.t+1) (by omega)
 have hss:segsM W.b (W.t+1)=segsM W.b W.t++[nmB 115 (W.b+W.t+1)]:=segs_succ (b:=W.b) (t:=W.t+1) (by omega)
 have hnew:nmB 115 (W.b+W.t+1) ∉ segsM W.b W.t:=fun hx=>by
  have:=segs_nodup W.b (W.t+1)
  rw [hss,List.nodup_append] at this
  exact this.2.2 _ hx _ (List.mem_singleton_self _) rfl
 have hno:lk D.files (nmB 115 (W.b+W.t+1))=none:=by
  cases h:lk D.files (nmB 115 (W.b+W.t+1)) with
  | none=>rfl
  | some v=>exact absurd ((H.lay.2 _).1 (mem_names.2 (by rw [h];simp))) hnew
 have hhas:hasF D.files (nmB 115 (W.b+W.t+1))=false:=by rw [lk_has,hno];rfl
 have hlen:(segsM W.b W.t).length=D.files.length:=by
  have h2:=((List.perm_ext_iff_of_nodup (rise_nodup H.ok.rise) (segs_nodup W.b W.t)).2 H.lay.2).length_eq
  rw [List.length_map] at h2
  exact h2.symm
 by_cases hroom:D.most-sumD D.files<((FB ps).size:Int)
 · left
   refine ⟨hroom,?_⟩
   unfold appD
   rw [H.up,if_neg (by decide),hodd,if_neg (by decide),if_pos (.inr hroom)]
 right
 have e:appD D (nmB 115 (W.b+W.t+1)) (FB ps)=chg D true (appF D.files (nmB 115 (W.b+W.t+1)) (FB ps)):=by
  unfold appD
  rw [H.up,if_neg (by decide),hodd,if_neg (by decide),if_neg]
  rintro (⟨_,h1⟩ | h1)
  · omega
  exact hroom h1
 rw [e] at hok ⊢
 obtain ⟨L2,hL2⟩:∃ L2,L2=appF D.files (nmB 115 (W.b+W.t+1)) (FB ps):=⟨_,rfl⟩
 have hl2:∀ z,lk L2 z=if z=nmB 115 (W.b+W.t+1) then some (FB ps,0) else lk D.files z:=fun z=>by
  rw [hL2,lk_app H.ok.rise,hno]
 have hrise:riseF L2:=by
  rw [hL2]
  unfold appF
  rw [if_neg (by rw [hhas];decide)]
  exact riseF_ins H.ok.rise hhas
 have hsure:∀ f∈L2,0≤f.s∧f.s≤f.d.size:=fun f hf=>by
  have h1:=lk_of hrise hf
  rw [hl2] at h1
  split at h1
  · simp only [Option.some.injEq,Prod.mk.injEq] at h1
    rw [←h1.2]
    exact ⟨Int.le_refl _,Int.natCast_nonneg _⟩
  exact H.ok.sure _ (lk_mem h1)
 have hb:∀ x,lk L2 x≠none→x∈segsM W.b (W.t+1):=fun x hx=>by
  rw [hss]
  rw [hl2] at hx
  split at hx
  · rename_i e
    rw [e]
    exact List.mem_append_right _ (List.mem_singleton_self _)
  exact List.mem_append_left _ ((H.lay.2 x).1 (mem_names.2 hx))
 have hold:∀ x∈segsM W.b W.t,lk L2 x=lk D.files x:=fun x hx=>by
  rw [hl2,if_neg (fun e=>hnew (by rw [←e];exact hx))]
 have hT2:Torn L2 W.b (W.t+1) Ps ps (FB ps) 0:=by
  refine ⟨hrise,⟨by omega,fun x hx=>mem_names.2 ?_,fun x hx=>.inl (hb x (mem_names.1 hx))⟩,by rw [hss,List.length_append];simp only [List.length_singleton];omega,⟨H.smalls,hp⟩,fun q=>by omega,fun _=>⟨?_,?_,.empty,ba_eq (by rw [ba_app];simp)⟩⟩
  · rw [hss] at hx
    rcases List.mem_append.1 hx with hx | hx
    · rw [hold x hx]
      exact mem_names.1 ((H.lay.2 x).2 hx)
    rw [List.mem_singleton.1 hx,hl2,if_pos rfl]
    simp
  · exact full_congr hold H.full
  show lk L2 (nmB 115 (W.b+W.t+1))=_
  rw [hl2,if_pos rfl]
 have hjs2:0<W.t+1→((FB (ps.take 0)).size:Int)≤0:=fun _=>by
  rw [List.take_zero,FB_nil]
  exact Int.le_refl _
 rw [←hL2] at hok ⊢
 rcases chg_cases H.up true L2 with ⟨fl,hfl,ec⟩ | ⟨hfn,ec⟩
 · left
   rw [ec] at hok ⊢
   exact ⟨rfl,⟨hok,rfl,H.st,H.nb,⟨0,hT2,hjs2⟩,Nat.zero_le _,hb⟩,hfl⟩
 right
 rw [ec] at hok ⊢
 exact ⟨hfn,rfl,Brk.of (D:=D) hok rfl rfl rfl hsure hT2 (Nat.zero_le _) hjs2 (Nat.le_refl _) List.prefix_rfl⟩
theorem bad40 (b:Bool):(b || badE 40)=b:=by simp [badE]
theorem rem_torn {b t:Nat} {init:List (List BA)} {last:List BA} {s:Int}:∀ {S:List BA} {D:DK},okD D→D.down=false→Torn D.files b t init last (FB last) s→S.Nodup→(∀ x∈S,staleB b x=true∧∃ v,lk D.files x=some v) →
 ((runD (remL S) D).2=0∧okD (runD (remL S) D).1∧(runD (remL S) D).1.down=false∧(runD (remL S) D).1.starts=D.starts∧Torn (runD (remL S) D).1.files b t init last (FB last) s∧(∀ z,lk (runD (remL S) D).1.files z=if memB S z then none else lk D.files z)∧(D.fails=none→(runD (remL S) D).1.fails=none)∧(runD (remL S) D).1.most=D.most) ∨
 (D.fails≠none∧(runD (remL S) D).2=41∧okD (runD (remL S) D).1∧(runD (remL S) D).1.down=true∧(runD (remL S) D).1.fails=none∧∃ L K,(runD (remL S) D).1.files=crashF L K∧(∀ f∈L,0≤f.s∧f.s≤f.d.size)∧Torn L b t init last (FB last) s)
 | [],D,h1,h2,h3,_,_=>.inl ⟨rfl,h1,h2,rfl,h3,fun z=>rfl,fun h=>h,rfl⟩
 |
  x::S,D,h1,h2,h3,h4,h5=>by
  obtain ⟨hst,v,hv⟩:=h5 x List.mem_cons_self
  obtain ⟨n1,n2⟩:=List.nodup_cons.1 h4
  have hl:∀ z,lk (D.files.eraseIdx (posF D.files x)) z=if z=x then none else lk D.files z:=lk_erase h1.rise hv
  have hok:=rem_ok h1 x
  have e:remD D x=chg D false (D.files.eraseIdx (posF D.files x)):=by
   unfold remD
   rw [h2,if_neg (by decide),lk_has,hv]
   rfl
  have er:runD (remL (x::S)) D=if (remD D x).2=0 then runD (remL S) (remD D x).1 else remD D x:=rfl
  rw [er]
  rw [e] at hok ⊢
  rcases chg_cases h2 false (D.files.eraseIdx (posF D.files x)) with ⟨fl,hfl,ec⟩ | ⟨hfn,ec⟩
  · rw [ec] at hok ⊢
    rw [if_pos rfl]
    have hne:∀ y∈segsM b t,y≠x:=fun y hy q=>by
     have:=seg_fresh h3.lay.few hy
     rw [q,hst] at this
     cases this
    have hT2:Torn (D.files.eraseIdx (posF D.files x)) b t init last (FB last) s:=by
     refine h3.move (rise_erase h1.rise _) (fun y hy _=>by rw [hl,if_neg (hne y hy)]) (fun ht=>?_) (fun y hy=>?_) h3.smalls.2 (fun _=>⟨.empty,ba_eq (by rw [ba_app];simp)⟩) (fun h0=>(h3.zero h0).2)
     · rw [hl,if_neg (hne _ (by rw [segs_succ ht];exact List.mem_append_right _ (List.mem_singleton_self _)))]
       exact (h3.more ht).2.1
     rw [hl] at hy
     split at hy
     · exact absurd rfl hy
     exact h3.lay.all y (mem_names.2 hy)
    have hrest:=rem_torn (S:=S) (D:=⟨D.most,D.starts,false,D.files.eraseIdx (posF D.files x),fl,D.keep⟩) hok rfl hT2 n2 (fun y hy=>by
     obtain ⟨q1,w,q2⟩:=h5 y (List.mem_cons_of_mem _ hy)
     exact ⟨q1,w,by rw [hl,if_neg (fun q=>n1 (by rw [←q];exact hy))];exact q2⟩)
    rcases hrest with ⟨a1,a2,a3,a4,a5,a6,a7,a8⟩ | ⟨h0,h⟩
    · refine .inl ⟨a1,a2,a3,a4,a5,fun z=>?_,fun q=>a7 (hfl q),a8⟩
      rw [a6,hl]
      have em:memB (x::S) z=(decide (x=z) || memB S z):=rfl
      rw [em]
      by_cases hx:z=x
      · rw [if_pos hx,decide_eq_true hx.symm]
        simp
      rw [if_neg hx,decide_eq_false (fun q=>hx q.symm),Bool.false_or]
    exact .inr ⟨fun q=>h0 (hfl q),h⟩
  rw [ec] at hok ⊢
  rw [if_neg (by simp)]
  exact .inr ⟨hfn,rfl,hok,rfl,rfl,D.files,D.keep,rfl,h1.sure,h3⟩
theorem tB_seg {b t:Nat}:tB ∉ segsM b t:=fun h=>by
 rcases segs_mem.1 h with ⟨_,e⟩ | ⟨i,_,e⟩
 · have:=congrArg (fun x=>x.data.toList) e
   rw [nmB_list] at this
   simp [tB] at this
 have:=congrArg (fun x=>x.data.toList) e
 rw [nmB_list] at this
 simp [tB] at this
theorem tB_stale (b:Nat):staleB b tB=true:=stale_iff.2 (.inl rfl)
theorem tB_odd:oddS tB=false:=by decide
theorem Torn.draft {L L':List Fl} {b t:Nat} {init:List (List BA)} {last:List BA} {s:Int} (H:Torn L b t init last (FB last) s) (hr:riseF L') (h:∀ z,z≠tB→lk L' z=lk L z):Torn L' b t init last (FB last) s:=by
 have hne:∀ y∈segsM b t,y≠tB:=fun y hy q=>tB_seg (by rw [←q];exact hy)
 refine H.move hr (fun y hy _=>h y (hne y hy)) (fun ht=>?_) (fun y hy=>?_) H.smalls.2 (fun _=>⟨.empty,ba_eq (by rw [ba_app];simp)⟩) (fun h0=>(H.zero h0).2)
 · rw [h _ (hne _ (by rw [segs_succ ht];exact List.mem_append_right _ (List.mem_singleton_self _)))]
   exact (H.more ht).2.1
 by_cases e:y=tB
 · rw [e]
   exact .inr (tB_stale b)
 rw [h y e] at hy
 exact H.lay.all y (mem_names.2 hy)
theorem app_rise {D:DK} (h:okD D) (x y:BA) (hx:oddS x=false):riseF (appF D.files x y):=by
 unfold appF
 split
 · exact riseF_names (setF_names fun _=>rfl) h.rise
 rename_i hh
 exact riseF_ins h.rise (by simpa using hh)
theorem app_sure {D:DK} (h:okD D) (x y:BA) (hx:oddS x=false):∀ f∈appF D.files x y,0≤f.s∧f.s≤f.d.size:=fun f hf=>by
 have h1:=lk_of (app_rise h x y hx) hf
 rw [lk_app h.rise] at h1
 split at h1
 · cases hl:lk D.files x with
   |
    none =>
    rw [hl] at h1
    simp only [Option.some.injEq,Prod.mk.injEq] at h1
    rw [←h1.2]
    exact ⟨Int.le_refl _,Int.natCast_nonneg _⟩
   |
    some v =>
    rw [hl] at h1
    have h2:=h.sure _ (lk_mem hl)
    simp only [Option.some.injEq,Prod.mk.injEq] at h1
    rw [←h1.1,←h1.2,ByteArray.size_append]
    simp only at h2
    omega
 exact h.sure _ (lk_mem h1)
theorem Torn.anew {L L':List Fl} {b t n:Nat} {init:List (List BA)} {last:List BA} {s:Int} {ps:List BA} (H:Torn L b t init last (FB last) s) (hn:b+t<n) (hn9:n≤999999999) (hr:riseF L') (hp:small ps)
 (hc:lk L' (nmB 99 n)=some (FB ps,((FB ps).size:Int))) (hall:∀ z,lk L' z≠none→z=nmB 99 n∨lk L z≠none):Torn L' n 0 [ps] [] (FB []) 0:=by
 have hs0:segsM n 0=[nmB 99 n]:=by unfold segsM;rw [if_pos (by omega)];rfl
 refine ⟨hr,⟨by omega,fun x hx=>mem_names.2 ?_,fun x hx=>?_⟩,by rw [hs0];simp,⟨fun q hq=>by rw [List.mem_singleton.1 hq];exact hp,fun p h=>by cases h⟩,fun _=>⟨?_,rfl⟩,fun q=>absurd q (by decide)⟩
 · rw [hs0] at hx
   rw [List.mem_singleton.1 hx,hc]
   simp
 · rcases hall x (mem_names.1 hx) with h | h
   · rw [hs0,h]
     exact .inl (List.mem_singleton_self _)
   right
   rcases H.lay.all x (mem_names.2 h) with h2 | h2
   · exact stale_old hn hn9 h2
   rcases stale_iff.1 h2 with h3 | h3 | h3
   · exact stale_iff.2 (.inl h3)
   · exact stale_iff.2 (.inr (.inl (by omega)))
   exact stale_iff.2 (.inr (.inr (by omega)))
 unfold full
 rw [hs0]
 simp [hc]
theorem Live.ck {W:WK} {D:DK} {init:List (List BA)} {last:List BA} {j:Nat} (hL:Live W D init last j) {sure:Nat} (hs:sure≤init.flatten.length+j) (ps:List BA) :
 ((ckW W D ps).2.2=0∧small ps∧(ckW W D ps).1=⟨W.s,W.bad,W.b+W.t+1,0⟩∧Live (ckW W D ps).1 (ckW W D ps).2.1 [ps] [] 0∧(D.fails=none→(ckW W D ps).2.1.fails=none)∧(ckW W D ps).2.1.most=D.most) ∨
 (((ckW W D ps).2.2=3∧¬ small ps∨(ckW W D ps).2.2=40∧(999999999≤W.b+W.t∨D.most-sumD D.files<((FB ps).size:Int)))∧(ckW W D ps).1=W∧(ckW W D ps).2.1=D) ∨
 (D.fails≠none∧(ckW W D ps).2.2=41∧(Brk (ckW W D ps).2.1 (init.flatten++last) sure∨Brk (ckW W D ps).2.1 ps ps.length)):=by
 obtain ⟨s,hT,hjs⟩:=hL.torn
 unfold ckW
 rw [hL.ask,if_neg (by decide)]
 by_cases hf:(framedM ps).2=0
 · obtain ⟨hsm,hFB⟩:=framed_ok hf
   rw [if_neg (by simpa using hf),hFB]
   by_cases h99:999999999≤W.b+W.t
   · rw [if_pos h99]
     exact .inr (.inl ⟨.inr ⟨rfl,.inl h99⟩,rfl,rfl⟩)
   rw [if_neg h99]
   dsimp only
   have h15:D.files.length≤15:=by
    have h1:=hL.len
    have h2:=hT.few
    omega
   have hno:lk D.files tB=none:=by
    cases h:lk D.files tB with
    | none=>rfl
    | some v=>exact absurd (hL.bare tB (by rw [h];simp)) tB_seg
   have brk:∀ {D':DK} {L:List Fl} {K:List Int},okD D'→D'.down=true→D'.fails=none→D'.files=crashF L K→(∀ f∈L,0≤f.s∧f.s≤f.d.size)→Torn L W.b W.t init last (FB last) s→Brk D' (init.flatten++last) sure:=fun h1 h2 h3 h4 h5 h6 =>
    Brk.of (D:=D) h1 h2 h3 h4 h5 h6 hL.few hjs hs List.prefix_rfl
   by_cases hroom:D.most-sumD D.files<((FB ps).size:Int)
   · have e:appD D tB (FB ps)=(D,40):=by
      unfold appD
      rw [hL.up,if_neg (by decide),tB_odd,if_neg (by decide),if_pos (.inr hroom)]
     have er:runD (ckL3 (FB ps) (W.b+W.t+1)) D=(D,40):=by
      show (if (appD D tB (FB ps)).2=0 then _ else appD D tB (FB ps))=_
      rw [e,if_neg (by simp)]
     rw [er,if_pos (by simp)]
     exact .inr (.inl ⟨.inr ⟨rfl,.inr hroom⟩,by simp only;rw [bad40],rfl⟩)
   have e:appD D tB (FB ps)=chg D true (appF D.files tB (FB ps)):=by
    unfold appD
    rw [hL.up,if_neg (by decide),tB_odd,if_neg (by decide),if_neg]
    rintro (⟨_,h1⟩ | h1)
    · omega
    exact hroom h1
   have hok1:=app_ok hL.ok tB (FB ps)
   obtain ⟨L1,hL1⟩:∃ L1,L1=appF D.files tB (FB ps):=⟨_,rfl⟩
   have hl1:∀ z,lk L1 z=if z=tB then some (FB ps,0) else lk D.files z:=fun z=>by rw [hL1,lk_app hL.ok.rise,hno]
   have hr1:riseF L1:=by rw [hL1];exact app_rise hL.ok _ _ tB_odd
   have hs1:∀ f∈L1,0≤f.s∧f.s≤f.d.size:=by rw [hL1];exact app_sure hL.ok _ _ tB_odd
   have hT1:Torn L1 W.b W.t init last (FB last) s:=hT.draft hr1 fun z hz=>by rw [hl1,if_neg hz]
   rw [←hL1] at e
   rw [e] at hok1
   rcases chg_cases hL.up true L1 with ⟨fl,hfl,ec⟩ | ⟨hfn,ec⟩
   rotate_left
   · have er:runD (ckL3 (FB ps) (W.b+W.t+1)) D=chg D true L1:=by
      show (if (appD D tB (FB ps)).2=0 then _ else appD D tB (FB ps))=_
      rw [e,ec,if_neg (by simp)]
     rw [er]
     rw [ec] at hok1 ⊢
     rw [if_pos (by simp)]
     exact .inr (.inr ⟨hfn,rfl,.inl (brk hok1 rfl rfl rfl hs1 hT1)⟩)
   obtain ⟨D1,hD1⟩:∃ D1:DK,D1=⟨D.most,D.starts,false,L1,fl,D.keep⟩:=⟨_,rfl⟩
   rw [←hD1] at ec
   rw [ec] at hok1
   replace hok1:okD D1:=hok1
   have hf1:D1.files=L1:=by rw [hD1]
   have hu1:D1.down=false:=by rw [hD1]
   have hst1:D1.starts=D.starts:=by rw [hD1]
   have er1:runD (ckL3 (FB ps) (W.b+W.t+1)) D=runD [fun D=>syncD D tB,fun D=>renD D tB (nmB 99 (W.b+W.t+1))] D1:=by
    unfold ckL3
    rw [runD]
    simp only [e,ec,if_true]
   rw [er1]
   have hlt1:lk D1.files tB=some (FB ps,0):=by rw [hf1,hl1,if_pos rfl]
   have e2:syncD D1 tB=chg D1 false (setF D1.files tB fun f=>⟨f.n,f.d,(f.d.size:Nat)⟩):=by
    unfold syncD
    rw [hu1,if_neg (by decide),lk_has,hlt1]
    rfl
   have hok2:=sync_ok hok1 tB
   obtain ⟨L2,hL2⟩:∃ L2,L2=setF D1.files tB fun f=>⟨f.n,f.d,(f.d.size:Nat)⟩:=⟨_,rfl⟩
   have hl2:∀ z,lk L2 z=if z=tB then some (FB ps,((FB ps).size:Int)) else lk L1 z:=fun z=>by
    rw [hL2,lk_setF hok1.rise hlt1 (g:=fun f=>⟨f.n,f.d,(f.d.size:Nat)⟩) (fun _=>rfl),hf1]
   have hr2:riseF L2:=by rw [hL2];exact riseF_names (setF_names fun _=>rfl) hok1.rise
   have hT2:Torn L2 W.b W.t init last (FB last) s:=hT1.draft hr2 fun z hz=>by rw [hl2,if_neg hz]
   rw [←hL2] at e2
   rw [e2] at hok2
   rcases chg_cases hu1 false L2 with ⟨fl2,hfl2,ec2⟩ | ⟨hfn,ec2⟩
   rotate_left
   · have er:runD [fun D=>syncD D tB,fun D=>renD D tB (nmB 99 (W.b+W.t+1))] D1=chg D1 false L2:=by
      rw [runD]
      simp only [e2,ec2]
      rw [if_neg (by simp)]
     rw [er]
     rw [ec2] at hok2 ⊢
     rw [if_pos (by simp)]
     exact .inr (.inr ⟨fun q=>hfn (by rw [hD1];exact hfl q),rfl,.inl (brk hok2 rfl rfl rfl hok1.sure (by rw [hf1];exact hT1))⟩)
   obtain ⟨D2,hD2⟩:∃ D2:DK,D2=⟨D1.most,D1.starts,false,L2,fl2,D1.keep⟩:=⟨_,rfl⟩
   rw [←hD2] at ec2
   rw [ec2] at hok2
   replace hok2:okD D2:=hok2
   have hf2:D2.files=L2:=by rw [hD2]
   have hu2:D2.down=false:=by rw [hD2]
   have hst2:D2.starts=D.starts:=by rw [hD2];exact hst1
   have er2:runD [fun D=>syncD D tB,fun D=>renD D tB (nmB 99 (W.b+W.t+1))] D1=renD D2 tB (nmB 99 (W.b+W.t+1)):=by
    rw [runD]
    simp only [e2,ec2,if_true]
    exact run_one (fun D=>renD D tB (nmB 99 (W.b+W.t+1))) D2
   rw [er2]
   have hlt2:lk D2.files tB=some (FB ps,((FB ps).size:Int)):=by rw [hf2,hl2,if_pos rfl]
   have hoc:=nm_odd (c:=99) (n:=W.b+W.t+1) (by omega)
   have e3:renD D2 tB (nmB 99 (W.b+W.t+1))=chg D2 false (renF D2.files tB (nmB 99 (W.b+W.t+1))):=by
    unfold renD
    rw [hu2,if_neg (by decide),lk_has,hlt2]
    simp only [Option.isSome_some,if_true]
    rw [hoc,if_neg (by decide)]
   have hok3:=ren_ok hok2 tB (nmB 99 (W.b+W.t+1))
   obtain ⟨L3,hL3⟩:∃ L3,L3=renF D2.files tB (nmB 99 (W.b+W.t+1)):=⟨_,rfl⟩
   have hl3:∀ z,lk L3 z=if z=nmB 99 (W.b+W.t+1) then some (FB ps,((FB ps).size:Int)) else if z=tB then none else lk L2 z:=fun z=>by rw [hL3,lk_ren hok2.rise hlt2,hf2]
   rw [←hL3] at e3
   rw [e3] at hok3 ⊢
   rcases chg_cases hu2 false L3 with ⟨fl3,hfl3,ec3⟩ | ⟨hfn,ec3⟩
   rotate_left
   · rw [ec3] at hok3 ⊢
     rw [if_pos (by simp)]
     exact .inr (.inr ⟨fun q=>hfn (by rw [hD2];exact hfl2 (by rw [hD1];exact hfl q)),rfl,.inl (brk hok3 rfl rfl rfl hok2.sure (by rw [hf2];exact hT2))⟩)
   rw [ec3] at hok3 ⊢
   rw [if_neg (by simp)]
   have hT3:Torn L3 (W.b+W.t+1) 0 [ps] [] (FB []) 0:=hT2.anew (by omega) (by omega) hok3.rise hsm (by rw [hl3,if_pos rfl]) fun z hz=>by
    rw [hl3] at hz
    split at hz
    · rename_i q
      exact .inl q
    split at hz
    · exact absurd rfl hz
    exact .inr hz
   obtain ⟨D3,hD3⟩:∃ D3:DK,D3=⟨D2.most,D2.starts,false,L3,fl3,D2.keep⟩:=⟨_,rfl⟩
   have hf3:D3.files=L3:=by rw [hD3]
   have hu3:D3.down=false:=by rw [hD3]
   have hst3:D3.starts=D.starts:=by rw [hD3];exact hst2
   rw [←hD3] at hok3 ⊢
   replace hok3:okD D3:=hok3
   rw [←hf3] at hT3
   have hbase:baseM (namesD D3)=W.b+W.t+1:=hT3.lay.base
   have htail:tailsM (namesD D3)=0:=hT3.lay.tails
   have hstal:staleM (namesD D3)=(namesD D3).filter (staleB (W.b+W.t+1)):=hT3.lay.stale
   simp only
   rw [hbase,htail,hstal]
   have hSm:∀ x,x∈(namesD D3).filter (staleB (W.b+W.t+1))↔lk D3.files x≠none∧staleB (W.b+W.t+1) x=true:=fun x=>by rw [List.mem_filter,names_fl,mem_names]
   rcases rem_torn (S:=(namesD D3).filter (staleB (W.b+W.t+1))) hok3 hu3 hT3 ((rise_nodup hT3.rise).filter _) (fun x hx=>⟨((hSm x).1 hx).2,Option.ne_none_iff_exists'.1 ((hSm x).1 hx).1⟩) with ⟨a1,a2,a3,a4,a5,a6,a7,a8⟩ | ⟨a0,a1,a2,a3,a4,L,K,a5,a6,a7⟩
   · have hca:D.fails=none→D3.fails=none:=fun q=>by
      rw [hD3]
      exact hfl3 (by rw [hD2];exact hfl2 (by rw [hD1];exact hfl q))
     have hmo:D3.most=D.most:=by rw [hD3,hD2,hD1]
     refine .inl ⟨a1,hsm,by rw [a1,bad_zero],⟨a2,a3,?_,?_,⟨0,a5,fun q=>absurd q (by simp)⟩,Nat.le_refl _,fun x hx=>?_⟩,fun q=>a7 (hca q),by rw [a8,hmo]⟩
     · rw [a4,hst3,hL.st]
     · simp only
       rw [a1,bad_zero,hL.nb]
     rw [a6] at hx
     split at hx
     · exact absurd rfl hx
     rename_i q
     rcases hT3.lay.all x (mem_names.2 hx) with h | h
     · exact h
     exact absurd (memB_iff.2 ((hSm x).2 ⟨hx,h⟩)) q
   exact .inr (.inr ⟨fun q=>a0 (by rw [hD3];exact hfl3 (by rw [hD2];exact hfl2 (by rw [hD1];exact hfl q))),a1,.inr (Brk.of (D:=D) a2 a3 a4 a5 a6 a7 (Nat.le_refl _) (fun q=>absurd q (by decide)) (by simp) (by simp))⟩)
 rw [if_pos hf]
 exact .inr (.inl ⟨.inl ⟨framed_err hf,fun q=>hf (by rw [framed_small q])⟩,rfl,rfl⟩)
theorem Live.new {m:Int} (h1:1≤m) (h2:m≤1048576):Live ⟨0,false,0,0⟩ ⟨m,0,false,[],none,[]⟩ [] [] 0:=by
 have hs0:segsM 0 0=[]:=rfl
 exact ⟨new_ok h1 h2,rfl,rfl,rfl,⟨0,⟨List.Pairwise.nil,⟨by decide,fun x hx=>(by rw [hs0] at hx;cases hx),fun x hx=>(by cases hx)⟩,by rw [hs0];decide,⟨fun q hq=>(by cases hq),fun q hq=>(by cases hq)⟩,fun _=>⟨rfl,rfl⟩,fun q=>absurd q (by decide)⟩,fun q=>absurd q (by decide)⟩,Nat.le_refl _,fun x hx=>absurd rfl hx⟩
theorem Logs.new {m:Int} (h1:1≤m) (h2:m≤1048576):Logs ⟨0,false,0,0⟩ ⟨m,0,false,[],none,[]⟩ [] 0:=⟨[],[],0,Live.new h1 h2,rfl,Nat.le_refl _⟩
theorem names_lk {D:DK} {z:BA}:z∈namesD D↔lk D.files z≠none:=mem_names
theorem chg_two {D:DK} (hu:D.down=false) {late:Bool} {L2:List Fl}:(chg D late L2).2=0∧(chg D late L2).1.down=false∧(chg D late L2).1.files=L2∧(chg D late L2).1.starts=D.starts∨(chg D late L2).2=41∧(chg D late L2).1.down=true∧(chg D late L2).1.starts=D.starts:=by
 rcases chg_cases hu late L2 with ⟨fl,_,he⟩ | ⟨_,he⟩
 · rw [he];exact .inl ⟨rfl,rfl,rfl,rfl⟩
 rw [he];exact .inr ⟨rfl,rfl,rfl⟩
def Outc (D:DK) (r:DK × Int) (P:BA→Prop):Prop:=(r.2=0∧r.1.down=false∧r.1.starts=D.starts∧∀ z,z∈namesD r.1↔P z)∨(r.2≠0∧r.2≠41∧r.1=D)∨(r.2=41∧r.1.down=true∧r.1.starts=D.starts)
theorem chg_out {D:DK} (hu:D.down=false) {late:Bool} {L2:List Fl} {P:BA→Prop} (h:∀ z,lk L2 z≠none↔P z):Outc D (chg D late L2) P:=by
 rcases chg_two hu (late:=late) (L2:=L2) with ⟨h1,h2,h3,h4⟩ | ⟨h1,h2,h3⟩
 · exact .inl ⟨h1,h2,h4,fun z=>by rw [names_lk,h3];exact h z⟩
 exact .inr (.inr ⟨h1,h2,h3⟩)
theorem app_out {D:DK} (hD:okD D) (hu:D.down=false) (x y:BA):Outc D (appD D x y) (fun z=>z∈namesD D∨z=x):=by
 unfold appD
 rw [if_neg (by rw [hu];decide)]
 split
 · exact .inr (.inl ⟨by simp,by simp,rfl⟩)
 split
 · exact .inr (.inl ⟨by simp,by simp,rfl⟩)
 refine chg_out hu fun z=>?_
 rw [lk_app hD.rise,names_lk]
 by_cases hz:z=x
 · rw [if_pos hz];simp [hz]
 rw [if_neg hz];simp [hz]
theorem sync_out {D:DK} (hD:okD D) (hu:D.down=false) (x:BA):Outc D (syncD D x) (fun z=>z∈namesD D)∧(syncD D x).2≠40:=by
 unfold syncD
 rw [if_neg (by rw [hu];decide)]
 split
 · rename_i hh
   obtain ⟨v,hv⟩:∃ v,lk D.files x=some v:=Option.isSome_iff_exists.1 (by rw [←lk_has];exact hh)
   refine ⟨chg_out hu fun z=>?_,fun q=>?_⟩
   · rw [lk_setF hD.rise hv (g:=fun f=>⟨f.n,f.d,(f.d.size:Nat)⟩) (fun _=>rfl),names_lk]
     by_cases hz:z=x
     · rw [if_pos hz,hz,hv];simp
     rw [if_neg hz]
   rcases chg_two hu (late:=false) (L2:=setF D.files x fun f=>⟨f.n,f.d,(f.d.size:Int)⟩) with ⟨h1,_⟩ | ⟨h1,_⟩<;>rw [h1] at q<;>exact absurd q (by decide)
 exact ⟨.inr (.inl ⟨by simp,by simp,rfl⟩),by simp⟩
theorem trunc_out {D:DK} (hD:okD D) (hu:D.down=false) (x:BA) (n:Int):Outc D (truncD D x n) (fun z=>z∈namesD D):=by
 unfold truncD
 rw [if_neg (by rw [hu];decide)]
 split
 · rename_i hh
   obtain ⟨v,hv⟩:∃ v,lk D.files x=some v:=Option.isSome_iff_exists.1 (by rw [←lk_has];exact hh)
   split
   · exact .inr (.inl ⟨by simp,by simp,rfl⟩)
   refine chg_out hu fun z=>?_
   rw [lk_setF hD.rise hv (g:=fun f=>⟨f.n,f.d.extract 0 n.toNat,min f.s n⟩) (fun _=>rfl),names_lk]
   by_cases hz:z=x
   · rw [if_pos hz,hz,hv];simp
   rw [if_neg hz]
 exact .inr (.inl ⟨by simp,by simp,rfl⟩)
theorem ren_out {D:DK} (hD:okD D) (hu:D.down=false) (x y:BA):Outc D (renD D x y) (fun z=>z=y∨(z∈namesD D∧z≠x))∧(renD D x y).2≠40:=by
 unfold renD
 rw [if_neg (by rw [hu];decide)]
 split
 · rename_i hh
   obtain ⟨v,hv⟩:∃ v,lk D.files x=some v:=Option.isSome_iff_exists.1 (by rw [←lk_has];exact hh)
   split
   · exact ⟨.inr (.inl ⟨by simp,by simp,rfl⟩),by simp⟩
   refine ⟨chg_out hu fun z=>?_,fun q=>?_⟩
   · rw [lk_ren hD.rise hv,names_lk]
     by_cases hz:z=y
     · rw [if_pos hz];simp [hz]
     rw [if_neg hz]
     by_cases hx:z=x
     · rw [if_pos hx];simp [hx];rw [←hx];exact hz
     rw [if_neg hx];simp [hz,hx]
   rcases chg_two hu (late:=false) (L2:=renF D.files x y) with ⟨h1,_⟩ | ⟨h1,_⟩<;>rw [h1] at q<;>exact absurd q (by decide)
 exact ⟨.inr (.inl ⟨by simp,by simp,rfl⟩),by simp⟩
theorem ask_zero {s:Int} {bad:Bool} {D:DK} (h:askW s bad D=0):bad=false∧D.down=false∧D.starts=s:=by
 unfold askW at h
 split at h
 · cases h
 rename_i q
 simp only [Bool.or_eq_true,not_or,Bool.not_eq_true,Bool.not_eq_false',beq_iff_eq] at q
 exact ⟨q.1.1,q.1.2,q.2⟩
theorem bad_false {bad:Bool} {e:Int} (h:(bad || badE e)=false):bad=false∧(e=0∨e=40):=by
 rw [Bool.or_eq_false_iff] at h
 refine ⟨h.1,?_⟩
 have:=h.2
 unfold badE at this
 simp at this
 omega
structure Tame (W:WK) (D:DK):Prop where
 ok:okD D
 okW:okW W
 few:W.t≤16
 lay:askW W.s W.bad D=0→Lay (namesD D) W.b W.t
 st:W.s≤D.starts
theorem Lay.few16 {D:DK} (hD:okD D) {b t:Nat} (h:Lay (namesD D) b t):t≤16:=by
 have h1:=(segs_nodup b t).length_le_of_subset (fun x hx=>h.segs x hx)
 have h2:(namesD D).length≤16:=by unfold namesD;rw [List.length_map];exact hD.few
 unfold segsM at h1
 rw [List.length_append,List.length_map,List.length_range] at h1
 omega
theorem Lay.same {N N':List BA} {b t:Nat} (h:Lay N b t) (e:∀ z,z∈N'↔z∈N):Lay N' b t:=⟨h.few,fun x hx=>(e x).2 (h.segs x hx),fun x hx=>h.all x ((e x).1 hx)⟩
theorem Lay.next {N N':List BA} {b t:Nat} (h:Lay N b t) (h9:b+t<999999999) (e:∀ z,z∈N'↔z∈N∨z=nmB 115 (b+t+1)):Lay N' b (t+1) :=
 ⟨by omega,fun x hx=>by
  rw [segsM_one] at hx
  rcases List.mem_append.1 hx with q | q
  · exact (e x).2 (.inl (h.segs x q))
  · exact (e x).2 (.inr (List.mem_singleton.1 q)),fun x hx=>by
  rw [segsM_one]
  rcases (e x).1 hx with q | q
  · exact (h.all x q).imp (fun q=>List.mem_append_left _ q) id
  exact .inl (List.mem_append_right _ (List.mem_singleton.2 q))⟩
theorem Lay.less {N N':List BA} {b t:Nat} (h:Lay N b t) (e:∀ z,z∈N'↔z∈N∧z ∉ staleM N):Lay N' b t:=by
 refine ⟨h.few,fun x hx=>(e x).2 ⟨h.segs x hx,fun q=>?_⟩,fun x hx=>h.all x ((e x).1 hx).1⟩
 have:=(stale_mem q).2.1
 rw [h.base,seg_fresh h.few hx] at this
 cases this
theorem Lay.turn {N N':List BA} {b t:Nat} (h:Lay N b t) (h9:b+t<999999999) (e:∀ z,z∈N'↔z=nmB 99 (b+t+1)∨(z∈N∧z≠tB)):Lay N' (b+t+1) 0:=by
 have hs:segsM (b+t+1) 0=[nmB 99 (b+t+1)]:=by unfold segsM;rw [if_pos (by omega)];rfl
 refine ⟨by omega,fun x hx=>?_,fun x hx=>?_⟩
 · rw [hs] at hx
   exact (e x).2 (.inl (List.mem_singleton.1 hx))
 rcases (e x).1 hx with q | ⟨q,q2⟩
 · left
   rw [hs]
   exact List.mem_singleton.2 q
 right
 rcases h.all x q with q | q
 · exact stale_old (by omega) (by omega) q
 rw [stale_iff] at q ⊢
 rcases q with q | ⟨q,q3⟩ | ⟨q,q3⟩
 · exact .inl q
 · exact .inr (.inl ⟨q,by omega⟩)
 exact .inr (.inr ⟨q,by omega⟩)
structure Calm (D D':DK) (n:Int):Prop where
 fails:D'.fails=none
 most:D'.most=D.most
 starts:D'.starts=D.starts
 sum:(sumD D'.files:Int)=sumD D.files+n
theorem chg_calm0 {D:DK} (hu:D.down=false) (hf:D.fails=none) (late:Bool) (L2:List Fl):chg D late L2=(⟨D.most,D.starts,false,L2,none,D.keep⟩,0):=by
 unfold chg
 rw [hf,hu]
theorem appD_calm {D:DK} (hD:okD D) (hu:D.down=false) (hf:D.fails=none) {x y:BA} (ho:oddS x=false) (hr:(sumD D.files:Int)+y.size≤D.most) (hh:hasF D.files x=true∨D.files.length≠16) :
 (appD D x y).2=0∧Calm D (appD D x y).1 y.size∧(appD D x y).1.files=appF D.files x y:=by
 have e:appD D x y=(⟨D.most,D.starts,false,appF D.files x y,none,D.keep⟩,0):=by
  unfold appD
  rw [hu,if_neg (by decide),ho,if_neg (by decide),if_neg,chg_calm0 hu hf]
  rintro (⟨h1,h2⟩ | h1)
  · rcases hh with h | h
    · rw [h] at h1
      cases h1
    exact h h2
  omega
 rw [e]
 refine ⟨rfl,⟨rfl,rfl,rfl,?_⟩,rfl⟩
 simp only
 rw [appF_sum hD.rise]
 omega
theorem syncD_calm {D:DK} (hD:okD D) (hu:D.down=false) (hf:D.fails=none) {x:BA} {v:BA × Int} (hv:lk D.files x=some v):(syncD D x).2=0∧Calm D (syncD D x).1 0:=by
 obtain ⟨hi,he⟩:=lk_at hD.rise hv
 have e:syncD D x=(⟨D.most,D.starts,false,setF D.files x fun f=>⟨f.n,f.d,(f.d.size:Nat)⟩,none,D.keep⟩,0):=by
  unfold syncD
  rw [hu,if_neg (by decide),lk_has,hv]
  simp only [Option.isSome_some,if_true]
  rw [chg_calm0 hu hf]
 rw [e]
 refine ⟨rfl,rfl,rfl,rfl,?_⟩
 simp only
 rw [setF_eq hi]
 have:=sumD_set hi (⟨D.files[posF D.files x].n,D.files[posF D.files x].d,(D.files[posF D.files x].d.size:Nat)⟩:Fl)
 simp only at this
 omega
theorem Live.more {W:WK} {D:DK} {init:List (List BA)} {last:List BA} {j:Nat} (H:Live W D init last j) (hf:D.fails=none) (ht:0<W.t) (hz:(FB last).size<16384) {ps:List BA} (hp:small ps) (hn:ps≠[]) (hr:(sumD D.files:Int)+(FB ps).size≤D.most) :
 ∃ D',appW W D ps=(W,D',0)∧Live W D' init (last++ps) j∧Calm D D' (FB ps).size∧∀ v,lk D.files (nmB 115 (W.b+W.t))=some v→lk D'.files (nmB 115 (W.b+W.t))=some (v.1++FB ps,v.2):=by
 have hb9:=H.okW
 unfold Proofs.YtjlfdfmkofbccaaGreatDoor.okW at hb9
 obtain ⟨s0,hl,_⟩:=H.last ht
 obtain ⟨h1,h2,hfiles⟩:=appD_calm H.ok H.up hf (nm_odd (c:=115) (n:=W.b+W.t) (by omega)) hr (.inl (by rw [lk_has,hl];rfl))
 rcases H.put ht hp with ⟨_,h⟩ | ⟨_,h,_⟩ | ⟨_,h,_⟩
 · rw [h] at h1
   cases h1
 · refine ⟨_,?_,h,h2,fun v hv=>by rw [hfiles,lk_app H.ok.rise,if_pos rfl,hv]⟩
   rw [appW_some H.ask (by rw [framed_small hp]) hn,framed_small hp]
   have e:(readD D (nmB 115 (W.b+W.t))).1=FB last:=by rw [read_lk H.up H.ok.rise,hl]
   rw [e,if_pos ⟨ht,hz⟩]
   simp only [h1,bad_zero]
 rw [h1] at h
 cases h
theorem Live.first {W:WK} {D:DK} {init:List (List BA)} (H:Live W D init [] 0) (hf:D.fails=none) (ht:W.t=0) (h9:W.b<999999999) (h15:D.files.length<15) {ps:List BA} (hp:small ps) (hn:ps≠[]) (hr:(sumD D.files:Int)+(FB ps).size≤D.most) :
 ∃ D',appW W D ps=(⟨W.s,W.bad,W.b,1⟩,D',0)∧Live ⟨W.s,W.bad,W.b,1⟩ D' init ps 0∧Calm D D' (FB ps).size:=by
 obtain ⟨s,hT,_⟩:=H.torn
 obtain ⟨hfu,_⟩:=hT.zero ht
 have hw:Whole W D init:=⟨H.ok,H.up,H.st,H.nb,H.names,hT.smalls.1,by rw [ht];exact hfu⟩
 obtain ⟨h1,h2,hfiles⟩:=appD_calm H.ok H.up hf (nm_odd (c:=115) (n:=W.b+W.t+1) (by omega)) hr (.inr (by omega))
 rcases hw.next hp (by omega) h15 with ⟨_,h⟩ | ⟨_,h,_⟩ | ⟨_,h,_⟩
 · rw [h] at h1
   cases h1
 · rw [ht] at h
   refine ⟨(appD D (nmB 115 (W.b+0+1)) (FB ps)).1,?_,h,by rw [ht] at h2;exact h2⟩
   rw [appW_some H.ask (by rw [framed_small hp]) hn,framed_small hp,ht]
   simp only [Nat.lt_irrefl,if_false,false_and,ne_eq,not_true_eq_false]
   rw [if_neg (by omega)]
   rw [ht] at h1
   simp only [h1,bad_zero,if_true]
 rw [h1] at h
 cases h
theorem Live.grows {W:WK} {D:DK} {init:List (List BA)} {last:List BA} {j:Nat} (H:Live W D init last j) (hf:D.fails=none) (ht:0<W.t) (hz:¬ (FB last).size<16384) (h9:W.b+W.t<999999999) (h15:D.files.length<15) {ps:List BA} (hp:small ps) (hn:ps≠[]) (hr:(sumD D.files:Int)+(FB ps).size≤D.most) :
 ∃ D' Ps,appW W D ps=(⟨W.s,W.bad,W.b,W.t+1⟩,D',0)∧Live ⟨W.s,W.bad,W.b,W.t+1⟩ D' Ps ps 0∧Calm D D' (FB ps).size∧Ps.flatten=init.flatten++last:=by
 obtain ⟨s0,hl,_⟩:=H.last ht
 obtain ⟨g1,g2⟩:=syncD_calm H.ok H.up hf hl
 rcases H.sync ht with ⟨_,h2,h3,_⟩ | ⟨_,h,_⟩
 · obtain ⟨D1,hD1⟩:∃ D1,D1=(syncD D (nmB 115 (W.b+W.t))).1:=⟨_,rfl⟩
   rw [←hD1] at g2 h2
   obtain ⟨Ps,hw,hfl⟩:=h2.whole
   have hlen:D1.files.length=D.files.length:=by rw [h2.len,H.len]
   have hsum:=g2.sum
   obtain ⟨k1,k2,_⟩:=appD_calm h2.ok h2.up g2.fails (nm_odd (c:=115) (n:=W.b+W.t+1) (by omega)) (y:=FB ps) (by rw [g2.most];omega) (.inr (by omega))
   rcases hw.next hp h9 (by omega) with ⟨_,h⟩ | ⟨_,h,_⟩ | ⟨_,h,_⟩
   · rw [h] at k1
     cases k1
   · refine ⟨_,Ps,?_,h,⟨k2.fails,by rw [k2.most,g2.most],by rw [k2.starts,g2.starts],by rw [k2.sum];omega⟩,hfl⟩
     rw [appW_some H.ask (by rw [framed_small hp]) hn,framed_small hp]
     have e:(readD D (nmB 115 (W.b+W.t))).1=FB last:=by rw [read_lk H.up H.ok.rise,hl]
     rw [e,if_neg (fun q=>hz q.2),if_pos ht]
     dsimp only
     rw [g1,if_neg (by decide),←hD1,if_neg (by omega)]
     simp only [k1,bad_zero,if_true]
   rw [k1] at h
   cases h
 rw [g1] at h
 cases h
theorem Live.syncs {W:WK} {D:DK} {init:List (List BA)} {last:List BA} {j:Nat} (H:Live W D init last j) (hf:D.fails=none) (ht:0<W.t):∃ D',syncW W D=(W,D',0)∧Live W D' init last last.length∧Calm D D' 0:=by
 obtain ⟨s0,hl,_⟩:=H.last ht
 obtain ⟨g1,g2⟩:=syncD_calm H.ok H.up hf hl
 rcases H.sync ht with ⟨_,h2,h3,_⟩ | ⟨_,h,_⟩
 · refine ⟨_,?_,h2,g2⟩
   unfold syncW
   rw [H.ask,if_neg (by decide),if_neg (by omega)]
   simp only [g1,bad_zero]
 rw [g1] at h
 cases h
theorem FB_cons (p:BA) (ps:List BA):(FB (p::ps)).size=(putL (2*p.size)).length+4+p.size+(FB ps).size:=by
 have h:FB (p::ps)=FB [p]++FB ps:=by rw [FB_add];rfl
 rw [h,ByteArray.size_append]
 have h2:(FB [p]).size=(frameL ckL p.data.toList).length:=by
  unfold FB
  rw [strL_size]
  simp [framesL]
 rw [h2]
 unfold frameL
 simp only [List.length_append,ckL_len,size_data]
 omega
theorem put_two:(putL 2).length=1:=by rw [putL_small (by decide)];rfl
theorem put_kilo:(putL 16384).length=3:=by
 rw [putL_great (by decide),putL_great (by decide),putL_small (by decide)]
 rfl
def szF (L:List Fl) (x:BA):Nat:=match lk L x with | some v=>v.1.size | none=>0
theorem sumD_names {L:List Fl} (h:riseF L):sumD L=((L.map (·.n)).map (szF L)).sum:=by
 unfold sumD
 rw [List.map_map]
 congr 1
 refine List.map_congr_left fun f hf=>?_
 simp only [Function.comp_apply,szF]
 rw [lk_of h hf]
theorem perm_sum {l m:List Nat} (h:l.Perm m):l.sum=m.sum:=by
 induction h with
 | nil=>rfl
 | cons x _ ih=>rw [List.sum_cons,List.sum_cons,ih]
 | swap x y l=>simp only [List.sum_cons];omega
 | trans _ _ h1 h2=>rw [h1,h2]
theorem full_sum {L:List Fl}:∀ {names:List BA} {Ps:List (List BA)},full L names Ps→(names.map (szF L)).sum=(FB Ps.flatten).size
 | [],[],_=>by rw [List.flatten_nil,FB_nil];rfl
 | [],p::Ps,h=>by simp [full] at h
 | x::names,[],h=>by simp [full] at h
 |
  x::names,p::Ps,h=>by
  unfold full at h
  simp only [List.map_cons,List.cons.injEq] at h
  rw [List.map_cons,List.sum_cons,full_sum (names:=names) (Ps:=Ps) h.2,List.flatten_cons,FB_size_append]
  congr 1
  unfold szF
  rw [h.1]
theorem Live.segsum {W:WK} {D:DK} {init:List (List BA)} {last:List BA} {j:Nat} (H:Live W D init last j):((segsM W.b W.t).map (szF D.files)).sum=(FB (init.flatten++last)).size:=by
 obtain ⟨s,hT,_⟩:=H.torn
 rcases Nat.eq_zero_or_pos W.t with h0 | h0
 · obtain ⟨h1,h2⟩:=hT.zero h0
   rw [h2,List.append_nil,h0]
   exact full_sum h1
 obtain ⟨h1,h2,_⟩:=hT.more h0
 rw [segs_succ h0,List.map_append,List.sum_append,full_sum h1,FB_size_append]
 congr 1
 simp [szF,h2]
theorem Live.sum {W:WK} {D:DK} {init:List (List BA)} {last:List BA} {j:Nat} (H:Live W D init last j):sumD D.files=(FB (init.flatten++last)).size:=by
 rw [sumD_names H.ok.rise,←H.segsum]
 exact perm_sum (((List.perm_ext_iff_of_nodup (rise_nodup H.ok.rise) (segs_nodup W.b W.t)).2 H.names.2).map _)
theorem Live.segments {W:WK} {D:DK} {init:List (List BA)} {last:List BA} {j:Nat} (H:Live W D init last j):segsW W D=D.files.length:=by
 unfold segsW
 rw [H.ask,if_neg (by decide),H.len]
theorem Live.anew {W:WK} {D:DK} {init:List (List BA)} {last:List BA} {j:Nat} (H:Live W D init last j) (hf:D.fails=none) (h9:W.b+W.t<999999999) {ps:List BA} (hp:small ps) (hr:(sumD D.files:Int)+(FB ps).size≤D.most) :
 ∃ D',ckW W D ps=(⟨W.s,W.bad,W.b+W.t+1,0⟩,D',0)∧Live ⟨W.s,W.bad,W.b+W.t+1,0⟩ D' [ps] [] 0∧D'.fails=none∧D'.most=D.most:=by
 rcases H.ck (sure:=0) (Nat.zero_le _) ps with ⟨h1,_,h3,h4,h5,h6⟩ | ⟨h1,_⟩ | ⟨h1,_⟩
 · rw [h3] at h4
   exact ⟨_,Prod.ext h3 (Prod.ext rfl h1),h4,h5 hf,h6⟩
 · rcases h1 with ⟨_,h1⟩ | ⟨_,h1 | h1⟩
   · exact absurd hp h1
   · omega
   omega
 exact absurd hf h1
def z8:BA:=strL (List.replicate 8192 0)
theorem z8_size:z8.size=8192:=by unfold z8;rw [strL_size,List.length_replicate]
def ch (c:UInt8):BA:=⟨#[c]⟩
theorem ch_size (c:UInt8):(ch c).size=1:=rfl
theorem small_of {ps:List BA} (h:ps.all (fun p=>decide (p.size≤8192))=true):small ps:=fun p hp=>of_decide_eq_true (List.all_eq_true.1 h p hp)
theorem FB_one (c:UInt8) (ps:List BA):(FB (ch c::ps)).size=6+(FB ps).size:=by
 rw [FB_cons,ch_size,put_two]
theorem FB_z (ps:List BA):(FB (z8::ps)).size=8199+(FB ps).size:=by
 rw [FB_cons,z8_size,put_kilo]
theorem FB_zero:(FB []).size=0:=by rw [FB_nil];rfl
theorem c3_is:nmB 99 3=⟨#[99,51]⟩:=ba_eq (by rw [nmB_list,decL_small (by decide)];rfl)
theorem s4_is:nmB 115 4=⟨#[115,52]⟩:=ba_eq (by rw [nmB_list,decL_small (by decide)];rfl)
def W0_:WK:=⟨0,false,0,0⟩
def W1_:WK:=⟨0,false,0,1⟩
def W6_:WK:=⟨1,false,0,1⟩
def W8_:WK:=⟨1,false,0,2⟩
def W9_:WK:=⟨1,false,3,0⟩
def W10_:WK:=⟨1,false,3,1⟩
def D0_:DK:=⟨50000,0,false,[],none,[]⟩
theorem works_chain:∃ D1 D2 D3 D4 D5 D6 D7 D8 D9 D10:DK,(okD D0_∧okD D1∧okD D2∧okD D3∧okD D4∧okD D5∧okD D6∧okD D7∧okD D8∧okD D9∧okD D10) ∧
 openD D0_=(D0_,0,W0_,[])∧appW W0_ D0_ [ch 97,ch 98]=(W1_,D1,0)∧syncW W1_ D1=(W1_,D2,0)∧appW W1_ D2 [ch 99]=(W1_,D3,0)∧crashD D3 [3]=(D4,0)∧startD D4=(D5,0)∧D4.starts=0 ∧
 appW W1_ D5 [ch 100]=(W1_,D5,41)∧openD D5=(D6,0,W6_,[ch 97,ch 98])∧appW W6_ D6 [z8,z8]=(W6_,D7,0)∧appW W6_ D7 [ch 101]=(W8_,D8,0)∧segsW W8_ D8=2∧ckW W8_ D8 [ch 120]=(W9_,D9,0) ∧
 appW W9_ D9 [ch 121]=(W10_,D10,0)∧openD D10=(D10,0,W10_,[ch 120,ch 121])∧namesD D10=[⟨#[99,51]⟩,⟨#[115,52]⟩]:=by
 have L0:Live W0_ D0_ [] [] 0:=Live.new (by decide) (by decide)
 have z0:sumD D0_.files=0:=rfl
 have sab:small [ch 97,ch 98]:=small_of (by decide)
 have fab:(FB [ch 97,ch 98]).size=12:=by rw [FB_one,FB_one,FB_zero]
 obtain ⟨D1,e1,L1,c1⟩:=L0.first rfl rfl (by decide) (by decide) sab (by simp) (by rw [z0,fab];decide)
 replace L1:Live W1_ D1 [] [ch 97,ch 98] 0:=L1
 have m1:D1.most=50000:=c1.most
 obtain ⟨D2,e2,L2,c2⟩:=L1.syncs c1.fails (by decide)
 have m2:D2.most=50000:=by rw [c2.most,m1]
 have s2:=L2.sum
 simp only [List.flatten_nil,List.nil_append] at s2
 rw [fab] at s2
 have fc:(FB [ch 99]).size=6:=by rw [FB_one,FB_zero]
 obtain ⟨D3,e3,L3,c3,l3⟩:=L2.more c2.fails (by decide) (by rw [fab];decide) (small_of (by decide):small [ch 99]) (by simp) (by rw [s2,fc,m2];decide)
 have m3:D3.most=50000:=by rw [c3.most,m2]
 obtain ⟨s,hl2,hs1,hs2,_⟩:=L2.last (by decide)
 rw [List.take_length,fab] at hs1
 rw [fab] at hs2
 obtain rfl:s=12:=by omega
 have hl3:=l3 _ hl2
 rw [FB_add] at hl3
 have fabc:(FB ([ch 97,ch 98]++[ch 99])).size=18:=by rw [FB_size_append,fab,fc]
 obtain ⟨d,hd⟩:∃ d,d=FB ([ch 97,ch 98]++[ch 99]):=⟨_,rfl⟩
 simp only at hl3
 rw [←hd] at hl3 fabc
 have hlen3:D3.files.length=1:=L3.len
 obtain ⟨f,hf⟩:=List.length_eq_one_iff.1 hlen3
 have hfe:f=⟨nmB 115 (W1_.b+W1_.t),d,12⟩:=by
  have:=lk_mem hl3
  rw [hf] at this
  exact (List.mem_singleton.1 this).symm
 have e4:crashD D3 [3]=(⟨D3.most,D3.starts,true,crashF D3.files [3],none,D3.keep⟩,0):=by unfold crashD;rw [L3.up];rfl
 obtain ⟨D4,hD4⟩:∃ D4,D4=(crashD D3 [3]).1:=⟨_,rfl⟩
 have ok4:okD D4:=by rw [hD4];exact crash_ok L3.ok _
 rw [e4] at hD4
 have e5:startD D4=(⟨D4.most,D4.starts+1,false,D4.files,D4.fails,D4.keep⟩,0):=by unfold startD;rw [hD4];rfl
 obtain ⟨D5,hD5⟩:∃ D5,D5=(startD D4).1:=⟨_,rfl⟩
 have ok5:okD D5:=by rw [hD5];exact start_ok ok4
 rw [e5] at hD5
 have st4:D4.starts=0:=by rw [hD4];exact L3.st
 have st5:D5.starts=1:=by rw [hD5];simp only;rw [st4];rfl
 have f5:D5.files=crashF D3.files [3]:=by rw [hD5,hD4]
 have m5:D5.most=50000:=by rw [hD5,hD4];exact m3
 obtain ⟨sx,hT3,_⟩:=L3.torn
 obtain ⟨l',hT5,_⟩:=hT3.crash L3.ok.sure [3]
 rw [←f5] at hT5
 have hl5:lk D5.files (nmB 115 (W1_.b+W1_.t))=some (d.extract 0 15,15):=by
  rw [f5,hf,hfe]
  unfold crashF keep1 lk
  simp [fabc]
  exact ⟨rfl,rfl⟩
 have hl':l'.size=15:=by
  have:=(hT5.more (by decide)).2.1
  rw [hl5] at this
  simp only [Option.some.injEq,Prod.mk.injEq] at this
  omega
 obtain ⟨k,D6,hk,hkl,hmax,e6,f6,m6,_,hL6⟩:=Torn.opens ok5 (by rw [hD5]) (by rw [hD5,hD4]) hT5 (fun _=>⟨by omega,Int.le_refl _⟩)
 have hk2:2≤k:=hmax 2 (by decide) (fun _=>by
  show (FB [ch 97,ch 98]).size≤_
  rw [fab,hl']
  decide)
 have hk3:k≠3:=fun e=>by
  have:=hkl (by decide)
  rw [e,hl'] at this
  have h3:([ch 97,ch 98]++[ch 99]).take 3=[ch 97,ch 98]++[ch 99]:=rfl
  rw [h3,←hd,fabc] at this
  exact absurd this (by decide)
 have hk4:k≤3:=hk
 obtain rfl:k=2:=by omega
 have t2:([ch 97,ch 98]++[ch 99]).take 2=[ch 97,ch 98]:=rfl
 rw [t2,st5] at e6
 have L6:=hL6 0 (by decide) (fun _=>by rw [List.take_zero,FB_zero];omega)
 rw [t2,st5] at L6
 replace L6:Live W6_ D6 [] [ch 97,ch 98] 0:=L6
 rw [m5] at m6
 have s6:=L6.sum
 simp only [List.flatten_nil,List.nil_append] at s6
 rw [fab] at s6
 have fzz:(FB [z8,z8]).size=16398:=by rw [FB_z,FB_z,FB_zero]
 have szz:small [z8,z8]:=fun p hp=>by
  simp only [List.mem_cons,List.not_mem_nil,or_false,or_self] at hp
  rw [hp,z8_size]
  decide
 obtain ⟨D7,e7,L7,c7,_⟩:=L6.more f6 (by decide) (by rw [fab];decide) szz (by simp) (by rw [s6,fzz,m6];decide)
 have m7:D7.most=50000:=by rw [c7.most,m6]
 have s7:=L7.sum
 simp only [List.flatten_nil,List.nil_append] at s7
 rw [FB_size_append,fab,fzz] at s7
 have fe:(FB [ch 101]).size=6:=by rw [FB_one,FB_zero]
 obtain ⟨D8,Ps,e8,L8,c8,hPs⟩:=L7.grows c7.fails (by decide) (by rw [FB_size_append,fab,fzz];decide) (by decide) (by rw [L7.len];decide) (small_of (by decide):small [ch 101]) (by simp) (by rw [s7,fe,m7];decide)
 replace L8:Live W8_ D8 Ps [ch 101] 0:=L8
 have m8:D8.most=50000:=by rw [c8.most,m7]
 have s8:=L8.sum
 rw [hPs,FB_size_append,fe,List.flatten_nil,List.nil_append,FB_size_append,fab,fzz] at s8
 have n8:segsW W8_ D8=2:=by rw [L8.segments,L8.len];rfl
 have fx:(FB [ch 120]).size=6:=by rw [FB_one,FB_zero]
 obtain ⟨D9,e9,L9,f9,m9⟩:=L8.anew c8.fails (by decide) (small_of (by decide):small [ch 120]) (by rw [s8,fx,m8];decide)
 replace L9:Live W9_ D9 [[ch 120]] [] 0:=L9
 rw [m8] at m9
 have s9:=L9.sum
 simp only [List.flatten_cons,List.flatten_nil,List.append_nil] at s9
 rw [fx] at s9
 have fy:(FB [ch 121]).size=6:=by rw [FB_one,FB_zero]
 obtain ⟨D10,e10,L10,c10⟩:=L9.first f9 rfl (by decide) (by rw [L9.len];decide) (small_of (by decide):small [ch 121]) (by simp) (by rw [s9,fy,m9];decide)
 replace L10:Live W10_ D10 [[ch 120]] [ch 121] 0:=L10
 have o10:=L10.opens
 rw [L10.st] at o10
 have hn10:namesD D10=[⟨#[99,51]⟩,⟨#[115,52]⟩]:=by
  have hb:=L10.names
  unfold Bare at hb
  have hsg:segsM W10_.b W10_.t=[⟨#[99,51]⟩,⟨#[115,52]⟩]:=by rw [←c3_is,←s4_is];rfl
  rw [hsg] at hb
  have hlen:(namesD D10).length=2:=by rw [names_fl,List.length_map,L10.len];rfl
  obtain ⟨x,y,hxy⟩:∃ x y,namesD D10=[x,y]:=by
   match hN:namesD D10,hlen with
   | [x,y],_=>exact ⟨x,y,rfl⟩
  have hr:riseF D10.files:=L10.ok.rise
  have hp:(namesD D10).Pairwise ltS:=by rw [names_fl];exact List.Pairwise.map _ (fun _ _ h=>h) hr
  rw [hxy] at hp hb ⊢
  have hlt:ltS x y:=(List.pairwise_cons.1 hp).1 y List.mem_cons_self
  have h1:=(hb.2 x).1 List.mem_cons_self
  have h2:=(hb.2 y).1 (List.mem_cons_of_mem _ List.mem_cons_self)
  have hlt2:ltS (⟨#[99,51]⟩:BA) ⟨#[115,52]⟩:=by unfold ltS;decide +kernel
  simp only [List.mem_cons,List.not_mem_nil,or_false] at h1 h2
  rcases h1 with rfl | rfl<;>rcases h2 with rfl | rfl
  · exact absurd hlt (ltS.irrefl _)
  · rfl
  · exact absurd hlt hlt2.asymm
  exact absurd hlt (ltS.irrefl _)
 refine ⟨D1,D2,D3,D4,D5,D6,D7,D8,D9,D10,⟨L0.ok,L1.ok,L2.ok,L3.ok,ok4,ok5,L6.ok,L7.ok,L8.ok,L9.ok,L10.ok⟩,L0.opens,e1,e2,e3,by rw [e4,hD4],by rw [e5,hD5],st4,?_,e6,e7,e8,n8,e9,e10,o10,hn10⟩
 exact appW_ask (by unfold askW;rw [st5];simp [W1_])
theorem appLit (p q:Nat) {W W':WK} {D D':DK} {e:Int} (ps:List ByteArray) (bx n:Nat) (vs:List Value) (hvs:vs=ps.flatMap encS) (hn:n=ps.length) (h1:n≤10000) (h2:∀ p∈ps,p.size≤900000000) (hD:okD D) (hW:okW W) (h:appW W D ps=(W',D',e)) :
 Triple Tryz.prog 19 [pP p,.slice (some ⟨bx,0,none⟩) n n] [WalM p q W,DiskM q D] [TabA,Pt bx 9 vs] Unit (fun _=>.int .i64 e) (fun _=>True) (fun _=>[WalM p q W',DiskM q D']):=by
 have:=(appWT p q W D (some ⟨bx,0,none⟩) ps n n hn h1 h2 hD hW).reads (N':=[TabA,Pt bx 9 vs]) (fun X hX=>by
  simp only [List.mem_cons,List.not_mem_nil,or_false] at hX
  rcases hX with rfl | rfl
  · exact ⟨_,List.mem_cons_self,fun _ q=>q⟩
  exact ⟨_,List.mem_cons_of_mem _ List.mem_cons_self,fun _ q=>by rw [←hvs];exact Pt.rd q (by rw [hvs,flat_len encS_len,hn])⟩)
 rw [h] at this
 exact this
theorem ckLit (p q:Nat) {W W':WK} {D D':DK} {e:Int} (ps:List ByteArray) (bx n:Nat) (vs:List Value) (hvs:vs=ps.flatMap encS) (hn:n=ps.length) (h1:n≤10000) (h2:∀ p∈ps,p.size≤900000000) (hD:okD D) (hW:okW W) (h:ckW W D ps=(W',D',e)) :
 Triple Tryz.prog 21 [pP p,.slice (some ⟨bx,0,none⟩) n n] [WalM p q W,DiskM q D] [TabA,Pt bx 9 vs] Unit (fun _=>.int .i64 e) (fun _=>True) (fun _=>[WalM p q W',DiskM q D']):=by
 have:=(ckWT p q W D (some ⟨bx,0,none⟩) ps n n hn h1 h2 hD hW).reads (N':=[TabA,Pt bx 9 vs]) (fun X hX=>by
  simp only [List.mem_cons,List.not_mem_nil,or_false] at hX
  rcases hX with rfl | rfl
  · exact ⟨_,List.mem_cons_self,fun _ q=>q⟩
  exact ⟨_,List.mem_cons_of_mem _ List.mem_cons_self,fun _ q=>by rw [←hvs];exact Pt.rd q (by rw [hvs,flat_len encS_len,hn])⟩)
 rw [h] at this
 exact this
theorem openLit (q:Nat) {D D':DK} {W:WK} {l:List ByteArray} (hD:okD D) (h:openD D=(D',0,W,l)) :
 Triple Tryz.prog 12 [pP q] [DiskM q D] [TabA] (Nat × Option Addr × Nat) (fun (p,C,c)=>.tuple #[pP p,.slice C l.length c,.int .i64 0]) (fun _=>True) (fun (p,C,c)=>[WalM p q W,DiskM q D',Row 9 1 C l.length c (l.flatMap encS)]):=by
 have:=openOk q D hD (by rw [h])
 rw [h] at this
 exact this
theorem sameLit (A:Option Addr) (L M:List ByteArray) (m c n bx:Nat) (vs:List Value) (hvs:vs=M.flatMap encS) (hm:m=L.length) (hn:n=M.length) (h1:m≤1000000) (b:Bool) (hb:b=decide (L=M)) :
 Triple Tryz.prog 24 [.slice A m c,.slice (some ⟨bx,0,none⟩) n n] [] [Row 9 1 A m c (L.flatMap encS),Pt bx 9 vs] Unit (fun _=>.bool b) (fun _=>True) (fun _=>[]):=by
 rw [hb]
 exact (sameTexts A (some ⟨bx,0,none⟩) L M m c n n hm hn h1).reads (fun X hX=>by
  simp only [List.mem_cons,List.not_mem_nil,or_false] at hX
  rcases hX with rfl | rfl
  · exact ⟨_,List.mem_cons_self,fun _ q=>Row.rd q⟩
  exact ⟨_,List.mem_cons_of_mem _ List.mem_cons_self,fun _ q=>by rw [←hvs];exact Pt.rd q (by rw [hvs,flat_len encS_len,hn])⟩)
theorem tiny_le {ps:List ByteArray} (h:ps.all (fun p=>decide (p.size≤8192))=true):∀ p∈ps,p.size≤900000000:=fun p hp=>Nat.le_trans (small_of h p hp) (by decide)
set_option maxHeartbeats 8000000 in
theorem worksT:Triple Tryz.prog 18 [] [] [TabA] Unit (fun _=>.bool true) (fun _=>True) (fun _=>[]):=by
 obtain ⟨D1,D2,D3,D4,D5,D6,D7,D8,D9,D10,⟨o0,o1,o2,o3,o4,o5,o6,o7,o8,o9,o10⟩,e0,e1,e2,e3,e4,e5,s4,e6,e7,e8,e9,e10,e11,e12,e13,e14⟩:=works_chain
 have T0:Triple Tryz.prog 11 [.int .i64 50000] [] [] Nat (fun p=>.tuple #[pP p,.int .i64 0]) (fun _=>True) (fun p=>[DiskM p D0_]):=newM 50000 (by decide) (by decide)
 have T1:=fun q=>openLit q o0 e0
 have T2:∀ p q bx,Triple Tryz.prog 19 [pP p,.slice (some ⟨bx,0,none⟩) 2 2] [WalM p q W0_,DiskM q D0_] [TabA,Pt bx 9 [.string ⟨#[97]⟩,.string ⟨#[98]⟩]] Unit (fun _=>.int .i64 0) (fun _=>True) (fun _=>[WalM p q W1_,DiskM q D1]):=fun p q bx=>appLit p q [ch 97,ch 98] bx 2 _ rfl rfl (by decide) (tiny_le (by decide)) o0 (by unfold okW;decide) e1
 have T3:∀ p q,Triple Tryz.prog 20 [pP p] [WalM p q W1_,DiskM q D1] [TabA] Unit (fun _=>.int .i64 0) (fun _=>True) (fun _=>[WalM p q W1_,DiskM q D2]):=fun p q=>by
  have:=syncWT p q W1_ D1 o1 (by unfold okW;decide)
  rw [e2] at this
  exact this
 have T4:∀ p q bx,Triple Tryz.prog 19 [pP p,.slice (some ⟨bx,0,none⟩) 1 1] [WalM p q W1_,DiskM q D2] [TabA,Pt bx 9 [.string ⟨#[99]⟩]] Unit (fun _=>.int .i64 0) (fun _=>True) (fun _=>[WalM p q W1_,DiskM q D3]):=fun p q bx=>appLit p q [ch 99] bx 1 _ rfl rfl (by decide) (tiny_le (by decide)) o2 (by unfold okW;decide) e3
 have T5:∀ q bx,Triple Tryz.prog 13 [pP q,.slice (some ⟨bx,0,none⟩) 1 1] [DiskM q D3] [Pt bx 3 [.int .i64 3]] Unit (fun _=>.int .i64 0) (fun _=>True) (fun _=>[DiskM q D4]):=fun q bx=>by
  have:=(crashM q D3 (some ⟨bx,0,none⟩) 1 1 [3] o3 rfl).reads (N':=[Pt bx 3 [.int .i64 3]]) (fun X hX=>⟨_,List.mem_cons_self,fun _ q=>by rw [List.mem_singleton.1 hX];exact Pt.rd q rfl⟩)
  rw [e4] at this
  exact this
 have T6:∀ q,Triple Tryz.prog 14 [pP q] [DiskM q D4] [] Unit (fun _=>.int .i64 0) (fun _=>True) (fun _=>[DiskM q D5]):=fun q=>by
  have:=startM q D4 o4 (by rw [s4];decide) (by rw [s4];decide)
  rw [e5] at this
  exact this
 have T7:∀ p q bx,Triple Tryz.prog 19 [pP p,.slice (some ⟨bx,0,none⟩) 1 1] [WalM p q W1_,DiskM q D5] [TabA,Pt bx 9 [.string ⟨#[100]⟩]] Unit (fun _=>.int .i64 41) (fun _=>True) (fun _=>[WalM p q W1_,DiskM q D5]):=fun p q bx=>appLit p q [ch 100] bx 1 _ rfl rfl (by decide) (tiny_le (by decide)) o5 (by unfold okW;decide) e6
 have T8:=fun q=>openLit q o5 e7
 have T9:∀ A c bx,Triple Tryz.prog 24 [.slice A 2 c,.slice (some ⟨bx,0,none⟩) 2 2] [] [Row 9 1 A 2 c ([ch 97,ch 98].flatMap encS),Pt bx 9 [.string ⟨#[97]⟩,.string ⟨#[98]⟩]] Unit (fun _=>.bool true) (fun _=>True) (fun _=>[]):=fun A c bx=>sameLit A [ch 97,ch 98] [ch 97,ch 98] 2 c 2 bx _ rfl rfl rfl (by decide) true (decide_eq_true rfl).symm
 have T10:∀ p q bx,Triple Tryz.prog 19 [pP p,.slice (some ⟨bx,0,none⟩) 2 2] [WalM p q W6_,DiskM q D6] [TabA,Pt bx 9 [.string z8,.string z8]] Unit (fun _=>.int .i64 0) (fun _=>True) (fun _=>[WalM p q W6_,DiskM q D7]):=fun p q bx=>appLit p q [z8,z8] bx 2 _ rfl rfl (by decide) (fun p hp=>by
  simp only [List.mem_cons,List.not_mem_nil,or_false,or_self] at hp
  rw [hp,z8_size]
  decide) o6 (by unfold okW;decide) e8
 have T11:∀ p q bx,Triple Tryz.prog 19 [pP p,.slice (some ⟨bx,0,none⟩) 1 1] [WalM p q W6_,DiskM q D7] [TabA,Pt bx 9 [.string ⟨#[101]⟩]] Unit (fun _=>.int .i64 0) (fun _=>True) (fun _=>[WalM p q W8_,DiskM q D8]):=fun p q bx=>appLit p q [ch 101] bx 1 _ rfl rfl (by decide) (tiny_le (by decide)) o7 (by unfold okW;decide) e9
 have T12:∀ p q,Triple Tryz.prog 22 [pP p] [WalM p q W8_,DiskM q D8] [TabA] Unit (fun _=>.int .i64 2) (fun _=>True) (fun _=>[WalM p q W8_,DiskM q D8]):=fun p q=>by
  have:=segsWT p q W8_ D8 o8 (by unfold okW;decide)
  rw [e10] at this
  exact this
 have T13:∀ p q bx,Triple Tryz.prog 21 [pP p,.slice (some ⟨bx,0,none⟩) 1 1] [WalM p q W8_,DiskM q D8] [TabA,Pt bx 9 [.string ⟨#[120]⟩]] Unit (fun _=>.int .i64 0) (fun _=>True) (fun _=>[WalM p q W9_,DiskM q D9]):=fun p q bx=>ckLit p q [ch 120] bx 1 _ rfl rfl (by decide) (tiny_le (by decide)) o8 (by unfold okW;decide) e11
 have T14:∀ p q bx,Triple Tryz.prog 19 [pP p,.slice (some ⟨bx,0,none⟩) 1 1] [WalM p q W9_,DiskM q D9] [TabA,Pt bx 9 [.string ⟨#[121]⟩]] Unit (fun _=>.int .i64 0) (fun _=>True) (fun _=>[WalM p q W10_,DiskM q D10]):=fun p q bx=>appLit p q [ch 121] bx 1 _ rfl rfl (by decide) (tiny_le (by decide)) o9 (by unfold okW;decide) e12
 have T15:=fun q=>openLit q o10 e13
 have T16:∀ q,Triple Tryz.prog 26 [pP q] [DiskM q D10] [] (Option Addr × Nat) (fun (C,e)=>.slice C 2 e) (fun _=>True) (fun (C,e)=>[DiskM q D10,Row 9 1 C 2 e ([⟨#[99,51]⟩,⟨#[115,52]⟩].flatMap encS)]):=fun q=>by
  have:=namesM q D10 o10
  have hl:D10.files.length=2:=by
   have h2:=congrArg List.length e14
   unfold namesD at h2
   rwa [List.length_map] at h2
  unfold namesD at e14
  rw [e14,hl] at this
  exact this
 have T17:∀ A c bx,Triple Tryz.prog 24 [.slice A 2 c,.slice (some ⟨bx,0,none⟩) 2 2] [] [Row 9 1 A 2 c (([⟨#[99,51]⟩,⟨#[115,52]⟩]:List ByteArray).flatMap encS),Pt bx 9 [.string ⟨#[99,51]⟩,.string ⟨#[115,52]⟩]] Unit (fun _=>.bool true) (fun _=>True) (fun _=>[]):=fun A c bx=>sameLit A [⟨#[99,51]⟩,⟨#[115,52]⟩] [⟨#[99,51]⟩,⟨#[115,52]⟩] 2 c 2 bx _ rfl rfl rfl (by decide) true (decide_eq_true rfl).symm
 have T18:∀ A c bx,Triple Tryz.prog 24 [.slice A 2 c,.slice (some ⟨bx,0,none⟩) 2 2] [] [Row 9 1 A 2 c ([ch 120,ch 121].flatMap encS),Pt bx 9 [.string ⟨#[120]⟩,.string ⟨#[121]⟩]] Unit (fun _=>.bool true) (fun _=>True) (fun _=>[]):=fun A c bx=>sameLit A [ch 120,ch 121] [ch 120,ch 121] 2 c 2 bx _ rfl rfl rfl (by decide) true (decide_eq_true rfl).symm
 obtain ⟨zl,hzl⟩:∃ zl:List UInt8,zl=List.replicate 8192 0:=⟨_,rfl⟩
 have hz8:z8=⟨zl.toArray⟩:=by rw [hzl];rfl
 rw [hz8] at T10
 have hlz:8192=zl.length:=by rw [hzl,List.length_replicate]
 refine aT Tryz.func18 [] [] (fun E=>?_) trivial
 refine aG ?_
 refine aC T0 [] [] fun x0 h1=>?_
 refine aC (T1 (x0)) [0] [.inl 0] fun ⟨x2,x3,x4⟩ h5=>?_
 refine aI (aI (aI ?_))
 refine ev_new fun b6=>?_
 refine aC (T2 (x2) (x0) (b6)) [0,1] [.inl 0,.inr 3] fun _ h7=>?_
 refine aC (T3 (x2) (x0)) [0,1] [.inl 0] fun _ h8=>?_
 refine ev_new fun b9=>?_
 refine aC (T4 (x2) (x0) (b9)) [0,1] [.inl 0,.inr 4] fun _ h10=>?_
 refine ev_new fun b11=>?_
 refine aC (T5 (x0) (b11)) [1] [.inr 5] fun _ h12=>?_
 refine aC (T6 (x0)) [1] [] fun _ h13=>?_
 refine ev_new fun b14=>?_
 refine aC (T7 (x2) (x0) (b14)) [0,1] [.inl 0,.inr 6] fun _ h15=>?_
 refine aC (T8 (x0)) [1] [.inl 0] fun ⟨x16,x17,x18⟩ h19=>?_
 refine aI (aI (aI (aI (aI (aI (aI ?_))))))
 refine ev_new fun b20=>?_
 refine aC (T9 (x17) (x18) (b20)) [] [.inr 8,.inr 9] fun _ h21=>?_
 refine aI ?_
 refine ev_stop (go_make (sz:=1) Tryz.tbs_ok (8192) (8192) rfl rfl rfl rfl rfl rfl rfl rfl rfl (by omega) (le_max (by omega)) (le_bytes (by omega) (by decide)) (fun _=>aL) (fun b22=>?_))
 refine aG ?_
 have hrep:((List.replicate 8192 ()).flatMap fun _=>[Value.int .u8 0])=(List.replicate 8192 (0:UInt8)).flatMap encC:=flat_rep (enc:=encC) (z:=0) 8192
 refine go_turn 10 (Row 5 1 (some ⟨b22,0,none⟩) 8192 8192 ((List.replicate 8192 ()).flatMap fun _=>[.int .u8 0])) (fun _:Unit=>Row 5 1 (some ⟨b22,0,none⟩) 8192 8192 (zl.flatMap encC)) rfl (fun h p=>⟨(),by rw [hzl,←hrep];exact p⟩) (fun _=>?_)
 refine aG ?_
 refine ev_stop (go_stringOf Tryz.tbs_ok (zl) (.inr 10) rfl rfl rfl rfl rfl rfl rfl (by first | rfl | omega | (simp;omega)) (fun _ h=>Row.rd h) ?_)
 refine aG ?_
 refine ev_new fun b30=>?_
 refine aC (T10 (x16) (x0) (b30)) [1,7] [.inl 0,.inr 11] fun _ h31=>?_
 refine ev_new fun b32=>?_
 refine aC (T11 (x16) (x0) (b32)) [1,7] [.inl 0,.inr 12] fun _ h33=>?_
 refine aC (T12 (x16) (x0)) [1,7] [.inl 0] fun _ h34=>?_
 refine ev_new fun b35=>?_
 refine aC (T13 (x16) (x0) (b35)) [1,7] [.inl 0,.inr 13] fun _ h36=>?_
 refine ev_new fun b37=>?_
 refine aC (T14 (x16) (x0) (b37)) [1,7] [.inl 0,.inr 14] fun _ h38=>?_
 refine aC (T15 (x0)) [7] [.inl 0] fun ⟨x39,x40,x41⟩ h42=>?_
 refine aJ (aJ (aJ (aJ (aJ ?_))))
 refine aC (T16 (x0)) [15] [] fun ⟨x43,x44⟩ h45=>?_
 refine ev_new fun b46=>?_
 refine aC (T17 (x43) (x44) (b46)) [] [.inr 17,.inr 18] fun _ h47=>?_
 refine aJ (aJ ?_)
 refine ev_new fun b48=>?_
 refine aC (T18 (x40) (x41) (b48)) [] [.inr 16,.inr 19] fun _ h49=>?_
 refine ev_fin ⟨trivial,_,rfl,(()),rfl,(by trivial),Frm.nil _⟩
structure ActW where
 k:Int
 L:List ByteArray
 A:Option Addr
 c:Nat
 z:Int
 K:List Int
 B:Option Addr
 d:Nat
instance:Inhabited ActW:=⟨⟨0,[],none,0,0,[],none,0⟩⟩
def encW (x:ActW):List Value:=[.int .u8 x.k,.slice x.A x.L.length x.c,.int .i64 x.z,.slice x.B x.K.length x.d]
theorem encW_len (x:ActW):(encW x).length=4:=rfl
def ActW.rdL (x:ActW):Asn:=Rd 1 x.A x.L.length (x.L.flatMap encS)
def ActW.rdK (x:ActW):Asn:=Rd 1 x.B x.K.length (x.K.flatMap encN)
def ActsW (l:List ActW):Asn:=⟨fun h=>∀ x∈l,x.rdL.holds h∧x.rdK.holds h,fun e p x hx=>⟨x.rdL.mono e (p x hx).1,x.rdK.mono e (p x hx).2⟩⟩
structure boundW (x:ActW):Prop where
 L:x.L.length≤50
 K:x.K.length≤100
 p:∀ p∈x.L,p.size≤60000
set_option maxHeartbeats 4000000 in
theorem greatW (A:Option Addr) (l:List ActW) (n c:Nat) (hn:n=l.length) (h1:n≤9223372036854775807) :
 Triple Tryz.prog 10 [.slice A n c] [] [Rd 4 A n (l.flatMap encW),ActsW l] Bool (fun b=>.bool b) (fun b=>b=false→n≤100∧∀ x∈l,boundW x) (fun _=>[]):=by
 refine aT Tryz.func10 [vL A n c] [] (fun E=>?_) ⟨trivial,trivial⟩
 refine aG ?_
 refine ev_stop (go_loopR [2,3,4,5,6,7,8,9,10,11,12,13,14,15,16,17,18,19,20,21,22,23,24,25,26,27,28,29,30,31,32,33,34,35,36,37,38,39,40,41,42,43,44,45] (fun (i,s)=>[(3,vI s),(4,vI (i:Nat))]) (fun _=>[]) (fun (i,s)=>i≤n∧(0≤s∧s≤60000)∧∀ x∈l.take i,boundW x) (fun (i,_)=>n-i) ((0,0):Nat × Int) ⟨Nat.zero_le _,⟨by decide,by decide⟩,by simp⟩ aS (fun x_ h_=>?_))
 obtain ⟨i,s⟩:=x_
 obtain ⟨hi,hs,h0⟩:=h_
 rcases Nat.lt_or_ge i n with hin | hin
 · have hil:i<l.length:=by omega
   obtain ⟨x,hx⟩:∃ x,x=l[i]:=⟨_,rfl⟩
   refine go_more 1 (ActsW l) (Rd 1 l[i].A l[i].L.length (l[i].L.flatMap encS)) rfl (fun h p=>(p _ (List.getElem_mem hil)).1) ?_
   refine aG ?_
   refine aJ ?_ (decide_eq_true (show (↑i:Int)<(↑n:Int) from (by omega)))
   refine ev_stop (go_indexE (sz:=4) Tryz.tbs_ok (.inl 0) (i) rfl rfl rfl rfl rfl rfl (by omega) rfl (fun _ h=>h) (fun g20 o22 e21=>?_))
   subst e21
   refine aG ?_
   have l23:i<(l).length:=(by omega)
   refine ev_stop (go_loadE Tryz.tbs_ok (.inl 0) (i) 0 rfl rfl rfl rfl (fun _ h=>h) (by omega) (fun _=>rfl) (by omega) l23 (by decide) ?_)
   refine aG ?_
   refine ev_new fun b24=>?_
   refine ev_if_lt (fun h25=>?_) (fun h25=>?_)
   refine aG ?_
   refine ev_fin ⟨trivial,_,rfl,(true),rfl,(by simp [*]),Frm.nil _⟩
   refine aG ?_
   refine ev_if_lt (fun h26=>?_) (fun h26=>?_)
   refine aG ?_
   refine ev_fin ⟨trivial,_,rfl,(true),rfl,(by simp [*]),Frm.nil _⟩
   refine aG ?_
   rw [←hx]
   have hK:x.K.length≤100:=by rw [hx];omega
   have hL:x.L.length≤50:=by rw [hx];omega
   have hst:∀ y∈l.take (i+1),y∈l.take i∨y=x:=fun y hy=>by
    rw [←List.take_append_getElem hil] at hy
    rcases List.mem_append.1 hy with hy | hy
    · exact .inl hy
    rw [hx];exact .inr (List.mem_singleton.1 hy)
   clear hx
   obtain ⟨xk,xL,xA,xc,xz,xK,xB,xd⟩:=x
   simp only at hK hL
   obtain ⟨m,hm⟩:∃ m,m=xL.length:=⟨_,rfl⟩
   simp only [←hm]
   refine ev_stop (go_loopR [2,3,6,16,27,28,29,30,31,32,33,34,35,36,37,38,39,40,41,42,43,44,45] (fun (k,u)=>[(3,vI u),(6,vI (k:Nat))]) (fun _=>[]) (fun (k,u)=>k≤m∧(0≤u∧u≤60000)∧∀ p∈xL.take k,p.size≤60000) (fun (k,_)=>m-k) ((0,s):Nat × Int) ⟨Nat.zero_le _,hs,by simp⟩ aS (fun x_ h_=>?_))
   obtain ⟨k,u⟩:=x_
   obtain ⟨hk,hu,hp⟩:=h_
   refine aG ?_
   refine ev_if_lt (fun h60=>?_) (fun h60=>?_)
   refine aG ?_
   refine w6 ?_
   refine ev_stop (go_indexE (sz:=1) Tryz.tbs_ok (.inl 2) (k) rfl rfl rfl rfl rfl rfl (by omega) rfl (fun _ h=>h) (fun g61 o63 e62=>?_))
   subst e62
   refine aG ?_
   have l64:k<(xL).length:=(by omega)
   refine ev_stop (go_loadE Tryz.tbs_ok (.inl 2) (k) 0 rfl rfl rfl rfl (fun _ h=>h) (by omega) (fun _=>rfl) (by omega) l64 (by decide) ?_)
   refine aG ?_
   refine w6 ?_
   refine ev_if_lt (fun h65=>?_) (fun h65=>?_)
   refine aG ?_
   refine ev_fin ⟨trivial,_,rfl,(true),rfl,(by simp [*]),Frm.nil _⟩
   refine aG ?_
   refine wN (k+1) ?_
   refine ev_fin (round_next ((k+1,u+10+min (↑xL[k].size:Int) 100000)) (?_:k+1≤m∧(0≤u+10+min (↑xL[k].size:Int) 100000∧u+10+min (↑xL[k].size:Int) 100000≤60000)∧∀ (p:ByteArray),p∈List.take (k+1) xL→p.size≤60000) (show m-(k+1)<m-k from (by omega)) aS)
   rotate_left
   refine aG ?_
   refine ev_fin (go Tryz.tbs_ok 1000 ?_)
   refine wN (i+1) ?_
   refine ev_fin (round_next ((i+1,u)) (?_:i+1≤n∧(0≤u∧u≤60000)∧∀ (x:ActW),x∈List.take (i+1) l→boundW x) (show n-(i+1)<n-i from (by omega)) aS)
   rotate_left
   · refine ⟨by omega,⟨by omega,by omega⟩,fun p hp2=>?_⟩
     rw [←List.take_append_getElem (show k<xL.length by omega)] at hp2
     rcases List.mem_append.1 hp2 with h | h
     · exact hp p h
     rw [List.mem_singleton.1 h]
     omega
   refine ⟨by omega,hu,fun y hy=>?_⟩
   rcases hst y hy with h | h
   · exact h0 y h
   rw [h]
   rw [List.take_of_length_le (by omega)] at hp
   exact ⟨hL,hK,hp⟩
 obtain rfl:i=n:=by omega
 rw [List.take_of_length_le (by omega)] at h0
 refine aG ?_
 refine aI ?_ (decide_eq_false (show ¬(↑i:Int)<(↑i:Int) from (by omega)))
 refine ev_fin (go Tryz.tbs_ok 1000 ?_)
 refine ev_fin ⟨trivial,_,rfl,(decide ((↑i:Int) > 100)),rfl,?_,Frm.nil _⟩
 intro h
 rw [decide_eq_false_iff_not] at h
 exact ⟨by omega,h0⟩
theorem rdsR {f:FuncId} {args:List Value} {M:List Asn} {B C:Asn} {H:Option Addr} {nh ch e:Nat} {cs:List Value} {X:Type} {ret:X→Value} {good:X→Prop} {post:X→List Asn} (T:Triple Tryz.prog f args M [TabA,Rd 1 H nh cs,B,C] X ret good post):Triple Tryz.prog f args M [TabA,Row e 1 H nh ch cs,B,C] X ret good post :=
 T.reads fun X hX=>by
  simp only [List.mem_cons,List.not_mem_nil,or_false] at hX
  rcases hX with rfl | rfl | rfl | rfl
  · exact ⟨_,List.mem_cons_self,fun _ q=>q⟩
  · exact ⟨_,List.mem_cons_of_mem _ List.mem_cons_self,fun _ q=>Row.rd q⟩
  · exact ⟨_,List.mem_cons_of_mem _ (List.mem_cons_of_mem _ List.mem_cons_self),fun _ q=>q⟩
  exact ⟨_,List.mem_cons_of_mem _ (List.mem_cons_of_mem _ (List.mem_cons_of_mem _ List.mem_cons_self)),fun _ q=>q⟩
theorem chg_starts (D:DK) (late:Bool) (L2:List Fl):(chg D late L2).1.starts=D.starts∧(chg D late L2).1.most=D.most:=by
 unfold chg
 split
 · exact ⟨rfl,rfl⟩
 split<;>exact ⟨rfl,rfl⟩
theorem appD_starts (D:DK) (x y:BA):(appD D x y).1.starts=D.starts:=by
 unfold appD
 repeat' split
 all_goals first | rfl | exact (chg_starts _ _ _).1
theorem syncD_starts (D:DK) (x:BA):(syncD D x).1.starts=D.starts:=by
 unfold syncD
 repeat' split
 all_goals first | rfl | exact (chg_starts _ _ _).1
theorem renD_starts (D:DK) (x y:BA):(renD D x y).1.starts=D.starts:=by
 unfold renD
 repeat' split
 all_goals first | rfl | exact (chg_starts _ _ _).1
theorem remD_starts (D:DK) (x:BA):(remD D x).1.starts=D.starts:=by
 unfold remD
 repeat' split
 all_goals first | rfl | exact (chg_starts _ _ _).1
theorem runD_starts:∀ {fs:List (DK→DK × Int)} {D:DK},(∀ f∈fs,∀ D,(f D).1.starts=D.starts)→(runD fs D).1.starts=D.starts
 | [],_,_=>rfl
 |
  f::fs,D,hf=>by
  have h1:=hf f List.mem_cons_self D
  unfold runD
  split
  · rw [runD_starts (fun g hg=>hf g (List.mem_cons_of_mem _ hg)),h1]
  exact h1
theorem remL_starts (L:List BA) (D:DK):(runD (remL L) D).1.starts=D.starts:=runD_starts fun f hf D=>by
 obtain ⟨x,_,rfl⟩:=List.mem_map.1 hf
 exact remD_starts _ _
theorem ckL3_starts (F:BA) (n:Nat) (D:DK):(runD (ckL3 F n) D).1.starts=D.starts:=runD_starts fun f hf D=>by
 simp only [ckL3,List.mem_cons,List.not_mem_nil,or_false] at hf
 rcases hf with rfl | rfl | rfl
 · exact appD_starts _ _ _
 · exact syncD_starts _ _
 exact renD_starts _ _ _
theorem appW_starts (W:WK) (D:DK) (ps:List BA):(appW W D ps).2.1.starts=D.starts:=by
 unfold appW
 dsimp only
 obtain ⟨r,hr⟩:∃ r,r=(if 0<W.t then syncD D (nmB 115 (W.b+W.t)) else (D,0)):=⟨_,rfl⟩
 rw [←hr]
 split
 · rfl
 split
 · rfl
 split
 · rfl
 split
 · exact appD_starts _ _ _
 have h1:r.1.starts=D.starts:=by
  rw [hr]
  split
  · exact syncD_starts _ _
  rfl
 split
 · exact h1
 split
 · exact h1
 rw [appD_starts]
 exact h1
theorem syncW_starts (W:WK) (D:DK):(syncW W D).2.1.starts=D.starts:=by
 unfold syncW
 dsimp only
 repeat' split
 all_goals first | rfl | exact syncD_starts _ _
theorem ckW_starts (W:WK) (D:DK) (ps:List BA):(ckW W D ps).2.1.starts=D.starts:=by
 unfold ckW
 dsimp only
 split
 · rfl
 split
 · rfl
 split
 · rfl
 split
 · exact ckL3_starts _ _ _
 rw [remL_starts,ckL3_starts]
theorem appW_ok {W:WK} {D:DK} (h:okD D) (ps:List BA):okD (appW W D ps).2.1:=by
 unfold appW
 dsimp only
 obtain ⟨r,hr⟩:∃ r,r=(if 0<W.t then syncD D (nmB 115 (W.b+W.t)) else (D,0)):=⟨_,rfl⟩
 rw [←hr]
 split
 · exact h
 split
 · exact h
 split
 · exact h
 split
 · exact app_ok h _ _
 have h1:okD r.1:=by
  rw [hr]
  split
  · exact sync_ok h _
  exact h
 split
 · exact h1
 split
 · exact h1
 exact app_ok h1 _ _
theorem Live.self {W:WK} {D:DK} {init:List (List BA)} {last:List BA} {j:Nat} (H:Live W D init last j):openD D=(D,0,W,init.flatten++last):=by
 have h:=H.opens
 have hb:=H.nb
 have hs:=H.st
 obtain ⟨s,bad,b,t⟩:=W
 dsimp only at *
 subst hb hs
 exact h
theorem Logs.self {W:WK} {D:DK} {l:List BA} {sure:Nat} (H:Logs W D l sure):openD D=(D,0,W,l):=by
 obtain ⟨init,last,j,hL,hl,_⟩:=H
 rw [hL.self,hl]
theorem appW_w (W:WK) (D:DK) (ps:List BA):(appW W D ps).1.b=W.b∧((appW W D ps).1.t=W.t∨(appW W D ps).2.2=0∧(appW W D ps).1.t=W.t+1∧W.b+W.t<999999999):=by
 unfold appW
 dsimp only
 obtain ⟨r,hr⟩:∃ r,r=(if 0<W.t then syncD D (nmB 115 (W.b+W.t)) else (D,0)):=⟨_,rfl⟩
 rw [←hr]
 split
 · exact ⟨rfl,.inl rfl⟩
 split
 · exact ⟨rfl,.inl rfl⟩
 split
 · exact ⟨rfl,.inl rfl⟩
 split
 · exact ⟨rfl,.inl rfl⟩
 split
 · exact ⟨rfl,.inl rfl⟩
 split
 · exact ⟨rfl,.inl rfl⟩
 rename_i h
 refine ⟨rfl,?_⟩
 dsimp only
 split
 · rename_i h0
   exact .inr ⟨h0,rfl,by omega⟩
 exact .inl rfl
theorem appW_okW {W:WK} (D:DK) (ps:List BA) (h:okW W):okW (appW W D ps).1:=by
 obtain ⟨h1,h2⟩:=appW_w W D ps
 unfold okW at h ⊢
 rcases h2 with h2 | ⟨_,h2,_⟩<;>omega
theorem ckW_okW {W:WK} (D:DK) (ps:List BA) (h:okW W):okW (ckW W D ps).1:=by
 unfold ckW
 dsimp only
 repeat' split
 all_goals first | exact h | exact last_le _
theorem Outc.lay {D:DK} {r:DK × Int} {P:BA→Prop} {bad:Bool} (h:Outc D r P) (hs:(bad || badE r.2)=false) (hd:r.1.down=false):(r.2=0∧∀ z,z∈namesD r.1↔P z)∨(r.2=40∧r.1=D):=by
 obtain ⟨_,he⟩:=bad_false hs
 rcases h with ⟨h1,_,_,h2⟩ | ⟨h1,h2,h3⟩ | ⟨h1,h2,_⟩
 · exact .inl ⟨h1,h2⟩
 · exact .inr ⟨he.resolve_left h1,h3⟩
 rw [hd] at h2;cases h2
theorem Outc.starts {D:DK} {r:DK × Int} {P:BA→Prop} (h:Outc D r P):r.1.starts=D.starts:=by
 rcases h with ⟨_,_,h,_⟩ | ⟨_,_,h⟩ | ⟨_,_,h⟩
 · exact h
 · rw [h]
 exact h
theorem Tame.new {m:Int} (h1:1≤m) (h2:m≤1048576):Tame ⟨0,false,0,0⟩ ⟨m,0,false,[],none,[]⟩:=by
 have hL:=Live.new h1 h2
 exact ⟨hL.ok,hL.okW,Nat.zero_le _,fun _=>hL.names.lay,Int.le_refl _⟩
theorem Tame.app {W:WK} {D:DK} (H:Tame W D) (ps:List BA):Tame (appW W D ps).1 (appW W D ps).2.1:=by
 have hok:okD (appW W D ps).2.1:=appW_ok H.ok ps
 have hst:W.s≤(appW W D ps).2.1.starts:=by rw [appW_starts];exact H.st
 have hoW:=appW_okW D ps H.okW
 rcases ask_cases W.s W.bad D with h | h
 · have hL:=H.lay h
   obtain ⟨hb,hu,hs⟩:=ask_zero h
   have key:(appW W D ps).1.s=W.s∧(appW W D ps).1.b=W.b∧(((appW W D ps).1.t=W.t)∨((appW W D ps).1.t=W.t+1∧Lay (namesD (appW W D ps).2.1) W.b (W.t+1)))∧(askW (appW W D ps).1.s (appW W D ps).1.bad (appW W D ps).2.1=0→(appW W D ps).1.t=W.t→Lay (namesD (appW W D ps).2.1) W.b W.t):=by
    unfold appW
    rw [h,if_neg (by decide)]
    split
    · exact ⟨rfl,rfl,.inl rfl,fun _ _=>hL⟩
    split
    · exact ⟨rfl,rfl,.inl rfl,fun _ _=>hL⟩
    split
    · rename_i hq
      refine ⟨rfl,rfl,.inl rfl,fun q _=>?_⟩
      obtain ⟨q1,q2,_⟩:=ask_zero q
      have hm:nmB 115 (W.b+W.t)∈namesD D:=hL.segs _ (by
       have h3:=hq.1
       rw [segs_mem]
       exact .inr ⟨W.t-1,by omega,by rw [show W.b+1+(W.t-1)=W.b+W.t by omega]⟩)
      rcases (app_out H.ok hu _ _).lay q1 q2 with ⟨_,e⟩ | ⟨_,e⟩
      · exact hL.same fun z=>(e z).trans ⟨fun q=>q.elim id fun q=>q ▸ hm,.inl⟩
      show Lay (namesD (appD D _ _).1) _ _
      rw [e]
      exact hL
    dsimp only
    obtain ⟨r,hr⟩:∃ r,r=(if 0<W.t then syncD D (nmB 115 (W.b+W.t)) else (D,0)):=⟨_,rfl⟩
    rw [←hr]
    have hro:Outc D r (fun z=>z∈namesD D)∧r.2≠40∧okD r.1:=by
     rw [hr]
     split
     · exact ⟨(sync_out H.ok hu _).1,(sync_out H.ok hu _).2,sync_ok H.ok _⟩
     exact ⟨.inl ⟨rfl,hu,rfl,fun _=>Iff.rfl⟩,by simp,H.ok⟩
    obtain ⟨ho,h40,hrok⟩:=hro
    split
    · rename_i hne
      refine ⟨rfl,rfl,.inl rfl,fun q _=>?_⟩
      obtain ⟨q1,q2,_⟩:=ask_zero q
      rcases ho.lay q1 q2 with ⟨e,_⟩ | ⟨e,_⟩
      · exact absurd e hne
      exact absurd e h40
    rename_i hne
    have h0:r.2=0:=by simpa using hne
    have hru:r.1.down=false∧(∀ z,z∈namesD r.1↔z∈namesD D):=by
     rcases ho with ⟨_,a,_,b⟩ | ⟨a,_⟩ | ⟨a,_⟩
     · exact ⟨a,b⟩
     · exact absurd h0 a
     rw [h0] at a;cases a
    have hL1:=hL.same hru.2
    split
    · exact ⟨rfl,rfl,.inl rfl,fun _ _=>hL1⟩
    rename_i hful
    have h9:W.b+W.t<999999999:=by omega
    have h2:=app_out hrok hru.1 (nmB 115 (W.b+W.t+1)) (framedM ps).1
    dsimp only
    by_cases hg:(appD r.1 (nmB 115 (W.b+W.t+1)) (framedM ps).1).2=0
    · rw [if_pos hg]
      have hL2:Lay (namesD (appD r.1 (nmB 115 (W.b+W.t+1)) (framedM ps).1).1) W.b (W.t+1):=by
       rcases h2 with ⟨_,_,_,e⟩ | ⟨a,_⟩ | ⟨a,_⟩
       · exact hL1.next h9 e
       · exact absurd hg a
       rw [hg] at a;cases a
      exact ⟨rfl,rfl,.inr ⟨rfl,hL2⟩,fun _ q=>absurd q (by omega)⟩
    rw [if_neg hg]
    refine ⟨rfl,rfl,.inl rfl,fun q _=>?_⟩
    obtain ⟨q1,q2,_⟩:=ask_zero q
    rcases h2.lay q1 q2 with ⟨e,_⟩ | ⟨_,e⟩
    · exact absurd e hg
    show Lay (namesD (appD r.1 _ _).1) _ _
    rw [e]
    exact hL1
   obtain ⟨k1,k2,k3,k4⟩:=key
   refine ⟨hok,hoW,?_,fun q=>?_,by rw [k1];exact hst⟩
   · rcases k3 with k3 | ⟨k3,k5⟩
     · rw [k3];exact H.few
     rw [k3];exact k5.few16 hok
   rw [k2]
   rcases k3 with k3 | ⟨k3,k5⟩
   · rw [k3];exact k4 q k3
   rw [k3];exact k5
 rw [show appW W D ps=(W,D,41) from appW_ask h]
 exact H
theorem Tame.sync {W:WK} {D:DK} (H:Tame W D):Tame (syncW W D).1 (syncW W D).2.1:=by
 unfold syncW
 split
 · exact H
 rename_i h
 have h0:askW W.s W.bad D=0:=by simpa using h
 have hL:=H.lay h0
 obtain ⟨hb,hu,hs⟩:=ask_zero h0
 split
 · exact H
 have ho:=(sync_out H.ok hu (nmB 115 (W.b+W.t)))
 refine ⟨sync_ok H.ok _,H.okW,H.few,fun q=>?_,?_⟩
 · obtain ⟨q1,q2,_⟩:=ask_zero q
   rcases ho.1.lay q1 q2 with ⟨_,e⟩ | ⟨e,_⟩
   · exact hL.same e
   exact absurd e ho.2
 show W.s≤(syncD D _).1.starts
 rw [ho.1.starts]
 exact H.st
theorem ck_run {D:DK} (hD:okD D) (hu:D.down=false) (F:BA) (n:Nat):((runD (ckL3 F n) D).2=0∧(runD (ckL3 F n) D).1.down=false∧∀ z,z∈namesD (runD (ckL3 F n) D).1↔z=nmB 99 n∨(z∈namesD D∧z≠tB))∨((runD (ckL3 F n) D).2≠0∧((runD (ckL3 F n) D).2=40→(runD (ckL3 F n) D).1=D)):=by
 have hrun:runD (ckL3 F n) D=if (appD D tB F).2=0 then (if (syncD (appD D tB F).1 tB).2=0 then (if (renD (syncD (appD D tB F).1 tB).1 tB (nmB 99 n)).2=0 then ((renD (syncD (appD D tB F).1 tB).1 tB (nmB 99 n)).1,0) else renD (syncD (appD D tB F).1 tB).1 tB (nmB 99 n)) else syncD (appD D tB F).1 tB) else appD D tB F:=rfl
 rw [hrun]
 rcases app_out hD hu tB F with ⟨a1,a2,_,a3⟩ | ⟨a1,a2,a3⟩ | ⟨a1,_,_⟩
 · rw [if_pos a1]
   have k1:=app_ok hD tB F
   obtain ⟨s1,s2⟩:=sync_out k1 a2 tB
   rcases s1 with ⟨b1,b2,_,b3⟩ | ⟨b1,b2,b3⟩ | ⟨b1,_,_⟩
   · rw [if_pos b1]
     have k2:=sync_ok k1 tB
     obtain ⟨r1,r2⟩:=ren_out k2 b2 tB (nmB 99 n)
     rcases r1 with ⟨c1,c2,_,c3⟩ | ⟨c1,c2,c3⟩ | ⟨c1,_,_⟩
     · rw [if_pos c1]
       refine .inl ⟨rfl,c2,fun z=>?_⟩
       have e1:=(b3 z).trans (a3 z)
       refine (c3 z).trans ⟨fun q=>?_,fun q=>?_⟩
       · rcases q with q | ⟨q,q2⟩
         · exact .inl q
         rcases e1.1 q with q | q
         · exact .inr ⟨q,q2⟩
         exact absurd q q2
       rcases q with q | ⟨q,q2⟩
       · exact .inl q
       exact .inr ⟨e1.2 (.inl q),q2⟩
     · rw [if_neg c1];exact .inr ⟨c1,fun q=>absurd q r2⟩
     rw [if_neg (by rw [c1];decide)];exact .inr ⟨by rw [c1];decide,fun q=>absurd q r2⟩
   · rw [if_neg b1];exact .inr ⟨b1,fun q=>absurd q s2⟩
   rw [if_neg (by rw [b1];decide)];exact .inr ⟨by rw [b1];decide,fun q=>absurd q s2⟩
 · rw [if_neg a1];exact .inr ⟨a1,fun _=>a3⟩
 rw [if_neg (by rw [a1];decide)];exact .inr ⟨by rw [a1];decide,fun q=>by rw [a1] at q;cases q⟩
theorem Tame.turned {W:WK} {D:DK} (H:Tame W D) (h0:askW W.s W.bad D=0) (h9:W.b+W.t<999999999) (F:BA) (hr:(runD (ckL3 F (W.b+W.t+1)) D).2=0):(runD (ckL3 F (W.b+W.t+1)) D).1.down=false∧Lay (namesD (runD (ckL3 F (W.b+W.t+1)) D).1) (W.b+W.t+1) 0:=by
 obtain ⟨hb,hu,hs⟩:=ask_zero h0
 rcases ck_run H.ok hu F (W.b+W.t+1) with ⟨_,a,e⟩ | ⟨a,_⟩
 · exact ⟨a,(H.lay h0).turn h9 e⟩
 exact absurd hr a
theorem Tame.hlay {W:WK} {D:DK} (H:Tame W D) (ps:List BA):askW W.s W.bad D=0→W.b+W.t<999999999→(runD (ckL3 (framedM ps).1 (W.b+W.t+1)) D).2=0→okN (namesD (runD (ckL3 (framedM ps).1 (W.b+W.t+1)) D).1)=true:=fun h0 h9 hr=>(H.turned h0 h9 _ hr).2.okN
theorem rem_two:∀ {S:List BA} {D:DK},okD D→D.down=false→(runD (remL S) D).2≠40
 | [],_,_,_=>by simp [remL,runD]
 |
  y::S,D,hD,hu=>by
  have hstep:runD (remL (y::S)) D=if (remD D y).2=0 then runD (remL S) (remD D y).1 else remD D y:=rfl
  rw [hstep]
  have h1:(remD D y).2≠40∧((remD D y).2=0→(remD D y).1.down=false):=by
   unfold remD
   rw [if_neg (by rw [hu];decide)]
   split
   · rcases chg_two hu (late:=false) (L2:=D.files.eraseIdx (posF D.files y)) with ⟨a,b,_⟩ | ⟨a,b,_⟩
     · exact ⟨by rw [a];decide,fun _=>b⟩
     exact ⟨by rw [a];decide,fun q=>by rw [a] at q;cases q⟩
   exact ⟨by simp,fun q=>by simp at q⟩
  split
  · rename_i q
    exact rem_two (rem_ok hD y) (h1.2 q)
  exact h1.1
theorem ckW_ok {W:WK} {D:DK} (h:okD D) (ps:List BA):okD (ckW W D ps).2.1:=by
 unfold ckW
 dsimp only
 have h1:okD (runD (ckL3 (framedM ps).1 (W.b+W.t+1)) D).1:=runD_ok ckL3_ok h
 split
 · exact h
 split
 · exact h
 split
 · exact h
 split
 · exact h1
 exact runD_ok remL_ok h1
theorem Tame.ck {W:WK} {D:DK} (H:Tame W D) (ps:List BA):Tame (ckW W D ps).1 (ckW W D ps).2.1:=by
 have hok:=ckW_ok (W:=W) H.ok ps
 have hoW:=ckW_okW D ps H.okW
 have hst:W.s≤(ckW W D ps).2.1.starts:=by rw [ckW_starts];exact H.st
 rcases ask_cases W.s W.bad D with h | h
 · obtain ⟨hb,hu,hs⟩:=ask_zero h
   have hL:=H.lay h
   have key:(ckW W D ps).1.s=W.s∧(ckW W D ps).1.t≤16∧(askW (ckW W D ps).1.s (ckW W D ps).1.bad (ckW W D ps).2.1=0→Lay (namesD (ckW W D ps).2.1) (ckW W D ps).1.b (ckW W D ps).1.t):=by
    unfold ckW
    rw [h,if_neg (by decide)]
    split
    · exact ⟨rfl,H.few,fun _=>hL⟩
    split
    · exact ⟨rfl,H.few,fun _=>hL⟩
    rename_i h9
    dsimp only
    have hrun:=ck_run H.ok hu (framedM ps).1 (W.b+W.t+1)
    have htu:=H.turned h (by omega) (framedM ps).1
    obtain ⟨r,hr⟩:∃ r,r=runD (ckL3 (framedM ps).1 (W.b+W.t+1)) D:=⟨_,rfl⟩
    have hrok:okD r.1:=by rw [hr];exact runD_ok ckL3_ok H.ok
    rw [←hr] at hrun htu ⊢
    split
    · rename_i hne
      refine ⟨rfl,H.few,fun q=>?_⟩
      obtain ⟨q1,q2,_⟩:=ask_zero q
      obtain ⟨_,he⟩:=bad_false q1
      rcases hrun with ⟨a,_⟩ | ⟨_,a⟩
      · exact absurd a hne
      show Lay (namesD r.1) _ _
      rw [a (he.resolve_left hne)]
      exact hL
    rename_i hne
    have h0:r.2=0:=by simpa using hne
    obtain ⟨hd,hLt⟩:=htu h0
    dsimp only
    rw [hLt.base,hLt.tails]
    refine ⟨rfl,Nat.zero_le _,fun q=>?_⟩
    obtain ⟨q1,q2,_⟩:=ask_zero q
    obtain ⟨_,he⟩:=bad_false q1
    have h2:(runD (remL (staleM (namesD r.1))) r.1).2=0:=he.resolve_right (rem_two hrok hd)
    obtain ⟨_,_,hm,_⟩:=rem_read hrok hd h2
    exact hLt.less hm
   obtain ⟨k1,k2,k3⟩:=key
   exact ⟨hok,hoW,k2,k3,by rw [k1];exact hst⟩
 rw [show ckW W D ps=(W,D,41) by unfold ckW;rw [h,if_pos (by decide)]]
 exact H
theorem Tame.files {W:WK} {D D':DK} (H:Tame W D) (h1:okD D') (h2:D'.down=true∨(D'.down=D.down∧D'.starts=D.starts∧D'.files=D.files)) (h3:D.starts≤D'.starts):Tame W D':=by
 refine ⟨h1,H.okW,H.few,fun q=>?_,Int.le_trans H.st h3⟩
 obtain ⟨q1,q2,q3⟩:=ask_zero q
 rcases h2 with h2 | ⟨a,b,c⟩
 · rw [q2] at h2;cases h2
 have hL:=H.lay (by unfold askW at q ⊢;rw [←a,←b];exact q)
 unfold namesD at hL ⊢
 rw [c]
 exact hL
theorem Tame.fail {W:WK} {D:DK} (H:Tame W D) (z:Int) (hz:z≤9223372036854775807) (K:List Int):Tame W (failD D z K).1:=by
 have h1:=fail_ok H.ok z hz K
 refine H.files h1 ?_ ?_<;>unfold failD
 · split
   · exact .inr ⟨rfl,rfl,rfl⟩
   split
   · exact .inr ⟨rfl,rfl,rfl⟩
   exact .inr ⟨rfl,rfl,rfl⟩
 split
 · exact Int.le_refl _
 split
 · exact Int.le_refl _
 exact Int.le_refl _
theorem Tame.crash {W:WK} {D:DK} (H:Tame W D) (K:List Int):Tame W (crashD D K).1:=by
 have h1:=crash_ok H.ok K
 refine H.files h1 ?_ ?_<;>unfold crashD
 · split
   · exact .inr ⟨rfl,rfl,rfl⟩
   exact .inl rfl
 split
 · exact Int.le_refl _
 exact Int.le_refl _
theorem Tame.start {W:WK} {D:DK} (H:Tame W D):Tame W (startD D).1:=by
 have h1:=start_ok H.ok
 unfold startD at h1 ⊢
 split
 · rename_i hd
   rw [if_pos hd] at h1
   refine ⟨h1,H.okW,H.few,fun q=>?_,by have:=H.st;show W.s≤D.starts+1;omega⟩
   obtain ⟨_,_,q3⟩:=ask_zero q
   have:=H.st
   have q4:D.starts+1=W.s:=q3
   omega
 exact H
theorem Tame.opened {D:DK} (hD:okD D) (h:(openD D).2.1=0):Tame (openD D).2.2.1 (openD D).1:=by
 obtain ⟨hu,ho,hs,hr,r2,hr2,hr20,hop⟩:=open_zero h
 have hk:=open_ok hD
 rw [hop] at hk ⊢
 have hL:=lay_of ho
 obtain ⟨a1,_,a3,a4⟩:=rem_read hD hu hr
 have hk1:okD (runD (remL (staleM (namesD D))) D).1:=runD_ok remL_ok hD
 have hL1:=hL.less a3
 have hout:Outc (runD (remL (staleM (namesD D))) D).1 r2 (fun z=>z∈namesD (runD (remL (staleM (namesD D))) D).1):=by
  rw [hr2]
  split
  · exact .inl ⟨rfl,a1,rfl,fun _=>Iff.rfl⟩
  exact trunc_out hk1 a1 _ _
 have hn:∀ z,z∈namesD r2.1↔z∈namesD (runD (remL (staleM (namesD D))) D).1:=by
  rcases hout with ⟨_,_,_,e⟩ | ⟨e,_⟩ | ⟨e,_⟩
  · exact e
  · exact absurd hr20 e
  rw [hr20] at e;cases e
 exact ⟨hk,last_le _,(hL1.same hn).few16 hk,fun _=>hL1.same hn,by rw [hout.starts,a4];exact Int.le_refl _⟩
theorem openD_starts {D:DK} (hD:okD D):(openD D).1.starts=D.starts:=by
 unfold openD
 dsimp only
 split
 · rfl
 split
 · rfl
 rename_i hd _
 split
 · exact remL_starts _ _
 rename_i hne
 have hr:(runD (remL (staleM (namesD D))) D).2=0:=by simpa using hne
 have hk1:okD (runD (remL (staleM (namesD D))) D).1:=runD_ok remL_ok hD
 have hu1:=(rem_read hD (by simpa using hd) hr).1
 split
 · exact remL_starts _ _
 exact ((trunc_out hk1 hu1 _ _).starts).trans (remL_starts _ _)
theorem whole_five (x:BA):(wholeM x).1.length*5≤x.size:=by
 obtain ⟨_,h2,_,_⟩:=wholeL_spec (ck:=ckL) _ x.data.toList (Nat.le_refl _)
 have h3:=congrArg List.length h2
 have h4:∀ ps:List (List UInt8),ps.length*5≤(framesL ckL ps).length:=by
  intro ps
  induction ps with
  | nil=>exact Nat.zero_le _
  |
   cons p ps ih =>
   rw [framesL_cons,List.length_append,List.length_cons]
   have:=frameL_len ckL_len p
   omega
 have h5:=h4 (wholeL ckL x.data.toList).1
 rw [←h3,List.length_take,size_data] at h5
 unfold wholeM
 simp only [List.length_map]
 omega
theorem filter_sum (f:BA→Nat) (p:BA→Bool):∀ N:List BA,((N.filter p).map f).sum≤(N.map f).sum
 | []=>Nat.le_refl _
 |
  x::N=>by
  have:=filter_sum f p N
  by_cases h:p x=true
  · rw [List.filter_cons_of_pos h];simp only [List.map_cons,List.sum_cons];omega
  rw [List.filter_cons_of_neg h];simp only [List.map_cons,List.sum_cons];omega
theorem sub_sum {S N:List BA} (hS:S.Nodup) (hN:N.Nodup) (h:∀ x∈S,x∈N) (f:BA→Nat):(S.map f).sum≤(N.map f).sum:=by
 have hp:S.Perm (N.filter (memB S)):=(List.perm_ext_iff_of_nodup hS (hN.filter _)).2 fun x=>by
  rw [List.mem_filter]
  exact ⟨fun q=>⟨h x q,memB_iff.2 q⟩,fun q=>memB_iff.1 q.2⟩
 rw [perm_sum (hp.map f)]
 exact filter_sum f _ N
theorem pay_five:∀ dat:List BA,(payM dat).length*5≤(dat.map fun x=>x.size).sum
 | []=>Nat.le_refl _
 |
  x::dat=>by
  have h1:=pay_five dat
  have h2:=whole_five x
  have e:payM (x::dat)=(wholeM x).1++payM dat:=rfl
  rw [e,List.length_append]
  simp only [List.map_cons,List.sum_cons]
  omega
theorem pay_few {D:DK} (hD:okD D) (hu:D.down=false):(payM (dataD D)).length≤1000000:=by
 have h1:=pay_five (dataD D)
 have h2:(dataD D).map (fun x=>x.size)=(segsM (baseM (namesD D)) (tailsM (namesD D))).map (szF D.files):=by
  unfold dataD
  rw [List.map_map]
  refine List.map_congr_left fun x _=>?_
  show (readD D x).1.size=szF D.files x
  rw [read_lk hu hD.rise]
  unfold szF
  cases lk D.files x<;>rfl
 rw [h2] at h1
 have h3:=sub_sum (segs_nodup _ _) (rise_nodup hD.rise) (fun x hx=>segs_sub (namesD D) x hx) (szF D.files)
 have h4:=sumD_names hD.rise
 have h5:=hD.room
 have h6:=hD.most.2
 have h7:(List.map (szF D.files) (List.map (fun x=>x.n) D.files)).sum=sumD D.files:=h4.symm
 omega
def BenL (k q r:Nat) (p w:Nat) (W:WK) (D:DK) (A:Option Addr) (c:Nat):List Asn:=[Pt k 68 [pP q,pP p,pP r,pP w],DiskM q D,RefD r D,WalM p q W,ptV w r W A c,rowV W A c]
set_option maxHeartbeats 1000000 in
theorem openBok (k q r:Nat) (pv wv:Value) (D:DK) (hD:okD D) (h:(openD D).2.1=0):Triple Tryz.prog 29 [pP k] [Pt k 68 [pP q,pv,pP r,wv],DiskM q D,RefD r D] [TabA] (Nat × Nat × Option Addr × Nat) (fun _=>.bool true) (fun _=>True) (fun (p,w,A,c)=>BenL k q r p w (openD D).2.2.1 (openD D).1 A c):=by
 have hfew:(openD D).2.2.2.length≤1000000:=by
  obtain ⟨hu,_,_,_,_,_,_,hop⟩:=open_zero h
  rw [hop]
  exact pay_few hD hu
 have T1:=openOk q D hD h
 have T2:=rOpenOk r D hD h
 obtain ⟨R,hR⟩:∃ R,R=openD D:=⟨_,rfl⟩
 rw [←hR] at T1 T2 hfew ⊢
 obtain ⟨n,hn⟩:∃ n,n=R.2.2.2.length:=⟨_,rfl⟩
 rw [←hn] at T1 T2 hfew
 have T3:=fun A c B d=>sameTextsR A B R.2.2.2 R.2.2.2 n c n d hn hn hfew
 simp only [decide_true] at T3
 unfold BenL
 refine aT Tryz.func29 [.pt 0 k 0] [.box k 68 [vP q,.va pv,vP r,.va wv],.fact (DiskM q D),.fact (RefD r D)] (fun E=>?_) ⟨rfl,trivial⟩
 refine aG ?_
 refine aC T1 [1] [.inl 0] fun ⟨x0,x1,x2⟩ h3=>?_
 refine aC T2 [2] [] fun ⟨x4,x5,x6,x7,x8⟩ h9=>?_
 refine aI ?_
 refine aC (T3 (x1) (x2) (x7) (x8)) [] [.inr 4,.inr 7] fun _ h10=>?_
 refine aI (aI ?_)
 refine ev_stop (go_loopR [9,10,15,19,24,44,45,46,47,48,49,50,51,52] (fun (i,_)=>[(9,vI (i:Nat))]) (fun (_,M)=>[(4,.fact (Row 9 1 x1 n x2 (M.flatMap encS)))]) (fun ((i,M):Nat × List ByteArray)=>i≤n∧n=M.length) (fun (i,_)=>n-i) ((0,R.2.2.2):Nat × List ByteArray) ⟨Nat.zero_le _,hn⟩ aS (fun x_ h_=>?_))
 obtain ⟨i,M⟩:=x_
 obtain ⟨hi,hM⟩:=h_
 refine aG ?_
 refine ev_if_lt (fun h40=>?_) (fun h40=>?_)
 refine aG ?_
 refine ev_stop (go_index0 (sz:=1) Tryz.tbs_ok (.inr 4) (i) rfl rfl rfl rfl rfl rfl (by omega) rfl Row.at0 (fun g41 e42=>?_))
 subst e42
 refine aG ?_
 have l43:i<(M).length:=(by omega)
 refine ev_stop (go_storeR Tryz.tbs_ok 4 (i) 0 ({ data := #[63]:ByteArray }) rfl rfl rfl rfl rfl (by omega) (fun _=>rfl) (ones_of rfl) (by omega) l43 rfl (by decide) (ones_of rfl) rfl ?_)
 refine aG ?_
 refine wN (i+1) ?_
 refine ev_fin (round_next ((i+1,M.set i { data := #[63]:ByteArray })) (show i+1≤n∧n=(M.set i { data := #[63]:ByteArray }).length from (by (refine ⟨?_,?_⟩<;>first | assumption | omega | (simp only [List.length_set,List.length_append,List.length_cons,List.length_nil]<;>omega) | rfl))) (show n-(i+1)<n-i from (by omega)) aS)
 refine aG ?_
 refine ev_fin (go Tryz.tbs_ok 1000 ?_)
 refine aJ ?_
 exact ev_fin ⟨trivial,_,rfl,((x0,x4,x5,x6)),rfl,trivial,aF [0,3,6,1,2,5]⟩
set_option maxHeartbeats 1000000 in
theorem openBerr (k q r:Nat) (pv wv:Value) (D:DK) (hD:okD D) (h:(openD D).2.1≠0):Triple Tryz.prog 29 [pP k] [Pt k 68 [pP q,pv,pP r,wv],DiskM q D,RefD r D] [TabA] Unit (fun _=>.bool true) (fun _=>True) (fun _=>[Pt k 68 [pP q,pv,pP r,wv],DiskM q (openD D).1,RefD r (openD D).1]):=by
 have T1:=openErr q D hD h
 have T2:=rOpenErr r D hD h
 obtain ⟨R,hR⟩:∃ R,R=openD D:=⟨_,rfl⟩
 rw [←hR] at T1 T2 h ⊢
 have T3:=(sameTexts none none [] [] 0 0 0 0 rfl rfl (by decide)).reads (N':=[TabA]) (fun X hX=>by
  simp only [List.mem_cons,List.not_mem_nil,or_false,or_self] at hX
  rw [hX]
  exact ⟨_,List.mem_cons_self,fun _ _=>Rd.nil _ _ _⟩)
 simp only [decide_true] at T3
 refine aT Tryz.func29 [.pt 0 k 0] [.box k 68 [vP q,.va pv,vP r,.va wv],.fact (DiskM q D),.fact (RefD r D)] (fun E=>?_) ⟨rfl,trivial⟩
 refine aG ?_
 refine aC T1 [1] [.inl 0] fun _ h0=>?_
 refine aC T2 [2] [] fun ⟨x1,x2,x3,x4,x5⟩ h6=>?_
 refine aI ?_ (ne_no (show R.snd.fst=R.snd.fst from (by omega)))
 refine aC T3 [] [.inl 0] fun _ h7=>?_
 refine aI (aI ?_)
 refine ev_stop (go_loopR [9,10,15,19,24,44,45,46,47,48,49,50,51,52] (fun i=>[(9,vI (i:Nat))]) (fun _=>[]) (fun i=>i=0) (fun _=>0) (0:Nat) rfl aS (fun i hi=>?_))
 subst hi
 refine aG (aI ?_)
 refine ev_fin (go Tryz.tbs_ok 1000 ?_)
 refine aI ?_ (beq_eq_false_iff_ne.2 (by with_reducible assumption))
 exact ev_fin ⟨trivial,_,rfl,(),rfl,trivial,aF [0,1,2]⟩
def againB (W:WK) (D:DK):WK × DK:=if (openD D).2.1=0 then ((openD D).2.2.1,(openD D).1) else (W,(openD D).1)
def doB (W:WK) (D:DK) (x:ActW):WK × DK :=
 if x.k % 10=4 then ((syncW W D).1,(syncW W D).2.1)
 else if x.k % 10=5 then ((ckW W D x.L).1,(ckW W D x.L).2.1)
 else if x.k % 10=6 then againB W (startD (crashD D x.K).1).1
 else if x.k % 10=7 then (W,(failD D x.z x.K).1)
 else if x.k % 10=8 then againB W (startD D).1
 else if x.k % 10=9 then againB W D
 else ((appW W D x.L).1,(appW W D x.L).2.1)
theorem rem_fail:∀ {S:List BA} {D:DK},okD D→D.down=false→S.Nodup→(∀ x∈S,x∈namesD D)→(runD (remL S) D).2≠0→(runD (remL S) D).1.down=true
 | [],_,_,_,_,_,h=>absurd rfl h
 |
  y::S,D,hD,hu,hn,hm,h=>by
  have hstep:runD (remL (y::S)) D=if (remD D y).2=0 then runD (remL S) (remD D y).1 else remD D y:=rfl
  rw [hstep] at h ⊢
  obtain ⟨n1,n2⟩:=List.nodup_cons.1 hn
  by_cases h0:(remD D y).2=0
  · rw [if_pos h0] at h ⊢
    have hz:=rem_read1 hD hu (x:=y++y++⟨#[0]⟩) h0 (fun q=>by have:=congrArg ByteArray.size q;rw [ByteArray.size_append,ByteArray.size_append] at this;have:(⟨#[0]⟩:BA).size=1:=rfl;omega)
    refine rem_fail (rem_ok hD y) hz.1 n2 (fun x hx=>?_) h
    rw [hz.2.2.1,List.mem_filter]
    exact ⟨hm x (List.mem_cons_of_mem _ hx),decide_eq_true fun q=>n1 (q ▸ hx)⟩
  rw [if_neg h0]
  unfold remD at h0 ⊢
  rw [if_neg (by rw [hu];decide)] at h0 ⊢
  have hh:hasF D.files y=true:=by
   rw [lk_has]
   cases hq:lk D.files y with
   | none=>exact absurd hq (names_lk.1 (hm y List.mem_cons_self))
   | some v=>rfl
  rw [if_pos hh] at h0 ⊢
  rcases chg_two hu (late:=false) (L2:=D.files.eraseIdx (posF D.files y)) with ⟨a,_⟩ | ⟨_,b,_⟩
  · exact absurd a h0
  exact b
theorem stale_nodup {D:DK} (hD:okD D):(staleM (namesD D)).Nodup:=by
 unfold staleM
 split
 · exact (rise_nodup hD.rise).filter _
 exact List.nodup_nil
theorem open_bad {D:DK} (hD:okD D) (h:(openD D).2.1≠0):(openD D).1=D∨(openD D).1.down=true∨(∀ z,z∈namesD (openD D).1↔z∈namesD D∧z ∉ staleM (namesD D)):=by
 unfold openD at h ⊢
 dsimp only at h ⊢
 split
 · exact .inl rfl
 split
 · exact .inl rfl
 rename_i hd hb
 rw [if_neg hd,if_neg hb] at h
 have hu:D.down=false:=by simpa using hd
 split
 · rename_i hr
   exact .inr (.inl (rem_fail hD hu (stale_nodup hD) (fun x hx=>(stale_mem hx).2.2) hr))
 rename_i hr
 rw [if_neg hr] at h
 have h0:(runD (remL (staleM (namesD D))) D).2=0:=by simpa using hr
 obtain ⟨a1,_,a3,_⟩:=rem_read hD hu h0
 have hk1:okD (runD (remL (staleM (namesD D))) D).1:=runD_ok remL_ok hD
 split
 · exact .inr (.inr a3)
 rcases trunc_out hk1 a1 (endM (baseM (namesD D)) (tailsM (namesD D))) _ with ⟨_,_,_,e⟩ | ⟨_,_,e⟩ | ⟨_,e,_⟩
 · exact .inr (.inr fun z=>(e z).trans (a3 z))
 · right
   right
   intro z
   rw [e]
   exact a3 z
 exact .inr (.inl e)
theorem Tame.again {W:WK} {D:DK} (H:Tame W D):Tame (againB W D).1 (againB W D).2∧(againB W D).2.starts=D.starts:=by
 unfold againB
 split
 · rename_i h
   exact ⟨Tame.opened H.ok h,openD_starts H.ok⟩
 rename_i h
 refine ⟨⟨open_ok H.ok,H.okW,H.few,fun q=>?_,by rw [openD_starts H.ok];exact H.st⟩,openD_starts H.ok⟩
 obtain ⟨q1,q2,q3⟩:=ask_zero q
 rcases open_bad H.ok h with e | e | e
 · dsimp only at q ⊢
   rw [e] at q ⊢
   exact H.lay q
 · rw [e] at q2
   cases q2
 have hq:askW W.s W.bad D=0:=by
  have hdn:D.down=false:=by
   cases hd:D.down with
   | false=>rfl
   |
    true =>
    have:openD D=(D,41,⟨0,false,0,0⟩,[]):=by unfold openD;rw [if_pos hd]
    rw [this] at q2
    exact absurd (q2.symm.trans hd) (by decide)
  unfold askW
  rw [q1,hdn]
  rw [openD_starts H.ok] at q3
  have q4:D.starts=W.s:=q3
  rw [q4]
  simp
 exact (H.lay hq).less e
end Go.Proofs.YtjlfdfmkofbccaaGreatDoor

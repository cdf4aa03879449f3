/-
  What is proved: storeFeed_card. Conditions: none.
-/
import Derived.Test.YtnbaejindfillaaGreatDoorCards
import Derived.Test.YtnbaejindfillaaGreatDoorTie
import Derived.SevenTiedAt
import Derived.LaidLaws
import Derived.LaidMore
import Derived.Lib.LaidTab
import Derived.Stop.LaidErr
import Derived.OpenShut
import Derived.ChangeMaps5
import Derived.Test.YtnbaejindfillaaGreatDoorZa6
set_option maxRecDepth 100000
namespace Go.Proofs.YtnbaejindfillaaGreatDoor
open Go.Sy Go.RowKit Go.ChangeShapes Go.WideShapes
instance:Inhabited Ent:=⟨⟨0,0,0,0,0,0⟩⟩
instance:Inhabited Spt:=⟨⟨0,0⟩⟩
theorem encE_len (x:Ent):(encE x).length=6:=rfl
theorem encP_len (x:Spt):(encP x).length=2:=rfl
theorem int_dec {w:World} {F:Nat} {vs:List Value} (hl:vs.length=1) (h:Sees Tryz.tab w (F+1) 3 vs):∃ x:Int,vs=encN x∧True:=by
 obtain ⟨n0,e0,_⟩:=leaf_int (F:=F) (d:=0) (k:=.i64) (u:=3) rfl rfl h 0 (by decide)
 exact ⟨n0,eq_of_at hl (And.intro e0 trivial),trivial⟩
theorem spt_dec {w:World} {F:Nat} {vs:List Value} (hl:vs.length=2) (h:Sees Tryz.tab w (F+1+1) 72 vs):∃ x:Spt,vs=encP x∧(True):=by
 obtain ⟨n0,e0,w0⟩:=leaf_int (F:=F) (d:=1) (k:=.i64) (u:=3) rfl rfl h 0 (by decide)
 obtain ⟨n1,e1,w1⟩:=leaf_int (F:=F) (d:=1) (k:=.i64) (u:=3) rfl rfl h 1 (by decide)
 exact ⟨⟨n0,n1⟩,eq_of_at hl (And.intro e0 (And.intro e1 trivial)),trivial⟩
theorem ent_dec {w:World} {F:Nat} {vs:List Value} (hl:vs.length=6) (h:Sees Tryz.tab w (F+1+2) 101 vs):∃ x:Ent,vs=encE x∧(True):=by
 obtain ⟨n0,e0,w0⟩:=leaf_int (F:=F) (d:=2) (k:=.i64) (u:=3) rfl rfl h 0 (by decide)
 obtain ⟨n1,e1,w1⟩:=leaf_int (F:=F) (d:=2) (k:=.i64) (u:=3) rfl rfl h 1 (by decide)
 obtain ⟨n2,e2,w2⟩:=leaf_int (F:=F) (d:=2) (k:=.i64) (u:=3) rfl rfl h 2 (by decide)
 obtain ⟨n3,e3,w3⟩:=leaf_int (F:=F) (d:=2) (k:=.i64) (u:=3) rfl rfl h 3 (by decide)
 obtain ⟨n4,e4,w4⟩:=leaf_int (F:=F) (d:=2) (k:=.i64) (u:=3) rfl rfl h 4 (by decide)
 obtain ⟨n5,e5,w5⟩:=leaf_int (F:=F) (d:=2) (k:=.i64) (u:=3) rfl rfl h 5 (by decide)
 exact ⟨⟨n0,n1,n2,n3,n4,n5⟩,eq_of_at hl (And.intro e0 (And.intro e1 (And.intro e2 (And.intro e3 (And.intro e4 (And.intro e5 trivial)))))),trivial⟩
theorem rec_dec {w:World} {F:Nat} {vs:List Value} (hl:vs.length=8) (h:Sees Tryz.tab w (F+1+1+1+1+1) 54 vs):∃ x:RecS,vs=encR x∧((x.rdL.holds (hp w)∧x.rdF.holds (hp w))∧x.r.L.length≤reachBytes):=by
 obtain ⟨n0,e0,w0⟩:=leaf_int (F:=F+1+1+1) (d:=1) (k:=.i64) (u:=3) rfl rfl h 0 (by decide)
 obtain ⟨n1,e1,w1⟩:=leaf_int (F:=F+1+1+1) (d:=1) (k:=.i64) (u:=3) rfl rfl h 1 (by decide)
 obtain ⟨n2,e2,w2⟩:=leaf_int (F:=F+1+1+1) (d:=1) (k:=.i64) (u:=3) rfl rfl h 2 (by decide)
 obtain ⟨n3,e3,w3⟩:=leaf_int (F:=F+1+1+1) (d:=1) (k:=.i64) (u:=3) rfl rfl h 3 (by decide)
 obtain ⟨n4,e4,w4⟩:=leaf_int (F:=F+1+1+1) (d:=1) (k:=.i64) (u:=3) rfl rfl h 4 (by decide)
 obtain ⟨n5,e5,w5⟩:=leaf_int (F:=F+1+1+1) (d:=1) (k:=.i64) (u:=3) rfl rfl h 5 (by decide)
 obtain ⟨A6,n6,c6,l6,e6,hn6,hc6,hm6,hr6,hg6⟩:=leaf_slice (F:=F+1+1+1) (d:=1) (u:=30) (el:=101) (enc:=encE) (G:=fun _=>True) rfl rfl (by decide) encE_len (fun _=>rfl) (fun vs hl h=>ent_dec hl h) rfl h 6 (by decide)
 subst hn6
 obtain ⟨A7,n7,c7,l7,e7,hn7,hc7,hm7,hr7,hg7⟩:=leaf_slice (F:=F+1+1+1) (d:=1) (u:=34) (el:=72) (enc:=encP) (G:=fun _=>True) rfl rfl (by decide) encP_len (fun _=>rfl) (fun vs hl h=>spt_dec hl h) rfl h 7 (by decide)
 subst hn7
 exact ⟨⟨⟨n0,n1,n2,n3,n4,n5,l6,l7⟩,A6,c6,A7,c7⟩,eq_of_at hl (And.intro e0 (And.intro e1 (And.intro e2 (And.intro e3 (And.intro e4 (And.intro e5 (And.intro e6 (And.intro e7 trivial)))))))),⟨hr6,hr7⟩,hm6.2⟩
theorem act_dec {w:World} {F:Nat} {vs:List Value} (hl:vs.length=3) (h:Sees Tryz.tab w (F+1+1+1+1+1+1+1) 40 vs):∃ x:ActA,vs=encA x∧((x.rdA.holds (hp w)∧(RecsRd x.L).holds (hp w)∧x.rdK.holds (hp w))∧(0≤x.k∧x.k<256)∧∀ y∈x.L,y.r.L.length≤reachBytes):=by
 obtain ⟨n0,e0,w0⟩:=leaf_int (F:=F+1+1+1+1+1) (d:=1) (k:=.u8) (u:=5) rfl rfl h 0 (by decide)
 obtain ⟨A1,n1,c1,l1,e1,hn1,hc1,hm1,hr1,hg1⟩:=leaf_slice (F:=F+1+1+1+1+1) (d:=1) (u:=37) (el:=54) (enc:=encR) (G:=fun x=>(x.rdL.holds (hp w)∧x.rdF.holds (hp w))∧x.r.L.length≤reachBytes) rfl rfl (by decide) encR_len (fun _=>rfl) (fun vs hl h=>rec_dec hl h) rfl h 1 (by decide)
 subst hn1
 obtain ⟨A2,n2,c2,l2,e2,hn2,hc2,hm2,hr2,hg2⟩:=leaf_slice (F:=F+1+1+1+1+1) (d:=1) (u:=38) (el:=3) (enc:=encN) (G:=fun _=>True) rfl rfl (by decide) encN_len (fun _=>rfl) (fun vs hl h=>int_dec hl h) rfl h 2 (by decide)
 subst hn2
 exact ⟨⟨n0,l1,A1,c1,l2,A2,c2⟩,eq_of_at hl (And.intro e0 (And.intro e1 (And.intro e2 trivial))),⟨hr1,fun y hy=>(hg1 y hy).1,hr2⟩,wf_u8 w0,fun y hy=>(hg1 y hy).2⟩
theorem actsA_in {w:World} {l:List ActA} (h:∀ x∈l,(x.rdA.holds (hp w)∧(RecsRd x.L).holds (hp w)∧x.rdK.holds (hp w))∧(0≤x.k∧x.k<256)∧∀ y∈x.L,y.r.L.length≤reachBytes):(ActsA l).holds (hp w)∧(∀ x∈l,∀ y∈x.L,y.r.L.length≤140737488351232)∧∀ x∈l,0≤x.k∧x.k<256:=⟨fun x hx=>(h x hx).1,fun x hx=>(h x hx).2.2,fun x hx=>(h x hx).2.1⟩
theorem maxLen_le {n c:Nat} (h:n≤c) (h2:c≤maxLen∧n≤reachBytes):n≤9223372036854775807:=Nat.le_trans h h2.1
theorem bytes_ok:bytesOk Tryz.prog Tryz.tbs.tab=true:=by kernel_rfl
theorem all_le {l:List Nat} (h:l.all (· ≤ reachBytes)=true):∀ k∈l,k≤reachBytes:=fun k hk=>of_decide_eq_true (List.all_eq_true.1 h k hk)
abbrev laidL:List (String × DataW Unit):=Rows.storeNoneRow.laid
theorem door_met (os:Os) (args:Array Value):laidMetH Tryz.prog laidL ((World.doorLaid Tryz.prog 400 os).forCall (fun _ _=>0) ⟨#[],args,[]⟩).memory:=by
 rw [MakeChecks.laidMetH_plain _ _ _ (by kernel_rfl)]
 exact laidMet_of_run' 8 (by kernel_rfl) (by kernel_rfl)
theorem tab_of {W:World} (h:laidMetH Tryz.prog laidL W):TabA.holds (hp W):=by
 rw [MakeChecks.laidMetH_plain _ _ _ (by kernel_rfl)] at h
 obtain ⟨g,hg,hgt⟩:∃ g,Tryz.prog.globalNamed "internal/strconv.uint64pow10" = some g∧(Tryz.prog.globals[g]?).map (·.type)=some 227:=⟨0,by kernel_rfl,by kernel_rfl⟩
 have h3:Lib.TabIs Tryz.prog W "internal/strconv.uint64pow10" .u64 Lib.pow10Tab:=Lib.tabIs_of_head (g:=g) (t:=227) (e:=189) (n:=20) hg hgt (by kernel_rfl) (by kernel_rfl) (by kernel_rfl) (by kernel_rfl) (laidMet.tail (laidMet.tail h))
 intro w hw
 have h4:W.var? Tryz.prog "internal/strconv.uint64pow10" = some (Lib.pow10Tab.map fun z=>Value.int .u64 z).toArray:=h3
 show w.var? Tryz.prog "internal/strconv.uint64pow10" = some _
 unfold World.var? at h4 ⊢
 rw [hg] at h4 ⊢
 simp only [Option.bind_some] at h4 ⊢
 cases hx:W.heap[g]? with
 | none=>rw [hx] at h4;cases h4
 |
  some o =>
  rw [hx] at h4
  have h5:w.heap[g]? = some o:=hw g o hx
  rw [h5]
  exact h4
open Go.Sy Go.RowKit
theorem le_sum {l:List Nat} {k:Nat} (h:k∈l):k≤l.sum:=by
 induction l with
 | nil=>cases h
 |
  cons a l ih =>
  rw [List.sum_cons]
  rcases List.mem_cons.1 h with rfl | h
  · omega
  have:=ih h
  omega
theorem entsA_le {l:List ActA} {x:ActA} (h:x∈l):entsR x.L≤entsA l:=le_sum (List.mem_map_of_mem h)
theorem entsR_le {L:List RecS} {y:RecS} (h:y∈L):y.r.L.length≤entsR L:=le_sum (List.mem_map_of_mem h)
theorem fit_recs {l:List ActA} {x:ActA} (hx:x∈l) (hf:Fit x) (he:entsA l≤1500):∀ y∈x.L,y.r.L.length≤2000∧y.r.F.length≤100000:=fun y hy=>by
 have h1:=entsA_le hx
 have h2:=entsR_le hy
 have h3:=hf.feed y hy
 omega
theorem told_of {x:StaS} (h:okS x.abs):ordF [] x.F=true∧x.r0.r.c=(cnt x.F 0:Int)∧x.r1.r.c=(cnt x.F 1:Int)∧x.r2.r.c=(cnt x.F 2:Int)∧x.r3.r.c=(cnt x.F 3:Int):=by
 have ht:=h.told
 unfold toldF at ht
 rw [Bool.and_eq_true,List.all_eq_true] at ht
 obtain ⟨h1,h2⟩:=ht
 exact ⟨h1,of_decide_eq_true (h2 0 (by decide)),of_decide_eq_true (h2 1 (by decide)),of_decide_eq_true (h2 2 (by decide)),of_decide_eq_true (h2 3 (by decide))⟩
theorem ord_at {F:List Spt} (h:ordF [] F=true) {k:Nat} (hk:k<F.length):0≤F[k].s∧F[k].s<4∧F[k].i=(cnt (F.take k) F[k].s:Int):=by
 have h1:=ordF_append (F.take k) [] (F.drop k)
 rw [List.take_append_drop,h,List.nil_append,ordF_at hk] at h1
 have h2:=h1.symm
 simp only [Bool.and_eq_true,decide_eq_true_eq] at h2
 exact ⟨h2.2.1.1.1,h2.2.1.1.2,h2.2.1.2⟩
theorem reg_len {x:StaS} (h:okS x.abs) {j:Nat} {g:RegS} (hg:x.regs[j]? = some g):g.r.L.length≤1000:=by
 have h1:=h.regs g.r (by rw [abs_R];exact List.mem_map_of_mem (List.mem_of_getElem? hg))
 have:=wholeE_len (okR_of h1).2.2.2.1
 omega
set_option maxHeartbeats 16000000 in
theorem storeFeed (A:Option Addr) (l:List ActA) (n c:Nat) (hn:n=l.length) (hn1:n≤9223372036854775807) (hB:∀ x∈l,∀ y∈x.L,y.r.L.length≤140737488351232) (hin:∀ x∈l,0≤x.k∧x.k<256) :
 Triple Tryz.prog 7 [.slice A n c] [] [TabA,Rd 3 A n (l.flatMap encA),ActsA l] Unit (fun _=>.bool true) (fun _=>True) (fun _=>[]):=by
 have TG:=(beyondT A l n c 40 hn hn1 hB).reads (N':=[TabA,Rd 3 A n (l.flatMap encA),ActsA l]) (fun X hX=>⟨X,List.mem_cons_of_mem _ hX,fun _ q=>q⟩)
 have TL:=livesT
 have TO:=openedT
 refine aT Tryz.func7 [vL A n c] [] (fun E=>?_) ⟨trivial,trivial⟩
 refine aG ?_
 refine aC TG [] [.inl 0,.inl 1,.inl 2] fun x10 h11=>?_
 refine ev_if (fun h12=>?_) (fun h12=>?_)
 refine aG ?_
 refine aC TL [] [.inl 0] fun _ h13=>?_
 refine ev_fin ⟨trivial,_,rfl,(()),rfl,(by trivial),Frm.nil _⟩
 refine aG ?_
 refine aC TO [] [.inl 0] fun ⟨x14,x15,x16,x17⟩ h18=>?_
 have hX0:x17.abs=noSta := ‹_›
 have hF0:x17.F=[]:=congrArg Sta.F hX0
 obtain ⟨hn40,hfit,hent⟩:=h11 h12
 refine ev_stop (go_fact (Row 72 2 none 0 0 (x17.F.flatMap encP)) (by rw [hF0];exact Row.nilE _ _) ?_)
 refine aG ?_
 refine ev_stop (go_loopR [2,5,6,7,8,9,10,11,12,13,14,18,19,24,25,26,27,28,29,30,31,32,33,34,35,36,37,38,39,40,41,42,43,44,45,46,47,48,49,50,51,52,53,54,55,56,57,58,59,60,61,62,63,64,65,66,67,68,69,70,71,72,73,74,75,76,77,78,79,80,81,82,83,84,85,86,87,88,89,90,91,92,93,94,95,96,97,98,99,100,101,102,103,104,105,106,107,108,109,110,111,112,113,114,115,116,117,118,119,120,121,122,123,124,125,126,127,128,129,130,131,132,133,134,135,136] (fun (i,_,_,_,_,_,m,B,bc)=>[(5,vL B m bc),(6,vI (i:Nat))]) (fun (_,X,sure,dirty,W,D,m,B,bc)=>[(0,.fact X.rd),(1,.fact (StoP x15 x16 X sure dirty)),(2,.fact (WalM x16 x14 W)),(3,.fact (DiskM x14 D)),(4,.fact (Row 72 2 B m bc (X.F.flatMap encP)))]) (fun ((i,X,sure,_,W,D,m,_,_):Nat × StaS × Nat × Bool × WK × DK × Nat × Option Addr × Nat)=>i≤n∧StoI X.abs W D∧sure≤X.F.length∧m=X.F.length) (fun (i,_)=>n-i) ((0,x17,0,false,exW,exD,0,none,0):Nat × StaS × Nat × Bool × WK × DK × Nat × Option Addr × Nat) ⟨Nat.zero_le _,⟨by rw [hX0];exact okS_no,ex_live.ok,ex_live.okW⟩,Nat.zero_le _,by rw [hF0];rfl⟩ aS (fun x_ h_=>?_))
 obtain ⟨i,X,sure,dirty,W,D,m,B,bc⟩:=x_
 obtain ⟨hi,hI,hsu,hm⟩:=h_
 rcases Nat.lt_or_ge i n with hin2 | hin2
 · have hil:i<l.length:=by omega
   have hfx:=hfit l[i] (List.getElem_mem hil)
   have hk:=hin l[i] (List.getElem_mem hil)
   have hLi:=fit_recs (List.getElem_mem hil) hfx hent
   obtain ⟨R,hR⟩:∃ R,WriteR l[i].L X.abs W D=R:=⟨_,rfl⟩
   have TW:=writeLT x15 x16 x14 X sure dirty W D l[i].A l[i].L l[i].L.length l[i].c rfl (by have:=hfx.recs;omega) hLi hI.dk hI.wk hI.st R hR
   have hIW:=fun (y:StaS)=>hI.write (y:=y) hR
   obtain ⟨W1,D1,e1,b1⟩:=R
   dsimp only at TW hIW
   obtain ⟨S,hS⟩:∃ S,SyncR x16 x14 X sure dirty W D=S:=⟨_,rfl⟩
   have TS:=syncStT x15 x16 x14 X sure dirty W D hI.dk hI.wk
   obtain ⟨gS1,gS2⟩:=hI.sync hsu hS
   rw [hS] at TS
   obtain ⟨s2,d2,W2,D2,e2,hI2,hs2,TC⟩:=hI.ck x15 x16 x14 (sure:=sure) (dirty:=dirty) hsu
   refine go_more 2 (ActsA l) (Rd 8 l[i].A l[i].L.length (l[i].L.flatMap encR)) rfl (fun h p=>(p _ (List.getElem_mem hil)).1) ?_
   refine go_more 2 (ActsA l) (RecsRd l[i].L) rfl (fun h p=>(p _ (List.getElem_mem hil)).2.1) ?_
   refine aG ?_
   refine aJ ?_ (decide_eq_true (show (↑i:Int)<(↑n:Int) from (by omega)))
   refine ev_stop (go_indexE (sz:=3) Tryz.tbs_ok (.inl 1) (i) rfl rfl rfl rfl rfl rfl (by omega) rfl (fun _ h=>h) (fun g30 o32 e31=>?_))
   subst e31
   refine aG ?_
   have l33:i<(l).length:=(by omega)
   refine ev_stop (go_loadE Tryz.tbs_ok (.inl 1) (i) 0 rfl rfl rfl rfl (fun _ h=>h) (by omega) (fun _=>rfl) (by omega) l33 (by decide) ?_)
   refine aG ?_
   refine ev_join [38,39,40,41,42,43,44,45,46,47,48,49,50,51,52] (fun _=>[]) (fun (X',s',d',W',D')=>[(0,.fact X'.rd),(1,.fact (StoP x15 x16 X' s' d')),(2,.fact (WalM x16 x14 W')),(3,.fact (DiskM x14 D'))]) (fun ((X',s',_,W',D'):StaS × Nat × Bool × WK × DK)=>StoI X'.abs W' D'∧s'≤X'.F.length∧X.F <+: X'.F) (fun hif=>?_) (fun hif=>?_) (fun x_ h_=>?_)
   · refine aG ?_
     refine ev_stop (go_atE (sz:=3) Tryz.tbs_ok (i) rfl rfl rfl rfl rfl rfl (by omega) ?_)
     refine aG ?_
     have l40:i<(l).length:=(by omega)
     refine ev_stop (go_loadE Tryz.tbs_ok (.inl 1) (i) 1 rfl rfl rfl rfl (fun _ h=>h) (by omega) (fun _=>rfl) (by omega) l40 (by decide) ?_)
     refine aG ?_
     refine aC TW [1,2,3,0] [.inl 0,.inl 3,.inl 4] fun x41 h42=>?_
     refine ev_fin (join_next ((x41,sure,b1 || dirty,W1,D1)) (?_:StoI x41.abs W1 D1∧sure≤x41.F.length∧X.F <+: x41.F)  aS)
     obtain ⟨q1,q2⟩:=hIW _ h42
     exact ⟨q1,Nat.le_trans hsu q2.length_le,q2⟩
   · refine aG ?_
     refine ev_if_eq (fun h50=>?_) (fun h50=>?_)
     refine aG ?_
     refine aC TS [1,2,3] [.inl 0] fun _ h51=>?_
     refine ev_fin (join_next ((X,S.fst.fst,S.fst.snd,S.snd.fst)) (?_:StoI X.abs S.snd.fst.fst S.snd.fst.snd∧S.fst.fst≤X.F.length∧X.F <+: X.F)  aS)
     rotate_left
     refine aG ?_
     refine ev_if_eq (fun h52=>?_) (fun h52=>?_)
     refine aG ?_
     refine aC TC [1,2,3] [.inl 0,.inr 0] fun _ h53=>?_
     refine ev_fin (join_next ((X,s2,d2,W2,D2)) (?_:StoI X.abs W2 D2∧s2≤X.F.length∧X.F <+: X.F)  aS)
     rotate_left
     refine aG ?_
     refine ev_fin (join_next ((X,sure,dirty,W,D)) (?_:StoI X.abs W D∧sure≤X.F.length∧X.F <+: X.F)  aS)
     rotate_left
     · exact ⟨gS1,gS2,List.prefix_rfl⟩
     · exact ⟨hI2,hs2,List.prefix_rfl⟩
     exact ⟨hI,hsu,List.prefix_rfl⟩
   obtain ⟨X',s',d',W',D'⟩:=x_
   obtain ⟨hI',hs',hpre⟩:=h_
   obtain ⟨m',hm'⟩:∃ m',m'=X'.F.length:=⟨_,rfl⟩
   have TF:=feedSt x15 x16 X' s' d' (Nat.le_trans (feed_small hI'.st).1 (by decide))
   rw [←hm'] at TF
   have hmm:m≤m':=by rw [hm,hm'];exact hpre.length_le
   have hsm:s'≤m':=by rw [hm'];exact hs'
   have h256:m'≤256:=by rw [hm'];exact (feed_small hI'.st).1
   refine aG ?_
   refine aC TF [1] [.inr 0] fun ⟨x60,x61⟩ h62=>?_
   refine aI ?_ (decide_eq_false (show ¬(↑m':Int)<(↑m:Int) from (by omega)))
   refine aI ?_ (decide_eq_false (show ¬(↑s':Int) > (↑m':Int) from (by omega)))
   refine ev_new fun b63=>?_
   obtain ⟨hord,c0,c1,c2,c3⟩:=told_of hI'.st
   refine ev_stop (go_loopR [2,10,11,53,55,69,70,71,72,73,74,75,76,77,78,79,80,81,82,83,84,85,86,87,88,89,90,91,92,93,94,95,96,97,98,99,100,101,102,103,104,105,106,107,108,109,110,111,112,113,114,115] (fun (k,_)=>[(10,vI (k:Nat))]) (fun (_,h0,h1,h2,h3)=>[(6,.box b63 70 [vI h0,vI h1,vI h2,vI h3])]) (fun (k,h0,h1,h2,h3)=>k≤m'∧h0=(cnt (X'.F.take k) 0:Int)∧h1=(cnt (X'.F.take k) 1:Int)∧h2=(cnt (X'.F.take k) 2:Int)∧h3=(cnt (X'.F.take k) 3:Int)) (fun (k,_)=>m'-k) ((0,0,0,0,0):Nat × Int × Int × Int × Int) ⟨Nat.zero_le _,rfl,rfl,rfl,rfl⟩ aS (fun x_ h_=>?_))
   obtain ⟨k,h0,h1,h2,h3⟩:=x_
   obtain ⟨hk2,e0,e1,e2,e3⟩:=h_
   rcases Nat.lt_or_ge k m' with hkm | hkm
   · have hkl:k<X'.F.length:=by omega
     obtain ⟨g0,g4,gi⟩:=ord_at hord hkl
     have ct:=fun s=>cnt_take hkl s
     have hcl:∀ s,cnt (X'.F.take k) s≤k:=fun s=>by
      have:=List.countP_le_length (p:=fun z:Spt=>decide (z.s=s)) (l:=X'.F.take k)
      rw [List.length_take] at this
      unfold cnt
      omega
     have hpk:∀ h:k<X.F.length,X'.F[k]=X.F[k]:=fun h=>(hpre.getElem h).symm
     rcases (show X'.F[k].s=0∨X'.F[k].s=1∨X'.F[k].s=2∨X'.F[k].s=3 by omega) with hF1 | hF1 | hF1 | hF1
     · have hck:=hcl 0
       rw [hF1] at gi ct
       have hFs:X'.F[k].s=((0:Nat):Int):=hF1
       refine aG ?_
       refine aJ ?_ (decide_eq_true (show (↑k:Int)<(↑m':Int) from (by omega)))
       refine ev_stop (go_index0 (sz:=2) Tryz.tbs_ok (.inr 5) (k) rfl rfl rfl rfl rfl rfl (by omega) rfl Row.at0 (fun g80 e81=>?_))
       subst e81
       refine aG ?_
       have l82:k<(X'.F).length:=(by omega)
       refine ev_stop (go_loadE Tryz.tbs_ok (.inr 5) (k) 0 rfl rfl rfl rfl (fun _ h=>Row.rd h) (by omega) (fun _=>rfl) (by omega) l82 (by decide) ?_)
       refine aG ?_
       refine ev_new fun b83=>?_
       refine ev_stop (go_draw Tryz.tbs_ok true [0,1,2,3,4,5,6,7] [(0,true),(1,true),(2,true),(3,true),(4,true),(5,true),(6,true),(7,true),(8,true),(9,true),(10,true),(11,true),(12,true),(13,true),(14,true),(15,true),(16,true),(17,true),(18,true),(19,true),(20,true),(21,true),(22,true),(23,true),(24,true),(25,true),(26,true),(27,true),(28,true),(29,true),(30,true)] rfl ?_)
       refine aG (aE ?_)
       refine ev_if_lt (fun h84=>?_) (fun h84=>?_)
       refine aG (aE ?_)
       refine ev_stop (tk_index0 (sz:=2) Tryz.tbs_ok (.inr 4) (k) aB rfl rfl rfl rfl rfl rfl rfl (by omega) rfl Row.at0 (fun g85 e86=>?_))
       subst e86
       refine aG (aE ?_)
       have l87:k<(X.F).length:=(by omega)
       refine ev_stop (tk_loadE Tryz.tbs_ok (.inr 4) (k) 0 aB rfl rfl rfl rfl rfl (fun _ h=>Row.rd h) (by omega) (fun _=>rfl) (by omega) l87 (by decide) ?_)
       refine aG (aE ?_)
       rotate_left
       refine aG (aE ?_)
       refine aI ?_ (decide_eq_false (show ¬X'.F[k].s<0 from (by omega)))
       refine aE ?_
       refine aI ?_ (decide_eq_false (show ¬X'.F[k].s ≥ 4 from (by omega)))
       refine aE ?_
       refine ev_stop (go_slot 105 _ (.va (.int IntKind.i64 ((0:Nat):Int))) rfl rfl (congrArg (fun z=>Value.int IntKind.i64 z) (show X'.F[k].s=((0:Nat):Int) by first | omega | (simp only [List.getElem_set_self];omega))) (fun _=>trivial) ?_)
       refine aG (aE ?_)
       refine ev_stop (tk_indexArr Tryz.tbs_ok (0) aB rfl rfl rfl rfl rfl rfl rfl (by first | decide | omega) rfl rfl ?_)
       refine aG (aE ?_)
       refine aI ?_ (ne_no (show X'.F[k].i=h0 from (by omega)))
       refine ev_stop (go_slot 111 _ (.va (.int IntKind.i64 ((0:Nat):Int))) rfl rfl (congrArg (fun z=>Value.int IntKind.i64 z) (show X'.F[k].s=((0:Nat):Int) by first | omega | (simp only [List.getElem_set_self];omega))) (fun _=>trivial) ?_)
       refine aG ?_
       refine ev_stop (go_indexArr Tryz.tbs_ok (0) rfl rfl rfl rfl rfl rfl (by first | decide | omega) rfl rfl ?_)
       refine aG ?_
       refine w6 ?_
       refine ev_stop (go_indexArr Tryz.tbs_ok (0) rfl rfl rfl rfl rfl rfl (by first | decide | omega) rfl rfl ?_)
       refine aG ?_
       refine wN (k+1) ?_
       refine ev_fin (round_next ((k+1,h0+1,h1,h2,h3)) (?_:k+1≤m'∧h0+1=(↑(cnt (List.take (k+1) X'.F) 0):Int)∧h1=(↑(cnt (List.take (k+1) X'.F) 1):Int)∧h2=(↑(cnt (List.take (k+1) X'.F) 2):Int)∧h3=(↑(cnt (List.take (k+1) X'.F) 3):Int)) (show m'-(k+1)<m'-k from (by omega)) aS)
       rotate_left
       · refine ev_stop (tk_val (o:=_) aB rfl rfl (.bq (!(decide (X'.F[k]=X.F[k]'(by omega))))) trivial (fun a w hF _=>neq_run (ev_denv hF rfl rfl) (ev_denv hF rfl rfl) (by kernel_rfl) (eq_spt X'.F[k] (X.F[k]'(by omega)) 9998 w)) ?_)
         refine aG ?_
         have hne:=hpk (by omega)
         refine aE ?_
         refine aI ?_ (dec_no (by with_reducible assumption))
         refine aE ?_
         refine aI ?_ (decide_eq_false (show ¬X'.F[k].s<0 from (by omega)))
         refine aE ?_
         refine aI ?_ (decide_eq_false (show ¬X'.F[k].s ≥ 4 from (by omega)))
         refine aE ?_
         refine ev_stop (go_slot 105 _ (.va (.int IntKind.i64 ((0:Nat):Int))) rfl rfl (congrArg (fun z=>Value.int IntKind.i64 z) (show X'.F[k].s=((0:Nat):Int) by first | omega | (simp only [List.getElem_set_self];omega))) (fun _=>trivial) ?_)
         refine aG (aE ?_)
         refine ev_stop (tk_indexArr Tryz.tbs_ok (0) aB rfl rfl rfl rfl rfl rfl rfl (by first | decide | omega) rfl rfl ?_)
         refine aG (aE ?_)
         refine aI ?_ (ne_no (show X'.F[k].i=h0 from (by omega)))
         refine ev_stop (go_slot 111 _ (.va (.int IntKind.i64 ((0:Nat):Int))) rfl rfl (congrArg (fun z=>Value.int IntKind.i64 z) (show X'.F[k].s=((0:Nat):Int) by first | omega | (simp only [List.getElem_set_self];omega))) (fun _=>trivial) ?_)
         refine aG ?_
         refine ev_stop (go_indexArr Tryz.tbs_ok (0) rfl rfl rfl rfl rfl rfl (by first | decide | omega) rfl rfl ?_)
         refine aG ?_
         refine w6 ?_
         refine ev_stop (go_indexArr Tryz.tbs_ok (0) rfl rfl rfl rfl rfl rfl (by first | decide | omega) rfl rfl ?_)
         refine aG ?_
         refine wN (k+1) ?_
         refine ev_fin (round_next ((k+1,h0+1,h1,h2,h3)) (?_:k+1≤m'∧h0+1=(↑(cnt (List.take (k+1) X'.F) 0):Int)∧h1=(↑(cnt (List.take (k+1) X'.F) 1):Int)∧h2=(↑(cnt (List.take (k+1) X'.F) 2):Int)∧h3=(↑(cnt (List.take (k+1) X'.F) 3):Int)) (show m'-(k+1)<m'-k from (by omega)) aS)
         refine ⟨by omega,?_,?_,?_,?_⟩<;>(rw [ct];simp;omega)
       refine ⟨by omega,?_,?_,?_,?_⟩<;>(rw [ct];simp;omega)
     · have hck:=hcl 1
       rw [hF1] at gi ct
       have hFs:X'.F[k].s=((1:Nat):Int):=hF1
       refine aG ?_
       refine aJ ?_ (decide_eq_true (show (↑k:Int)<(↑m':Int) from (by omega)))
       refine ev_stop (go_index0 (sz:=2) Tryz.tbs_ok (.inr 5) (k) rfl rfl rfl rfl rfl rfl (by omega) rfl Row.at0 (fun g80 e81=>?_))
       subst e81
       refine aG ?_
       have l82:k<(X'.F).length:=(by omega)
       refine ev_stop (go_loadE Tryz.tbs_ok (.inr 5) (k) 0 rfl rfl rfl rfl (fun _ h=>Row.rd h) (by omega) (fun _=>rfl) (by omega) l82 (by decide) ?_)
       refine aG ?_
       refine ev_new fun b83=>?_
       refine ev_stop (go_draw Tryz.tbs_ok true [0,1,2,3,4,5,6,7] [(0,true),(1,true),(2,true),(3,true),(4,true),(5,true),(6,true),(7,true),(8,true),(9,true),(10,true),(11,true),(12,true),(13,true),(14,true),(15,true),(16,true),(17,true),(18,true),(19,true),(20,true),(21,true),(22,true),(23,true),(24,true),(25,true),(26,true),(27,true),(28,true),(29,true),(30,true)] rfl ?_)
       refine aG (aE ?_)
       refine ev_if_lt (fun h84=>?_) (fun h84=>?_)
       refine aG (aE ?_)
       refine ev_stop (tk_index0 (sz:=2) Tryz.tbs_ok (.inr 4) (k) aB rfl rfl rfl rfl rfl rfl rfl (by omega) rfl Row.at0 (fun g85 e86=>?_))
       subst e86
       refine aG (aE ?_)
       have l87:k<(X.F).length:=(by omega)
       refine ev_stop (tk_loadE Tryz.tbs_ok (.inr 4) (k) 0 aB rfl rfl rfl rfl rfl (fun _ h=>Row.rd h) (by omega) (fun _=>rfl) (by omega) l87 (by decide) ?_)
       refine aG (aE ?_)
       rotate_left
       refine aG (aE ?_)
       refine aI ?_ (decide_eq_false (show ¬X'.F[k].s<0 from (by omega)))
       refine aE ?_
       refine aI ?_ (decide_eq_false (show ¬X'.F[k].s ≥ 4 from (by omega)))
       refine aE ?_
       refine ev_stop (go_slot 105 _ (.va (.int IntKind.i64 ((1:Nat):Int))) rfl rfl (congrArg (fun z=>Value.int IntKind.i64 z) (show X'.F[k].s=((1:Nat):Int) by first | omega | (simp only [List.getElem_set_self];omega))) (fun _=>trivial) ?_)
       refine aG (aE ?_)
       refine ev_stop (tk_indexArr Tryz.tbs_ok (1) aB rfl rfl rfl rfl rfl rfl rfl (by first | decide | omega) rfl rfl ?_)
       refine aG (aE ?_)
       refine aI ?_ (ne_no (show X'.F[k].i=h1 from (by omega)))
       refine ev_stop (go_slot 111 _ (.va (.int IntKind.i64 ((1:Nat):Int))) rfl rfl (congrArg (fun z=>Value.int IntKind.i64 z) (show X'.F[k].s=((1:Nat):Int) by first | omega | (simp only [List.getElem_set_self];omega))) (fun _=>trivial) ?_)
       refine aG ?_
       refine ev_stop (go_indexArr Tryz.tbs_ok (1) rfl rfl rfl rfl rfl rfl (by first | decide | omega) rfl rfl ?_)
       refine aG ?_
       refine w6 ?_
       refine ev_stop (go_indexArr Tryz.tbs_ok (1) rfl rfl rfl rfl rfl rfl (by first | decide | omega) rfl rfl ?_)
       refine aG ?_
       refine wN (k+1) ?_
       refine ev_fin (round_next ((k+1,h0,h1+1,h2,h3)) (?_:k+1≤m'∧h0=(↑(cnt (List.take (k+1) X'.F) 0):Int)∧h1+1=(↑(cnt (List.take (k+1) X'.F) 1):Int)∧h2=(↑(cnt (List.take (k+1) X'.F) 2):Int)∧h3=(↑(cnt (List.take (k+1) X'.F) 3):Int)) (show m'-(k+1)<m'-k from (by omega)) aS)
       rotate_left
       · refine ev_stop (tk_val (o:=_) aB rfl rfl (.bq (!(decide (X'.F[k]=X.F[k]'(by omega))))) trivial (fun a w hF _=>neq_run (ev_denv hF rfl rfl) (ev_denv hF rfl rfl) (by kernel_rfl) (eq_spt X'.F[k] (X.F[k]'(by omega)) 9998 w)) ?_)
         refine aG ?_
         have hne:=hpk (by omega)
         refine aE ?_
         refine aI ?_ (dec_no (by with_reducible assumption))
         refine aE ?_
         refine aI ?_ (decide_eq_false (show ¬X'.F[k].s<0 from (by omega)))
         refine aE ?_
         refine aI ?_ (decide_eq_false (show ¬X'.F[k].s ≥ 4 from (by omega)))
         refine aE ?_
         refine ev_stop (go_slot 105 _ (.va (.int IntKind.i64 ((1:Nat):Int))) rfl rfl (congrArg (fun z=>Value.int IntKind.i64 z) (show X'.F[k].s=((1:Nat):Int) by first | omega | (simp only [List.getElem_set_self];omega))) (fun _=>trivial) ?_)
         refine aG (aE ?_)
         refine ev_stop (tk_indexArr Tryz.tbs_ok (1) aB rfl rfl rfl rfl rfl rfl rfl (by first | decide | omega) rfl rfl ?_)
         refine aG (aE ?_)
         refine aI ?_ (ne_no (show X'.F[k].i=h1 from (by omega)))
         refine ev_stop (go_slot 111 _ (.va (.int IntKind.i64 ((1:Nat):Int))) rfl rfl (congrArg (fun z=>Value.int IntKind.i64 z) (show X'.F[k].s=((1:Nat):Int) by first | omega | (simp only [List.getElem_set_self];omega))) (fun _=>trivial) ?_)
         refine aG ?_
         refine ev_stop (go_indexArr Tryz.tbs_ok (1) rfl rfl rfl rfl rfl rfl (by first | decide | omega) rfl rfl ?_)
         refine aG ?_
         refine w6 ?_
         refine ev_stop (go_indexArr Tryz.tbs_ok (1) rfl rfl rfl rfl rfl rfl (by first | decide | omega) rfl rfl ?_)
         refine aG ?_
         refine wN (k+1) ?_
         refine ev_fin (round_next ((k+1,h0,h1+1,h2,h3)) (?_:k+1≤m'∧h0=(↑(cnt (List.take (k+1) X'.F) 0):Int)∧h1+1=(↑(cnt (List.take (k+1) X'.F) 1):Int)∧h2=(↑(cnt (List.take (k+1) X'.F) 2):Int)∧h3=(↑(cnt (List.take (k+1) X'.F) 3):Int)) (show m'-(k+1)<m'-k from (by omega)) aS)
         refine ⟨by omega,?_,?_,?_,?_⟩<;>(rw [ct];simp;omega)
       refine ⟨by omega,?_,?_,?_,?_⟩<;>(rw [ct];simp;omega)
     · have hck:=hcl 2
       rw [hF1] at gi ct
       have hFs:X'.F[k].s=((2:Nat):Int):=hF1
       refine aG ?_
       refine aJ ?_ (decide_eq_true (show (↑k:Int)<(↑m':Int) from (by omega)))
       refine ev_stop (go_index0 (sz:=2) Tryz.tbs_ok (.inr 5) (k) rfl rfl rfl rfl rfl rfl (by omega) rfl Row.at0 (fun g80 e81=>?_))
       subst e81
       refine aG ?_
       have l82:k<(X'.F).length:=(by omega)
       refine ev_stop (go_loadE Tryz.tbs_ok (.inr 5) (k) 0 rfl rfl rfl rfl (fun _ h=>Row.rd h) (by omega) (fun _=>rfl) (by omega) l82 (by decide) ?_)
       refine aG ?_
       refine ev_new fun b83=>?_
       refine ev_stop (go_draw Tryz.tbs_ok true [0,1,2,3,4,5,6,7] [(0,true),(1,true),(2,true),(3,true),(4,true),(5,true),(6,true),(7,true),(8,true),(9,true),(10,true),(11,true),(12,true),(13,true),(14,true),(15,true),(16,true),(17,true),(18,true),(19,true),(20,true),(21,true),(22,true),(23,true),(24,true),(25,true),(26,true),(27,true),(28,true),(29,true),(30,true)] rfl ?_)
       refine aG (aE ?_)
       refine ev_if_lt (fun h84=>?_) (fun h84=>?_)
       refine aG (aE ?_)
       refine ev_stop (tk_index0 (sz:=2) Tryz.tbs_ok (.inr 4) (k) aB rfl rfl rfl rfl rfl rfl rfl (by omega) rfl Row.at0 (fun g85 e86=>?_))
       subst e86
       refine aG (aE ?_)
       have l87:k<(X.F).length:=(by omega)
       refine ev_stop (tk_loadE Tryz.tbs_ok (.inr 4) (k) 0 aB rfl rfl rfl rfl rfl (fun _ h=>Row.rd h) (by omega) (fun _=>rfl) (by omega) l87 (by decide) ?_)
       refine aG (aE ?_)
       rotate_left
       refine aG (aE ?_)
       refine aI ?_ (decide_eq_false (show ¬X'.F[k].s<0 from (by omega)))
       refine aE ?_
       refine aI ?_ (decide_eq_false (show ¬X'.F[k].s ≥ 4 from (by omega)))
       refine aE ?_
       refine ev_stop (go_slot 105 _ (.va (.int IntKind.i64 ((2:Nat):Int))) rfl rfl (congrArg (fun z=>Value.int IntKind.i64 z) (show X'.F[k].s=((2:Nat):Int) by first | omega | (simp only [List.getElem_set_self];omega))) (fun _=>trivial) ?_)
       refine aG (aE ?_)
       refine ev_stop (tk_indexArr Tryz.tbs_ok (2) aB rfl rfl rfl rfl rfl rfl rfl (by first | decide | omega) rfl rfl ?_)
       refine aG (aE ?_)
       refine aI ?_ (ne_no (show X'.F[k].i=h2 from (by omega)))
       refine ev_stop (go_slot 111 _ (.va (.int IntKind.i64 ((2:Nat):Int))) rfl rfl (congrArg (fun z=>Value.int IntKind.i64 z) (show X'.F[k].s=((2:Nat):Int) by first | omega | (simp only [List.getElem_set_self];omega))) (fun _=>trivial) ?_)
       refine aG ?_
       refine ev_stop (go_indexArr Tryz.tbs_ok (2) rfl rfl rfl rfl rfl rfl (by first | decide | omega) rfl rfl ?_)
       refine aG ?_
       refine w6 ?_
       refine ev_stop (go_indexArr Tryz.tbs_ok (2) rfl rfl rfl rfl rfl rfl (by first | decide | omega) rfl rfl ?_)
       refine aG ?_
       refine wN (k+1) ?_
       refine ev_fin (round_next ((k+1,h0,h1,h2+1,h3)) (?_:k+1≤m'∧h0=(↑(cnt (List.take (k+1) X'.F) 0):Int)∧h1=(↑(cnt (List.take (k+1) X'.F) 1):Int)∧h2+1=(↑(cnt (List.take (k+1) X'.F) 2):Int)∧h3=(↑(cnt (List.take (k+1) X'.F) 3):Int)) (show m'-(k+1)<m'-k from (by omega)) aS)
       rotate_left
       · refine ev_stop (tk_val (o:=_) aB rfl rfl (.bq (!(decide (X'.F[k]=X.F[k]'(by omega))))) trivial (fun a w hF _=>neq_run (ev_denv hF rfl rfl) (ev_denv hF rfl rfl) (by kernel_rfl) (eq_spt X'.F[k] (X.F[k]'(by omega)) 9998 w)) ?_)
         refine aG ?_
         have hne:=hpk (by omega)
         refine aE ?_
         refine aI ?_ (dec_no (by with_reducible assumption))
         refine aE ?_
         refine aI ?_ (decide_eq_false (show ¬X'.F[k].s<0 from (by omega)))
         refine aE ?_
         refine aI ?_ (decide_eq_false (show ¬X'.F[k].s ≥ 4 from (by omega)))
         refine aE ?_
         refine ev_stop (go_slot 105 _ (.va (.int IntKind.i64 ((2:Nat):Int))) rfl rfl (congrArg (fun z=>Value.int IntKind.i64 z) (show X'.F[k].s=((2:Nat):Int) by first | omega | (simp only [List.getElem_set_self];omega))) (fun _=>trivial) ?_)
         refine aG (aE ?_)
         refine ev_stop (tk_indexArr Tryz.tbs_ok (2) aB rfl rfl rfl rfl rfl rfl rfl (by first | decide | omega) rfl rfl ?_)
         refine aG (aE ?_)
         refine aI ?_ (ne_no (show X'.F[k].i=h2 from (by omega)))
         refine ev_stop (go_slot 111 _ (.va (.int IntKind.i64 ((2:Nat):Int))) rfl rfl (congrArg (fun z=>Value.int IntKind.i64 z) (show X'.F[k].s=((2:Nat):Int) by first | omega | (simp only [List.getElem_set_self];omega))) (fun _=>trivial) ?_)
         refine aG ?_
         refine ev_stop (go_indexArr Tryz.tbs_ok (2) rfl rfl rfl rfl rfl rfl (by first | decide | omega) rfl rfl ?_)
         refine aG ?_
         refine w6 ?_
         refine ev_stop (go_indexArr Tryz.tbs_ok (2) rfl rfl rfl rfl rfl rfl (by first | decide | omega) rfl rfl ?_)
         refine aG ?_
         refine wN (k+1) ?_
         refine ev_fin (round_next ((k+1,h0,h1,h2+1,h3)) (?_:k+1≤m'∧h0=(↑(cnt (List.take (k+1) X'.F) 0):Int)∧h1=(↑(cnt (List.take (k+1) X'.F) 1):Int)∧h2+1=(↑(cnt (List.take (k+1) X'.F) 2):Int)∧h3=(↑(cnt (List.take (k+1) X'.F) 3):Int)) (show m'-(k+1)<m'-k from (by omega)) aS)
         refine ⟨by omega,?_,?_,?_,?_⟩<;>(rw [ct];simp;omega)
       refine ⟨by omega,?_,?_,?_,?_⟩<;>(rw [ct];simp;omega)
     have hck:=hcl 3
     rw [hF1] at gi ct
     have hFs:X'.F[k].s=((3:Nat):Int):=hF1
     refine aG ?_
     refine aJ ?_ (decide_eq_true (show (↑k:Int)<(↑m':Int) from (by omega)))
     refine ev_stop (go_index0 (sz:=2) Tryz.tbs_ok (.inr 5) (k) rfl rfl rfl rfl rfl rfl (by omega) rfl Row.at0 (fun g80 e81=>?_))
     subst e81
     refine aG ?_
     have l82:k<(X'.F).length:=(by omega)
     refine ev_stop (go_loadE Tryz.tbs_ok (.inr 5) (k) 0 rfl rfl rfl rfl (fun _ h=>Row.rd h) (by omega) (fun _=>rfl) (by omega) l82 (by decide) ?_)
     refine aG ?_
     refine ev_new fun b83=>?_
     refine ev_stop (go_draw Tryz.tbs_ok true [0,1,2,3,4,5,6,7] [(0,true),(1,true),(2,true),(3,true),(4,true),(5,true),(6,true),(7,true),(8,true),(9,true),(10,true),(11,true),(12,true),(13,true),(14,true),(15,true),(16,true),(17,true),(18,true),(19,true),(20,true),(21,true),(22,true),(23,true),(24,true),(25,true),(26,true),(27,true),(28,true),(29,true),(30,true)] rfl ?_)
     refine aG (aE ?_)
     refine ev_if_lt (fun h84=>?_) (fun h84=>?_)
     refine aG (aE ?_)
     refine ev_stop (tk_index0 (sz:=2) Tryz.tbs_ok (.inr 4) (k) aB rfl rfl rfl rfl rfl rfl rfl (by omega) rfl Row.at0 (fun g85 e86=>?_))
     subst e86
     refine aG (aE ?_)
     have l87:k<(X.F).length:=(by omega)
     refine ev_stop (tk_loadE Tryz.tbs_ok (.inr 4) (k) 0 aB rfl rfl rfl rfl rfl (fun _ h=>Row.rd h) (by omega) (fun _=>rfl) (by omega) l87 (by decide) ?_)
     refine aG (aE ?_)
     rotate_left
     refine aG (aE ?_)
     refine aI ?_ (decide_eq_false (show ¬X'.F[k].s<0 from (by omega)))
     refine aE ?_
     refine aI ?_ (decide_eq_false (show ¬X'.F[k].s ≥ 4 from (by omega)))
     refine aE ?_
     refine ev_stop (go_slot 105 _ (.va (.int IntKind.i64 ((3:Nat):Int))) rfl rfl (congrArg (fun z=>Value.int IntKind.i64 z) (show X'.F[k].s=((3:Nat):Int) by first | omega | (simp only [List.getElem_set_self];omega))) (fun _=>trivial) ?_)
     refine aG (aE ?_)
     refine ev_stop (tk_indexArr Tryz.tbs_ok (3) aB rfl rfl rfl rfl rfl rfl rfl (by first | decide | omega) rfl rfl ?_)
     refine aG (aE ?_)
     refine aI ?_ (ne_no (show X'.F[k].i=h3 from (by omega)))
     refine ev_stop (go_slot 111 _ (.va (.int IntKind.i64 ((3:Nat):Int))) rfl rfl (congrArg (fun z=>Value.int IntKind.i64 z) (show X'.F[k].s=((3:Nat):Int) by first | omega | (simp only [List.getElem_set_self];omega))) (fun _=>trivial) ?_)
     refine aG ?_
     refine ev_stop (go_indexArr Tryz.tbs_ok (3) rfl rfl rfl rfl rfl rfl (by first | decide | omega) rfl rfl ?_)
     refine aG ?_
     refine w6 ?_
     refine ev_stop (go_indexArr Tryz.tbs_ok (3) rfl rfl rfl rfl rfl rfl (by first | decide | omega) rfl rfl ?_)
     refine aG ?_
     refine wN (k+1) ?_
     refine ev_fin (round_next ((k+1,h0,h1,h2,h3+1)) (?_:k+1≤m'∧h0=(↑(cnt (List.take (k+1) X'.F) 0):Int)∧h1=(↑(cnt (List.take (k+1) X'.F) 1):Int)∧h2=(↑(cnt (List.take (k+1) X'.F) 2):Int)∧h3+1=(↑(cnt (List.take (k+1) X'.F) 3):Int)) (show m'-(k+1)<m'-k from (by omega)) aS)
     rotate_left
     · refine ev_stop (tk_val (o:=_) aB rfl rfl (.bq (!(decide (X'.F[k]=X.F[k]'(by omega))))) trivial (fun a w hF _=>neq_run (ev_denv hF rfl rfl) (ev_denv hF rfl rfl) (by kernel_rfl) (eq_spt X'.F[k] (X.F[k]'(by omega)) 9998 w)) ?_)
       refine aG ?_
       have hne:=hpk (by omega)
       refine aE ?_
       refine aI ?_ (dec_no (by with_reducible assumption))
       refine aE ?_
       refine aI ?_ (decide_eq_false (show ¬X'.F[k].s<0 from (by omega)))
       refine aE ?_
       refine aI ?_ (decide_eq_false (show ¬X'.F[k].s ≥ 4 from (by omega)))
       refine aE ?_
       refine ev_stop (go_slot 105 _ (.va (.int IntKind.i64 ((3:Nat):Int))) rfl rfl (congrArg (fun z=>Value.int IntKind.i64 z) (show X'.F[k].s=((3:Nat):Int) by first | omega | (simp only [List.getElem_set_self];omega))) (fun _=>trivial) ?_)
       refine aG (aE ?_)
       refine ev_stop (tk_indexArr Tryz.tbs_ok (3) aB rfl rfl rfl rfl rfl rfl rfl (by first | decide | omega) rfl rfl ?_)
       refine aG (aE ?_)
       refine aI ?_ (ne_no (show X'.F[k].i=h3 from (by omega)))
       refine ev_stop (go_slot 111 _ (.va (.int IntKind.i64 ((3:Nat):Int))) rfl rfl (congrArg (fun z=>Value.int IntKind.i64 z) (show X'.F[k].s=((3:Nat):Int) by first | omega | (simp only [List.getElem_set_self];omega))) (fun _=>trivial) ?_)
       refine aG ?_
       refine ev_stop (go_indexArr Tryz.tbs_ok (3) rfl rfl rfl rfl rfl rfl (by first | decide | omega) rfl rfl ?_)
       refine aG ?_
       refine w6 ?_
       refine ev_stop (go_indexArr Tryz.tbs_ok (3) rfl rfl rfl rfl rfl rfl (by first | decide | omega) rfl rfl ?_)
       refine aG ?_
       refine wN (k+1) ?_
       refine ev_fin (round_next ((k+1,h0,h1,h2,h3+1)) (?_:k+1≤m'∧h0=(↑(cnt (List.take (k+1) X'.F) 0):Int)∧h1=(↑(cnt (List.take (k+1) X'.F) 1):Int)∧h2=(↑(cnt (List.take (k+1) X'.F) 2):Int)∧h3+1=(↑(cnt (List.take (k+1) X'.F) 3):Int)) (show m'-(k+1)<m'-k from (by omega)) aS)
       refine ⟨by omega,?_,?_,?_,?_⟩<;>(rw [ct];simp;omega)
     refine ⟨by omega,?_,?_,?_,?_⟩<;>(rw [ct];simp;omega)
   obtain rfl:k=m':=by omega
   rw [List.take_of_length_le (by omega)] at e0 e1 e2 e3
   have TR:=fun (j:Nat) (g:RegS) hj hg=>regGood x15 x16 X' s' d' j g hj hg (reg_len hI'.st hg)
   have TR0:=TR 0 X'.r0 (by decide) rfl
   have TR1:=TR 1 X'.r1 (by decide) rfl
   have TR2:=TR 2 X'.r2 (by decide) rfl
   have TR3:=TR 3 X'.r3 (by decide) rfl
   refine aG ?_
   refine aI ?_ (decide_eq_false (show ¬(↑k:Int)<(↑k:Int) from (by omega)))
   refine ev_fin (go Tryz.tbs_ok 1000 ?_)
   refine ev_stop (go_rounds 5 ?_)
   refine aG (aJ ?_)
   refine aC TR0 [1] [.inr 0] fun ⟨x220,x221⟩ h222=>?_
   refine ev_new fun b223=>?_
   refine ev_stop (go_draw Tryz.tbs_ok true [0,1,2,3,4,5,6,7,8] [(0,true),(1,true),(2,true),(3,true),(4,true),(5,true),(6,true),(7,true),(8,true),(9,true)] rfl ?_)
   refine aG (aE (aI (aE ?_)))
   refine ev_stop (tk_indexArr Tryz.tbs_ok (0) aB rfl rfl rfl rfl rfl rfl rfl (by first | decide | omega) rfl rfl ?_)
   refine aG (aE ?_)
   refine aI ?_ (ne_no (show X'.r0.r.c=h0 from (by omega)))
   refine wN (0+1) ?_
   refine ev_fin (go Tryz.tbs_ok 1000 ?_)
   refine aJ ?_
   refine aC TR1 [1] [.inr 0] fun ⟨x224,x225⟩ h226=>?_
   refine ev_new fun b227=>?_
   refine ev_stop (go_draw Tryz.tbs_ok true [0,1,2,3,4,5,6,7,8,9,10] [(0,true),(1,true),(2,true),(3,true),(4,true),(5,true),(6,true),(7,true),(8,true),(9,true)] rfl ?_)
   refine aG (aE (aI (aE ?_)))
   refine ev_stop (tk_indexArr Tryz.tbs_ok (0+1) aB rfl rfl rfl rfl rfl rfl rfl (by first | decide | omega) rfl rfl ?_)
   refine aG (aE ?_)
   refine aI ?_ (ne_no (show X'.r1.r.c=h1 from (by omega)))
   refine wN (0+1+1) ?_
   refine ev_fin (go Tryz.tbs_ok 1000 ?_)
   refine aJ ?_
   refine aC TR2 [1] [.inr 0] fun ⟨x228,x229⟩ h230=>?_
   refine ev_new fun b231=>?_
   refine ev_stop (go_draw Tryz.tbs_ok true [0,1,2,3,4,5,6,7,8,9,10,11,12] [(0,true),(1,true),(2,true),(3,true),(4,true),(5,true),(6,true),(7,true),(8,true),(9,true)] rfl ?_)
   refine aG (aE (aI (aE ?_)))
   refine ev_stop (tk_indexArr Tryz.tbs_ok (0+1+1) aB rfl rfl rfl rfl rfl rfl rfl (by first | decide | omega) rfl rfl ?_)
   refine aG (aE ?_)
   refine aI ?_ (ne_no (show X'.r2.r.c=h2 from (by omega)))
   refine wN (0+1+1+1) ?_
   refine ev_fin (go Tryz.tbs_ok 1000 ?_)
   refine aJ ?_
   refine aC TR3 [1] [.inr 0] fun ⟨x232,x233⟩ h234=>?_
   refine ev_new fun b235=>?_
   refine ev_stop (go_draw Tryz.tbs_ok true [0,1,2,3,4,5,6,7,8,9,10,11,12,13,14] [(0,true),(1,true),(2,true),(3,true),(4,true),(5,true),(6,true),(7,true),(8,true),(9,true)] rfl ?_)
   refine aG (aE (aI (aE ?_)))
   refine ev_stop (tk_indexArr Tryz.tbs_ok (0+1+1+1) aB rfl rfl rfl rfl rfl rfl rfl (by first | decide | omega) rfl rfl ?_)
   refine aG (aE ?_)
   refine aI ?_ (ne_no (show X'.r3.r.c=h3 from (by omega)))
   refine wN (0+1+1+1+1) ?_
   refine ev_fin (go Tryz.tbs_ok 1000 ?_)
   refine aI ?_
   refine ev_fin (go Tryz.tbs_ok 1000 ?_)
   refine wN (i+1) ?_
   refine ev_move 4 5 (by decide) rfl rfl aL ?_
   refine ev_fin (round_next ((i+1,X',s',d',W',D',k,x60,x61)) (show i+1≤n∧StoI X'.abs W' D'∧s'≤X'.F.length∧k=X'.F.length from (by trivial)) (show n-(i+1)<n-i from (by omega)) aS)
   all_goals skip
 obtain rfl:i=n:=by omega
 refine aG ?_
 refine aI ?_ (decide_eq_false (show ¬(↑i:Int)<(↑i:Int) from (by omega)))
 refine ev_fin (go Tryz.tbs_ok 1000 ?_)
 refine aC TL [] [.inl 0] fun _ h30=>?_
 refine ev_fin ⟨trivial,_,rfl,(()),rfl,(by trivial),Frm.nil _⟩
theorem storeFeed_lifted (os:Os) (started:os.Started) (H:Type) (enc:TypeId × Value→H) :
 ReturnsInHanded {} Tryz.checked os 7 .any (fun w args=>(Rows.storeFeedSpec.pre enc Tryz.prog Tryz.f7 Rows.storeFeedRow.domain Rows.storeFeedRow.apart w args∧laidMetH Tryz.prog Rows.storeFeedRow.laid w)∧sizedMet enc Tryz.prog Tryz.f7 (OpenSpec.ofChange Rows.storeFeedSpec) Rows.storeFeedRow.apart w args) (Rows.storeFeedSpec.post enc Tryz.prog Tryz.f7 Rows.storeFeedRow.apart Rows.storeFeedRow.fresh Rows.storeFeedRow.handsOn Rows.storeFeedRow.again):=by
 refine returnsInHanded_of_change_and (C:=Tryz.checked) (X:=fun w _=>laidMetH Tryz.prog Rows.storeFeedRow.laid w) (fun _ _ _ hh h=>h.of_heap hh) Tryz.own started (by kernel_rfl) Tryz.func7
  (ChangeSpec.witness_shaped (enc:=enc) (C:=Tryz.checked) (os:=os) (X:=fun w _=>laidMetH Tryz.prog Rows.storeFeedRow.laid w) false (World.doorLaid Tryz.prog 400 os) #[.slice none 0 0] 8 rfl (World.shaped_of_RefB (by kernel_rfl) (by kernel_rfl)) (by kernel_rfl) (by kernel_rfl) (by kernel_rfl) (door_met os _)) ?_
 intro W base args ds gs before hval0 hW hcnd hwt hL _
 have htab:=tab_of hL
 have hval:∀ (j:Nat) t v,Tryz.f7.params[j]? = some t→args[j]? = some v→Value.okWide Tryz.prog W .any base t v:=hval0
 obtain ⟨p,q,hA0,hV,_,_,_⟩:=id hW
 have hA:DataW.TrodAll enc Tryz.prog W 0 (fun _=>true) true Tryz.f7.params.toList args.toList ds p:=hA0
 clear hval0 hA0
 obtain ⟨rfl,_⟩:=trodVars_none hV
 have hwt2:=all_le hwt
 have hpar:Tryz.f7.params = #[22]:=by kernel_rfl
 rw [hpar] at hA hval
 obtain ⟨v0,d0,rfl,rfl,fuel0,hf0⟩:=trodAll_one hA
 obtain ⟨A0,n0,c0,rfl⟩:=okWide_slice (P:=Tryz.prog) (t:=22) (e:=40) (by kernel_rfl) (hval 0 _ _ rfl rfl)
 obtain ⟨A0',n0',c0',l0,hl0,hln0,hc0,hm0,hr0,hg0⟩:=list_of_sees (F:=0+1+1+1+1+1+1+1) (t:=22) (el:=40) (enc:=encA) (G:=fun x=>(x.rdA.holds (hp W)∧(RecsRd x.L).holds (hp W)∧x.rdK.holds (hp W))∧(0≤x.k∧x.k<256)∧∀ y∈x.L,y.r.L.length≤reachBytes) rfl rfl (by decide) encA_len (fun _=>rfl) (fun vs hl h=>act_dec hl h) (sees_of_trod Tryz.tbs_ok.tab bytes_ok 8 fuel0 _ _ _ hf0 (fun k hk=>hwt2 k (weightsEach_get _ _ _ 0 _ _ rfl rfl k hk)))
 cases hl0
 obtain ⟨ha0,hb0,hin0⟩:=actsA_in hg0
 refine (storeFeed A0 l0 n0 c0 hln0.symm (maxLen_le hc0 hm0) hb0 hin0 W Hp.emp (hp W) (Hp.emp_le _) (Hp.le_refl _) (Hp.emp_dis _) trivial (fun X hX=>?_)).mono fun e W' ⟨_,_,he,_,_,_,hext,_⟩=>?_
 · simp only [List.mem_cons,List.not_mem_nil,or_false] at hX
   rcases hX with rfl | rfl | rfl
   · exact htab
   · exact hr0
   exact ha0
 exact ⟨.bool true,he,post_true Tryz.laidOut (by kernel_rfl) rfl (rt:=4) (by kernel_rfl) (by kernel_rfl) hW hext.below rfl rfl rfl⟩
theorem storeFeed_holds:Rows.StoreFeedSaid :=
 OpenClaim.holds_of_wide 7 Tryz.f7 rfl rfl rfl rfl rfl rfl rfl ⟨rfl,rfl,rfl,rfl,rfl⟩ rfl rfl rfl rfl rfl (by kernel_rfl) Tryz.func7 (by kernel_rfl)
  (of_decide_eq_true (by kernel_rfl)) (by unfold Func.isWrapper;rw [if_neg (by decide +kernel)];exact ⟨rfl,rfl⟩)
  (fun os started H enc _=>storeFeed_lifted os started H enc)
theorem storeFeed_card:Rows.StoreFeedCardSaid :=
 Claim7.holds_tied_plain_at .later [] [.data,.data,.data] true Rows.storeFeedCard.stood.harness false
  storeFeed_holds (fun _ h=>by cases h) (by kernel_rfl) (fun _ h=>by cases h) storeFeed_row_tie rfl ⟨rfl,rfl⟩ (by kernel_rfl) rfl
  (fun f fn hf hfn=>by
   obtain rfl:f=7:=(Option.some.inj ((show Tryz.prog.funcNamed Rows.storeFeedRow.func=some 7 by kernel_rfl).symm.trans hf)).symm
   obtain rfl:fn=Tryz.f7:=(Option.some.inj (Tryz.func7.symm.trans hfn)).symm
   refine ⟨by kernel_rfl,fun j t ht=>?_⟩
   have hpar:Tryz.f7.params = #[22]:=by kernel_rfl
   rw [hpar] at ht
   have hm:t∈[22]:=by
    rw [show (#[22]:Array TypeId)[j]? = ([22]:List TypeId)[j]? from by simp] at ht
    exact List.mem_of_getElem? ht
   simp only [List.mem_cons,List.not_mem_nil,or_false] at hm
   rcases hm with rfl
   exact (show Tryz.prog.wantsStandIn 22=false by kernel_rfl))
  (by kernel_rfl)
end Go.Proofs.YtnbaejindfillaaGreatDoor

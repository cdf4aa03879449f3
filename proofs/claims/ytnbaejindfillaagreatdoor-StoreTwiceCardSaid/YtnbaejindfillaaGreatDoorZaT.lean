/-
  What is proved: storeTwice_card. Conditions: none.
-/
import Derived.Test.YtnbaejindfillaaGreatDoorCards
import Derived.Test.YtnbaejindfillaaGreatDoorTie
import Derived.SevenTiedAt
import Derived.LaidLaws
import Derived.LaidMore
import Derived.Lib.LaidTab
import Derived.Stop.LaidErr
import Derived.OpenShut
import Derived.ChangeMaps5
import Derived.Test.YtnbaejindfillaaGreatDoorZa6
set_option maxRecDepth 100000
namespace Go.Proofs.YtnbaejindfillaaGreatDoor
open Go.Sy Go.RowKit Go.ChangeShapes Go.WideShapes
instance:Inhabited Ent:=⟨⟨0,0,0,0,0,0⟩⟩
instance:Inhabited Spt:=⟨⟨0,0⟩⟩
theorem encE_len (x:Ent):(encE x).length=6:=rfl
theorem encP_len (x:Spt):(encP x).length=2:=rfl
theorem int_dec {w:World} {F:Nat} {vs:List Value} (hl:vs.length=1) (h:Sees Tryz.tab w (F+1) 3 vs):∃ x:Int,vs=encN x∧True:=by
 obtain ⟨n0,e0,_⟩:=leaf_int (F:=F) (d:=0) (k:=.i64) (u:=3) rfl rfl h 0 (by decide)
 exact ⟨n0,eq_of_at hl (And.intro e0 trivial),trivial⟩
theorem spt_dec {w:World} {F:Nat} {vs:List Value} (hl:vs.length=2) (h:Sees Tryz.tab w (F+1+1) 72 vs):∃ x:Spt,vs=encP x∧(True):=by
 obtain ⟨n0,e0,w0⟩:=leaf_int (F:=F) (d:=1) (k:=.i64) (u:=3) rfl rfl h 0 (by decide)
 obtain ⟨n1,e1,w1⟩:=leaf_int (F:=F) (d:=1) (k:=.i64) (u:=3) rfl rfl h 1 (by decide)
 exact ⟨⟨n0,n1⟩,eq_of_at hl (And.intro e0 (And.intro e1 trivial)),trivial⟩
theorem ent_dec {w:World} {F:Nat} {vs:List Value} (hl:vs.length=6) (h:Sees Tryz.tab w (F+1+2) 101 vs):∃ x:Ent,vs=encE x∧(True):=by
 obtain ⟨n0,e0,w0⟩:=leaf_int (F:=F) (d:=2) (k:=.i64) (u:=3) rfl rfl h 0 (by decide)
 obtain ⟨n1,e1,w1⟩:=leaf_int (F:=F) (d:=2) (k:=.i64) (u:=3) rfl rfl h 1 (by decide)
 obtain ⟨n2,e2,w2⟩:=leaf_int (F:=F) (d:=2) (k:=.i64) (u:=3) rfl rfl h 2 (by decide)
 obtain ⟨n3,e3,w3⟩:=leaf_int (F:=F) (d:=2) (k:=.i64) (u:=3) rfl rfl h 3 (by decide)
 obtain ⟨n4,e4,w4⟩:=leaf_int (F:=F) (d:=2) (k:=.i64) (u:=3) rfl rfl h 4 (by decide)
 obtain ⟨n5,e5,w5⟩:=leaf_int (F:=F) (d:=2) (k:=.i64) (u:=3) rfl rfl h 5 (by decide)
 exact ⟨⟨n0,n1,n2,n3,n4,n5⟩,eq_of_at hl (And.intro e0 (And.intro e1 (And.intro e2 (And.intro e3 (And.intro e4 (And.intro e5 trivial)))))),trivial⟩
theorem rec_dec {w:World} {F:Nat} {vs:List Value} (hl:vs.length=8) (h:Sees Tryz.tab w (F+1+1+1+1+1) 54 vs):∃ x:RecS,vs=encR x∧((x.rdL.holds (hp w)∧x.rdF.holds (hp w))∧x.r.L.length≤reachBytes):=by
 obtain ⟨n0,e0,w0⟩:=leaf_int (F:=F+1+1+1) (d:=1) (k:=.i64) (u:=3) rfl rfl h 0 (by decide)
 obtain ⟨n1,e1,w1⟩:=leaf_int (F:=F+1+1+1) (d:=1) (k:=.i64) (u:=3) rfl rfl h 1 (by decide)
 obtain ⟨n2,e2,w2⟩:=leaf_int (F:=F+1+1+1) (d:=1) (k:=.i64) (u:=3) rfl rfl h 2 (by decide)
 obtain ⟨n3,e3,w3⟩:=leaf_int (F:=F+1+1+1) (d:=1) (k:=.i64) (u:=3) rfl rfl h 3 (by decide)
 obtain ⟨n4,e4,w4⟩:=leaf_int (F:=F+1+1+1) (d:=1) (k:=.i64) (u:=3) rfl rfl h 4 (by decide)
 obtain ⟨n5,e5,w5⟩:=leaf_int (F:=F+1+1+1) (d:=1) (k:=.i64) (u:=3) rfl rfl h 5 (by decide)
 obtain ⟨A6,n6,c6,l6,e6,hn6,hc6,hm6,hr6,hg6⟩:=leaf_slice (F:=F+1+1+1) (d:=1) (u:=30) (el:=101) (enc:=encE) (G:=fun _=>True) rfl rfl (by decide) encE_len (fun _=>rfl) (fun vs hl h=>ent_dec hl h) rfl h 6 (by decide)
 subst hn6
 obtain ⟨A7,n7,c7,l7,e7,hn7,hc7,hm7,hr7,hg7⟩:=leaf_slice (F:=F+1+1+1) (d:=1) (u:=34) (el:=72) (enc:=encP) (G:=fun _=>True) rfl rfl (by decide) encP_len (fun _=>rfl) (fun vs hl h=>spt_dec hl h) rfl h 7 (by decide)
 subst hn7
 exact ⟨⟨⟨n0,n1,n2,n3,n4,n5,l6,l7⟩,A6,c6,A7,c7⟩,eq_of_at hl (And.intro e0 (And.intro e1 (And.intro e2 (And.intro e3 (And.intro e4 (And.intro e5 (And.intro e6 (And.intro e7 trivial)))))))),⟨hr6,hr7⟩,hm6.2⟩
theorem act_dec {w:World} {F:Nat} {vs:List Value} (hl:vs.length=3) (h:Sees Tryz.tab w (F+1+1+1+1+1+1+1) 40 vs):∃ x:ActA,vs=encA x∧((x.rdA.holds (hp w)∧(RecsRd x.L).holds (hp w)∧x.rdK.holds (hp w))∧(0≤x.k∧x.k<256)∧∀ y∈x.L,y.r.L.length≤reachBytes):=by
 obtain ⟨n0,e0,w0⟩:=leaf_int (F:=F+1+1+1+1+1) (d:=1) (k:=.u8) (u:=5) rfl rfl h 0 (by decide)
 obtain ⟨A1,n1,c1,l1,e1,hn1,hc1,hm1,hr1,hg1⟩:=leaf_slice (F:=F+1+1+1+1+1) (d:=1) (u:=37) (el:=54) (enc:=encR) (G:=fun x=>(x.rdL.holds (hp w)∧x.rdF.holds (hp w))∧x.r.L.length≤reachBytes) rfl rfl (by decide) encR_len (fun _=>rfl) (fun vs hl h=>rec_dec hl h) rfl h 1 (by decide)
 subst hn1
 obtain ⟨A2,n2,c2,l2,e2,hn2,hc2,hm2,hr2,hg2⟩:=leaf_slice (F:=F+1+1+1+1+1) (d:=1) (u:=38) (el:=3) (enc:=encN) (G:=fun _=>True) rfl rfl (by decide) encN_len (fun _=>rfl) (fun vs hl h=>int_dec hl h) rfl h 2 (by decide)
 subst hn2
 exact ⟨⟨n0,l1,A1,c1,l2,A2,c2⟩,eq_of_at hl (And.intro e0 (And.intro e1 (And.intro e2 trivial))),⟨hr1,fun y hy=>(hg1 y hy).1,hr2⟩,wf_u8 w0,fun y hy=>(hg1 y hy).2⟩
theorem actsA_in {w:World} {l:List ActA} (h:∀ x∈l,(x.rdA.holds (hp w)∧(RecsRd x.L).holds (hp w)∧x.rdK.holds (hp w))∧(0≤x.k∧x.k<256)∧∀ y∈x.L,y.r.L.length≤reachBytes):(ActsA l).holds (hp w)∧(∀ x∈l,∀ y∈x.L,y.r.L.length≤140737488351232)∧∀ x∈l,0≤x.k∧x.k<256:=⟨fun x hx=>(h x hx).1,fun x hx=>(h x hx).2.2,fun x hx=>(h x hx).2.1⟩
theorem maxLen_le {n c:Nat} (h:n≤c) (h2:c≤maxLen∧n≤reachBytes):n≤9223372036854775807:=Nat.le_trans h h2.1
theorem bytes_ok:bytesOk Tryz.prog Tryz.tbs.tab=true:=by kernel_rfl
theorem all_le {l:List Nat} (h:l.all (· ≤ reachBytes)=true):∀ k∈l,k≤reachBytes:=fun k hk=>of_decide_eq_true (List.all_eq_true.1 h k hk)
abbrev laidL:List (String × DataW Unit):=Rows.storeNoneRow.laid
theorem door_met (os:Os) (args:Array Value):laidMetH Tryz.prog laidL ((World.doorLaid Tryz.prog 400 os).forCall (fun _ _=>0) ⟨#[],args,[]⟩).memory:=by
 rw [MakeChecks.laidMetH_plain _ _ _ (by kernel_rfl)]
 exact laidMet_of_run' 8 (by kernel_rfl) (by kernel_rfl)
theorem tab_of {W:World} (h:laidMetH Tryz.prog laidL W):TabA.holds (hp W):=by
 rw [MakeChecks.laidMetH_plain _ _ _ (by kernel_rfl)] at h
 obtain ⟨g,hg,hgt⟩:∃ g,Tryz.prog.globalNamed "internal/strconv.uint64pow10" = some g∧(Tryz.prog.globals[g]?).map (·.type)=some 227:=⟨0,by kernel_rfl,by kernel_rfl⟩
 have h3:Lib.TabIs Tryz.prog W "internal/strconv.uint64pow10" .u64 Lib.pow10Tab:=Lib.tabIs_of_head (g:=g) (t:=227) (e:=189) (n:=20) hg hgt (by kernel_rfl) (by kernel_rfl) (by kernel_rfl) (by kernel_rfl) (laidMet.tail (laidMet.tail h))
 intro w hw
 have h4:W.var? Tryz.prog "internal/strconv.uint64pow10" = some (Lib.pow10Tab.map fun z=>Value.int .u64 z).toArray:=h3
 show w.var? Tryz.prog "internal/strconv.uint64pow10" = some _
 unfold World.var? at h4 ⊢
 rw [hg] at h4 ⊢
 simp only [Option.bind_some] at h4 ⊢
 cases hx:W.heap[g]? with
 | none=>rw [hx] at h4;cases h4
 |
  some o =>
  rw [hx] at h4
  have h5:w.heap[g]? = some o:=hw g o hx
  rw [h5]
  exact h4
open Go.Sy Go.RowKit
theorem le_sum {l:List Nat} {k:Nat} (h:k∈l):k≤l.sum:=by
 induction l with
 | nil=>cases h
 |
  cons a l ih =>
  rw [List.sum_cons]
  rcases List.mem_cons.1 h with rfl | h
  · omega
  have:=ih h
  omega
theorem entsA_le {l:List ActA} {x:ActA} (h:x∈l):entsR x.L≤entsA l:=le_sum (List.mem_map_of_mem h)
theorem entsR_le {L:List RecS} {y:RecS} (h:y∈L):y.r.L.length≤entsR L:=le_sum (List.mem_map_of_mem h)
theorem fit_recs {l:List ActA} {x:ActA} (hx:x∈l) (hf:Fit x) (he:entsA l≤1500):∀ y∈x.L,y.r.L.length≤2000∧y.r.F.length≤100000:=fun y hy=>by
 have h1:=entsA_le hx
 have h2:=entsR_le hy
 have h3:=hf.feed y hy
 omega
theorem reg_len {x:StaS} (h:okS x.abs) {j:Nat} {g:RegS} (hg:x.regs[j]? = some g):g.r.L.length≤1000:=by
 have h1:=h.regs g.r (by rw [abs_R];exact List.mem_map_of_mem (List.mem_of_getElem? hg))
 have:=wholeE_len (okR_of h1).2.2.2.1
 omega
def roomA (l:List ActA):Nat:=(l.map fun x=>47*x.L.length+30*entsR x.L).sum
theorem roomA_take {l:List ActA} {k:Nat} (h:k<l.length):roomA (l.take (k+1))=roomA (l.take k)+(47*l[k].L.length+30*entsR l[k].L):=by
 unfold roomA
 rw [←List.take_append_getElem h,List.map_append,List.sum_append,List.map_cons,List.map_nil,List.sum_cons,List.sum_nil,Nat.add_zero]
theorem roomA_le:∀ {l:List ActA},(∀ x∈l,Fit x)→roomA l≤282*l.length+30*entsA l
 | [],_=>Nat.le_refl _
 |
  x::l,h=>by
  have h1:=roomA_le (l:=l) fun y hy=>h y (List.mem_cons_of_mem _ hy)
  have h2:=(h x List.mem_cons_self).recs
  simp only [roomA,entsA,List.map_cons,List.sum_cons,List.length_cons] at h1 ⊢
  omega
theorem sum_take_le:∀ (l:List Nat) (k:Nat),(l.take k).sum≤l.sum
 | [],k=>by simp
 | a::l,0=>by simp
 |
  a::l,k+1=>by
  have:=sum_take_le l k
  simp only [List.take_succ_cons,List.sum_cons]
  omega
theorem roomA_few {l:List ActA} (h:∀ x∈l,Fit x) (hn:l.length≤40) (he:entsA l≤1500) (k:Nat):roomA (l.take k)≤56280:=by
 have h1:=roomA_le h
 have h2:=sum_take_le (l.map fun x=>47*x.L.length+30*entsR x.L) k
 rw [←List.map_take] at h2
 unfold roomA at h1 ⊢
 omega
theorem last3 {A B C D E F:Asn} {h:Hp} (p:Asn.starH [A,B,C,D,E,F] h):Asn.starH [D,E,F,Asn.tt,Asn.tt,Asn.tt] h:=by
 obtain ⟨_,h2,_,_,a2,_,_,h3,_,_,a3,_,_,h4,_,_,a4,_,q⟩:=p
 exact (starH_append [D,E,F] [Asn.tt,Asn.tt,Asn.tt]).2 ⟨h4,Hp.emp,Hp.dis_emp _,(a4.trans a3).trans a2,Hp.emp_le _,q,Hp.emp,Hp.emp,Hp.dis_emp _,Hp.le_refl _,Hp.le_refl _,trivial,Hp.emp,Hp.emp,Hp.dis_emp _,Hp.le_refl _,Hp.le_refl _,trivial,starH_one.2 trivial⟩
theorem sameRowT (r:Reg) (hl:r.L.length≤1000000) (A B:Option Addr) (a b:Nat):Triple Tryz.prog 27 [.agg (encG ⟨r,A,a⟩).toArray,.agg (encG ⟨r,B,b⟩).toArray] [] [Row 101 6 A r.L.length a (r.L.flatMap encE),Row 101 6 B r.L.length b (r.L.flatMap encE)] Unit (fun _=>.bool true) (fun _=>True) (fun _=>[]):=by
 have:=(sameRegT ⟨r,A,a⟩ ⟨r,B,b⟩ hl).reads (N':=[Row 101 6 A r.L.length a (r.L.flatMap encE),Row 101 6 B r.L.length b (r.L.flatMap encE)]) (fun X hX=>by
  simp only [List.mem_cons,List.not_mem_nil,or_false] at hX
  rcases hX with rfl | rfl
  · exact ⟨_,List.mem_cons_self,fun _ q=>Row.rd q⟩
  exact ⟨_,List.mem_cons_of_mem _ List.mem_cons_self,fun _ q=>Row.rd q⟩)
 rw [decide_eq_true rfl] at this
 exact this
theorem regs_of {x y:StaS} (h:x.abs=y.abs):x.r0.r=y.r0.r∧x.r1.r=y.r1.r∧x.r2.r=y.r2.r∧x.r3.r=y.r3.r:=by
 have:=congrArg Sta.R h
 simp only [StaS.abs,List.cons.injEq,and_true] at this
 exact this
set_option maxHeartbeats 16000000 in
theorem storeTwice (A:Option Addr) (l:List ActA) (n c:Nat) (hn:n=l.length) (hn1:n≤9223372036854775807) (hB:∀ x∈l,∀ y∈x.L,y.r.L.length≤140737488351232) (hin:∀ x∈l,0≤x.k∧x.k<256) :
 Triple Tryz.prog 8 [.slice A n c] [] [TabA,Rd 3 A n (l.flatMap encA),ActsA l] Unit (fun _=>.bool true) (fun _=>True) (fun _=>[]):=by
 have TG:=(beyondT A l n c 40 hn hn1 hB).reads (N':=[TabA,Rd 3 A n (l.flatMap encA),ActsA l]) (fun X hX=>⟨X,List.mem_cons_of_mem _ hX,fun _ q=>q⟩)
 have TL:=livesT
 have TO:=openedT
 refine aT Tryz.func8 [vL A n c] [] (fun E=>?_) ⟨trivial,trivial⟩
 refine aG ?_
 refine aC TG [] [.inl 0,.inl 1,.inl 2] fun x10 h11=>?_
 refine ev_if (fun h12=>?_) (fun h12=>?_)
 refine aG ?_
 refine aC TL [] [.inl 0] fun _ h13=>?_
 refine ev_fin ⟨trivial,_,rfl,(()),rfl,(by trivial),Frm.nil _⟩
 refine aG ?_
 refine aC TO [] [.inl 0] fun ⟨x14,x15,x16,x17⟩ h18=>?_
 have hX0:x17.abs=noSta := ‹_›
 have hF0:x17.F=[]:=congrArg Sta.F hX0
 obtain ⟨hn40,hfit,hent⟩:=h11 h12
 have hroom:=roomA_few hfit (by omega) hent
 refine ev_stop (go_loopR [5,22,23,28,29,30,31,32,33,34,35,36,37,38,39,40,41,42,43,44,45,46,47] (fun (i,_)=>[(5,vI (i:Nat))]) (fun (_,X,sure,dirty,W,D)=>[(0,.fact X.rd),(1,.fact (StoP x15 x16 X sure dirty)),(2,.fact (WalM x16 x14 W)),(3,.fact (DiskM x14 D))]) (fun ((i,X,sure,dirty,W,D):Nat × StaS × Nat × Bool × WK × DK)=>i≤n∧(∃ rs,Hold X.abs W D rs (roomA (l.take i)) 0)∧(dirty=false→sure=X.F.length)) (fun (i,_)=>n-i) ((0,x17,0,false,exW,exD):Nat × StaS × Nat × Bool × WK × DK) ⟨Nat.zero_le _,⟨[],by rw [hX0];exact Hold.new⟩,fun _=>by rw [hF0];rfl⟩ aS (fun x_ h_=>?_))
 obtain ⟨i,X,sure,dirty,W,D⟩:=x_
 obtain ⟨hi,⟨rs,hK⟩,hsu⟩:=h_
 rcases Nat.lt_or_ge i n with hin2 | hin2
 · have hil:i<l.length:=by omega
   have hfx:=hfit l[i] (List.getElem_mem hil)
   have hk:=hin l[i] (List.getElem_mem hil)
   have hLi:=fit_recs (List.getElem_mem hil) hfx hent
   have hI:=hK.i
   have hrt:=roomA_take hil
   have hr0:=hroom i
   have hr1:=hroom (i+1)
   obtain ⟨R,hR⟩:∃ R,WriteR l[i].L X.abs W D=R:=⟨_,rfl⟩
   have TW:=writeLT x15 x16 x14 X sure dirty W D l[i].A l[i].L l[i].L.length l[i].c rfl (by have:=hfx.recs;omega) hLi hI.dk hI.wk hI.st R hR
   have hIW:=fun (y:StaS)=>hK.write (y:=y.abs) (L:=l[i].L) (by omega) (by decide) hR
   rw [←hrt] at hIW
   obtain ⟨W1,D1,e1,b1⟩:=R
   dsimp only at TW hIW
   refine go_more 2 (ActsA l) (Rd 8 l[i].A l[i].L.length (l[i].L.flatMap encR)) rfl (fun h p=>(p _ (List.getElem_mem hil)).1) ?_
   refine go_more 2 (ActsA l) (RecsRd l[i].L) rfl (fun h p=>(p _ (List.getElem_mem hil)).2.1) ?_
   refine aG ?_
   refine aJ ?_ (decide_eq_true (show (↑i:Int)<(↑n:Int) from (by omega)))
   refine ev_stop (go_indexE (sz:=3) Tryz.tbs_ok (.inl 1) (i) rfl rfl rfl rfl rfl rfl (by omega) rfl (fun _ h=>h) (fun g30 o32 e31=>?_))
   subst e31
   refine aG ?_
   have l33:i<(l).length:=(by omega)
   refine ev_stop (go_loadE Tryz.tbs_ok (.inl 1) (i) 0 rfl rfl rfl rfl (fun _ h=>h) (by omega) (fun _=>rfl) (by omega) l33 (by decide) ?_)
   refine aG ?_
   refine ev_if_eq (fun h34=>?_) (fun h34=>?_)
   refine aG ?_
   refine ev_stop (go_atE (sz:=3) Tryz.tbs_ok (i) rfl rfl rfl rfl rfl rfl (by omega) ?_)
   refine aG ?_
   have l35:i<(l).length:=(by omega)
   refine ev_stop (go_loadE Tryz.tbs_ok (.inl 1) (i) 1 rfl rfl rfl rfl (fun _ h=>h) (by omega) (fun _=>rfl) (by omega) l35 (by decide) ?_)
   refine aG ?_
   refine aC TW [1,2,3,0] [.inl 0,.inl 3,.inl 4] fun x36 h37=>?_
   refine wN (i+1) ?_
   refine ev_fin (round_next ((i+1,x36,sure,b1 || dirty,W1,D1)) (?_:i+1≤n∧(∃ rs,Hold x36.abs W1 D1 rs (roomA (List.take (i+1) l)) 0)∧((b1 || dirty)=false→sure=x36.F.length)) (show n-(i+1)<n-i from (by omega)) aS)
   rotate_left
   refine aG ?_
   refine wN (i+1) ?_
   refine ev_fin (round_next ((i+1,X,sure,dirty,W,D)) (?_:i+1≤n∧(∃ rs,Hold X.abs W D rs (roomA (List.take (i+1) l)) 0)∧(dirty=false→sure=X.F.length)) (show n-(i+1)<n-i from (by omega)) aS)
   rotate_left
   · obtain ⟨q1,_⟩:=hIW _ (abs_of ‹_›)
     refine ⟨by omega,q1,fun hb=>?_⟩
     rw [Bool.or_eq_false_iff] at hb
     have hy := ‹if b1=true then _ else _›
     rw [if_neg (by rw [hb.1];decide)] at hy
     rw [hy]
     exact hsu hb.2
   exact ⟨by omega,⟨rs,hK.more (by omega) (Nat.le_refl _)⟩,hsu⟩
 obtain rfl:i=n:=by omega
 rw [List.take_of_length_le (by omega)] at hK
 have hr0:=hroom i
 rw [List.take_of_length_le (by omega)] at hr0
 obtain ⟨D2,hS,hK2⟩:=hK.sync (w:=x16) (q:=x14) hsu
 have TS:=syncLT x15 x16 x14 X sure dirty W D hK.i.dk hK.i.wk hS
 refine aG ?_
 refine aI ?_ (decide_eq_false (show ¬(↑i:Int)<(↑i:Int) from (by omega)))
 refine ev_fin (go Tryz.tbs_ok 1000 ?_)
 refine aC TS [1,2,3] [.inl 0] fun _ h60=>?_
 refine aI ?_
 refine ev_stop (go_loopR [2,4,6,7,8,9,10,11,12,13,14,15,16,17,18,51,52,53,54,55,56,57,58,59,60,61,62,63,64,65,66,67,68,69,70,71,72,73,74,75,76,77,78,79,80,81,82,83,84,85,86,87,88,89,90,91,92,93,94,95,96,97,98,99,100,101,102,103,104,105,106,107,108,109,110,111,112,113,114,115,116,117,118,119,120,121,122,123,124,125,126,127,128,129,130,131,132,133] (fun (u,_,p,_)=>[(4,vP p),(6,vI (u:Nat))]) (fun (_,X,p,w,W,D,m)=>[(0,.fact X.rd),(1,.fact (StoP p w X m false)),(2,.fact (WalM w x14 W)),(3,.fact (DiskM x14 D))]) (fun ((u,X,_,_,W,D,m):Nat × StaS × Nat × Nat × WK × DK × Nat)=>u≤4∧(∃ rs b,b≤60000∧Hold X.abs W D rs b (16*u))∧m=X.F.length) (fun (u,_)=>4-u) ((0,X,x15,x16,W,D2,X.F.length):Nat × StaS × Nat × Nat × WK × DK × Nat) ⟨Nat.zero_le _,⟨rs,_,Nat.le_trans hr0 (by decide),hK2⟩,rfl⟩ aS (fun x_ h_=>?_))
 obtain ⟨u,X,p,w,W,D,m⟩:=x_
 obtain ⟨hu,⟨rs,b,hb,hK⟩,hm⟩:=h_
 rcases Nat.lt_or_ge u 4 with hu4 | hu4
 · have hI:=hK.i
   have TP:=openLT x14 D hI.dk rs hK.self hK.may (Nat.le_trans hK.len (by omega)) X.abs hK.fold hK.st m hm
   have h256:m≤256:=by rw [hm];exact (feed_small hK.st).1
   have TF:=feedSt p w X m false (by omega)
   rw [←hm] at TF
   refine aG ?_
   refine aJ ?_ (decide_eq_true (show (↑u:Int)<4 from (by omega)))
   refine aC TP [3] [.inl 0] fun ⟨x80,x81,x82⟩ h83=>?_
   refine aI ?_
   refine aC TF [1] [.inr 0] fun ⟨x84,x85⟩ h86=>?_
   have hA:x82.abs=X.abs := ‹_›
   have hAF:x82.F=X.F:=congrArg Sta.F hA
   obtain ⟨q0,q1,q2,q3⟩:=regs_of hA
   have hI2:StoI x82.abs W D:=by rw [hA];exact hI
   have TF2:=feedSt x80 x81 x82 m false (by rw [hAF];omega)
   rw [hAF,←hm] at TF2
   refine aC TF2 [5] [.inr 4] fun ⟨x100,x101⟩ h102=>?_
   refine aI ?_ (ne_no (show (↑m:Int)=(↑m:Int) from (by omega)))
   refine aI ?_ (ne_no (show (↑m:Int)=(↑m:Int) from (by omega)))
   refine ev_stop (go_loopR [2,13,55,57,62,64,67,69,82,83,84,85,86,87,88,89,90,91,92,93,94,95,96] (fun k=>[(13,vI (k:Nat))]) (fun _=>[]) (fun k=>k≤m) (fun k=>m-k) (0:Nat) (Nat.zero_le _) aS (fun k hk=>?_))
   refine aG ?_
   refine ev_if_lt (fun h120=>?_) (fun h120=>?_)
   refine aG ?_
   refine ev_stop (go_draw Tryz.tbs_ok true [0,1,2,3,4,5,6,7,8] [(0,true),(1,true),(2,true),(3,true),(4,true),(5,true),(6,true),(7,true),(8,true)] rfl ?_)
   refine aG (aE ?_)
   refine ev_stop (tk_index0 (sz:=2) Tryz.tbs_ok (.inr 7) (k) aB rfl rfl rfl rfl rfl rfl rfl (by omega) rfl Row.at0 (fun g121 e122=>?_))
   subst e122
   refine aG (aE ?_)
   have l123:k<(X.F).length:=(by omega)
   refine ev_stop (tk_loadE Tryz.tbs_ok (.inr 7) (k) 0 aB rfl rfl rfl rfl rfl (fun _ h=>Row.rd h) (by omega) (fun _=>rfl) (by omega) l123 (by decide) ?_)
   refine aG (aE ?_)
   refine ev_stop (tk_index0 (sz:=2) Tryz.tbs_ok (.inr 8) (k) aB rfl rfl rfl rfl rfl rfl rfl (by omega) rfl Row.at0 (fun g124 e125=>?_))
   subst e125
   refine aG (aE ?_)
   have l126:k<(X.F).length:=(by omega)
   refine ev_stop (tk_loadE Tryz.tbs_ok (.inr 8) (k) 0 aB rfl rfl rfl rfl rfl (fun _ h=>Row.rd h) (by omega) (fun _=>rfl) (by omega) l126 (by decide) ?_)
   refine aG (aE ?_)
   rotate_left
   refine aG ?_
   refine ev_fin (go Tryz.tbs_ok 1000 ?_)
   rotate_left
   · have hkl:k<X.F.length:=by omega
     refine ev_stop (tk_val (o:=_) aB rfl rfl (.bq (!(decide (X.F[k]=X.F[k])))) trivial (fun a w hF _=>neq_run (ev_denv hF rfl rfl) (ev_denv hF rfl rfl) (by kernel_rfl) (eq_spt X.F[k] X.F[k] 9998 w)) ?_)
     refine aG ?_
     have hne:X.F[k]=X.F[k]:=rfl
     refine aE ?_
     refine aI ?_ (dec_no (by rfl))
     refine wN (k+1) ?_
     refine ev_fin (round_next (k+1) (show k+1≤m from (by omega)) (show m-(k+1)<m-k from (by omega)) aS)
   have TR:=fun (j:Nat) (g:RegS) hj hg=>regGood p w X m false j g hj hg (reg_len hK.st hg)
   have TR0:=TR 0 X.r0 (by decide) rfl
   have TR1:=TR 1 X.r1 (by decide) rfl
   have TR2:=TR 2 X.r2 (by decide) rfl
   have TR3:=TR 3 X.r3 (by decide) rfl
   have TU:=fun (j:Nat) (g:RegS) hj hg=>regGood x80 x81 x82 m false j g hj hg (reg_len hI2.st hg)
   have TU0:=TU 0 x82.r0 (by decide) rfl
   have TU1:=TU 1 x82.r1 (by decide) rfl
   have TU2:=TU 2 x82.r2 (by decide) rfl
   have TU3:=TU 3 x82.r3 (by decide) rfl
   rw [q0] at TU0
   rw [q1] at TU1
   rw [q2] at TU2
   rw [q3] at TU3
   have TQ0:=sameRowT X.r0.r (by have:=reg_len hK.st (show X.regs[0]? = some X.r0 from rfl);omega)
   have TQ1:=sameRowT X.r1.r (by have:=reg_len hK.st (show X.regs[1]? = some X.r1 from rfl);omega)
   have TQ2:=sameRowT X.r2.r (by have:=reg_len hK.st (show X.regs[2]? = some X.r2 from rfl);omega)
   have TQ3:=sameRowT X.r3.r (by have:=reg_len hK.st (show X.regs[3]? = some X.r3 from rfl);omega)
   refine ev_stop (go_rounds 5 ?_)
   refine aG (aJ ?_)
   refine aC TR0 [1] [.inr 0] fun ⟨x200,x201⟩ h202=>?_
   refine ev_new fun b203=>?_
   refine aC TU0 [5] [.inr 4] fun ⟨x204,x205⟩ h206=>?_
   refine ev_new fun b207=>?_
   refine aI (aI ?_)
   refine aC (TQ0 (x200) (x204) (x201) (x205)) [] [.inr 9,.inr 11] fun _ h208=>?_
   refine aI ?_
   refine wN (0+1) ?_
   refine ev_fin (go Tryz.tbs_ok 1000 ?_)
   refine aJ ?_
   refine aC TR1 [1] [.inr 0] fun ⟨x209,x210⟩ h211=>?_
   refine ev_new fun b212=>?_
   refine aC TU1 [5] [.inr 4] fun ⟨x213,x214⟩ h215=>?_
   refine ev_new fun b216=>?_
   refine aI (aI ?_)
   refine aC (TQ1 (x209) (x213) (x210) (x214)) [] [.inr 13,.inr 15] fun _ h217=>?_
   refine aI ?_
   refine wN (0+1+1) ?_
   refine ev_fin (go Tryz.tbs_ok 1000 ?_)
   refine aJ ?_
   refine aC TR2 [1] [.inr 0] fun ⟨x218,x219⟩ h220=>?_
   refine ev_new fun b221=>?_
   refine aC TU2 [5] [.inr 4] fun ⟨x222,x223⟩ h224=>?_
   refine ev_new fun b225=>?_
   refine aI (aI ?_)
   refine aC (TQ2 (x218) (x222) (x219) (x223)) [] [.inr 17,.inr 19] fun _ h226=>?_
   refine aI ?_
   refine wN (0+1+1+1) ?_
   refine ev_fin (go Tryz.tbs_ok 1000 ?_)
   refine aJ ?_
   refine aC TR3 [1] [.inr 0] fun ⟨x227,x228⟩ h229=>?_
   refine ev_new fun b230=>?_
   refine aC TU3 [5] [.inr 4] fun ⟨x231,x232⟩ h233=>?_
   refine ev_new fun b234=>?_
   refine aI (aI ?_)
   refine ev_ghost [0,1,2,4,5,6] (M:=[X.rd,StoP p w X m false,WalM w x14 W,x82.rd,StoP x80 x81 x82 m false,WalM x81 x14 W]) (X:=Unit) (fun _=>[.fact x82.rd,.fact (StoP x80 x81 x82 m false),.fact (WalM x81 x14 W),.dead none,.dead none,.dead none]) rfl (by decide) (fun h q=>⟨(),last3 q⟩) (fun _=>newsOk_fact (newsOk_fact (newsOk_fact (fun x hx=>by simp only [List.mem_cons,List.not_mem_nil,or_false,or_self] at hx;rw [hx];trivial)))) (fun _=>by repeat (first | exact trivial | refine ⟨rfl,?_⟩)) (fun _=>?_)
   obtain ⟨W3,D3,e3,hK3⟩:=hK.ck (by omega) (by omega)
   have TK:=ckLT x80 x81 x14 x82 m false W D hI.dk hI.wk hI2.st (s:=m) (d:=false) (W1:=W) (D1:=D) rfl hI.dk hI.wk (W':=W3) (D':=D3) (e:=0) (by rw [hA];exact e3)
   refine aC (TQ3 (x227) (x231) (x228) (x232)) [] [.inr 21,.inr 23] fun _ h300=>?_
   refine aI ?_
   refine wN (0+1+1+1+1) ?_
   refine ev_fin (go Tryz.tbs_ok 1000 ?_)
   refine aI ?_
   refine ev_fin (go Tryz.tbs_ok 1000 ?_)
   refine ev_if_eq (fun h301=>?_) (fun h301=>?_)
   refine aG ?_
   refine aC TK [1,2,3] [.inl 0,.inr 0] fun _ h302=>?_
   refine aI ?_
   refine wN (u+1) ?_
   refine ev_fin (round_next ((u+1,x82,x80,x81,W3,D3,m)) (?_:u+1≤4∧(∃ rs b,b≤60000∧Hold x82.abs W3 D3 rs b (16*(u+1)))∧m=x82.F.length) (show 4-(u+1)<4-u from (by omega)) aS)
   rotate_left
   refine aG ?_
   refine wN (u+1) ?_
   refine ev_fin (round_next ((u+1,x82,x80,x81,W,D,m)) (?_:u+1≤4∧(∃ rs b,b≤60000∧Hold x82.abs W D rs b (16*(u+1)))∧m=x82.F.length) (show 4-(u+1)<4-u from (by omega)) aS)
   rotate_left
   · exact ⟨by omega,⟨ckR X.abs,10475,by decide,by rw [hA];exact hK3.more (Nat.le_refl _) (by omega)⟩,by rw [hAF];exact hm⟩
   exact ⟨by omega,⟨rs,b,hb,by rw [hA];exact hK.more (Nat.le_refl _) (by omega)⟩,by rw [hAF];exact hm⟩
 obtain rfl:u=4:=by omega
 refine aG (aI ?_)
 refine ev_fin (go Tryz.tbs_ok 1000 ?_)
 refine aC TL [] [.inl 0] fun _ h80=>?_
 refine ev_fin ⟨trivial,_,rfl,(()),rfl,(by trivial),Frm.nil _⟩
theorem storeTwice_lifted (os:Os) (started:os.Started) (H:Type) (enc:TypeId × Value→H) :
 ReturnsInHanded {} Tryz.checked os 8 .any (fun w args=>(Rows.storeTwiceSpec.pre enc Tryz.prog Tryz.f8 Rows.storeTwiceRow.domain Rows.storeTwiceRow.apart w args∧laidMetH Tryz.prog Rows.storeTwiceRow.laid w)∧sizedMet enc Tryz.prog Tryz.f8 (OpenSpec.ofChange Rows.storeTwiceSpec) Rows.storeTwiceRow.apart w args) (Rows.storeTwiceSpec.post enc Tryz.prog Tryz.f8 Rows.storeTwiceRow.apart Rows.storeTwiceRow.fresh Rows.storeTwiceRow.handsOn Rows.storeTwiceRow.again):=by
 refine returnsInHanded_of_change_and (C:=Tryz.checked) (X:=fun w _=>laidMetH Tryz.prog Rows.storeTwiceRow.laid w) (fun _ _ _ hh h=>h.of_heap hh) Tryz.own started (by kernel_rfl) Tryz.func8
  (ChangeSpec.witness_shaped (enc:=enc) (C:=Tryz.checked) (os:=os) (X:=fun w _=>laidMetH Tryz.prog Rows.storeTwiceRow.laid w) false (World.doorLaid Tryz.prog 400 os) #[.slice none 0 0] 8 rfl (World.shaped_of_RefB (by kernel_rfl) (by kernel_rfl)) (by kernel_rfl) (by kernel_rfl) (by kernel_rfl) (door_met os _)) ?_
 intro W base args ds gs before hval0 hW hcnd hwt hL _
 have htab:=tab_of hL
 have hval:∀ (j:Nat) t v,Tryz.f8.params[j]? = some t→args[j]? = some v→Value.okWide Tryz.prog W .any base t v:=hval0
 obtain ⟨p,q,hA0,hV,_,_,_⟩:=id hW
 have hA:DataW.TrodAll enc Tryz.prog W 0 (fun _=>true) true Tryz.f8.params.toList args.toList ds p:=hA0
 clear hval0 hA0
 obtain ⟨rfl,_⟩:=trodVars_none hV
 have hwt2:=all_le hwt
 have hpar:Tryz.f8.params = #[22]:=by kernel_rfl
 rw [hpar] at hA hval
 obtain ⟨v0,d0,rfl,rfl,fuel0,hf0⟩:=trodAll_one hA
 obtain ⟨A0,n0,c0,rfl⟩:=okWide_slice (P:=Tryz.prog) (t:=22) (e:=40) (by kernel_rfl) (hval 0 _ _ rfl rfl)
 obtain ⟨A0',n0',c0',l0,hl0,hln0,hc0,hm0,hr0,hg0⟩:=list_of_sees (F:=0+1+1+1+1+1+1+1) (t:=22) (el:=40) (enc:=encA) (G:=fun x=>(x.rdA.holds (hp W)∧(RecsRd x.L).holds (hp W)∧x.rdK.holds (hp W))∧(0≤x.k∧x.k<256)∧∀ y∈x.L,y.r.L.length≤reachBytes) rfl rfl (by decide) encA_len (fun _=>rfl) (fun vs hl h=>act_dec hl h) (sees_of_trod Tryz.tbs_ok.tab bytes_ok 8 fuel0 _ _ _ hf0 (fun k hk=>hwt2 k (weightsEach_get _ _ _ 0 _ _ rfl rfl k hk)))
 cases hl0
 obtain ⟨ha0,hb0,hin0⟩:=actsA_in hg0
 refine (storeTwice A0 l0 n0 c0 hln0.symm (maxLen_le hc0 hm0) hb0 hin0 W Hp.emp (hp W) (Hp.emp_le _) (Hp.le_refl _) (Hp.emp_dis _) trivial (fun X hX=>?_)).mono fun e W' ⟨_,_,he,_,_,_,hext,_⟩=>?_
 · simp only [List.mem_cons,List.not_mem_nil,or_false] at hX
   rcases hX with rfl | rfl | rfl
   · exact htab
   · exact hr0
   exact ha0
 exact ⟨.bool true,he,post_true Tryz.laidOut (by kernel_rfl) rfl (rt:=4) (by kernel_rfl) (by kernel_rfl) hW hext.below rfl rfl rfl⟩
theorem storeTwice_holds:Rows.StoreTwiceSaid :=
 OpenClaim.holds_of_wide 8 Tryz.f8 rfl rfl rfl rfl rfl rfl rfl ⟨rfl,rfl,rfl,rfl,rfl⟩ rfl rfl rfl rfl rfl (by kernel_rfl) Tryz.func8 (by kernel_rfl)
  (of_decide_eq_true (by kernel_rfl)) (by unfold Func.isWrapper;rw [if_neg (by decide +kernel)];exact ⟨rfl,rfl⟩)
  (fun os started H enc _=>storeTwice_lifted os started H enc)
theorem storeTwice_card:Rows.StoreTwiceCardSaid :=
 Claim7.holds_tied_plain_at .later [] [.data,.data,.data] true Rows.storeTwiceCard.stood.harness false
  storeTwice_holds (fun _ h=>by cases h) (by kernel_rfl) (fun _ h=>by cases h) storeTwice_row_tie rfl ⟨rfl,rfl⟩ (by kernel_rfl) rfl
  (fun f fn hf hfn=>by
   obtain rfl:f=8:=(Option.some.inj ((show Tryz.prog.funcNamed Rows.storeTwiceRow.func=some 8 by kernel_rfl).symm.trans hf)).symm
   obtain rfl:fn=Tryz.f8:=(Option.some.inj (Tryz.func8.symm.trans hfn)).symm
   refine ⟨by kernel_rfl,fun j t ht=>?_⟩
   have hpar:Tryz.f8.params = #[22]:=by kernel_rfl
   rw [hpar] at ht
   have hm:t∈[22]:=by
    rw [show (#[22]:Array TypeId)[j]? = ([22]:List TypeId)[j]? from by simp] at ht
    exact List.mem_of_getElem? ht
   simp only [List.mem_cons,List.not_mem_nil,or_false] at hm
   rcases hm with rfl
   exact (show Tryz.prog.wantsStandIn 22=false by kernel_rfl))
  (by kernel_rfl)
end Go.Proofs.YtnbaejindfillaaGreatDoor

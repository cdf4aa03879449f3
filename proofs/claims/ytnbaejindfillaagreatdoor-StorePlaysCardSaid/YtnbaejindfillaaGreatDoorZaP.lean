/-
  What is proved: storePlays_card. Conditions: none.
-/
import Derived.WalkKit
import Derived.OrdersHeld
import Derived.Deep.LoopGhost
import Derived.Maps.AppendAt
import Derived.Laws.StructEq
import Derived.Laws.CopyRow
import Derived.LoopN
import Derived.Laws.MakeOwn
import Derived.Lib.Overlaps
import Derived.MapKept
import Derived.Test.YtnbaejindfillaaGreatDoorRows
import Derived.RangeFuncLeaves
import Derived.RangeFuncRecord
import Derived.RangeFuncCalls
import Derived.TacticsIn
import Derived.Scope
import Derived.Lib.AppendStr
import Derived.Lib.UnsafeStr
import Derived.Lib.Builder
import Derived.Laws.IdiomStrings
import Derived.Laws.BytesArg
import Derived.ArgAppend
import Derived.Shelf.LaysM
import Derived.Shelf.Strconv.Itoa3
import Derived.Test.YtnbaejindfillaaGreatDoorProg
import Derived.Lib.AppendIntMem
import Derived.Carry
import Derived.ChangeSame
import Derived.JoinedOf
import Derived.JoinedAt
import Derived.ChangeArms
import Derived.WideKeyArr2
import Derived.Test.YtnbaejindfillaaGreatDoorCards
import Derived.Test.YtnbaejindfillaaGreatDoorTie
import Derived.SevenTiedAt
import Derived.LaidLaws
import Derived.LaidMore
import Derived.Lib.LaidTab
import Derived.Stop.LaidErr
import Derived.OpenShut
import Derived.ChangeMaps5
import Derived.Test.YtnbaejindfillaaGreatDoorZa6
set_option maxRecDepth 100000
namespace Go.Sy
open Go.RowKit
theorem starH_mem {l:List Asn} {A:Asn} (hA:A∈l) {h:Hp} (p:Asn.starH l h):A.holds h:=by
 obtain ⟨hs,h1,_,h3⟩:=Asn.starH_split l p
 obtain ⟨i,hi⟩:=List.mem_iff_getElem?.1 hA
 exact A.mono (h1 i) (h3 i A hi)
section
variable {P:Program} {T:Tbs} {E:Entry} {Q:Exit→St→Prop} {ops:Array Oper} {l:List Oper} {r:List It} {st:St}
end
theorem bq_no {α:Type} [BEq α] [LawfulBEq α] {x y:α} (h:x=y):(!(x==y))=false:=by simp [h]
section
variable {P:Program} {T:Tbs} {E:Entry} {Q:Exit→St→Prop} {ops:Array Oper} {l:List Oper} {r:List It} {st:St} {α:Type} {enc:α→List Value}
end
end Go.Sy
namespace Go.Proofs.YtnbaejindfillaaGreatDoor
open Go.Sy Go.RowKit Go.ChangeShapes Go.WideShapes
instance:Inhabited Ent:=⟨⟨0,0,0,0,0,0⟩⟩
instance:Inhabited Spt:=⟨⟨0,0⟩⟩
theorem encE_len (x:Ent):(encE x).length=6:=rfl
theorem encP_len (x:Spt):(encP x).length=2:=rfl
theorem int_dec {w:World} {F:Nat} {vs:List Value} (hl:vs.length=1) (h:Sees Tryz.tab w (F+1) 3 vs):∃ x:Int,vs=encN x∧True:=by
 obtain ⟨n0,e0,_⟩:=leaf_int (F:=F) (d:=0) (k:=.i64) (u:=3) rfl rfl h 0 (by decide)
 exact ⟨n0,eq_of_at hl (And.intro e0 trivial),trivial⟩
theorem spt_dec {w:World} {F:Nat} {vs:List Value} (hl:vs.length=2) (h:Sees Tryz.tab w (F+1+1) 72 vs):∃ x:Spt,vs=encP x∧(True):=by
 obtain ⟨n0,e0,w0⟩:=leaf_int (F:=F) (d:=1) (k:=.i64) (u:=3) rfl rfl h 0 (by decide)
 obtain ⟨n1,e1,w1⟩:=leaf_int (F:=F) (d:=1) (k:=.i64) (u:=3) rfl rfl h 1 (by decide)
 exact ⟨⟨n0,n1⟩,eq_of_at hl (And.intro e0 (And.intro e1 trivial)),trivial⟩
theorem ent_dec {w:World} {F:Nat} {vs:List Value} (hl:vs.length=6) (h:Sees Tryz.tab w (F+1+2) 101 vs):∃ x:Ent,vs=encE x∧(True):=by
 obtain ⟨n0,e0,w0⟩:=leaf_int (F:=F) (d:=2) (k:=.i64) (u:=3) rfl rfl h 0 (by decide)
 obtain ⟨n1,e1,w1⟩:=leaf_int (F:=F) (d:=2) (k:=.i64) (u:=3) rfl rfl h 1 (by decide)
 obtain ⟨n2,e2,w2⟩:=leaf_int (F:=F) (d:=2) (k:=.i64) (u:=3) rfl rfl h 2 (by decide)
 obtain ⟨n3,e3,w3⟩:=leaf_int (F:=F) (d:=2) (k:=.i64) (u:=3) rfl rfl h 3 (by decide)
 obtain ⟨n4,e4,w4⟩:=leaf_int (F:=F) (d:=2) (k:=.i64) (u:=3) rfl rfl h 4 (by decide)
 obtain ⟨n5,e5,w5⟩:=leaf_int (F:=F) (d:=2) (k:=.i64) (u:=3) rfl rfl h 5 (by decide)
 exact ⟨⟨n0,n1,n2,n3,n4,n5⟩,eq_of_at hl (And.intro e0 (And.intro e1 (And.intro e2 (And.intro e3 (And.intro e4 (And.intro e5 trivial)))))),trivial⟩
theorem rec_dec {w:World} {F:Nat} {vs:List Value} (hl:vs.length=8) (h:Sees Tryz.tab w (F+1+1+1+1+1) 54 vs):∃ x:RecS,vs=encR x∧((x.rdL.holds (hp w)∧x.rdF.holds (hp w))∧x.r.L.length≤reachBytes):=by
 obtain ⟨n0,e0,w0⟩:=leaf_int (F:=F+1+1+1) (d:=1) (k:=.i64) (u:=3) rfl rfl h 0 (by decide)
 obtain ⟨n1,e1,w1⟩:=leaf_int (F:=F+1+1+1) (d:=1) (k:=.i64) (u:=3) rfl rfl h 1 (by decide)
 obtain ⟨n2,e2,w2⟩:=leaf_int (F:=F+1+1+1) (d:=1) (k:=.i64) (u:=3) rfl rfl h 2 (by decide)
 obtain ⟨n3,e3,w3⟩:=leaf_int (F:=F+1+1+1) (d:=1) (k:=.i64) (u:=3) rfl rfl h 3 (by decide)
 obtain ⟨n4,e4,w4⟩:=leaf_int (F:=F+1+1+1) (d:=1) (k:=.i64) (u:=3) rfl rfl h 4 (by decide)
 obtain ⟨n5,e5,w5⟩:=leaf_int (F:=F+1+1+1) (d:=1) (k:=.i64) (u:=3) rfl rfl h 5 (by decide)
 obtain ⟨A6,n6,c6,l6,e6,hn6,hc6,hm6,hr6,hg6⟩:=leaf_slice (F:=F+1+1+1) (d:=1) (u:=30) (el:=101) (enc:=encE) (G:=fun _=>True) rfl rfl (by decide) encE_len (fun _=>rfl) (fun vs hl h=>ent_dec hl h) rfl h 6 (by decide)
 subst hn6
 obtain ⟨A7,n7,c7,l7,e7,hn7,hc7,hm7,hr7,hg7⟩:=leaf_slice (F:=F+1+1+1) (d:=1) (u:=34) (el:=72) (enc:=encP) (G:=fun _=>True) rfl rfl (by decide) encP_len (fun _=>rfl) (fun vs hl h=>spt_dec hl h) rfl h 7 (by decide)
 subst hn7
 exact ⟨⟨⟨n0,n1,n2,n3,n4,n5,l6,l7⟩,A6,c6,A7,c7⟩,eq_of_at hl (And.intro e0 (And.intro e1 (And.intro e2 (And.intro e3 (And.intro e4 (And.intro e5 (And.intro e6 (And.intro e7 trivial)))))))),⟨hr6,hr7⟩,hm6.2⟩
theorem act_dec {w:World} {F:Nat} {vs:List Value} (hl:vs.length=3) (h:Sees Tryz.tab w (F+1+1+1+1+1+1+1) 40 vs):∃ x:ActA,vs=encA x∧((x.rdA.holds (hp w)∧(RecsRd x.L).holds (hp w)∧x.rdK.holds (hp w))∧(0≤x.k∧x.k<256)∧∀ y∈x.L,y.r.L.length≤reachBytes):=by
 obtain ⟨n0,e0,w0⟩:=leaf_int (F:=F+1+1+1+1+1) (d:=1) (k:=.u8) (u:=5) rfl rfl h 0 (by decide)
 obtain ⟨A1,n1,c1,l1,e1,hn1,hc1,hm1,hr1,hg1⟩:=leaf_slice (F:=F+1+1+1+1+1) (d:=1) (u:=37) (el:=54) (enc:=encR) (G:=fun x=>(x.rdL.holds (hp w)∧x.rdF.holds (hp w))∧x.r.L.length≤reachBytes) rfl rfl (by decide) encR_len (fun _=>rfl) (fun vs hl h=>rec_dec hl h) rfl h 1 (by decide)
 subst hn1
 obtain ⟨A2,n2,c2,l2,e2,hn2,hc2,hm2,hr2,hg2⟩:=leaf_slice (F:=F+1+1+1+1+1) (d:=1) (u:=38) (el:=3) (enc:=encN) (G:=fun _=>True) rfl rfl (by decide) encN_len (fun _=>rfl) (fun vs hl h=>int_dec hl h) rfl h 2 (by decide)
 subst hn2
 exact ⟨⟨n0,l1,A1,c1,l2,A2,c2⟩,eq_of_at hl (And.intro e0 (And.intro e1 (And.intro e2 trivial))),⟨hr1,fun y hy=>(hg1 y hy).1,hr2⟩,wf_u8 w0,fun y hy=>(hg1 y hy).2⟩
theorem actsA_in {w:World} {l:List ActA} (h:∀ x∈l,(x.rdA.holds (hp w)∧(RecsRd x.L).holds (hp w)∧x.rdK.holds (hp w))∧(0≤x.k∧x.k<256)∧∀ y∈x.L,y.r.L.length≤reachBytes):(ActsA l).holds (hp w)∧(∀ x∈l,∀ y∈x.L,y.r.L.length≤140737488351232)∧∀ x∈l,0≤x.k∧x.k<256:=⟨fun x hx=>(h x hx).1,fun x hx=>(h x hx).2.2,fun x hx=>(h x hx).2.1⟩
theorem maxLen_le {n c:Nat} (h:n≤c) (h2:c≤maxLen∧n≤reachBytes):n≤9223372036854775807:=Nat.le_trans h h2.1
theorem bytes_ok:bytesOk Tryz.prog Tryz.tbs.tab=true:=by kernel_rfl
theorem all_le {l:List Nat} (h:l.all (· ≤ reachBytes)=true):∀ k∈l,k≤reachBytes:=fun k hk=>of_decide_eq_true (List.all_eq_true.1 h k hk)
abbrev laidL:List (String × DataW Unit):=Rows.storeNoneRow.laid
theorem door_met (os:Os) (args:Array Value):laidMetH Tryz.prog laidL ((World.doorLaid Tryz.prog 400 os).forCall (fun _ _=>0) ⟨#[],args,[]⟩).memory:=by
 rw [MakeChecks.laidMetH_plain _ _ _ (by kernel_rfl)]
 exact laidMet_of_run' 8 (by kernel_rfl) (by kernel_rfl)
theorem tab_of {W:World} (h:laidMetH Tryz.prog laidL W):TabA.holds (hp W):=by
 rw [MakeChecks.laidMetH_plain _ _ _ (by kernel_rfl)] at h
 obtain ⟨g,hg,hgt⟩:∃ g,Tryz.prog.globalNamed "internal/strconv.uint64pow10" = some g∧(Tryz.prog.globals[g]?).map (·.type)=some 227:=⟨0,by kernel_rfl,by kernel_rfl⟩
 have h3:Lib.TabIs Tryz.prog W "internal/strconv.uint64pow10" .u64 Lib.pow10Tab:=Lib.tabIs_of_head (g:=g) (t:=227) (e:=189) (n:=20) hg hgt (by kernel_rfl) (by kernel_rfl) (by kernel_rfl) (by kernel_rfl) (laidMet.tail (laidMet.tail h))
 intro w hw
 have h4:W.var? Tryz.prog "internal/strconv.uint64pow10" = some (Lib.pow10Tab.map fun z=>Value.int .u64 z).toArray:=h3
 show w.var? Tryz.prog "internal/strconv.uint64pow10" = some _
 unfold World.var? at h4 ⊢
 rw [hg] at h4 ⊢
 simp only [Option.bind_some] at h4 ⊢
 cases hx:W.heap[g]? with
 | none=>rw [hx] at h4;cases h4
 |
  some o =>
  rw [hx] at h4
  have h5:w.heap[g]? = some o:=hw g o hx
  rw [h5]
  exact h4
open Go.Sy Go.RowKit
theorem le_sum {l:List Nat} {k:Nat} (h:k∈l):k≤l.sum:=by
 induction l with
 | nil=>cases h
 |
  cons a l ih =>
  rw [List.sum_cons]
  rcases List.mem_cons.1 h with rfl | h
  · omega
  have:=ih h
  omega
theorem entsA_le {l:List ActA} {x:ActA} (h:x∈l):entsR x.L≤entsA l:=le_sum (List.mem_map_of_mem h)
theorem entsR_le {L:List RecS} {y:RecS} (h:y∈L):y.r.L.length≤entsR L:=le_sum (List.mem_map_of_mem h)
theorem fit_recs {l:List ActA} {x:ActA} (hx:x∈l) (hf:Fit x) (he:entsA l≤1500):∀ y∈x.L,y.r.L.length≤2000∧y.r.F.length≤100000:=fun y hy=>by
 have h1:=entsA_le hx
 have h2:=entsR_le hy
 have h3:=hf.feed y hy
 omega
theorem reg_len {x:StaS} (h:okS x.abs) {j:Nat} {g:RegS} (hg:x.regs[j]? = some g):g.r.L.length≤1000:=by
 have h1:=h.regs g.r (by rw [abs_R];exact List.mem_map_of_mem (List.mem_of_getElem? hg))
 have:=wholeE_len (okR_of h1).2.2.2.1
 omega
def roomA (l:List ActA):Nat:=(l.map fun x=>47*x.L.length+30*entsR x.L).sum
theorem roomA_take {l:List ActA} {k:Nat} (h:k<l.length):roomA (l.take (k+1))=roomA (l.take k)+(47*l[k].L.length+30*entsR l[k].L):=by
 unfold roomA
 rw [←List.take_append_getElem h,List.map_append,List.sum_append,List.map_cons,List.map_nil,List.sum_cons,List.sum_nil,Nat.add_zero]
theorem roomA_le:∀ {l:List ActA},(∀ x∈l,Fit x)→roomA l≤282*l.length+30*entsA l
 | [],_=>Nat.le_refl _
 |
  x::l,h=>by
  have h1:=roomA_le (l:=l) fun y hy=>h y (List.mem_cons_of_mem _ hy)
  have h2:=(h x List.mem_cons_self).recs
  simp only [roomA,entsA,List.map_cons,List.sum_cons,List.length_cons] at h1 ⊢
  omega
theorem sum_take_le:∀ (l:List Nat) (k:Nat),(l.take k).sum≤l.sum
 | [],k=>by simp
 | a::l,0=>by simp
 |
  a::l,k+1=>by
  have:=sum_take_le l k
  simp only [List.take_succ_cons,List.sum_cons]
  omega
theorem roomA_few {l:List ActA} (h:∀ x∈l,Fit x) (hn:l.length≤40) (he:entsA l≤1500) (k:Nat):roomA (l.take k)≤56280:=by
 have h1:=roomA_le h
 have h2:=sum_take_le (l.map fun x=>47*x.L.length+30*entsR x.L) k
 rw [←List.map_take] at h2
 unfold roomA at h1 ⊢
 omega
theorem rMayO (x:Ent):Triple Tryz.prog 173 [.agg (encO x).toArray] [] [] Unit (fun _=>.bool (okO x)) (fun _=>True) (fun _=>[]):=by
 obtain ⟨e,id,st,ex,k,a⟩:=x
 obtain ⟨R,hR⟩:∃ R,R=okO ⟨e,id,st,ex,k,a⟩:=⟨_,rfl⟩
 rw [←hR]
 unfold okO at hR
 simp only at hR
 refine aT Tryz.func173 [.ag [vI id,vI st,vI ex,vI k,vI a]] [] (fun E=>?_) ⟨⟨trivial,trivial,trivial,trivial,trivial,trivial⟩,trivial⟩
 refine aG ?_
 refine ev_new fun b10=>?_
 refine ev_if_lt (fun h11=>?_) (fun h11=>?_)
 refine aG ?_
 refine ev_if_lt (fun h12=>?_) (fun h12=>?_)
 refine aG ?_
 refine ev_if_lt (fun h13=>?_) (fun h13=>?_)
 refine aG ?_
 refine ev_if_lt (fun h14=>?_) (fun h14=>?_)
 refine aG ?_
 refine ev_if_lt (fun h15=>?_) (fun h15=>?_)
 refine aG ?_
 refine ev_if_lt (fun h16=>?_) (fun h16=>?_)
 refine aG ?_
 refine ev_if_lt (fun h17=>?_) (fun h17=>?_)
 refine aG ?_
 refine ev_if_lt (fun h18=>?_) (fun h18=>?_)
 refine aG ?_
 refine ev_if_lt (fun h19=>?_) (fun h19=>?_)
 refine aG ?_
 refine ev_fin ⟨trivial,_,rfl,(()),?_,(by trivial),Frm.nil _⟩
 rotate_left
 refine aG ?_
 refine ev_fin ⟨trivial,_,rfl,(()),?_,(by trivial),Frm.nil _⟩
 rotate_left
 refine aG ?_
 refine ev_fin ⟨trivial,_,rfl,(()),?_,(by trivial),Frm.nil _⟩
 rotate_left
 refine aG ?_
 refine ev_fin ⟨trivial,_,rfl,(()),?_,(by trivial),Frm.nil _⟩
 rotate_left
 refine aG ?_
 refine ev_fin ⟨trivial,_,rfl,(()),?_,(by trivial),Frm.nil _⟩
 rotate_left
 refine aG ?_
 refine ev_fin ⟨trivial,_,rfl,(()),?_,(by trivial),Frm.nil _⟩
 rotate_left
 refine aG ?_
 refine ev_fin ⟨trivial,_,rfl,(()),?_,(by trivial),Frm.nil _⟩
 rotate_left
 refine aG ?_
 refine ev_fin ⟨trivial,_,rfl,(()),?_,(by trivial),Frm.nil _⟩
 rotate_left
 refine aG ?_
 refine ev_fin ⟨trivial,_,rfl,(()),?_,(by trivial),Frm.nil _⟩
 rotate_left
 refine aG ?_
 refine ev_fin ⟨trivial,_,rfl,(()),?_,(by trivial),Frm.nil _⟩
 rotate_left
 all_goals (show Value.bool _=Value.bool R;congr 1;rw [hR];first | grind | (simp [*];first | done | omega))
theorem rCheckO (x:Ent):Triple Tryz.prog 150 [.agg (encO x).toArray] [] [] Unit (fun _=>.int .i64 (if okO x=true then 0 else 2)) (fun _=>True) (fun _=>[]):=by
 have T1:=rMayO x
 obtain ⟨e,id,st,ex,k,a⟩:=x
 obtain ⟨R,hR⟩:∃ R,R=okO ⟨e,id,st,ex,k,a⟩:=⟨_,rfl⟩
 rw [←hR] at T1 ⊢
 refine aT Tryz.func150 [.ag [vI id,vI st,vI ex,vI k,vI a]] [] (fun E=>?_) ⟨⟨trivial,trivial,trivial,trivial,trivial,trivial⟩,trivial⟩
 cases R with
 | true =>
  refine go Tryz.tbs_ok 1000 ?_
  refine ev_new fun b10=>?_
  refine aC T1 [] [] fun _ h11=>?_
  refine aI ?_
  refine ev_fin ⟨trivial,_,rfl,(()),rfl,(by trivial),Frm.nil _⟩
 | false =>
  refine go Tryz.tbs_ok 1000 ?_
  refine ev_new fun b20=>?_
  refine aC T1 [] [] fun _ h21=>?_
  refine aJ ?_
  refine ev_fin ⟨trivial,_,rfl,(()),rfl,(by trivial),Frm.nil _⟩
def logA (L:List Ent) (s:Int):Bool:=L.all fun x=>decide (1≤x.e)&&decide (x.e≤1048576)&&decide (x.st=s)&&okO x
theorem logA_take {L:List Ent} {s:Int} {i:Nat} (h:i<L.length):logA (L.take (i+1)) s=(logA (L.take i) s&&(decide (1≤L[i].e)&&decide (L[i].e≤1048576)&&decide (L[i].st=s)&&okO L[i])):=by
 unfold logA
 rw [←List.take_append_getElem h,List.all_append]
 simp only [List.all_cons,List.all_nil,Bool.and_true]
theorem logA_no {L:List Ent} {s:Int} {i:Nat} (h:i<L.length) (hno:(decide (1≤L[i].e)&&decide (L[i].e≤1048576)&&decide (L[i].st=s)&&okO L[i])=false):logA L s=false:=by
 unfold logA
 rw [List.all_eq_false]
 exact ⟨L[i],List.getElem_mem h,by rw [hno];decide⟩
set_option maxHeartbeats 4000000 in
theorem rLogA (C:Option Addr) (L:List Ent) (m d:Nat) (s most:Int) (hm:m=L.length) (h1:m≤1000000) :
 Triple Tryz.prog 149 [.slice C m d,.int .i64 s,.int .i64 most] [] [Rd 6 C m (L.flatMap encE)] Unit (fun _=>.bool (decide ((m:Int)≤most)&&logA L s)) (fun _=>True) (fun _=>[]):=by
 obtain ⟨R,hR⟩:∃ R,R=(decide ((m:Int)≤most)&&logA L s):=⟨_,rfl⟩
 rw [←hR]
 refine aT Tryz.func149 [vL C m d,vI s,vI most] [] (fun E=>?_) ⟨trivial,trivial,trivial,trivial⟩
 refine aG ?_
 refine ev_if_lt (fun h10=>?_) (fun h10=>?_)
 refine aG ?_
 refine ev_fin ⟨trivial,_,rfl,(()),?_,(by trivial),Frm.nil _⟩
 rotate_left
 refine aG ?_
 rotate_left
 · show Value.bool _=Value.bool R
   rw [hR,decide_eq_false (by omega)]
   rfl
 refine ev_stop (go_loopR [6,7,12,13,14,15,16,17,18,19,20,21,22,23,24,25,26,27,28,29,30,31,32,33,34,35,36,37,38,39,40,41,42,43] (fun i=>[(7,vI (i:Nat))]) (fun _=>[]) (fun i=>i≤m∧logA (L.take i) s=true) (fun i=>m-i) (0:Nat) ⟨Nat.zero_le _,rfl⟩ aS (fun i h_=>?_))
 obtain ⟨hi,hE⟩:=h_
 rcases Nat.lt_or_ge i m with him | him
 · have hil:i<L.length:=by omega
   have ht:=logA_take (s:=s) hil
   have hno:=logA_no (s:=s) hil
   have T1:=rMayO L[i]
   obtain ⟨w,hw⟩:∃ w,w=okO L[i]:=⟨_,rfl⟩
   rw [←hw] at T1 ht hno
   refine aG ?_
   refine aJ ?_ (decide_eq_true (show (↑i:Int)<(↑m:Int) from (by omega)))
   refine ev_stop (go_indexE (sz:=6) Tryz.tbs_ok (.inl 0) (i) rfl rfl rfl rfl rfl rfl (by omega) rfl (fun _ h=>h) (fun g20 o22 e21=>?_))
   subst e21
   refine aG ?_
   have l23:i<(L).length:=(by omega)
   refine ev_stop (go_loadE Tryz.tbs_ok (.inl 0) (i) 0 rfl rfl rfl rfl (fun _ h=>h) (by omega) (fun _=>rfl) (by omega) l23 (by decide) ?_)
   refine aG ?_
   refine ev_inline Tryz.tbs_ok Tryz.func148 rfl rfl ?_
   refine aG ?_
   refine ev_if_lt (fun h24=>?_) (fun h24=>?_)
   refine aG ?_
   refine ev_fin ⟨trivial,aL,_,rfl,?_⟩
   refine aG ?_
   refine ev_if_nd (fun h25=>?_) (fun h25=>?_)
   refine aG ?_
   refine ev_fin ⟨trivial,_,rfl,(()),?_,(by trivial),Frm.nil _⟩
   rotate_left
   refine aG ?_
   refine ev_stop (go_atE (sz:=6) Tryz.tbs_ok (i) rfl rfl rfl rfl rfl rfl (by omega) ?_)
   refine aG ?_
   have l26:i<(L).length:=(by omega)
   refine ev_stop (go_loadE Tryz.tbs_ok (.inl 0) (i) 1 rfl rfl rfl rfl (fun _ h=>h) (by omega) (fun _=>rfl) (by omega) l26 (by decide) ?_)
   refine aG ?_
   refine aC T1 [] [] fun _ h27=>?_
   refine ev_if (fun h28=>?_) (fun h28=>?_)
   refine aG ?_
   refine ev_fin ⟨trivial,_,rfl,(()),?_,(by trivial),Frm.nil _⟩
   rotate_left
   refine aG ?_
   refine ev_stop (go_atE (sz:=6) Tryz.tbs_ok (i) rfl rfl rfl rfl rfl rfl (by omega) ?_)
   refine aG ?_
   have l29:i<(L).length:=(by omega)
   refine ev_stop (go_loadE Tryz.tbs_ok (.inl 0) (i) 2 rfl rfl rfl rfl (fun _ h=>h) (by omega) (fun _=>rfl) (by omega) l29 (by decide) ?_)
   refine aG ?_
   refine ev_if_ne (fun h30=>?_) (fun h30=>?_)
   refine aG ?_
   refine ev_fin ⟨trivial,_,rfl,(()),?_,(by trivial),Frm.nil _⟩
   rotate_left
   refine aG ?_
   refine wN (i+1) ?_
   refine ev_fin (round_next (i+1) (?_:i+1≤m∧logA (List.take (i+1) L) s=true) (show m-(i+1)<m-i from (by omega)) aS)
   rotate_left
   refine aG ?_
   refine ev_fin ⟨trivial,aL,_,rfl,?_⟩
   refine aG ?_
   refine ev_fin ⟨trivial,_,rfl,(()),?_,(by trivial),Frm.nil _⟩
   rotate_left
   all_goals first | (show Value.bool _=Value.bool R;rw [hR,hno (by grind)];simp;done) | exact ⟨by omega,by rw [ht,hE];grind⟩
 rw [List.take_of_length_le (by omega)] at hE
 refine aG ?_
 refine aI ?_ (decide_eq_false (show ¬(↑i:Int)<(↑m:Int) from (by omega)))
 refine ev_fin (go Tryz.tbs_ok 1000 ?_)
 refine ev_fin ⟨trivial,_,rfl,(()),?_,(by trivial),Frm.nil _⟩
 show Value.bool _=Value.bool R
 rw [hR,hE,decide_eq_true (by omega)]
 rfl
set_option maxHeartbeats 8000000 in
theorem rMayR (x:RecS) (h4:x.r.k≠4) (h5:x.r.k≠5) (hl:x.r.L.length≤1000000):Triple Tryz.prog 108 [.agg (encR x).toArray] [] [x.rdL] Unit (fun _=>.bool (mayR x.r)) (fun _=>True) (fun _=>[]):=by
 obtain ⟨⟨k,s,e,v,f,n,L,F⟩,A,a,B,b⟩:=x
 simp only at h4 h5 hl
 obtain ⟨m,hm⟩:∃ m,m=L.length:=⟨_,rfl⟩
 obtain ⟨m',hm'⟩:∃ m,m=F.length:=⟨_,rfl⟩
 have T1:=fun most=>rLogA A L m a s most hm (by rw [hm];exact hl)
 obtain ⟨w,hw⟩:∃ w,w=logA L s:=⟨_,rfl⟩
 obtain ⟨R,hR⟩:∃ R,R=mayR ⟨k,s,e,v,f,n,L,F⟩:=⟨_,rfl⟩
 rw [←hw] at T1
 rw [←hR]
 unfold mayR at hR
 simp only at hR
 rw [if_neg h4,if_neg h5,show logE L s f=(decide (0≤f)&&decide (f≤64)&&decide ((m:Int)≤64-f)&&w) by rw [hw,hm];rfl,←hm,←hm'] at hR
 unfold encR RecS.rdL
 simp only [←hm,←hm']
 refine aT Tryz.func108 [.ag [vI k,vI s,vI e,vI v,vI f,vI n,vL A m a,vL B m' b]] [] (fun E=>?_) ⟨⟨trivial,trivial,trivial,trivial,trivial,trivial,trivial,trivial,trivial⟩,trivial⟩
 refine aG ?_
 refine ev_new fun b10=>?_
 refine aJ ?_ (ne_yes (by with_reducible assumption))
 refine ev_inline Tryz.tbs_ok Tryz.func147 rfl rfl ?_
 refine aG ?_
 refine ev_if_lt (fun h11=>?_) (fun h11=>?_)
 refine aG ?_
 refine ev_fin ⟨trivial,aL,_,rfl,?_⟩
 refine aG ?_
 refine ev_if_nd (fun h12=>?_) (fun h12=>?_)
 refine aG ?_
 refine ev_fin ⟨trivial,_,rfl,(()),?_,(by trivial),Frm.nil _⟩
 rotate_left
 refine aG ?_
 refine aJ ?_ (ne_yes (by with_reducible assumption))
 refine ev_if_lt (fun h13=>?_) (fun h13=>?_)
 refine aG ?_
 refine ev_fin ⟨trivial,_,rfl,(()),?_,(by trivial),Frm.nil _⟩
 rotate_left
 refine aG ?_
 refine ev_if_eq (fun h14=>?_) (fun h14=>?_)
 refine aG ?_
 refine ev_inline Tryz.tbs_ok Tryz.func148 rfl rfl ?_
 refine aG ?_
 refine ev_if_lt (fun h15=>?_) (fun h15=>?_)
 refine aG ?_
 refine ev_fin ⟨trivial,aL,_,rfl,?_⟩
 refine aG ?_
 refine ev_if_lt (fun h16=>?_) (fun h16=>?_)
 refine aG ?_
 refine ev_if_eq (fun h17=>?_) (fun h17=>?_)
 refine aG ?_
 refine ev_if_eq (fun h18=>?_) (fun h18=>?_)
 refine aG ?_
 refine ev_if_eq (fun h19=>?_) (fun h19=>?_)
 refine aG ?_
 refine ev_fin ⟨trivial,_,rfl,(()),?_,(by trivial),Frm.nil _⟩
 rotate_left
 refine aG ?_
 refine ev_fin ⟨trivial,_,rfl,(()),?_,(by trivial),Frm.nil _⟩
 rotate_left
 refine aG ?_
 refine ev_fin ⟨trivial,_,rfl,(()),?_,(by trivial),Frm.nil _⟩
 rotate_left
 refine aG ?_
 refine ev_fin ⟨trivial,_,rfl,(()),?_,(by trivial),Frm.nil _⟩
 rotate_left
 refine aG ?_
 refine ev_fin ⟨trivial,_,rfl,(()),?_,(by trivial),Frm.nil _⟩
 rotate_left
 refine aG ?_
 refine ev_fin ⟨trivial,aL,_,rfl,?_⟩
 refine aG ?_
 refine ev_fin ⟨trivial,_,rfl,(()),?_,(by trivial),Frm.nil _⟩
 rotate_left
 refine aG ?_
 refine ev_if_eq (fun h20=>?_) (fun h20=>?_)
 refine aG ?_
 refine ev_inline Tryz.tbs_ok Tryz.func148 rfl rfl ?_
 refine aG ?_
 refine ev_if_lt (fun h21=>?_) (fun h21=>?_)
 refine aG ?_
 refine ev_fin ⟨trivial,aL,_,rfl,?_⟩
 refine aG ?_
 refine ev_if_lt (fun h22=>?_) (fun h22=>?_)
 refine aG ?_
 refine ev_if_eq (fun h23=>?_) (fun h23=>?_)
 refine aG ?_
 refine ev_if_lt (fun h24=>?_) (fun h24=>?_)
 refine aG ?_
 refine ev_if_lt (fun h25=>?_) (fun h25=>?_)
 refine aG ?_
 refine ev_if_eq (fun h26=>?_) (fun h26=>?_)
 refine aG ?_
 refine w6 ?_
 refine aC (T1 (64-f)) [] [.inl 0] fun _ h27=>?_
 refine ev_fin ⟨trivial,_,rfl,(()),?_,(by trivial),Frm.nil _⟩
 rotate_left
 refine aG ?_
 refine ev_fin ⟨trivial,_,rfl,(()),?_,(by trivial),Frm.nil _⟩
 rotate_left
 refine aG ?_
 refine ev_fin ⟨trivial,_,rfl,(()),?_,(by trivial),Frm.nil _⟩
 rotate_left
 refine aG ?_
 refine ev_fin ⟨trivial,_,rfl,(()),?_,(by trivial),Frm.nil _⟩
 rotate_left
 refine aG ?_
 refine ev_fin ⟨trivial,_,rfl,(()),?_,(by trivial),Frm.nil _⟩
 rotate_left
 refine aG ?_
 refine ev_fin ⟨trivial,_,rfl,(()),?_,(by trivial),Frm.nil _⟩
 rotate_left
 refine aG ?_
 refine ev_fin ⟨trivial,aL,_,rfl,?_⟩
 refine aG ?_
 refine ev_fin ⟨trivial,_,rfl,(()),?_,(by trivial),Frm.nil _⟩
 rotate_left
 refine aG ?_
 refine ev_if_eq (fun h28=>?_) (fun h28=>?_)
 refine aG ?_
 refine ev_if_eq (fun h29=>?_) (fun h29=>?_)
 refine aG ?_
 refine ev_if_eq (fun h30=>?_) (fun h30=>?_)
 refine aG ?_
 refine ev_if_eq (fun h31=>?_) (fun h31=>?_)
 refine aG ?_
 refine ev_if_lt (fun h32=>?_) (fun h32=>?_)
 refine aG ?_
 refine ev_if_lt (fun h33=>?_) (fun h33=>?_)
 refine aG ?_
 refine ev_fin ⟨trivial,_,rfl,(()),?_,(by trivial),Frm.nil _⟩
 rotate_left
 refine aG ?_
 refine ev_fin ⟨trivial,_,rfl,(()),?_,(by trivial),Frm.nil _⟩
 rotate_left
 refine aG ?_
 refine ev_fin ⟨trivial,_,rfl,(()),?_,(by trivial),Frm.nil _⟩
 rotate_left
 refine aG ?_
 refine ev_fin ⟨trivial,_,rfl,(()),?_,(by trivial),Frm.nil _⟩
 rotate_left
 refine aG ?_
 refine ev_fin ⟨trivial,_,rfl,(()),?_,(by trivial),Frm.nil _⟩
 rotate_left
 refine aG ?_
 refine ev_fin ⟨trivial,_,rfl,(()),?_,(by trivial),Frm.nil _⟩
 rotate_left
 refine aG ?_
 refine aI ?_ (beq_eq_false_iff_ne.2 (by with_reducible assumption))
 refine aI ?_ (beq_eq_false_iff_ne.2 (by with_reducible assumption))
 refine ev_fin ⟨trivial,_,rfl,(()),?_,(by trivial),Frm.nil _⟩
 rotate_left
 refine aG ?_
 refine ev_fin ⟨trivial,aL,_,rfl,?_⟩
 refine aG ?_
 refine ev_fin ⟨trivial,_,rfl,(()),?_,(by trivial),Frm.nil _⟩
 rotate_left
 all_goals (show Value.bool _=Value.bool R;congr 1;rw [hR];first | grind | (simp [*];first | done | omega))
theorem rCheckR (x:RecS) (h4:x.r.k≠4) (h5:x.r.k≠5) (hl:x.r.L.length≤1000000):Triple Tryz.prog 67 [.agg (encR x).toArray] [] [x.rdL] Unit (fun _=>.int .i64 (if mayR x.r=true then 0 else 2)) (fun _=>True) (fun _=>[]):=by
 have T1:=rMayR x h4 h5 hl
 obtain ⟨R,hR⟩:∃ R,R=mayR x.r:=⟨_,rfl⟩
 rw [←hR] at T1 ⊢
 clear hR
 obtain ⟨⟨k,s,e,v,f,n,L,F⟩,A,a,B,b⟩:=x
 unfold encR RecS.rdL at *
 simp only at T1 ⊢
 refine aT Tryz.func67 [.ag [vI k,vI s,vI e,vI v,vI f,vI n,vL A L.length a,vL B F.length b]] [] (fun E=>?_) ⟨⟨trivial,trivial,trivial,trivial,trivial,trivial,trivial,trivial,trivial⟩,trivial⟩
 cases R with
 | true =>
  refine go Tryz.tbs_ok 1000 ?_
  refine ev_new fun b10=>?_
  refine aC T1 [] [.inl 0] fun _ h11=>?_
  refine aI ?_
  refine ev_fin ⟨trivial,_,rfl,(()),rfl,(by trivial),Frm.nil _⟩
 | false =>
  refine go Tryz.tbs_ok 1000 ?_
  refine ev_new fun b20=>?_
  refine aC T1 [] [.inl 0] fun _ h21=>?_
  refine aJ ?_
  refine ev_fin ⟨trivial,_,rfl,(()),rfl,(by trivial),Frm.nil _⟩
def GoodE (L:List Ent) (v:Int) (j:Nat):Prop:=∀ h:j<L.length,(1≤L[j].e∧L[j].e≤v∧okO L[j]=true)∧∀ _h0:0<j,(L[j-1]'(by omega)).e≤L[j].e
theorem whole_good {L:List Ent} {v:Int} (hl:L.length≤64):wholeE L v=true↔∀ j,j<L.length→GoodE L v j:=by
 unfold wholeE GoodE
 simp only [Bool.and_eq_true,List.all_eq_true,decide_eq_true_eq,and_assoc]
 rw [riseE_iff]
 constructor
 · rintro ⟨h1,_,h3⟩ j _ hj
   obtain ⟨a,b,c⟩:=h1 _ (List.getElem_mem hj)
   refine ⟨a,b,c,fun h0=>?_⟩
   have:=h3 (j-1) (by omega)
   simp only [show j-1+1=j by omega] at this
   exact this
 intro h
 refine ⟨fun x hx=>?_,hl,fun i hi=>?_⟩
 · obtain ⟨j,hj,rfl⟩:=List.getElem_of_mem hx
   obtain ⟨a,b,c,_⟩:=h j hj hj
   exact ⟨a,b,c⟩
 obtain ⟨_,_,_,q⟩:=h (i+1) hi hi
 have:=q (by omega)
 simpa using this
set_option maxHeartbeats 4000000 in
theorem rWholeE (C:Option Addr) (L:List Ent) (m d:Nat) (v:Int) (hm:m=L.length) (h1:m≤1000000) :
 Triple Tryz.prog 110 [.slice C m d,.int .i64 v] [] [Rd 6 C m (L.flatMap encE)] Unit (fun _=>.bool (wholeE L v)) (fun _=>True) (fun _=>[]):=by
 obtain ⟨R,hR⟩:∃ R,R=wholeE L v:=⟨_,rfl⟩
 rw [←hR]
 refine aT Tryz.func110 [vL C m d,vI v] [] (fun E=>?_) ⟨trivial,trivial,trivial⟩
 by_cases h64:m≤64
 · have hg:=whole_good (v:=v) (show L.length≤64 by omega)
   refine aG ?_
   refine aI ?_ (decide_eq_false (show ¬(↑m:Int) > 64 from (by omega)))
   refine ev_stop (go_loopR [4,5,9,10,11,12,13,14,15,16,17,18,19,20,21,22,23,24,25,26,27,28,29,30,31,32,33,34,35,36,37,38,39,40,41,42,43,44,45,46,47,48,49,50,51,52,53,54,55,56] (fun i=>[(5,vI (i:Nat))]) (fun _=>[]) (fun i=>i≤m∧∀ j,j<i→GoodE L v j) (fun i=>m-i) (0:Nat) ⟨Nat.zero_le _,fun _ h=>absurd h (Nat.not_lt_zero _)⟩ aS (fun i h_=>?_))
   obtain ⟨hi,hE⟩:=h_
   rcases Nat.lt_or_ge i m with him | him
   · have hil:i<L.length:=by omega
     have hno:¬ GoodE L v i→R=false:=fun q=>by
      rw [hR,Bool.eq_false_iff]
      exact fun e=>q (hg.1 e i hil)
     have hyes:GoodE L v i→i+1≤m∧∀ j,j<i+1→GoodE L v j:=fun q=>⟨by omega,fun j hj=>by
      rcases (show j<i∨j=i by omega) with h | rfl
      · exact hE j h
      exact q⟩
     have T1:=rCheckO L[i]
     rcases Nat.eq_zero_or_pos i with h0 | h0
     · subst h0
       have hgi:GoodE L v 0↔(1≤L[0].e∧L[0].e≤v∧okO L[0]=true):=⟨fun q=>(q hil).1,fun q _=>⟨q,fun h=>absurd h (Nat.lt_irrefl 0)⟩⟩
       rw [hgi] at hno hyes
       obtain ⟨w,hw⟩:∃ w,w=okO L[0]:=⟨_,rfl⟩
       rw [←hw] at T1 hno hyes
       cases w with
       |
        true =>
        refine aG ?_
        refine aJ ?_ (decide_eq_true (show (↑0:Int)<(↑m:Int) from (by omega)))
        refine ev_stop (go_draw Tryz.tbs_ok true [] [(0,true),(1,true),(2,true),(3,true),(4,true),(5,true),(6,true),(7,true),(8,true),(9,true),(10,true),(11,true),(12,true),(13,true),(14,true),(15,true),(16,true),(17,true),(18,true),(19,true),(20,true),(21,true),(22,true),(23,true),(24,true),(25,true),(26,true),(27,true),(28,true),(29,true),(30,true),(31,true),(32,true),(33,true),(34,true),(35,true),(36,true),(37,true),(38,true),(39,false),(40,false),(41,false)] rfl ?_)
        refine aG (aE ?_)
        refine ev_stop (tk_indexE (sz:=6) Tryz.tbs_ok (.inl 0) (0) aB rfl rfl rfl rfl rfl rfl rfl (by omega) rfl (fun _ h=>h) (fun g20 o22 e21=>?_))
        subst e21
        refine aG (aE ?_)
        have l23:0<(L).length:=(by omega)
        refine ev_stop (tk_loadE Tryz.tbs_ok (.inl 0) (0) 0 aB rfl rfl rfl rfl rfl (fun _ h=>h) (by omega) (fun _=>rfl) (by omega) l23 (by decide) ?_)
        refine aG (aE ?_)
        refine ev_if_lt (fun h24=>?_) (fun h24=>?_)
        refine aG (aE (aE (aE (aE ?_))))
        refine ev_fin ⟨trivial,_,rfl,(()),?_,(by trivial),Frm.nil _⟩
        rotate_left
        refine aG (aE ?_)
        refine ev_stop (tk_atE (sz:=6) Tryz.tbs_ok (0) aB rfl rfl rfl rfl rfl rfl rfl (by omega) ?_)
        refine aG (aE ?_)
        have l25:0<(L).length:=(by omega)
        refine ev_stop (tk_loadE Tryz.tbs_ok (.inl 0) (0) 0 aB rfl rfl rfl rfl rfl (fun _ h=>h) (by omega) (fun _=>rfl) (by omega) l25 (by decide) ?_)
        refine aG (aE ?_)
        refine ev_if_lt (fun h26=>?_) (fun h26=>?_)
        refine aG (aE (aE (aE (aE ?_))))
        refine ev_fin ⟨trivial,_,rfl,(()),?_,(by trivial),Frm.nil _⟩
        rotate_left
        refine aG (aE (aI (aE ?_)))
        refine ev_stop (tk_atE (sz:=6) Tryz.tbs_ok (0) aB rfl rfl rfl rfl rfl rfl rfl (by omega) ?_)
        refine aG (aE ?_)
        have l27:0<(L).length:=(by omega)
        refine ev_stop (tk_loadE Tryz.tbs_ok (.inl 0) (0) 1 aB rfl rfl rfl rfl rfl (fun _ h=>h) (by omega) (fun _=>rfl) (by omega) l27 (by decide) ?_)
        refine aG (aE ?_)
        refine aC T1 [] [] fun _ h28=>?_
        refine aE (aE (aE (aI ?_)))
        refine wN (0+1) ?_
        refine ev_fin (round_next (0+1) (?_:0+1≤m∧∀ (j:Nat),j<0+1→GoodE L v j) (show m-(0+1)<m-0 from (by omega)) aS)
        rotate_left
        all_goals first | (show Value.bool _=Value.bool R;rw [hno (by grind)];done) | exact hyes (by grind)
       |
        false =>
        refine aG ?_
        refine aJ ?_ (decide_eq_true (show (↑0:Int)<(↑m:Int) from (by omega)))
        refine ev_stop (go_draw Tryz.tbs_ok true [] [(0,true),(1,true),(2,true),(3,true),(4,true),(5,true),(6,true),(7,true),(8,true),(9,true),(10,true),(11,true),(12,true),(13,true),(14,true),(15,true),(16,true),(17,true),(18,true),(19,true),(20,true),(21,true),(22,true),(23,true),(24,true),(25,true),(26,true),(27,true),(28,true),(29,true),(30,true),(31,true),(32,true),(33,true),(34,true),(35,true),(36,true),(37,true),(38,true),(39,false),(40,false),(41,false)] rfl ?_)
        refine aG (aE ?_)
        refine ev_stop (tk_indexE (sz:=6) Tryz.tbs_ok (.inl 0) (0) aB rfl rfl rfl rfl rfl rfl rfl (by omega) rfl (fun _ h=>h) (fun g40 o42 e41=>?_))
        subst e41
        refine aG (aE ?_)
        have l43:0<(L).length:=(by omega)
        refine ev_stop (tk_loadE Tryz.tbs_ok (.inl 0) (0) 0 aB rfl rfl rfl rfl rfl (fun _ h=>h) (by omega) (fun _=>rfl) (by omega) l43 (by decide) ?_)
        refine aG (aE ?_)
        refine ev_if_lt (fun h44=>?_) (fun h44=>?_)
        refine aG (aE (aE (aE (aE ?_))))
        refine ev_fin ⟨trivial,_,rfl,(()),?_,(by trivial),Frm.nil _⟩
        rotate_left
        refine aG (aE ?_)
        refine ev_stop (tk_atE (sz:=6) Tryz.tbs_ok (0) aB rfl rfl rfl rfl rfl rfl rfl (by omega) ?_)
        refine aG (aE ?_)
        have l45:0<(L).length:=(by omega)
        refine ev_stop (tk_loadE Tryz.tbs_ok (.inl 0) (0) 0 aB rfl rfl rfl rfl rfl (fun _ h=>h) (by omega) (fun _=>rfl) (by omega) l45 (by decide) ?_)
        refine aG (aE ?_)
        refine ev_if_lt (fun h46=>?_) (fun h46=>?_)
        refine aG (aE (aE (aE (aE ?_))))
        refine ev_fin ⟨trivial,_,rfl,(()),?_,(by trivial),Frm.nil _⟩
        rotate_left
        refine aG (aE (aI (aE ?_)))
        refine ev_stop (tk_atE (sz:=6) Tryz.tbs_ok (0) aB rfl rfl rfl rfl rfl rfl rfl (by omega) ?_)
        refine aG (aE ?_)
        have l47:0<(L).length:=(by omega)
        refine ev_stop (tk_loadE Tryz.tbs_ok (.inl 0) (0) 1 aB rfl rfl rfl rfl rfl (fun _ h=>h) (by omega) (fun _=>rfl) (by omega) l47 (by decide) ?_)
        refine aG (aE ?_)
        refine aC T1 [] [] fun _ h48=>?_
        refine aE (aE (aE (aJ ?_)))
        refine ev_fin ⟨trivial,_,rfl,(()),?_,(by trivial),Frm.nil _⟩
        rotate_left
        all_goals first | (show Value.bool _=Value.bool R;rw [hno (by grind)];done) | exact hyes (by grind)
     obtain ⟨j,rfl⟩:∃ j,i=j+1:=⟨i-1,by omega⟩
     have hj:j<L.length:=by omega
     have hgi:GoodE L v (j+1)↔(1≤L[j+1].e∧L[j+1].e≤v∧okO L[j+1]=true)∧L[j].e≤L[j+1].e:=⟨fun q=>⟨(q hil).1,(q hil).2 (by omega)⟩,fun q _=>⟨q.1,fun _=>q.2⟩⟩
     rw [hgi] at hno hyes
     obtain ⟨w,hw⟩:∃ w,w=okO L[j+1]:=⟨_,rfl⟩
     rw [←hw] at T1 hno hyes
     cases w with
     |
      true =>
      refine aG ?_
      refine aJ ?_ (decide_eq_true (show (↑(j+1):Int)<(↑m:Int) from (by omega)))
      refine ev_stop (go_draw Tryz.tbs_ok true [] [(0,true),(1,true),(2,true),(3,true),(4,true),(5,true),(6,true),(7,true),(8,true),(9,true),(10,true),(11,true),(12,true),(13,true),(14,true),(15,true),(16,true),(17,true),(18,true),(19,true),(20,true),(21,true),(22,true),(23,true),(24,true),(25,true),(26,true),(27,true),(28,true),(29,true),(30,true),(31,true),(32,true),(33,true),(34,true),(35,true),(36,true),(37,true),(38,true),(39,false),(40,false),(41,false)] rfl ?_)
      refine aG (aE ?_)
      refine ev_stop (tk_indexE (sz:=6) Tryz.tbs_ok (.inl 0) (j+1) aB rfl rfl rfl rfl rfl rfl rfl (by omega) rfl (fun _ h=>h) (fun g60 o62 e61=>?_))
      subst e61
      refine aG (aE ?_)
      have l63:j+1<(L).length:=(by omega)
      refine ev_stop (tk_loadE Tryz.tbs_ok (.inl 0) (j+1) 0 aB rfl rfl rfl rfl rfl (fun _ h=>h) (by omega) (fun _=>rfl) (by omega) l63 (by decide) ?_)
      refine aG (aE ?_)
      refine ev_if_lt (fun h64=>?_) (fun h64=>?_)
      refine aG (aE (aE (aE (aE ?_))))
      refine ev_fin ⟨trivial,_,rfl,(()),?_,(by trivial),Frm.nil _⟩
      rotate_left
      refine aG (aE ?_)
      refine ev_stop (tk_atE (sz:=6) Tryz.tbs_ok (j+1) aB rfl rfl rfl rfl rfl rfl rfl (by omega) ?_)
      refine aG (aE ?_)
      have l65:j+1<(L).length:=(by omega)
      refine ev_stop (tk_loadE Tryz.tbs_ok (.inl 0) (j+1) 0 aB rfl rfl rfl rfl rfl (fun _ h=>h) (by omega) (fun _=>rfl) (by omega) l65 (by decide) ?_)
      refine aG (aE ?_)
      refine ev_if_lt (fun h66=>?_) (fun h66=>?_)
      refine aG (aE (aE (aE (aE ?_))))
      refine ev_fin ⟨trivial,_,rfl,(()),?_,(by trivial),Frm.nil _⟩
      rotate_left
      refine aG (aE ?_)
      refine aJ ?_ (decide_eq_true (show (↑(j+1):Int) > 0 from (by omega)))
      refine aE ?_
      refine ev_stop (tk_atE (sz:=6) Tryz.tbs_ok (j+1) aB rfl rfl rfl rfl rfl rfl rfl (by omega) ?_)
      refine aG (aE ?_)
      have l67:j+1<(L).length:=(by omega)
      refine ev_stop (tk_loadE Tryz.tbs_ok (.inl 0) (j+1) 0 aB rfl rfl rfl rfl rfl (fun _ h=>h) (by omega) (fun _=>rfl) (by omega) l67 (by decide) ?_)
      refine aG (aE ?_)
      refine wO (j+1-1) ?_
      refine ev_stop (tk_atE (sz:=6) Tryz.tbs_ok (j+1-1) aB rfl rfl rfl rfl rfl rfl rfl (by omega) ?_)
      refine aG (aE ?_)
      have l68:j+1-1<(L).length:=(by omega)
      refine ev_stop (tk_loadE Tryz.tbs_ok (.inl 0) (j+1-1) 0 aB rfl rfl rfl rfl rfl (fun _ h=>h) (by omega) (fun _=>rfl) (by omega) l68 (by decide) ?_)
      refine aG (aE ?_)
      refine ev_if_lt (fun h69=>?_) (fun h69=>?_)
      refine aG (aE (aE (aE (aE ?_))))
      refine ev_fin ⟨trivial,_,rfl,(()),?_,(by trivial),Frm.nil _⟩
      rotate_left
      refine aG (aE ?_)
      refine ev_stop (tk_atE (sz:=6) Tryz.tbs_ok (j+1) aB rfl rfl rfl rfl rfl rfl rfl (by omega) ?_)
      refine aG (aE ?_)
      have l70:j+1<(L).length:=(by omega)
      refine ev_stop (tk_loadE Tryz.tbs_ok (.inl 0) (j+1) 1 aB rfl rfl rfl rfl rfl (fun _ h=>h) (by omega) (fun _=>rfl) (by omega) l70 (by decide) ?_)
      refine aG (aE ?_)
      refine aC T1 [] [] fun _ h71=>?_
      refine aE (aE (aE (aI ?_)))
      refine wN (j+1+1) ?_
      refine ev_fin (round_next (j+1+1) (?_:j+1+1≤m∧∀ (j_1:Nat),j_1<j+1+1→GoodE L v j_1) (show m-(j+1+1)<m-(j+1) from (by omega)) aS)
      rotate_left
      all_goals first | (show Value.bool _=Value.bool R;rw [hno (by grind)];done) | exact hyes (by grind)
     |
      false =>
      refine aG ?_
      refine aJ ?_ (decide_eq_true (show (↑(j+1):Int)<(↑m:Int) from (by omega)))
      refine ev_stop (go_draw Tryz.tbs_ok true [] [(0,true),(1,true),(2,true),(3,true),(4,true),(5,true),(6,true),(7,true),(8,true),(9,true),(10,true),(11,true),(12,true),(13,true),(14,true),(15,true),(16,true),(17,true),(18,true),(19,true),(20,true),(21,true),(22,true),(23,true),(24,true),(25,true),(26,true),(27,true),(28,true),(29,true),(30,true),(31,true),(32,true),(33,true),(34,true),(35,true),(36,true),(37,true),(38,true),(39,false),(40,false),(41,false)] rfl ?_)
      refine aG (aE ?_)
      refine ev_stop (tk_indexE (sz:=6) Tryz.tbs_ok (.inl 0) (j+1) aB rfl rfl rfl rfl rfl rfl rfl (by omega) rfl (fun _ h=>h) (fun g80 o82 e81=>?_))
      subst e81
      refine aG (aE ?_)
      have l83:j+1<(L).length:=(by omega)
      refine ev_stop (tk_loadE Tryz.tbs_ok (.inl 0) (j+1) 0 aB rfl rfl rfl rfl rfl (fun _ h=>h) (by omega) (fun _=>rfl) (by omega) l83 (by decide) ?_)
      refine aG (aE ?_)
      refine ev_if_lt (fun h84=>?_) (fun h84=>?_)
      refine aG (aE (aE (aE (aE ?_))))
      refine ev_fin ⟨trivial,_,rfl,(()),?_,(by trivial),Frm.nil _⟩
      rotate_left
      refine aG (aE ?_)
      refine ev_stop (tk_atE (sz:=6) Tryz.tbs_ok (j+1) aB rfl rfl rfl rfl rfl rfl rfl (by omega) ?_)
      refine aG (aE ?_)
      have l85:j+1<(L).length:=(by omega)
      refine ev_stop (tk_loadE Tryz.tbs_ok (.inl 0) (j+1) 0 aB rfl rfl rfl rfl rfl (fun _ h=>h) (by omega) (fun _=>rfl) (by omega) l85 (by decide) ?_)
      refine aG (aE ?_)
      refine ev_if_lt (fun h86=>?_) (fun h86=>?_)
      refine aG (aE (aE (aE (aE ?_))))
      refine ev_fin ⟨trivial,_,rfl,(()),?_,(by trivial),Frm.nil _⟩
      rotate_left
      refine aG (aE ?_)
      refine aJ ?_ (decide_eq_true (show (↑(j+1):Int) > 0 from (by omega)))
      refine aE ?_
      refine ev_stop (tk_atE (sz:=6) Tryz.tbs_ok (j+1) aB rfl rfl rfl rfl rfl rfl rfl (by omega) ?_)
      refine aG (aE ?_)
      have l87:j+1<(L).length:=(by omega)
      refine ev_stop (tk_loadE Tryz.tbs_ok (.inl 0) (j+1) 0 aB rfl rfl rfl rfl rfl (fun _ h=>h) (by omega) (fun _=>rfl) (by omega) l87 (by decide) ?_)
      refine aG (aE ?_)
      refine wO (j+1-1) ?_
      refine ev_stop (tk_atE (sz:=6) Tryz.tbs_ok (j+1-1) aB rfl rfl rfl rfl rfl rfl rfl (by omega) ?_)
      refine aG (aE ?_)
      have l88:j+1-1<(L).length:=(by omega)
      refine ev_stop (tk_loadE Tryz.tbs_ok (.inl 0) (j+1-1) 0 aB rfl rfl rfl rfl rfl (fun _ h=>h) (by omega) (fun _=>rfl) (by omega) l88 (by decide) ?_)
      refine aG (aE ?_)
      refine ev_if_lt (fun h89=>?_) (fun h89=>?_)
      refine aG (aE (aE (aE (aE ?_))))
      refine ev_fin ⟨trivial,_,rfl,(()),?_,(by trivial),Frm.nil _⟩
      rotate_left
      refine aG (aE ?_)
      refine ev_stop (tk_atE (sz:=6) Tryz.tbs_ok (j+1) aB rfl rfl rfl rfl rfl rfl rfl (by omega) ?_)
      refine aG (aE ?_)
      have l90:j+1<(L).length:=(by omega)
      refine ev_stop (tk_loadE Tryz.tbs_ok (.inl 0) (j+1) 1 aB rfl rfl rfl rfl rfl (fun _ h=>h) (by omega) (fun _=>rfl) (by omega) l90 (by decide) ?_)
      refine aG (aE ?_)
      refine aC T1 [] [] fun _ h91=>?_
      refine aE (aE (aE (aJ ?_)))
      refine ev_fin ⟨trivial,_,rfl,(()),?_,(by trivial),Frm.nil _⟩
      rotate_left
      all_goals first | (show Value.bool _=Value.bool R;rw [hno (by grind)];done) | exact hyes (by grind)
   rw [show R=true by rw [hR];exact hg.2 fun j hj=>hE j (by omega)]
   refine aG ?_
   refine aI ?_ (decide_eq_false (show ¬(↑i:Int)<(↑m:Int) from (by omega)))
   refine ev_fin (go Tryz.tbs_ok 1000 ?_)
   refine ev_fin ⟨trivial,_,rfl,(()),rfl,(by trivial),Frm.nil _⟩
 rw [show R=false by rw [hR,Bool.eq_false_iff];exact fun e=>by have:=wholeE_len e;omega]
 refine aG ?_
 refine aJ ?_ (decide_eq_true (show (↑m:Int) > 64 from (by omega)))
 refine ev_fin ⟨trivial,_,rfl,(()),rfl,(by trivial),Frm.nil _⟩
theorem rCheckG (x:RegS) (hl:x.r.L.length≤1000000):Triple Tryz.prog 109 [.agg (encG x).toArray] [] [x.rd] Unit (fun _=>.bool (okR x.r)) (fun _=>True) (fun _=>[]):=by
 obtain ⟨⟨p,v,L,c⟩,A,a⟩:=x
 obtain ⟨m,hm⟩:∃ m,m=L.length:=⟨_,rfl⟩
 have T1:=rWholeE A L m a v hm (by rw [hm];exact hl)
 obtain ⟨w,hw⟩:∃ w,w=wholeE L v:=⟨_,rfl⟩
 obtain ⟨R,hR⟩:∃ R,R=okR ⟨p,v,L,c⟩:=⟨_,rfl⟩
 rw [←hw] at T1
 rw [←hR]
 unfold okR at hR
 simp only [←hw,←hm] at hR
 unfold RegS.rd encG
 simp only [←hm]
 refine aT Tryz.func109 [.ag [vI p,vI v,vL A m a,vI c]] [] (fun E=>?_) ⟨⟨trivial,trivial,trivial,trivial,trivial⟩,trivial⟩
 refine aG ?_
 refine ev_new fun b10=>?_
 refine ev_if_lt (fun h11=>?_) (fun h11=>?_)
 refine aG ?_
 refine ev_if_lt (fun h12=>?_) (fun h12=>?_)
 refine aG ?_
 refine ev_if_lt (fun h13=>?_) (fun h13=>?_)
 refine aG ?_
 refine aC T1 [] [.inl 0] fun _ h14=>?_
 refine ev_if (fun h15=>?_) (fun h15=>?_)
 refine aG ?_
 refine ev_if_lt (fun h16=>?_) (fun h16=>?_)
 refine aG ?_
 refine ev_fin ⟨trivial,_,rfl,(()),?_,(by trivial),Frm.nil _⟩
 rotate_left
 refine aG ?_
 refine ev_fin ⟨trivial,_,rfl,(()),?_,(by trivial),Frm.nil _⟩
 rotate_left
 refine aG ?_
 refine ev_fin ⟨trivial,_,rfl,(()),?_,(by trivial),Frm.nil _⟩
 rotate_left
 refine aG ?_
 refine ev_fin ⟨trivial,_,rfl,(()),?_,(by trivial),Frm.nil _⟩
 rotate_left
 refine aG ?_
 refine ev_fin ⟨trivial,_,rfl,(()),?_,(by trivial),Frm.nil _⟩
 rotate_left
 refine aG ?_
 refine ev_fin ⟨trivial,_,rfl,(()),?_,(by trivial),Frm.nil _⟩
 rotate_left
 all_goals (show Value.bool _=Value.bool R;congr 1;rw [hR];first | grind | (simp [*];first | done | omega))
set_option maxHeartbeats 4000000 in
theorem rApply13 (x:RegS) (y:RecS) (ho:okR x.r=true) (hk:y.r.k=1∨y.r.k=3) (z:Reg) (h:applyR x.r y.r=some z) :
 Triple Tryz.prog 68 [.agg (encG x).toArray,.agg (encR y).toArray] [] [x.rd] Sl (fun (A',c')=>.tuple #[.agg (encG ⟨z,A',c'⟩).toArray,.bool true]) (fun (_,c')=>z.L.length≤c') (fun (A',c')=>[Row 101 6 A' z.L.length c' (z.L.flatMap encE)]):=by
 have hl:=wholeE_len (okR_of ho).2.2.2.1
 have T1:=rCheckG x (by omega)
 rw [ho] at T1
 unfold applyR at h
 rw [if_neg (by rw [ho];decide)] at h
 obtain ⟨⟨p,v,L,c⟩,A,a⟩:=x
 obtain ⟨⟨k,s,e,w,f,n,M,F⟩,C,b,B,d⟩:=y
 simp only at h hk hl
 obtain ⟨m,hm⟩:∃ m,m=L.length:=⟨_,rfl⟩
 obtain ⟨q,hq⟩:∃ q,q=M.length:=⟨_,rfl⟩
 obtain ⟨q',hq'⟩:∃ q',q'=F.length:=⟨_,rfl⟩
 unfold RegS.rd encG encR at *
 simp only [←hm,←hq,←hq'] at T1 h hl ⊢
 rcases hk with hk | hk
 · rw [if_pos hk,Option.ite_none_right_eq_some] at h
   obtain ⟨⟨h1,h2⟩,rfl⟩:=h.imp_right Option.some.inj
   simp only [←hm]
   refine aT Tryz.func68 [.ag [vI p,vI v,vL A m a,vI c],.ag [vI k,vI s,vI e,vI w,vI f,vI n,vL C q b,vL B q' d]] [] (fun E=>?_) ⟨⟨trivial,trivial,trivial,trivial,trivial⟩,⟨trivial,trivial,trivial,trivial,trivial,trivial,trivial,trivial,trivial⟩,trivial⟩
   refine aG ?_
   refine ev_new fun b10=>?_
   refine ev_new fun b11=>?_
   refine ev_new fun b12=>?_
   refine aC T1 [] [.inl 0] fun _ h13=>?_
   refine aI ?_
   refine ev_stop (go_draw Tryz.tbs_ok false [0] [(0,true),(1,true),(2,true),(3,true),(4,true),(5,true),(7,true),(8,true),(99,false),(0,true),(0,true),(0,true)] rfl ?_)
   refine aG (aE ?_)
   refine ev_stop (go_fork 6 10 [(9,true),(10,false),(11,false)] [(6,false),(9,false),(11,false)] _ _ ⟨aL,rfl⟩ (by kernel_rfl) rfl rfl rfl rfl ?_ ?_)
   refine aG ?_
   refine ev_stop (go_appendE (sz:=6) (M:=[]) (enc:=encE) Tryz.tbs_ok [] [] (.inl 0) ([]) (L) (L) (m) rfl rfl rfl rfl rfl rfl rfl (by decide) rfl (by decide) (fun _ _=>Row.nil _ _ _) rfl (fun _ h=>h) (by first | rfl | simp) (by first | rfl | omega) (aM (m)) (aN (m)) (fun _ _=>aL) (fun A14 c15 h16=>?_))
   refine aG (aE ?_)
   refine ev_new fun b17=>?_
   refine aE (aK ?_)
   refine aJ ?_ (beq_iff_eq.2 (by with_reducible assumption))
   refine aI ?_ (decide_eq_false (show ¬e≤p from (by omega)))
   refine aI ?_ (decide_eq_false (show ¬e > 1048576 from (by omega)))
   exact ev_fin ⟨trivial,_,rfl,((A14,c15)),rfl,by trivial,aF [3]⟩
   refine aG ?_
   refine ev_new fun b18=>?_
   refine aE ?_
   refine ev_stop (go_appendE (sz:=6) (M:=[]) (enc:=encE) Tryz.tbs_ok [] [] (.inl 0) ([]) (L) (L) (m) rfl rfl rfl rfl rfl rfl rfl (by decide) rfl (by decide) (fun _ _=>Row.nil _ _ _) rfl (fun _ h=>h) (by first | rfl | simp) (by first | rfl | omega) (aM (m)) (aN (m)) (fun _ _=>aL) (fun A19 c20 h21=>?_))
   refine aG (aE (aE (aK ?_)))
   refine aJ ?_ (beq_iff_eq.2 (by with_reducible assumption))
   refine aI ?_ (decide_eq_false (show ¬e≤p from (by omega)))
   refine aI ?_ (decide_eq_false (show ¬e > 1048576 from (by omega)))
   exact ev_fin ⟨trivial,_,rfl,((A19,c20)),rfl,by trivial,aF [4]⟩
   all_goals skip
 rw [if_neg (by omega),if_neg (by omega),if_pos hk,Option.ite_none_right_eq_some] at h
 obtain ⟨⟨h1,h2⟩,rfl⟩:=h.imp_right Option.some.inj
 simp only [←hm]
 refine aT Tryz.func68 [.ag [vI p,vI v,vL A m a,vI c],.ag [vI k,vI s,vI e,vI w,vI f,vI n,vL C q b,vL B q' d]] [] (fun E=>?_) ⟨⟨trivial,trivial,trivial,trivial,trivial⟩,⟨trivial,trivial,trivial,trivial,trivial,trivial,trivial,trivial,trivial⟩,trivial⟩
 refine aG ?_
 refine ev_new fun b10=>?_
 refine ev_new fun b11=>?_
 refine ev_new fun b12=>?_
 refine aC T1 [] [.inl 0] fun _ h13=>?_
 refine aI ?_
 refine ev_stop (go_draw Tryz.tbs_ok false [0] [(0,true),(1,true),(2,true),(3,true),(4,true),(5,true),(7,true),(8,true),(99,false),(0,true),(0,true),(0,true)] rfl ?_)
 refine aG (aE ?_)
 refine ev_stop (go_fork 6 10 [(9,true),(10,false),(11,false)] [(6,false),(9,false),(11,false)] _ _ ⟨aL,rfl⟩ (by kernel_rfl) rfl rfl rfl rfl ?_ ?_)
 refine aG ?_
 refine ev_stop (go_appendE (sz:=6) (M:=[]) (enc:=encE) Tryz.tbs_ok [] [] (.inl 0) ([]) (L) (L) (m) rfl rfl rfl rfl rfl rfl rfl (by decide) rfl (by decide) (fun _ _=>Row.nil _ _ _) rfl (fun _ h=>h) (by first | rfl | simp) (by first | rfl | omega) (aM (m)) (aN (m)) (fun _ _=>aL) (fun A14 c15 h16=>?_))
 refine aG (aE ?_)
 refine ev_new fun b17=>?_
 refine aE (aK ?_)
 refine aI ?_ (beq_eq_false_iff_ne.2 (show ¬k=1 from (by omega)))
 refine aI ?_ (beq_eq_false_iff_ne.2 (show ¬k=2 from (by omega)))
 refine aJ ?_ (beq_iff_eq.2 (by with_reducible assumption))
 refine aI ?_ (decide_eq_false (show ¬n≤c from (by omega)))
 refine aI ?_ (decide_eq_false (show ¬n > (↑m:Int) from (by omega)))
 exact ev_fin ⟨trivial,_,rfl,((A14,c15)),rfl,by trivial,aF [3]⟩
 refine aG ?_
 refine ev_new fun b18=>?_
 refine aE ?_
 refine ev_stop (go_appendE (sz:=6) (M:=[]) (enc:=encE) Tryz.tbs_ok [] [] (.inl 0) ([]) (L) (L) (m) rfl rfl rfl rfl rfl rfl rfl (by decide) rfl (by decide) (fun _ _=>Row.nil _ _ _) rfl (fun _ h=>h) (by first | rfl | simp) (by first | rfl | omega) (aM (m)) (aN (m)) (fun _ _=>aL) (fun A19 c20 h21=>?_))
 refine aG (aE (aE (aK ?_)))
 refine aI ?_ (beq_eq_false_iff_ne.2 (show ¬k=1 from (by omega)))
 refine aI ?_ (beq_eq_false_iff_ne.2 (show ¬k=2 from (by omega)))
 refine aJ ?_ (beq_iff_eq.2 (by with_reducible assumption))
 refine aI ?_ (decide_eq_false (show ¬n≤c from (by omega)))
 refine aI ?_ (decide_eq_false (show ¬n > (↑m:Int) from (by omega)))
 exact ev_fin ⟨trivial,_,rfl,((A19,c20)),rfl,by trivial,aF [4]⟩
 all_goals skip
set_option maxHeartbeats 4000000 in
theorem rNo13 (x:RegS) (y:RecS) (ho:okR x.r=true) (hk:y.r.k=1∨y.r.k=3) (h:applyR x.r y.r=none) :
 Triple Tryz.prog 68 [.agg (encG x).toArray,.agg (encR y).toArray] [] [x.rd] Unit (fun _=>.tuple #[.agg (encG ⟨noReg,none,0⟩).toArray,.bool false]) (fun _=>True) (fun _=>[]):=by
 have hl:=wholeE_len (okR_of ho).2.2.2.1
 have T1:=rCheckG x (by omega)
 rw [ho] at T1
 unfold applyR at h
 rw [if_neg (by rw [ho];decide)] at h
 obtain ⟨⟨p,v,L,c⟩,A,a⟩:=x
 obtain ⟨⟨k,s,e,w,f,n,M,F⟩,C,b,B,d⟩:=y
 simp only at h hk hl
 obtain ⟨m,hm⟩:∃ m,m=L.length:=⟨_,rfl⟩
 obtain ⟨q,hq⟩:∃ q,q=M.length:=⟨_,rfl⟩
 obtain ⟨q',hq'⟩:∃ q',q'=F.length:=⟨_,rfl⟩
 unfold RegS.rd encG encR at *
 simp only [←hm,←hq,←hq'] at T1 h hl ⊢
 rcases hk with hk | hk
 · rw [if_pos hk] at h
   have h1:¬ (p<e∧e≤1048576):=fun e=>by rw [if_pos e] at h;cases h
   refine aT Tryz.func68 [.ag [vI p,vI v,vL A m a,vI c],.ag [vI k,vI s,vI e,vI w,vI f,vI n,vL C q b,vL B q' d]] [] (fun E=>?_) ⟨⟨trivial,trivial,trivial,trivial,trivial⟩,⟨trivial,trivial,trivial,trivial,trivial,trivial,trivial,trivial,trivial⟩,trivial⟩
   refine aG ?_
   refine ev_new fun b10=>?_
   refine ev_new fun b11=>?_
   refine ev_new fun b12=>?_
   refine aC T1 [] [.inl 0] fun _ h13=>?_
   refine aI ?_
   refine ev_stop (go_draw Tryz.tbs_ok false [0] [(0,true),(1,true),(2,true),(3,true),(4,true),(5,true),(7,true),(8,true),(99,false),(0,true),(0,true),(0,true)] rfl ?_)
   refine aG (aE ?_)
   refine ev_stop (go_fork 6 10 [(9,true),(10,false),(11,false)] [(6,false),(9,false),(11,false)] _ _ ⟨aL,rfl⟩ (by kernel_rfl) rfl rfl rfl rfl ?_ ?_)
   refine aG ?_
   refine ev_stop (go_appendE (sz:=6) (M:=[]) (enc:=encE) Tryz.tbs_ok [] [] (.inl 0) ([]) (L) (L) (m) rfl rfl rfl rfl rfl rfl rfl (by decide) rfl (by decide) (fun _ _=>Row.nil _ _ _) rfl (fun _ h=>h) (by first | rfl | simp) (by first | rfl | omega) (aM (m)) (aN (m)) (fun _ _=>aL) (fun A14 c15 h16=>?_))
   refine aG (aE ?_)
   refine ev_new fun b17=>?_
   refine aE (aK ?_)
   refine aJ ?_ (beq_iff_eq.2 (by with_reducible assumption))
   refine ev_if_lt (fun h18=>?_) (fun h18=>?_)
   refine aG ?_
   refine ev_fin ⟨trivial,_,rfl,(()),rfl,(by trivial),Frm.nil _⟩
   refine aG ?_
   refine aJ ?_ (decide_eq_true (show e > 1048576 from (by omega)))
   refine ev_fin ⟨trivial,_,rfl,(()),rfl,(by trivial),Frm.nil _⟩
   refine aG ?_
   refine ev_new fun b19=>?_
   refine aE ?_
   refine ev_stop (go_appendE (sz:=6) (M:=[]) (enc:=encE) Tryz.tbs_ok [] [] (.inl 0) ([]) (L) (L) (m) rfl rfl rfl rfl rfl rfl rfl (by decide) rfl (by decide) (fun _ _=>Row.nil _ _ _) rfl (fun _ h=>h) (by first | rfl | simp) (by first | rfl | omega) (aM (m)) (aN (m)) (fun _ _=>aL) (fun A20 c21 h22=>?_))
   refine aG (aE (aE (aK ?_)))
   refine aJ ?_ (beq_iff_eq.2 (by with_reducible assumption))
   refine ev_if_lt (fun h23=>?_) (fun h23=>?_)
   refine aG ?_
   refine ev_fin ⟨trivial,_,rfl,(()),rfl,(by trivial),Frm.nil _⟩
   refine aG ?_
   refine aJ ?_ (decide_eq_true (show e > 1048576 from (by omega)))
   refine ev_fin ⟨trivial,_,rfl,(()),rfl,(by trivial),Frm.nil _⟩
   all_goals (exfalso;omega)
 rw [if_neg (by omega),if_neg (by omega),if_pos hk] at h
 have h1:¬ (c<n∧n≤(m:Int)):=fun e=>by rw [if_pos e] at h;cases h
 refine aT Tryz.func68 [.ag [vI p,vI v,vL A m a,vI c],.ag [vI k,vI s,vI e,vI w,vI f,vI n,vL C q b,vL B q' d]] [] (fun E=>?_) ⟨⟨trivial,trivial,trivial,trivial,trivial⟩,⟨trivial,trivial,trivial,trivial,trivial,trivial,trivial,trivial,trivial⟩,trivial⟩
 refine aG ?_
 refine ev_new fun b10=>?_
 refine ev_new fun b11=>?_
 refine ev_new fun b12=>?_
 refine aC T1 [] [.inl 0] fun _ h13=>?_
 refine aI ?_
 refine ev_stop (go_draw Tryz.tbs_ok false [0] [(0,true),(1,true),(2,true),(3,true),(4,true),(5,true),(7,true),(8,true),(99,false),(0,true),(0,true),(0,true)] rfl ?_)
 refine aG (aE ?_)
 refine ev_stop (go_fork 6 10 [(9,true),(10,false),(11,false)] [(6,false),(9,false),(11,false)] _ _ ⟨aL,rfl⟩ (by kernel_rfl) rfl rfl rfl rfl ?_ ?_)
 refine aG ?_
 refine ev_stop (go_appendE (sz:=6) (M:=[]) (enc:=encE) Tryz.tbs_ok [] [] (.inl 0) ([]) (L) (L) (m) rfl rfl rfl rfl rfl rfl rfl (by decide) rfl (by decide) (fun _ _=>Row.nil _ _ _) rfl (fun _ h=>h) (by first | rfl | simp) (by first | rfl | omega) (aM (m)) (aN (m)) (fun _ _=>aL) (fun A14 c15 h16=>?_))
 refine aG (aE ?_)
 refine ev_new fun b17=>?_
 refine aE (aK ?_)
 refine aI ?_ (beq_eq_false_iff_ne.2 (show ¬k=1 from (by omega)))
 refine aI ?_ (beq_eq_false_iff_ne.2 (show ¬k=2 from (by omega)))
 refine aJ ?_ (beq_iff_eq.2 (by with_reducible assumption))
 refine ev_if_lt (fun h18=>?_) (fun h18=>?_)
 refine aG ?_
 refine ev_fin ⟨trivial,_,rfl,(()),rfl,(by trivial),Frm.nil _⟩
 refine aG ?_
 refine aJ ?_ (decide_eq_true (show n > (↑m:Int) from (by omega)))
 refine ev_fin ⟨trivial,_,rfl,(()),rfl,(by trivial),Frm.nil _⟩
 refine aG ?_
 refine ev_new fun b19=>?_
 refine aE ?_
 refine ev_stop (go_appendE (sz:=6) (M:=[]) (enc:=encE) Tryz.tbs_ok [] [] (.inl 0) ([]) (L) (L) (m) rfl rfl rfl rfl rfl rfl rfl (by decide) rfl (by decide) (fun _ _=>Row.nil _ _ _) rfl (fun _ h=>h) (by first | rfl | simp) (by first | rfl | omega) (aM (m)) (aN (m)) (fun _ _=>aL) (fun A20 c21 h22=>?_))
 refine aG (aE (aE (aK ?_)))
 refine aI ?_ (beq_eq_false_iff_ne.2 (show ¬k=1 from (by omega)))
 refine aI ?_ (beq_eq_false_iff_ne.2 (show ¬k=2 from (by omega)))
 refine aJ ?_ (beq_iff_eq.2 (by with_reducible assumption))
 refine ev_if_lt (fun h23=>?_) (fun h23=>?_)
 refine aG ?_
 refine ev_fin ⟨trivial,_,rfl,(()),rfl,(by trivial),Frm.nil _⟩
 refine aG ?_
 refine aJ ?_ (decide_eq_true (show n > (↑m:Int) from (by omega)))
 refine ev_fin ⟨trivial,_,rfl,(()),rfl,(by trivial),Frm.nil _⟩
 all_goals (exfalso;omega)
theorem same_take {L V:List Ent} {c i:Nat} (h:L.take c=V.take c) (hi:i<c) (h1:i<L.length) (h2:i<V.length):V[i]=L[i]:=by
 have:=congrArg (fun l=>l[i]?) h
 simp only [List.getElem?_take,if_pos hi] at this
 rw [List.getElem?_eq_getElem h1,List.getElem?_eq_getElem h2] at this
 exact (Option.some.inj this).symm
set_option maxHeartbeats 4000000 in
theorem rApply2 (x:RegS) (y:RecS) (ho:okR x.r=true) (hk:y.r.k=2) (hy:y.r.L.length≤2000) (ha:x.r.L.length≤x.a) (z:Reg) (h:applyR x.r y.r=some z) :
 Triple Tryz.prog 68 [.agg (encG x).toArray,.agg (encR y).toArray] [] [x.rd,y.rdL] Sl (fun (A',c')=>.tuple #[.agg (encG ⟨z,A',c'⟩).toArray,.bool true]) (fun (_,c')=>z.L.length≤c') (fun (A',c')=>[Row 101 6 A' z.L.length c' (z.L.flatMap encE)]):=by
 have hl:=wholeE_len (okR_of ho).2.2.2.1
 have T1:=rCheckG x (by omega)
 have hc:=(okR_of ho).2.2.2.2
 rw [ho] at T1
 unfold applyR at h
 rw [if_neg (by rw [ho];decide),if_neg (by omega),if_pos hk] at h
 obtain ⟨⟨p,v,L,c⟩,A,a⟩:=x
 obtain ⟨⟨k,s,e,w,f,n,M,F⟩,C,b,B,d⟩:=y
 simp only at h hk hl hy ha hc
 obtain ⟨cn,rfl⟩:∃ cn:Nat,c=(cn:Int):=⟨c.toNat,by omega⟩
 simp only [Int.toNat_natCast] at h
 obtain ⟨V,hV⟩:∃ V,V=viewL ⟨p,v,L,(cn:Int)⟩ ⟨k,s,e,w,f,n,M,F⟩:=⟨_,rfl⟩
 rw [←hV] at h
 obtain ⟨m,hm⟩:∃ m,m=L.length:=⟨_,rfl⟩
 obtain ⟨q,hq⟩:∃ q,q=M.length:=⟨_,rfl⟩
 obtain ⟨q',hq'⟩:∃ q',q'=F.length:=⟨_,rfl⟩
 obtain ⟨u,hu⟩:∃ u,u=V.length:=⟨_,rfl⟩
 unfold RegS.rd RecS.rdL encG encR at *
 simp only [←hm,←hq,←hq',←hu] at T1 h hl hy ha hc ⊢
 rw [Option.ite_none_right_eq_some] at h
 obtain ⟨⟨h1,h2,h3,h4,h5,h6,h7⟩,rfl⟩:=h.imp_right Option.some.inj
 simp only [←hu]
 have T2:=fun A c=>(rWholeE A V u c e hu (by have:=wholeE_len h5;omega)).reads (N':=[Row 101 6 A u c (V.flatMap encE)]) (fun X hX=>⟨_,List.mem_cons_self,fun _ q=>by rw [List.mem_singleton.1 hX];exact Row.rd q⟩)
 rw [h5] at T2
 by_cases hev:e=v
 · have hVe:V=L++M:=by rw [hV];unfold viewL;rw [if_pos hev]
   have hun:u=m+q:=by rw [hu,hVe,List.length_append,hm,hq]
   rw [if_pos hev] at h4
   subst hVe
   subst hun
   refine aT Tryz.func68 [.ag [vI p,vI v,vL A m a,vI (cn:Int)],.ag [vI k,vI s,vI e,vI w,vI f,vI n,vL C q b,vL B q' d]] [] (fun E=>?_) ⟨⟨trivial,trivial,trivial,trivial,trivial⟩,⟨trivial,trivial,trivial,trivial,trivial,trivial,trivial,trivial,trivial⟩,trivial⟩
   refine aG ?_
   refine ev_new fun b10=>?_
   refine ev_new fun b11=>?_
   refine ev_new fun b12=>?_
   refine aC T1 [] [.inl 0] fun _ h13=>?_
   refine aI ?_
   refine ev_stop (go_draw Tryz.tbs_ok false [0] [(0,true),(1,true),(2,true),(3,true),(4,true),(5,true),(7,true),(8,true),(99,false),(0,true),(0,true),(0,true)] rfl ?_)
   refine aG (aE ?_)
   refine ev_stop (go_fork 6 10 [(9,true),(10,false),(11,false)] [(6,false),(9,false),(11,false)] _ _ ⟨aL,rfl⟩ (by kernel_rfl) rfl rfl rfl rfl ?_ ?_)
   refine aG ?_
   refine ev_stop (go_appendE (sz:=6) (M:=[]) (enc:=encE) Tryz.tbs_ok [] [] (.inl 0) ([]) (L) (L) (m) rfl rfl rfl rfl rfl rfl rfl (by decide) rfl (by decide) (fun _ _=>Row.nil _ _ _) rfl (fun _ h=>h) (by first | rfl | simp) (by first | rfl | omega) (aM (m)) (aN (m)) (fun _ _=>aL) (fun A14 c15 h16=>?_))
   refine aG (aE ?_)
   refine ev_new fun b17=>?_
   refine aE (aK ?_)
   refine aI ?_ (beq_eq_false_iff_ne.2 (show ¬k=1 from (by omega)))
   refine aJ ?_ (beq_iff_eq.2 (by with_reducible assumption))
   refine aJ ?_ (beq_iff_eq.2 (by with_reducible assumption))
   refine aI ?_ (decide_eq_false (show ¬e<1 from (by omega)))
   refine aI ?_ (decide_eq_false (show ¬e<p from (by omega)))
   refine aI ?_ (decide_eq_false (show ¬e > 1048576 from (by omega)))
   refine aI ?_ (ne_no (by with_reducible assumption))
   refine ev_stop (go_draw Tryz.tbs_ok false [0,1] [(0,true),(1,true),(2,true),(3,true),(5,true),(6,true),(4,false),(7,false),(8,false)] rfl ?_)
   refine aG (aE ?_)
   refine ev_stop (tk_front Tryz.tbs_ok (m) (a) aB rfl rfl rfl rfl rfl rfl rfl ⟨_,rfl⟩ rfl (by decide) (by omega) (by omega) ?_)
   refine aG (aE ?_)
   refine ev_stop (go_appendE (sz:=6) (M:=[]) (enc:=encE) Tryz.tbs_ok [] [] (.inl 0) ([]) (L) (L) (m) rfl rfl rfl rfl rfl rfl rfl (by decide) rfl (by decide) (fun _ _=>Row.nil _ _ _) rfl (fun _ h=>h) (by first | rfl | simp) (by first | rfl | omega) (aM (m)) (aN (m)) (fun _ _=>aL) (fun A18 c19 h20=>?_))
   refine aG (aE ?_)
   refine ev_stop (go_appendE (sz:=6) (M:=[_]) (enc:=encE) Tryz.tbs_ok [5] [] (.inl 1) (L) (M) ((L)++(M)) (m+q) rfl rfl rfl rfl rfl rfl rfl (by decide) rfl (by decide) (fun _ p=>starH_one.1 p) rfl (fun _ h=>h) (by first | rfl | simp) (by first | rfl | omega) (aM (m+q)) (aN (m+q)) (fun _ _=>aL) (fun A21 c22 h23=>?_))
   refine aG (aE (aK ?_))
   rotate_left
   refine aG ?_
   refine ev_new fun b24=>?_
   refine aE ?_
   refine ev_stop (go_appendE (sz:=6) (M:=[]) (enc:=encE) Tryz.tbs_ok [] [] (.inl 0) ([]) (L) (L) (m) rfl rfl rfl rfl rfl rfl rfl (by decide) rfl (by decide) (fun _ _=>Row.nil _ _ _) rfl (fun _ h=>h) (by first | rfl | simp) (by first | rfl | omega) (aM (m)) (aN (m)) (fun _ _=>aL) (fun A25 c26 h27=>?_))
   refine aG (aE (aE (aK ?_)))
   refine aI ?_ (beq_eq_false_iff_ne.2 (show ¬k=1 from (by omega)))
   refine aJ ?_ (beq_iff_eq.2 (by with_reducible assumption))
   refine aJ ?_ (beq_iff_eq.2 (by with_reducible assumption))
   refine aI ?_ (decide_eq_false (show ¬e<1 from (by omega)))
   refine aI ?_ (decide_eq_false (show ¬e<p from (by omega)))
   refine aI ?_ (decide_eq_false (show ¬e > 1048576 from (by omega)))
   refine aI ?_ (ne_no (by with_reducible assumption))
   refine ev_stop (go_draw Tryz.tbs_ok false [0,1] [(0,true),(1,true),(2,true),(3,true),(5,true),(6,true),(4,false),(7,false),(8,false)] rfl ?_)
   refine aG (aE ?_)
   refine ev_stop (tk_front Tryz.tbs_ok (m) (a) aB rfl rfl rfl rfl rfl rfl rfl ⟨_,rfl⟩ rfl (by decide) (by omega) (by omega) ?_)
   refine aG (aE ?_)
   refine ev_stop (go_appendE (sz:=6) (M:=[]) (enc:=encE) Tryz.tbs_ok [] [] (.inl 0) ([]) (L) (L) (m) rfl rfl rfl rfl rfl rfl rfl (by decide) rfl (by decide) (fun _ _=>Row.nil _ _ _) rfl (fun _ h=>h) (by first | rfl | simp) (by first | rfl | omega) (aM (m)) (aN (m)) (fun _ _=>aL) (fun A28 c29 h30=>?_))
   refine aG (aE ?_)
   refine ev_stop (go_appendE (sz:=6) (M:=[_]) (enc:=encE) Tryz.tbs_ok [5] [] (.inl 1) (L) (M) ((L)++(M)) (m+q) rfl rfl rfl rfl rfl rfl rfl (by decide) rfl (by decide) (fun _ p=>starH_one.1 p) rfl (fun _ h=>h) (by first | rfl | simp) (by first | rfl | omega) (aM (m+q)) (aN (m+q)) (fun _ _=>aL) (fun A31 c32 h33=>?_))
   refine aG (aE (aK ?_))
   rotate_left
   · refine aC (T2 (A21) (c22)) [] [.inr 5] fun _ h50=>?_
     refine aI ?_
     refine aI ?_ (decide_eq_false (show ¬(↑(m+q):Int)<(↑cn:Int) from (by omega)))
     refine ev_stop (go_loopR [0,1,5,9,10,23,96,97,98,99,100,101,102,103,104,105,106,107,108,109,110,111,112] (fun i=>[(9,vI (i:Nat))]) (fun _=>[]) (fun i=>i≤cn) (fun i=>cn-i) (0:Nat) (Nat.zero_le _) aS (fun i hi=>?_))
     rcases Nat.lt_or_ge i cn with hic | hic
     · have hiL:i<L.length:=by omega
       have hiV:i<(L++M).length:=by omega
       have heq:(L++M)[i]=L[i]:=same_take h6 hic hiL hiV
       refine aG ?_
       refine aJ ?_ (decide_eq_true (show (↑i:Int)<(↑cn:Int) from (by omega)))
       refine ev_stop (go_draw Tryz.tbs_ok true [0,1,2,3,4,5] [(0,true),(1,true),(2,true),(3,true),(4,true),(5,true),(6,true),(7,true),(8,true),(9,true)] rfl ?_)
       refine aG (aE ?_)
       refine ev_stop (tk_index0 (sz:=6) Tryz.tbs_ok (.inr 5) (i) aB rfl rfl rfl rfl rfl rfl rfl (by omega) rfl Row.at0 (fun g60 e61=>?_))
       subst e61
       refine aG (aE ?_)
       have l62:i<(L++M).length:=(by omega)
       refine ev_stop (tk_loadE Tryz.tbs_ok (.inr 5) (i) 0 aB rfl rfl rfl rfl rfl (fun _ h=>Row.rd h) (by omega) (fun _=>rfl) (by omega) l62 (by decide) ?_)
       refine aG (aE ?_)
       refine ev_stop (tk_indexE (sz:=6) Tryz.tbs_ok (.inl 0) (i) aB rfl rfl rfl rfl rfl rfl rfl (by omega) rfl (fun _ h=>h) (fun g63 o65 e64=>?_))
       subst e64
       refine aG (aE ?_)
       have l66:i<(L).length:=(by omega)
       refine ev_stop (tk_loadE Tryz.tbs_ok (.inl 0) (i) 0 aB rfl rfl rfl rfl rfl (fun _ h=>h) (by omega) (fun _=>rfl) (by omega) l66 (by decide) ?_)
       refine aG (aE ?_)
       refine ev_stop (tk_val (o:=_) aB rfl rfl (.bq (!(decide ((L++M)[i]=L[i])))) trivial (fun a w hF _=>neq_run (ev_denv hF rfl rfl) (ev_denv hF rfl rfl) (by kernel_rfl) (eq_ent (L++M)[i] L[i] 9997 w)) ?_)
       refine aG (aE ?_)
       refine aI ?_ (dec_no (by with_reducible assumption))
       refine wN (i+1) ?_
       refine ev_fin (round_next (i+1) (show i+1≤cn from (by assumption)) (show cn-(i+1)<cn-i from (by omega)) aS)
       all_goals skip
     obtain rfl:i=cn:=by omega
     refine aG ?_
     refine aI ?_ (decide_eq_false (show ¬(↑i:Int)<(↑i:Int) from (by omega)))
     refine ev_fin (go Tryz.tbs_ok 1000 ?_)
     refine ev_stop (go_draw Tryz.tbs_ok false [1] [(0,true),(1,true),(2,true),(3,true),(4,true),(5,true),(6,false),(7,false),(8,false),(9,false),(10,false)] rfl ?_)
     refine aG (aE (aE (aE (aE (aE (aK ?_))))))
     exact ev_fin ⟨trivial,_,rfl,((A21,c22)),rfl,by trivial,aF [5]⟩
     all_goals skip
   refine aC (T2 (A31) (c32)) [] [.inr 5] fun _ h50=>?_
   refine aI ?_
   refine aI ?_ (decide_eq_false (show ¬(↑(m+q):Int)<(↑cn:Int) from (by omega)))
   refine ev_stop (go_loopR [0,1,5,9,10,23,96,97,98,99,100,101,102,103,104,105,106,107,108,109,110,111,112] (fun i=>[(9,vI (i:Nat))]) (fun _=>[]) (fun i=>i≤cn) (fun i=>cn-i) (0:Nat) (Nat.zero_le _) aS (fun i hi=>?_))
   rcases Nat.lt_or_ge i cn with hic | hic
   · have hiL:i<L.length:=by omega
     have hiV:i<(L++M).length:=by omega
     have heq:(L++M)[i]=L[i]:=same_take h6 hic hiL hiV
     refine aG ?_
     refine aJ ?_ (decide_eq_true (show (↑i:Int)<(↑cn:Int) from (by omega)))
     refine ev_stop (go_draw Tryz.tbs_ok true [0,1,2,3,4,5] [(0,true),(1,true),(2,true),(3,true),(4,true),(5,true),(6,true),(7,true),(8,true),(9,true)] rfl ?_)
     refine aG (aE ?_)
     refine ev_stop (tk_index0 (sz:=6) Tryz.tbs_ok (.inr 5) (i) aB rfl rfl rfl rfl rfl rfl rfl (by omega) rfl Row.at0 (fun g60 e61=>?_))
     subst e61
     refine aG (aE ?_)
     have l62:i<(L++M).length:=(by omega)
     refine ev_stop (tk_loadE Tryz.tbs_ok (.inr 5) (i) 0 aB rfl rfl rfl rfl rfl (fun _ h=>Row.rd h) (by omega) (fun _=>rfl) (by omega) l62 (by decide) ?_)
     refine aG (aE ?_)
     refine ev_stop (tk_indexE (sz:=6) Tryz.tbs_ok (.inl 0) (i) aB rfl rfl rfl rfl rfl rfl rfl (by omega) rfl (fun _ h=>h) (fun g63 o65 e64=>?_))
     subst e64
     refine aG (aE ?_)
     have l66:i<(L).length:=(by omega)
     refine ev_stop (tk_loadE Tryz.tbs_ok (.inl 0) (i) 0 aB rfl rfl rfl rfl rfl (fun _ h=>h) (by omega) (fun _=>rfl) (by omega) l66 (by decide) ?_)
     refine aG (aE ?_)
     refine ev_stop (tk_val (o:=_) aB rfl rfl (.bq (!(decide ((L++M)[i]=L[i])))) trivial (fun a w hF _=>neq_run (ev_denv hF rfl rfl) (ev_denv hF rfl rfl) (by kernel_rfl) (eq_ent (L++M)[i] L[i] 9997 w)) ?_)
     refine aG (aE ?_)
     refine aI ?_ (dec_no (by with_reducible assumption))
     refine wN (i+1) ?_
     refine ev_fin (round_next (i+1) (show i+1≤cn from (by assumption)) (show cn-(i+1)<cn-i from (by omega)) aS)
     all_goals skip
   obtain rfl:i=cn:=by omega
   refine aG ?_
   refine aI ?_ (decide_eq_false (show ¬(↑i:Int)<(↑i:Int) from (by omega)))
   refine ev_fin (go Tryz.tbs_ok 1000 ?_)
   refine ev_stop (go_draw Tryz.tbs_ok false [1] [(0,true),(1,true),(2,true),(3,true),(4,true),(5,true),(6,false),(7,false),(8,false),(9,false),(10,false)] rfl ?_)
   refine aG (aE (aE (aE (aE (aE (aK ?_))))))
   exact ev_fin ⟨trivial,_,rfl,((A31,c32)),rfl,by trivial,aF [5]⟩
   all_goals skip
 have hVe:V=M:=by rw [hV];unfold viewL;rw [if_neg hev];rfl
 have hun:u=q:=by rw [hu,hVe,hq]
 rw [if_neg hev] at h4
 subst hVe
 subst hun
 refine aT Tryz.func68 [.ag [vI p,vI v,vL A m a,vI (cn:Int)],.ag [vI k,vI s,vI e,vI w,vI f,vI n,vL C u b,vL B q' d]] [] (fun E=>?_) ⟨⟨trivial,trivial,trivial,trivial,trivial⟩,⟨trivial,trivial,trivial,trivial,trivial,trivial,trivial,trivial,trivial⟩,trivial⟩
 refine aG ?_
 refine ev_new fun b10=>?_
 refine ev_new fun b11=>?_
 refine ev_new fun b12=>?_
 refine aC T1 [] [.inl 0] fun _ h13=>?_
 refine aI ?_
 refine ev_stop (go_draw Tryz.tbs_ok false [0] [(0,true),(1,true),(2,true),(3,true),(4,true),(5,true),(7,true),(8,true),(99,false),(0,true),(0,true),(0,true)] rfl ?_)
 refine aG (aE ?_)
 refine ev_stop (go_fork 6 10 [(9,true),(10,false),(11,false)] [(6,false),(9,false),(11,false)] _ _ ⟨aL,rfl⟩ (by kernel_rfl) rfl rfl rfl rfl ?_ ?_)
 refine aG ?_
 refine ev_stop (go_appendE (sz:=6) (M:=[]) (enc:=encE) Tryz.tbs_ok [] [] (.inl 0) ([]) (L) (L) (m) rfl rfl rfl rfl rfl rfl rfl (by decide) rfl (by decide) (fun _ _=>Row.nil _ _ _) rfl (fun _ h=>h) (by first | rfl | simp) (by first | rfl | omega) (aM (m)) (aN (m)) (fun _ _=>aL) (fun A14 c15 h16=>?_))
 refine aG (aE ?_)
 refine ev_new fun b17=>?_
 refine aE (aK ?_)
 refine aI ?_ (beq_eq_false_iff_ne.2 (show ¬k=1 from (by omega)))
 refine aJ ?_ (beq_iff_eq.2 (by with_reducible assumption))
 refine aI ?_ (beq_eq_false_iff_ne.2 (by with_reducible assumption))
 refine aI ?_ (decide_eq_false (show ¬e<1 from (by omega)))
 refine aI ?_ (decide_eq_false (show ¬e<p from (by omega)))
 refine aI ?_ (decide_eq_false (show ¬e > 1048576 from (by omega)))
 refine aI ?_ (ne_no (by with_reducible assumption))
 refine ev_stop (go_draw Tryz.tbs_ok false [0,1] [(0,true),(1,true),(2,true),(3,true),(5,true),(6,true),(4,false),(7,false),(8,false)] rfl ?_)
 refine aG (aE ?_)
 refine ev_stop (tk_front Tryz.tbs_ok (0) (a) aB rfl rfl rfl rfl rfl rfl rfl ⟨_,rfl⟩ rfl (by decide) (by omega) (by omega) ?_)
 refine aG (aE ?_)
 refine ev_stop (go_appendE (sz:=6) (M:=[]) (enc:=encE) Tryz.tbs_ok [] [] (.inl 0) ([]) (((L).take (0))) (((L).take (0))) (0) rfl rfl rfl rfl rfl rfl rfl (by decide) rfl (by decide) (fun _ _=>Row.nil _ _ _) rfl (fun _ h=>rd_take (k:=0) (fun _=>rfl) h (by omega)) (by first | rfl | simp) (by first | rfl | omega) (aM (0)) (aN (0)) (fun _ _=>aL) (fun A18 c19 h20=>?_))
 refine aG (aE ?_)
 refine ev_stop (go_appendE (sz:=6) (M:=[_]) (enc:=encE) Tryz.tbs_ok [5] [] (.inl 1) (List.take 0 L) (V) ((List.take 0 L)++(V)) (u) rfl rfl rfl rfl rfl rfl rfl (by decide) rfl (by decide) (fun _ p=>starH_one.1 p) rfl (fun _ h=>h) (by first | rfl | simp) (by first | rfl | omega) (aM (u)) (aN (u)) (fun _ _=>aL) (fun A21 c22 h23=>?_))
 refine aG (aE (aK ?_))
 rotate_left
 refine aG ?_
 refine ev_new fun b24=>?_
 refine aE ?_
 refine ev_stop (go_appendE (sz:=6) (M:=[]) (enc:=encE) Tryz.tbs_ok [] [] (.inl 0) ([]) (L) (L) (m) rfl rfl rfl rfl rfl rfl rfl (by decide) rfl (by decide) (fun _ _=>Row.nil _ _ _) rfl (fun _ h=>h) (by first | rfl | simp) (by first | rfl | omega) (aM (m)) (aN (m)) (fun _ _=>aL) (fun A25 c26 h27=>?_))
 refine aG (aE (aE (aK ?_)))
 refine aI ?_ (beq_eq_false_iff_ne.2 (show ¬k=1 from (by omega)))
 refine aJ ?_ (beq_iff_eq.2 (by with_reducible assumption))
 refine aI ?_ (beq_eq_false_iff_ne.2 (by with_reducible assumption))
 refine aI ?_ (decide_eq_false (show ¬e<1 from (by omega)))
 refine aI ?_ (decide_eq_false (show ¬e<p from (by omega)))
 refine aI ?_ (decide_eq_false (show ¬e > 1048576 from (by omega)))
 refine aI ?_ (ne_no (by with_reducible assumption))
 refine ev_stop (go_draw Tryz.tbs_ok false [0,1] [(0,true),(1,true),(2,true),(3,true),(5,true),(6,true),(4,false),(7,false),(8,false)] rfl ?_)
 refine aG (aE ?_)
 refine ev_stop (tk_front Tryz.tbs_ok (0) (a) aB rfl rfl rfl rfl rfl rfl rfl ⟨_,rfl⟩ rfl (by decide) (by omega) (by omega) ?_)
 refine aG (aE ?_)
 refine ev_stop (go_appendE (sz:=6) (M:=[]) (enc:=encE) Tryz.tbs_ok [] [] (.inl 0) ([]) (((L).take (0))) (((L).take (0))) (0) rfl rfl rfl rfl rfl rfl rfl (by decide) rfl (by decide) (fun _ _=>Row.nil _ _ _) rfl (fun _ h=>rd_take (k:=0) (fun _=>rfl) h (by omega)) (by first | rfl | simp) (by first | rfl | omega) (aM (0)) (aN (0)) (fun _ _=>aL) (fun A28 c29 h30=>?_))
 refine aG (aE ?_)
 refine ev_stop (go_appendE (sz:=6) (M:=[_]) (enc:=encE) Tryz.tbs_ok [5] [] (.inl 1) (List.take 0 L) (V) ((List.take 0 L)++(V)) (u) rfl rfl rfl rfl rfl rfl rfl (by decide) rfl (by decide) (fun _ p=>starH_one.1 p) rfl (fun _ h=>h) (by first | rfl | simp) (by first | rfl | omega) (aM (u)) (aN (u)) (fun _ _=>aL) (fun A31 c32 h33=>?_))
 refine aG (aE (aK ?_))
 rotate_left
 · refine aC (T2 (A21) (c22)) [] [.inr 5] fun _ h50=>?_
   refine aI ?_
   refine aI ?_ (decide_eq_false (show ¬(↑u:Int)<(↑cn:Int) from (by omega)))
   refine ev_stop (go_loopR [0,1,5,9,10,23,96,97,98,99,100,101,102,103,104,105,106,107,108,109,110,111,112] (fun i=>[(9,vI (i:Nat))]) (fun _=>[]) (fun i=>i≤cn) (fun i=>cn-i) (0:Nat) (Nat.zero_le _) aS (fun i hi=>?_))
   rcases Nat.lt_or_ge i cn with hic | hic
   · have hiL:i<L.length:=by omega
     have hiV:i<V.length:=by omega
     have heq:V[i]=L[i]:=same_take h6 hic hiL hiV
     refine aG ?_
     refine aJ ?_ (decide_eq_true (show (↑i:Int)<(↑cn:Int) from (by omega)))
     refine ev_stop (go_draw Tryz.tbs_ok true [0,1,2,3,4,5] [(0,true),(1,true),(2,true),(3,true),(4,true),(5,true),(6,true),(7,true),(8,true),(9,true)] rfl ?_)
     refine aG (aE ?_)
     refine ev_stop (tk_index0 (sz:=6) Tryz.tbs_ok (.inr 5) (i) aB rfl rfl rfl rfl rfl rfl rfl (by omega) rfl Row.at0 (fun g60 e61=>?_))
     subst e61
     refine aG (aE ?_)
     have l62:i<(List.take 0 L++V).length:=(by (simp only [List.length_append];omega))
     refine ev_stop (tk_loadE Tryz.tbs_ok (.inr 5) (i) 0 aB rfl rfl rfl rfl rfl (fun _ h=>Row.rd h) (by omega) (fun _=>rfl) (by omega) l62 (by decide) ?_)
     refine aG (aE ?_)
     refine ev_stop (tk_indexE (sz:=6) Tryz.tbs_ok (.inl 0) (i) aB rfl rfl rfl rfl rfl rfl rfl (by omega) rfl (fun _ h=>h) (fun g63 o65 e64=>?_))
     subst e64
     refine aG (aE ?_)
     have l66:i<(L).length:=(by omega)
     refine ev_stop (tk_loadE Tryz.tbs_ok (.inl 0) (i) 0 aB rfl rfl rfl rfl rfl (fun _ h=>h) (by omega) (fun _=>rfl) (by omega) l66 (by decide) ?_)
     refine aG (aE ?_)
     refine ev_stop (tk_val (o:=_) aB rfl rfl (.bq (!(decide (V[i]=L[i])))) trivial (fun a w hF _=>neq_run (ev_denv hF rfl rfl) (ev_denv hF rfl rfl) (by kernel_rfl) (eq_ent V[i] L[i] 9997 w)) ?_)
     refine aG (aE ?_)
     refine aI ?_ (dec_no (by omega))
     refine wN (i+1) ?_
     refine ev_fin (round_next (i+1) (show i+1≤cn from (by assumption)) (show cn-(i+1)<cn-i from (by omega)) aS)
     all_goals skip
   obtain rfl:i=cn:=by omega
   refine aG ?_
   refine aI ?_ (decide_eq_false (show ¬(↑i:Int)<(↑i:Int) from (by omega)))
   refine ev_fin (go Tryz.tbs_ok 1000 ?_)
   refine ev_stop (go_draw Tryz.tbs_ok false [1] [(0,true),(1,true),(2,true),(3,true),(4,true),(5,true),(6,false),(7,false),(8,false),(9,false),(10,false)] rfl ?_)
   refine aG (aE (aE (aE (aE (aE (aK ?_))))))
   exact ev_fin ⟨trivial,_,rfl,((A21,c22)),rfl,by trivial,aF [5]⟩
   all_goals skip
 refine aC (T2 (A31) (c32)) [] [.inr 5] fun _ h50=>?_
 refine aI ?_
 refine aI ?_ (decide_eq_false (show ¬(↑u:Int)<(↑cn:Int) from (by omega)))
 refine ev_stop (go_loopR [0,1,5,9,10,23,96,97,98,99,100,101,102,103,104,105,106,107,108,109,110,111,112] (fun i=>[(9,vI (i:Nat))]) (fun _=>[]) (fun i=>i≤cn) (fun i=>cn-i) (0:Nat) (Nat.zero_le _) aS (fun i hi=>?_))
 rcases Nat.lt_or_ge i cn with hic | hic
 · have hiL:i<L.length:=by omega
   have hiV:i<V.length:=by omega
   have heq:V[i]=L[i]:=same_take h6 hic hiL hiV
   refine aG ?_
   refine aJ ?_ (decide_eq_true (show (↑i:Int)<(↑cn:Int) from (by omega)))
   refine ev_stop (go_draw Tryz.tbs_ok true [0,1,2,3,4,5] [(0,true),(1,true),(2,true),(3,true),(4,true),(5,true),(6,true),(7,true),(8,true),(9,true)] rfl ?_)
   refine aG (aE ?_)
   refine ev_stop (tk_index0 (sz:=6) Tryz.tbs_ok (.inr 5) (i) aB rfl rfl rfl rfl rfl rfl rfl (by omega) rfl Row.at0 (fun g60 e61=>?_))
   subst e61
   refine aG (aE ?_)
   have l62:i<(List.take 0 L++V).length:=(by (simp only [List.length_append];omega))
   refine ev_stop (tk_loadE Tryz.tbs_ok (.inr 5) (i) 0 aB rfl rfl rfl rfl rfl (fun _ h=>Row.rd h) (by omega) (fun _=>rfl) (by omega) l62 (by decide) ?_)
   refine aG (aE ?_)
   refine ev_stop (tk_indexE (sz:=6) Tryz.tbs_ok (.inl 0) (i) aB rfl rfl rfl rfl rfl rfl rfl (by omega) rfl (fun _ h=>h) (fun g63 o65 e64=>?_))
   subst e64
   refine aG (aE ?_)
   have l66:i<(L).length:=(by omega)
   refine ev_stop (tk_loadE Tryz.tbs_ok (.inl 0) (i) 0 aB rfl rfl rfl rfl rfl (fun _ h=>h) (by omega) (fun _=>rfl) (by omega) l66 (by decide) ?_)
   refine aG (aE ?_)
   refine ev_stop (tk_val (o:=_) aB rfl rfl (.bq (!(decide (V[i]=L[i])))) trivial (fun a w hF _=>neq_run (ev_denv hF rfl rfl) (ev_denv hF rfl rfl) (by kernel_rfl) (eq_ent V[i] L[i] 9997 w)) ?_)
   refine aG (aE ?_)
   refine aI ?_ (dec_no (by omega))
   refine wN (i+1) ?_
   refine ev_fin (round_next (i+1) (show i+1≤cn from (by assumption)) (show cn-(i+1)<cn-i from (by omega)) aS)
   all_goals skip
 obtain rfl:i=cn:=by omega
 refine aG ?_
 refine aI ?_ (decide_eq_false (show ¬(↑i:Int)<(↑i:Int) from (by omega)))
 refine ev_fin (go Tryz.tbs_ok 1000 ?_)
 refine ev_stop (go_draw Tryz.tbs_ok false [1] [(0,true),(1,true),(2,true),(3,true),(4,true),(5,true),(6,false),(7,false),(8,false),(9,false),(10,false)] rfl ?_)
 refine aG (aE (aE (aE (aE (aE (aK ?_))))))
 exact ev_fin ⟨trivial,_,rfl,((A31,c32)),rfl,by trivial,aF [5]⟩
 all_goals skip
set_option maxHeartbeats 8000000 in
theorem rNo2 (x:RegS) (y:RecS) (ho:okR x.r=true) (hk:y.r.k=2) (hy:y.r.L.length≤2000) (ha:x.r.L.length≤x.a) (h:applyR x.r y.r=none) :
 Triple Tryz.prog 68 [.agg (encG x).toArray,.agg (encR y).toArray] [] [x.rd,y.rdL] Unit (fun _=>.tuple #[.agg (encG ⟨noReg,none,0⟩).toArray,.bool false]) (fun _=>True) (fun _=>[]):=by
 have hl:=wholeE_len (okR_of ho).2.2.2.1
 have T1:=rCheckG x (by omega)
 have hc:=(okR_of ho).2.2.2.2
 rw [ho] at T1
 unfold applyR at h
 rw [if_neg (by rw [ho];decide),if_neg (by omega),if_pos hk] at h
 obtain ⟨⟨p,v,L,c⟩,A,a⟩:=x
 obtain ⟨⟨k,s,e,w,f,n,M,F⟩,C,b,B,d⟩:=y
 simp only at h hk hl hy ha hc
 obtain ⟨cn,rfl⟩:∃ cn:Nat,c=(cn:Int):=⟨c.toNat,by omega⟩
 simp only [Int.toNat_natCast] at h
 obtain ⟨V,hV⟩:∃ V,V=viewL ⟨p,v,L,(cn:Int)⟩ ⟨k,s,e,w,f,n,M,F⟩:=⟨_,rfl⟩
 rw [←hV] at h
 obtain ⟨m,hm⟩:∃ m,m=L.length:=⟨_,rfl⟩
 obtain ⟨q,hq⟩:∃ q,q=M.length:=⟨_,rfl⟩
 obtain ⟨q',hq'⟩:∃ q',q'=F.length:=⟨_,rfl⟩
 obtain ⟨u,hu⟩:∃ u,u=V.length:=⟨_,rfl⟩
 unfold RegS.rd RecS.rdL encG encR at *
 simp only [←hm,←hq,←hq',←hu] at T1 h hl hy ha hc ⊢
 have hu3:u≤m+2000:=by
  rw [hu,hV]
  unfold viewL
  rw [List.length_append]
  split<;>simp only [List.length_nil,←hm,←hq]<;>omega
 have T2:=fun A c=>(rWholeE A V u c e hu (by omega)).reads (N':=[Row 101 6 A u c (V.flatMap encE)]) (fun X hX=>⟨_,List.mem_cons_self,fun _ q=>by rw [List.mem_singleton.1 hX];exact Row.rd q⟩)
 obtain ⟨wv,hwv⟩:∃ wv,wv=wholeE V e:=⟨_,rfl⟩
 rw [←hwv] at T2 h
 by_cases hev:e=v
 · have hVe:V=L++M:=by rw [hV];unfold viewL;rw [if_pos hev]
   have hun:u=m+q:=by rw [hu,hVe,List.length_append,hm,hq]
   rw [if_pos hev] at h
   have htk:L.take cn=V.take cn:=by rw [hVe,List.take_append_of_le_length (by omega)]
   have hno:¬ (1≤e∧p≤e∧e≤1048576∧f=(m:Int)∧wv=true):=fun ⟨a1,a2,a3,a4,a5⟩=>by rw [if_pos ⟨a1,a2,a3,a4,a5,htk,by omega⟩] at h;cases h
   subst hVe
   subst hun
   refine aT Tryz.func68 [.ag [vI p,vI v,vL A m a,vI (cn:Int)],.ag [vI k,vI s,vI e,vI w,vI f,vI n,vL C q b,vL B q' d]] [] (fun E=>?_) ⟨⟨trivial,trivial,trivial,trivial,trivial⟩,⟨trivial,trivial,trivial,trivial,trivial,trivial,trivial,trivial,trivial⟩,trivial⟩
   cases wv with
   |
    true =>
    have hno2:¬ (1≤e∧p≤e∧e≤1048576∧f=(m:Int)):=fun ⟨a1,a2,a3,a4⟩=>hno ⟨a1,a2,a3,a4,rfl⟩
    refine aG ?_
    refine ev_new fun b10=>?_
    refine ev_new fun b11=>?_
    refine ev_new fun b12=>?_
    refine aC T1 [] [.inl 0] fun _ h13=>?_
    refine aI ?_
    refine ev_stop (go_draw Tryz.tbs_ok false [0] [(0,true),(1,true),(2,true),(3,true),(4,true),(5,true),(7,true),(8,true),(99,false),(0,true),(0,true),(0,true)] rfl ?_)
    refine aG (aE ?_)
    refine ev_stop (go_fork 6 10 [(9,true),(10,false),(11,false)] [(6,false),(9,false),(11,false)] _ _ ⟨aL,rfl⟩ (by kernel_rfl) rfl rfl rfl rfl ?_ ?_)
    refine aG ?_
    refine ev_stop (go_appendE (sz:=6) (M:=[]) (enc:=encE) Tryz.tbs_ok [] [] (.inl 0) ([]) (L) (L) (m) rfl rfl rfl rfl rfl rfl rfl (by decide) rfl (by decide) (fun _ _=>Row.nil _ _ _) rfl (fun _ h=>h) (by first | rfl | simp) (by first | rfl | omega) (aM (m)) (aN (m)) (fun _ _=>aL) (fun A14 c15 h16=>?_))
    refine aG (aE ?_)
    refine ev_new fun b17=>?_
    refine aE (aK ?_)
    refine aI ?_ (beq_eq_false_iff_ne.2 (show ¬k=1 from (by omega)))
    refine aJ ?_ (beq_iff_eq.2 (by with_reducible assumption))
    refine aJ ?_ (beq_iff_eq.2 (by with_reducible assumption))
    refine ev_if_lt (fun h18=>?_) (fun h18=>?_)
    refine aG ?_
    refine ev_fin ⟨trivial,_,rfl,(()),rfl,(by trivial),Frm.nil _⟩
    refine aG ?_
    refine ev_if_lt (fun h19=>?_) (fun h19=>?_)
    refine aG ?_
    refine ev_fin ⟨trivial,_,rfl,(()),rfl,(by trivial),Frm.nil _⟩
    refine aG ?_
    refine ev_if_lt (fun h20=>?_) (fun h20=>?_)
    refine aG ?_
    refine ev_fin ⟨trivial,_,rfl,(()),rfl,(by trivial),Frm.nil _⟩
    refine aG ?_
    refine aJ ?_ (ne_yes (show ¬f=(↑m:Int) from (by omega)))
    refine ev_fin ⟨trivial,_,rfl,(()),rfl,(by trivial),Frm.nil _⟩
    refine aG ?_
    refine ev_new fun b21=>?_
    refine aE ?_
    refine ev_stop (go_appendE (sz:=6) (M:=[]) (enc:=encE) Tryz.tbs_ok [] [] (.inl 0) ([]) (L) (L) (m) rfl rfl rfl rfl rfl rfl rfl (by decide) rfl (by decide) (fun _ _=>Row.nil _ _ _) rfl (fun _ h=>h) (by first | rfl | simp) (by first | rfl | omega) (aM (m)) (aN (m)) (fun _ _=>aL) (fun A22 c23 h24=>?_))
    refine aG (aE (aE (aK ?_)))
    refine aI ?_ (beq_eq_false_iff_ne.2 (show ¬k=1 from (by omega)))
    refine aJ ?_ (beq_iff_eq.2 (by with_reducible assumption))
    refine aJ ?_ (beq_iff_eq.2 (by with_reducible assumption))
    refine ev_if_lt (fun h25=>?_) (fun h25=>?_)
    refine aG ?_
    refine ev_fin ⟨trivial,_,rfl,(()),rfl,(by trivial),Frm.nil _⟩
    refine aG ?_
    refine ev_if_lt (fun h26=>?_) (fun h26=>?_)
    refine aG ?_
    refine ev_fin ⟨trivial,_,rfl,(()),rfl,(by trivial),Frm.nil _⟩
    refine aG ?_
    refine ev_if_lt (fun h27=>?_) (fun h27=>?_)
    refine aG ?_
    refine ev_fin ⟨trivial,_,rfl,(()),rfl,(by trivial),Frm.nil _⟩
    refine aG ?_
    refine aJ ?_ (ne_yes (show ¬f=(↑m:Int) from (by omega)))
    refine ev_fin ⟨trivial,_,rfl,(()),rfl,(by trivial),Frm.nil _⟩
    all_goals (exfalso;omega)
   |
    false =>
    refine aG ?_
    refine ev_new fun b10=>?_
    refine ev_new fun b11=>?_
    refine ev_new fun b12=>?_
    refine aC T1 [] [.inl 0] fun _ h13=>?_
    refine aI ?_
    refine ev_stop (go_draw Tryz.tbs_ok false [0] [(0,true),(1,true),(2,true),(3,true),(4,true),(5,true),(7,true),(8,true),(99,false),(0,true),(0,true),(0,true)] rfl ?_)
    refine aG (aE ?_)
    refine ev_stop (go_fork 6 10 [(9,true),(10,false),(11,false)] [(6,false),(9,false),(11,false)] _ _ ⟨aL,rfl⟩ (by kernel_rfl) rfl rfl rfl rfl ?_ ?_)
    refine aG ?_
    refine ev_stop (go_appendE (sz:=6) (M:=[]) (enc:=encE) Tryz.tbs_ok [] [] (.inl 0) ([]) (L) (L) (m) rfl rfl rfl rfl rfl rfl rfl (by decide) rfl (by decide) (fun _ _=>Row.nil _ _ _) rfl (fun _ h=>h) (by first | rfl | simp) (by first | rfl | omega) (aM (m)) (aN (m)) (fun _ _=>aL) (fun A14 c15 h16=>?_))
    refine aG (aE ?_)
    refine ev_new fun b17=>?_
    refine aE (aK ?_)
    refine aI ?_ (beq_eq_false_iff_ne.2 (show ¬k=1 from (by omega)))
    refine aJ ?_ (beq_iff_eq.2 (by with_reducible assumption))
    refine aJ ?_ (beq_iff_eq.2 (by with_reducible assumption))
    refine ev_if_lt (fun h18=>?_) (fun h18=>?_)
    refine aG ?_
    refine ev_fin ⟨trivial,_,rfl,(()),rfl,(by trivial),Frm.nil _⟩
    refine aG ?_
    refine ev_if_lt (fun h19=>?_) (fun h19=>?_)
    refine aG ?_
    refine ev_fin ⟨trivial,_,rfl,(()),rfl,(by trivial),Frm.nil _⟩
    refine aG ?_
    refine ev_if_lt (fun h20=>?_) (fun h20=>?_)
    refine aG ?_
    refine ev_fin ⟨trivial,_,rfl,(()),rfl,(by trivial),Frm.nil _⟩
    refine aG ?_
    refine ev_if_ne (fun h21=>?_) (fun h21=>?_)
    refine aG ?_
    refine ev_fin ⟨trivial,_,rfl,(()),rfl,(by trivial),Frm.nil _⟩
    refine aG ?_
    refine ev_stop (go_draw Tryz.tbs_ok false [0,1] [(0,true),(1,true),(2,true),(3,true),(5,true),(6,true),(4,false),(7,false),(8,false)] rfl ?_)
    refine aG (aE ?_)
    refine ev_stop (tk_front Tryz.tbs_ok (m) (a) aB rfl rfl rfl rfl rfl rfl rfl ⟨_,rfl⟩ rfl (by decide) (by omega) (by omega) ?_)
    refine aG (aE ?_)
    refine ev_stop (go_appendE (sz:=6) (M:=[]) (enc:=encE) Tryz.tbs_ok [] [] (.inl 0) ([]) (L) (L) (m) rfl rfl rfl rfl rfl rfl rfl (by decide) rfl (by decide) (fun _ _=>Row.nil _ _ _) rfl (fun _ h=>h) (by first | rfl | simp) (by first | rfl | omega) (aM (m)) (aN (m)) (fun _ _=>aL) (fun A22 c23 h24=>?_))
    refine aG (aE ?_)
    refine ev_stop (go_appendE (sz:=6) (M:=[_]) (enc:=encE) Tryz.tbs_ok [5] [] (.inl 1) (L) (M) ((L)++(M)) (m+q) rfl rfl rfl rfl rfl rfl rfl (by decide) rfl (by decide) (fun _ p=>starH_one.1 p) rfl (fun _ h=>h) (by first | rfl | simp) (by first | rfl | omega) (aM (m+q)) (aN (m+q)) (fun _ _=>aL) (fun A25 c26 h27=>?_))
    refine aG (aE (aK ?_))
    rotate_left
    refine aG ?_
    refine ev_new fun b28=>?_
    refine aE ?_
    refine ev_stop (go_appendE (sz:=6) (M:=[]) (enc:=encE) Tryz.tbs_ok [] [] (.inl 0) ([]) (L) (L) (m) rfl rfl rfl rfl rfl rfl rfl (by decide) rfl (by decide) (fun _ _=>Row.nil _ _ _) rfl (fun _ h=>h) (by first | rfl | simp) (by first | rfl | omega) (aM (m)) (aN (m)) (fun _ _=>aL) (fun A29 c30 h31=>?_))
    refine aG (aE (aE (aK ?_)))
    refine aI ?_ (beq_eq_false_iff_ne.2 (show ¬k=1 from (by omega)))
    refine aJ ?_ (beq_iff_eq.2 (by with_reducible assumption))
    refine aJ ?_ (beq_iff_eq.2 (by with_reducible assumption))
    refine ev_if_lt (fun h32=>?_) (fun h32=>?_)
    refine aG ?_
    refine ev_fin ⟨trivial,_,rfl,(()),rfl,(by trivial),Frm.nil _⟩
    refine aG ?_
    refine ev_if_lt (fun h33=>?_) (fun h33=>?_)
    refine aG ?_
    refine ev_fin ⟨trivial,_,rfl,(()),rfl,(by trivial),Frm.nil _⟩
    refine aG ?_
    refine ev_if_lt (fun h34=>?_) (fun h34=>?_)
    refine aG ?_
    refine ev_fin ⟨trivial,_,rfl,(()),rfl,(by trivial),Frm.nil _⟩
    refine aG ?_
    refine ev_if_ne (fun h35=>?_) (fun h35=>?_)
    refine aG ?_
    refine ev_fin ⟨trivial,_,rfl,(()),rfl,(by trivial),Frm.nil _⟩
    refine aG ?_
    refine ev_stop (go_draw Tryz.tbs_ok false [0,1] [(0,true),(1,true),(2,true),(3,true),(5,true),(6,true),(4,false),(7,false),(8,false)] rfl ?_)
    refine aG (aE ?_)
    refine ev_stop (tk_front Tryz.tbs_ok (m) (a) aB rfl rfl rfl rfl rfl rfl rfl ⟨_,rfl⟩ rfl (by decide) (by omega) (by omega) ?_)
    refine aG (aE ?_)
    refine ev_stop (go_appendE (sz:=6) (M:=[]) (enc:=encE) Tryz.tbs_ok [] [] (.inl 0) ([]) (L) (L) (m) rfl rfl rfl rfl rfl rfl rfl (by decide) rfl (by decide) (fun _ _=>Row.nil _ _ _) rfl (fun _ h=>h) (by first | rfl | simp) (by first | rfl | omega) (aM (m)) (aN (m)) (fun _ _=>aL) (fun A36 c37 h38=>?_))
    refine aG (aE ?_)
    refine ev_stop (go_appendE (sz:=6) (M:=[_]) (enc:=encE) Tryz.tbs_ok [5] [] (.inl 1) (L) (M) ((L)++(M)) (m+q) rfl rfl rfl rfl rfl rfl rfl (by decide) rfl (by decide) (fun _ p=>starH_one.1 p) rfl (fun _ h=>h) (by first | rfl | simp) (by first | rfl | omega) (aM (m+q)) (aN (m+q)) (fun _ _=>aL) (fun A39 c40 h41=>?_))
    refine aG (aE (aK ?_))
    rotate_left
    · refine aC (T2 (A25) (c26)) [] [.inr 5] fun _ h50=>?_
      refine aJ ?_
      refine ev_fin ⟨trivial,_,rfl,(()),rfl,(by trivial),Frm.nil _⟩
    refine aC (T2 (A39) (c40)) [] [.inr 5] fun _ h50=>?_
    refine aJ ?_
    refine ev_fin ⟨trivial,_,rfl,(()),rfl,(by trivial),Frm.nil _⟩
 have hVe:V=M:=by rw [hV];unfold viewL;rw [if_neg hev];rfl
 have hun:u=q:=by rw [hu,hVe,hq]
 rw [if_neg hev] at h
 have hno:¬ (1≤e∧p≤e∧e≤1048576∧f=0∧wv=true∧L.take cn=V.take cn∧cn≤u):=fun a=>by rw [if_pos a] at h;cases h
 subst hVe
 subst hun
 refine aT Tryz.func68 [.ag [vI p,vI v,vL A m a,vI (cn:Int)],.ag [vI k,vI s,vI e,vI w,vI f,vI n,vL C u b,vL B q' d]] [] (fun E=>?_) ⟨⟨trivial,trivial,trivial,trivial,trivial⟩,⟨trivial,trivial,trivial,trivial,trivial,trivial,trivial,trivial,trivial⟩,trivial⟩
 by_cases hA:1≤e∧p≤e∧e≤1048576∧f=0
 · obtain ⟨a1,a2,a3,a4⟩:=hA
   cases wv with
   |
    true =>
    have hm7:L.take cn=V.take cn→¬ cn≤u:=fun q1 q2=>hno ⟨a1,a2,a3,a4,rfl,q1,q2⟩
    by_cases hcu:cn≤u
    · refine aG ?_
      refine ev_new fun b10=>?_
      refine ev_new fun b11=>?_
      refine ev_new fun b12=>?_
      refine aC T1 [] [.inl 0] fun _ h13=>?_
      refine aI ?_
      refine ev_stop (go_draw Tryz.tbs_ok false [0] [(0,true),(1,true),(2,true),(3,true),(4,true),(5,true),(7,true),(8,true),(99,false),(0,true),(0,true),(0,true)] rfl ?_)
      refine aG (aE ?_)
      refine ev_stop (go_fork 6 10 [(9,true),(10,false),(11,false)] [(6,false),(9,false),(11,false)] _ _ ⟨aL,rfl⟩ (by kernel_rfl) rfl rfl rfl rfl ?_ ?_)
      refine aG ?_
      refine ev_stop (go_appendE (sz:=6) (M:=[]) (enc:=encE) Tryz.tbs_ok [] [] (.inl 0) ([]) (L) (L) (m) rfl rfl rfl rfl rfl rfl rfl (by decide) rfl (by decide) (fun _ _=>Row.nil _ _ _) rfl (fun _ h=>h) (by first | rfl | simp) (by first | rfl | omega) (aM (m)) (aN (m)) (fun _ _=>aL) (fun A14 c15 h16=>?_))
      refine aG (aE ?_)
      refine ev_new fun b17=>?_
      refine aE (aK ?_)
      refine aI ?_ (beq_eq_false_iff_ne.2 (show ¬k=1 from (by omega)))
      refine aJ ?_ (beq_iff_eq.2 (by with_reducible assumption))
      refine aI ?_ (beq_eq_false_iff_ne.2 (by with_reducible assumption))
      refine aI ?_ (decide_eq_false (show ¬e<1 from (by omega)))
      refine aI ?_ (decide_eq_false (show ¬e<p from (by omega)))
      refine aI ?_ (decide_eq_false (show ¬e > 1048576 from (by omega)))
      refine aI ?_ (ne_no (by with_reducible assumption))
      refine ev_stop (go_draw Tryz.tbs_ok false [0,1] [(0,true),(1,true),(2,true),(3,true),(5,true),(6,true),(4,false),(7,false),(8,false)] rfl ?_)
      refine aG (aE ?_)
      refine ev_stop (tk_front Tryz.tbs_ok (0) (a) aB rfl rfl rfl rfl rfl rfl rfl ⟨_,rfl⟩ rfl (by decide) (by omega) (by omega) ?_)
      refine aG (aE ?_)
      refine ev_stop (go_appendE (sz:=6) (M:=[]) (enc:=encE) Tryz.tbs_ok [] [] (.inl 0) ([]) (((L).take (0))) (((L).take (0))) (0) rfl rfl rfl rfl rfl rfl rfl (by decide) rfl (by decide) (fun _ _=>Row.nil _ _ _) rfl (fun _ h=>rd_take (k:=0) (fun _=>rfl) h (by omega)) (by first | rfl | simp) (by first | rfl | omega) (aM (0)) (aN (0)) (fun _ _=>aL) (fun A18 c19 h20=>?_))
      refine aG (aE ?_)
      refine ev_stop (go_appendE (sz:=6) (M:=[_]) (enc:=encE) Tryz.tbs_ok [5] [] (.inl 1) (List.take 0 L) (V) ((List.take 0 L)++(V)) (u) rfl rfl rfl rfl rfl rfl rfl (by decide) rfl (by decide) (fun _ p=>starH_one.1 p) rfl (fun _ h=>h) (by first | rfl | simp) (by first | rfl | omega) (aM (u)) (aN (u)) (fun _ _=>aL) (fun A21 c22 h23=>?_))
      refine aG (aE (aK ?_))
      rotate_left
      refine aG ?_
      refine ev_new fun b24=>?_
      refine aE ?_
      refine ev_stop (go_appendE (sz:=6) (M:=[]) (enc:=encE) Tryz.tbs_ok [] [] (.inl 0) ([]) (L) (L) (m) rfl rfl rfl rfl rfl rfl rfl (by decide) rfl (by decide) (fun _ _=>Row.nil _ _ _) rfl (fun _ h=>h) (by first | rfl | simp) (by first | rfl | omega) (aM (m)) (aN (m)) (fun _ _=>aL) (fun A25 c26 h27=>?_))
      refine aG (aE (aE (aK ?_)))
      refine aI ?_ (beq_eq_false_iff_ne.2 (show ¬k=1 from (by omega)))
      refine aJ ?_ (beq_iff_eq.2 (by with_reducible assumption))
      refine aI ?_ (beq_eq_false_iff_ne.2 (by with_reducible assumption))
      refine aI ?_ (decide_eq_false (show ¬e<1 from (by omega)))
      refine aI ?_ (decide_eq_false (show ¬e<p from (by omega)))
      refine aI ?_ (decide_eq_false (show ¬e > 1048576 from (by omega)))
      refine aI ?_ (ne_no (by with_reducible assumption))
      refine ev_stop (go_draw Tryz.tbs_ok false [0,1] [(0,true),(1,true),(2,true),(3,true),(5,true),(6,true),(4,false),(7,false),(8,false)] rfl ?_)
      refine aG (aE ?_)
      refine ev_stop (tk_front Tryz.tbs_ok (0) (a) aB rfl rfl rfl rfl rfl rfl rfl ⟨_,rfl⟩ rfl (by decide) (by omega) (by omega) ?_)
      refine aG (aE ?_)
      refine ev_stop (go_appendE (sz:=6) (M:=[]) (enc:=encE) Tryz.tbs_ok [] [] (.inl 0) ([]) (((L).take (0))) (((L).take (0))) (0) rfl rfl rfl rfl rfl rfl rfl (by decide) rfl (by decide) (fun _ _=>Row.nil _ _ _) rfl (fun _ h=>rd_take (k:=0) (fun _=>rfl) h (by omega)) (by first | rfl | simp) (by first | rfl | omega) (aM (0)) (aN (0)) (fun _ _=>aL) (fun A28 c29 h30=>?_))
      refine aG (aE ?_)
      refine ev_stop (go_appendE (sz:=6) (M:=[_]) (enc:=encE) Tryz.tbs_ok [5] [] (.inl 1) (List.take 0 L) (V) ((List.take 0 L)++(V)) (u) rfl rfl rfl rfl rfl rfl rfl (by decide) rfl (by decide) (fun _ p=>starH_one.1 p) rfl (fun _ h=>h) (by first | rfl | simp) (by first | rfl | omega) (aM (u)) (aN (u)) (fun _ _=>aL) (fun A31 c32 h33=>?_))
      refine aG (aE (aK ?_))
      rotate_left
      · refine aC (T2 (A21) (c22)) [] [.inr 5] fun _ h50=>?_
        refine aI ?_
        refine aI ?_ (decide_eq_false (show ¬(↑u:Int)<(↑cn:Int) from (by omega)))
        refine ev_stop (go_loopR [0,1,5,9,10,23,96,97,98,99,100,101,102,103,104,105,106,107,108,109,110,111,112] (fun i=>[(9,vI (i:Nat))]) (fun _=>[]) (fun i=>i≤cn∧L.take i=V.take i) (fun i=>cn-i) (0:Nat) ⟨Nat.zero_le _,rfl⟩ aS (fun i h_=>?_))
        obtain ⟨hi,hE⟩:=h_
        rcases Nat.lt_or_ge i cn with hic | hic
        · have hiL:i<L.length:=by omega
          have hiV:i<V.length:=by omega
          refine aG ?_
          refine aJ ?_ (decide_eq_true (show (↑i:Int)<(↑cn:Int) from (by omega)))
          refine ev_stop (go_draw Tryz.tbs_ok true [0,1,2,3,4,5] [(0,true),(1,true),(2,true),(3,true),(4,true),(5,true),(6,true),(7,true),(8,true),(9,true)] rfl ?_)
          refine aG (aE ?_)
          refine ev_stop (tk_index0 (sz:=6) Tryz.tbs_ok (.inr 5) (i) aB rfl rfl rfl rfl rfl rfl rfl (by omega) rfl Row.at0 (fun g60 e61=>?_))
          subst e61
          refine aG (aE ?_)
          have l62:i<(List.take 0 L++V).length:=(by (simp only [List.length_append];omega))
          refine ev_stop (tk_loadE Tryz.tbs_ok (.inr 5) (i) 0 aB rfl rfl rfl rfl rfl (fun _ h=>Row.rd h) (by omega) (fun _=>rfl) (by omega) l62 (by decide) ?_)
          refine aG (aE ?_)
          refine ev_stop (tk_indexE (sz:=6) Tryz.tbs_ok (.inl 0) (i) aB rfl rfl rfl rfl rfl rfl rfl (by omega) rfl (fun _ h=>h) (fun g63 o65 e64=>?_))
          subst e64
          refine aG (aE ?_)
          have l66:i<(L).length:=(by omega)
          refine ev_stop (tk_loadE Tryz.tbs_ok (.inl 0) (i) 0 aB rfl rfl rfl rfl rfl (fun _ h=>h) (by omega) (fun _=>rfl) (by omega) l66 (by decide) ?_)
          refine aG (aE ?_)
          refine ev_stop (tk_val (o:=_) aB rfl rfl (.bq (!(decide (V[i]=L[i])))) trivial (fun a w hF _=>neq_run (ev_denv hF rfl rfl) (ev_denv hF rfl rfl) (by kernel_rfl) (eq_ent V[i] L[i] 9997 w)) ?_)
          refine aG (aE ?_)
          refine ev_if_nd (fun h70=>?_) (fun h70=>?_)
          refine aG ?_
          refine ev_fin ⟨trivial,_,rfl,(()),rfl,(by trivial),Frm.nil _⟩
          refine aG ?_
          refine wN (i+1) ?_
          refine ev_fin (round_next (i+1) (?_:i+1≤cn∧List.take (i+1) L=List.take (i+1) V) (show cn-(i+1)<cn-i from (by omega)) aS)
          have he:V[i]=L[i]:=by simpa using ‹_›
          exact ⟨by omega,by rw [←List.take_append_getElem hiL,←List.take_append_getElem hiV,hE];exact congrArg (fun z=>List.take i V++[z]) he.symm⟩
        obtain rfl:i=cn:=by omega
        exact absurd hE (fun e=>hm7 e (by omega))
      refine aC (T2 (A31) (c32)) [] [.inr 5] fun _ h50=>?_
      refine aI ?_
      refine aI ?_ (decide_eq_false (show ¬(↑u:Int)<(↑cn:Int) from (by omega)))
      refine ev_stop (go_loopR [0,1,5,9,10,23,96,97,98,99,100,101,102,103,104,105,106,107,108,109,110,111,112] (fun i=>[(9,vI (i:Nat))]) (fun _=>[]) (fun i=>i≤cn∧L.take i=V.take i) (fun i=>cn-i) (0:Nat) ⟨Nat.zero_le _,rfl⟩ aS (fun i h_=>?_))
      obtain ⟨hi,hE⟩:=h_
      rcases Nat.lt_or_ge i cn with hic | hic
      · have hiL:i<L.length:=by omega
        have hiV:i<V.length:=by omega
        refine aG ?_
        refine aJ ?_ (decide_eq_true (show (↑i:Int)<(↑cn:Int) from (by omega)))
        refine ev_stop (go_draw Tryz.tbs_ok true [0,1,2,3,4,5] [(0,true),(1,true),(2,true),(3,true),(4,true),(5,true),(6,true),(7,true),(8,true),(9,true)] rfl ?_)
        refine aG (aE ?_)
        refine ev_stop (tk_index0 (sz:=6) Tryz.tbs_ok (.inr 5) (i) aB rfl rfl rfl rfl rfl rfl rfl (by omega) rfl Row.at0 (fun g60 e61=>?_))
        subst e61
        refine aG (aE ?_)
        have l62:i<(List.take 0 L++V).length:=(by (simp only [List.length_append];omega))
        refine ev_stop (tk_loadE Tryz.tbs_ok (.inr 5) (i) 0 aB rfl rfl rfl rfl rfl (fun _ h=>Row.rd h) (by omega) (fun _=>rfl) (by omega) l62 (by decide) ?_)
        refine aG (aE ?_)
        refine ev_stop (tk_indexE (sz:=6) Tryz.tbs_ok (.inl 0) (i) aB rfl rfl rfl rfl rfl rfl rfl (by omega) rfl (fun _ h=>h) (fun g63 o65 e64=>?_))
        subst e64
        refine aG (aE ?_)
        have l66:i<(L).length:=(by omega)
        refine ev_stop (tk_loadE Tryz.tbs_ok (.inl 0) (i) 0 aB rfl rfl rfl rfl rfl (fun _ h=>h) (by omega) (fun _=>rfl) (by omega) l66 (by decide) ?_)
        refine aG (aE ?_)
        refine ev_stop (tk_val (o:=_) aB rfl rfl (.bq (!(decide (V[i]=L[i])))) trivial (fun a w hF _=>neq_run (ev_denv hF rfl rfl) (ev_denv hF rfl rfl) (by kernel_rfl) (eq_ent V[i] L[i] 9997 w)) ?_)
        refine aG (aE ?_)
        refine ev_if_nd (fun h70=>?_) (fun h70=>?_)
        refine aG ?_
        refine ev_fin ⟨trivial,_,rfl,(()),rfl,(by trivial),Frm.nil _⟩
        refine aG ?_
        refine wN (i+1) ?_
        refine ev_fin (round_next (i+1) (?_:i+1≤cn∧List.take (i+1) L=List.take (i+1) V) (show cn-(i+1)<cn-i from (by omega)) aS)
        have he:V[i]=L[i]:=by simpa using ‹_›
        exact ⟨by omega,by rw [←List.take_append_getElem hiL,←List.take_append_getElem hiV,hE];exact congrArg (fun z=>List.take i V++[z]) he.symm⟩
      obtain rfl:i=cn:=by omega
      exact absurd hE (fun e=>hm7 e (by omega))
    refine aG ?_
    refine ev_new fun b10=>?_
    refine ev_new fun b11=>?_
    refine ev_new fun b12=>?_
    refine aC T1 [] [.inl 0] fun _ h13=>?_
    refine aI ?_
    refine ev_stop (go_draw Tryz.tbs_ok false [0] [(0,true),(1,true),(2,true),(3,true),(4,true),(5,true),(7,true),(8,true),(99,false),(0,true),(0,true),(0,true)] rfl ?_)
    refine aG (aE ?_)
    refine ev_stop (go_fork 6 10 [(9,true),(10,false),(11,false)] [(6,false),(9,false),(11,false)] _ _ ⟨aL,rfl⟩ (by kernel_rfl) rfl rfl rfl rfl ?_ ?_)
    refine aG ?_
    refine ev_stop (go_appendE (sz:=6) (M:=[]) (enc:=encE) Tryz.tbs_ok [] [] (.inl 0) ([]) (L) (L) (m) rfl rfl rfl rfl rfl rfl rfl (by decide) rfl (by decide) (fun _ _=>Row.nil _ _ _) rfl (fun _ h=>h) (by first | rfl | simp) (by first | rfl | omega) (aM (m)) (aN (m)) (fun _ _=>aL) (fun A14 c15 h16=>?_))
    refine aG (aE ?_)
    refine ev_new fun b17=>?_
    refine aE (aK ?_)
    refine aI ?_ (beq_eq_false_iff_ne.2 (show ¬k=1 from (by omega)))
    refine aJ ?_ (beq_iff_eq.2 (by with_reducible assumption))
    refine aI ?_ (beq_eq_false_iff_ne.2 (by with_reducible assumption))
    refine aI ?_ (decide_eq_false (show ¬e<1 from (by omega)))
    refine aI ?_ (decide_eq_false (show ¬e<p from (by omega)))
    refine aI ?_ (decide_eq_false (show ¬e > 1048576 from (by omega)))
    refine aI ?_ (ne_no (by with_reducible assumption))
    refine ev_stop (go_draw Tryz.tbs_ok false [0,1] [(0,true),(1,true),(2,true),(3,true),(5,true),(6,true),(4,false),(7,false),(8,false)] rfl ?_)
    refine aG (aE ?_)
    refine ev_stop (tk_front Tryz.tbs_ok (0) (a) aB rfl rfl rfl rfl rfl rfl rfl ⟨_,rfl⟩ rfl (by decide) (by omega) (by omega) ?_)
    refine aG (aE ?_)
    refine ev_stop (go_appendE (sz:=6) (M:=[]) (enc:=encE) Tryz.tbs_ok [] [] (.inl 0) ([]) (((L).take (0))) (((L).take (0))) (0) rfl rfl rfl rfl rfl rfl rfl (by decide) rfl (by decide) (fun _ _=>Row.nil _ _ _) rfl (fun _ h=>rd_take (k:=0) (fun _=>rfl) h (by omega)) (by first | rfl | simp) (by first | rfl | omega) (aM (0)) (aN (0)) (fun _ _=>aL) (fun A18 c19 h20=>?_))
    refine aG (aE ?_)
    refine ev_stop (go_appendE (sz:=6) (M:=[_]) (enc:=encE) Tryz.tbs_ok [5] [] (.inl 1) (List.take 0 L) (V) ((List.take 0 L)++(V)) (u) rfl rfl rfl rfl rfl rfl rfl (by decide) rfl (by decide) (fun _ p=>starH_one.1 p) rfl (fun _ h=>h) (by first | rfl | simp) (by first | rfl | omega) (aM (u)) (aN (u)) (fun _ _=>aL) (fun A21 c22 h23=>?_))
    refine aG (aE (aK ?_))
    rotate_left
    refine aG ?_
    refine ev_new fun b24=>?_
    refine aE ?_
    refine ev_stop (go_appendE (sz:=6) (M:=[]) (enc:=encE) Tryz.tbs_ok [] [] (.inl 0) ([]) (L) (L) (m) rfl rfl rfl rfl rfl rfl rfl (by decide) rfl (by decide) (fun _ _=>Row.nil _ _ _) rfl (fun _ h=>h) (by first | rfl | simp) (by first | rfl | omega) (aM (m)) (aN (m)) (fun _ _=>aL) (fun A25 c26 h27=>?_))
    refine aG (aE (aE (aK ?_)))
    refine aI ?_ (beq_eq_false_iff_ne.2 (show ¬k=1 from (by omega)))
    refine aJ ?_ (beq_iff_eq.2 (by with_reducible assumption))
    refine aI ?_ (beq_eq_false_iff_ne.2 (by with_reducible assumption))
    refine aI ?_ (decide_eq_false (show ¬e<1 from (by omega)))
    refine aI ?_ (decide_eq_false (show ¬e<p from (by omega)))
    refine aI ?_ (decide_eq_false (show ¬e > 1048576 from (by omega)))
    refine aI ?_ (ne_no (by with_reducible assumption))
    refine ev_stop (go_draw Tryz.tbs_ok false [0,1] [(0,true),(1,true),(2,true),(3,true),(5,true),(6,true),(4,false),(7,false),(8,false)] rfl ?_)
    refine aG (aE ?_)
    refine ev_stop (tk_front Tryz.tbs_ok (0) (a) aB rfl rfl rfl rfl rfl rfl rfl ⟨_,rfl⟩ rfl (by decide) (by omega) (by omega) ?_)
    refine aG (aE ?_)
    refine ev_stop (go_appendE (sz:=6) (M:=[]) (enc:=encE) Tryz.tbs_ok [] [] (.inl 0) ([]) (((L).take (0))) (((L).take (0))) (0) rfl rfl rfl rfl rfl rfl rfl (by decide) rfl (by decide) (fun _ _=>Row.nil _ _ _) rfl (fun _ h=>rd_take (k:=0) (fun _=>rfl) h (by omega)) (by first | rfl | simp) (by first | rfl | omega) (aM (0)) (aN (0)) (fun _ _=>aL) (fun A28 c29 h30=>?_))
    refine aG (aE ?_)
    refine ev_stop (go_appendE (sz:=6) (M:=[_]) (enc:=encE) Tryz.tbs_ok [5] [] (.inl 1) (List.take 0 L) (V) ((List.take 0 L)++(V)) (u) rfl rfl rfl rfl rfl rfl rfl (by decide) rfl (by decide) (fun _ p=>starH_one.1 p) rfl (fun _ h=>h) (by first | rfl | simp) (by first | rfl | omega) (aM (u)) (aN (u)) (fun _ _=>aL) (fun A31 c32 h33=>?_))
    refine aG (aE (aK ?_))
    rotate_left
    · refine aC (T2 (A21) (c22)) [] [.inr 5] fun _ h50=>?_
      refine aI ?_
      refine aJ ?_ (decide_eq_true (show (↑u:Int)<(↑cn:Int) from (by omega)))
      refine ev_fin ⟨trivial,_,rfl,(()),rfl,(by trivial),Frm.nil _⟩
    refine aC (T2 (A31) (c32)) [] [.inr 5] fun _ h50=>?_
    refine aI ?_
    refine aJ ?_ (decide_eq_true (show (↑u:Int)<(↑cn:Int) from (by omega)))
    refine ev_fin ⟨trivial,_,rfl,(()),rfl,(by trivial),Frm.nil _⟩
   |
    false =>
    refine aG ?_
    refine ev_new fun b10=>?_
    refine ev_new fun b11=>?_
    refine ev_new fun b12=>?_
    refine aC T1 [] [.inl 0] fun _ h13=>?_
    refine aI ?_
    refine ev_stop (go_draw Tryz.tbs_ok false [0] [(0,true),(1,true),(2,true),(3,true),(4,true),(5,true),(7,true),(8,true),(99,false),(0,true),(0,true),(0,true)] rfl ?_)
    refine aG (aE ?_)
    refine ev_stop (go_fork 6 10 [(9,true),(10,false),(11,false)] [(6,false),(9,false),(11,false)] _ _ ⟨aL,rfl⟩ (by kernel_rfl) rfl rfl rfl rfl ?_ ?_)
    refine aG ?_
    refine ev_stop (go_appendE (sz:=6) (M:=[]) (enc:=encE) Tryz.tbs_ok [] [] (.inl 0) ([]) (L) (L) (m) rfl rfl rfl rfl rfl rfl rfl (by decide) rfl (by decide) (fun _ _=>Row.nil _ _ _) rfl (fun _ h=>h) (by first | rfl | simp) (by first | rfl | omega) (aM (m)) (aN (m)) (fun _ _=>aL) (fun A14 c15 h16=>?_))
    refine aG (aE ?_)
    refine ev_new fun b17=>?_
    refine aE (aK ?_)
    refine aI ?_ (beq_eq_false_iff_ne.2 (show ¬k=1 from (by omega)))
    refine aJ ?_ (beq_iff_eq.2 (by with_reducible assumption))
    refine aI ?_ (beq_eq_false_iff_ne.2 (by with_reducible assumption))
    refine aI ?_ (decide_eq_false (show ¬e<1 from (by omega)))
    refine aI ?_ (decide_eq_false (show ¬e<p from (by omega)))
    refine aI ?_ (decide_eq_false (show ¬e > 1048576 from (by omega)))
    refine aI ?_ (ne_no (by with_reducible assumption))
    refine ev_stop (go_draw Tryz.tbs_ok false [0,1] [(0,true),(1,true),(2,true),(3,true),(5,true),(6,true),(4,false),(7,false),(8,false)] rfl ?_)
    refine aG (aE ?_)
    refine ev_stop (tk_front Tryz.tbs_ok (0) (a) aB rfl rfl rfl rfl rfl rfl rfl ⟨_,rfl⟩ rfl (by decide) (by omega) (by omega) ?_)
    refine aG (aE ?_)
    refine ev_stop (go_appendE (sz:=6) (M:=[]) (enc:=encE) Tryz.tbs_ok [] [] (.inl 0) ([]) (((L).take (0))) (((L).take (0))) (0) rfl rfl rfl rfl rfl rfl rfl (by decide) rfl (by decide) (fun _ _=>Row.nil _ _ _) rfl (fun _ h=>rd_take (k:=0) (fun _=>rfl) h (by omega)) (by first | rfl | simp) (by first | rfl | omega) (aM (0)) (aN (0)) (fun _ _=>aL) (fun A18 c19 h20=>?_))
    refine aG (aE ?_)
    refine ev_stop (go_appendE (sz:=6) (M:=[_]) (enc:=encE) Tryz.tbs_ok [5] [] (.inl 1) (List.take 0 L) (V) ((List.take 0 L)++(V)) (u) rfl rfl rfl rfl rfl rfl rfl (by decide) rfl (by decide) (fun _ p=>starH_one.1 p) rfl (fun _ h=>h) (by first | rfl | simp) (by first | rfl | omega) (aM (u)) (aN (u)) (fun _ _=>aL) (fun A21 c22 h23=>?_))
    refine aG (aE (aK ?_))
    rotate_left
    refine aG ?_
    refine ev_new fun b24=>?_
    refine aE ?_
    refine ev_stop (go_appendE (sz:=6) (M:=[]) (enc:=encE) Tryz.tbs_ok [] [] (.inl 0) ([]) (L) (L) (m) rfl rfl rfl rfl rfl rfl rfl (by decide) rfl (by decide) (fun _ _=>Row.nil _ _ _) rfl (fun _ h=>h) (by first | rfl | simp) (by first | rfl | omega) (aM (m)) (aN (m)) (fun _ _=>aL) (fun A25 c26 h27=>?_))
    refine aG (aE (aE (aK ?_)))
    refine aI ?_ (beq_eq_false_iff_ne.2 (show ¬k=1 from (by omega)))
    refine aJ ?_ (beq_iff_eq.2 (by with_reducible assumption))
    refine aI ?_ (beq_eq_false_iff_ne.2 (by with_reducible assumption))
    refine aI ?_ (decide_eq_false (show ¬e<1 from (by omega)))
    refine aI ?_ (decide_eq_false (show ¬e<p from (by omega)))
    refine aI ?_ (decide_eq_false (show ¬e > 1048576 from (by omega)))
    refine aI ?_ (ne_no (by with_reducible assumption))
    refine ev_stop (go_draw Tryz.tbs_ok false [0,1] [(0,true),(1,true),(2,true),(3,true),(5,true),(6,true),(4,false),(7,false),(8,false)] rfl ?_)
    refine aG (aE ?_)
    refine ev_stop (tk_front Tryz.tbs_ok (0) (a) aB rfl rfl rfl rfl rfl rfl rfl ⟨_,rfl⟩ rfl (by decide) (by omega) (by omega) ?_)
    refine aG (aE ?_)
    refine ev_stop (go_appendE (sz:=6) (M:=[]) (enc:=encE) Tryz.tbs_ok [] [] (.inl 0) ([]) (((L).take (0))) (((L).take (0))) (0) rfl rfl rfl rfl rfl rfl rfl (by decide) rfl (by decide) (fun _ _=>Row.nil _ _ _) rfl (fun _ h=>rd_take (k:=0) (fun _=>rfl) h (by omega)) (by first | rfl | simp) (by first | rfl | omega) (aM (0)) (aN (0)) (fun _ _=>aL) (fun A28 c29 h30=>?_))
    refine aG (aE ?_)
    refine ev_stop (go_appendE (sz:=6) (M:=[_]) (enc:=encE) Tryz.tbs_ok [5] [] (.inl 1) (List.take 0 L) (V) ((List.take 0 L)++(V)) (u) rfl rfl rfl rfl rfl rfl rfl (by decide) rfl (by decide) (fun _ p=>starH_one.1 p) rfl (fun _ h=>h) (by first | rfl | simp) (by first | rfl | omega) (aM (u)) (aN (u)) (fun _ _=>aL) (fun A31 c32 h33=>?_))
    refine aG (aE (aK ?_))
    rotate_left
    · refine aC (T2 (A21) (c22)) [] [.inr 5] fun _ h50=>?_
      refine aJ ?_
      refine ev_fin ⟨trivial,_,rfl,(()),rfl,(by trivial),Frm.nil _⟩
    refine aC (T2 (A31) (c32)) [] [.inr 5] fun _ h50=>?_
    refine aJ ?_
    refine ev_fin ⟨trivial,_,rfl,(()),rfl,(by trivial),Frm.nil _⟩
 refine aG ?_
 refine ev_new fun b10=>?_
 refine ev_new fun b11=>?_
 refine ev_new fun b12=>?_
 refine aC T1 [] [.inl 0] fun _ h13=>?_
 refine aI ?_
 refine ev_stop (go_draw Tryz.tbs_ok false [0] [(0,true),(1,true),(2,true),(3,true),(4,true),(5,true),(7,true),(8,true),(99,false),(0,true),(0,true),(0,true)] rfl ?_)
 refine aG (aE ?_)
 refine ev_stop (go_fork 6 10 [(9,true),(10,false),(11,false)] [(6,false),(9,false),(11,false)] _ _ ⟨aL,rfl⟩ (by kernel_rfl) rfl rfl rfl rfl ?_ ?_)
 refine aG ?_
 refine ev_stop (go_appendE (sz:=6) (M:=[]) (enc:=encE) Tryz.tbs_ok [] [] (.inl 0) ([]) (L) (L) (m) rfl rfl rfl rfl rfl rfl rfl (by decide) rfl (by decide) (fun _ _=>Row.nil _ _ _) rfl (fun _ h=>h) (by first | rfl | simp) (by first | rfl | omega) (aM (m)) (aN (m)) (fun _ _=>aL) (fun A14 c15 h16=>?_))
 refine aG (aE ?_)
 refine ev_new fun b17=>?_
 refine aE (aK ?_)
 refine aI ?_ (beq_eq_false_iff_ne.2 (show ¬k=1 from (by omega)))
 refine aJ ?_ (beq_iff_eq.2 (by with_reducible assumption))
 refine aI ?_ (beq_eq_false_iff_ne.2 (by with_reducible assumption))
 refine ev_if_lt (fun h18=>?_) (fun h18=>?_)
 refine aG ?_
 refine ev_fin ⟨trivial,_,rfl,(()),rfl,(by trivial),Frm.nil _⟩
 refine aG ?_
 refine ev_if_lt (fun h19=>?_) (fun h19=>?_)
 refine aG ?_
 refine ev_fin ⟨trivial,_,rfl,(()),rfl,(by trivial),Frm.nil _⟩
 refine aG ?_
 refine ev_if_lt (fun h20=>?_) (fun h20=>?_)
 refine aG ?_
 refine ev_fin ⟨trivial,_,rfl,(()),rfl,(by trivial),Frm.nil _⟩
 refine aG ?_
 refine aJ ?_ (ne_yes (show ¬f=0 from (by omega)))
 refine ev_fin ⟨trivial,_,rfl,(()),rfl,(by trivial),Frm.nil _⟩
 refine aG ?_
 refine ev_new fun b21=>?_
 refine aE ?_
 refine ev_stop (go_appendE (sz:=6) (M:=[]) (enc:=encE) Tryz.tbs_ok [] [] (.inl 0) ([]) (L) (L) (m) rfl rfl rfl rfl rfl rfl rfl (by decide) rfl (by decide) (fun _ _=>Row.nil _ _ _) rfl (fun _ h=>h) (by first | rfl | simp) (by first | rfl | omega) (aM (m)) (aN (m)) (fun _ _=>aL) (fun A22 c23 h24=>?_))
 refine aG (aE (aE (aK ?_)))
 refine aI ?_ (beq_eq_false_iff_ne.2 (show ¬k=1 from (by omega)))
 refine aJ ?_ (beq_iff_eq.2 (by with_reducible assumption))
 refine aI ?_ (beq_eq_false_iff_ne.2 (by with_reducible assumption))
 refine ev_if_lt (fun h25=>?_) (fun h25=>?_)
 refine aG ?_
 refine ev_fin ⟨trivial,_,rfl,(()),rfl,(by trivial),Frm.nil _⟩
 refine aG ?_
 refine ev_if_lt (fun h26=>?_) (fun h26=>?_)
 refine aG ?_
 refine ev_fin ⟨trivial,_,rfl,(()),rfl,(by trivial),Frm.nil _⟩
 refine aG ?_
 refine ev_if_lt (fun h27=>?_) (fun h27=>?_)
 refine aG ?_
 refine ev_fin ⟨trivial,_,rfl,(()),rfl,(by trivial),Frm.nil _⟩
 refine aG ?_
 refine aJ ?_ (ne_yes (show ¬f=0 from (by omega)))
 refine ev_fin ⟨trivial,_,rfl,(()),rfl,(by trivial),Frm.nil _⟩
 all_goals (exfalso;omega)
def refV (x:StaS) (sure:Nat) (dirty:Bool):List SV:=svG x.r0++(svG x.r1++(svG x.r2++(svG x.r3++[vL x.A x.F.length x.c,vI (sure:Nat),.bq dirty])))
def RefP (r:Nat) (x:StaS) (sure:Nat) (dirty:Bool):Asn:=Pt r 36 (SV.denL (refV x sure dirty))
def RegsA (x:StaS):Asn:=⟨fun h=>∀ y∈x.regs,y.own.holds h,fun e p y hy=>y.own.mono e (p y hy)⟩
def FeedA (x:StaS):Asn:=Row 72 2 x.A x.F.length x.c (x.F.flatMap encP)
theorem row_own {y:RegS} {h k:Hp} (hk:k.le h) (q:(Row 101 6 y.A y.r.L.length y.a (y.r.L.flatMap encE)).holds k):y.own.holds h:=Asn.mono _ hk ⟨Row.rd q,Row.cap q⟩
def RowG (y:RegS):Asn:=Row 101 6 y.A y.r.L.length y.a (y.r.L.flatMap encE)
theorem regsA_of {x:StaS} {h:Hp} (q:Asn.starH [RowG x.r0,RowG x.r1,RowG x.r2,RowG x.r3] h):(RegsA x).holds h:=fun y hy=>by
 simp only [StaS.regs,List.mem_cons,List.not_mem_nil,or_false] at hy
 rcases hy with rfl | rfl | rfl | rfl<;>exact row_own (Hp.le_refl _) (starH_mem (A:=RowG _) (by simp) q)
theorem regs_made {P Q F:Asn} {x:StaS} {h:Hp} (q:Asn.starH [P,Q,RowG x.r0,RowG x.r1,RowG x.r2,RowG x.r3,F] h):Asn.starH [P,Q,RegsA x,F] h:=by
 obtain ⟨h1,h2,d,a,b,p,h3,h4,d2,a2,b2,p2,q2⟩:=q
 obtain ⟨g1,g2,d3,a3,b3,q3,q4⟩:=(starH_append [RowG x.r0,RowG x.r1,RowG x.r2,RowG x.r3] [F]).1 q2
 exact ⟨h1,h2,d,a,b,p,h3,h4,d2,a2,b2,p2,g1,g2,d3,a3,b3,regsA_of q3,q4⟩
set_option maxHeartbeats 4000000 in
theorem rCloneT (r:Nat) (x:StaS) (sure:Nat) (dirty:Bool) (hx:okS x.abs):Triple Tryz.prog 18 [pP r] [RefP r x sure dirty] [x.rd] (Nat × StaS) (fun (c,_)=>.pointer (some ⟨c,0,none⟩)) (fun (_,X)=>X.abs=x.abs) (fun (c,X)=>[RefP r x sure dirty,RefP c X sure dirty,RegsA X,FeedA X]):=by
 have hl:=fun (j:Nat) (g:RegS) (hg:x.regs[j]? = some g)=>reg_len hx hg
 have l0:=hl 0 x.r0 rfl
 have l1:=hl 1 x.r1 rfl
 have l2:=hl 2 x.r2 rfl
 have l3:=hl 3 x.r3 rfl
 have hF:x.F.length≤256:=(feed_small hx).1
 refine triple_intro Tryz.tbs_ok Tryz.func18 rfl [.pt 0 r 0] [.box r 36 (refV x sure dirty)] ⟨rfl,trivial⟩ rfl (by simp [refV,svG,SV.good,SV.goodL]) ?_
 intro E
 refine go_more 0 x.rd (Rd 6 x.r0.A x.r0.r.L.length (x.r0.r.L.flatMap encE)) rfl (fun h p=>(p.1 x.r0 (by simp [StaS.regs])).1) ?_
 refine go_more 0 x.rd (Rd 6 x.r1.A x.r1.r.L.length (x.r1.r.L.flatMap encE)) rfl (fun h p=>(p.1 x.r1 (by simp [StaS.regs])).1) ?_
 refine go_more 0 x.rd (Rd 6 x.r2.A x.r2.r.L.length (x.r2.r.L.flatMap encE)) rfl (fun h p=>(p.1 x.r2 (by simp [StaS.regs])).1) ?_
 refine go_more 0 x.rd (Rd 6 x.r3.A x.r3.r.L.length (x.r3.r.L.flatMap encE)) rfl (fun h p=>(p.1 x.r3 (by simp [StaS.regs])).1) ?_
 refine go_more 0 x.rd (Rd 2 x.A x.F.length (x.F.flatMap encP)) rfl (fun h p=>p.2.1) ?_
 refine aG ?_
 refine ev_new fun b10=>?_
 refine ev_stop (go_rounds 5 ?_)
 refine aG (aJ ?_)
 refine ev_stop (go_indexArr Tryz.tbs_ok (0) rfl rfl rfl rfl rfl rfl (by first | decide | omega) rfl rfl ?_)
 refine aG ?_
 refine ev_stop (go_appendE (sz:=6) (M:=[]) (enc:=encE) Tryz.tbs_ok [] [] (.inl 1) ([]) (x.r0.r.L) (x.r0.r.L) (x.r0.r.L.length) rfl rfl rfl rfl rfl rfl rfl (by decide) rfl (by decide) (fun _ _=>Row.nil _ _ _) rfl (fun _ h=>h) (by first | rfl | simp) (by first | rfl | omega) (aM (x.r0.r.L.length)) (aN (x.r0.r.L.length)) (fun _ _=>aL) (fun A30 c31 h32=>?_))
 refine aG ?_
 refine ev_stop (go_indexArr Tryz.tbs_ok (0) rfl rfl rfl rfl rfl rfl (by first | decide | omega) rfl rfl ?_)
 refine aG ?_
 refine wN (0+1) ?_
 refine ev_fin (go Tryz.tbs_ok 1000 ?_)
 refine aJ ?_
 refine ev_stop (go_indexArr Tryz.tbs_ok (0+1) rfl rfl rfl rfl rfl rfl (by first | decide | omega) rfl rfl ?_)
 refine aG ?_
 refine ev_stop (go_appendE (sz:=6) (M:=[]) (enc:=encE) Tryz.tbs_ok [] [] (.inl 2) ([]) (x.r1.r.L) (x.r1.r.L) (x.r1.r.L.length) rfl rfl rfl rfl rfl rfl rfl (by decide) rfl (by decide) (fun _ _=>Row.nil _ _ _) rfl (fun _ h=>h) (by first | rfl | simp) (by first | rfl | omega) (aM (x.r1.r.L.length)) (aN (x.r1.r.L.length)) (fun _ _=>aL) (fun A33 c34 h35=>?_))
 refine aG ?_
 refine ev_stop (go_indexArr Tryz.tbs_ok (0+1) rfl rfl rfl rfl rfl rfl (by first | decide | omega) rfl rfl ?_)
 refine aG ?_
 refine wN (0+1+1) ?_
 refine ev_fin (go Tryz.tbs_ok 1000 ?_)
 refine aJ ?_
 refine ev_stop (go_indexArr Tryz.tbs_ok (0+1+1) rfl rfl rfl rfl rfl rfl (by first | decide | omega) rfl rfl ?_)
 refine aG ?_
 refine ev_stop (go_appendE (sz:=6) (M:=[]) (enc:=encE) Tryz.tbs_ok [] [] (.inl 3) ([]) (x.r2.r.L) (x.r2.r.L) (x.r2.r.L.length) rfl rfl rfl rfl rfl rfl rfl (by decide) rfl (by decide) (fun _ _=>Row.nil _ _ _) rfl (fun _ h=>h) (by first | rfl | simp) (by first | rfl | omega) (aM (x.r2.r.L.length)) (aN (x.r2.r.L.length)) (fun _ _=>aL) (fun A36 c37 h38=>?_))
 refine aG ?_
 refine ev_stop (go_indexArr Tryz.tbs_ok (0+1+1) rfl rfl rfl rfl rfl rfl (by first | decide | omega) rfl rfl ?_)
 refine aG ?_
 refine wN (0+1+1+1) ?_
 refine ev_fin (go Tryz.tbs_ok 1000 ?_)
 refine aJ ?_
 refine ev_stop (go_indexArr Tryz.tbs_ok (0+1+1+1) rfl rfl rfl rfl rfl rfl (by first | decide | omega) rfl rfl ?_)
 refine aG ?_
 refine ev_stop (go_appendE (sz:=6) (M:=[]) (enc:=encE) Tryz.tbs_ok [] [] (.inl 4) ([]) (x.r3.r.L) (x.r3.r.L) (x.r3.r.L.length) rfl rfl rfl rfl rfl rfl rfl (by decide) rfl (by decide) (fun _ _=>Row.nil _ _ _) rfl (fun _ h=>h) (by first | rfl | simp) (by first | rfl | omega) (aM (x.r3.r.L.length)) (aN (x.r3.r.L.length)) (fun _ _=>aL) (fun A39 c40 h41=>?_))
 refine aG ?_
 refine ev_stop (go_indexArr Tryz.tbs_ok (0+1+1+1) rfl rfl rfl rfl rfl rfl (by first | decide | omega) rfl rfl ?_)
 refine aG ?_
 refine wN (0+1+1+1+1) ?_
 refine ev_fin (go Tryz.tbs_ok 1000 ?_)
 refine aI ?_
 refine ev_fin (go Tryz.tbs_ok 1000 ?_)
 refine ev_stop (go_appendE (sz:=2) (M:=[]) (enc:=encP) Tryz.tbs_ok [] [] (.inl 5) ([]) (x.F) (x.F) (x.F.length) rfl rfl rfl rfl rfl rfl rfl (by decide) rfl (by decide) (fun _ _=>Row.nil _ _ _) rfl (fun _ h=>h) (by first | rfl | simp) (by first | rfl | omega) (aM (x.F.length)) (aN (x.F.length)) (fun _ _=>aL) (fun A45 c46 h47=>?_))
 refine aG ?_
 exact ev_fin ⟨trivial,_,rfl,(b10,⟨⟨x.r0.r,A30,c31⟩,⟨x.r1.r,A33,c34⟩,⟨x.r2.r,A36,c37⟩,⟨x.r3.r,A39,c40⟩,x.F,A45,c46⟩),rfl,rfl,Frm.imp (M:=[RefP r x sure dirty,RefP b10 ⟨⟨x.r0.r,A30,c31⟩,⟨x.r1.r,A33,c34⟩,⟨x.r2.r,A36,c37⟩,⟨x.r3.r,A39,c40⟩,x.F,A45,c46⟩ sure dirty,RowG ⟨x.r0.r,A30,c31⟩,RowG ⟨x.r1.r,A33,c34⟩,RowG ⟨x.r2.r,A36,c37⟩,RowG ⟨x.r3.r,A39,c40⟩,FeedA ⟨⟨x.r0.r,A30,c31⟩,⟨x.r1.r,A33,c34⟩,⟨x.r2.r,A36,c37⟩,⟨x.r3.r,A39,c40⟩,x.F,A45,c46⟩]) [0,1,2,3,4,5,6] rfl (by decide) (fun h q=>regs_made q)⟩
theorem rOneBad (c:Nat) (x:StaS) (sure:Nat) (dirty:Bool) (y:RecS) (hl:y.r.L.length≤1000000) (h:y.r.k=4∨y.r.k=5∨¬ (0≤y.r.s∧y.r.s<4)∨mayR y.r=false) :
 Triple Tryz.prog 35 [pP c,.agg (encR y).toArray] [RefP c x sure dirty] [y.rdL] Unit (fun _=>.bool false) (fun _=>True) (fun _=>[RefP c x sure dirty]):=by
 have T1:=fun h4 h5=>rCheckR y h4 h5 hl
 obtain ⟨w,hw⟩:∃ w,w=mayR y.r:=⟨_,rfl⟩
 rw [←hw] at T1 h
 clear hw
 obtain ⟨⟨k,s,e,v,f,n,L,F⟩,A,a,B,b⟩:=y
 unfold encR RecS.rdL at *
 simp only at T1 h ⊢
 refine triple_intro Tryz.tbs_ok Tryz.func35 rfl [.pt 0 c 0,.ag [vI k,vI s,vI e,vI v,vI f,vI n,vL A L.length a,vL B F.length b]] [.box c 36 (refV x sure dirty)] ⟨rfl,⟨trivial,trivial,trivial,trivial,trivial,trivial,trivial,trivial,trivial⟩,trivial⟩ rfl (by simp [refV,svG,SV.good,SV.goodL]) ?_
 intro E
 by_cases h4:k=4
 · refine aG ?_
   refine ev_new fun b10=>?_
   refine aJ ?_ (beq_iff_eq.2 (by with_reducible assumption))
   exact ev_fin ⟨trivial,_,rfl,(),rfl,by trivial,aF [0]⟩
 by_cases h5:k=5
 · refine aG ?_
   refine ev_new fun b10=>?_
   refine aI ?_ (beq_eq_false_iff_ne.2 (by with_reducible assumption))
   refine aJ ?_ (beq_iff_eq.2 (by with_reducible assumption))
   exact ev_fin ⟨trivial,_,rfl,(),rfl,by trivial,aF [0]⟩
 by_cases hs:0≤s∧s<4
 · obtain rfl:w=false:=(h.resolve_left h4).resolve_left h5 |>.resolve_left (fun q=>q hs)
   have T2:=T1 h4 h5
   rw [if_neg (by decide)] at T2
   refine aG ?_
   refine ev_new fun b10=>?_
   refine aI ?_ (beq_eq_false_iff_ne.2 (by with_reducible assumption))
   refine aI ?_ (beq_eq_false_iff_ne.2 (by with_reducible assumption))
   refine aI ?_ (decide_eq_false (show ¬s<0 from (by omega)))
   refine aI ?_ (decide_eq_false (show ¬s ≥ 4 from (by omega)))
   refine aC T2 [] [.inl 0] fun _ h11=>?_
   refine aJ ?_
   exact ev_fin ⟨trivial,_,rfl,(),rfl,by trivial,aF [0]⟩
 refine aG ?_
 refine ev_new fun b10=>?_
 refine aI ?_ (beq_eq_false_iff_ne.2 (by with_reducible assumption))
 refine aI ?_ (beq_eq_false_iff_ne.2 (by with_reducible assumption))
 refine ev_if_lt (fun h11=>?_) (fun h11=>?_)
 refine aG ?_
 exact ev_fin ⟨trivial,_,rfl,(),rfl,by trivial,aF [0]⟩
 refine aG ?_
 refine aJ ?_ (decide_eq_true (show s ≥ 4 from (by omega)))
 exact ev_fin ⟨trivial,_,rfl,(),rfl,by trivial,aF [0]⟩
 all_goals (exfalso;omega)
set_option maxHeartbeats 8000000 in
theorem rOneNo (c:Nat) (x:StaS) (sure:Nat) (dirty:Bool) (y:RecS) (hk:y.r.k=1∨y.r.k=2∨y.r.k=3) (hm:mayR y.r=true) (hl:y.r.L.length≤2000) (j:Nat) (hj:j<4) (hs:y.r.s=(j:Int)) (g:RegS) (hg:x.regs[j]? = some g) (ho:okR g.r=true) (h:applyR g.r y.r=none) :
 Triple Tryz.prog 35 [pP c,.agg (encR y).toArray] [RefP c x sure dirty] [RegsA x,y.rdL] Unit (fun _=>.bool false) (fun _=>True) (fun _=>[RefP c x sure dirty]):=by
 have T1:=rCheckR y (by omega) (by omega) (by omega)
 rw [hm,if_pos rfl] at T1
 have T2:g.r.L.length≤g.a→Triple Tryz.prog 68 [.agg (encG g).toArray,.agg (encR y).toArray] [] [RegsA x,y.rdL] Unit (fun _=>.tuple #[.agg (encG ⟨noReg,none,0⟩).toArray,.bool false]) (fun _=>True) (fun _=>[]):=fun ha=>by
  rcases hk with q | q | q
  · exact (rNo13 g y ho (.inl q) h).reads fun X hX=>by
     rw [List.mem_singleton.1 hX]
     exact ⟨_,List.mem_cons_self,fun _ q=>(q g (List.mem_of_getElem? hg)).1⟩
  · exact (rNo2 g y ho q hl ha h).reads fun X hX=>by
     simp only [List.mem_cons,List.not_mem_nil,or_false] at hX
     rcases hX with rfl | rfl
     · exact ⟨_,List.mem_cons_self,fun _ q=>(q g (List.mem_of_getElem? hg)).1⟩
     exact ⟨_,List.mem_cons_of_mem _ List.mem_cons_self,fun _ q=>q⟩
  exact (rNo13 g y ho (.inr q) h).reads fun X hX=>by
   rw [List.mem_singleton.1 hX]
   exact ⟨_,List.mem_cons_self,fun _ q=>(q g (List.mem_of_getElem? hg)).1⟩
 obtain ⟨⟨k,s,e,v,f,n,L,F⟩,A,a,B,b⟩:=y
 unfold encR RecS.rdL at *
 simp only at T1 T2 h hs hk ⊢
 refine triple_intro Tryz.tbs_ok Tryz.func35 rfl [.pt 0 c 0,.ag [vI k,vI s,vI e,vI v,vI f,vI n,vL A L.length a,vL B F.length b]] [.box c 36 (refV x sure dirty)] ⟨rfl,⟨trivial,trivial,trivial,trivial,trivial,trivial,trivial,trivial,trivial⟩,trivial⟩ rfl (by simp [refV,svG,SV.good,SV.goodL]) ?_
 intro E
 refine go_know (.inl 0) (RegsA x) rfl (p:=g.r.L.length≤g.a) (fun h p=>(p g (List.mem_of_getElem? hg)).2) fun ha=>?_
 have T3:=T2 ha
 refine aG ?_
 rcases (show j=0∨j=1∨j=2∨j=3 by omega) with rfl | rfl | rfl | rfl
 · obtain rfl:x.r0=g:=Option.some.inj hg
   refine ev_new fun b10=>?_
   refine aI ?_ (beq_eq_false_iff_ne.2 (show ¬k=4 from (by omega)))
   refine aI ?_ (beq_eq_false_iff_ne.2 (show ¬k=5 from (by omega)))
   refine aI ?_ (decide_eq_false (show ¬s<0 from (by omega)))
   refine aI ?_ (decide_eq_false (show ¬s ≥ 4 from (by omega)))
   refine aC T1 [] [.inl 1] fun _ h11=>?_
   refine aI ?_
   refine ev_stop (go_draw Tryz.tbs_ok false [0,1] [(0,true),(1,true),(2,true),(3,true),(4,true),(5,true),(6,true),(7,true),(8,false)] rfl ?_)
   refine aG (aE ?_)
   refine ev_stop (go_slot 34 _ (.va (.int IntKind.i64 ((0:Nat):Int))) rfl rfl (congrArg (fun z=>Value.int IntKind.i64 z) (show s=((0:Nat):Int) by first | omega | (simp only [List.getElem_set_self];omega))) (fun _=>trivial) ?_)
   refine aG (aE ?_)
   refine ev_stop (tk_indexArr Tryz.tbs_ok (0) aB rfl rfl rfl rfl rfl rfl rfl (by first | decide | omega) rfl rfl ?_)
   refine aG (aE (aK ?_))
   refine ev_stop (go_draw Tryz.tbs_ok false [0,1] [(0,true),(1,true),(2,true),(3,true),(4,true),(5,true),(6,true),(7,true),(99,false),(0,true),(0,true),(0,true),(0,true),(0,true),(0,true)] rfl ?_)
   refine aG (aE ?_)
   refine ev_stop (go_slot 43 _ (.va (.int IntKind.i64 ((0:Nat):Int))) rfl rfl (congrArg (fun z=>Value.int IntKind.i64 z) (show s=((0:Nat):Int) by first | omega | (simp only [List.getElem_set_self];omega))) (fun _=>trivial) ?_)
   refine aG (aE ?_)
   refine ev_stop (tk_indexArr Tryz.tbs_ok (0) aB rfl rfl rfl rfl rfl rfl rfl (by first | decide | omega) rfl rfl ?_)
   refine aG (aE ?_)
   refine ev_stop (go_fork 8 12 [(9,true),(10,true),(11,true),(12,false),(13,false),(14,false)] [(8,false),(9,false),(10,true),(11,true),(13,false),(14,false)] _ _ ⟨aL,rfl⟩ (by kernel_rfl) rfl rfl rfl rfl ?_ ?_)
   refine aG ?_
   refine aC T3 [] [.inl 0,.inl 1] fun _ h12=>?_
   refine aE ?_
   refine ev_new fun b13=>?_
   refine aE (aE (aK (aJ ?_)))
   exact ev_fin ⟨trivial,_,rfl,(),rfl,by trivial,aF [0]⟩
   refine aG ?_
   refine ev_new fun b14=>?_
   refine aE ?_
   refine aC T3 [] [.inl 0,.inl 1] fun _ h15=>?_
   refine aE (aE (aE (aK (aJ ?_))))
   exact ev_fin ⟨trivial,_,rfl,(),rfl,by trivial,aF [0]⟩
 · obtain rfl:x.r1=g:=Option.some.inj hg
   refine ev_new fun b10=>?_
   refine aI ?_ (beq_eq_false_iff_ne.2 (show ¬k=4 from (by omega)))
   refine aI ?_ (beq_eq_false_iff_ne.2 (show ¬k=5 from (by omega)))
   refine aI ?_ (decide_eq_false (show ¬s<0 from (by omega)))
   refine aI ?_ (decide_eq_false (show ¬s ≥ 4 from (by omega)))
   refine aC T1 [] [.inl 1] fun _ h11=>?_
   refine aI ?_
   refine ev_stop (go_draw Tryz.tbs_ok false [0,1] [(0,true),(1,true),(2,true),(3,true),(4,true),(5,true),(6,true),(7,true),(8,false)] rfl ?_)
   refine aG (aE ?_)
   refine ev_stop (go_slot 34 _ (.va (.int IntKind.i64 ((1:Nat):Int))) rfl rfl (congrArg (fun z=>Value.int IntKind.i64 z) (show s=((1:Nat):Int) by first | omega | (simp only [List.getElem_set_self];omega))) (fun _=>trivial) ?_)
   refine aG (aE ?_)
   refine ev_stop (tk_indexArr Tryz.tbs_ok (1) aB rfl rfl rfl rfl rfl rfl rfl (by first | decide | omega) rfl rfl ?_)
   refine aG (aE (aK ?_))
   refine ev_stop (go_draw Tryz.tbs_ok false [0,1] [(0,true),(1,true),(2,true),(3,true),(4,true),(5,true),(6,true),(7,true),(99,false),(0,true),(0,true),(0,true),(0,true),(0,true),(0,true)] rfl ?_)
   refine aG (aE ?_)
   refine ev_stop (go_slot 43 _ (.va (.int IntKind.i64 ((1:Nat):Int))) rfl rfl (congrArg (fun z=>Value.int IntKind.i64 z) (show s=((1:Nat):Int) by first | omega | (simp only [List.getElem_set_self];omega))) (fun _=>trivial) ?_)
   refine aG (aE ?_)
   refine ev_stop (tk_indexArr Tryz.tbs_ok (1) aB rfl rfl rfl rfl rfl rfl rfl (by first | decide | omega) rfl rfl ?_)
   refine aG (aE ?_)
   refine ev_stop (go_fork 8 12 [(9,true),(10,true),(11,true),(12,false),(13,false),(14,false)] [(8,false),(9,false),(10,true),(11,true),(13,false),(14,false)] _ _ ⟨aL,rfl⟩ (by kernel_rfl) rfl rfl rfl rfl ?_ ?_)
   refine aG ?_
   refine aC T3 [] [.inl 0,.inl 1] fun _ h12=>?_
   refine aE ?_
   refine ev_new fun b13=>?_
   refine aE (aE (aK (aJ ?_)))
   exact ev_fin ⟨trivial,_,rfl,(),rfl,by trivial,aF [0]⟩
   refine aG ?_
   refine ev_new fun b14=>?_
   refine aE ?_
   refine aC T3 [] [.inl 0,.inl 1] fun _ h15=>?_
   refine aE (aE (aE (aK (aJ ?_))))
   exact ev_fin ⟨trivial,_,rfl,(),rfl,by trivial,aF [0]⟩
 · obtain rfl:x.r2=g:=Option.some.inj hg
   refine ev_new fun b10=>?_
   refine aI ?_ (beq_eq_false_iff_ne.2 (show ¬k=4 from (by omega)))
   refine aI ?_ (beq_eq_false_iff_ne.2 (show ¬k=5 from (by omega)))
   refine aI ?_ (decide_eq_false (show ¬s<0 from (by omega)))
   refine aI ?_ (decide_eq_false (show ¬s ≥ 4 from (by omega)))
   refine aC T1 [] [.inl 1] fun _ h11=>?_
   refine aI ?_
   refine ev_stop (go_draw Tryz.tbs_ok false [0,1] [(0,true),(1,true),(2,true),(3,true),(4,true),(5,true),(6,true),(7,true),(8,false)] rfl ?_)
   refine aG (aE ?_)
   refine ev_stop (go_slot 34 _ (.va (.int IntKind.i64 ((2:Nat):Int))) rfl rfl (congrArg (fun z=>Value.int IntKind.i64 z) (show s=((2:Nat):Int) by first | omega | (simp only [List.getElem_set_self];omega))) (fun _=>trivial) ?_)
   refine aG (aE ?_)
   refine ev_stop (tk_indexArr Tryz.tbs_ok (2) aB rfl rfl rfl rfl rfl rfl rfl (by first | decide | omega) rfl rfl ?_)
   refine aG (aE (aK ?_))
   refine ev_stop (go_draw Tryz.tbs_ok false [0,1] [(0,true),(1,true),(2,true),(3,true),(4,true),(5,true),(6,true),(7,true),(99,false),(0,true),(0,true),(0,true),(0,true),(0,true),(0,true)] rfl ?_)
   refine aG (aE ?_)
   refine ev_stop (go_slot 43 _ (.va (.int IntKind.i64 ((2:Nat):Int))) rfl rfl (congrArg (fun z=>Value.int IntKind.i64 z) (show s=((2:Nat):Int) by first | omega | (simp only [List.getElem_set_self];omega))) (fun _=>trivial) ?_)
   refine aG (aE ?_)
   refine ev_stop (tk_indexArr Tryz.tbs_ok (2) aB rfl rfl rfl rfl rfl rfl rfl (by first | decide | omega) rfl rfl ?_)
   refine aG (aE ?_)
   refine ev_stop (go_fork 8 12 [(9,true),(10,true),(11,true),(12,false),(13,false),(14,false)] [(8,false),(9,false),(10,true),(11,true),(13,false),(14,false)] _ _ ⟨aL,rfl⟩ (by kernel_rfl) rfl rfl rfl rfl ?_ ?_)
   refine aG ?_
   refine aC T3 [] [.inl 0,.inl 1] fun _ h12=>?_
   refine aE ?_
   refine ev_new fun b13=>?_
   refine aE (aE (aK (aJ ?_)))
   exact ev_fin ⟨trivial,_,rfl,(),rfl,by trivial,aF [0]⟩
   refine aG ?_
   refine ev_new fun b14=>?_
   refine aE ?_
   refine aC T3 [] [.inl 0,.inl 1] fun _ h15=>?_
   refine aE (aE (aE (aK (aJ ?_))))
   exact ev_fin ⟨trivial,_,rfl,(),rfl,by trivial,aF [0]⟩
 obtain rfl:x.r3=g:=Option.some.inj hg
 refine ev_new fun b10=>?_
 refine aI ?_ (beq_eq_false_iff_ne.2 (show ¬k=4 from (by omega)))
 refine aI ?_ (beq_eq_false_iff_ne.2 (show ¬k=5 from (by omega)))
 refine aI ?_ (decide_eq_false (show ¬s<0 from (by omega)))
 refine aI ?_ (decide_eq_false (show ¬s ≥ 4 from (by omega)))
 refine aC T1 [] [.inl 1] fun _ h11=>?_
 refine aI ?_
 refine ev_stop (go_draw Tryz.tbs_ok false [0,1] [(0,true),(1,true),(2,true),(3,true),(4,true),(5,true),(6,true),(7,true),(8,false)] rfl ?_)
 refine aG (aE ?_)
 refine ev_stop (go_slot 34 _ (.va (.int IntKind.i64 ((3:Nat):Int))) rfl rfl (congrArg (fun z=>Value.int IntKind.i64 z) (show s=((3:Nat):Int) by first | omega | (simp only [List.getElem_set_self];omega))) (fun _=>trivial) ?_)
 refine aG (aE ?_)
 refine ev_stop (tk_indexArr Tryz.tbs_ok (3) aB rfl rfl rfl rfl rfl rfl rfl (by first | decide | omega) rfl rfl ?_)
 refine aG (aE (aK ?_))
 refine ev_stop (go_draw Tryz.tbs_ok false [0,1] [(0,true),(1,true),(2,true),(3,true),(4,true),(5,true),(6,true),(7,true),(99,false),(0,true),(0,true),(0,true),(0,true),(0,true),(0,true)] rfl ?_)
 refine aG (aE ?_)
 refine ev_stop (go_slot 43 _ (.va (.int IntKind.i64 ((3:Nat):Int))) rfl rfl (congrArg (fun z=>Value.int IntKind.i64 z) (show s=((3:Nat):Int) by first | omega | (simp only [List.getElem_set_self];omega))) (fun _=>trivial) ?_)
 refine aG (aE ?_)
 refine ev_stop (tk_indexArr Tryz.tbs_ok (3) aB rfl rfl rfl rfl rfl rfl rfl (by first | decide | omega) rfl rfl ?_)
 refine aG (aE ?_)
 refine ev_stop (go_fork 8 12 [(9,true),(10,true),(11,true),(12,false),(13,false),(14,false)] [(8,false),(9,false),(10,true),(11,true),(13,false),(14,false)] _ _ ⟨aL,rfl⟩ (by kernel_rfl) rfl rfl rfl rfl ?_ ?_)
 refine aG ?_
 refine aC T3 [] [.inl 0,.inl 1] fun _ h12=>?_
 refine aE ?_
 refine ev_new fun b13=>?_
 refine aE (aE (aK (aJ ?_)))
 exact ev_fin ⟨trivial,_,rfl,(),rfl,by trivial,aF [0]⟩
 refine aG ?_
 refine ev_new fun b14=>?_
 refine aE ?_
 refine aC T3 [] [.inl 0,.inl 1] fun _ h15=>?_
 refine aE (aE (aE (aK (aJ ?_))))
 exact ev_fin ⟨trivial,_,rfl,(),rfl,by trivial,aF [0]⟩
theorem applyR_c {r z:Reg} {y:Rec} (h4:y.k≠4) (h:applyR r y=some z):r.c≤z.c∧(y.k≠3→z.c=r.c):=by
 obtain ⟨ho,_⟩:=applyR_ok h
 unfold applyR at h
 rw [if_neg (by rw [ho];decide),if_neg h4] at h
 split at h
 · rw [Option.ite_none_right_eq_some] at h
   cases h.2
   exact ⟨Int.le_refl _,fun _=>rfl⟩
 split at h
 · rw [Option.ite_none_right_eq_some] at h
   cases h.2
   exact ⟨Int.le_refl _,fun _=>rfl⟩
 split at h
 · rename_i h3
   rw [Option.ite_none_right_eq_some] at h
   obtain ⟨q,e⟩:=h
   cases e
   exact ⟨Int.le_of_lt q.1,fun q=>absurd h3 q⟩
 cases h
theorem regs_put {P F:Asn} {x X:StaS} {g:RegS} {j:Nat} (hX:X.regs=x.regs.set j g) {h:Hp} (q:Asn.starH [P,RegsA x,RowG g,F] h):Asn.starH [P,RegsA X,F] h:=by
 obtain ⟨h1,h2,d,a,b,p,q2⟩:=q
 obtain ⟨g1,g2,d3,a3,b3,q3,q4⟩:=(starH_append [RegsA x,RowG g] [F]).1 q2
 refine ⟨h1,h2,d,a,b,p,g1,g2,d3,a3,b3,fun y hy=>?_,q4⟩
 obtain ⟨h5,h6,_,a5,a6,p5,p6⟩:=q3
 rw [hX] at hy
 rcases List.mem_or_eq_of_mem_set hy with hy | rfl
 · exact y.own.mono a5 (p5 y hy)
 exact row_own a6 (starH_one.1 p6)
theorem spots_len (s a:Int):∀ k,(spots s a k).length=k
 | 0=>rfl
 | k+1=>by rw [spots,List.length_append,spots_len s a k];rfl
theorem spots_next {F M:List Spt} {s:Int} {c i:Nat} (hM:M=F++spots s (c:Int) (i-c)) (hi:c≤i):M++[⟨s,(i:Int)⟩]=F++spots s (c:Int) (i+1-c):=by
 rw [show i+1-c=(i-c)+1 by omega,spots,←List.append_assoc,←hM,show (c:Int)+((i-c:Nat):Int)=(i:Int) by omega]
theorem one_good {x X:StaS} {s c:Int} {M:List Spt} {cn cz k2:Nat} (j:Nat) {z:Reg} (hM:M=x.F++spots s (cn:Int) k2) (hcn:c=(cn:Int)) (hk:cn+k2=cz) (h1:X.abs.R=x.abs.R.set j z) (h2:X.abs.F=M):X.abs=⟨x.abs.R.set j z,x.F++spots s c ((cz:Int)-c).toNat⟩:=by
 obtain rfl:((cz:Int)-c).toNat=k2:=by omega
 rw [←hcn] at hM
 rw [←hM,←h2,←h1]
set_option maxHeartbeats 8000000 in
theorem rOneYes (c:Nat) (x:StaS) (sure:Nat) (dirty:Bool) (y:RecS) (hk:y.r.k=1∨y.r.k=2∨y.r.k=3) (hm:mayR y.r=true) (hl:y.r.L.length≤2000) (j:Nat) (hj:j<4) (hs:y.r.s=(j:Int)) (g:RegS) (hg:x.regs[j]? = some g) (ho:okR g.r=true) (hF:x.F.length≤100000) (z:Reg) (h:applyR g.r y.r=some z) :
 Triple Tryz.prog 35 [pP c,.agg (encR y).toArray] [RefP c x sure dirty,RegsA x,FeedA x] [y.rdL] StaS (fun _=>.bool true) (fun X=>X.abs=⟨x.abs.R.set j z,x.F++spots y.r.s g.r.c (z.c-g.r.c).toNat⟩) (fun X=>[RefP c X sure dirty,RegsA X,FeedA X]):=by
 have T1:=rCheckR y (by omega) (by omega) (by omega)
 rw [hm,if_pos rfl] at T1
 have hzo:=okR_of (applyR_ok h).2
 have hz64:=wholeE_len hzo.2.2.2.1
 have hgo:=okR_of ho
 obtain ⟨hc1,_⟩:=applyR_c (by omega) h
 have T2:g.r.L.length≤g.a→Triple Tryz.prog 68 [.agg (encG g).toArray,.agg (encR y).toArray] [] [RegsA x,y.rdL] Sl (fun (A',c')=>.tuple #[.agg (encG ⟨z,A',c'⟩).toArray,.bool true]) (fun (_,c')=>z.L.length≤c') (fun (A',c')=>[Row 101 6 A' z.L.length c' (z.L.flatMap encE)]):=fun ha=>by
  rcases hk with q | q | q
  · exact (rApply13 g y ho (.inl q) z h).reads fun X hX=>by
     rw [List.mem_singleton.1 hX]
     exact ⟨_,List.mem_cons_self,fun _ q=>(q g (List.mem_of_getElem? hg)).1⟩
  · exact (rApply2 g y ho q hl ha z h).reads fun X hX=>by
     simp only [List.mem_cons,List.not_mem_nil,or_false] at hX
     rcases hX with rfl | rfl
     · exact ⟨_,List.mem_cons_self,fun _ q=>(q g (List.mem_of_getElem? hg)).1⟩
     exact ⟨_,List.mem_cons_of_mem _ List.mem_cons_self,fun _ q=>q⟩
  exact (rApply13 g y ho (.inr q) z h).reads fun X hX=>by
   rw [List.mem_singleton.1 hX]
   exact ⟨_,List.mem_cons_self,fun _ q=>(q g (List.mem_of_getElem? hg)).1⟩
 obtain ⟨⟨k,s,e,v,f,n,L,F⟩,A,a,B,b⟩:=y
 obtain ⟨⟨zp,zv,zL,zc⟩,hzz⟩:∃ z',z'=z:=⟨z,rfl⟩
 subst hzz
 unfold encR RecS.rdL at *
 simp only at T1 T2 h hs hk hzo hz64 hc1 ⊢
 obtain ⟨cz,rfl⟩:∃ cz:Nat,zc=(cz:Int):=⟨zc.toNat,by omega⟩
 obtain ⟨cn,hcn⟩:∃ cn:Nat,g.r.c=(cn:Int):=⟨g.r.c.toNat,by omega⟩
 have hcz:cn≤cz:=by omega
 refine triple_intro Tryz.tbs_ok Tryz.func35 rfl [.pt 0 c 0,.ag [vI k,vI s,vI e,vI v,vI f,vI n,vL A L.length a,vL B F.length b]] [.box c 36 (refV x sure dirty),.fact (RegsA x),.fact (Row 72 2 x.A x.F.length x.c (x.F.flatMap encP))] ⟨rfl,⟨trivial,trivial,trivial,trivial,trivial,trivial,trivial,trivial,trivial⟩,trivial⟩ rfl (by simp [refV,svG,SV.good,SV.goodL]) ?_
 intro E
 refine go_know (.inr 1) (RegsA x) rfl (p:=g.r.L.length≤g.a) (fun h p=>(p g (List.mem_of_getElem? hg)).2) fun ha=>?_
 have T3:=T2 ha
 refine aG ?_
 rcases (show j=0∨j=1∨j=2∨j=3 by omega) with rfl | rfl | rfl | rfl
 · obtain rfl:x.r0=g:=Option.some.inj hg
   refine ev_new fun b10=>?_
   refine aI ?_ (beq_eq_false_iff_ne.2 (show ¬k=4 from (by omega)))
   refine aI ?_ (beq_eq_false_iff_ne.2 (show ¬k=5 from (by omega)))
   refine aI ?_ (decide_eq_false (show ¬s<0 from (by omega)))
   refine aI ?_ (decide_eq_false (show ¬s ≥ 4 from (by omega)))
   refine aC T1 [] [.inl 0] fun _ h11=>?_
   refine aI ?_
   refine ev_stop (go_draw Tryz.tbs_ok false [0,3] [(0,true),(1,true),(2,true),(3,true),(4,true),(5,true),(6,true),(7,true),(8,false)] rfl ?_)
   refine aG (aE ?_)
   refine ev_stop (go_slot 34 _ (.va (.int IntKind.i64 ((0:Nat):Int))) rfl rfl (congrArg (fun z=>Value.int IntKind.i64 z) (show s=((0:Nat):Int) by first | omega | (simp only [List.getElem_set_self];omega))) (fun _=>trivial) ?_)
   refine aG (aE ?_)
   refine ev_stop (tk_indexArr Tryz.tbs_ok (0) aB rfl rfl rfl rfl rfl rfl rfl (by first | decide | omega) rfl rfl ?_)
   refine aG (aE (aK ?_))
   refine ev_stop (go_draw Tryz.tbs_ok false [0,3] [(0,true),(1,true),(2,true),(3,true),(4,true),(5,true),(6,true),(7,true),(99,false),(0,true),(0,true),(0,true),(0,true),(0,true),(0,true)] rfl ?_)
   refine aG (aE ?_)
   refine ev_stop (go_slot 43 _ (.va (.int IntKind.i64 ((0:Nat):Int))) rfl rfl (congrArg (fun z=>Value.int IntKind.i64 z) (show s=((0:Nat):Int) by first | omega | (simp only [List.getElem_set_self];omega))) (fun _=>trivial) ?_)
   refine aG (aE ?_)
   refine ev_stop (tk_indexArr Tryz.tbs_ok (0) aB rfl rfl rfl rfl rfl rfl rfl (by first | decide | omega) rfl rfl ?_)
   refine aG (aE ?_)
   refine ev_stop (go_fork 8 12 [(9,true),(10,true),(11,true),(12,false),(13,false),(14,false)] [(8,false),(9,false),(10,true),(11,true),(13,false),(14,false)] _ _ ⟨aL,rfl⟩ (by kernel_rfl) rfl rfl rfl rfl ?_ ?_)
   refine aG ?_
   refine aC T3 [] [.inr 1,.inl 0] fun ⟨x12,x13⟩ h14=>?_
   refine aE ?_
   refine ev_new fun b15=>?_
   refine aE (aE (aK (aI ?_)))
   refine ev_stop (go_draw Tryz.tbs_ok false [3,5] [(0,true),(1,true),(2,true),(3,true),(4,true),(5,true),(6,true),(7,false)] rfl ?_)
   refine aG (aE ?_)
   refine ev_stop (go_slot 56 _ (.va (.int IntKind.i64 ((0:Nat):Int))) rfl rfl (congrArg (fun z=>Value.int IntKind.i64 z) (show s=((0:Nat):Int) by first | omega | (simp only [List.getElem_set_self];omega))) (fun _=>trivial) ?_)
   refine aG (aE ?_)
   refine ev_stop (tk_indexArr Tryz.tbs_ok (0) aB rfl rfl rfl rfl rfl rfl rfl (by first | decide | omega) rfl rfl ?_)
   refine aG (aE (aK ?_))
   rotate_left
   refine aG ?_
   refine ev_new fun b16=>?_
   refine aE ?_
   refine aC T3 [] [.inr 1,.inl 0] fun ⟨x17,x18⟩ h19=>?_
   refine aE (aE (aE (aK (aI ?_))))
   refine ev_stop (go_draw Tryz.tbs_ok false [3,4] [(0,true),(1,true),(2,true),(3,true),(4,true),(5,true),(6,true),(7,false)] rfl ?_)
   refine aG (aE ?_)
   refine ev_stop (go_slot 56 _ (.va (.int IntKind.i64 ((0:Nat):Int))) rfl rfl (congrArg (fun z=>Value.int IntKind.i64 z) (show s=((0:Nat):Int) by first | omega | (simp only [List.getElem_set_self];omega))) (fun _=>trivial) ?_)
   refine aG (aE ?_)
   refine ev_stop (tk_indexArr Tryz.tbs_ok (0) aB rfl rfl rfl rfl rfl rfl rfl (by first | decide | omega) rfl rfl ?_)
   refine aG (aE (aK ?_))
   rotate_left
   · refine ev_stop (go_slot 8 _ (vI (cn:Int)) rfl rfl (by show SV.den (vI x.r0.r.c)=_;rw [hcn]) (fun _=>trivial) ?_)
     refine aG ?_
     refine ev_stop (go_loopR [1,8,28,40,47,48,49,50,57,62,63,64,65,66,67,68,69,70,71,72,73,74,75,76,77,78,79,80] (fun (i,_)=>[(8,vI (i:Nat))]) (fun (_,m,A2,d2,M)=>[(0,.box c 36 (svG ⟨⟨zp,zv,zL,(cz:Int)⟩,x12,x13⟩++(svG x.r1++(svG x.r2++(svG x.r3++[vL A2 m d2,vI (sure:Nat),.bq dirty]))))),(2,.fact (Row 72 2 A2 m d2 (M.flatMap encP)))]) (fun (i,m,_,_,M)=>cn≤i∧i≤cz∧m=M.length∧M=x.F++spots s (cn:Int) (i-cn)) (fun (i,_)=>cz-i) ((cn,x.F.length,x.A,x.c,x.F):Nat × Nat × Option Addr × Nat × List Spt) ⟨Nat.le_refl _,hcz,rfl,by rw [Nat.sub_self];exact (List.append_nil _).symm⟩ aS (fun x_ h_=>?_))
     obtain ⟨i,m,A2,d2,M⟩:=x_
     obtain ⟨hi1,hi2,hm2,hM⟩:=h_
     have hMl:M.length=x.F.length+(i-cn):=by rw [hM,List.length_append,spots_len]
     rcases Nat.lt_or_ge i cz with hlt | hlt
     · refine aG ?_
       refine aJ ?_ (decide_eq_true (show (↑i:Int)<(↑cz:Int) from (by omega)))
       refine ev_stop (go_draw Tryz.tbs_ok false [0,3] [(0,true),(1,true),(2,true),(3,true),(4,true),(5,true),(6,true),(7,true),(8,true),(9,false),(10,false),(11,false),(12,false),(13,false)] rfl ?_)
       refine aG (aE ?_)
       refine ev_new fun b40=>?_
       refine aE ?_
       refine ev_stop (go_appendE (sz:=2) (M:=[_]) (enc:=encP) Tryz.tbs_ok [2] [] (.inr 6) (M) ([{ s:=s,i:=(↑i:Int):Spt }]) ((M)++([{ s:=s,i:=(↑i:Int):Spt }])) (m+1) rfl rfl rfl rfl rfl rfl rfl (by decide) rfl (by decide) (fun _ p=>starH_one.1 p) rfl (fun _ p=>Pt.rd p rfl) (by first | rfl | simp) (by first | rfl | omega) (aM (m+1)) (aN (m+1)) (fun _ _=>aL) (fun A41 c42 h43=>?_))
       refine aG (aE (aE (aE (aK ?_))))
       refine wN (i+1) ?_
       refine ev_fin (round_next ((i+1,m+1,A41,c42,M++[{ s:=s,i:=(↑i:Int):Spt }])) (?_:cn≤i+1∧i+1≤cz∧m+1=(M++[{ s:=s,i:=(↑i:Int):Spt }]).length∧M++[{ s:=s,i:=(↑i:Int):Spt }]=x.F++spots s (↑cn:Int) (i+1-cn)) (show cz-(i+1)<cz-i from (by omega)) aS)
       exact ⟨by omega,by omega,by rw [List.length_append,←hm2];rfl,spots_next hM hi1⟩
     have hkk:cn+(i-cn)=cz:=by omega
     refine aG ?_
     refine aI ?_ (decide_eq_false (show ¬(↑i:Int)<(↑cz:Int) from (by omega)))
     refine ev_fin (go Tryz.tbs_ok 1000 ?_)
     subst hm2
     exact ev_fin ⟨trivial,_,rfl,⟨⟨⟨zp,zv,zL,(cz:Int)⟩,x12,x13⟩,x.r1,x.r2,x.r3,M,A2,d2⟩,rfl,one_good 0 hM hcn hkk rfl rfl,Frm.imp (M:=[RefP c ⟨⟨⟨zp,zv,zL,(cz:Int)⟩,x12,x13⟩,x.r1,x.r2,x.r3,M,A2,d2⟩ sure dirty,RegsA x,RowG ⟨⟨zp,zv,zL,(cz:Int)⟩,x12,x13⟩,FeedA ⟨⟨⟨zp,zv,zL,(cz:Int)⟩,x12,x13⟩,x.r1,x.r2,x.r3,M,A2,d2⟩]) [0,1,4,2] rfl (by decide) (fun h q=>regs_put (x:=x) (g:=⟨⟨zp,zv,zL,(cz:Int)⟩,x12,x13⟩) (j:=0) rfl q)⟩
   refine ev_stop (go_slot 8 _ (vI (cn:Int)) rfl rfl (by show SV.den (vI x.r0.r.c)=_;rw [hcn]) (fun _=>trivial) ?_)
   refine aG ?_
   refine ev_stop (go_loopR [1,8,28,40,47,48,49,50,57,62,63,64,65,66,67,68,69,70,71,72,73,74,75,76,77,78,79,80] (fun (i,_)=>[(8,vI (i:Nat))]) (fun (_,m,A2,d2,M)=>[(0,.box c 36 (svG ⟨⟨zp,zv,zL,(cz:Int)⟩,x17,x18⟩++(svG x.r1++(svG x.r2++(svG x.r3++[vL A2 m d2,vI (sure:Nat),.bq dirty]))))),(2,.fact (Row 72 2 A2 m d2 (M.flatMap encP)))]) (fun (i,m,_,_,M)=>cn≤i∧i≤cz∧m=M.length∧M=x.F++spots s (cn:Int) (i-cn)) (fun (i,_)=>cz-i) ((cn,x.F.length,x.A,x.c,x.F):Nat × Nat × Option Addr × Nat × List Spt) ⟨Nat.le_refl _,hcz,rfl,by rw [Nat.sub_self];exact (List.append_nil _).symm⟩ aS (fun x_ h_=>?_))
   obtain ⟨i,m,A2,d2,M⟩:=x_
   obtain ⟨hi1,hi2,hm2,hM⟩:=h_
   have hMl:M.length=x.F.length+(i-cn):=by rw [hM,List.length_append,spots_len]
   rcases Nat.lt_or_ge i cz with hlt | hlt
   · refine aG ?_
     refine aJ ?_ (decide_eq_true (show (↑i:Int)<(↑cz:Int) from (by omega)))
     refine ev_stop (go_draw Tryz.tbs_ok false [0,3] [(0,true),(1,true),(2,true),(3,true),(4,true),(5,true),(6,true),(7,true),(8,true),(9,false),(10,false),(11,false),(12,false),(13,false)] rfl ?_)
     refine aG (aE ?_)
     refine ev_new fun b40=>?_
     refine aE ?_
     refine ev_stop (go_appendE (sz:=2) (M:=[_]) (enc:=encP) Tryz.tbs_ok [2] [] (.inr 6) (M) ([{ s:=s,i:=(↑i:Int):Spt }]) ((M)++([{ s:=s,i:=(↑i:Int):Spt }])) (m+1) rfl rfl rfl rfl rfl rfl rfl (by decide) rfl (by decide) (fun _ p=>starH_one.1 p) rfl (fun _ p=>Pt.rd p rfl) (by first | rfl | simp) (by first | rfl | omega) (aM (m+1)) (aN (m+1)) (fun _ _=>aL) (fun A41 c42 h43=>?_))
     refine aG (aE (aE (aE (aK ?_))))
     refine wN (i+1) ?_
     refine ev_fin (round_next ((i+1,m+1,A41,c42,M++[{ s:=s,i:=(↑i:Int):Spt }])) (?_:cn≤i+1∧i+1≤cz∧m+1=(M++[{ s:=s,i:=(↑i:Int):Spt }]).length∧M++[{ s:=s,i:=(↑i:Int):Spt }]=x.F++spots s (↑cn:Int) (i+1-cn)) (show cz-(i+1)<cz-i from (by omega)) aS)
     exact ⟨by omega,by omega,by rw [List.length_append,←hm2];rfl,spots_next hM hi1⟩
   have hkk:cn+(i-cn)=cz:=by omega
   refine aG ?_
   refine aI ?_ (decide_eq_false (show ¬(↑i:Int)<(↑cz:Int) from (by omega)))
   refine ev_fin (go Tryz.tbs_ok 1000 ?_)
   subst hm2
   exact ev_fin ⟨trivial,_,rfl,⟨⟨⟨zp,zv,zL,(cz:Int)⟩,x17,x18⟩,x.r1,x.r2,x.r3,M,A2,d2⟩,rfl,one_good 0 hM hcn hkk rfl rfl,Frm.imp (M:=[RefP c ⟨⟨⟨zp,zv,zL,(cz:Int)⟩,x17,x18⟩,x.r1,x.r2,x.r3,M,A2,d2⟩ sure dirty,RegsA x,RowG ⟨⟨zp,zv,zL,(cz:Int)⟩,x17,x18⟩,FeedA ⟨⟨⟨zp,zv,zL,(cz:Int)⟩,x17,x18⟩,x.r1,x.r2,x.r3,M,A2,d2⟩]) [0,1,5,2] rfl (by decide) (fun h q=>regs_put (x:=x) (g:=⟨⟨zp,zv,zL,(cz:Int)⟩,x17,x18⟩) (j:=0) rfl q)⟩
 · obtain rfl:x.r1=g:=Option.some.inj hg
   refine ev_new fun b10=>?_
   refine aI ?_ (beq_eq_false_iff_ne.2 (show ¬k=4 from (by omega)))
   refine aI ?_ (beq_eq_false_iff_ne.2 (show ¬k=5 from (by omega)))
   refine aI ?_ (decide_eq_false (show ¬s<0 from (by omega)))
   refine aI ?_ (decide_eq_false (show ¬s ≥ 4 from (by omega)))
   refine aC T1 [] [.inl 0] fun _ h11=>?_
   refine aI ?_
   refine ev_stop (go_draw Tryz.tbs_ok false [0,3] [(0,true),(1,true),(2,true),(3,true),(4,true),(5,true),(6,true),(7,true),(8,false)] rfl ?_)
   refine aG (aE ?_)
   refine ev_stop (go_slot 34 _ (.va (.int IntKind.i64 ((1:Nat):Int))) rfl rfl (congrArg (fun z=>Value.int IntKind.i64 z) (show s=((1:Nat):Int) by first | omega | (simp only [List.getElem_set_self];omega))) (fun _=>trivial) ?_)
   refine aG (aE ?_)
   refine ev_stop (tk_indexArr Tryz.tbs_ok (1) aB rfl rfl rfl rfl rfl rfl rfl (by first | decide | omega) rfl rfl ?_)
   refine aG (aE (aK ?_))
   refine ev_stop (go_draw Tryz.tbs_ok false [0,3] [(0,true),(1,true),(2,true),(3,true),(4,true),(5,true),(6,true),(7,true),(99,false),(0,true),(0,true),(0,true),(0,true),(0,true),(0,true)] rfl ?_)
   refine aG (aE ?_)
   refine ev_stop (go_slot 43 _ (.va (.int IntKind.i64 ((1:Nat):Int))) rfl rfl (congrArg (fun z=>Value.int IntKind.i64 z) (show s=((1:Nat):Int) by first | omega | (simp only [List.getElem_set_self];omega))) (fun _=>trivial) ?_)
   refine aG (aE ?_)
   refine ev_stop (tk_indexArr Tryz.tbs_ok (1) aB rfl rfl rfl rfl rfl rfl rfl (by first | decide | omega) rfl rfl ?_)
   refine aG (aE ?_)
   refine ev_stop (go_fork 8 12 [(9,true),(10,true),(11,true),(12,false),(13,false),(14,false)] [(8,false),(9,false),(10,true),(11,true),(13,false),(14,false)] _ _ ⟨aL,rfl⟩ (by kernel_rfl) rfl rfl rfl rfl ?_ ?_)
   refine aG ?_
   refine aC T3 [] [.inr 1,.inl 0] fun ⟨x12,x13⟩ h14=>?_
   refine aE ?_
   refine ev_new fun b15=>?_
   refine aE (aE (aK (aI ?_)))
   refine ev_stop (go_draw Tryz.tbs_ok false [3,5] [(0,true),(1,true),(2,true),(3,true),(4,true),(5,true),(6,true),(7,false)] rfl ?_)
   refine aG (aE ?_)
   refine ev_stop (go_slot 56 _ (.va (.int IntKind.i64 ((1:Nat):Int))) rfl rfl (congrArg (fun z=>Value.int IntKind.i64 z) (show s=((1:Nat):Int) by first | omega | (simp only [List.getElem_set_self];omega))) (fun _=>trivial) ?_)
   refine aG (aE ?_)
   refine ev_stop (tk_indexArr Tryz.tbs_ok (1) aB rfl rfl rfl rfl rfl rfl rfl (by first | decide | omega) rfl rfl ?_)
   refine aG (aE (aK ?_))
   rotate_left
   refine aG ?_
   refine ev_new fun b16=>?_
   refine aE ?_
   refine aC T3 [] [.inr 1,.inl 0] fun ⟨x17,x18⟩ h19=>?_
   refine aE (aE (aE (aK (aI ?_))))
   refine ev_stop (go_draw Tryz.tbs_ok false [3,4] [(0,true),(1,true),(2,true),(3,true),(4,true),(5,true),(6,true),(7,false)] rfl ?_)
   refine aG (aE ?_)
   refine ev_stop (go_slot 56 _ (.va (.int IntKind.i64 ((1:Nat):Int))) rfl rfl (congrArg (fun z=>Value.int IntKind.i64 z) (show s=((1:Nat):Int) by first | omega | (simp only [List.getElem_set_self];omega))) (fun _=>trivial) ?_)
   refine aG (aE ?_)
   refine ev_stop (tk_indexArr Tryz.tbs_ok (1) aB rfl rfl rfl rfl rfl rfl rfl (by first | decide | omega) rfl rfl ?_)
   refine aG (aE (aK ?_))
   rotate_left
   · refine ev_stop (go_slot 8 _ (vI (cn:Int)) rfl rfl (by show SV.den (vI x.r1.r.c)=_;rw [hcn]) (fun _=>trivial) ?_)
     refine aG ?_
     refine ev_stop (go_loopR [1,8,28,40,47,48,49,50,57,62,63,64,65,66,67,68,69,70,71,72,73,74,75,76,77,78,79,80] (fun (i,_)=>[(8,vI (i:Nat))]) (fun (_,m,A2,d2,M)=>[(0,.box c 36 (svG x.r0++(svG ⟨⟨zp,zv,zL,(cz:Int)⟩,x12,x13⟩++(svG x.r2++(svG x.r3++[vL A2 m d2,vI (sure:Nat),.bq dirty]))))),(2,.fact (Row 72 2 A2 m d2 (M.flatMap encP)))]) (fun (i,m,_,_,M)=>cn≤i∧i≤cz∧m=M.length∧M=x.F++spots s (cn:Int) (i-cn)) (fun (i,_)=>cz-i) ((cn,x.F.length,x.A,x.c,x.F):Nat × Nat × Option Addr × Nat × List Spt) ⟨Nat.le_refl _,hcz,rfl,by rw [Nat.sub_self];exact (List.append_nil _).symm⟩ aS (fun x_ h_=>?_))
     obtain ⟨i,m,A2,d2,M⟩:=x_
     obtain ⟨hi1,hi2,hm2,hM⟩:=h_
     have hMl:M.length=x.F.length+(i-cn):=by rw [hM,List.length_append,spots_len]
     rcases Nat.lt_or_ge i cz with hlt | hlt
     · refine aG ?_
       refine aJ ?_ (decide_eq_true (show (↑i:Int)<(↑cz:Int) from (by omega)))
       refine ev_stop (go_draw Tryz.tbs_ok false [0,3] [(0,true),(1,true),(2,true),(3,true),(4,true),(5,true),(6,true),(7,true),(8,true),(9,false),(10,false),(11,false),(12,false),(13,false)] rfl ?_)
       refine aG (aE ?_)
       refine ev_new fun b40=>?_
       refine aE ?_
       refine ev_stop (go_appendE (sz:=2) (M:=[_]) (enc:=encP) Tryz.tbs_ok [2] [] (.inr 6) (M) ([{ s:=s,i:=(↑i:Int):Spt }]) ((M)++([{ s:=s,i:=(↑i:Int):Spt }])) (m+1) rfl rfl rfl rfl rfl rfl rfl (by decide) rfl (by decide) (fun _ p=>starH_one.1 p) rfl (fun _ p=>Pt.rd p rfl) (by first | rfl | simp) (by first | rfl | omega) (aM (m+1)) (aN (m+1)) (fun _ _=>aL) (fun A41 c42 h43=>?_))
       refine aG (aE (aE (aE (aK ?_))))
       refine wN (i+1) ?_
       refine ev_fin (round_next ((i+1,m+1,A41,c42,M++[{ s:=s,i:=(↑i:Int):Spt }])) (?_:cn≤i+1∧i+1≤cz∧m+1=(M++[{ s:=s,i:=(↑i:Int):Spt }]).length∧M++[{ s:=s,i:=(↑i:Int):Spt }]=x.F++spots s (↑cn:Int) (i+1-cn)) (show cz-(i+1)<cz-i from (by omega)) aS)
       exact ⟨by omega,by omega,by rw [List.length_append,←hm2];rfl,spots_next hM hi1⟩
     have hkk:cn+(i-cn)=cz:=by omega
     refine aG ?_
     refine aI ?_ (decide_eq_false (show ¬(↑i:Int)<(↑cz:Int) from (by omega)))
     refine ev_fin (go Tryz.tbs_ok 1000 ?_)
     subst hm2
     exact ev_fin ⟨trivial,_,rfl,⟨x.r0,⟨⟨zp,zv,zL,(cz:Int)⟩,x12,x13⟩,x.r2,x.r3,M,A2,d2⟩,rfl,one_good 1 hM hcn hkk rfl rfl,Frm.imp (M:=[RefP c ⟨x.r0,⟨⟨zp,zv,zL,(cz:Int)⟩,x12,x13⟩,x.r2,x.r3,M,A2,d2⟩ sure dirty,RegsA x,RowG ⟨⟨zp,zv,zL,(cz:Int)⟩,x12,x13⟩,FeedA ⟨x.r0,⟨⟨zp,zv,zL,(cz:Int)⟩,x12,x13⟩,x.r2,x.r3,M,A2,d2⟩]) [0,1,4,2] rfl (by decide) (fun h q=>regs_put (x:=x) (g:=⟨⟨zp,zv,zL,(cz:Int)⟩,x12,x13⟩) (j:=1) rfl q)⟩
   refine ev_stop (go_slot 8 _ (vI (cn:Int)) rfl rfl (by show SV.den (vI x.r1.r.c)=_;rw [hcn]) (fun _=>trivial) ?_)
   refine aG ?_
   refine ev_stop (go_loopR [1,8,28,40,47,48,49,50,57,62,63,64,65,66,67,68,69,70,71,72,73,74,75,76,77,78,79,80] (fun (i,_)=>[(8,vI (i:Nat))]) (fun (_,m,A2,d2,M)=>[(0,.box c 36 (svG x.r0++(svG ⟨⟨zp,zv,zL,(cz:Int)⟩,x17,x18⟩++(svG x.r2++(svG x.r3++[vL A2 m d2,vI (sure:Nat),.bq dirty]))))),(2,.fact (Row 72 2 A2 m d2 (M.flatMap encP)))]) (fun (i,m,_,_,M)=>cn≤i∧i≤cz∧m=M.length∧M=x.F++spots s (cn:Int) (i-cn)) (fun (i,_)=>cz-i) ((cn,x.F.length,x.A,x.c,x.F):Nat × Nat × Option Addr × Nat × List Spt) ⟨Nat.le_refl _,hcz,rfl,by rw [Nat.sub_self];exact (List.append_nil _).symm⟩ aS (fun x_ h_=>?_))
   obtain ⟨i,m,A2,d2,M⟩:=x_
   obtain ⟨hi1,hi2,hm2,hM⟩:=h_
   have hMl:M.length=x.F.length+(i-cn):=by rw [hM,List.length_append,spots_len]
   rcases Nat.lt_or_ge i cz with hlt | hlt
   · refine aG ?_
     refine aJ ?_ (decide_eq_true (show (↑i:Int)<(↑cz:Int) from (by omega)))
     refine ev_stop (go_draw Tryz.tbs_ok false [0,3] [(0,true),(1,true),(2,true),(3,true),(4,true),(5,true),(6,true),(7,true),(8,true),(9,false),(10,false),(11,false),(12,false),(13,false)] rfl ?_)
     refine aG (aE ?_)
     refine ev_new fun b40=>?_
     refine aE ?_
     refine ev_stop (go_appendE (sz:=2) (M:=[_]) (enc:=encP) Tryz.tbs_ok [2] [] (.inr 6) (M) ([{ s:=s,i:=(↑i:Int):Spt }]) ((M)++([{ s:=s,i:=(↑i:Int):Spt }])) (m+1) rfl rfl rfl rfl rfl rfl rfl (by decide) rfl (by decide) (fun _ p=>starH_one.1 p) rfl (fun _ p=>Pt.rd p rfl) (by first | rfl | simp) (by first | rfl | omega) (aM (m+1)) (aN (m+1)) (fun _ _=>aL) (fun A41 c42 h43=>?_))
     refine aG (aE (aE (aE (aK ?_))))
     refine wN (i+1) ?_
     refine ev_fin (round_next ((i+1,m+1,A41,c42,M++[{ s:=s,i:=(↑i:Int):Spt }])) (?_:cn≤i+1∧i+1≤cz∧m+1=(M++[{ s:=s,i:=(↑i:Int):Spt }]).length∧M++[{ s:=s,i:=(↑i:Int):Spt }]=x.F++spots s (↑cn:Int) (i+1-cn)) (show cz-(i+1)<cz-i from (by omega)) aS)
     exact ⟨by omega,by omega,by rw [List.length_append,←hm2];rfl,spots_next hM hi1⟩
   have hkk:cn+(i-cn)=cz:=by omega
   refine aG ?_
   refine aI ?_ (decide_eq_false (show ¬(↑i:Int)<(↑cz:Int) from (by omega)))
   refine ev_fin (go Tryz.tbs_ok 1000 ?_)
   subst hm2
   exact ev_fin ⟨trivial,_,rfl,⟨x.r0,⟨⟨zp,zv,zL,(cz:Int)⟩,x17,x18⟩,x.r2,x.r3,M,A2,d2⟩,rfl,one_good 1 hM hcn hkk rfl rfl,Frm.imp (M:=[RefP c ⟨x.r0,⟨⟨zp,zv,zL,(cz:Int)⟩,x17,x18⟩,x.r2,x.r3,M,A2,d2⟩ sure dirty,RegsA x,RowG ⟨⟨zp,zv,zL,(cz:Int)⟩,x17,x18⟩,FeedA ⟨x.r0,⟨⟨zp,zv,zL,(cz:Int)⟩,x17,x18⟩,x.r2,x.r3,M,A2,d2⟩]) [0,1,5,2] rfl (by decide) (fun h q=>regs_put (x:=x) (g:=⟨⟨zp,zv,zL,(cz:Int)⟩,x17,x18⟩) (j:=1) rfl q)⟩
 · obtain rfl:x.r2=g:=Option.some.inj hg
   refine ev_new fun b10=>?_
   refine aI ?_ (beq_eq_false_iff_ne.2 (show ¬k=4 from (by omega)))
   refine aI ?_ (beq_eq_false_iff_ne.2 (show ¬k=5 from (by omega)))
   refine aI ?_ (decide_eq_false (show ¬s<0 from (by omega)))
   refine aI ?_ (decide_eq_false (show ¬s ≥ 4 from (by omega)))
   refine aC T1 [] [.inl 0] fun _ h11=>?_
   refine aI ?_
   refine ev_stop (go_draw Tryz.tbs_ok false [0,3] [(0,true),(1,true),(2,true),(3,true),(4,true),(5,true),(6,true),(7,true),(8,false)] rfl ?_)
   refine aG (aE ?_)
   refine ev_stop (go_slot 34 _ (.va (.int IntKind.i64 ((2:Nat):Int))) rfl rfl (congrArg (fun z=>Value.int IntKind.i64 z) (show s=((2:Nat):Int) by first | omega | (simp only [List.getElem_set_self];omega))) (fun _=>trivial) ?_)
   refine aG (aE ?_)
   refine ev_stop (tk_indexArr Tryz.tbs_ok (2) aB rfl rfl rfl rfl rfl rfl rfl (by first | decide | omega) rfl rfl ?_)
   refine aG (aE (aK ?_))
   refine ev_stop (go_draw Tryz.tbs_ok false [0,3] [(0,true),(1,true),(2,true),(3,true),(4,true),(5,true),(6,true),(7,true),(99,false),(0,true),(0,true),(0,true),(0,true),(0,true),(0,true)] rfl ?_)
   refine aG (aE ?_)
   refine ev_stop (go_slot 43 _ (.va (.int IntKind.i64 ((2:Nat):Int))) rfl rfl (congrArg (fun z=>Value.int IntKind.i64 z) (show s=((2:Nat):Int) by first | omega | (simp only [List.getElem_set_self];omega))) (fun _=>trivial) ?_)
   refine aG (aE ?_)
   refine ev_stop (tk_indexArr Tryz.tbs_ok (2) aB rfl rfl rfl rfl rfl rfl rfl (by first | decide | omega) rfl rfl ?_)
   refine aG (aE ?_)
   refine ev_stop (go_fork 8 12 [(9,true),(10,true),(11,true),(12,false),(13,false),(14,false)] [(8,false),(9,false),(10,true),(11,true),(13,false),(14,false)] _ _ ⟨aL,rfl⟩ (by kernel_rfl) rfl rfl rfl rfl ?_ ?_)
   refine aG ?_
   refine aC T3 [] [.inr 1,.inl 0] fun ⟨x12,x13⟩ h14=>?_
   refine aE ?_
   refine ev_new fun b15=>?_
   refine aE (aE (aK (aI ?_)))
   refine ev_stop (go_draw Tryz.tbs_ok false [3,5] [(0,true),(1,true),(2,true),(3,true),(4,true),(5,true),(6,true),(7,false)] rfl ?_)
   refine aG (aE ?_)
   refine ev_stop (go_slot 56 _ (.va (.int IntKind.i64 ((2:Nat):Int))) rfl rfl (congrArg (fun z=>Value.int IntKind.i64 z) (show s=((2:Nat):Int) by first | omega | (simp only [List.getElem_set_self];omega))) (fun _=>trivial) ?_)
   refine aG (aE ?_)
   refine ev_stop (tk_indexArr Tryz.tbs_ok (2) aB rfl rfl rfl rfl rfl rfl rfl (by first | decide | omega) rfl rfl ?_)
   refine aG (aE (aK ?_))
   rotate_left
   refine aG ?_
   refine ev_new fun b16=>?_
   refine aE ?_
   refine aC T3 [] [.inr 1,.inl 0] fun ⟨x17,x18⟩ h19=>?_
   refine aE (aE (aE (aK (aI ?_))))
   refine ev_stop (go_draw Tryz.tbs_ok false [3,4] [(0,true),(1,true),(2,true),(3,true),(4,true),(5,true),(6,true),(7,false)] rfl ?_)
   refine aG (aE ?_)
   refine ev_stop (go_slot 56 _ (.va (.int IntKind.i64 ((2:Nat):Int))) rfl rfl (congrArg (fun z=>Value.int IntKind.i64 z) (show s=((2:Nat):Int) by first | omega | (simp only [List.getElem_set_self];omega))) (fun _=>trivial) ?_)
   refine aG (aE ?_)
   refine ev_stop (tk_indexArr Tryz.tbs_ok (2) aB rfl rfl rfl rfl rfl rfl rfl (by first | decide | omega) rfl rfl ?_)
   refine aG (aE (aK ?_))
   rotate_left
   · refine ev_stop (go_slot 8 _ (vI (cn:Int)) rfl rfl (by show SV.den (vI x.r2.r.c)=_;rw [hcn]) (fun _=>trivial) ?_)
     refine aG ?_
     refine ev_stop (go_loopR [1,8,28,40,47,48,49,50,57,62,63,64,65,66,67,68,69,70,71,72,73,74,75,76,77,78,79,80] (fun (i,_)=>[(8,vI (i:Nat))]) (fun (_,m,A2,d2,M)=>[(0,.box c 36 (svG x.r0++(svG x.r1++(svG ⟨⟨zp,zv,zL,(cz:Int)⟩,x12,x13⟩++(svG x.r3++[vL A2 m d2,vI (sure:Nat),.bq dirty]))))),(2,.fact (Row 72 2 A2 m d2 (M.flatMap encP)))]) (fun (i,m,_,_,M)=>cn≤i∧i≤cz∧m=M.length∧M=x.F++spots s (cn:Int) (i-cn)) (fun (i,_)=>cz-i) ((cn,x.F.length,x.A,x.c,x.F):Nat × Nat × Option Addr × Nat × List Spt) ⟨Nat.le_refl _,hcz,rfl,by rw [Nat.sub_self];exact (List.append_nil _).symm⟩ aS (fun x_ h_=>?_))
     obtain ⟨i,m,A2,d2,M⟩:=x_
     obtain ⟨hi1,hi2,hm2,hM⟩:=h_
     have hMl:M.length=x.F.length+(i-cn):=by rw [hM,List.length_append,spots_len]
     rcases Nat.lt_or_ge i cz with hlt | hlt
     · refine aG ?_
       refine aJ ?_ (decide_eq_true (show (↑i:Int)<(↑cz:Int) from (by omega)))
       refine ev_stop (go_draw Tryz.tbs_ok false [0,3] [(0,true),(1,true),(2,true),(3,true),(4,true),(5,true),(6,true),(7,true),(8,true),(9,false),(10,false),(11,false),(12,false),(13,false)] rfl ?_)
       refine aG (aE ?_)
       refine ev_new fun b40=>?_
       refine aE ?_
       refine ev_stop (go_appendE (sz:=2) (M:=[_]) (enc:=encP) Tryz.tbs_ok [2] [] (.inr 6) (M) ([{ s:=s,i:=(↑i:Int):Spt }]) ((M)++([{ s:=s,i:=(↑i:Int):Spt }])) (m+1) rfl rfl rfl rfl rfl rfl rfl (by decide) rfl (by decide) (fun _ p=>starH_one.1 p) rfl (fun _ p=>Pt.rd p rfl) (by first | rfl | simp) (by first | rfl | omega) (aM (m+1)) (aN (m+1)) (fun _ _=>aL) (fun A41 c42 h43=>?_))
       refine aG (aE (aE (aE (aK ?_))))
       refine wN (i+1) ?_
       refine ev_fin (round_next ((i+1,m+1,A41,c42,M++[{ s:=s,i:=(↑i:Int):Spt }])) (?_:cn≤i+1∧i+1≤cz∧m+1=(M++[{ s:=s,i:=(↑i:Int):Spt }]).length∧M++[{ s:=s,i:=(↑i:Int):Spt }]=x.F++spots s (↑cn:Int) (i+1-cn)) (show cz-(i+1)<cz-i from (by omega)) aS)
       exact ⟨by omega,by omega,by rw [List.length_append,←hm2];rfl,spots_next hM hi1⟩
     have hkk:cn+(i-cn)=cz:=by omega
     refine aG ?_
     refine aI ?_ (decide_eq_false (show ¬(↑i:Int)<(↑cz:Int) from (by omega)))
     refine ev_fin (go Tryz.tbs_ok 1000 ?_)
     subst hm2
     exact ev_fin ⟨trivial,_,rfl,⟨x.r0,x.r1,⟨⟨zp,zv,zL,(cz:Int)⟩,x12,x13⟩,x.r3,M,A2,d2⟩,rfl,one_good 2 hM hcn hkk rfl rfl,Frm.imp (M:=[RefP c ⟨x.r0,x.r1,⟨⟨zp,zv,zL,(cz:Int)⟩,x12,x13⟩,x.r3,M,A2,d2⟩ sure dirty,RegsA x,RowG ⟨⟨zp,zv,zL,(cz:Int)⟩,x12,x13⟩,FeedA ⟨x.r0,x.r1,⟨⟨zp,zv,zL,(cz:Int)⟩,x12,x13⟩,x.r3,M,A2,d2⟩]) [0,1,4,2] rfl (by decide) (fun h q=>regs_put (x:=x) (g:=⟨⟨zp,zv,zL,(cz:Int)⟩,x12,x13⟩) (j:=2) rfl q)⟩
   refine ev_stop (go_slot 8 _ (vI (cn:Int)) rfl rfl (by show SV.den (vI x.r2.r.c)=_;rw [hcn]) (fun _=>trivial) ?_)
   refine aG ?_
   refine ev_stop (go_loopR [1,8,28,40,47,48,49,50,57,62,63,64,65,66,67,68,69,70,71,72,73,74,75,76,77,78,79,80] (fun (i,_)=>[(8,vI (i:Nat))]) (fun (_,m,A2,d2,M)=>[(0,.box c 36 (svG x.r0++(svG x.r1++(svG ⟨⟨zp,zv,zL,(cz:Int)⟩,x17,x18⟩++(svG x.r3++[vL A2 m d2,vI (sure:Nat),.bq dirty]))))),(2,.fact (Row 72 2 A2 m d2 (M.flatMap encP)))]) (fun (i,m,_,_,M)=>cn≤i∧i≤cz∧m=M.length∧M=x.F++spots s (cn:Int) (i-cn)) (fun (i,_)=>cz-i) ((cn,x.F.length,x.A,x.c,x.F):Nat × Nat × Option Addr × Nat × List Spt) ⟨Nat.le_refl _,hcz,rfl,by rw [Nat.sub_self];exact (List.append_nil _).symm⟩ aS (fun x_ h_=>?_))
   obtain ⟨i,m,A2,d2,M⟩:=x_
   obtain ⟨hi1,hi2,hm2,hM⟩:=h_
   have hMl:M.length=x.F.length+(i-cn):=by rw [hM,List.length_append,spots_len]
   rcases Nat.lt_or_ge i cz with hlt | hlt
   · refine aG ?_
     refine aJ ?_ (decide_eq_true (show (↑i:Int)<(↑cz:Int) from (by omega)))
     refine ev_stop (go_draw Tryz.tbs_ok false [0,3] [(0,true),(1,true),(2,true),(3,true),(4,true),(5,true),(6,true),(7,true),(8,true),(9,false),(10,false),(11,false),(12,false),(13,false)] rfl ?_)
     refine aG (aE ?_)
     refine ev_new fun b40=>?_
     refine aE ?_
     refine ev_stop (go_appendE (sz:=2) (M:=[_]) (enc:=encP) Tryz.tbs_ok [2] [] (.inr 6) (M) ([{ s:=s,i:=(↑i:Int):Spt }]) ((M)++([{ s:=s,i:=(↑i:Int):Spt }])) (m+1) rfl rfl rfl rfl rfl rfl rfl (by decide) rfl (by decide) (fun _ p=>starH_one.1 p) rfl (fun _ p=>Pt.rd p rfl) (by first | rfl | simp) (by first | rfl | omega) (aM (m+1)) (aN (m+1)) (fun _ _=>aL) (fun A41 c42 h43=>?_))
     refine aG (aE (aE (aE (aK ?_))))
     refine wN (i+1) ?_
     refine ev_fin (round_next ((i+1,m+1,A41,c42,M++[{ s:=s,i:=(↑i:Int):Spt }])) (?_:cn≤i+1∧i+1≤cz∧m+1=(M++[{ s:=s,i:=(↑i:Int):Spt }]).length∧M++[{ s:=s,i:=(↑i:Int):Spt }]=x.F++spots s (↑cn:Int) (i+1-cn)) (show cz-(i+1)<cz-i from (by omega)) aS)
     exact ⟨by omega,by omega,by rw [List.length_append,←hm2];rfl,spots_next hM hi1⟩
   have hkk:cn+(i-cn)=cz:=by omega
   refine aG ?_
   refine aI ?_ (decide_eq_false (show ¬(↑i:Int)<(↑cz:Int) from (by omega)))
   refine ev_fin (go Tryz.tbs_ok 1000 ?_)
   subst hm2
   exact ev_fin ⟨trivial,_,rfl,⟨x.r0,x.r1,⟨⟨zp,zv,zL,(cz:Int)⟩,x17,x18⟩,x.r3,M,A2,d2⟩,rfl,one_good 2 hM hcn hkk rfl rfl,Frm.imp (M:=[RefP c ⟨x.r0,x.r1,⟨⟨zp,zv,zL,(cz:Int)⟩,x17,x18⟩,x.r3,M,A2,d2⟩ sure dirty,RegsA x,RowG ⟨⟨zp,zv,zL,(cz:Int)⟩,x17,x18⟩,FeedA ⟨x.r0,x.r1,⟨⟨zp,zv,zL,(cz:Int)⟩,x17,x18⟩,x.r3,M,A2,d2⟩]) [0,1,5,2] rfl (by decide) (fun h q=>regs_put (x:=x) (g:=⟨⟨zp,zv,zL,(cz:Int)⟩,x17,x18⟩) (j:=2) rfl q)⟩
 obtain rfl:x.r3=g:=Option.some.inj hg
 refine ev_new fun b10=>?_
 refine aI ?_ (beq_eq_false_iff_ne.2 (show ¬k=4 from (by omega)))
 refine aI ?_ (beq_eq_false_iff_ne.2 (show ¬k=5 from (by omega)))
 refine aI ?_ (decide_eq_false (show ¬s<0 from (by omega)))
 refine aI ?_ (decide_eq_false (show ¬s ≥ 4 from (by omega)))
 refine aC T1 [] [.inl 0] fun _ h11=>?_
 refine aI ?_
 refine ev_stop (go_draw Tryz.tbs_ok false [0,3] [(0,true),(1,true),(2,true),(3,true),(4,true),(5,true),(6,true),(7,true),(8,false)] rfl ?_)
 refine aG (aE ?_)
 refine ev_stop (go_slot 34 _ (.va (.int IntKind.i64 ((3:Nat):Int))) rfl rfl (congrArg (fun z=>Value.int IntKind.i64 z) (show s=((3:Nat):Int) by first | omega | (simp only [List.getElem_set_self];omega))) (fun _=>trivial) ?_)
 refine aG (aE ?_)
 refine ev_stop (tk_indexArr Tryz.tbs_ok (3) aB rfl rfl rfl rfl rfl rfl rfl (by first | decide | omega) rfl rfl ?_)
 refine aG (aE (aK ?_))
 refine ev_stop (go_draw Tryz.tbs_ok false [0,3] [(0,true),(1,true),(2,true),(3,true),(4,true),(5,true),(6,true),(7,true),(99,false),(0,true),(0,true),(0,true),(0,true),(0,true),(0,true)] rfl ?_)
 refine aG (aE ?_)
 refine ev_stop (go_slot 43 _ (.va (.int IntKind.i64 ((3:Nat):Int))) rfl rfl (congrArg (fun z=>Value.int IntKind.i64 z) (show s=((3:Nat):Int) by first | omega | (simp only [List.getElem_set_self];omega))) (fun _=>trivial) ?_)
 refine aG (aE ?_)
 refine ev_stop (tk_indexArr Tryz.tbs_ok (3) aB rfl rfl rfl rfl rfl rfl rfl (by first | decide | omega) rfl rfl ?_)
 refine aG (aE ?_)
 refine ev_stop (go_fork 8 12 [(9,true),(10,true),(11,true),(12,false),(13,false),(14,false)] [(8,false),(9,false),(10,true),(11,true),(13,false),(14,false)] _ _ ⟨aL,rfl⟩ (by kernel_rfl) rfl rfl rfl rfl ?_ ?_)
 refine aG ?_
 refine aC T3 [] [.inr 1,.inl 0] fun ⟨x12,x13⟩ h14=>?_
 refine aE ?_
 refine ev_new fun b15=>?_
 refine aE (aE (aK (aI ?_)))
 refine ev_stop (go_draw Tryz.tbs_ok false [3,5] [(0,true),(1,true),(2,true),(3,true),(4,true),(5,true),(6,true),(7,false)] rfl ?_)
 refine aG (aE ?_)
 refine ev_stop (go_slot 56 _ (.va (.int IntKind.i64 ((3:Nat):Int))) rfl rfl (congrArg (fun z=>Value.int IntKind.i64 z) (show s=((3:Nat):Int) by first | omega | (simp only [List.getElem_set_self];omega))) (fun _=>trivial) ?_)
 refine aG (aE ?_)
 refine ev_stop (tk_indexArr Tryz.tbs_ok (3) aB rfl rfl rfl rfl rfl rfl rfl (by first | decide | omega) rfl rfl ?_)
 refine aG (aE (aK ?_))
 rotate_left
 refine aG ?_
 refine ev_new fun b16=>?_
 refine aE ?_
 refine aC T3 [] [.inr 1,.inl 0] fun ⟨x17,x18⟩ h19=>?_
 refine aE (aE (aE (aK (aI ?_))))
 refine ev_stop (go_draw Tryz.tbs_ok false [3,4] [(0,true),(1,true),(2,true),(3,true),(4,true),(5,true),(6,true),(7,false)] rfl ?_)
 refine aG (aE ?_)
 refine ev_stop (go_slot 56 _ (.va (.int IntKind.i64 ((3:Nat):Int))) rfl rfl (congrArg (fun z=>Value.int IntKind.i64 z) (show s=((3:Nat):Int) by first | omega | (simp only [List.getElem_set_self];omega))) (fun _=>trivial) ?_)
 refine aG (aE ?_)
 refine ev_stop (tk_indexArr Tryz.tbs_ok (3) aB rfl rfl rfl rfl rfl rfl rfl (by first | decide | omega) rfl rfl ?_)
 refine aG (aE (aK ?_))
 rotate_left
 · refine ev_stop (go_slot 8 _ (vI (cn:Int)) rfl rfl (by show SV.den (vI x.r3.r.c)=_;rw [hcn]) (fun _=>trivial) ?_)
   refine aG ?_
   refine ev_stop (go_loopR [1,8,28,40,47,48,49,50,57,62,63,64,65,66,67,68,69,70,71,72,73,74,75,76,77,78,79,80] (fun (i,_)=>[(8,vI (i:Nat))]) (fun (_,m,A2,d2,M)=>[(0,.box c 36 (svG x.r0++(svG x.r1++(svG x.r2++(svG ⟨⟨zp,zv,zL,(cz:Int)⟩,x12,x13⟩++[vL A2 m d2,vI (sure:Nat),.bq dirty]))))),(2,.fact (Row 72 2 A2 m d2 (M.flatMap encP)))]) (fun (i,m,_,_,M)=>cn≤i∧i≤cz∧m=M.length∧M=x.F++spots s (cn:Int) (i-cn)) (fun (i,_)=>cz-i) ((cn,x.F.length,x.A,x.c,x.F):Nat × Nat × Option Addr × Nat × List Spt) ⟨Nat.le_refl _,hcz,rfl,by rw [Nat.sub_self];exact (List.append_nil _).symm⟩ aS (fun x_ h_=>?_))
   obtain ⟨i,m,A2,d2,M⟩:=x_
   obtain ⟨hi1,hi2,hm2,hM⟩:=h_
   have hMl:M.length=x.F.length+(i-cn):=by rw [hM,List.length_append,spots_len]
   rcases Nat.lt_or_ge i cz with hlt | hlt
   · refine aG ?_
     refine aJ ?_ (decide_eq_true (show (↑i:Int)<(↑cz:Int) from (by omega)))
     refine ev_stop (go_draw Tryz.tbs_ok false [0,3] [(0,true),(1,true),(2,true),(3,true),(4,true),(5,true),(6,true),(7,true),(8,true),(9,false),(10,false),(11,false),(12,false),(13,false)] rfl ?_)
     refine aG (aE ?_)
     refine ev_new fun b40=>?_
     refine aE ?_
     refine ev_stop (go_appendE (sz:=2) (M:=[_]) (enc:=encP) Tryz.tbs_ok [2] [] (.inr 6) (M) ([{ s:=s,i:=(↑i:Int):Spt }]) ((M)++([{ s:=s,i:=(↑i:Int):Spt }])) (m+1) rfl rfl rfl rfl rfl rfl rfl (by decide) rfl (by decide) (fun _ p=>starH_one.1 p) rfl (fun _ p=>Pt.rd p rfl) (by first | rfl | simp) (by first | rfl | omega) (aM (m+1)) (aN (m+1)) (fun _ _=>aL) (fun A41 c42 h43=>?_))
     refine aG (aE (aE (aE (aK ?_))))
     refine wN (i+1) ?_
     refine ev_fin (round_next ((i+1,m+1,A41,c42,M++[{ s:=s,i:=(↑i:Int):Spt }])) (?_:cn≤i+1∧i+1≤cz∧m+1=(M++[{ s:=s,i:=(↑i:Int):Spt }]).length∧M++[{ s:=s,i:=(↑i:Int):Spt }]=x.F++spots s (↑cn:Int) (i+1-cn)) (show cz-(i+1)<cz-i from (by omega)) aS)
     exact ⟨by omega,by omega,by rw [List.length_append,←hm2];rfl,spots_next hM hi1⟩
   have hkk:cn+(i-cn)=cz:=by omega
   refine aG ?_
   refine aI ?_ (decide_eq_false (show ¬(↑i:Int)<(↑cz:Int) from (by omega)))
   refine ev_fin (go Tryz.tbs_ok 1000 ?_)
   subst hm2
   exact ev_fin ⟨trivial,_,rfl,⟨x.r0,x.r1,x.r2,⟨⟨zp,zv,zL,(cz:Int)⟩,x12,x13⟩,M,A2,d2⟩,rfl,one_good 3 hM hcn hkk rfl rfl,Frm.imp (M:=[RefP c ⟨x.r0,x.r1,x.r2,⟨⟨zp,zv,zL,(cz:Int)⟩,x12,x13⟩,M,A2,d2⟩ sure dirty,RegsA x,RowG ⟨⟨zp,zv,zL,(cz:Int)⟩,x12,x13⟩,FeedA ⟨x.r0,x.r1,x.r2,⟨⟨zp,zv,zL,(cz:Int)⟩,x12,x13⟩,M,A2,d2⟩]) [0,1,4,2] rfl (by decide) (fun h q=>regs_put (x:=x) (g:=⟨⟨zp,zv,zL,(cz:Int)⟩,x12,x13⟩) (j:=3) rfl q)⟩
 refine ev_stop (go_slot 8 _ (vI (cn:Int)) rfl rfl (by show SV.den (vI x.r3.r.c)=_;rw [hcn]) (fun _=>trivial) ?_)
 refine aG ?_
 refine ev_stop (go_loopR [1,8,28,40,47,48,49,50,57,62,63,64,65,66,67,68,69,70,71,72,73,74,75,76,77,78,79,80] (fun (i,_)=>[(8,vI (i:Nat))]) (fun (_,m,A2,d2,M)=>[(0,.box c 36 (svG x.r0++(svG x.r1++(svG x.r2++(svG ⟨⟨zp,zv,zL,(cz:Int)⟩,x17,x18⟩++[vL A2 m d2,vI (sure:Nat),.bq dirty]))))),(2,.fact (Row 72 2 A2 m d2 (M.flatMap encP)))]) (fun (i,m,_,_,M)=>cn≤i∧i≤cz∧m=M.length∧M=x.F++spots s (cn:Int) (i-cn)) (fun (i,_)=>cz-i) ((cn,x.F.length,x.A,x.c,x.F):Nat × Nat × Option Addr × Nat × List Spt) ⟨Nat.le_refl _,hcz,rfl,by rw [Nat.sub_self];exact (List.append_nil _).symm⟩ aS (fun x_ h_=>?_))
 obtain ⟨i,m,A2,d2,M⟩:=x_
 obtain ⟨hi1,hi2,hm2,hM⟩:=h_
 have hMl:M.length=x.F.length+(i-cn):=by rw [hM,List.length_append,spots_len]
 rcases Nat.lt_or_ge i cz with hlt | hlt
 · refine aG ?_
   refine aJ ?_ (decide_eq_true (show (↑i:Int)<(↑cz:Int) from (by omega)))
   refine ev_stop (go_draw Tryz.tbs_ok false [0,3] [(0,true),(1,true),(2,true),(3,true),(4,true),(5,true),(6,true),(7,true),(8,true),(9,false),(10,false),(11,false),(12,false),(13,false)] rfl ?_)
   refine aG (aE ?_)
   refine ev_new fun b40=>?_
   refine aE ?_
   refine ev_stop (go_appendE (sz:=2) (M:=[_]) (enc:=encP) Tryz.tbs_ok [2] [] (.inr 6) (M) ([{ s:=s,i:=(↑i:Int):Spt }]) ((M)++([{ s:=s,i:=(↑i:Int):Spt }])) (m+1) rfl rfl rfl rfl rfl rfl rfl (by decide) rfl (by decide) (fun _ p=>starH_one.1 p) rfl (fun _ p=>Pt.rd p rfl) (by first | rfl | simp) (by first | rfl | omega) (aM (m+1)) (aN (m+1)) (fun _ _=>aL) (fun A41 c42 h43=>?_))
   refine aG (aE (aE (aE (aK ?_))))
   refine wN (i+1) ?_
   refine ev_fin (round_next ((i+1,m+1,A41,c42,M++[{ s:=s,i:=(↑i:Int):Spt }])) (?_:cn≤i+1∧i+1≤cz∧m+1=(M++[{ s:=s,i:=(↑i:Int):Spt }]).length∧M++[{ s:=s,i:=(↑i:Int):Spt }]=x.F++spots s (↑cn:Int) (i+1-cn)) (show cz-(i+1)<cz-i from (by omega)) aS)
   exact ⟨by omega,by omega,by rw [List.length_append,←hm2];rfl,spots_next hM hi1⟩
 have hkk:cn+(i-cn)=cz:=by omega
 refine aG ?_
 refine aI ?_ (decide_eq_false (show ¬(↑i:Int)<(↑cz:Int) from (by omega)))
 refine ev_fin (go Tryz.tbs_ok 1000 ?_)
 subst hm2
 exact ev_fin ⟨trivial,_,rfl,⟨x.r0,x.r1,x.r2,⟨⟨zp,zv,zL,(cz:Int)⟩,x17,x18⟩,M,A2,d2⟩,rfl,one_good 3 hM hcn hkk rfl rfl,Frm.imp (M:=[RefP c ⟨x.r0,x.r1,x.r2,⟨⟨zp,zv,zL,(cz:Int)⟩,x17,x18⟩,M,A2,d2⟩ sure dirty,RegsA x,RowG ⟨⟨zp,zv,zL,(cz:Int)⟩,x17,x18⟩,FeedA ⟨x.r0,x.r1,x.r2,⟨⟨zp,zv,zL,(cz:Int)⟩,x17,x18⟩,M,A2,d2⟩]) [0,1,5,2] rfl (by decide) (fun h q=>regs_put (x:=x) (g:=⟨⟨zp,zv,zL,(cz:Int)⟩,x17,x18⟩) (j:=3) rfl q)⟩
theorem feed_rd {P:Asn} {x:StaS} {h:Hp} (q:Asn.starH [P,RegsA x,FeedA x] h):Asn.starH [P,x.rd] h:=by
 obtain ⟨h1,h2,d,a,b,p,h3,h4,_,a3,a4,p3,p4⟩:=q
 have p5:(FeedA x).holds h2:=Asn.mono _ a4 (starH_one.1 p4)
 refine ⟨h1,h2,d,a,b,p,starH_one.2 ⟨fun y hy=>y.own.mono a3 (p3 y hy),Row.rd p5,Row.cap p5,fun e=>?_⟩⟩
 rcases p5.2.2 with ⟨_,_,h0⟩ | ⟨_,_,h0,_⟩
 · exact h0
 rw [e] at h0
 cases h0
theorem step_of {x:StaS} {y:Rec} (hx:okS x.abs) (h4:y.k≠4) (h5:y.k≠5) (hm:mayR y=true):∃ (j:Nat) (g:RegS),j<4∧y.s=(j:Int)∧x.regs[j]? = some g∧okR g.r=true∧(y.k=1∨y.k=2∨y.k=3)∧stepS x.abs y=(match applyR g.r y with | none=>none | some z=>some ⟨x.abs.R.set j z,x.F++spots y.s g.r.c (z.c-g.r.c).toNat⟩):=by
 have hs:=small_of_may hm
 have hk:=hs.k
 have h04:=hs.s
 have hj:y.s.toNat<x.regs.length:=by show _<4;omega
 refine ⟨y.s.toNat,x.regs[y.s.toNat],by omega,by omega,List.getElem?_eq_getElem hj,hx.regs _ (by rw [abs_R];exact List.mem_map_of_mem (List.getElem_mem hj)),by omega,?_⟩
 have hat:x.abs.at y.s=x.regs[y.s.toNat].r:=by
  unfold Sta.at
  rw [abs_R,List.getElem?_map,List.getElem?_eq_getElem hj]
  rfl
 unfold stepS applyS
 rw [if_neg (by rw [hm];simp [h4,h5]),if_neg h5,if_pos h04,hat]
 cases ha:applyR x.regs[y.s.toNat].r y with
 | none=>rfl
 |
  some z =>
  obtain ⟨_,g2⟩:=applyR_c h4 ha
  simp only [Option.some.injEq,Sta.mk.injEq,true_and]
  by_cases h3:y.k=3
  · rw [if_pos h3]
    rfl
  rw [if_neg h3,g2 h3,Int.sub_self]
  show x.F=x.F++[]
  rw [List.append_nil]
set_option maxHeartbeats 8000000 in
theorem rWriteT (r:Nat) (x:StaS) (sure:Nat) (dirty:Bool) (C:Option Addr) (L:List RecS) (n c:Nat) (hn:n=L.length) (hn1:n≤1000) (hL:∀ y∈L,y.r.L.length≤2000∧y.r.F.length≤100000) (hx:okS x.abs) (e:Int) (he:e=if writeS x.abs (recsR L)=none then 2 else 0) (b:Bool) (hb:b=(decide (e=0)&&decide (n≠0))) :
 Triple Tryz.prog 13 [pP r,.slice C n c] [RefP r x sure dirty,x.rd] [Rd 8 C n (L.flatMap encR),RecsRd L] StaS (fun _=>.int .i64 e) (fun X=>if e=0 then writeS x.abs (recsR L)=some X.abs else X=x) (fun X=>[RefP r X sure (b || dirty),X.rd]):=by
 have TC:=(rCloneT r x sure dirty hx)
 unfold RefP refV svG at TC
 simp only [SV.denL,SV.den,List.cons_append,List.nil_append] at TC
 refine triple_intro Tryz.tbs_ok Tryz.func13 rfl [.pt 0 r 0,vL C n c] [.box r 36 (refV x sure dirty),.fact x.rd] ⟨rfl,trivial,trivial⟩ rfl (by simp [refV,svG,SV.good,SV.goodL]) ?_
 intro E
 refine aG ?_
 refine aD TC [0] [.inr 1] (fun (v0_,v1_)=>[.box (r) 36 [vI x.r0.r.p,vI x.r0.r.v,vL x.r0.A x.r0.r.L.length x.r0.a,vI x.r0.r.c,vI x.r1.r.p,vI x.r1.r.v,vL x.r1.A x.r1.r.L.length x.r1.a,vI x.r1.r.c,vI x.r2.r.p,vI x.r2.r.v,vL x.r2.A x.r2.r.L.length x.r2.a,vI x.r2.r.c,vI x.r3.r.p,vI x.r3.r.v,vL x.r3.A x.r3.r.L.length x.r3.a,vI x.r3.r.c,vL x.A x.F.length x.c,vI ↑sure,.bq (dirty)],.box (v0_) 36 [vI v1_.r0.r.p,vI v1_.r0.r.v,vL v1_.r0.A v1_.r0.r.L.length v1_.r0.a,vI v1_.r0.r.c,vI v1_.r1.r.p,vI v1_.r1.r.v,vL v1_.r1.A v1_.r1.r.L.length v1_.r1.a,vI v1_.r1.r.c,vI v1_.r2.r.p,vI v1_.r2.r.v,vL v1_.r2.A v1_.r2.r.L.length v1_.r2.a,vI v1_.r2.r.c,vI v1_.r3.r.p,vI v1_.r3.r.v,vL v1_.r3.A v1_.r3.r.L.length v1_.r3.a,vI v1_.r3.r.c,vL v1_.A v1_.F.length v1_.c,vI ↑sure,.bq (dirty)],.fact (RegsA v1_),.fact (FeedA v1_)]) fun ⟨x10,x11⟩ h12=>?_
 have hA:x11.abs=x.abs := ‹_›
 refine ev_stop (go_slotB 5 _ (.pt 2 x10 0) rfl rfl rfl rfl ?_)
 refine aG ?_
 refine ev_stop (go_loopR [4,6,9,10,11,12,13,14,15,16,17,18,19,20,21] (fun (i,_)=>[(6,vI (i:Nat))]) (fun (_,X)=>[(2,.box x10 36 (refV X sure dirty)),(3,.fact (RegsA X)),(4,.fact (FeedA X))]) (fun (i,X)=>i≤n∧writeS x.abs (recsR (L.take i))=some X.abs) (fun (i,_)=>n-i) ((0,x11):Nat × StaS) ⟨Nat.zero_le _,by rw [List.take_zero,hA];rfl⟩ aS (fun x_ h_=>?_))
 obtain ⟨i,X⟩:=x_
 obtain ⟨hi,hX⟩:=h_
 have hok:okS X.abs:=(writeS_some hX hx).1
 rcases Nat.lt_or_ge i n with him | him
 · have hil:i<L.length:=by omega
   have hm:=List.getElem_mem hil
   have hlim:=hL L[i] hm
   have hre:∀ Z∈[L[i].rdL],∃ A∈[RecsRd L],∀ h,A.holds h→Z.holds h:=fun Z hZ=>by
    rw [List.mem_singleton.1 hZ]
    exact ⟨_,List.mem_cons_self,fun _ q=>(q L[i] hm).1⟩
   have hrg:∀ Z∈[RegsA X,L[i].rdL],∃ A∈[RegsA X,RecsRd L],∀ h,A.holds h→Z.holds h:=fun Z hZ=>by
    simp only [List.mem_cons,List.not_mem_nil,or_false] at hZ
    rcases hZ with rfl | rfl
    · exact ⟨_,List.mem_cons_self,fun _ q=>q⟩
    exact ⟨_,List.mem_cons_of_mem _ List.mem_cons_self,fun _ q=>(q L[i] hm).1⟩
   have hcut:recsR L=recsR (L.take i)++L[i].r::recsR (L.drop (i+1)):=by
    unfold recsR
    rw [←List.map_cons,←List.drop_eq_getElem_cons hil,←List.map_append,List.take_append_drop]
   have hnone:stepS X.abs L[i].r=none→e=2∧b=false:=fun q=>by
    have hno:=writeS_stop (m:=recsR (L.drop (i+1))) hX q
    rw [←hcut] at hno
    have:e=2:=by rw [he,if_pos hno]
    exact ⟨this,by rw [hb,this];rfl⟩
   by_cases hbad:L[i].r.k=4∨L[i].r.k=5∨¬ (0≤L[i].r.s∧L[i].r.s<4)∨mayR L[i].r=false
   · obtain ⟨rfl,rfl⟩:=hnone (by
      unfold stepS
      rcases hbad with q | q | q | q
      · rw [if_pos (.inl q)]
      · rw [if_pos (.inr (.inl q))]
      · by_cases hz:L[i].r.k=4∨L[i].r.k=5∨mayR L[i].r=false
        · rw [if_pos hz]
        rw [if_neg hz]
        unfold applyS
        rw [if_neg (fun q5=>hz (.inr (.inl q5))),if_neg q]
      rw [if_pos (.inr (.inr q))])
     have T:=(rOneBad x10 X sure dirty L[i] (by omega) hbad).reads hre
     unfold RefP refV svG at T
     simp only [SV.denL,SV.den,List.cons_append,List.nil_append] at T
     refine aG ?_
     refine aJ ?_ (decide_eq_true (show (↑i:Int)<(↑n:Int) from (by omega)))
     refine ev_stop (go_indexE (sz:=8) Tryz.tbs_ok (.inl 0) (i) rfl rfl rfl rfl rfl rfl (by omega) rfl (fun _ h=>h) (fun g30 o32 e31=>?_))
     subst e31
     refine aG ?_
     have l33:i<(L).length:=(by omega)
     refine ev_stop (go_loadE Tryz.tbs_ok (.inl 0) (i) 0 rfl rfl rfl rfl (fun _ h=>h) (by omega) (fun _=>rfl) (by omega) l33 (by decide) ?_)
     refine aG ?_
     refine aD T [2] [.inl 1] (fun v0_=>[.box (x10) 36 [vI X.r0.r.p,vI X.r0.r.v,vL X.r0.A X.r0.r.L.length X.r0.a,vI X.r0.r.c,vI X.r1.r.p,vI X.r1.r.v,vL X.r1.A X.r1.r.L.length X.r1.a,vI X.r1.r.c,vI X.r2.r.p,vI X.r2.r.v,vL X.r2.A X.r2.r.L.length X.r2.a,vI X.r2.r.c,vI X.r3.r.p,vI X.r3.r.v,vL X.r3.A X.r3.r.L.length X.r3.a,vI X.r3.r.c,vL X.A X.F.length X.c,vI ↑sure,.bq (dirty)]]) fun _ h34=>?_
     refine aJ ?_
     exact ev_fin ⟨trivial,_,rfl,(x),rfl,by trivial,aF [0,1]⟩
     all_goals skip
   simp only [not_or,Classical.not_not] at hbad
   obtain ⟨b4,b5,bs,bm⟩:=hbad
   obtain ⟨j,g,hj,hs,hg,hgo,hk,hst⟩:=step_of hok b4 b5 (by simpa using bm)
   cases ha:applyR g.r L[i].r with
   |
    none =>
    rw [ha] at hst
    obtain ⟨rfl,rfl⟩:=hnone hst
    have T:=(rOneNo x10 X sure dirty L[i] hk (by simpa using bm) hlim.1 j hj hs g hg hgo ha).reads hrg
    unfold RefP refV svG at T
    simp only [SV.denL,SV.den,List.cons_append,List.nil_append] at T
    refine aG ?_
    refine aJ ?_ (decide_eq_true (show (↑i:Int)<(↑n:Int) from (by omega)))
    refine ev_stop (go_indexE (sz:=8) Tryz.tbs_ok (.inl 0) (i) rfl rfl rfl rfl rfl rfl (by omega) rfl (fun _ h=>h) (fun g30 o32 e31=>?_))
    subst e31
    refine aG ?_
    have l33:i<(L).length:=(by omega)
    refine ev_stop (go_loadE Tryz.tbs_ok (.inl 0) (i) 0 rfl rfl rfl rfl (fun _ h=>h) (by omega) (fun _=>rfl) (by omega) l33 (by decide) ?_)
    refine aG ?_
    refine aD T [2] [.inr 3,.inl 1] (fun v0_=>[.box (x10) 36 [vI X.r0.r.p,vI X.r0.r.v,vL X.r0.A X.r0.r.L.length X.r0.a,vI X.r0.r.c,vI X.r1.r.p,vI X.r1.r.v,vL X.r1.A X.r1.r.L.length X.r1.a,vI X.r1.r.c,vI X.r2.r.p,vI X.r2.r.v,vL X.r2.A X.r2.r.L.length X.r2.a,vI X.r2.r.c,vI X.r3.r.p,vI X.r3.r.v,vL X.r3.A X.r3.r.L.length X.r3.a,vI X.r3.r.c,vL X.A X.F.length X.c,vI ↑sure,.bq (dirty)]]) fun _ h34=>?_
    refine aJ ?_
    exact ev_fin ⟨trivial,_,rfl,(x),rfl,by trivial,aF [0,1]⟩
    all_goals skip
   |
    some z =>
    rw [ha] at hst
    have T:=(rOneYes x10 X sure dirty L[i] hk (by simpa using bm) hlim.1 j hj hs g hg hgo (Nat.le_trans (feed_small hok).1 (by decide)) z ha).reads hre
    unfold RefP refV svG at T
    simp only [SV.denL,SV.den,List.cons_append,List.nil_append] at T
    refine aG ?_
    refine aJ ?_ (decide_eq_true (show (↑i:Int)<(↑n:Int) from (by omega)))
    refine ev_stop (go_indexE (sz:=8) Tryz.tbs_ok (.inl 0) (i) rfl rfl rfl rfl rfl rfl (by omega) rfl (fun _ h=>h) (fun g30 o32 e31=>?_))
    subst e31
    refine aG ?_
    have l33:i<(L).length:=(by omega)
    refine ev_stop (go_loadE Tryz.tbs_ok (.inl 0) (i) 0 rfl rfl rfl rfl (fun _ h=>h) (by omega) (fun _=>rfl) (by omega) l33 (by decide) ?_)
    refine aG ?_
    refine aD T [2,3,4] [.inl 1] (fun v0_=>[.box (x10) 36 [vI v0_.r0.r.p,vI v0_.r0.r.v,vL v0_.r0.A v0_.r0.r.L.length v0_.r0.a,vI v0_.r0.r.c,vI v0_.r1.r.p,vI v0_.r1.r.v,vL v0_.r1.A v0_.r1.r.L.length v0_.r1.a,vI v0_.r1.r.c,vI v0_.r2.r.p,vI v0_.r2.r.v,vL v0_.r2.A v0_.r2.r.L.length v0_.r2.a,vI v0_.r2.r.c,vI v0_.r3.r.p,vI v0_.r3.r.v,vL v0_.r3.A v0_.r3.r.L.length v0_.r3.a,vI v0_.r3.r.c,vL v0_.A v0_.F.length v0_.c,vI ↑sure,.bq (dirty)],.fact (RegsA v0_),.fact (FeedA v0_)]) fun x34 h35=>?_
    refine aI ?_
    refine wN (i+1) ?_
    refine ev_fin (round_next ((i+1,x34)) (?_:i+1≤n∧writeS x.abs (recsR (List.take (i+1) L))=some x34.abs) (show n-(i+1)<n-i from (by omega)) aS)
    have ht:recsR (L.take (i+1))=recsR (L.take i)++[L[i].r]:=by unfold recsR;rw [←List.take_append_getElem hil,List.map_append];rfl
    exact ⟨by omega,by rw [ht];exact writeS_snoc hX (by rw [hst];exact congrArg some (Eq.symm ‹x34.abs=_›))⟩
 obtain rfl:i=n:=by omega
 rw [show L.take i=L by rw [hn];exact List.take_length] at hX
 obtain rfl:e=0:=by rw [he,hX,if_neg (by simp)]
 rcases Nat.eq_zero_or_pos i with h0 | h0
 · obtain rfl:b=false:=by rw [hb];simp [h0]
   obtain rfl:L=[]:=List.eq_nil_of_length_eq_zero (by omega)
   refine aG ?_
   refine aI ?_ (decide_eq_false (show ¬(↑i:Int)<(↑i:Int) from (by omega)))
   refine ev_fin (go Tryz.tbs_ok 1000 ?_)
   refine aI ?_ (decide_eq_false (show ¬(↑i:Int) > 0 from (by omega)))
   exact ev_fin ⟨trivial,_,rfl,(x),rfl,by trivial,aF [0,1]⟩
   all_goals skip
 obtain rfl:b=true:=by rw [hb];simp;omega
 refine aG ?_
 refine aI ?_ (decide_eq_false (show ¬(↑i:Int)<(↑i:Int) from (by omega)))
 refine ev_fin (go Tryz.tbs_ok 1000 ?_)
 refine aJ ?_ (decide_eq_true (show (↑i:Int) > 0 from (by omega)))
 exact ev_fin ⟨trivial,_,rfl,X,rfl,by show (if (0:Int)=0 then _ else _);rw [if_pos rfl];exact hX,Frm.imp (M:=[RefP r X sure true,RegsA X,FeedA X]) [0,3,4] rfl (by decide) (fun h q=>feed_rd q)⟩
theorem rSyncT (r:Nat) (x:StaS) (sure:Nat) (dirty:Bool):Triple Tryz.prog 15 [pP r] [RefP r x sure dirty] [] Unit (fun _=>.tuple #[]) (fun _=>True) (fun _=>[RefP r x x.F.length false]):=by
 refine triple_intro Tryz.tbs_ok Tryz.func15 rfl [.pt 0 r 0] [.box r 36 (refV x sure dirty)] ⟨rfl,trivial⟩ rfl (by simp [refV,svG,SV.good,SV.goodL]) ?_
 intro E
 refine aG ?_
 exact ev_fin ⟨trivial,_,rfl,(),rfl,by trivial,aF [0]⟩
 all_goals skip
theorem sameFeedT (C D:Option Addr) (L M:List Spt) (m n d e:Nat) (hm:m=L.length) (hn:n=M.length) (h1:m≤1000000) :
 Triple Tryz.prog 40 [.slice C m d,.slice D n e] [] [Rd 2 C m (L.flatMap encP),Rd 2 D n (M.flatMap encP)] Unit (fun _=>.bool (decide (L=M))) (fun _=>True) (fun _=>[]):=by
 refine aT Tryz.func40 [vL C m d,vL D n e] [] (fun E=>?_) ⟨trivial,trivial,trivial⟩
 refine aG ?_
 refine ev_if_ne (fun h0=>?_) (fun h0=>?_)
 refine aG ?_
 refine ev_fin ⟨trivial,_,rfl,(()),?_,(by trivial),Frm.nil _⟩
 rotate_left
 refine aG ?_
 rotate_left
 · have:m≠n:=by omega
   rw [decide_eq_false (fun e=>this (by rw [hm,hn,e]))]
   rfl
 have hmn:m=n:=by omega
 refine ev_stop (go_loopR [4,5,11,12,13,14,15,16,17,18,19,20,21,22,23,24,25] (fun i=>[(5,vI (i:Nat))]) (fun _=>[]) (fun i=>i≤m∧L.take i=M.take i) (fun i=>m-i) (0:Nat) ⟨Nat.zero_le _,rfl⟩ aS (fun i h_=>?_))
 obtain ⟨hi,hE⟩:=h_
 rcases Nat.lt_or_ge i m with him | him
 · have hil:i<L.length:=by omega
   have hin:i<M.length:=by omega
   refine aG ?_
   refine aJ ?_ (decide_eq_true (show (↑i:Int)<(↑m:Int) from (by omega)))
   refine ev_stop (go_draw Tryz.tbs_ok true [] [(0,true),(1,true),(2,true),(3,true),(4,true),(5,true),(6,true),(7,true),(8,true)] rfl ?_)
   refine aG (aE ?_)
   refine ev_stop (tk_indexE (sz:=2) Tryz.tbs_ok (.inl 0) (i) aB rfl rfl rfl rfl rfl rfl rfl (by omega) rfl (fun _ h=>h) (fun g10 o12 e11=>?_))
   subst e11
   refine aG (aE ?_)
   have l13:i<(L).length:=(by omega)
   refine ev_stop (tk_loadE Tryz.tbs_ok (.inl 0) (i) 0 aB rfl rfl rfl rfl rfl (fun _ h=>h) (by omega) (fun _=>rfl) (by omega) l13 (by decide) ?_)
   refine aG (aE ?_)
   refine ev_stop (tk_indexE (sz:=2) Tryz.tbs_ok (.inl 1) (i) aB rfl rfl rfl rfl rfl rfl rfl (by omega) rfl (fun _ h=>h) (fun g14 o16 e15=>?_))
   subst e15
   refine aG (aE ?_)
   have l17:i<(M).length:=(by omega)
   refine ev_stop (tk_loadE Tryz.tbs_ok (.inl 1) (i) 0 aB rfl rfl rfl rfl rfl (fun _ h=>h) (by omega) (fun _=>rfl) (by omega) l17 (by decide) ?_)
   refine aG (aE ?_)
   refine ev_stop (tk_val (o:=_) ⟨⟨trivial,rfl⟩,by kernel_rfl⟩ rfl rfl (.bq (!(decide (L[i]=M[i])))) trivial (fun a w hF _=>neq_run (ev_denv hF rfl rfl) (ev_denv hF rfl rfl) (by kernel_rfl) (eq_spt L[i] M[i] 9998 w)) ?_)
   refine aG (aE ?_)
   refine ev_if_nd (fun h30=>?_) (fun h30=>?_)
   refine aG ?_
   refine ev_fin ⟨trivial,_,rfl,(()),?_,(by trivial),Frm.nil _⟩
   rotate_left
   refine aG ?_
   refine wN (i+1) ?_
   refine ev_fin (round_next (i+1) (?_:i+1≤m∧List.take (i+1) L=List.take (i+1) M) (show m-(i+1)<m-i from (by omega)) aS)
   rotate_left
   · rw [decide_eq_false (fun e=>h30 (by subst e;rfl))]
     rfl
   have he:L[i]=M[i]:=by simpa using ‹_›
   exact ⟨by omega,by rw [←List.take_append_getElem hil,←List.take_append_getElem hin,hE,he]⟩
 have hir:i=m:=by omega
 rw [List.take_of_length_le (by omega),List.take_of_length_le (by omega)] at hE
 rw [decide_eq_true hE]
 refine aG ?_
 refine aI ?_ (decide_eq_false (show ¬(↑i:Int)<(↑m:Int) from (by omega)))
 refine ev_fin (go Tryz.tbs_ok 1000 ?_)
 refine ev_fin ⟨trivial,_,rfl,(()),rfl,(by trivial),Frm.nil _⟩
theorem sameRefT (g y:RegS) (Y:StaS) (hy:y∈Y.regs) (hl:g.r.L.length≤1000000) (A:Option Addr) (a:Nat):Triple Tryz.prog 27 [.agg (encG ⟨g.r,A,a⟩).toArray,.agg (encG y).toArray] [] [Row 101 6 A g.r.L.length a (g.r.L.flatMap encE),Y.rd] Unit (fun _=>.bool (decide (g.r=y.r))) (fun _=>True) (fun _=>[]) :=
 (sameRegT ⟨g.r,A,a⟩ y hl).reads (fun X hX=>by
  simp only [List.mem_cons,List.not_mem_nil,or_false] at hX
  rcases hX with rfl | rfl
  · exact ⟨_,List.mem_cons_self,fun _ q=>Row.rd q⟩
  exact ⟨_,List.mem_cons_of_mem _ List.mem_cons_self,fun _ q=>(q.1 y hy).1⟩)
set_option maxHeartbeats 4000000 in
theorem alikeT (p w r:Nat) (x Y:StaS) (sure s2:Nat) (dirty d2:Bool) (hx:okS x.abs):Triple Tryz.prog 24 [pP p,pP r] [StoP p w x sure dirty,RefP r Y s2 d2] [x.rd,Y.rd] Unit (fun _=>.bool (decide (x.abs.R=Y.abs.R))) (fun _=>True) (fun _=>[StoP p w x sure dirty,RefP r Y s2 d2]):=by
 have TR:=fun (j:Nat) (g:RegS) hj hg=>regGood p w x sure dirty j g hj hg (reg_len hx hg)
 have TR0:=TR 0 x.r0 (by decide) rfl
 have TR1:=TR 1 x.r1 (by decide) rfl
 have TR2:=TR 2 x.r2 (by decide) rfl
 have TR3:=TR 3 x.r3 (by decide) rfl
 have hl:=fun (j:Nat) (g:RegS) (hg:x.regs[j]? = some g)=>Nat.le_trans (reg_len hx hg) (show 1000≤1000000 by decide)
 have TQ0:=fun A a=>sameRefT x.r0 Y.r0 Y (by simp [StaS.regs]) (hl 0 x.r0 rfl) A a
 have TQ1:=fun A a=>sameRefT x.r1 Y.r1 Y (by simp [StaS.regs]) (hl 1 x.r1 rfl) A a
 have TQ2:=fun A a=>sameRefT x.r2 Y.r2 Y (by simp [StaS.regs]) (hl 2 x.r2 rfl) A a
 have TQ3:=fun A a=>sameRefT x.r3 Y.r3 Y (by simp [StaS.regs]) (hl 3 x.r3 rfl) A a
 obtain ⟨b0,h0⟩:∃ b,b=decide (x.r0.r=Y.r0.r):=⟨_,rfl⟩
 obtain ⟨b1,h1⟩:∃ b,b=decide (x.r1.r=Y.r1.r):=⟨_,rfl⟩
 obtain ⟨b2,h2⟩:∃ b,b=decide (x.r2.r=Y.r2.r):=⟨_,rfl⟩
 obtain ⟨b3,h3⟩:∃ b,b=decide (x.r3.r=Y.r3.r):=⟨_,rfl⟩
 obtain ⟨R,hR⟩:∃ R,R=decide (x.abs.R=Y.abs.R):=⟨_,rfl⟩
 have hR2:R=(b0&&(b1&&(b2&&b3))):=by
  rw [hR,h0,h1,h2,h3]
  unfold StaS.abs
  simp only [List.cons.injEq,and_true,Bool.decide_and]
 rw [←h0] at TQ0
 rw [←h1] at TQ1
 rw [←h2] at TQ2
 rw [←h3] at TQ3
 rw [←hR]
 clear h0 h1 h2 h3 hR TR
 refine triple_intro Tryz.tbs_ok Tryz.func24 rfl [vP p,.pt 1 r 0] [.fact (StoP p w x sure dirty),.box r 36 (refV Y s2 d2)] ⟨trivial,rfl,trivial⟩ rfl (by simp [refV,svG,SV.good,SV.goodL]) ?_
 intro E
 refine aG ?_
 refine ev_stop (go_rounds 5 ?_)
 refine aG (aJ ?_)
 refine aC TR0 [0] [.inl 0] fun ⟨x20,x21⟩ h22=>?_
 refine ev_new fun b23=>?_
 refine ev_stop (go_draw Tryz.tbs_ok true [1,3] [(0,true),(1,true),(2,true),(3,true),(4,true),(5,true),(6,true),(7,true),(8,true),(9,true),(10,false),(11,false),(12,false)] rfl ?_)
 refine aG (aE (aI (aE ?_)))
 refine ev_stop (tk_indexArr Tryz.tbs_ok (0) aB rfl rfl rfl rfl rfl rfl rfl (by first | decide | omega) rfl rfl ?_)
 refine aG (aE ?_)
 refine aC (TQ0 (x20) (x21)) [] [.inr 2,.inl 1] fun _ h24=>?_
 refine aE (aE (aE ?_))
 refine ev_if (fun h25=>?_) (fun h25=>?_)
 refine aG ?_
 refine ev_fin ⟨trivial,_,rfl,(),?_,by trivial,aF [0,1]⟩
 rotate_left
 refine aG ?_
 refine wN (0+1) ?_
 refine ev_fin (go Tryz.tbs_ok 1000 ?_)
 refine aJ ?_
 refine aC TR1 [0] [.inl 0] fun ⟨x26,x27⟩ h28=>?_
 refine ev_new fun b29=>?_
 refine ev_stop (go_draw Tryz.tbs_ok true [1,5] [(0,true),(1,true),(2,true),(3,true),(4,true),(5,true),(6,true),(7,true),(8,true),(9,true),(10,false),(11,false),(12,false)] rfl ?_)
 refine aG (aE (aI (aE ?_)))
 refine ev_stop (tk_indexArr Tryz.tbs_ok (0+1) aB rfl rfl rfl rfl rfl rfl rfl (by first | decide | omega) rfl rfl ?_)
 refine aG (aE ?_)
 refine aC (TQ1 (x26) (x27)) [] [.inr 4,.inl 1] fun _ h30=>?_
 refine aE (aE (aE ?_))
 refine ev_if (fun h31=>?_) (fun h31=>?_)
 refine aG ?_
 refine ev_fin ⟨trivial,_,rfl,(),?_,by trivial,aF [0,1]⟩
 rotate_left
 refine aG ?_
 refine wN (0+1+1) ?_
 refine ev_fin (go Tryz.tbs_ok 1000 ?_)
 refine aJ ?_
 refine aC TR2 [0] [.inl 0] fun ⟨x32,x33⟩ h34=>?_
 refine ev_new fun b35=>?_
 refine ev_stop (go_draw Tryz.tbs_ok true [1,7] [(0,true),(1,true),(2,true),(3,true),(4,true),(5,true),(6,true),(7,true),(8,true),(9,true),(10,false),(11,false),(12,false)] rfl ?_)
 refine aG (aE (aI (aE ?_)))
 refine ev_stop (tk_indexArr Tryz.tbs_ok (0+1+1) aB rfl rfl rfl rfl rfl rfl rfl (by first | decide | omega) rfl rfl ?_)
 refine aG (aE ?_)
 refine aC (TQ2 (x32) (x33)) [] [.inr 6,.inl 1] fun _ h36=>?_
 refine aE (aE (aE ?_))
 refine ev_if (fun h37=>?_) (fun h37=>?_)
 refine aG ?_
 refine ev_fin ⟨trivial,_,rfl,(),?_,by trivial,aF [0,1]⟩
 rotate_left
 refine aG ?_
 refine wN (0+1+1+1) ?_
 refine ev_fin (go Tryz.tbs_ok 1000 ?_)
 refine aJ ?_
 refine aC TR3 [0] [.inl 0] fun ⟨x38,x39⟩ h40=>?_
 refine ev_new fun b41=>?_
 refine ev_stop (go_draw Tryz.tbs_ok true [1,9] [(0,true),(1,true),(2,true),(3,true),(4,true),(5,true),(6,true),(7,true),(8,true),(9,true),(10,false),(11,false),(12,false)] rfl ?_)
 refine aG (aE (aI (aE ?_)))
 refine ev_stop (tk_indexArr Tryz.tbs_ok (0+1+1+1) aB rfl rfl rfl rfl rfl rfl rfl (by first | decide | omega) rfl rfl ?_)
 refine aG (aE ?_)
 refine aC (TQ3 (x38) (x39)) [] [.inr 8,.inl 1] fun _ h42=>?_
 refine aE (aE (aE ?_))
 refine ev_if (fun h43=>?_) (fun h43=>?_)
 refine aG ?_
 refine ev_fin ⟨trivial,_,rfl,(),?_,by trivial,aF [0,1]⟩
 rotate_left
 refine aG ?_
 refine wN (0+1+1+1+1) ?_
 refine ev_fin (go Tryz.tbs_ok 1000 ?_)
 refine aI ?_
 refine ev_fin (go Tryz.tbs_ok 1000 ?_)
 refine ev_fin ⟨trivial,_,rfl,(),?_,by trivial,aF [0,1]⟩
 rotate_left
 all_goals (show Value.bool _=Value.bool R;congr 1;rw [hR2];clear TR0 TR1 TR2 TR3 TQ0 TQ1 TQ2 TQ3;cases b0<;>cases b1<;>cases b2<;>cases b3<;>first | rfl | (simp_all;done))
set_option maxHeartbeats 4000000 in
theorem sameT (p w r:Nat) (x Y:StaS) (sure:Nat) (dirty:Bool) (hx:okS x.abs) (hY:Y.abs=x.abs):Triple Tryz.prog 17 [pP p,pP r] [StoP p w x sure dirty,RefP r Y sure dirty] [x.rd,Y.rd] Unit (fun _=>.bool true) (fun _=>True) (fun _=>[StoP p w x sure dirty,RefP r Y sure dirty]):=by
 have hF:Y.F=x.F:=congrArg Sta.F hY
 obtain ⟨m,hm⟩:∃ m,m=x.F.length:=⟨_,rfl⟩
 have hm2:m=Y.F.length:=by rw [hF,hm]
 have TF:=feedSt p w x sure dirty (Nat.le_trans (feed_small hx).1 (by decide))
 have TA:=alikeT p w r x Y sure sure dirty dirty hx
 rw [decide_eq_true (congrArg Sta.R hY.symm)] at TA
 have TD:=dirtyT p w x sure dirty
 have TS:=fun A c=>(sameFeedT A Y.A x.F Y.F m m c Y.c hm hm2 (by have:=(feed_small hx).1;rw [hm];exact Nat.le_trans this (by decide))).reads (N':=[Row 72 2 A m c (x.F.flatMap encP),Y.rd]) (fun X hX=>by
  simp only [List.mem_cons,List.not_mem_nil,or_false] at hX
  rcases hX with rfl | rfl
  · exact ⟨_,List.mem_cons_self,fun _ q=>Row.rd q⟩
  refine ⟨_,List.mem_cons_of_mem _ List.mem_cons_self,fun h q=>?_⟩
  have:=q.2.1
  rw [←hm2] at this
  exact this)
 rw [decide_eq_true hF.symm] at TS
 rw [←hm] at TF
 unfold RefP refV svG at TA ⊢
 rw [←hm2] at TA ⊢
 simp only [SV.denL,SV.den,List.cons_append,List.nil_append] at TA ⊢
 refine triple_intro Tryz.tbs_ok Tryz.func17 rfl [vP p,.pt 1 r 0] [.fact (StoP p w x sure dirty),.box r 36 (svG Y.r0++(svG Y.r1++(svG Y.r2++(svG Y.r3++[vL Y.A m Y.c,vI (sure:Nat),.bq dirty]))))] ⟨trivial,rfl,trivial⟩ rfl (by simp [svG,SV.good,SV.goodL]) ?_
 intro E
 refine aG ?_
 refine aC TF [0] [.inl 0] fun ⟨x10,x11⟩ h12=>?_
 refine ev_stop (go_draw Tryz.tbs_ok true [1] [(0,true),(1,true),(2,true),(3,true),(4,true),(5,false),(6,false),(7,false),(8,true),(9,false),(10,false),(11,false),(12,false),(13,false),(14,false),(15,false),(16,true),(18,true),(19,true),(20,true),(21,true),(17,false),(22,false),(23,false)] rfl ?_)
 refine aG (aE ?_)
 refine aC (TS (x10) (x11)) [] [.inr 2,.inl 1] fun _ h13=>?_
 refine aE (aE (aE (aI (aE (aE (aE (aE (aE (aE (aE (aE ?_)))))))))))
 refine aI ?_ (ne_no (show (↑sure:Int)=(↑sure:Int) from (by omega)))
 refine aE ?_
 refine aC TD [0] [] fun _ h14=>?_
 refine aE (aE (aE ?_))
 refine aI ?_ (bq_no (by rfl))
 refine aD TA [0,1] [.inl 0,.inl 1] (fun v0_=>[.fact (StoP p w x sure dirty),.box (r) 36 [vI Y.r0.r.p,vI Y.r0.r.v,vL Y.r0.A Y.r0.r.L.length Y.r0.a,vI Y.r0.r.c,vI Y.r1.r.p,vI Y.r1.r.v,vL Y.r1.A Y.r1.r.L.length Y.r1.a,vI Y.r1.r.c,vI Y.r2.r.p,vI Y.r2.r.v,vL Y.r2.A Y.r2.r.L.length Y.r2.a,vI Y.r2.r.c,vI Y.r3.r.p,vI Y.r3.r.v,vL Y.r3.A Y.r3.r.L.length Y.r3.a,vI Y.r3.r.c,vL Y.A m Y.c,vI ↑sure,.bq (dirty)]]) fun _ h15=>?_
 exact ev_fin ⟨trivial,_,rfl,(),rfl,by trivial,aF [0,1]⟩
 all_goals skip
theorem Hold.write2 {x z:Sta} {W:WK} {D:DK} {rs:List Rec} {b k:Nat} (h:Hold x W D rs b k) {L:List RecS} (hb:b+(47*L.length+30*entsR L)≤200000) (hk:k≤1000000) (hw:writeS x (recsR L)=some z):∃ W' D' rs',WriteR L x W D=(W',D',0,decide (L≠[]))∧Hold z W' D' rs' (b+(47*L.length+30*entsR L)) k:=by
 obtain ⟨R,hR⟩:∃ R,WriteR L x W D=R:=⟨_,rfl⟩
 obtain ⟨W',D',e,c⟩:=R
 cases c with
 |
  true =>
  obtain ⟨⟨rs',q⟩,q2⟩:=h.write (y:=z) hb hk hR (by rw [if_pos rfl];exact hw)
  rcases q2 with ⟨q3,_⟩ | ⟨_,q4,q5⟩
  · rw [hw] at q3
    cases q3
  dsimp only at q4 q5
  rw [hR,q4,←q5]
  exact ⟨W',D',rs',rfl,q⟩
 |
  false =>
  obtain ⟨⟨rs',q⟩,q2⟩:=h.write (y:=x) hb hk hR (by rw [if_neg (by simp)])
  rcases q2 with ⟨q3,_⟩ | ⟨q3,q4,q5⟩
  · rw [hw] at q3
    cases q3
  dsimp only at q4 q5
  rw [hw] at q3
  cases q3
  rw [hR,q4,←q5]
  exact ⟨W',D',rs',rfl,q⟩
theorem rWriteNo (r:Nat) (x:StaS) (sure:Nat) (dirty:Bool) (C:Option Addr) (L:List RecS) (n c:Nat) (hn:n=L.length) (hn1:n≤1000) (hL:∀ y∈L,y.r.L.length≤2000∧y.r.F.length≤100000) (hx:okS x.abs) (h:writeS x.abs (recsR L)=none) :
 Triple Tryz.prog 13 [pP r,.slice C n c] [RefP r x sure dirty,x.rd] [Rd 8 C n (L.flatMap encR),RecsRd L] Unit (fun _=>.int .i64 2) (fun _=>True) (fun _=>[RefP r x sure dirty,x.rd]) :=
 (rWriteT r x sure dirty C L n c hn hn1 hL hx 2 (by rw [if_pos h]) false (by simp)).imp fun y g=>⟨(),rfl,trivial,by
  rw [if_neg (by decide)] at g
  rw [g]
  exact fun _ q=>q⟩
theorem rWriteYes (r:Nat) (x:StaS) (sure:Nat) (dirty:Bool) (C:Option Addr) (L:List RecS) (n c:Nat) (hn:n=L.length) (hn1:n≤1000) (hL:∀ y∈L,y.r.L.length≤2000∧y.r.F.length≤100000) (hx:okS x.abs) {z:Sta} (h:writeS x.abs (recsR L)=some z) :
 Triple Tryz.prog 13 [pP r,.slice C n c] [RefP r x sure dirty,x.rd] [Rd 8 C n (L.flatMap encR),RecsRd L] StaS (fun _=>.int .i64 0) (fun X=>X.abs=z) (fun X=>[RefP r X sure (decide (L≠[]) || dirty),X.rd]) :=
 (rWriteT r x sure dirty C L n c hn hn1 hL hx 0 (by rw [h,if_neg (by simp)]) (decide (L≠[])) (by subst hn;cases L<;>simp)).imp fun y g=>⟨y,rfl,by
  rw [if_pos rfl,h] at g
  exact (Option.some.inj g).symm,fun _ q=>q⟩
theorem writeNo (p w q:Nat) (x:StaS) (sure:Nat) (dirty:Bool) (W:WK) (D:DK) (C:Option Addr) (L:List RecS) (n c:Nat) (hn:n=L.length) (hn1:n≤1000) (hL:∀ y∈L,y.r.L.length≤2000∧y.r.F.length≤100000) (hI:StoI x.abs W D) (h:writeS x.abs (recsR L)=none) :
 Triple Tryz.prog 12 [pP p,.slice C n c] [StoP p w x sure dirty,WalM w q W,DiskM q D,x.rd] [TabA,Rd 8 C n (L.flatMap encR),RecsRd L] Unit (fun _=>.int .i64 2) (fun _=>True) (fun _=>[StoP p w x sure dirty,WalM w q W,DiskM q D,x.rd]) :=
 (writeLT p w q x sure dirty W D C L n c hn hn1 hL hI.dk hI.wk hI.st (W,D,2,false) (by unfold WriteR;rw [h])).imp fun y g=>⟨(),rfl,trivial,by
  rw [if_neg (by simp)] at g
  rw [g]
  exact fun _ q=>q⟩
theorem writeYes (p w q:Nat) (x:StaS) (sure:Nat) (dirty:Bool) {W W':WK} {D D':DK} (C:Option Addr) (L:List RecS) (n c:Nat) (hn:n=L.length) (hn1:n≤1000) (hL:∀ y∈L,y.r.L.length≤2000∧y.r.F.length≤100000) (hI:StoI x.abs W D) {z:Sta} (h:writeS x.abs (recsR L)=some z) (hR:WriteR L x.abs W D=(W',D',0,decide (L≠[]))) :
 Triple Tryz.prog 12 [pP p,.slice C n c] [StoP p w x sure dirty,WalM w q W,DiskM q D,x.rd] [TabA,Rd 8 C n (L.flatMap encR),RecsRd L] StaS (fun _=>.int .i64 0) (fun X=>X.abs=z) (fun X=>[StoP p w X sure (decide (L≠[]) || dirty),WalM w q W',DiskM q D',X.rd]) :=
 (writeLT p w q x sure dirty W D C L n c hn hn1 hL hI.dk hI.wk hI.st _ hR).imp fun y g=>⟨y,rfl,by
  dsimp only at g
  split at g
  · rw [h] at g
    exact (Option.some.inj g).symm
  rename_i q
  have h0:L=[]:=by simpa using q
  subst h0
  rw [g]
  cases h
  rfl,fun _ q=>q⟩
set_option maxHeartbeats 16000000 in
theorem storePlays (A:Option Addr) (l:List ActA) (n c:Nat) (hn:n=l.length) (hn1:n≤9223372036854775807) (hB:∀ x∈l,∀ y∈x.L,y.r.L.length≤140737488351232) (hin:∀ x∈l,0≤x.k∧x.k<256) :
 Triple Tryz.prog 3 [.slice A n c] [] [TabA,Rd 3 A n (l.flatMap encA),ActsA l] Unit (fun _=>.bool true) (fun _=>True) (fun _=>[]):=by
 have TG:=(beyondT A l n c 40 hn hn1 hB).reads (N':=[TabA,Rd 3 A n (l.flatMap encA),ActsA l]) (fun X hX=>⟨X,List.mem_cons_of_mem _ hX,fun _ q=>q⟩)
 have TL:=livesT
 have TO:=openedT
 refine aT Tryz.func3 [vL A n c] [] (fun E=>?_) ⟨trivial,trivial⟩
 refine aG ?_
 refine aC TG [] [.inl 0,.inl 1,.inl 2] fun x10 h11=>?_
 refine ev_if (fun h12=>?_) (fun h12=>?_)
 refine aG ?_
 refine aC TL [] [.inl 0] fun _ h13=>?_
 refine ev_fin ⟨trivial,_,rfl,(()),rfl,(by trivial),Frm.nil _⟩
 refine aG ?_
 refine aC TO [] [.inl 0] fun ⟨x14,x15,x16,x17⟩ h18=>?_
 refine ev_new fun b19=>?_
 have hX0:x17.abs=noSta := ‹_›
 have hF0:x17.F=[]:=congrArg Sta.F hX0
 obtain ⟨hn40,hfit,hent⟩:=h11 h12
 have hroom:=roomA_few hfit (by omega) hent
 refine ev_stop (go_fact zeroSt.rd zero_rd ?_)
 refine go_boxfact 4 (RefP b19 zeroSt 0 false) rfl (fun _ p=>p) aL ?_
 refine aG ?_
 refine ev_stop (go_loopR [2,6,10,11,14,18,19,20,21,22,23,24,25,26,27,28,29,30,31,32,33,34,35,36,37,38,39,40,41,42,43,44,45,46,47,48,49,50,51,52,53,54,55,56,57,58,59,60,61,62,63,64] (fun (i,_)=>[(6,vI (i:Nat))]) (fun (_,X,Y,sure,dirty,W,D)=>[(0,.fact X.rd),(1,.fact (StoP x15 x16 X sure dirty)),(2,.fact (WalM x16 x14 W)),(3,.fact (DiskM x14 D)),(5,.fact Y.rd),(6,.fact (RefP b19 Y sure dirty))]) (fun ((i,X,Y,sure,dirty,W,D):Nat × StaS × StaS × Nat × Bool × WK × DK)=>i≤n∧(∃ rs b k,b≤10475+roomA (l.take i)∧k≤16*i∧Hold X.abs W D rs b k)∧Y.abs=X.abs∧(dirty=false→sure=X.F.length)) (fun (i,_)=>n-i) ((0,x17,zeroSt,0,false,exW,exD):Nat × StaS × StaS × Nat × Bool × WK × DK) ⟨Nat.zero_le _,⟨[],0,0,Nat.zero_le _,Nat.zero_le _,by rw [hX0];exact Hold.new⟩,by rw [hX0];rfl,fun _=>by rw [hF0];rfl⟩ aS (fun x_ h_=>?_))
 obtain ⟨i,X,Y,sure,dirty,W,D⟩:=x_
 obtain ⟨hi,⟨rs,b,k,hb,hk,hK⟩,hYX,hsu⟩:=h_
 rcases Nat.lt_or_ge i n with hin2 | hin2
 · have hil:i<l.length:=by omega
   have hfx:=hfit l[i] (List.getElem_mem hil)
   have hkd:=hin l[i] (List.getElem_mem hil)
   have hLi:=fit_recs (List.getElem_mem hil) hfx hent
   have hI:=hK.i
   have hL6:=hfx.recs
   have hrt:=roomA_take hil
   have hr1:=hroom (i+1)
   have hok:okS Y.abs:=by rw [hYX];exact hK.st
   have hYF:Y.F=X.F:=congrArg Sta.F hYX
   obtain ⟨D2,hS,hK2⟩:=hK.sync (w:=x16) (q:=x14) hsu
   have TS:=syncLT x15 x16 x14 X sure dirty W D hI.dk hI.wk hS
   obtain ⟨W3,D3,e3,hK3⟩:=hK2.ck (by omega) (by omega)
   have TK:=ckLT x15 x16 x14 X sure dirty W D hI.dk hI.wk hI.st hS hK2.i.dk hK2.i.wk (W':=W3) (D':=D3) (e:=0) e3
   have TY:=rSyncT b19 Y sure dirty
   rw [show Y.F.length=X.F.length by rw [hYF]] at TY
   refine go_more 2 (ActsA l) (Rd 8 l[i].A l[i].L.length (l[i].L.flatMap encR)) rfl (fun h p=>(p _ (List.getElem_mem hil)).1) ?_
   refine go_more 2 (ActsA l) (RecsRd l[i].L) rfl (fun h p=>(p _ (List.getElem_mem hil)).2.1) ?_
   refine aG ?_
   refine aJ ?_ (decide_eq_true (show (↑i:Int)<(↑n:Int) from (by omega)))
   refine ev_stop (go_indexE (sz:=3) Tryz.tbs_ok (.inl 1) (i) rfl rfl rfl rfl rfl rfl (by omega) rfl (fun _ h=>h) (fun g30 o32 e31=>?_))
   subst e31
   refine aG ?_
   have l33:i<(l).length:=(by omega)
   refine ev_stop (go_loadE Tryz.tbs_ok (.inl 1) (i) 0 rfl rfl rfl rfl (fun _ h=>h) (by omega) (fun _=>rfl) (by omega) l33 (by decide) ?_)
   refine aG ?_
   refine ev_join [2,32,33,34,35,36,37,38,39,40,41,42,43,44,45,46,47,48,49,50,51,52,53,54,55,56,57,58,59,60] (fun _=>[]) (fun (X',Y',s',d',W',D')=>[(0,.fact X'.rd),(1,.fact (StoP x15 x16 X' s' d')),(2,.fact (WalM x16 x14 W')),(3,.fact (DiskM x14 D')),(5,.fact Y'.rd),(6,.fact (RefP b19 Y' s' d'))]) (fun ((X',Y',s',d',W',D'):StaS × StaS × Nat × Bool × WK × DK)=>(∃ rs b k,b≤10475+roomA (l.take (i+1))∧k≤16*(i+1)∧Hold X'.abs W' D' rs b k)∧Y'.abs=X'.abs∧(d'=false→s'=X'.F.length)) (fun hif=>?_) (fun hif=>?_) (fun x_ h_=>?_)
   · cases hw:writeS X.abs (recsR l[i].L) with
     |
      none =>
      have TW:=writeNo x15 x16 x14 X sure dirty W D l[i].A l[i].L l[i].L.length l[i].c rfl (by omega) hLi hI hw
      have TV:=rWriteNo b19 Y sure dirty l[i].A l[i].L l[i].L.length l[i].c rfl (by omega) hLi hok (by rw [hYX];exact hw)
      refine aG ?_
      refine ev_stop (go_draw Tryz.tbs_ok true [] [(0,true),(1,true),(2,true),(3,true),(4,true),(5,true),(7,true),(8,true),(9,true),(10,true),(11,true),(12,true),(6,false),(13,false),(14,false)] rfl ?_)
      refine aG (aE ?_)
      refine ev_stop (tk_atE (sz:=3) Tryz.tbs_ok (i) aB rfl rfl rfl rfl rfl rfl rfl (by omega) ?_)
      refine aG (aE ?_)
      have l40:i<(l).length:=(by omega)
      refine ev_stop (tk_loadE Tryz.tbs_ok (.inl 1) (i) 1 aB rfl rfl rfl rfl rfl (fun _ h=>h) (by omega) (fun _=>rfl) (by omega) l40 (by decide) ?_)
      refine aG (aE ?_)
      refine ev_stop (tk_atE (sz:=3) Tryz.tbs_ok (i) aB rfl rfl rfl rfl rfl rfl rfl (by omega) ?_)
      refine aG (aE ?_)
      have l41:i<(l).length:=(by omega)
      refine ev_stop (tk_loadE Tryz.tbs_ok (.inl 1) (i) 1 aB rfl rfl rfl rfl rfl (fun _ h=>h) (by omega) (fun _=>rfl) (by omega) l41 (by decide) ?_)
      refine aG (aE ?_)
      refine aC TW [1,2,3,0] [.inl 0,.inl 3,.inl 4] fun _ h42=>?_
      refine aE ?_
      refine aC TV [6,5] [.inl 3,.inl 4] fun _ h43=>?_
      refine aE (aE (aI ?_))
      refine ev_fin (join_next ((X,Y,sure,dirty,W,D)) (?_:(∃ rs b k,b≤10475+roomA (List.take (i+1) l)∧k≤16*(i+1)∧Hold X.abs W D rs b k)∧Y.abs=X.abs∧(dirty=false→sure=X.F.length))  aS)
      exact ⟨⟨rs,b,k,by omega,by omega,hK⟩,hYX,hsu⟩
     |
      some z =>
      obtain ⟨W1,D1,rs1,hR,hK1⟩:=hK.write2 (by omega) (by omega) hw
      have TW:=writeYes x15 x16 x14 X sure dirty l[i].A l[i].L l[i].L.length l[i].c rfl (by omega) hLi hI hw hR
      have TV:=rWriteYes b19 Y sure dirty l[i].A l[i].L l[i].L.length l[i].c rfl (by omega) hLi hok (z:=z) (by rw [hYX];exact hw)
      obtain ⟨b1,hb1⟩:∃ b,b=decide (l[i].L≠[]):=⟨_,rfl⟩
      rw [←hb1] at TW TV
      refine aG ?_
      refine ev_stop (go_draw Tryz.tbs_ok true [] [(0,true),(1,true),(2,true),(3,true),(4,true),(5,true),(7,true),(8,true),(9,true),(10,true),(11,true),(12,true),(6,false),(13,false),(14,false)] rfl ?_)
      refine aG (aE ?_)
      refine ev_stop (tk_atE (sz:=3) Tryz.tbs_ok (i) aB rfl rfl rfl rfl rfl rfl rfl (by omega) ?_)
      refine aG (aE ?_)
      have l60:i<(l).length:=(by omega)
      refine ev_stop (tk_loadE Tryz.tbs_ok (.inl 1) (i) 1 aB rfl rfl rfl rfl rfl (fun _ h=>h) (by omega) (fun _=>rfl) (by omega) l60 (by decide) ?_)
      refine aG (aE ?_)
      refine ev_stop (tk_atE (sz:=3) Tryz.tbs_ok (i) aB rfl rfl rfl rfl rfl rfl rfl (by omega) ?_)
      refine aG (aE ?_)
      have l61:i<(l).length:=(by omega)
      refine ev_stop (tk_loadE Tryz.tbs_ok (.inl 1) (i) 1 aB rfl rfl rfl rfl rfl (fun _ h=>h) (by omega) (fun _=>rfl) (by omega) l61 (by decide) ?_)
      refine aG (aE ?_)
      refine aC TW [1,2,3,0] [.inl 0,.inl 3,.inl 4] fun x62 h63=>?_
      refine aE ?_
      refine aC TV [6,5] [.inl 3,.inl 4] fun x64 h65=>?_
      refine aE (aE (aI ?_))
      refine ev_fin (join_next ((x62,x64,sure,b1 || dirty,W1,D1)) (?_:(∃ rs b k,b≤10475+roomA (List.take (i+1) l)∧k≤16*(i+1)∧Hold x62.abs W1 D1 rs b k)∧x64.abs=x62.abs∧((b1 || dirty)=false→sure=x62.F.length))  aS)
      have q1:x62.abs=z := ‹_›
      have q2:x64.abs=z := ‹_›
      refine ⟨⟨rs1,b+(47*l[i].L.length+30*entsR l[i].L),k,by omega,by omega,by rw [q1];exact hK1⟩,by rw [q1,q2],fun q=>?_⟩
      rw [Bool.or_eq_false_iff] at q
      have h0:l[i].L=[]:=by
       have:=q.1
       rw [hb1] at this
       simpa using this
      rw [h0] at hw
      cases hw
      rw [show x62.F=X.F from congrArg Sta.F q1]
      exact hsu q.2
   · refine aG ?_
     refine ev_if_eq (fun h80=>?_) (fun h80=>?_)
     refine aG ?_
     refine aC TS [1,2,3] [.inl 0] fun _ h81=>?_
     refine aI ?_
     refine aC TY [6] [] fun _ h82=>?_
     refine ev_fin (join_next ((X,Y,X.F.length,false,W,D2)) (?_:(∃ rs b k,b≤10475+roomA (List.take (i+1) l)∧k≤16*(i+1)∧Hold X.abs W D2 rs b k)∧Y.abs=X.abs∧(false=false→X.F.length=X.F.length))  aS)
     rotate_left
     refine aG ?_
     refine ev_if_eq (fun h83=>?_) (fun h83=>?_)
     refine aG ?_
     refine aC TK [1,2,3] [.inl 0,.inr 0] fun _ h84=>?_
     refine aI ?_
     refine aC TY [6] [] fun _ h85=>?_
     refine ev_fin (join_next ((X,Y,X.F.length,false,W3,D3)) (?_:(∃ rs b k,b≤10475+roomA (List.take (i+1) l)∧k≤16*(i+1)∧Hold X.abs W3 D3 rs b k)∧Y.abs=X.abs∧(false=false→X.F.length=X.F.length))  aS)
     rotate_left
     refine aG ?_
     refine ev_fin (join_next ((X,Y,sure,dirty,W,D)) (?_:(∃ rs b k,b≤10475+roomA (List.take (i+1) l)∧k≤16*(i+1)∧Hold X.abs W D rs b k)∧Y.abs=X.abs∧(dirty=false→sure=X.F.length))  aS)
     rotate_left
     · exact ⟨⟨rs,b,k,by omega,by omega,hK2⟩,hYX,fun _=>rfl⟩
     · exact ⟨⟨ckR X.abs,10475,k+16,by omega,by omega,hK3⟩,hYX,fun _=>rfl⟩
     exact ⟨⟨rs,b,k,by omega,by omega,hK⟩,hYX,hsu⟩
   obtain ⟨X',Y',s',d',W',D'⟩:=x_
   obtain ⟨hK',hYX',hsu'⟩:=h_
   have TM:=sameT x15 x16 b19 X' Y' s' d' (by obtain ⟨_,_,_,_,_,q⟩:=hK';exact q.st) hYX'
   refine aG ?_
   refine aC TM [1,6] [.inr 0,.inr 5] fun _ h100=>?_
   refine aI ?_
   refine wN (i+1) ?_
   refine ev_fin (round_next ((i+1,X',Y',s',d',W',D')) (show i+1≤n∧(∃ rs b k,b≤10475+roomA (List.take (i+1) l)∧k≤16*(i+1)∧Hold X'.abs W' D' rs b k)∧Y'.abs=X'.abs∧(d'=false→s'=X'.F.length) from (by trivial)) (show n-(i+1)<n-i from (by omega)) aS)
   all_goals skip
 obtain rfl:i=n:=by omega
 refine aG ?_
 refine aI ?_ (decide_eq_false (show ¬(↑i:Int)<(↑i:Int) from (by omega)))
 refine ev_fin (go Tryz.tbs_ok 1000 ?_)
 refine aC TL [] [.inl 0] fun _ h30=>?_
 refine ev_fin ⟨trivial,_,rfl,(()),rfl,(by trivial),Frm.nil _⟩
theorem storePlays_lifted (os:Os) (started:os.Started) (H:Type) (enc:TypeId × Value→H) :
 ReturnsInHanded {} Tryz.checked os 3 .any (fun w args=>(Rows.storePlaysSpec.pre enc Tryz.prog Tryz.f3 Rows.storePlaysRow.domain Rows.storePlaysRow.apart w args∧laidMetH Tryz.prog Rows.storePlaysRow.laid w)∧sizedMet enc Tryz.prog Tryz.f3 (OpenSpec.ofChange Rows.storePlaysSpec) Rows.storePlaysRow.apart w args) (Rows.storePlaysSpec.post enc Tryz.prog Tryz.f3 Rows.storePlaysRow.apart Rows.storePlaysRow.fresh Rows.storePlaysRow.handsOn Rows.storePlaysRow.again):=by
 refine returnsInHanded_of_change_and (C:=Tryz.checked) (X:=fun w _=>laidMetH Tryz.prog Rows.storePlaysRow.laid w) (fun _ _ _ hh h=>h.of_heap hh) Tryz.own started (by kernel_rfl) Tryz.func3
  (ChangeSpec.witness_shaped (enc:=enc) (C:=Tryz.checked) (os:=os) (X:=fun w _=>laidMetH Tryz.prog Rows.storePlaysRow.laid w) false (World.doorLaid Tryz.prog 400 os) #[.slice none 0 0] 8 rfl (World.shaped_of_RefB (by kernel_rfl) (by kernel_rfl)) (by kernel_rfl) (by kernel_rfl) (by kernel_rfl) (door_met os _)) ?_
 intro W base args ds gs before hval0 hW hcnd hwt hL _
 have htab:=tab_of hL
 have hval:∀ (j:Nat) t v,Tryz.f3.params[j]? = some t→args[j]? = some v→Value.okWide Tryz.prog W .any base t v:=hval0
 obtain ⟨p,q,hA0,hV,_,_,_⟩:=id hW
 have hA:DataW.TrodAll enc Tryz.prog W 0 (fun _=>true) true Tryz.f3.params.toList args.toList ds p:=hA0
 clear hval0 hA0
 obtain ⟨rfl,_⟩:=trodVars_none hV
 have hwt2:=all_le hwt
 have hpar:Tryz.f3.params = #[22]:=by kernel_rfl
 rw [hpar] at hA hval
 obtain ⟨v0,d0,rfl,rfl,fuel0,hf0⟩:=trodAll_one hA
 obtain ⟨A0,n0,c0,rfl⟩:=okWide_slice (P:=Tryz.prog) (t:=22) (e:=40) (by kernel_rfl) (hval 0 _ _ rfl rfl)
 obtain ⟨A0',n0',c0',l0,hl0,hln0,hc0,hm0,hr0,hg0⟩:=list_of_sees (F:=0+1+1+1+1+1+1+1) (t:=22) (el:=40) (enc:=encA) (G:=fun x=>(x.rdA.holds (hp W)∧(RecsRd x.L).holds (hp W)∧x.rdK.holds (hp W))∧(0≤x.k∧x.k<256)∧∀ y∈x.L,y.r.L.length≤reachBytes) rfl rfl (by decide) encA_len (fun _=>rfl) (fun vs hl h=>act_dec hl h) (sees_of_trod Tryz.tbs_ok.tab bytes_ok 8 fuel0 _ _ _ hf0 (fun k hk=>hwt2 k (weightsEach_get _ _ _ 0 _ _ rfl rfl k hk)))
 cases hl0
 obtain ⟨ha0,hb0,hin0⟩:=actsA_in hg0
 refine (storePlays A0 l0 n0 c0 hln0.symm (maxLen_le hc0 hm0) hb0 hin0 W Hp.emp (hp W) (Hp.emp_le _) (Hp.le_refl _) (Hp.emp_dis _) trivial (fun X hX=>?_)).mono fun e W' ⟨_,_,he,_,_,_,hext,_⟩=>?_
 · simp only [List.mem_cons,List.not_mem_nil,or_false] at hX
   rcases hX with rfl | rfl | rfl
   · exact htab
   · exact hr0
   exact ha0
 exact ⟨.bool true,he,post_true Tryz.laidOut (by kernel_rfl) rfl (rt:=4) (by kernel_rfl) (by kernel_rfl) hW hext.below rfl rfl rfl⟩
theorem storePlays_holds:Rows.StorePlaysSaid :=
 OpenClaim.holds_of_wide 3 Tryz.f3 rfl rfl rfl rfl rfl rfl rfl ⟨rfl,rfl,rfl,rfl,rfl⟩ rfl rfl rfl rfl rfl (by kernel_rfl) Tryz.func3 (by kernel_rfl)
  (of_decide_eq_true (by kernel_rfl)) (by unfold Func.isWrapper;rw [if_neg (by decide +kernel)];exact ⟨rfl,rfl⟩)
  (fun os started H enc _=>storePlays_lifted os started H enc)
theorem storePlays_card:Rows.StorePlaysCardSaid :=
 Claim7.holds_tied_plain_at .later [] [.data,.data,.data] true Rows.storePlaysCard.stood.harness false
  storePlays_holds (fun _ h=>by cases h) (by kernel_rfl) (fun _ h=>by cases h) storePlays_row_tie rfl ⟨rfl,rfl⟩ (by kernel_rfl) rfl
  (fun f fn hf hfn=>by
   obtain rfl:f=3:=(Option.some.inj ((show Tryz.prog.funcNamed Rows.storePlaysRow.func=some 3 by kernel_rfl).symm.trans hf)).symm
   obtain rfl:fn=Tryz.f3:=(Option.some.inj (Tryz.func3.symm.trans hfn)).symm
   refine ⟨by kernel_rfl,fun j t ht=>?_⟩
   have hpar:Tryz.f3.params = #[22]:=by kernel_rfl
   rw [hpar] at ht
   have hm:t∈[22]:=by
    rw [show (#[22]:Array TypeId)[j]? = ([22]:List TypeId)[j]? from by simp] at ht
    exact List.mem_of_getElem? ht
   simp only [List.mem_cons,List.not_mem_nil,or_false] at hm
   rcases hm with rfl
   exact (show Tryz.prog.wantsStandIn 22=false by kernel_rfl))
  (by kernel_rfl)
end Go.Proofs.YtnbaejindfillaaGreatDoor

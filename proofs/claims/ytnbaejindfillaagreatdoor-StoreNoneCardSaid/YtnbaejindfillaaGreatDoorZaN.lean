/-
  What is proved: storeNone_card. Conditions: none.
-/
import Derived.Test.YtnbaejindfillaaGreatDoorCards
import Derived.Test.YtnbaejindfillaaGreatDoorTie
import Derived.SevenTiedAt
import Derived.LaidLaws
import Derived.LaidMore
import Derived.Lib.LaidTab
import Derived.Stop.LaidErr
import Derived.OpenShut
import Derived.ChangeMaps5
import Derived.Test.YtnbaejindfillaaGreatDoorZa6
set_option maxRecDepth 100000
namespace Go.Proofs.YtnbaejindfillaaGreatDoor
open Go.Sy Go.RowKit
theorem sameNo:Triple Tryz.prog 27 [.agg (encG ⟨noReg,none,0⟩).toArray,.agg (encG ⟨noReg,none,0⟩).toArray] [] [TabA] Unit (fun _=>.bool true) (fun _=>True) (fun _=>[]) :=
 (sameRegT ⟨noReg,none,0⟩ ⟨noReg,none,0⟩ (by decide)).reads (fun X hX=>by
  simp only [List.mem_cons,List.not_mem_nil,or_false,or_self] at hX
  subst hX
  exact ⟨TabA,List.mem_cons_self,fun _ _=>⟨rfl,(fun c hc=>by cases hc),fun h0=>absurd h0 (Nat.lt_irrefl 0)⟩⟩)
theorem openN0:Triple Tryz.prog 22 [.pointer none] [] [] Unit (fun _=>.tuple #[.pointer none,.int .i64 1]) (fun _=>True) (fun _=>[]):=by
 refine aT Tryz.func22 [.va (.pointer none)] [] (fun E=>?_) ⟨trivial,trivial⟩
 refine aG ?_
 refine ev_inline Tryz.tbs_ok Tryz.func42 rfl rfl ?_
 refine aG ?_
 refine ev_inline Tryz.tbs_ok Tryz.func75 rfl rfl ?_
 refine aG ?_
 refine ev_inline Tryz.tbs_ok Tryz.func74 rfl rfl ?_
 refine aG ?_
 refine ev_fin ⟨trivial,aL,_,rfl,?_⟩
 refine aG ?_
 refine ev_fin ⟨trivial,aL,_,rfl,?_⟩
 refine aG ?_
 refine ev_new fun b0=>?_
 refine ev_inline Tryz.tbs_ok Tryz.func76 rfl rfl ?_
 refine aG ?_
 refine ev_inline Tryz.tbs_ok Tryz.func74 rfl rfl ?_
 refine aG ?_
 refine ev_fin ⟨trivial,aL,_,rfl,?_⟩
 refine aG ?_
 refine ev_fin ⟨trivial,aL,_,rfl,?_⟩
 refine aG ?_
 refine ev_inline Tryz.tbs_ok Tryz.func77 rfl rfl ?_
 refine aG ?_
 refine ev_new fun b1=>?_
 refine ev_inline Tryz.tbs_ok Tryz.func41 rfl rfl ?_
 refine aG ?_
 refine ev_inline Tryz.tbs_ok Tryz.func74 rfl rfl ?_
 refine aG ?_
 refine ev_fin ⟨trivial,aL,_,rfl,?_⟩
 refine aG ?_
 refine ev_fin ⟨trivial,aL,_,rfl,?_⟩
 refine aG (aJ ?_)
 refine ev_fin ⟨trivial,aL,_,rfl,?_⟩
 refine aG ?_
 refine ev_fin ⟨trivial,aL,_,rfl,?_⟩
 refine aG (aJ ?_)
 refine ev_fin ⟨trivial,_,rfl,(()),rfl,(by trivial),Frm.nil _⟩
set_option maxHeartbeats 8000000 in
theorem storeNone (st:Int) (x:RecS) (hst : -9223372036854775808≤st∧st≤9223372036854775807):Triple Tryz.prog 5 [.int .i64 st,.agg (encR x).toArray] [] [TabA] Unit (fun _=>.bool true) (fun _=>True) (fun _=>[]):=by
 obtain ⟨⟨k,s,e,v,f,n,L,F⟩,A,a,B,b⟩:=x
 unfold encR
 simp only
 obtain ⟨m,hm⟩:∃ m,m=L.length:=⟨_,rfl⟩
 obtain ⟨m',hm'⟩:∃ m,m=F.length:=⟨_,rfl⟩
 rw [←hm,←hm']
 have TL:=livesT
 have TO:=openedT
 have R1:=regN1
 have F1:=feedN1
 have D1:=dirtyN1
 have W1:=writeN1
 have S1:=syncN1
 have C1:=ckN1
 simp only [NonP,nonV,encSt,encG,zeroSt,List.cons_append,List.nil_append,List.length_nil] at R1 F1 D1 W1 S1 C1
 refine aT Tryz.func5 [vI st,.ag [vI k,vI s,vI e,vI v,vI f,vI n,vL A m a,vL B m' b]] [] (fun E=>?_) ⟨trivial,⟨trivial,trivial,trivial,trivial,trivial,trivial,trivial,trivial,trivial⟩,trivial⟩
 refine aG ?_
 refine ev_new fun b10=>?_
 refine ev_if_lt (fun h11=>?_) (fun h11=>?_)
 refine aG ?_
 refine aC TL [] [.inl 0] fun _ h12=>?_
 refine ev_fin ⟨trivial,_,rfl,(()),rfl,(by trivial),Frm.nil _⟩
 refine aG ?_
 refine ev_if_lt (fun h13=>?_) (fun h13=>?_)
 refine aG ?_
 refine aC TL [] [.inl 0] fun _ h14=>?_
 refine ev_fin ⟨trivial,_,rfl,(()),rfl,(by trivial),Frm.nil _⟩
 refine aG ?_
 refine ev_stop (go_rounds 3 ?_)
 refine aG (aJ ?_)
 refine aC (regN0 (st)) [] [] fun _ h40=>?_
 refine ev_new fun b41=>?_
 refine aC feedN0 [] [] fun _ h42=>?_
 refine aI ?_
 refine aC sameNo [] [.inl 0] fun _ h43=>?_
 refine aI (aI (aI ?_))
 refine aC dirtyN0 [] [] fun _ h44=>?_
 refine aI ?_
 refine ev_new fun b45=>?_
 refine aC (writeN0 (some { block:=b45,off:=0:Addr }) (1) (1)) [] [] fun _ h46=>?_
 refine aI ?_
 refine aC syncN0 [] [] fun _ h47=>?_
 refine aI ?_
 refine aC ckN0 [] [] fun _ h48=>?_
 refine aI ?_
 refine ev_new fun b49=>?_
 refine wN (0+1) ?_
 refine ev_fin (go Tryz.tbs_ok 1000 ?_)
 refine aJ ?_
 refine aD (R1 (b49) (st)) [3] [] (fun v0_=>[.box (b49) 64 [.va (Value.pointer none),vI 0,vI 0,vL none 0 0,vI 0,vI 0,vI 0,vL none 0 0,vI 0,vI 0,vI 0,vL none 0 0,vI 0,vI 0,vI 0,vL none 0 0,vI 0,vL none 0 0,vI 0,.bl false]]) fun _ h50=>?_
 refine ev_new fun b51=>?_
 refine aD (F1 (b49)) [3] [] (fun v0_=>[.box (b49) 64 [.va (Value.pointer none),vI 0,vI 0,vL none 0 0,vI 0,vI 0,vI 0,vL none 0 0,vI 0,vI 0,vI 0,vL none 0 0,vI 0,vI 0,vI 0,vL none 0 0,vI 0,vL none 0 0,vI 0,.bl false]]) fun _ h52=>?_
 refine aI ?_
 refine aC sameNo [] [.inl 0] fun _ h53=>?_
 refine aI (aI (aI ?_))
 refine aD (D1 (b49)) [3] [] (fun v0_=>[.box (b49) 64 [.va (Value.pointer none),vI 0,vI 0,vL none 0 0,vI 0,vI 0,vI 0,vL none 0 0,vI 0,vI 0,vI 0,vL none 0 0,vI 0,vI 0,vI 0,vL none 0 0,vI 0,vL none 0 0,vI 0,.bl false]]) fun _ h54=>?_
 refine aI ?_
 refine ev_new fun b55=>?_
 refine aD (W1 (b49) (some { block:=b55,off:=0:Addr }) (1) (1)) [3] [] (fun v0_=>[.box (b49) 64 [.va (Value.pointer none),vI 0,vI 0,vL none 0 0,vI 0,vI 0,vI 0,vL none 0 0,vI 0,vI 0,vI 0,vL none 0 0,vI 0,vI 0,vI 0,vL none 0 0,vI 0,vL none 0 0,vI 0,.bl false]]) fun _ h56=>?_
 refine aI ?_
 refine aD (S1 (b49)) [3] [] (fun v0_=>[.box (b49) 64 [.va (Value.pointer none),vI 0,vI 0,vL none 0 0,vI 0,vI 0,vI 0,vL none 0 0,vI 0,vI 0,vI 0,vL none 0 0,vI 0,vI 0,vI 0,vL none 0 0,vI 0,vL none 0 0,vI 0,.bl false]]) fun _ h57=>?_
 refine aI ?_
 refine aD (C1 (b49)) [3] [] (fun v0_=>[.box (b49) 64 [.va (Value.pointer none),vI 0,vI 0,vL none 0 0,vI 0,vI 0,vI 0,vL none 0 0,vI 0,vI 0,vI 0,vL none 0 0,vI 0,vI 0,vI 0,vL none 0 0,vI 0,vL none 0 0,vI 0,.bl false]]) fun _ h58=>?_
 refine aI ?_
 refine ev_new fun b59=>?_
 refine wN (0+1+1) ?_
 refine ev_fin (go Tryz.tbs_ok 1000 ?_)
 refine aI ?_
 refine ev_fin (go Tryz.tbs_ok 1000 ?_)
 refine aC openN0 [] [] fun _ h60=>?_
 refine aC TO [] [.inl 0] fun ⟨x61,x62,x63,x64⟩ h65=>?_
 refine aI ?_
 have hX:x64.abs=noSta := ‹_›
 by_cases hs:0≤st∧st<4
 · obtain ⟨j,rfl⟩:∃ j:Nat,st=(j:Int):=⟨st.toNat,by omega⟩
   have hj:j<x64.regs.length:=by show j<4;omega
   have hr:x64.regs[j].r=noReg:=by
    have h1:x64.regs[j].r∈x64.abs.R:=by rw [abs_R];exact List.mem_map_of_mem (List.getElem_mem hj)
    rw [hX] at h1
    simpa [noSta] using h1
   have TR:=regGood x62 x63 x64 0 false j x64.regs[j] (by omega) (List.getElem?_eq_getElem hj) (by rw [hr];decide)
   rw [hr] at TR
   refine aC TR [8] [.inr 7] fun ⟨x100,x101⟩ h102=>?_
   refine ev_new fun b103=>?_
   refine aJ ?_
   refine aJ ?_ (by simp [*])
   refine aJ ?_
   refine aC TL [] [.inl 0] fun _ h104=>?_
   refine ev_fin ⟨trivial,_,rfl,(()),rfl,(by trivial),Frm.nil _⟩
   all_goals skip
 have TR:=regBad x62 x63 x64 0 false st (by omega)
 refine aC TR [8] [] fun _ h130=>?_
 refine ev_new fun b131=>?_
 refine ev_if_lt (fun h132=>?_) (fun h132=>?_)
 refine aG ?_
 refine ev_if (fun h133=>?_) (fun h133=>?_)
 refine aG (aI (aJ ?_))
 refine aC TL [] [.inl 0] fun _ h134=>?_
 refine ev_fin ⟨trivial,_,rfl,(()),rfl,(by trivial),Frm.nil _⟩
 refine aG ?_
 refine ev_fin ⟨trivial,_,rfl,(()),?_,(by trivial),Frm.nil _⟩
 rotate_left
 refine aG (aJ (aI (aJ ?_)))
 refine aC TL [] [.inl 0] fun _ h135=>?_
 refine ev_fin ⟨trivial,_,rfl,(()),rfl,(by trivial),Frm.nil _⟩
 exfalso
 have:¬ st<4:=by omega
 simp [this] at h133
open Go.Sy Go.RowKit Go.ChangeShapes Go.WideShapes
instance:Inhabited Ent:=⟨⟨0,0,0,0,0,0⟩⟩
instance:Inhabited Spt:=⟨⟨0,0⟩⟩
theorem encE_len (x:Ent):(encE x).length=6:=rfl
theorem encP_len (x:Spt):(encP x).length=2:=rfl
theorem spt_dec {w:World} {F:Nat} {vs:List Value} (hl:vs.length=2) (h:Sees Tryz.tab w (F+1+1) 72 vs):∃ x:Spt,vs=encP x∧(True):=by
 obtain ⟨n0,e0,w0⟩:=leaf_int (F:=F) (d:=1) (k:=.i64) (u:=3) rfl rfl h 0 (by decide)
 obtain ⟨n1,e1,w1⟩:=leaf_int (F:=F) (d:=1) (k:=.i64) (u:=3) rfl rfl h 1 (by decide)
 exact ⟨⟨n0,n1⟩,eq_of_at hl (And.intro e0 (And.intro e1 trivial)),trivial⟩
theorem ent_dec {w:World} {F:Nat} {vs:List Value} (hl:vs.length=6) (h:Sees Tryz.tab w (F+1+2) 101 vs):∃ x:Ent,vs=encE x∧(True):=by
 obtain ⟨n0,e0,w0⟩:=leaf_int (F:=F) (d:=2) (k:=.i64) (u:=3) rfl rfl h 0 (by decide)
 obtain ⟨n1,e1,w1⟩:=leaf_int (F:=F) (d:=2) (k:=.i64) (u:=3) rfl rfl h 1 (by decide)
 obtain ⟨n2,e2,w2⟩:=leaf_int (F:=F) (d:=2) (k:=.i64) (u:=3) rfl rfl h 2 (by decide)
 obtain ⟨n3,e3,w3⟩:=leaf_int (F:=F) (d:=2) (k:=.i64) (u:=3) rfl rfl h 3 (by decide)
 obtain ⟨n4,e4,w4⟩:=leaf_int (F:=F) (d:=2) (k:=.i64) (u:=3) rfl rfl h 4 (by decide)
 obtain ⟨n5,e5,w5⟩:=leaf_int (F:=F) (d:=2) (k:=.i64) (u:=3) rfl rfl h 5 (by decide)
 exact ⟨⟨n0,n1,n2,n3,n4,n5⟩,eq_of_at hl (And.intro e0 (And.intro e1 (And.intro e2 (And.intro e3 (And.intro e4 (And.intro e5 trivial)))))),trivial⟩
theorem rec_dec {w:World} {F:Nat} {vs:List Value} (hl:vs.length=8) (h:Sees Tryz.tab w (F+1+1+1+1+1) 54 vs):∃ x:RecS,vs=encR x∧((x.rdL.holds (hp w)∧x.rdF.holds (hp w))∧x.r.L.length≤reachBytes):=by
 obtain ⟨n0,e0,w0⟩:=leaf_int (F:=F+1+1+1) (d:=1) (k:=.i64) (u:=3) rfl rfl h 0 (by decide)
 obtain ⟨n1,e1,w1⟩:=leaf_int (F:=F+1+1+1) (d:=1) (k:=.i64) (u:=3) rfl rfl h 1 (by decide)
 obtain ⟨n2,e2,w2⟩:=leaf_int (F:=F+1+1+1) (d:=1) (k:=.i64) (u:=3) rfl rfl h 2 (by decide)
 obtain ⟨n3,e3,w3⟩:=leaf_int (F:=F+1+1+1) (d:=1) (k:=.i64) (u:=3) rfl rfl h 3 (by decide)
 obtain ⟨n4,e4,w4⟩:=leaf_int (F:=F+1+1+1) (d:=1) (k:=.i64) (u:=3) rfl rfl h 4 (by decide)
 obtain ⟨n5,e5,w5⟩:=leaf_int (F:=F+1+1+1) (d:=1) (k:=.i64) (u:=3) rfl rfl h 5 (by decide)
 obtain ⟨A6,n6,c6,l6,e6,hn6,hc6,hm6,hr6,hg6⟩:=leaf_slice (F:=F+1+1+1) (d:=1) (u:=30) (el:=101) (enc:=encE) (G:=fun _=>True) rfl rfl (by decide) encE_len (fun _=>rfl) (fun vs hl h=>ent_dec hl h) rfl h 6 (by decide)
 subst hn6
 obtain ⟨A7,n7,c7,l7,e7,hn7,hc7,hm7,hr7,hg7⟩:=leaf_slice (F:=F+1+1+1) (d:=1) (u:=34) (el:=72) (enc:=encP) (G:=fun _=>True) rfl rfl (by decide) encP_len (fun _=>rfl) (fun vs hl h=>spt_dec hl h) rfl h 7 (by decide)
 subst hn7
 exact ⟨⟨⟨n0,n1,n2,n3,n4,n5,l6,l7⟩,A6,c6,A7,c7⟩,eq_of_at hl (And.intro e0 (And.intro e1 (And.intro e2 (And.intro e3 (And.intro e4 (And.intro e5 (And.intro e6 (And.intro e7 trivial)))))))),⟨hr6,hr7⟩,hm6.2⟩
theorem bytes_ok:bytesOk Tryz.prog Tryz.tbs.tab=true:=by kernel_rfl
theorem all_le {l:List Nat} (h:l.all (· ≤ reachBytes)=true):∀ k∈l,k≤reachBytes:=fun k hk=>of_decide_eq_true (List.all_eq_true.1 h k hk)
abbrev laidL:List (String × DataW Unit):=Rows.storeNoneRow.laid
theorem door_met (os:Os) (args:Array Value):laidMetH Tryz.prog laidL ((World.doorLaid Tryz.prog 400 os).forCall (fun _ _=>0) ⟨#[],args,[]⟩).memory:=by
 rw [MakeChecks.laidMetH_plain _ _ _ (by kernel_rfl)]
 exact laidMet_of_run' 8 (by kernel_rfl) (by kernel_rfl)
theorem tab_of {W:World} (h:laidMetH Tryz.prog laidL W):TabA.holds (hp W):=by
 rw [MakeChecks.laidMetH_plain _ _ _ (by kernel_rfl)] at h
 obtain ⟨g,hg,hgt⟩:∃ g,Tryz.prog.globalNamed "internal/strconv.uint64pow10" = some g∧(Tryz.prog.globals[g]?).map (·.type)=some 227:=⟨0,by kernel_rfl,by kernel_rfl⟩
 have h3:Lib.TabIs Tryz.prog W "internal/strconv.uint64pow10" .u64 Lib.pow10Tab:=Lib.tabIs_of_head (g:=g) (t:=227) (e:=189) (n:=20) hg hgt (by kernel_rfl) (by kernel_rfl) (by kernel_rfl) (by kernel_rfl) (laidMet.tail (laidMet.tail h))
 intro w hw
 have h4:W.var? Tryz.prog "internal/strconv.uint64pow10" = some (Lib.pow10Tab.map fun z=>Value.int .u64 z).toArray:=h3
 show w.var? Tryz.prog "internal/strconv.uint64pow10" = some _
 unfold World.var? at h4 ⊢
 rw [hg] at h4 ⊢
 simp only [Option.bind_some] at h4 ⊢
 cases hx:W.heap[g]? with
 | none=>rw [hx] at h4;cases h4
 |
  some o =>
  rw [hx] at h4
  have h5:w.heap[g]? = some o:=hw g o hx
  rw [h5]
  exact h4
theorem storeNone_lifted (os:Os) (started:os.Started) (H:Type) (enc:TypeId × Value→H) :
 ReturnsInHanded {} Tryz.checked os 5 .any (fun w args=>(Rows.storeNoneSpec.pre enc Tryz.prog Tryz.f5 Rows.storeNoneRow.domain Rows.storeNoneRow.apart w args∧laidMetH Tryz.prog Rows.storeNoneRow.laid w)∧sizedMet enc Tryz.prog Tryz.f5 (OpenSpec.ofChange Rows.storeNoneSpec) Rows.storeNoneRow.apart w args) (Rows.storeNoneSpec.post enc Tryz.prog Tryz.f5 Rows.storeNoneRow.apart Rows.storeNoneRow.fresh Rows.storeNoneRow.handsOn Rows.storeNoneRow.again):=by
 refine returnsInHanded_of_change_and (C:=Tryz.checked) (X:=fun w _=>laidMetH Tryz.prog Rows.storeNoneRow.laid w) (fun _ _ _ hh h=>h.of_heap hh) Tryz.own started (by kernel_rfl) Tryz.func5
  (ChangeSpec.witness_shaped (enc:=enc) (C:=Tryz.checked) (os:=os) (X:=fun w _=>laidMetH Tryz.prog Rows.storeNoneRow.laid w) false (World.doorLaid Tryz.prog 400 os) #[.int .i64 0,.agg (encR default).toArray] 8 rfl (World.shaped_of_RefB (by kernel_rfl) (by kernel_rfl)) (by kernel_rfl) (by kernel_rfl) (by kernel_rfl) (door_met os _)) ?_
 intro W base args ds gs before hval0 hW hcnd hwt hL _
 have htab:=tab_of hL
 have hval:∀ (j:Nat) t v,Tryz.f5.params[j]? = some t→args[j]? = some v→Value.okWide Tryz.prog W .any base t v:=hval0
 obtain ⟨p,q,hA0,hV,_,_,_⟩:=id hW
 have hA:DataW.TrodAll enc Tryz.prog W 0 (fun _=>true) true Tryz.f5.params.toList args.toList ds p:=hA0
 clear hval0 hA0
 obtain ⟨rfl,_⟩:=trodVars_none hV
 have hwt2:=all_le hwt
 have hpar:Tryz.f5.params = #[3,54]:=by kernel_rfl
 rw [hpar] at hA hval
 obtain ⟨v0,v1,d0,d1,p0,p1,rfl,rfl,_,⟨fuel0,hf0⟩,⟨fuel1,hf1⟩⟩:=trodAll_two hA
 obtain ⟨m0,rfl,_,_,w0⟩:=open_int (P:=Tryz.prog) (t:=3) (k:=.i64) (by kernel_rfl) (hval 0 _ _ rfl rfl) ⟨fuel0,hf0⟩
 obtain ⟨cs,rfl,hsz⟩:=okWide_struct (P:=Tryz.prog) (t:=54) (fs:=Tryz.prog.fieldsOf 54) (by kernel_rfl) (hval 1 _ _ rfl rfl)
 have hl:cs.toList.length=8:=by rw [Array.length_toList,hsz];kernel_rfl
 obtain ⟨x,hx,_,_⟩:=rec_dec (F:=0) (w:=W) hl (sees_of_trod Tryz.tbs_ok.tab bytes_ok 5 fuel1 _ _ _ hf1 (fun k hk=>hwt2 k (weightsEach_get _ _ _ 1 _ _ rfl rfl k hk)))
 obtain rfl:cs=(encR x).toArray:=by rw [←hx]
 refine (storeNone m0 x (wf_i64 w0) W Hp.emp (hp W) (Hp.emp_le _) (Hp.le_refl _) (Hp.emp_dis _) trivial (fun X hX=>?_)).mono fun e W' ⟨_,_,he,_,_,_,hext,_⟩=>?_
 · simp only [List.mem_cons,List.not_mem_nil,or_false] at hX
   subst hX
   exact htab
 exact ⟨.bool true,he,post_true Tryz.laidOut (by kernel_rfl) rfl (rt:=4) (by kernel_rfl) (by kernel_rfl) hW hext.below rfl rfl rfl⟩
theorem storeNone_holds:Rows.StoreNoneSaid :=
 OpenClaim.holds_of_wide 5 Tryz.f5 rfl rfl rfl rfl rfl rfl rfl ⟨rfl,rfl,rfl,rfl,rfl⟩ rfl rfl rfl rfl rfl (by kernel_rfl) Tryz.func5 (by kernel_rfl)
  (of_decide_eq_true (by kernel_rfl)) (by unfold Func.isWrapper;rw [if_neg (by decide +kernel)];exact ⟨rfl,rfl⟩)
  (fun os started H enc _=>storeNone_lifted os started H enc)
theorem storeNone_card:Rows.StoreNoneCardSaid :=
 Claim7.holds_tied_plain_at .later [] [.data,.data,.data] true Rows.storeNoneCard.stood.harness false
  storeNone_holds (fun _ h=>by cases h) (by kernel_rfl) (fun _ h=>by cases h) storeNone_row_tie rfl ⟨rfl,rfl⟩ (by kernel_rfl) rfl
  (fun f fn hf hfn=>by
   obtain rfl:f=5:=(Option.some.inj ((show Tryz.prog.funcNamed Rows.storeNoneRow.func=some 5 by kernel_rfl).symm.trans hf)).symm
   obtain rfl:fn=Tryz.f5:=(Option.some.inj (Tryz.func5.symm.trans hfn)).symm
   refine ⟨by kernel_rfl,fun j t ht=>?_⟩
   have hpar:Tryz.f5.params = #[3,54]:=by kernel_rfl
   rw [hpar] at ht
   have hm:t∈[3,54]:=by
    rw [show (#[3,54]:Array TypeId)[j]? = ([3,54]:List TypeId)[j]? from by simp] at ht
    exact List.mem_of_getElem? ht
   simp only [List.mem_cons,List.not_mem_nil,or_false] at hm
   rcases hm with rfl | rfl
   · exact (show Tryz.prog.wantsStandIn 3=false by kernel_rfl)
   exact (show Tryz.prog.wantsStandIn 54=false by kernel_rfl))
  (by kernel_rfl)
end Go.Proofs.YtnbaejindfillaaGreatDoor

/-
  What is proved: sitesNone_card. Conditions: none.
-/
import Derived.Test.YtnhoidnmlibcpaaGreatDoorCards
import Derived.Test.YtnhoidnmlibcpaaGreatDoorTie
import Derived.SevenTiedAt
import Derived.LaidLaws
import Derived.LaidMore
import Derived.Lib.LaidTab
import Derived.Stop.LaidErr
import Derived.OpenShut
import Derived.ChangeMaps5
import Derived.Test.YtnhoidnmlibcpaaGreatDoorZa5
set_option maxRecDepth 100000
namespace Go.Proofs.YtnhoidnmlibcpaaGreatDoor
open Go.Sy Go.RowKit
def encI (k:Int):Value:=.int .i64 k
theorem int_und:Tryz.prog.underlying 3=some (.int .i64):=by kernel_rfl
theorem int_check (e:Bool) (k:Int) (w:World):(Instr.checkKey e 10000 3 (encI k)).run Tryz.prog w = .ok () w:=by
 rw [Instr.checkKey,Sem.run_bind,run_underlying int_und];rfl
theorem sameBits_int (k:Int):Instr.sameBits 10000 (encI k) (encI k)=true:=by simp [encI,Instr.sameBits]
theorem findNow_int (k:Int):∀ (es:List MapEntry) (ks:List Int) (i:Nat),es.map (·.key)=ks.map encI→Instr.findNow (.int .i64) (encI k) es i=some ((ixOf ks k).bind fun j=>(es[j]?).map fun e=>(i+j,e.val))
 | [],[],i,_=>rfl
 | [],_::_,_,h=>by cases h
 | _::_,[],_,h=>by cases h
 |
  e::es,q::ks,i,h=>by
  simp only [List.map_cons,List.cons.injEq] at h
  obtain ⟨h1,h2⟩:=h
  rw [Instr.findNow,h1]
  by_cases hq:k=q
  · subst hq
    simp [encI,Instr.sameNow,ixOf,List.findIdx?_cons]
  have ih:=findNow_int k es ks (i+1) h2
  simp only [encI,Instr.sameNow,if_true,hq,decide_false,Bool.false_eq_true,ixOf,List.findIdx?_cons] at ih ⊢
  rw [show (k==q)=false by simp [hq]]
  simp only
  rw [ih]
  cases List.findIdx? (fun x=>decide (k=x)) ks with
  | none=>rfl
  | some j=>simp [Nat.add_assoc,Nat.add_comm 1 j]
theorem intK:KeyOk Tryz.prog 3 encI where
 check:=int_check
 bits:=sameBits_int
 find k es ks w h:=by
  unfold Instr.findKey
  rw [Sem.run_bind,run_underlying int_und]
  simp only [Result.andThen_ok,findNow_int k es ks 0 h,Sem.run_pure,Nat.zero_add]
abbrev Key:=Int × Int
def encK (k:Key):Value:=.agg #[.int .i64 k.1,.int .i64 k.2]
theorem key_und:Tryz.prog.underlying 163=some (.struct (Tryz.prog.fieldsOf 163)):=by kernel_rfl
theorem okKey:EqOk Tryz.prog 163:=⟨by kernel_rfl,by kernel_rfl⟩
theorem key_fields:∃ f1 f2:Field,Tryz.prog.fieldsOf 163 = #[f1,f2]∧(f1.type=3∧f1.offset=0∧f1.name ≠ "_")∧(f2.type=3∧f2.offset=1∧f2.name ≠ "_") :=
 ⟨_,_,rfl,⟨rfl,rfl,by decide⟩,⟨rfl,rfl,by decide⟩⟩
theorem key_check (e:Bool) (k:Key) (w:World):(Instr.checkKey e 10000 163 (encK k)).run Tryz.prog w = .ok () w:=by
 obtain ⟨f1,f2,hf,⟨h1,h2,h3⟩,⟨h4,h5,h6⟩⟩:=key_fields
 have hu:=key_und
 rw [hf] at hu
 have p1:(part f1.type #[.int .i64 k.1,.int .i64 k.2] f1.offset).run Tryz.prog w = .ok (.int .i64 k.1) w:=by
  rw [h1,h2];exact part_one int_und rfl rfl
 have p2:(part f2.type #[.int .i64 k.1,.int .i64 k.2] f2.offset).run Tryz.prog w = .ok (.int .i64 k.2) w:=by
  rw [h4,h5];exact part_one int_und rfl rfl
 have q1:(Instr.checkKey e 9999 f1.type (.int .i64 k.1)).run Tryz.prog w = .ok () w:=by
  rw [h1,Instr.checkKey,Sem.run_bind,run_underlying int_und];rfl
 have q2:(Instr.checkKey e 9999 f2.type (.int .i64 k.2)).run Tryz.prog w = .ok () w:=by
  rw [h4,Instr.checkKey,Sem.run_bind,run_underlying int_und];rfl
 rw [Instr.checkKey,Sem.run_bind,run_underlying hu]
 simp [encK,h3,h6,p1,p2,q1,q2]
theorem key_eq (a b:Key) (w:World):(Op.equal 163 (encK a) (encK b)).run Tryz.prog w = .ok (decide (a=b)) w:=by
 have:decide (a=b)=(a.1==b.1&&(a.2==b.2&&true)):=by
  obtain ⟨a1,a2⟩:=a
  obtain ⟨b1,b2⟩:=b
  rw [Bool.eq_iff_iff]
  simp
 rw [this]
 refine eq_struct (d:=9999) okKey rfl ?_
 iterate 2 refine eqF_int (by decide) int_und rfl rfl ?_
 exact eqF_nil
theorem keyOk:KeyOk Tryz.prog 163 encK :=
 keyOk_of key_und (fun _ _=>rfl) key_check key_eq (fun k=>by simp [encK,Instr.sameBits])
theorem zeroI (w:World):(zeroValue 29).run Tryz.prog w = .ok (.slice none 0 0) w:=by
 have h:(Tryz.prog.info? 29).bind (fun i=>i.zero)=some (.slice none 0 0):=by kernel_rfl
 cases hq:Tryz.prog.info? 29 with
 | none=>rw [hq] at h;cases h
 |
  some i =>
  rw [hq] at h
  simp only [Option.bind_some] at h
  simp [zeroValue,typeInfo,hq,h]
theorem zeroG (w:World):(zeroValue 166).run Tryz.prog w = .ok (.agg #[.int .i64 0,.int .i64 0]) w:=by
 have h:(Tryz.prog.info? 166).bind (fun i=>i.zero)=some (.agg #[.int .i64 0,.int .i64 0]):=by kernel_rfl
 cases hq:Tryz.prog.info? 166 with
 | none=>rw [hq] at h;cases h
 |
  some i =>
  rw [hq] at h
  simp only [Option.bind_some] at h
  simp [zeroValue,typeInfo,hq,h]
theorem newB0:Triple Tryz.prog 106 [.int .i64 0,.bool false] [] [] (Nat × Nat) (fun (p,_)=>.pointer (some ⟨p,0,none⟩)) (fun _=>True) (fun (p,b)=>[Pt p 170 [.bool true,.int .i64 0,.map (some b)],MapA encI b []]):=by
 refine aT Tryz.func106 [vI 0,.bl false] [] (fun E=>?_) ⟨trivial,trivial,trivial⟩
 refine aG ?_
 refine ev_stop (go_makeMap encI rfl (fun _=>aL) (fun b0=>?_))
 refine aG ?_
 refine ev_new fun b1=>?_
 exact ev_fin ⟨trivial,_,rfl,((b1,b0)),rfl,by trivial,aF [1,0]⟩
 all_goals skip
theorem newB1:Triple Tryz.prog 106 [.int .i64 0,.bool true] [] [] (Nat × Nat) (fun (p,_)=>.pointer (some ⟨p,0,none⟩)) (fun _=>True) (fun (p,b)=>[Pt p 170 [.bool true,.int .i64 16,.map (some b)],MapA encI b []]):=by
 refine aT Tryz.func106 [vI 0,.bl true] [] (fun E=>?_) ⟨trivial,trivial,trivial⟩
 refine aG ?_
 refine ev_stop (go_makeMap encI rfl (fun _=>aL) (fun b0=>?_))
 refine aG ?_
 refine ev_new fun b1=>?_
 refine ev_inline Tryz.tbs_ok Tryz.func104 rfl rfl ?_
 refine aG (aI ?_)
 refine wN (0+10) ?_
 refine wN (0+10+6) ?_
 refine ev_fin ⟨trivial,aL,_,rfl,?_⟩
 refine aG ?_
 exact ev_fin ⟨trivial,_,rfl,((b1,b0)),rfl,by trivial,aF [1,0]⟩
 all_goals skip
theorem mayB (p b:Nat):Triple Tryz.prog 96 [pP p,.int .i64 0,.int .i64 2,.int .i64 0] [Pt p 170 [.bool true,.int .i64 0,.map (some b)],MapA encI b []] [] Unit (fun _=>.bool true) (fun _=>True) (fun _=>[Pt p 170 [.bool true,.int .i64 0,.map (some b)],MapA encI b []]):=by
 refine aT Tryz.func96 [.pt 0 p 0,vI 0,vI 2,vI 0] [.box p 170 [.bl true,vI 0,.va (.map (some b))],.fact (MapA encI b [])] (fun E=>?_) ⟨rfl,trivial,trivial,trivial,trivial⟩
 refine aG ?_
 refine ev_inline Tryz.tbs_ok Tryz.func94 rfl rfl ?_
 refine aG ?_
 refine ev_fin ⟨trivial,aL,_,rfl,?_⟩
 refine aG (aI ?_)
 refine ev_stop (go_lookupC (encK:=encI) Tryz.tbs_ok [] intK 0 _ (.ag [vI 0,vI 0]) false (.inr 1) rfl rfl rfl rfl rfl rfl zeroG rfl (fun _ h=>h) rfl (fun _=>⟨trivial,trivial,trivial⟩) rfl ?_)
 refine aG ?_
 refine ev_new fun b20=>?_
 exact ev_fin ⟨trivial,_,rfl,(),rfl,by trivial,aF [0,1]⟩
 all_goals skip
theorem grantB (p b:Nat):Triple Tryz.prog 56 [pP p,.int .i64 0,.int .i64 2,.int .i64 0] [Pt p 170 [.bool true,.int .i64 0,.map (some b)],MapA encI b []] [] Unit (fun _=>.int .i64 0) (fun _=>True) (fun _=>[Pt p 170 [.bool true,.int .i64 0,.map (some b)],MapA encI b [(0,.agg #[.int .i64 2,.int .i64 16])]]):=by
 refine aT Tryz.func56 [.pt 0 p 0,vI 0,vI 2,vI 0] [.box p 170 [.bl true,vI 0,.va (.map (some b))],.fact (MapA encI b [])] (fun E=>?_) ⟨rfl,trivial,trivial,trivial,trivial⟩
 have hl:lookE ([]:List (Int × Value)) 0 (.agg #[.int .i64 0,.int .i64 0]) = .agg #[.int .i64 0,.int .i64 0]:=rfl
 refine aG ?_
 refine ev_inline Tryz.tbs_ok Tryz.func94 rfl rfl ?_
 refine aG ?_
 refine ev_fin ⟨trivial,aL,_,rfl,?_⟩
 refine aG (aI (aI (aI ?_)))
 refine ev_stop (go_lookup (encK:=encI) Tryz.tbs_ok ([]) intK (0) _ (Value.agg #[Value.int IntKind.i64 0,Value.int IntKind.i64 0]) (.inr 1) rfl rfl rfl rfl rfl rfl zeroG rfl (fun _ h=>h) hl ?_)
 refine aG ?_
 refine ev_new fun b0=>?_
 refine aJ ?_
 refine ev_stop (go_draw Tryz.tbs_ok false [0] [(0,true),(1,true),(2,true),(3,true),(4,true),(5,true),(6,true),(7,false),(8,false),(9,false)] rfl ?_)
 refine aG (aE ?_)
 refine ev_inline Tryz.tbs_ok Tryz.func104 rfl rfl ?_
 refine aG (aI ?_)
 refine wN (0+10) ?_
 refine wN (0+10+6) ?_
 refine ev_fin ⟨trivial,aL,_,rfl,?_⟩
 refine aG (aE (aE ?_))
 refine ev_stop (go_mapUpdate (encK:=encI) Tryz.tbs_ok 1 ([]) (putE ([]) (0) (Value.agg (SV.denL [vI 2,vI (↑(0+10+6):Int)]).toArray)) intK (0) (Value.agg (SV.denL [vI 2,vI (↑(0+10+6):Int)]).toArray) rfl rfl rfl rfl rfl rfl rfl rfl rfl rfl ?_)
 refine aG (aK ?_)
 exact ev_fin ⟨trivial,_,rfl,(),rfl,by trivial,aF [0,1]⟩
 all_goals skip
structure MailS where
 k:Int
 fr:Int
 to:Int
 st:Int
 ep:Int
 vi:Int
 ba:Int
 le:Int
 sm:Int
 A:Option Addr
 n:Nat
 a:Nat
 o1:Int
 o2:Int
 o3:Int
 o4:Int
 o5:Int
 a1:Int
 a2:Int
 a3:Int
def encM (x:MailS):List Value:=[.int .i64 x.k,.int .i64 x.fr,.int .i64 x.to,.int .i64 x.st,.int .i64 x.ep,.int .i64 x.vi,.int .i64 x.ba,.int .i64 x.le,.int .i64 x.sm,.slice x.A x.n x.a,.int .i64 x.o1,.int .i64 x.o2,.int .i64 x.o3,.int .i64 x.o4,.int .i64 x.o5,.int .i64 x.a1,.int .i64 x.a2,.int .i64 x.a3]
def encK2 (x:Int × Int):List Value:=[.int .i64 x.1,.int .i64 x.2]
theorem checkG0 (A:Option Addr) (a:Nat):Triple Tryz.prog 82 [.agg (encG ⟨⟨2,0,[],0⟩,A,a⟩).toArray] [] [] Unit (fun _=>.bool true) (fun _=>True) (fun _=>[]) :=
 (checkG ⟨⟨2,0,[],0⟩,A,a⟩ (Nat.zero_le _)).nfree fun Z hZ h=>by
  obtain rfl:=List.mem_singleton.1 hZ
  exact Rd.nil _ _ h
theorem cloneG0 (A:Option Addr) (a:Nat):Triple Tryz.prog 70 [.agg (encG ⟨⟨2,0,[],0⟩,A,a⟩).toArray] [] [] Sl (fun (A',c')=>.agg (encG ⟨⟨2,0,[],0⟩,A',c'⟩).toArray) (fun _=>True) (fun _=>[]) :=
 ((
  cloneG ⟨⟨2,0,[],0⟩,A,a⟩ (Nat.zero_le _)).nfree fun Z hZ h=>by
  obtain rfl:=List.mem_singleton.1 hZ
  exact Rd.nil _ _ h).imp fun x _=>⟨x,rfl,trivial,fun _ _=>trivial⟩
theorem cloneE0 (A:Option Addr) (a:Nat):Triple Tryz.prog 119 [.slice A 0 a] [] [] Sl (fun (A',c')=>.slice A' 0 c') (fun _=>True) (fun _=>[]) :=
 ((
  cloneE A [] 0 a rfl (by decide)).nfree fun Z hZ h=>by
  obtain rfl:=List.mem_singleton.1 hZ
  exact Rd.nil _ _ h).imp fun x _=>⟨x,rfl,trivial,fun _ _=>trivial⟩
structure RgS where
 p:Int
 v:Int
 A:Option Addr
 n:Nat
 a:Nat
 c:Int
def encH (x:RgS):List Value:=[.int .i64 x.p,.int .i64 x.v,.slice x.A x.n x.a,.int .i64 x.c]
def regV (A:Option Addr) (a:Nat):List SV:=[vI 2,vI 0,vL A 0 a,vI 0]
def regZ:List SV:=[vI 0,vI 0,vL none 0 0,vI 0]
def balV (A:Option Addr) (a:Nat):List SV:=[vI 0,vI 2,vI 1,vI 3,vI 0,.bl false,.bl true,.bl false,.bl false,.bl false,.bl false,.bl false]++(regZ++(regV A a++(regZ++(regZ++(regZ++(regZ++regZ))))))
def balW (A:Option Addr) (a:Nat) (B:Option Addr) (b:Nat):List SV:=[vI 0,vI 2,vI 1,vI 3,vI 0,.bl true,.bl true,.bl false,.bl false,.bl false,.bl false,.bl false]++(regV B b++(regV A a++(regZ++(regZ++(regZ++(regZ++regZ))))))
theorem ballotT (A:Option Addr) (a:Nat):Triple Tryz.prog 97 [.int .i64 0,.int .i64 2,.int .i64 1,.int .i64 3,.int .i64 0,.agg (encG ⟨⟨2,0,[],0⟩,A,a⟩).toArray] [] [] (Nat × Option Addr × Nat) (fun (b,_,_)=>.tuple #[pP b,.int .i64 0]) (fun _=>True) (fun (b,A',a')=>[Pt b 152 (SV.denL (balV A' a'))]):=by
 refine aT Tryz.func97 [vI 0,vI 2,vI 1,vI 3,vI 0,.ag [vI 2,vI 0,vL A 0 a,vI 0]] [] (fun E=>?_) ⟨trivial,trivial,trivial,trivial,trivial,⟨trivial,trivial,trivial,trivial,trivial⟩,trivial⟩
 refine aG ?_
 refine ev_new fun b0=>?_
 refine aI (aI (aI (aI (aI ?_))))
 refine ev_inline Tryz.tbs_ok Tryz.func78 rfl rfl ?_
 refine aG (aI (aI ?_))
 refine ev_inline Tryz.tbs_ok Tryz.func124 rfl rfl ?_
 refine aG (aJ ?_)
 refine ev_fin ⟨trivial,aL,_,rfl,?_⟩
 refine aG (aI ?_)
 refine wN (2-1) ?_
 refine ev_stop (go_bin (.va (.int _ (((2-1) % (3):Nat):Int))) trivial rfl rfl rfl rfl rfl (by decide) (by decide) (fun w=>rem_run (show ¬3=0 from (by omega)) w) ?_)
 refine aG ?_
 refine ev_fin ⟨trivial,aL,_,rfl,?_⟩
 refine aG (aI (aI ?_))
 refine aC (checkG0 (A) (a)) [] [] fun _ h1=>?_
 refine aI (aI (aI ?_))
 refine ev_new fun b2=>?_
 refine ev_inline Tryz.tbs_ok Tryz.func83 rfl rfl ?_
 refine aG ?_
 refine ev_new fun b3=>?_
 refine ev_stop (go_draw Tryz.tbs_ok false [2] [(0,true),(1,true),(2,true),(3,true),(4,true),(6,true),(7,true),(10,true),(11,true),(5,false),(8,false),(9,false),(12,false),(13,false)] rfl ?_)
 refine aG (aE ?_)
 refine aC (cloneG0 (A) (a)) [] [] fun ⟨x4,x5⟩ h6=>?_
 refine aE ?_
 refine ev_stop (go_indexArr Tryz.tbs_ok (1) rfl rfl rfl rfl rfl rfl (by first | decide | omega) rfl rfl ?_)
 refine aG (aE (aE ?_))
 refine ev_stop (go_indexArr Tryz.tbs_ok (1) rfl rfl rfl rfl rfl rfl (by first | decide | omega) rfl rfl ?_)
 refine aG (aE (aK ?_))
 refine ev_fin ⟨trivial,aL,_,rfl,?_⟩
 refine aG ?_
 exact ev_fin ⟨trivial,_,rfl,((b2,x4,x5)),rfl,by trivial,aF [1]⟩
 all_goals skip
theorem mailB (b:Nat) (A:Option Addr) (a:Nat):Triple Tryz.prog 98 [pP b] [Pt b 152 (SV.denL (balV A a))] [] Sl (fun (C,c)=>.slice C 2 c) (fun _=>True) (fun (C,c)=>[Pt b 152 (SV.denL (balV A a)),Row 28 18 C 2 c (([⟨1,1,0,0,2,0,0,0,0,none,0,0,0,0,0,0,0,0,0,0⟩,⟨1,1,2,0,2,0,0,0,0,none,0,0,0,0,0,0,0,0,0,0⟩]:List MailS).flatMap encM)]):=by
 refine triple_intro Tryz.tbs_ok Tryz.func98 rfl [.pt 0 b 0] [.box b 152 (balV A a)] ⟨rfl,trivial⟩ rfl (by simp [balV,regV,regZ,SV.good,SV.goodL]) ?_
 intro E
 refine go_fact (Row 28 18 none 0 0 (([]:List MailS).flatMap encM)) (Row.nilE _ _) ?_
 refine aG ?_
 refine ev_inline Tryz.tbs_ok Tryz.func81 rfl rfl ?_
 refine aG ?_
 refine ev_fin ⟨trivial,aL,_,rfl,?_⟩
 refine aG (aI ?_)
 refine ev_stop (go_rounds 9 ?_)
 refine aG (aJ (aJ ?_))
 refine ev_stop (go_draw Tryz.tbs_ok false [0] [(0,true),(1,true),(2,true),(3,true),(4,true),(5,true),(6,true),(7,true),(8,true),(9,true),(10,true),(11,true),(12,true),(13,true),(14,true),(15,true),(16,true),(17,true),(18,true),(19,false),(20,false),(21,false)] rfl ?_)
 refine aG (aE ?_)
 refine ev_new fun b0=>?_
 refine aE ?_
 refine ev_stop (go_appendE (sz:=18) (M:=[]) (enc:=encM) Tryz.tbs_ok [] [] (.inr 2) ([]) ([{ k:=1,fr:=1,to:=0,st:=0,ep:=2,vi:=0,ba:=0,le:=0,sm:=0,A:=none,n:=0,a:=0,o1:=0,o2:=0,o3:=0,o4:=0,o5:=0,a1:=0,a2:=0,a3:=0:MailS }]) ([{ k:=1,fr:=1,to:=0,st:=0,ep:=2,vi:=0,ba:=0,le:=0,sm:=0,A:=none,n:=0,a:=0,o1:=0,o2:=0,o3:=0,o4:=0,o5:=0,a1:=0,a2:=0,a3:=0:MailS }]) (1) rfl rfl rfl rfl rfl rfl rfl (by decide) rfl (by decide) (fun _ _=>Row.nil _ _ _) rfl (fun _ p=>Pt.rd p rfl) (by first | rfl | simp) (by first | rfl | omega) (aM (1)) (aN (1)) (fun _ _=>aL) (fun A1 c2 h3=>?_))
 refine aG (aE (aK ?_))
 refine wN (0+1) ?_
 refine ev_fin (go Tryz.tbs_ok 1000 ?_)
 refine aJ (aI ?_)
 refine wN (0+1+1) ?_
 refine ev_fin (go Tryz.tbs_ok 1000 ?_)
 refine aJ (aJ ?_)
 refine ev_stop (go_draw Tryz.tbs_ok false [0] [(0,true),(1,true),(2,true),(3,true),(4,true),(5,true),(6,true),(7,true),(8,true),(9,true),(10,true),(11,true),(12,true),(13,true),(14,true),(15,true),(16,true),(17,true),(18,true),(19,false),(20,false),(21,false)] rfl ?_)
 refine aG (aE ?_)
 refine ev_new fun b4=>?_
 refine aE ?_
 refine ev_stop (go_appendE (sz:=18) (M:=[_]) (enc:=encM) Tryz.tbs_ok [3] [] (.inr 4) ([{ k:=1,fr:=1,to:=0,st:=0,ep:=2,vi:=0,ba:=0,le:=0,sm:=0,A:=none,n:=0,a:=0,o1:=0,o2:=0,o3:=0,o4:=0,o5:=0,a1:=0,a2:=0,a3:=0:MailS }]) ([{ k:=1,fr:=1,to:=(↑(0+1+1):Int),st:=0,ep:=2,vi:=0,ba:=0,le:=0,sm:=0,A:=none,n:=0,a:=0,o1:=0,o2:=0,o3:=0,o4:=0,o5:=0,a1:=0,a2:=0,a3:=0:MailS }]) (([{ k:=1,fr:=1,to:=0,st:=0,ep:=2,vi:=0,ba:=0,le:=0,sm:=0,A:=none,n:=0,a:=0,o1:=0,o2:=0,o3:=0,o4:=0,o5:=0,a1:=0,a2:=0,a3:=0:MailS }])++([{ k:=1,fr:=1,to:=(↑(0+1+1):Int),st:=0,ep:=2,vi:=0,ba:=0,le:=0,sm:=0,A:=none,n:=0,a:=0,o1:=0,o2:=0,o3:=0,o4:=0,o5:=0,a1:=0,a2:=0,a3:=0:MailS }])) (2) rfl rfl rfl rfl rfl rfl rfl (by decide) rfl (by decide) (fun _ p=>starH_one.1 p) rfl (fun _ p=>Pt.rd p rfl) (by first | rfl | simp) (by first | rfl | omega) (aM (2)) (aN (2)) (fun _ _=>aL) (fun A5 c6 h7=>?_))
 refine aG (aE (aK ?_))
 refine wN (0+1+1+1) ?_
 refine ev_fin (go Tryz.tbs_ok 1000 ?_)
 refine aI ?_
 refine ev_fin (go Tryz.tbs_ok 1000 ?_)
 exact ev_fin ⟨trivial,_,rfl,((A5,c6)),rfl,by trivial,aF [0,3]⟩
 all_goals skip
theorem addB (b:Nat) (A:Option Addr) (a:Nat):Triple Tryz.prog 42 [pP b,.agg (encM ⟨2,0,1,0,2,0,0,0,0,none,0,0,0,0,0,0,0,0,0,0⟩).toArray] [Pt b 152 (SV.denL (balV A a))] [] Sl (fun _=>.bool true) (fun _=>True) (fun (B,c)=>[Pt b 152 (SV.denL (balW A a B c))]):=by
 refine triple_intro Tryz.tbs_ok Tryz.func42 rfl [.pt 0 b 0,.ag [vI 2,vI 0,vI 1,vI 0,vI 2,vI 0,vI 0,vI 0,vI 0,vL none 0 0,vI 0,vI 0,vI 0,vI 0,vI 0,vI 0,vI 0,vI 0]] [.box b 152 (balV A a)] ⟨rfl,by simp [SV.good,SV.goodL],trivial⟩ rfl (by simp [balV,regV,regZ,SV.good,SV.goodL]) ?_
 intro E
 refine aG ?_
 refine ev_new fun b0=>?_
 refine ev_stop (go_draw Tryz.tbs_ok true [0,1] [(0,true),(1,false),(2,false),(3,false),(4,false),(5,false),(6,false),(7,false),(8,true),(9,true),(10,false),(11,false),(12,false),(13,false),(14,false),(15,false),(16,false),(17,true),(18,true),(19,false),(20,false),(21,false),(22,false),(23,false),(24,false),(25,false),(26,true),(27,true),(28,false),(29,false),(30,false),(31,false),(32,false),(33,false),(34,false),(35,false),(36,false),(37,false),(38,false),(39,false),(40,true),(41,true),(42,false),(43,false),(44,false),(45,false),(46,false),(47,false),(48,false),(49,true),(50,true),(51,true),(52,false),(53,false),(54,false),(55,false),(56,false),(57,false),(58,true),(59,true),(60,false),(61,false),(62,false),(63,false),(64,false),(65,false)] rfl ?_)
 refine aG (aE ?_)
 refine ev_inline Tryz.tbs_ok Tryz.func81 rfl rfl ?_
 refine aG ?_
 refine ev_fin ⟨trivial,aL,_,rfl,?_⟩
 refine aG (aE (aE (aI (aE (aE (aE (aE (aE (aI (aE (aE (aE ?_))))))))))))
 refine aE (aE (aE (aE (aE (aI (aE (aE (aE (aE (aE (aE (aE ?_))))))))))))
 refine aE (aI (aE (aE (aE (aE (aE (aE (aE (aE (aI (aE (aE ?_))))))))))))
 refine aE (aE (aE (aI (aE (aE (aE (aE (aE (aE (aE (aE (aI ?_))))))))))))
 refine aE (aE (aE ?_))
 refine ev_stop (go_indexArr Tryz.tbs_ok (0) rfl rfl rfl rfl rfl rfl (by first | decide | omega) rfl rfl ?_)
 refine aG (aE (aE (aE (aE (aE (aE (aE (aE (aE (aE (aI ?_)))))))))))
 refine ev_new fun b1=>?_
 refine ev_stop (go_draw Tryz.tbs_ok true [0,2] [(0,true),(1,false),(2,false),(3,false),(4,true),(5,true),(6,false),(7,false),(8,false),(9,false),(10,false),(11,false)] rfl ?_)
 refine aG (aE ?_)
 refine aC (checkG0 (none) (0)) [] [] fun _ h2=>?_
 refine aE (aE (aE (aI (aE (aE (aE (aE (aE (aE (aE (aI ?_)))))))))))
 refine ev_inline Tryz.tbs_ok Tryz.func83 rfl rfl ?_
 refine aG ?_
 refine ev_new fun b3=>?_
 refine ev_stop (go_draw Tryz.tbs_ok false [3] [(0,true),(1,true),(2,true),(3,true),(4,true),(6,true),(7,true),(10,true),(11,true),(5,false),(8,false),(9,false),(12,false),(13,false)] rfl ?_)
 refine aG (aE ?_)
 refine aC (cloneG0 (none) (0)) [] [] fun ⟨x4,x5⟩ h6=>?_
 refine aE ?_
 refine ev_stop (go_indexArr Tryz.tbs_ok (0) rfl rfl rfl rfl rfl rfl (by first | decide | omega) rfl rfl ?_)
 refine aG (aE (aE ?_))
 refine ev_stop (go_indexArr Tryz.tbs_ok (0) rfl rfl rfl rfl rfl rfl (by first | decide | omega) rfl rfl ?_)
 refine aG (aE (aK ?_))
 refine ev_fin ⟨trivial,aL,_,rfl,?_⟩
 refine aG ?_
 exact ev_fin ⟨trivial,_,rfl,((x4,x5)),rfl,by trivial,aF [0]⟩
 all_goals skip
theorem listB (b:Nat) (A:Option Addr) (a:Nat) (B:Option Addr) (c:Nat):Triple Tryz.prog 84 [pP b] [Pt b 152 (SV.denL (balW A a B c))] [] Sl (fun (C,d)=>.slice C 2 d) (fun _=>True) (fun (C,d)=>[Pt b 152 (SV.denL (balW A a B c)),Row 45 4 C 2 d (([⟨2,0,B,0,c,0⟩,⟨2,0,A,0,a,0⟩]:List RgS).flatMap encH)]):=by
 refine triple_intro Tryz.tbs_ok Tryz.func84 rfl [.pt 0 b 0] [.box b 152 (balW A a B c)] ⟨rfl,trivial⟩ rfl (by simp [balW,regV,regZ,SV.good,SV.goodL]) ?_
 intro E
 refine go_fact (Row 45 4 none 0 0 (([]:List RgS).flatMap encH)) (Row.nilE _ _) ?_
 refine aG ?_
 refine ev_stop (go_rounds 9 ?_)
 refine aG (aJ ?_)
 refine ev_stop (go_indexAg Tryz.tbs_ok (0) rfl rfl rfl rfl rfl rfl (by decide) rfl ?_)
 refine aG ?_
 refine ev_stop (go_indexArr Tryz.tbs_ok (0) rfl rfl rfl rfl rfl rfl (by first | decide | omega) rfl rfl ?_)
 refine aG ?_
 refine ev_new fun b0=>?_
 refine ev_stop (go_appendE (sz:=4) (M:=[]) (enc:=encH) Tryz.tbs_ok [] [] (.inr 2) ([]) ([{ p:=2,v:=0,A:=B,n:=0,a:=c,c:=0:RgS }]) ([{ p:=2,v:=0,A:=B,n:=0,a:=c,c:=0:RgS }]) (1) rfl rfl rfl rfl rfl rfl rfl (by decide) rfl (by decide) (fun _ _=>Row.nil _ _ _) rfl (fun _ p=>Pt.rd p rfl) (by first | rfl | simp) (by first | rfl | omega) (aM (1)) (aN (1)) (fun _ _=>aL) (fun A1 c2 h3=>?_))
 refine aG ?_
 refine wN (0+1) ?_
 refine ev_fin (go Tryz.tbs_ok 1000 ?_)
 refine aJ ?_
 refine ev_stop (go_indexAg Tryz.tbs_ok (0+1) rfl rfl rfl rfl rfl rfl (by decide) rfl ?_)
 refine aG ?_
 refine ev_stop (go_indexArr Tryz.tbs_ok (0+1) rfl rfl rfl rfl rfl rfl (by first | decide | omega) rfl rfl ?_)
 refine aG ?_
 refine ev_new fun b4=>?_
 refine ev_stop (go_appendE (sz:=4) (M:=[_]) (enc:=encH) Tryz.tbs_ok [3] [] (.inr 4) ([{ p:=2,v:=0,A:=B,n:=0,a:=c,c:=0:RgS }]) ([{ p:=2,v:=0,A:=A,n:=0,a:=a,c:=0:RgS }]) (([{ p:=2,v:=0,A:=B,n:=0,a:=c,c:=0:RgS }])++([{ p:=2,v:=0,A:=A,n:=0,a:=a,c:=0:RgS }])) (2) rfl rfl rfl rfl rfl rfl rfl (by decide) rfl (by decide) (fun _ p=>starH_one.1 p) rfl (fun _ p=>Pt.rd p rfl) (by first | rfl | simp) (by first | rfl | omega) (aM (2)) (aN (2)) (fun _ _=>aL) (fun A5 c6 h7=>?_))
 refine aG ?_
 refine wN (0+1+1) ?_
 refine ev_fin (go Tryz.tbs_ok 1000 ?_)
 refine aJ ?_
 refine ev_stop (go_indexAg Tryz.tbs_ok (0+1+1) rfl rfl rfl rfl rfl rfl (by decide) rfl ?_)
 refine aG ?_
 refine wN (0+1+1+1) ?_
 refine ev_fin (go Tryz.tbs_ok 1000 ?_)
 refine aJ ?_
 refine ev_stop (go_indexAg Tryz.tbs_ok (0+1+1+1) rfl rfl rfl rfl rfl rfl (by decide) rfl ?_)
 refine aG ?_
 refine wN (0+1+1+1+1) ?_
 refine ev_fin (go Tryz.tbs_ok 1000 ?_)
 refine aJ ?_
 refine ev_stop (go_indexAg Tryz.tbs_ok (0+1+1+1+1) rfl rfl rfl rfl rfl rfl (by decide) rfl ?_)
 refine aG ?_
 refine wN (0+1+1+1+1+1) ?_
 refine ev_fin (go Tryz.tbs_ok 1000 ?_)
 refine aJ ?_
 refine ev_stop (go_indexAg Tryz.tbs_ok (0+1+1+1+1+1) rfl rfl rfl rfl rfl rfl (by decide) rfl ?_)
 refine aG ?_
 refine wN (0+1+1+1+1+1+1) ?_
 refine ev_fin (go Tryz.tbs_ok 1000 ?_)
 refine aJ ?_
 refine ev_stop (go_indexAg Tryz.tbs_ok (0+1+1+1+1+1+1) rfl rfl rfl rfl rfl rfl (by decide) rfl ?_)
 refine aG ?_
 refine wN (0+1+1+1+1+1+1+1) ?_
 refine ev_fin (go Tryz.tbs_ok 1000 ?_)
 refine aI ?_
 refine ev_fin (go Tryz.tbs_ok 1000 ?_)
 exact ev_fin ⟨trivial,_,rfl,((A5,c6)),rfl,by trivial,aF [0,3]⟩
 all_goals skip
theorem sitesB (b:Nat) (A:Option Addr) (a:Nat) (B:Option Addr) (c:Nat):Triple Tryz.prog 132 [pP b] [Pt b 152 (SV.denL (balW A a B c))] [] Sl (fun (C,d)=>.slice C 2 d) (fun _=>True) (fun (C,d)=>[Pt b 152 (SV.denL (balW A a B c)),Row 3 1 C 2 d (([0,1]:List Int).flatMap encN)]):=by
 refine triple_intro Tryz.tbs_ok Tryz.func132 rfl [.pt 0 b 0] [.box b 152 (balW A a B c)] ⟨rfl,trivial⟩ rfl (by simp [balW,regV,regZ,SV.good,SV.goodL]) ?_
 intro E
 refine go_fact (Row 3 1 none 0 0 (([]:List Int).flatMap encN)) (Row.nilE _ _) ?_
 refine aG ?_
 refine ev_inline Tryz.tbs_ok Tryz.func81 rfl rfl ?_
 refine aG ?_
 refine ev_fin ⟨trivial,aL,_,rfl,?_⟩
 refine aG (aI ?_)
 refine ev_stop (go_rounds 9 ?_)
 refine aG (aJ ?_)
 refine ev_stop (go_indexAg Tryz.tbs_ok (0) rfl rfl rfl rfl rfl rfl (by decide) rfl ?_)
 refine aG ?_
 refine ev_new fun b0=>?_
 refine ev_stop (go_appendE (sz:=1) (M:=[]) (enc:=encN) Tryz.tbs_ok [] [] (.inr 2) ([]) ([0]) ([0]) (1) rfl rfl rfl rfl rfl rfl rfl (by decide) rfl (by decide) (fun _ _=>Row.nil _ _ _) rfl (fun _ p=>Pt.rd p rfl) (by first | rfl | simp) (by first | rfl | omega) (aM (1)) (aN (1)) (fun _ _=>aL) (fun A1 c2 h3=>?_))
 refine aG ?_
 refine wN (0+1) ?_
 refine ev_fin (go Tryz.tbs_ok 1000 ?_)
 refine aJ ?_
 refine ev_stop (go_indexAg Tryz.tbs_ok (0+1) rfl rfl rfl rfl rfl rfl (by decide) rfl ?_)
 refine aG ?_
 refine ev_new fun b4=>?_
 refine ev_stop (go_appendE (sz:=1) (M:=[_]) (enc:=encN) Tryz.tbs_ok [3] [] (.inr 4) ([0]) ([(↑(0+1):Int)]) (([0])++([(↑(0+1):Int)])) (2) rfl rfl rfl rfl rfl rfl rfl (by decide) rfl (by decide) (fun _ p=>starH_one.1 p) rfl (fun _ p=>Pt.rd p rfl) (by first | rfl | simp) (by first | rfl | omega) (aM (2)) (aN (2)) (fun _ _=>aL) (fun A5 c6 h7=>?_))
 refine aG ?_
 refine wN (0+1+1) ?_
 refine ev_fin (go Tryz.tbs_ok 1000 ?_)
 refine aJ ?_
 refine ev_stop (go_indexAg Tryz.tbs_ok (0+1+1) rfl rfl rfl rfl rfl rfl (by decide) rfl ?_)
 refine aG ?_
 refine wN (0+1+1+1) ?_
 refine ev_fin (go Tryz.tbs_ok 1000 ?_)
 refine aJ ?_
 refine ev_stop (go_indexAg Tryz.tbs_ok (0+1+1+1) rfl rfl rfl rfl rfl rfl (by decide) rfl ?_)
 refine aG ?_
 refine wN (0+1+1+1+1) ?_
 refine ev_fin (go Tryz.tbs_ok 1000 ?_)
 refine aJ ?_
 refine ev_stop (go_indexAg Tryz.tbs_ok (0+1+1+1+1) rfl rfl rfl rfl rfl rfl (by decide) rfl ?_)
 refine aG ?_
 refine wN (0+1+1+1+1+1) ?_
 refine ev_fin (go Tryz.tbs_ok 1000 ?_)
 refine aJ ?_
 refine ev_stop (go_indexAg Tryz.tbs_ok (0+1+1+1+1+1) rfl rfl rfl rfl rfl rfl (by decide) rfl ?_)
 refine aG ?_
 refine wN (0+1+1+1+1+1+1) ?_
 refine ev_fin (go Tryz.tbs_ok 1000 ?_)
 refine aJ ?_
 refine ev_stop (go_indexAg Tryz.tbs_ok (0+1+1+1+1+1+1) rfl rfl rfl rfl rfl rfl (by decide) rfl ?_)
 refine aG ?_
 refine wN (0+1+1+1+1+1+1+1) ?_
 refine ev_fin (go Tryz.tbs_ok 1000 ?_)
 refine aI ?_
 refine ev_fin (go Tryz.tbs_ok 1000 ?_)
 exact ev_fin ⟨trivial,_,rfl,((A5,c6)),rfl,by trivial,aF [0,3]⟩
 all_goals skip
theorem major3:Triple Tryz.prog 85 [.int .i64 3] [] [] Unit (fun _=>.int .i64 2) (fun _=>True) (fun _=>[]):=by
 refine aT Tryz.func85 [vI 3] [] (fun E=>?_) ⟨trivial,trivial⟩
 refine aG ?_
 refine ev_inline Tryz.tbs_ok Tryz.func124 rfl rfl ?_
 refine aG (aJ ?_)
 refine ev_fin ⟨trivial,aL,_,rfl,?_⟩
 refine aG (aI ?_)
 refine ev_wrap (z:=1) (by decide) ?_
 refine wN (1+1) ?_
 refine ev_fin ⟨trivial,_,rfl,(()),rfl,(by trivial),Frm.nil _⟩
 all_goals skip
theorem wonB (b:Nat) (A:Option Addr) (a:Nat) (B:Option Addr) (c:Nat):Triple Tryz.prog 43 [pP b] [Pt b 152 (SV.denL (balW A a B c))] [] Unit (fun _=>.bool true) (fun _=>True) (fun _=>[Pt b 152 (SV.denL (balW A a B c))]):=by
 have T1:=listB b A a B c
 refine triple_intro Tryz.tbs_ok Tryz.func43 rfl [.pt 0 b 0] [.box b 152 (balW A a B c)] ⟨rfl,trivial⟩ rfl (by simp [balW,regV,regZ,SV.good,SV.goodL]) ?_
 intro E
 refine aG ?_
 refine ev_stop (go_draw Tryz.tbs_ok false [0] [(0,true),(1,false),(2,false),(3,false),(4,true),(7,true),(8,true),(9,true),(10,true),(5,false),(6,true),(11,false),(12,false),(13,false),(14,false)] rfl ?_)
 refine aG (aE ?_)
 refine ev_inline Tryz.tbs_ok Tryz.func81 rfl rfl ?_
 refine aG ?_
 refine ev_fin ⟨trivial,aL,_,rfl,?_⟩
 refine aG (aE (aE (aE (aJ (aE ?_)))))
 refine aD T1 [0] [] (fun (v0_,v1_)=>[.box (b) 152 [vI 0,vI 2,vI 1,vI 3,vI 0,.bl true,.bl true,.bl false,.bl false,.bl false,.bl false,.bl false,vI 2,vI 0,vL B 0 c,vI 0,vI 2,vI 0,vL A 0 a,vI 0,vI 0,vI 0,vL none 0 0,vI 0,vI 0,vI 0,vL none 0 0,vI 0,vI 0,vI 0,vL none 0 0,vI 0,vI 0,vI 0,vL none 0 0,vI 0,vI 0,vI 0,vL none 0 0,vI 0],.fact (Row 45 4 v0_ 2 v1_ (List.flatMap encH [{ p:=2,v:=0,A:=B,n:=0,a:=c,c:=0:RgS },{ p:=2,v:=0,A:=A,n:=0,a:=a,c:=0:RgS }]))]) fun ⟨x0,x1⟩ h2=>?_
 refine aE ?_
 refine aC major3 [] [] fun _ h3=>?_
 refine aE (aE (aE (aK ?_)))
 exact ev_fin ⟨trivial,_,rfl,(),rfl,by trivial,aF [0]⟩
 all_goals skip
theorem ok_rank:EqOk Tryz.prog 269:=⟨by kernel_rfl,by kernel_rfl⟩
theorem eq_rank (a b c d:Int) (n:Nat) (w:World):(Op.equalIn (n+2) 269 (.agg #[.int .i64 a,.int .i64 b]) (.agg #[.int .i64 c,.int .i64 d])).run Tryz.prog w = .ok (a==c&&(b==d&&true)) w:=by
 refine eq_struct ok_rank rfl ?_
 iterate 2 refine eqF_int (by decide) Tryz.underlying3 rfl rfl ?_
 exact eqF_nil
theorem bestB (C:Option Addr) (d:Nat) (A:Option Addr) (a:Nat) (B:Option Addr) (c:Nat):Triple Tryz.prog 131 [.slice C 2 d] [] [Rd 4 C 2 (([⟨2,0,B,0,c,0⟩,⟨2,0,A,0,a,0⟩]:List RgS).flatMap encH)] Unit (fun _=>.int .i64 0) (fun _=>True) (fun _=>[]):=by
 refine aT Tryz.func131 [vL C 2 d] [] (fun E=>?_) ⟨trivial,trivial⟩
 refine go_fact (Row 269 2 none 0 0 (([]:List (Int × Int)).flatMap encK2)) (Row.nilE _ _) ?_
 refine aG ?_
 refine ev_stop (go_rounds 9 ?_)
 refine aG (aJ ?_)
 refine ev_stop (go_indexE (sz:=4) Tryz.tbs_ok (.inl 0) (0) rfl rfl rfl rfl rfl rfl (by omega) rfl (fun _ h=>h) (fun g0 o2 e1=>?_))
 subst e1
 refine aG ?_
 refine ev_stop (go_loadL Tryz.tbs_ok (.inl 0) 0 0 ({ p:=2,v:=0,A:=B,n:=0,a:=c,c:=0:RgS }) rfl rfl rfl rfl rfl (fun _ h=>h) (by omega) (fun _=>rfl) (by decide) (by decide) ?_)
 refine aG ?_
 refine ev_new fun b3=>?_
 refine ev_new fun b4=>?_
 refine ev_stop (go_appendE (sz:=2) (M:=[]) (enc:=encK2) Tryz.tbs_ok [] [] (.inr 2) ([]) ([(0,(↑0:Int))]) ([(0,(↑0:Int))]) (1) rfl rfl rfl rfl rfl rfl rfl (by decide) rfl (by decide) (fun _ _=>Row.nil _ _ _) rfl (fun _ p=>Pt.rd p rfl) (by first | rfl | simp) (by first | rfl | omega) (aM (1)) (aN (1)) (fun _ _=>aL) (fun A5 c6 h7=>?_))
 refine aG ?_
 refine wN (0+1) ?_
 refine ev_fin (go Tryz.tbs_ok 1000 ?_)
 refine aJ ?_
 refine ev_stop (go_atE (sz:=4) Tryz.tbs_ok (0+1) rfl rfl rfl rfl rfl rfl (by omega) ?_)
 refine aG ?_
 refine ev_stop (go_loadL Tryz.tbs_ok (.inl 0) 1 0 ({ p:=2,v:=0,A:=A,n:=0,a:=a,c:=0:RgS }) rfl rfl rfl rfl rfl (fun _ h=>h) (by omega) (fun _=>rfl) (by decide) (by decide) ?_)
 refine aG ?_
 refine ev_new fun b8=>?_
 refine ev_new fun b9=>?_
 refine ev_stop (go_appendE (sz:=2) (M:=[_]) (enc:=encK2) Tryz.tbs_ok [3] [] (.inr 5) ([(0,0)]) ([(0,(↑0:Int))]) (([(0,0)])++([(0,(↑0:Int))])) (2) rfl rfl rfl rfl rfl rfl rfl (by decide) rfl (by decide) (fun _ p=>starH_one.1 p) rfl (fun _ p=>Pt.rd p rfl) (by first | rfl | simp) (by first | rfl | omega) (aM (2)) (aN (2)) (fun _ _=>aL) (fun A10 c11 h12=>?_))
 refine aG ?_
 refine wN (0+1+1) ?_
 refine ev_fin (go Tryz.tbs_ok 1000 ?_)
 refine aI ?_
 refine ev_fin (go Tryz.tbs_ok 1000 ?_)
 refine aI ?_
 refine ev_inline Tryz.tbs_ok Tryz.func181 rfl rfl ?_
 refine aG ?_
 refine ev_new fun b13=>?_
 refine aI ?_
 refine ev_stop (go_index0 (sz:=2) Tryz.tbs_ok (.inr 3) (0) rfl rfl rfl rfl rfl rfl (by omega) rfl Row.at0 (fun g14 e15=>?_))
 subst e15
 refine aG ?_
 refine ev_stop (go_loadL Tryz.tbs_ok (.inr 3) 0 0 ((0,0)) rfl rfl rfl rfl rfl (fun _ h=>Row.rd h) (by omega) (fun _=>rfl) (by decide) (by decide) ?_)
 refine aG ?_
 refine ev_new fun b16=>?_
 refine ev_stop (go_rounds 9 ?_)
 refine aG (aJ ?_)
 refine ev_stop (go_draw Tryz.tbs_ok true [3,7] [(0,true),(1,true),(2,true),(3,true),(4,true),(5,true),(6,false),(7,false)] rfl ?_)
 refine aG (aE ?_)
 refine ev_stop (tk_atE (sz:=2) Tryz.tbs_ok (1) aB rfl rfl rfl rfl rfl rfl rfl (by omega) ?_)
 refine aG (aE ?_)
 refine ev_stop (tk_loadL Tryz.tbs_ok (.inr 0) 1 0 ((0,0)) rfl aB rfl rfl rfl rfl rfl (fun _ h=>Row.rd h) (by omega) (fun _=>rfl) (by decide) (by decide) ?_)
 refine aG (aE ?_)
 refine ev_inline Tryz.tbs_ok Tryz.func182 rfl rfl ?_
 refine aG ?_
 refine ev_new fun b17=>?_
 refine ev_new fun b18=>?_
 refine ev_stop (go_draw Tryz.tbs_ok false [8,9] [(0,true),(1,true),(2,true),(3,true),(5,true),(6,true),(7,true),(8,true),(4,false),(9,false),(10,false),(11,false),(12,false)] rfl ?_)
 refine aG (aE ?_)
 refine ev_inline Tryz.tbs_ok Tryz.func235 rfl rfl ?_
 refine aG ?_
 refine ev_inline Tryz.tbs_ok Tryz.func228 rfl rfl ?_
 refine aG ?_
 refine ev_fin ⟨trivial,aL,_,rfl,?_⟩
 refine aG ?_
 refine ev_inline Tryz.tbs_ok Tryz.func228 rfl rfl ?_
 refine aG ?_
 refine ev_fin ⟨trivial,aL,_,rfl,?_⟩
 refine aG (aI (aI (aI (aI ?_))))
 refine ev_fin ⟨trivial,aL,_,rfl,?_⟩
 refine aG (aE ?_)
 refine ev_inline Tryz.tbs_ok Tryz.func235 rfl rfl ?_
 refine aG ?_
 refine ev_inline Tryz.tbs_ok Tryz.func228 rfl rfl ?_
 refine aG ?_
 refine ev_fin ⟨trivial,aL,_,rfl,?_⟩
 refine aG ?_
 refine ev_inline Tryz.tbs_ok Tryz.func228 rfl rfl ?_
 refine aG ?_
 refine ev_fin ⟨trivial,aL,_,rfl,?_⟩
 refine aG (aI (aI (aI (aI ?_))))
 refine ev_fin ⟨trivial,aL,_,rfl,?_⟩
 refine aG (aE ?_)
 refine ev_new fun b19=>?_
 refine aE ?_
 refine ev_inline Tryz.tbs_ok Tryz.func234 rfl rfl ?_
 refine aG ?_
 refine ev_stop (go_rounds 9 ?_)
 refine aG (aJ ?_)
 refine ev_stop (go_indexSl Tryz.tbs_ok (0) rfl rfl rfl rfl rfl rfl (by first | decide | omega) rfl rfl ?_)
 refine aG (aI ?_)
 refine wN (0+1) ?_
 refine ev_fin (go Tryz.tbs_ok 1000 ?_)
 refine aJ ?_
 refine ev_stop (go_indexSl Tryz.tbs_ok (0+1) rfl rfl rfl rfl rfl rfl (by first | decide | omega) rfl rfl ?_)
 refine aG (aI ?_)
 refine wN (0+1+1) ?_
 refine ev_fin (go Tryz.tbs_ok 1000 ?_)
 refine aI ?_
 refine ev_fin (go Tryz.tbs_ok 1000 ?_)
 refine ev_fin ⟨trivial,aL,_,rfl,?_⟩
 refine aG (aE (aK ?_))
 refine ev_fin ⟨trivial,aL,_,rfl,?_⟩
 refine aG (aE (aE (aI ?_)))
 refine wN (1+1) ?_
 refine ev_fin (go Tryz.tbs_ok 1000 ?_)
 refine aI ?_
 refine ev_fin (go Tryz.tbs_ok 1000 ?_)
 refine ev_fin ⟨trivial,aL,_,rfl,?_⟩
 refine aG ?_
 refine ev_inline Tryz.tbs_ok Tryz.func180 rfl rfl ?_
 refine aG ?_
 refine ev_new fun b20=>?_
 refine ev_stop (go_rounds 9 ?_)
 refine aG (aJ ?_)
 refine ev_stop (go_draw Tryz.tbs_ok true [0,1,2,3,4,5,6,7,8,9,10,11] [(0,true),(1,true),(2,true),(3,true),(4,true),(5,true)] rfl ?_)
 refine aG (aE ?_)
 refine ev_stop (tk_atE (sz:=2) Tryz.tbs_ok (0) aB rfl rfl rfl rfl rfl rfl rfl (by omega) ?_)
 refine aG (aE ?_)
 refine ev_stop (tk_loadL Tryz.tbs_ok (.inr 3) 0 0 ((0,0)) rfl aB rfl rfl rfl rfl rfl (fun _ h=>Row.rd h) (by omega) (fun _=>rfl) (by decide) (by decide) ?_)
 refine aG (aE ?_)
 refine ev_stop (tk_val aB rfl rfl (.bl true) trivial (fun a w hF hW=>eql_run (ev_denv hF rfl rfl) (ev_denv hF rfl rfl) (by kernel_rfl) (eq_rank (0) (0) (0) (0) 9998 w)) ?_)
 refine aG (aE ?_)
 refine ev_fin ⟨trivial,aL,_,rfl,?_⟩
 refine aG ?_
 refine ev_fin ⟨trivial,_,rfl,(()),rfl,(by trivial),Frm.nil _⟩
 all_goals skip
def ownV (a0 a1 a2 s0 s1 s2:Int):List SV:=[vI 0,vI 2,vI 1,vI 3,vI a0,vI a1,vI a2,vI (-1),vI (-1),vI (-1),vI (-1),vI s0,vI s1,vI s2,vI (-1),vI (-1),vI (-1),vI (-1),.bl false,vI 0]
theorem cloneI (C:Option Addr) (L:List Int) (m d:Nat) (hm:m=L.length) (h1:m≤100000):Triple Tryz.prog 161 [.slice C m d] [] [Rd 1 C m (L.flatMap encN)] Sl (fun (B,d)=>.slice B m d) (fun (_,d)=>m≤d) (fun (B,d)=>[Row 3 1 B m d (L.flatMap encN)]):=by
 refine aT Tryz.func161 [vL C m d] [] (fun E=>?_) ⟨trivial,trivial⟩
 cases C with
 |
  none =>
  refine go_know (.inl 0) (Rd 1 none m (L.flatMap encN)) rfl (p:=m=0) (fun h q=>by
   rcases Nat.eq_zero_or_pos m with h1 | h1
   · exact h1
   obtain ⟨_,_,_,_,_,e,_⟩:=q.2.2 h1
   cases e) fun h0=>?_
  obtain rfl:L=[]:=List.eq_nil_of_length_eq_zero (by omega)
  subst h0
  refine go_fact (Row 3 1 none 0 0 (([]:List Int).flatMap encN)) (Row.nilE _ _) ?_
  refine aG (aJ ?_)
  exact ev_fin ⟨trivial,_,rfl,((none,0)),rfl,by trivial,aF [0]⟩
 | some g =>
  refine go Tryz.tbs_ok 1000 ?_
  refine aI ?_
  refine ev_new fun b0=>?_
  refine ev_stop (go_appendE (sz:=1) (M:=[_]) (enc:=encN) Tryz.tbs_ok [0] [some b0] (.inl 0) ([]) (L) (L) (m) rfl rfl rfl rfl rfl rfl rfl (by decide) rfl (by decide) (fun _ p=>Pt.row (starH_one.1 p) rfl (by decide)) rfl (fun _ h=>h) (by first | rfl | simp) (by first | rfl | omega) (aM (m)) (aN (m)) (fun _ _=>aL) (fun A1 c2 h3=>?_))
  refine aG ?_
  exact ev_fin ⟨trivial,_,rfl,((A1,c2)),rfl,by trivial,aF [1]⟩
theorem cloneI3 (b:Nat) (x y z:Int):Triple Tryz.prog 161 [.slice (some ⟨b,0,none⟩) 3 7] [] [Pt b 103 [.int .i64 x,.int .i64 y,.int .i64 z,.int .i64 (-1),.int .i64 (-1),.int .i64 (-1),.int .i64 (-1)]] Sl (fun (B,d)=>.slice B 3 d) (fun (_,d)=>3≤d) (fun (B,d)=>[Row 3 1 B 3 d (([x,y,z]:List Int).flatMap encN)]) :=
 (cloneI (some ⟨b,0,none⟩) [x,y,z] 3 7 rfl (by decide)).reads fun X hX=>by
  obtain rfl:=List.mem_singleton.1 hX
  exact ⟨_,List.mem_cons_self,fun h q=>Rd.sub (n:=7) (k:=3) (Pt.rd q rfl) (by decide)⟩
theorem toldNYN0 (o:Nat) (a0 a1 a2 s0 s1 s2 x y z:Int) (hx:x<0) (hy:¬ y<0) (hz:z<0):Triple Tryz.prog 114 [pP o,.agg #[.int .i64 x,.int .i64 y,.int .i64 z,.int .i64 (-1),.int .i64 (-1),.int .i64 (-1),.int .i64 (-1)]] [Pt o 105 (SV.denL (ownV a0 a1 a2 s0 s1 s2))] [] Sl (fun (C,c)=>.slice C 1 c) (fun _=>True) (fun (C,c)=>[Pt o 105 (SV.denL (ownV a0 a1 a2 s0 s1 s2)),Row 3 1 C 3 c (([y,0,0]:List Int).flatMap encN)]):=by
 refine triple_intro Tryz.tbs_ok Tryz.func114 rfl [.pt 0 o 0,.ag [vI x,vI y,vI z,vI (-1),vI (-1),vI (-1),vI (-1)]] [.box o 105 (ownV a0 a1 a2 s0 s1 s2)] ⟨rfl,by simp [SV.good,SV.goodL],trivial⟩ rfl (by simp [ownV,SV.good,SV.goodL]) ?_
 intro E
 refine aG ?_
 refine ev_new fun b0=>?_
 refine ev_stop (go_sliceTo Tryz.tbs_ok (3) rfl rfl rfl rfl rfl rfl (by decide) rfl ?_)
 refine aG ?_
 refine aC (cloneI3 (b0) (x) (y) (z)) [] [.inr 1] fun ⟨x1,x2⟩ h3=>?_
 refine ev_inline Tryz.tbs_ok Tryz.func92 rfl rfl ?_
 refine aG ?_
 refine ev_inline Tryz.tbs_ok Tryz.func135 rfl rfl ?_
 refine aG ?_
 refine ev_stop (go_rounds 9 ?_)
 refine aG (aJ ?_)
 refine ev_stop (go_index0 (sz:=1) Tryz.tbs_ok (.inr 2) (0) rfl rfl rfl rfl rfl rfl (by omega) rfl Row.at0 (fun g4 e5=>?_))
 subst e5
 refine aG ?_
 refine ev_stop (go_loadL Tryz.tbs_ok (.inr 2) 0 0 (x) rfl rfl rfl rfl rfl (fun _ h=>Row.rd h) (by omega) (fun _=>rfl) (by decide) (by decide) ?_)
 refine aG ?_
 refine ev_inline Tryz.tbs_ok Tryz.func163 rfl rfl ?_
 refine aG ?_
 refine ev_fin ⟨trivial,aL,_,rfl,?_⟩
 refine aG ?_
 refine aJ ?_ (decide_eq_true (by with_reducible assumption))
 refine ev_fin ⟨trivial,aL,_,rfl,?_⟩
 refine aG (aI ?_)
 refine wN (0+1) ?_
 refine ev_stop (go_rounds 9 ?_)
 refine aG (aJ ?_)
 refine ev_stop (go_atE (sz:=1) Tryz.tbs_ok (0+1) rfl rfl rfl rfl rfl rfl (by omega) ?_)
 refine aG ?_
 refine ev_stop (go_loadL Tryz.tbs_ok (.inr 2) 1 0 (y) rfl rfl rfl rfl rfl (fun _ h=>Row.rd h) (by omega) (fun _=>rfl) (by decide) (by decide) ?_)
 refine aG ?_
 refine ev_inline Tryz.tbs_ok Tryz.func163 rfl rfl ?_
 refine aG ?_
 refine ev_fin ⟨trivial,aL,_,rfl,?_⟩
 refine aG ?_
 refine aJ ?_ (dec_yes (by with_reducible assumption))
 refine ev_stop (go_atE (sz:=1) Tryz.tbs_ok (0) rfl rfl rfl rfl rfl rfl (by omega) ?_)
 refine aG ?_
 have l6:0<([x,y,z]).length:=(by (simp only [List.length_cons,List.length_nil];omega))
 refine ev_stop (go_storeR Tryz.tbs_ok 2 (0) 0 (y) rfl rfl rfl rfl rfl (by omega) (fun _=>rfl) (ones_of rfl) (by omega) l6 rfl (by decide) (ones_of rfl) rfl ?_)
 refine aG ?_
 refine wN (0+1) ?_
 refine wN (0+1+1) ?_
 refine ev_fin (go Tryz.tbs_ok 1000 ?_)
 refine aJ ?_
 refine ev_stop (go_atE (sz:=1) Tryz.tbs_ok (0+1+1) rfl rfl rfl rfl rfl rfl (by omega) ?_)
 refine aG ?_
 refine ev_stop (go_loadL Tryz.tbs_ok (.inr 2) 2 0 (z) rfl rfl rfl rfl rfl (fun _ h=>Row.rd h) (by omega) (fun _=>rfl) (by decide) (by decide) ?_)
 refine aG ?_
 refine ev_inline Tryz.tbs_ok Tryz.func163 rfl rfl ?_
 refine aG ?_
 refine ev_fin ⟨trivial,aL,_,rfl,?_⟩
 refine aG ?_
 refine aI ?_ (dec_no (by with_reducible assumption))
 refine wN (0+1+1+1) ?_
 refine ev_fin (go Tryz.tbs_ok 1000 ?_)
 refine aI ?_
 refine ev_fin (go Tryz.tbs_ok 1000 ?_)
 refine ev_stop (go_back Tryz.tbs_ok (0+1) (3) (x2) rfl rfl rfl rfl rfl ⟨_,rfl⟩ rfl rfl (by decide) (by omega) (by omega) (by omega) ?_)
 refine aG ?_
 refine ev_stop (go_clear (sz:=1) (enc:=encN) Tryz.tbs_ok 2 (0+1) ([x,y,z].set 0 y) (([x,y,z].set 0 y).take (0+1)++List.replicate (3-(0+1)) (0)++([x,y,z].set 0 y).drop ((0+1)+(3-(0+1)))) (0) rfl rfl rfl rfl rfl (by decide) rfl rfl rfl (backA_at (by omega)) (fun _=>rfl) (by omega) (by omega) rfl ?_)
 refine aG ?_
 refine ev_stop (go_front Tryz.tbs_ok (0+1) (x2) rfl rfl rfl rfl rfl rfl ⟨_,rfl⟩ rfl (by decide) (by omega) (by omega) ?_)
 refine aG ?_
 refine ev_fin ⟨trivial,aL,_,rfl,?_⟩
 refine aG ?_
 exact ev_fin ⟨trivial,_,rfl,((some { block:=g4,off:=0:Addr },x2)),rfl,by trivial,aF [0,2]⟩
 all_goals skip
theorem toldNYN (o:Nat) (a0 a1 a2 s0 s1 s2 x y z:Int) (hx:x<0) (hy:¬ y<0) (hz:z<0):Triple Tryz.prog 114 [pP o,.agg #[.int .i64 x,.int .i64 y,.int .i64 z,.int .i64 (-1),.int .i64 (-1),.int .i64 (-1),.int .i64 (-1)]] [Pt o 105 (SV.denL (ownV a0 a1 a2 s0 s1 s2))] [] Sl (fun (C,c)=>.slice C 1 c) (fun _=>True) (fun (C,c)=>[Pt o 105 (SV.denL (ownV a0 a1 a2 s0 s1 s2)),Row 3 1 C 1 c (([y]:List Int).flatMap encN)]) :=
 (toldNYN0 o a0 a1 a2 s0 s1 s2 x y z hx hy hz).imp fun (C,c) g=>⟨(C,c),rfl,g,fun h q=>starH_tail (fun h q=>starH_one.2 (row_shrink (e:=3) (sz:=1) (n:=3) (k:=1) (c:=c) (A:=C) (enc:=encN) (L:=[y,0,0]) (fun _=>rfl) (starH_one.1 q) (by decide))) q⟩
theorem toldNYY0 (o:Nat) (a0 a1 a2 s0 s1 s2 x y z:Int) (hx:x<0) (hy:¬ y<0) (hz:¬ z<0):Triple Tryz.prog 114 [pP o,.agg #[.int .i64 x,.int .i64 y,.int .i64 z,.int .i64 (-1),.int .i64 (-1),.int .i64 (-1),.int .i64 (-1)]] [Pt o 105 (SV.denL (ownV a0 a1 a2 s0 s1 s2))] [] Sl (fun (C,c)=>.slice C 2 c) (fun _=>True) (fun (C,c)=>[Pt o 105 (SV.denL (ownV a0 a1 a2 s0 s1 s2)),Row 3 1 C 3 c (([y,z,0]:List Int).flatMap encN)]):=by
 refine triple_intro Tryz.tbs_ok Tryz.func114 rfl [.pt 0 o 0,.ag [vI x,vI y,vI z,vI (-1),vI (-1),vI (-1),vI (-1)]] [.box o 105 (ownV a0 a1 a2 s0 s1 s2)] ⟨rfl,by simp [SV.good,SV.goodL],trivial⟩ rfl (by simp [ownV,SV.good,SV.goodL]) ?_
 intro E
 refine aG ?_
 refine ev_new fun b0=>?_
 refine ev_stop (go_sliceTo Tryz.tbs_ok (3) rfl rfl rfl rfl rfl rfl (by decide) rfl ?_)
 refine aG ?_
 refine aC (cloneI3 (b0) (x) (y) (z)) [] [.inr 1] fun ⟨x1,x2⟩ h3=>?_
 refine ev_inline Tryz.tbs_ok Tryz.func92 rfl rfl ?_
 refine aG ?_
 refine ev_inline Tryz.tbs_ok Tryz.func135 rfl rfl ?_
 refine aG ?_
 refine ev_stop (go_rounds 9 ?_)
 refine aG (aJ ?_)
 refine ev_stop (go_index0 (sz:=1) Tryz.tbs_ok (.inr 2) (0) rfl rfl rfl rfl rfl rfl (by omega) rfl Row.at0 (fun g4 e5=>?_))
 subst e5
 refine aG ?_
 refine ev_stop (go_loadL Tryz.tbs_ok (.inr 2) 0 0 (x) rfl rfl rfl rfl rfl (fun _ h=>Row.rd h) (by omega) (fun _=>rfl) (by decide) (by decide) ?_)
 refine aG ?_
 refine ev_inline Tryz.tbs_ok Tryz.func163 rfl rfl ?_
 refine aG ?_
 refine ev_fin ⟨trivial,aL,_,rfl,?_⟩
 refine aG ?_
 refine aJ ?_ (decide_eq_true (by with_reducible assumption))
 refine ev_fin ⟨trivial,aL,_,rfl,?_⟩
 refine aG (aI ?_)
 refine wN (0+1) ?_
 refine ev_stop (go_rounds 9 ?_)
 refine aG (aJ ?_)
 refine ev_stop (go_atE (sz:=1) Tryz.tbs_ok (0+1) rfl rfl rfl rfl rfl rfl (by omega) ?_)
 refine aG ?_
 refine ev_stop (go_loadL Tryz.tbs_ok (.inr 2) 1 0 (y) rfl rfl rfl rfl rfl (fun _ h=>Row.rd h) (by omega) (fun _=>rfl) (by decide) (by decide) ?_)
 refine aG ?_
 refine ev_inline Tryz.tbs_ok Tryz.func163 rfl rfl ?_
 refine aG ?_
 refine ev_fin ⟨trivial,aL,_,rfl,?_⟩
 refine aG ?_
 refine aJ ?_ (dec_yes (by with_reducible assumption))
 refine ev_stop (go_atE (sz:=1) Tryz.tbs_ok (0) rfl rfl rfl rfl rfl rfl (by omega) ?_)
 refine aG ?_
 have l6:0<([x,y,z]).length:=(by (simp only [List.length_cons,List.length_nil];omega))
 refine ev_stop (go_storeR Tryz.tbs_ok 2 (0) 0 (y) rfl rfl rfl rfl rfl (by omega) (fun _=>rfl) (ones_of rfl) (by omega) l6 rfl (by decide) (ones_of rfl) rfl ?_)
 refine aG ?_
 refine wN (0+1) ?_
 refine wN (0+1+1) ?_
 refine ev_fin (go Tryz.tbs_ok 1000 ?_)
 refine aJ ?_
 refine ev_stop (go_atE (sz:=1) Tryz.tbs_ok (0+1+1) rfl rfl rfl rfl rfl rfl (by omega) ?_)
 refine aG ?_
 refine ev_stop (go_loadL Tryz.tbs_ok (.inr 2) 2 0 (z) rfl rfl rfl rfl rfl (fun _ h=>Row.rd h) (by omega) (fun _=>rfl) (by decide) (by decide) ?_)
 refine aG ?_
 refine ev_inline Tryz.tbs_ok Tryz.func163 rfl rfl ?_
 refine aG ?_
 refine ev_fin ⟨trivial,aL,_,rfl,?_⟩
 refine aG ?_
 refine aJ ?_ (dec_yes (by with_reducible assumption))
 refine ev_stop (go_atE (sz:=1) Tryz.tbs_ok (0+1) rfl rfl rfl rfl rfl rfl (by omega) ?_)
 refine aG ?_
 have l7:0+1<([x,y,z].set 0 y).length:=(by (simp only [List.length_set,List.length_cons,List.length_nil]<;>omega))
 refine ev_stop (go_storeR Tryz.tbs_ok 2 (0+1) 0 (z) rfl rfl rfl rfl rfl (by omega) (fun _=>rfl) (ones_of rfl) (by omega) l7 rfl (by decide) (ones_of rfl) rfl ?_)
 refine aG ?_
 refine wN (0+1+1) ?_
 refine wN (0+1+1+1) ?_
 refine ev_fin (go Tryz.tbs_ok 1000 ?_)
 refine aI ?_
 refine ev_fin (go Tryz.tbs_ok 1000 ?_)
 refine ev_stop (go_back Tryz.tbs_ok (0+1+1) (3) (x2) rfl rfl rfl rfl rfl ⟨_,rfl⟩ rfl rfl (by decide) (by omega) (by omega) (by omega) ?_)
 refine aG ?_
 refine ev_stop (go_clear (sz:=1) (enc:=encN) Tryz.tbs_ok 2 (0+1+1) (([x,y,z].set 0 y).set (0+1) z) ((([x,y,z].set 0 y).set (0+1) z).take (0+1+1)++List.replicate (3-(0+1+1)) (0)++(([x,y,z].set 0 y).set (0+1) z).drop ((0+1+1)+(3-(0+1+1)))) (0) rfl rfl rfl rfl rfl (by decide) rfl rfl rfl (backA_at (by omega)) (fun _=>rfl) (by omega) (by omega) rfl ?_)
 refine aG ?_
 refine ev_stop (go_front Tryz.tbs_ok (0+1+1) (x2) rfl rfl rfl rfl rfl rfl ⟨_,rfl⟩ rfl (by decide) (by omega) (by omega) ?_)
 refine aG ?_
 refine ev_fin ⟨trivial,aL,_,rfl,?_⟩
 refine aG ?_
 exact ev_fin ⟨trivial,_,rfl,((some { block:=g4,off:=0:Addr },x2)),rfl,by trivial,aF [0,2]⟩
 all_goals skip
theorem toldNYY (o:Nat) (a0 a1 a2 s0 s1 s2 x y z:Int) (hx:x<0) (hy:¬ y<0) (hz:¬ z<0):Triple Tryz.prog 114 [pP o,.agg #[.int .i64 x,.int .i64 y,.int .i64 z,.int .i64 (-1),.int .i64 (-1),.int .i64 (-1),.int .i64 (-1)]] [Pt o 105 (SV.denL (ownV a0 a1 a2 s0 s1 s2))] [] Sl (fun (C,c)=>.slice C 2 c) (fun _=>True) (fun (C,c)=>[Pt o 105 (SV.denL (ownV a0 a1 a2 s0 s1 s2)),Row 3 1 C 2 c (([y,z]:List Int).flatMap encN)]) :=
 (toldNYY0 o a0 a1 a2 s0 s1 s2 x y z hx hy hz).imp fun (C,c) g=>⟨(C,c),rfl,g,fun h q=>starH_tail (fun h q=>starH_one.2 (row_shrink (e:=3) (sz:=1) (n:=3) (k:=2) (c:=c) (A:=C) (enc:=encN) (L:=[y,z,0]) (fun _=>rfl) (starH_one.1 q) (by decide))) q⟩
theorem toldYYN0 (o:Nat) (a0 a1 a2 s0 s1 s2 x y z:Int) (hx:¬ x<0) (hy:¬ y<0) (hz:z<0):Triple Tryz.prog 114 [pP o,.agg #[.int .i64 x,.int .i64 y,.int .i64 z,.int .i64 (-1),.int .i64 (-1),.int .i64 (-1),.int .i64 (-1)]] [Pt o 105 (SV.denL (ownV a0 a1 a2 s0 s1 s2))] [] Sl (fun (C,c)=>.slice C 2 c) (fun _=>True) (fun (C,c)=>[Pt o 105 (SV.denL (ownV a0 a1 a2 s0 s1 s2)),Row 3 1 C 3 c (([x,y,0]:List Int).flatMap encN)]):=by
 refine triple_intro Tryz.tbs_ok Tryz.func114 rfl [.pt 0 o 0,.ag [vI x,vI y,vI z,vI (-1),vI (-1),vI (-1),vI (-1)]] [.box o 105 (ownV a0 a1 a2 s0 s1 s2)] ⟨rfl,by simp [SV.good,SV.goodL],trivial⟩ rfl (by simp [ownV,SV.good,SV.goodL]) ?_
 intro E
 refine aG ?_
 refine ev_new fun b0=>?_
 refine ev_stop (go_sliceTo Tryz.tbs_ok (3) rfl rfl rfl rfl rfl rfl (by decide) rfl ?_)
 refine aG ?_
 refine aC (cloneI3 (b0) (x) (y) (z)) [] [.inr 1] fun ⟨x1,x2⟩ h3=>?_
 refine ev_inline Tryz.tbs_ok Tryz.func92 rfl rfl ?_
 refine aG ?_
 refine ev_inline Tryz.tbs_ok Tryz.func135 rfl rfl ?_
 refine aG ?_
 refine ev_stop (go_rounds 9 ?_)
 refine aG (aJ ?_)
 refine ev_stop (go_index0 (sz:=1) Tryz.tbs_ok (.inr 2) (0) rfl rfl rfl rfl rfl rfl (by omega) rfl Row.at0 (fun g4 e5=>?_))
 subst e5
 refine aG ?_
 refine ev_stop (go_loadL Tryz.tbs_ok (.inr 2) 0 0 (x) rfl rfl rfl rfl rfl (fun _ h=>Row.rd h) (by omega) (fun _=>rfl) (by decide) (by decide) ?_)
 refine aG ?_
 refine ev_inline Tryz.tbs_ok Tryz.func163 rfl rfl ?_
 refine aG ?_
 refine ev_fin ⟨trivial,aL,_,rfl,?_⟩
 refine aG ?_
 refine aI ?_ (decide_eq_false (by with_reducible assumption))
 refine wN (0+1) ?_
 refine ev_fin (go Tryz.tbs_ok 1000 ?_)
 refine aJ ?_
 refine ev_stop (go_atE (sz:=1) Tryz.tbs_ok (0+1) rfl rfl rfl rfl rfl rfl (by omega) ?_)
 refine aG ?_
 refine ev_stop (go_loadL Tryz.tbs_ok (.inr 2) 1 0 (y) rfl rfl rfl rfl rfl (fun _ h=>Row.rd h) (by omega) (fun _=>rfl) (by decide) (by decide) ?_)
 refine aG ?_
 refine ev_inline Tryz.tbs_ok Tryz.func163 rfl rfl ?_
 refine aG ?_
 refine ev_fin ⟨trivial,aL,_,rfl,?_⟩
 refine aG ?_
 refine aI ?_ (decide_eq_false (by with_reducible assumption))
 refine wN (0+1+1) ?_
 refine ev_fin (go Tryz.tbs_ok 1000 ?_)
 refine aJ ?_
 refine ev_stop (go_atE (sz:=1) Tryz.tbs_ok (0+1+1) rfl rfl rfl rfl rfl rfl (by omega) ?_)
 refine aG ?_
 refine ev_stop (go_loadL Tryz.tbs_ok (.inr 2) 2 0 (z) rfl rfl rfl rfl rfl (fun _ h=>Row.rd h) (by omega) (fun _=>rfl) (by decide) (by decide) ?_)
 refine aG ?_
 refine ev_inline Tryz.tbs_ok Tryz.func163 rfl rfl ?_
 refine aG ?_
 refine ev_fin ⟨trivial,aL,_,rfl,?_⟩
 refine aG ?_
 refine aJ ?_ (decide_eq_true (by with_reducible assumption))
 refine ev_fin ⟨trivial,aL,_,rfl,?_⟩
 refine aG (aI ?_)
 refine wN (0+1+1+1) ?_
 refine ev_stop (go_rounds 9 ?_)
 refine aG (aI ?_)
 refine ev_fin (go Tryz.tbs_ok 1000 ?_)
 refine ev_stop (go_back Tryz.tbs_ok (0+1+1) (3) (x2) rfl rfl rfl rfl rfl ⟨_,rfl⟩ rfl rfl (by decide) (by omega) (by omega) (by omega) ?_)
 refine aG ?_
 refine ev_stop (go_clear (sz:=1) (enc:=encN) Tryz.tbs_ok 2 (0+1+1) ([x,y,z]) (([x,y,z]).take (0+1+1)++List.replicate (3-(0+1+1)) (0)++([x,y,z]).drop ((0+1+1)+(3-(0+1+1)))) (0) rfl rfl rfl rfl rfl (by decide) rfl rfl rfl (backA_at (by omega)) (fun _=>rfl) (by omega) (by omega) rfl ?_)
 refine aG ?_
 refine ev_stop (go_front Tryz.tbs_ok (0+1+1) (x2) rfl rfl rfl rfl rfl rfl ⟨_,rfl⟩ rfl (by decide) (by omega) (by omega) ?_)
 refine aG ?_
 refine ev_fin ⟨trivial,aL,_,rfl,?_⟩
 refine aG ?_
 exact ev_fin ⟨trivial,_,rfl,((some { block:=g4,off:=0:Addr },x2)),rfl,by trivial,aF [0,2]⟩
 all_goals skip
theorem toldYYN (o:Nat) (a0 a1 a2 s0 s1 s2 x y z:Int) (hx:¬ x<0) (hy:¬ y<0) (hz:z<0):Triple Tryz.prog 114 [pP o,.agg #[.int .i64 x,.int .i64 y,.int .i64 z,.int .i64 (-1),.int .i64 (-1),.int .i64 (-1),.int .i64 (-1)]] [Pt o 105 (SV.denL (ownV a0 a1 a2 s0 s1 s2))] [] Sl (fun (C,c)=>.slice C 2 c) (fun _=>True) (fun (C,c)=>[Pt o 105 (SV.denL (ownV a0 a1 a2 s0 s1 s2)),Row 3 1 C 2 c (([x,y]:List Int).flatMap encN)]) :=
 (toldYYN0 o a0 a1 a2 s0 s1 s2 x y z hx hy hz).imp fun (C,c) g=>⟨(C,c),rfl,g,fun h q=>starH_tail (fun h q=>starH_one.2 (row_shrink (e:=3) (sz:=1) (n:=3) (k:=2) (c:=c) (A:=C) (enc:=encN) (L:=[x,y,0]) (fun _=>rfl) (starH_one.1 q) (by decide))) q⟩
theorem most1 (C:Option Addr) (c:Nat) (y:Int):Triple Tryz.prog 113 [.slice C 1 c,.int .i64 3] [] [Row 3 1 C 1 c (([y]:List Int).flatMap encN)] Unit (fun _=>.tuple #[.int .i64 0,.bool false]) (fun _=>True) (fun _=>[]):=by
 refine aT Tryz.func113 [vL C 1 c,vI 3] [] (fun E=>?_) ⟨trivial,trivial,trivial⟩
 refine aG ?_
 refine aC major3 [] [] fun _ h0=>?_
 refine aI (aI (aJ ?_))
 refine ev_fin ⟨trivial,_,rfl,(()),rfl,(by trivial),Frm.nil _⟩
 all_goals skip
theorem len2:Triple Tryz.prog 226 [.int .u64 2] [] [] Unit (fun _=>.int .i64 2) (fun _=>True) (fun _=>[]):=by
 refine aT Tryz.func226 [.va (.int .u64 2)] [] (fun E=>?_) ⟨trivial,trivial⟩
 refine aG ?_
 refine ev_inline Tryz.tbs_ok Tryz.func269 rfl rfl ?_
 refine aG (aI (aI (aI ?_)))
 refine ev_wu8 (show 0≤2∧2<256 from (by constructor<;>omega)) ?_
 refine ev_stop (go_byte Tryz.tbs_ok 2 rfl rfl rfl rfl rfl rfl (by decide) ?_)
 refine aG ?_
 refine ev_wrap (z:=2) (by kernel_rfl) ?_
 refine wN (0+2) ?_
 refine ev_fin ⟨trivial,aL,_,rfl,?_⟩
 refine aG ?_
 refine ev_fin ⟨trivial,_,rfl,(()),rfl,(by trivial),Frm.nil _⟩
 all_goals skip
theorem most2 (C:Option Addr) (c:Nat) (y:Int):Triple Tryz.prog 113 [.slice C 2 c,.int .i64 3] [] [Row 3 1 C 2 c (([y,y]:List Int).flatMap encN)] Unit (fun _=>.tuple #[.int .i64 y,.bool true]) (fun _=>True) (fun _=>[]):=by
 have T1:=((cloneI C [y,y] 2 c rfl (by decide)).ofRow 3 c)
 refine aT Tryz.func113 [vL C 2 c,vI 3] [] (fun E=>?_) ⟨trivial,trivial,trivial⟩
 refine aG ?_
 refine aC major3 [] [] fun _ h0=>?_
 refine aI (aI (aI ?_))
 refine aC T1 [] [.inl 0] fun ⟨x1,x2⟩ h3=>?_
 refine ev_inline Tryz.tbs_ok Tryz.func162 rfl rfl ?_
 refine aG ?_
 refine ev_wu64 (show 0≤(↑2:Int)∧(↑2:Int)<18446744073709551616 from (by constructor<;>omega)) ?_
 refine aC len2 [] [] fun _ h4=>?_
 refine ev_inline Tryz.tbs_ok Tryz.func225 rfl rfl ?_
 refine aG ?_
 refine ev_stop (go_rounds 9 ?_)
 refine aG ?_
 refine wN (2-0) ?_
 refine aJ ?_
 refine ev_inline Tryz.tbs_ok Tryz.func260 rfl rfl ?_
 refine aG ?_
 refine wN (0+1) ?_
 refine ev_stop (go_rounds 9 ?_)
 refine aG (aJ ?_)
 refine ev_stop (go_rounds 9 ?_)
 refine aG ?_
 refine ev_stop (go_draw Tryz.tbs_ok true [0] [(0,true),(1,true),(2,true),(3,true),(4,true),(5,true),(6,true),(7,true),(8,true),(9,true),(10,true),(11,true),(12,true),(13,false),(14,false)] rfl ?_)
 refine aG (aE (aJ (aE ?_)))
 refine ev_stop (tk_index0 (sz:=1) Tryz.tbs_ok (.inr 0) (0+1) aB rfl rfl rfl rfl rfl rfl rfl (by omega) rfl Row.at0 (fun g5 e6=>?_))
 subst e6
 refine aG (aE ?_)
 refine ev_stop (tk_loadL Tryz.tbs_ok (.inr 0) 1 0 (y) rfl aB rfl rfl rfl rfl rfl (fun _ h=>Row.rd h) (by omega) (fun _=>rfl) (by decide) (by decide) ?_)
 refine aG (aE ?_)
 refine wN (0+1-1) ?_
 refine ev_stop (tk_atE (sz:=1) Tryz.tbs_ok (0+1-1) aB rfl rfl rfl rfl rfl rfl rfl (by omega) ?_)
 refine aG (aE ?_)
 refine ev_stop (tk_loadL Tryz.tbs_ok (.inr 0) 0 0 (y) rfl aB rfl rfl rfl rfl rfl (fun _ h=>Row.rd h) (by omega) (fun _=>rfl) (by decide) (by decide) ?_)
 refine aG (aE ?_)
 refine ev_inline Tryz.tbs_ok Tryz.func167 rfl rfl ?_
 refine aG ?_
 refine ev_inline Tryz.tbs_ok Tryz.func228 rfl rfl ?_
 refine aG ?_
 refine ev_fin ⟨trivial,aL,_,rfl,?_⟩
 refine aG ?_
 refine aI ?_ (ne_no (show y=y from (by omega)))
 refine ev_fin ⟨trivial,aL,_,rfl,?_⟩
 refine aG (aE (aE ?_))
 refine aI ?_ (decide_eq_false (show ¬y<y from (by omega)))
 refine ev_fin (go Tryz.tbs_ok 1000 ?_)
 refine wN (0+1+1) ?_
 refine ev_fin (go Tryz.tbs_ok 1000 ?_)
 refine aI ?_
 refine ev_fin (go Tryz.tbs_ok 1000 ?_)
 refine ev_fin ⟨trivial,aL,_,rfl,?_⟩
 refine aG ?_
 refine ev_fin ⟨trivial,aL,_,rfl,?_⟩
 refine aG ?_
 refine ev_fin ⟨trivial,aL,_,rfl,?_⟩
 refine aG ?_
 refine wN (2-2) ?_
 refine ev_stop (go_atE (sz:=1) Tryz.tbs_ok (2-2) rfl rfl rfl rfl rfl rfl (by omega) ?_)
 refine aG ?_
 refine ev_stop (go_loadL Tryz.tbs_ok (.inr 0) 0 0 (y) rfl rfl rfl rfl rfl (fun _ h=>Row.rd h) (by omega) (fun _=>rfl) (by decide) (by decide) ?_)
 refine aG ?_
 refine ev_fin ⟨trivial,_,rfl,(()),rfl,(by trivial),Frm.nil _⟩
 all_goals skip
theorem commitN (o:Nat) (a1 s0 s1 s2:Int) (hy:¬ a1<0):Triple Tryz.prog 64 [pP o] [Pt o 105 (SV.denL (ownV (-1) a1 (-1) s0 s1 s2))] [] Unit (fun _=>.int .i64 0) (fun _=>True) (fun _=>[Pt o 105 (SV.denL (ownV (-1) a1 (-1) s0 s1 s2))]):=by
 have T1:=toldNYN o (-1) a1 (-1) s0 s1 s2 (-1) a1 (-1) (by decide) hy (by decide)
 have T2:=fun C c=>most1 C c a1
 refine triple_intro Tryz.tbs_ok Tryz.func64 rfl [.pt 0 o 0] [.box o 105 (ownV (-1) a1 (-1) s0 s1 s2)] ⟨rfl,trivial⟩ rfl (by simp [ownV,SV.good,SV.goodL]) ?_
 intro E
 refine aG ?_
 refine ev_inline Tryz.tbs_ok Tryz.func63 rfl rfl ?_
 refine aG ?_
 refine ev_fin ⟨trivial,aL,_,rfl,?_⟩
 refine aG (aI ?_)
 refine ev_stop (go_draw Tryz.tbs_ok false [0] [(0,true),(1,true),(2,true),(3,true),(4,true),(6,true),(7,true),(8,true),(9,true),(5,false),(10,false),(11,false),(12,true),(13,true),(14,false),(15,false)] rfl ?_)
 refine aG (aE ?_)
 refine aD T1 [0] [] (fun (v0_,v1_)=>[.box (o) 105 [vI 0,vI 2,vI 1,vI 3,vI (-1),vI a1,vI (-1),vI (-1),vI (-1),vI (-1),vI (-1),vI s0,vI s1,vI s2,vI (-1),vI (-1),vI (-1),vI (-1),.bl false,vI 0],.fact (Row 3 1 v0_ 1 v1_ (List.flatMap encN [a1]))]) fun ⟨x0,x1⟩ h2=>?_
 refine aE ?_
 refine aC (T2 (x0) (x1)) [] [.inr 1] fun _ h3=>?_
 refine aE (aE (aE (aK (aJ ?_))))
 exact ev_fin ⟨trivial,_,rfl,(),rfl,by trivial,aF [0]⟩
 all_goals skip
theorem commitY (o:Nat) (a1 s0 s1 s2:Int) (hy:¬ a1<0):Triple Tryz.prog 64 [pP o] [Pt o 105 (SV.denL (ownV (-1) a1 a1 s0 s1 s2))] [] Unit (fun _=>.int .i64 a1) (fun _=>True) (fun _=>[Pt o 105 (SV.denL (ownV (-1) a1 a1 s0 s1 s2))]):=by
 have T1:=toldNYY o (-1) a1 a1 s0 s1 s2 (-1) a1 a1 (by decide) hy hy
 have T2:=fun C c=>most2 C c a1
 refine triple_intro Tryz.tbs_ok Tryz.func64 rfl [.pt 0 o 0] [.box o 105 (ownV (-1) a1 a1 s0 s1 s2)] ⟨rfl,trivial⟩ rfl (by simp [ownV,SV.good,SV.goodL]) ?_
 intro E
 refine aG ?_
 refine ev_inline Tryz.tbs_ok Tryz.func63 rfl rfl ?_
 refine aG ?_
 refine ev_fin ⟨trivial,aL,_,rfl,?_⟩
 refine aG (aI ?_)
 refine ev_stop (go_draw Tryz.tbs_ok false [0] [(0,true),(1,true),(2,true),(3,true),(4,true),(6,true),(7,true),(8,true),(9,true),(5,false),(10,false),(11,false),(12,true),(13,true),(14,false),(15,false)] rfl ?_)
 refine aG (aE ?_)
 refine aD T1 [0] [] (fun (v0_,v1_)=>[.box (o) 105 [vI 0,vI 2,vI 1,vI 3,vI (-1),vI a1,vI a1,vI (-1),vI (-1),vI (-1),vI (-1),vI s0,vI s1,vI s2,vI (-1),vI (-1),vI (-1),vI (-1),.bl false,vI 0],.fact (Row 3 1 v0_ 2 v1_ (List.flatMap encN [a1,a1]))]) fun ⟨x0,x1⟩ h2=>?_
 refine aE ?_
 refine aC (T2 (x0) (x1)) [] [.inr 1] fun _ h3=>?_
 refine aE (aE (aE (aK (aI ?_))))
 exact ev_fin ⟨trivial,_,rfl,(),rfl,by trivial,aF [0]⟩
 all_goals skip
theorem untilO (o:Nat) (a0 a1 a2:Int):Triple Tryz.prog 71 [pP o,.int .i64 0] [Pt o 105 (SV.denL (ownV a0 a1 a2 0 0 (-1)))] [] Unit (fun _=>.int .i64 10) (fun _=>True) (fun _=>[Pt o 105 (SV.denL (ownV a0 a1 a2 0 0 (-1)))]):=by
 have T1:=toldYYN o a0 a1 a2 0 0 (-1) 0 0 (-1) (by decide) (by decide) (by decide)
 have T2:=fun C c=>most2 C c 0
 refine triple_intro Tryz.tbs_ok Tryz.func71 rfl [.pt 0 o 0,vI 0] [.box o 105 (ownV a0 a1 a2 0 0 (-1))] ⟨rfl,trivial,trivial⟩ rfl (by simp [ownV,SV.good,SV.goodL]) ?_
 intro E
 refine aG ?_
 refine ev_inline Tryz.tbs_ok Tryz.func63 rfl rfl ?_
 refine aG ?_
 refine ev_fin ⟨trivial,aL,_,rfl,?_⟩
 refine aG (aI ?_)
 refine ev_new fun b0=>?_
 refine ev_stop (go_indexArr Tryz.tbs_ok (1) rfl rfl rfl rfl rfl rfl (by first | decide | omega) rfl rfl ?_)
 refine aG ?_
 refine ev_stop (go_draw Tryz.tbs_ok false [0,1] [(0,true),(1,true),(3,true),(4,true),(5,true),(6,true),(2,false),(7,false),(8,false),(9,true),(10,true),(11,false),(12,false)] rfl ?_)
 refine aG (aE ?_)
 refine aD T1 [0] [] (fun (v0_,v1_)=>[.box (o) 105 [vI 0,vI 2,vI 1,vI 3,vI a0,vI a1,vI a2,vI (-1),vI (-1),vI (-1),vI (-1),vI 0,vI 0,vI (-1),vI (-1),vI (-1),vI (-1),vI (-1),.bl false,vI 0],.fact (Row 3 1 v0_ 2 v1_ (List.flatMap encN [0,0]))]) fun ⟨x1,x2⟩ h3=>?_
 refine aE ?_
 refine aC (T2 (x1) (x2)) [] [.inr 2] fun _ h4=>?_
 refine aE (aE (aE (aK (aI (aI ?_)))))
 refine wN (0+10) ?_
 exact ev_fin ⟨trivial,_,rfl,(),rfl,by trivial,aF [0]⟩
 all_goals skip
theorem openO (o:Nat) (a0 a1 a2:Int):Triple Tryz.prog 33 [pP o,.int .i64 0] [Pt o 105 (SV.denL (ownV a0 a1 a2 0 0 (-1)))] [] Unit (fun _=>.bool true) (fun _=>True) (fun _=>[Pt o 105 (SV.denL (ownV a0 a1 a2 0 0 (-1)))]):=by
 have T1:=untilO o a0 a1 a2
 refine triple_intro Tryz.tbs_ok Tryz.func33 rfl [.pt 0 o 0,vI 0] [.box o 105 (ownV a0 a1 a2 0 0 (-1))] ⟨rfl,trivial,trivial⟩ rfl (by simp [ownV,SV.good,SV.goodL]) ?_
 intro E
 refine aG ?_
 refine ev_inline Tryz.tbs_ok Tryz.func63 rfl rfl ?_
 refine aG ?_
 refine ev_fin ⟨trivial,aL,_,rfl,?_⟩
 refine aG (aJ ?_)
 refine aD T1 [0] [] (fun v0_=>[.box (o) 105 [vI 0,vI 2,vI 1,vI 3,vI a0,vI a1,vI a2,vI (-1),vI (-1),vI (-1),vI (-1),vI 0,vI 0,vI (-1),vI (-1),vI (-1),vI (-1),vI (-1),.bl false,vI 0]]) fun _ h0=>?_
 exact ev_fin ⟨trivial,_,rfl,(),rfl,by trivial,aF [0]⟩
 all_goals skip
theorem ackO (o:Nat):Triple Tryz.prog 46 [pP o,.agg (encM ⟨5,2,1,0,2,0,0,1,0,none,0,0,0,0,0,0,0,0,0,0⟩).toArray] [Pt o 105 (SV.denL (ownV (-1) 1 (-1) 0 0 (-1)))] [] Unit (fun _=>.bool true) (fun _=>True) (fun _=>[Pt o 105 (SV.denL (ownV (-1) 1 1 0 0 0))]):=by
 refine triple_intro Tryz.tbs_ok Tryz.func46 rfl [.pt 0 o 0,.ag [vI 5,vI 2,vI 1,vI 0,vI 2,vI 0,vI 0,vI 1,vI 0,vL none 0 0,vI 0,vI 0,vI 0,vI 0,vI 0,vI 0,vI 0,vI 0]] [.box o 105 (ownV (-1) 1 (-1) 0 0 (-1))] ⟨rfl,by simp [SV.good,SV.goodL],trivial⟩ rfl (by simp [ownV,SV.good,SV.goodL]) ?_
 intro E
 refine aG ?_
 refine ev_new fun b0=>?_
 refine ev_inline Tryz.tbs_ok Tryz.func89 rfl rfl ?_
 refine aG ?_
 refine ev_new fun b1=>?_
 refine ev_stop (go_draw Tryz.tbs_ok false [0,2] [(0,true),(1,false),(2,false),(3,false),(4,true),(5,true),(6,false),(7,false),(8,false),(9,false),(10,true),(11,true),(12,false),(13,false),(14,false),(15,false),(16,false),(17,false),(18,false),(19,true),(20,true),(21,false),(22,false),(23,false),(24,false),(25,false),(26,false),(27,false),(28,true),(29,true),(30,false),(31,false),(32,false),(33,false),(34,false),(35,false),(36,false),(37,false),(38,false),(39,false),(40,false),(41,false),(42,true),(43,true),(44,false),(45,false),(46,false),(47,false),(48,false),(49,false),(50,false),(51,true),(52,true),(53,false),(54,false),(55,false),(56,false),(57,false),(58,false),(59,false)] rfl ?_)
 refine aG (aE ?_)
 refine ev_inline Tryz.tbs_ok Tryz.func63 rfl rfl ?_
 refine aG ?_
 refine ev_fin ⟨trivial,aL,_,rfl,?_⟩
 refine aG (aE (aE (aE (aJ (aE (aE (aE (aE (aE (aJ (aE (aE ?_))))))))))))
 refine aE (aE (aE (aE (aE (aE (aJ (aE (aE (aE (aE (aE (aE ?_))))))))))))
 refine aE (aE (aJ (aE (aE (aE (aE (aE (aE (aE (aE (aJ (aE ?_))))))))))))
 refine aE (aE (aE (aE (aJ (aE (aE (aE (aE (aE (aE (aE (aE ?_))))))))))))
 refine aJ (aE (aE (aE (aE (aE (aE (aE (aK ?_))))))))
 refine ev_fin ⟨trivial,aL,_,rfl,?_⟩
 refine aG (aI (aI ?_))
 refine ev_stop (go_draw Tryz.tbs_ok false [0,1] [(0,true),(1,true),(2,true),(3,true),(4,true),(5,true),(6,true),(7,true),(8,true),(9,true),(10,true),(11,true),(12,true),(13,true),(14,true),(15,true),(16,false)] rfl ?_)
 refine aG (aE ?_)
 refine ev_stop (tk_indexArr Tryz.tbs_ok (2) aB rfl rfl rfl rfl rfl rfl rfl (by first | decide | omega) rfl rfl ?_)
 refine aG (aE ?_)
 refine ev_stop (tk_indexArr Tryz.tbs_ok (2) aB rfl rfl rfl rfl rfl rfl rfl (by first | decide | omega) rfl rfl ?_)
 refine aG (aE (aK ?_))
 refine ev_stop (go_draw Tryz.tbs_ok false [0,1] [(0,true),(1,true),(2,true),(3,true),(4,true),(5,true),(6,true),(7,true),(8,true),(9,true),(10,true),(11,true),(12,true),(13,true),(14,true),(15,true),(16,false)] rfl ?_)
 refine aG (aE ?_)
 refine ev_stop (tk_indexArr Tryz.tbs_ok (2) aB rfl rfl rfl rfl rfl rfl rfl (by first | decide | omega) rfl rfl ?_)
 refine aG (aE ?_)
 refine ev_stop (tk_indexArr Tryz.tbs_ok (2) aB rfl rfl rfl rfl rfl rfl rfl (by first | decide | omega) rfl rfl ?_)
 refine aG (aE (aK ?_))
 exact ev_fin ⟨trivial,_,rfl,(),rfl,by trivial,aF [0]⟩
 all_goals skip
theorem ok_ans:EqOk Tryz.prog 26:=⟨by kernel_rfl,by kernel_rfl⟩
theorem eq_ans (a b c d e f:Int) (n:Nat) (w:World):(Op.equalIn (n+2) 26 (.agg #[.int .i64 a,.int .i64 b,.int .i64 c]) (.agg #[.int .i64 d,.int .i64 e,.int .i64 f])).run Tryz.prog w = .ok (a==d&&(b==e&&(c==f&&true))) w:=by
 refine eq_struct ok_ans rfl ?_
 iterate 3 refine eqF_int (by decide) Tryz.underlying3 rfl rfl ?_
 exact eqF_nil
set_option maxHeartbeats 8000000 in
theorem promT:Triple Tryz.prog 40 [.agg (encM ⟨2,0,1,0,2,0,0,0,0,none,0,0,0,0,0,0,0,0,0,0⟩).toArray,.int .i64 3] [] [Rd 1 (some ⟨0,0,none⟩) 11 (([0,35,119,3,123,51,19,128,257,3,3]:List Int).flatMap encN)] Unit (fun _=>.int .i64 0) (fun _=>True) (fun _=>[]):=by
 refine aT Tryz.func40 [.ag [vI 2,vI 0,vI 1,vI 0,vI 2,vI 0,vI 0,vI 0,vI 0,vL none 0 0,vI 0,vI 0,vI 0,vI 0,vI 0,vI 0,vI 0,vI 0],vI 3] [] (fun E=>?_) ⟨by simp [SV.good,SV.goodL],trivial,trivial⟩
 refine aG ?_
 refine ev_new fun b0=>?_
 refine ev_inline Tryz.tbs_ok Tryz.func79 rfl rfl ?_
 refine aG ?_
 refine ev_new fun b1=>?_
 refine aC major3 [] [] fun _ h2=>?_
 refine aI (aI (aI (aI (aI (aI (aI ?_))))))
 refine ev_stop (go_indexArrV Tryz.tbs_ok (2) rfl rfl rfl rfl rfl rfl (by decide) rfl ?_)
 refine aG ?_
 refine ev_stop (go_loadL Tryz.tbs_ok (.inl 0) 2 0 (Int.ofNat 119) rfl rfl rfl rfl rfl (fun _ h=>h) (by first | omega | rfl) (fun _=>rfl) (by decide) (by decide) ?_)
 refine aG (aI ?_)
 refine ev_stop (go_indexArrV Tryz.tbs_ok (2) rfl rfl rfl rfl rfl rfl (by decide) rfl ?_)
 refine aG ?_
 refine ev_stop (go_loadL Tryz.tbs_ok (.inl 0) 2 0 (Int.ofNat 119) rfl rfl rfl rfl rfl (fun _ h=>h) (by first | omega | rfl) (fun _=>rfl) (by decide) (by decide) ?_)
 refine aG (aI ?_)
 refine ev_stop (go_bin (.va _) trivial rfl rfl rfl rfl rfl (by decide) (by decide) (fun w=>bits_run (by decide) w) ?_)
 refine aG ?_
 refine ev_inline Tryz.tbs_ok Tryz.func125 rfl rfl ?_
 refine aG (aI (aJ ?_))
 refine ev_fin ⟨trivial,aL,_,rfl,?_⟩
 refine aG (aI ?_)
 refine ev_stop (go_bin (.va _) trivial rfl rfl rfl rfl rfl (by decide) (by decide) (fun w=>bits_run (by decide) w) ?_)
 refine aG ?_
 refine ev_inline Tryz.tbs_ok Tryz.func125 rfl rfl ?_
 refine aG (aI (aJ ?_))
 refine ev_fin ⟨trivial,aL,_,rfl,?_⟩
 refine aG (aI ?_)
 refine ev_stop (go_bin (.va _) trivial rfl rfl rfl rfl rfl (by decide) (by decide) (fun w=>bits_run (by decide) w) ?_)
 refine aG ?_
 refine ev_inline Tryz.tbs_ok Tryz.func125 rfl rfl ?_
 refine aG (aI (aJ ?_))
 refine ev_fin ⟨trivial,aL,_,rfl,?_⟩
 refine aG (aI ?_)
 refine ev_stop (go_bin (.va _) trivial rfl rfl rfl rfl rfl (by decide) (by decide) (fun w=>bits_run (by decide) w) ?_)
 refine aG ?_
 refine ev_inline Tryz.tbs_ok Tryz.func125 rfl rfl ?_
 refine aG (aJ (aJ ?_))
 refine ev_fin ⟨trivial,aL,_,rfl,?_⟩
 refine aG (aI ?_)
 refine ev_stop (go_bin (.va _) trivial rfl rfl rfl rfl rfl (by decide) (by decide) (fun w=>bits_run (by decide) w) ?_)
 refine aG ?_
 refine ev_inline Tryz.tbs_ok Tryz.func125 rfl rfl ?_
 refine aG (aI (aJ ?_))
 refine ev_fin ⟨trivial,aL,_,rfl,?_⟩
 refine aG (aI ?_)
 refine ev_stop (go_bin (.va _) trivial rfl rfl rfl rfl rfl (by decide) (by decide) (fun w=>bits_run (by decide) w) ?_)
 refine aG ?_
 refine ev_inline Tryz.tbs_ok Tryz.func125 rfl rfl ?_
 refine aG (aI (aJ ?_))
 refine ev_fin ⟨trivial,aL,_,rfl,?_⟩
 refine aG (aI ?_)
 refine ev_stop (go_bin (.va _) trivial rfl rfl rfl rfl rfl (by decide) (by decide) (fun w=>bits_run (by decide) w) ?_)
 refine aG (aI ?_)
 refine ev_stop (go_bin (.va _) trivial rfl rfl rfl rfl rfl (by decide) (by decide) (fun w=>bits_run (by decide) w) ?_)
 refine aG (aJ ?_)
 refine ev_inline Tryz.tbs_ok Tryz.func126 rfl rfl ?_
 refine aG ?_
 refine ev_new fun b3=>?_
 refine ev_inline Tryz.tbs_ok Tryz.func171 rfl rfl ?_
 refine aG (aJ ?_)
 refine ev_fin ⟨trivial,aL,_,rfl,?_⟩
 refine aG (aJ ?_)
 refine wN (64-0) ?_
 refine aJ ?_
 refine ev_inline Tryz.tbs_ok Tryz.func172 rfl rfl ?_
 refine aG ?_
 refine ev_inline Tryz.tbs_ok Tryz.func120 rfl rfl ?_
 refine aG ?_
 refine ev_stop (go_rounds 9 ?_)
 refine aG (aI ?_)
 refine ev_fin (go Tryz.tbs_ok 1000 ?_)
 refine ev_fin ⟨trivial,aL,_,rfl,?_⟩
 refine aG ?_
 refine ev_fin ⟨trivial,aL,_,rfl,?_⟩
 refine aG ?_
 refine ev_fin ⟨trivial,aL,_,rfl,?_⟩
 refine aG (aI (aJ (aI ?_)))
 refine ev_stop (go_bin (.va _) trivial rfl rfl rfl rfl rfl (by decide) (by decide) (fun w=>bits_run (by decide) w) ?_)
 refine aG (aI ?_)
 refine ev_stop (go_bin (.va _) trivial rfl rfl rfl rfl rfl (by decide) (by decide) (fun w=>bits_run (by decide) w) ?_)
 refine aG (aI ?_)
 refine ev_stop (go_val rfl (.bl true) trivial (fun a w hR=>eql_run (ev_denv hR.fr rfl rfl) (ev_denv hR.fr rfl rfl) (by kernel_rfl) (eq_ord (0) (0) (0) (0) (0) (0) (0) (0) (0) (0) 9998 w)) ?_)
 refine aG ?_
 refine ev_stop (go_val rfl (.bl true) trivial (fun a w hR=>eql_run (ev_denv hR.fr rfl rfl) (ev_denv hR.fr rfl rfl) (by kernel_rfl) (eq_ans (0) (0) (0) (0) (0) (0) 9998 w)) ?_)
 refine aG ?_
 refine ev_fin ⟨trivial,aL,_,rfl,?_⟩
 refine aG ?_
 refine ev_fin ⟨trivial,_,rfl,(()),rfl,(by trivial),Frm.nil _⟩
 all_goals skip
set_option maxHeartbeats 8000000 in
theorem ackT:Triple Tryz.prog 40 [.agg (encM ⟨5,2,1,0,2,0,0,1,0,none,0,0,0,0,0,0,0,0,0,0⟩).toArray,.int .i64 3] [] [Rd 1 (some ⟨0,0,none⟩) 11 (([0,35,119,3,123,51,19,128,257,3,3]:List Int).flatMap encN)] Unit (fun _=>.int .i64 0) (fun _=>True) (fun _=>[]):=by
 refine aT Tryz.func40 [.ag [vI 5,vI 2,vI 1,vI 0,vI 2,vI 0,vI 0,vI 1,vI 0,vL none 0 0,vI 0,vI 0,vI 0,vI 0,vI 0,vI 0,vI 0,vI 0],vI 3] [] (fun E=>?_) ⟨by simp [SV.good,SV.goodL],trivial,trivial⟩
 refine aG ?_
 refine ev_new fun b0=>?_
 refine ev_inline Tryz.tbs_ok Tryz.func79 rfl rfl ?_
 refine aG ?_
 refine ev_new fun b1=>?_
 refine aC major3 [] [] fun _ h2=>?_
 refine aI (aI (aI (aI (aI (aI (aI ?_))))))
 refine ev_stop (go_indexArrV Tryz.tbs_ok (5) rfl rfl rfl rfl rfl rfl (by decide) rfl ?_)
 refine aG ?_
 refine ev_stop (go_loadL Tryz.tbs_ok (.inl 0) 5 0 (Int.ofNat 51) rfl rfl rfl rfl rfl (fun _ h=>h) (by first | omega | rfl) (fun _=>rfl) (by decide) (by decide) ?_)
 refine aG (aI ?_)
 refine ev_stop (go_indexArrV Tryz.tbs_ok (5) rfl rfl rfl rfl rfl rfl (by decide) rfl ?_)
 refine aG ?_
 refine ev_stop (go_loadL Tryz.tbs_ok (.inl 0) 5 0 (Int.ofNat 51) rfl rfl rfl rfl rfl (fun _ h=>h) (by first | omega | rfl) (fun _=>rfl) (by decide) (by decide) ?_)
 refine aG (aI ?_)
 refine ev_stop (go_bin (.va _) trivial rfl rfl rfl rfl rfl (by decide) (by decide) (fun w=>bits_run (by decide) w) ?_)
 refine aG ?_
 refine ev_inline Tryz.tbs_ok Tryz.func125 rfl rfl ?_
 refine aG (aI (aJ ?_))
 refine ev_fin ⟨trivial,aL,_,rfl,?_⟩
 refine aG (aI ?_)
 refine ev_stop (go_bin (.va _) trivial rfl rfl rfl rfl rfl (by decide) (by decide) (fun w=>bits_run (by decide) w) ?_)
 refine aG ?_
 refine ev_inline Tryz.tbs_ok Tryz.func125 rfl rfl ?_
 refine aG (aI (aJ ?_))
 refine ev_fin ⟨trivial,aL,_,rfl,?_⟩
 refine aG (aI ?_)
 refine ev_stop (go_bin (.va _) trivial rfl rfl rfl rfl rfl (by decide) (by decide) (fun w=>bits_run (by decide) w) ?_)
 refine aG ?_
 refine ev_inline Tryz.tbs_ok Tryz.func125 rfl rfl ?_
 refine aG (aJ (aJ ?_))
 refine ev_fin ⟨trivial,aL,_,rfl,?_⟩
 refine aG (aI ?_)
 refine ev_stop (go_bin (.va _) trivial rfl rfl rfl rfl rfl (by decide) (by decide) (fun w=>bits_run (by decide) w) ?_)
 refine aG ?_
 refine ev_inline Tryz.tbs_ok Tryz.func125 rfl rfl ?_
 refine aG (aJ (aJ ?_))
 refine ev_fin ⟨trivial,aL,_,rfl,?_⟩
 refine aG (aI ?_)
 refine ev_stop (go_bin (.va _) trivial rfl rfl rfl rfl rfl (by decide) (by decide) (fun w=>bits_run (by decide) w) ?_)
 refine aG ?_
 refine ev_inline Tryz.tbs_ok Tryz.func125 rfl rfl ?_
 refine aG (aI (aJ ?_))
 refine ev_fin ⟨trivial,aL,_,rfl,?_⟩
 refine aG (aI ?_)
 refine ev_stop (go_bin (.va _) trivial rfl rfl rfl rfl rfl (by decide) (by decide) (fun w=>bits_run (by decide) w) ?_)
 refine aG ?_
 refine ev_inline Tryz.tbs_ok Tryz.func125 rfl rfl ?_
 refine aG (aI (aJ ?_))
 refine ev_fin ⟨trivial,aL,_,rfl,?_⟩
 refine aG (aI ?_)
 refine ev_stop (go_bin (.va _) trivial rfl rfl rfl rfl rfl (by decide) (by decide) (fun w=>bits_run (by decide) w) ?_)
 refine aG (aJ (aI ?_))
 refine ev_stop (go_bin (.va _) trivial rfl rfl rfl rfl rfl (by decide) (by decide) (fun w=>bits_run (by decide) w) ?_)
 refine aG (aI (aI ?_))
 refine ev_stop (go_bin (.va _) trivial rfl rfl rfl rfl rfl (by decide) (by decide) (fun w=>bits_run (by decide) w) ?_)
 refine aG (aI ?_)
 refine ev_stop (go_bin (.va _) trivial rfl rfl rfl rfl rfl (by decide) (by decide) (fun w=>bits_run (by decide) w) ?_)
 refine aG (aI ?_)
 refine ev_stop (go_val rfl (.bl true) trivial (fun a w hR=>eql_run (ev_denv hR.fr rfl rfl) (ev_denv hR.fr rfl rfl) (by kernel_rfl) (eq_ord (0) (0) (0) (0) (0) (0) (0) (0) (0) (0) 9998 w)) ?_)
 refine aG ?_
 refine ev_stop (go_val rfl (.bl true) trivial (fun a w hR=>eql_run (ev_denv hR.fr rfl rfl) (ev_denv hR.fr rfl rfl) (by kernel_rfl) (eq_ans (0) (0) (0) (0) (0) (0) 9998 w)) ?_)
 refine aG ?_
 refine ev_fin ⟨trivial,aL,_,rfl,?_⟩
 refine aG ?_
 refine ev_fin ⟨trivial,_,rfl,(()),rfl,(by trivial),Frm.nil _⟩
 all_goals skip
set_option maxHeartbeats 8000000 in
theorem ordersT:Triple Tryz.prog 35 [.agg #[.int .i64 7,.int .i64 0,.int .i64 (-1),.int .i64 1,.int .i64 1]] [] [] Unit (fun _=>.int .i64 0) (fun _=>True) (fun _=>[]):=by
 refine aT Tryz.func35 [.ag [vI 7,vI 0,vI (-1),vI 1,vI 1]] [] (fun E=>?_) ⟨by simp [SV.good,SV.goodL],trivial⟩
 refine aG ?_
 refine ev_new fun b0=>?_
 refine ev_inline Tryz.tbs_ok Tryz.func73 rfl rfl ?_
 refine aG ?_
 refine ev_stop (go_draw Tryz.tbs_ok false [] [(0,true),(1,true),(2,true),(3,true),(4,true),(5,true),(6,true),(7,true),(8,true),(9,true),(10,true),(11,true),(12,true),(13,true),(14,true),(15,true),(16,true),(17,true),(18,true),(19,true),(20,false),(21,false)] rfl ?_)
 refine aG (aE ?_)
 refine ev_new fun b1=>?_
 refine aE (aK ?_)
 refine ev_fin ⟨trivial,aL,_,rfl,?_⟩
 refine aG ?_
 refine ev_stop (go_rounds 9 ?_)
 refine aG (aJ ?_)
 refine ev_stop (go_indexSl Tryz.tbs_ok (0) rfl rfl rfl rfl rfl rfl (by first | decide | omega) rfl rfl ?_)
 refine aG ?_
 refine ev_new fun b2=>?_
 refine ev_stop (go_draw Tryz.tbs_ok true [0,1,2] [(0,true),(1,true),(2,true),(3,true),(4,true),(5,true),(6,true),(7,true),(8,true),(9,true),(10,true),(11,true),(12,true),(13,true),(14,true),(15,true)] rfl ?_)
 refine aG (aE (aI (aE (aI ?_))))
 refine wN (0+1) ?_
 refine ev_fin (go Tryz.tbs_ok 1000 ?_)
 refine aJ ?_
 refine ev_stop (go_indexSl Tryz.tbs_ok (0+1) rfl rfl rfl rfl rfl rfl (by first | decide | omega) rfl rfl ?_)
 refine aG ?_
 refine ev_new fun b3=>?_
 refine ev_stop (go_draw Tryz.tbs_ok true [0,1,2,3] [(0,true),(1,true),(2,true),(3,true),(4,true),(5,true),(6,true),(7,true),(8,true),(9,true),(10,true),(11,true),(12,true),(13,true),(14,true),(15,true)] rfl ?_)
 refine aG (aE (aI (aE (aI ?_))))
 refine wN (0+1+1) ?_
 refine ev_fin (go Tryz.tbs_ok 1000 ?_)
 refine aJ ?_
 refine ev_stop (go_indexSl Tryz.tbs_ok (0+1+1) rfl rfl rfl rfl rfl rfl (by first | decide | omega) rfl rfl ?_)
 refine aG ?_
 refine ev_new fun b4=>?_
 refine ev_stop (go_draw Tryz.tbs_ok true [0,1,2,3,4] [(0,true),(1,true),(2,true),(3,true),(4,true),(5,true),(6,true),(7,true),(8,true),(9,true),(10,true),(11,true),(12,true),(13,true),(14,true),(15,true)] rfl ?_)
 refine aG (aE (aI (aE (aI ?_))))
 refine wN (0+1+1+1) ?_
 refine ev_fin (go Tryz.tbs_ok 1000 ?_)
 refine aJ ?_
 refine ev_stop (go_indexSl Tryz.tbs_ok (0+1+1+1) rfl rfl rfl rfl rfl rfl (by first | decide | omega) rfl rfl ?_)
 refine aG ?_
 refine ev_new fun b5=>?_
 refine ev_stop (go_draw Tryz.tbs_ok true [0,1,2,3,4,5] [(0,true),(1,true),(2,true),(3,true),(4,true),(5,true),(6,true),(7,true),(8,true),(9,true),(10,true),(11,true),(12,true),(13,true),(14,true),(15,true)] rfl ?_)
 refine aG (aE (aI (aE (aI ?_))))
 refine wN (0+1+1+1+1) ?_
 refine ev_fin (go Tryz.tbs_ok 1000 ?_)
 refine aJ ?_
 refine ev_stop (go_indexSl Tryz.tbs_ok (0+1+1+1+1) rfl rfl rfl rfl rfl rfl (by first | decide | omega) rfl rfl ?_)
 refine aG ?_
 refine ev_new fun b6=>?_
 refine ev_stop (go_draw Tryz.tbs_ok true [0,1,2,3,4,5,6] [(0,true),(1,true),(2,true),(3,true),(4,true),(5,true),(6,true),(7,true),(8,true),(9,true),(10,true),(11,true),(12,true),(13,true),(14,true),(15,true)] rfl ?_)
 refine aG (aE (aI (aE (aI ?_))))
 refine wN (0+1+1+1+1+1) ?_
 refine ev_fin (go Tryz.tbs_ok 1000 ?_)
 refine aI ?_
 refine ev_fin (go Tryz.tbs_ok 1000 ?_)
 refine ev_fin ⟨trivial,_,rfl,(()),rfl,(by trivial),Frm.nil _⟩
 all_goals skip
set_option maxHeartbeats 8000000 in
theorem tableT:Triple Tryz.prog 107 [] [] [] (Nat × Nat) (fun (p,_)=>.pointer (some ⟨p,0,none⟩)) (fun _=>True) (fun (p,b)=>[Pt p 134 [.map (some b)],MapA encK b []]):=by
 refine aT Tryz.func107 [] [] (fun E=>?_) trivial
 refine aG ?_
 refine ev_stop (go_makeMap encK rfl (fun _=>aL) (fun b0=>?_))
 refine aG ?_
 refine ev_new fun b1=>?_
 exact ev_fin ⟨trivial,_,rfl,((b1,b0)),rfl,by trivial,aF [1,0]⟩
 all_goals skip
set_option maxHeartbeats 8000000 in
theorem waitT7 (p b:Nat):Triple Tryz.prog 76 [pP p,.int .i64 0,.int .i64 7,.int .i64 (-1)] [Pt p 134 [.map (some b)],MapA encK b []] [] (Option Addr × Nat) (fun _=>.int .i64 0) (fun _=>True) (fun (C,c)=>[Pt p 134 [.map (some b)],MapA encK b [((0,7),.slice C 1 c)],Row 3 1 C 1 c (([-1]:List Int).flatMap encN)]):=by
 refine aT Tryz.func76 [.pt 0 p 0,vI 0,vI 7,vI (-1)] [.box p 134 [.va (.map (some b))],.fact (MapA encK b [])] (fun E=>?_) ⟨rfl,trivial,trivial,trivial,trivial⟩
 refine go_fact (Row 3 1 none 0 0 (([]:List Int).flatMap encN)) (Row.nilE _ _) ?_
 refine aG ?_
 refine ev_inline Tryz.tbs_ok Tryz.func72 rfl rfl ?_
 refine aG ?_
 refine ev_fin ⟨trivial,aL,_,rfl,?_⟩
 refine aG (aI (aI (aI ?_)))
 refine ev_new fun b0=>?_
 refine ev_stop (go_draw Tryz.tbs_ok false [0,1,3] [(0,true),(1,true),(2,true),(3,true),(4,true),(5,true),(6,false)] rfl ?_)
 refine aG (aE ?_)
 refine ev_stop (tk_lookup (encK:=encK) Tryz.tbs_ok ([]) keyOk ((0,7)) _ (Value.slice none 0 0) (.inr 1) aB rfl rfl rfl rfl rfl rfl rfl zeroI rfl (fun _ h=>h) rfl ?_)
 refine aG (aE (aK ?_))
 refine ev_inline Tryz.tbs_ok Tryz.func122 rfl rfl ?_
 refine aG ?_
 refine ev_stop (go_rounds 9 ?_)
 refine aG (aI ?_)
 refine ev_fin (go Tryz.tbs_ok 1000 ?_)
 refine aI ?_
 refine ev_fin ⟨trivial,aL,_,rfl,?_⟩
 refine aG (aJ ?_)
 refine ev_stop (go_lenMap (encK:=encK) Tryz.tbs_ok ([]) (.inr 1) rfl rfl rfl rfl rfl (fun _ h=>h) ?_)
 refine aG (aI ?_)
 refine ev_stop (go_draw Tryz.tbs_ok false [0,3] [(0,true),(1,true),(2,true),(3,true),(4,true),(5,true),(6,true),(7,true),(8,false),(9,false),(10,false)] rfl ?_)
 refine aG (aE ?_)
 refine ev_new fun b1=>?_
 refine aE ?_
 refine ev_inline Tryz.tbs_ok Tryz.func123 rfl rfl ?_
 refine aG ?_
 refine ev_stop (go_front Tryz.tbs_ok (0) (0) rfl rfl rfl rfl rfl ⟨_,rfl⟩ rfl rfl (by decide) (by omega) (by omega) ?_)
 refine aG (aI (aJ ?_))
 refine ev_stop (go_appendE (sz:=1) (M:=[]) (enc:=encN) Tryz.tbs_ok [] [] (.inr 4) ([]) ([-1]) ([-1]) (1) rfl rfl rfl rfl rfl rfl rfl (by decide) rfl (by decide) (fun _ _=>Row.nil _ _ _) rfl (fun _ p=>Pt.rd p rfl) (by first | rfl | simp) (by first | rfl | omega) (aM (1)) (aN (1)) (fun _ _=>aL) (fun A2 c3 h4=>?_))
 refine aG ?_
 refine ev_fin ⟨trivial,aL,_,rfl,?_⟩
 refine aG (aE ?_)
 refine ev_stop (go_mapUpdate (encK:=encK) Tryz.tbs_ok 1 ([]) (putE ([]) ((0,7)) (Value.slice A2 1 c3)) keyOk ((0,7)) (Value.slice A2 1 c3) rfl rfl rfl rfl rfl rfl rfl rfl rfl rfl ?_)
 refine aG (aK ?_)
 exact ev_fin ⟨trivial,_,rfl,((A2,c3)),rfl,by trivial,aF [0,1,5]⟩
 all_goals skip
set_option maxHeartbeats 8000000 in
theorem takeT7 (p b:Nat) (C:Option Addr) (c:Nat):Triple Tryz.prog 116 [pP p,.int .i64 0,.int .i64 7] [Pt p 134 [.map (some b)],MapA encK b [((0,7),.slice C 1 c)]] [] Unit (fun _=>.slice C 1 c) (fun _=>True) (fun _=>[Pt p 134 [.map (some b)],MapA encK b []]):=by
 refine aT Tryz.func116 [.pt 0 p 0,vI 0,vI 7] [.box p 134 [.va (.map (some b))],.fact (MapA encK b [((0,7),.slice C 1 c)])] (fun E=>?_) ⟨rfl,trivial,trivial,trivial⟩
 refine aG ?_
 refine ev_inline Tryz.tbs_ok Tryz.func72 rfl rfl ?_
 refine aG ?_
 refine ev_fin ⟨trivial,aL,_,rfl,?_⟩
 refine aG (aI ?_)
 refine ev_new fun b0=>?_
 refine ev_stop (go_draw Tryz.tbs_ok false [0,1,2] [(0,true),(1,true),(2,true),(3,true),(4,true),(5,true),(6,false)] rfl ?_)
 refine aG (aE ?_)
 refine ev_stop (tk_lookup (encK:=encK) Tryz.tbs_ok ([((0,7),Value.slice C 1 c)]) keyOk ((0,7)) _ (Value.slice C 1 c) (.inr 1) aB rfl rfl rfl rfl rfl rfl rfl zeroI rfl (fun _ h=>h) rfl ?_)
 refine aG (aE (aK ?_))
 refine ev_stop (go_draw Tryz.tbs_ok false [0,2] [(0,true),(1,true),(2,true),(3,true),(4,true),(5,false)] rfl ?_)
 refine aG (aE ?_)
 refine ev_stop (go_delete (encK:=encK) Tryz.tbs_ok 1 ([((0,7),Value.slice C 1 c)]) (delE ([((0,7),Value.slice C 1 c)]) ((0,7))) keyOk ((0,7)) rfl rfl rfl rfl rfl rfl rfl rfl ?_)
 refine aG (aK ?_)
 exact ev_fin ⟨trivial,_,rfl,(),rfl,by trivial,aF [0,1]⟩
 all_goals skip
set_option maxHeartbeats 8000000 in
theorem findT0 (A:Option Addr) (a:Nat):Triple Tryz.prog 74 [.slice A 0 a,.int .i64 7] [] [] Unit (fun _=>.tuple #[.int .i64 0,.bool false]) (fun _=>True) (fun _=>[]):=by
 refine aT Tryz.func74 [vL A 0 a,vI 7] [] (fun E=>?_) ⟨trivial,trivial,trivial⟩
 refine aG ?_
 refine ev_new fun b0=>?_
 refine ev_inline Tryz.tbs_ok Tryz.func120 rfl rfl ?_
 refine aG ?_
 refine ev_stop (go_rounds 9 ?_)
 refine aG (aI ?_)
 refine ev_fin (go Tryz.tbs_ok 1000 ?_)
 refine ev_fin ⟨trivial,aL,_,rfl,?_⟩
 refine aG ?_
 refine ev_fin ⟨trivial,_,rfl,(()),rfl,(by trivial),Frm.nil _⟩
 all_goals skip
set_option maxHeartbeats 8000000 in
theorem ownersT (b:Nat) (A:Option Addr) (a:Nat) (B:Option Addr) (c:Nat):Triple Tryz.prog 88 [.int .i64 0,.int .i64 1,.int .i64 3,pP b] [Pt b 152 (SV.denL (balW A a B c))] [] Nat (fun o=>.tuple #[pP o,.int .i64 0]) (fun _=>True) (fun o=>[Pt b 152 (SV.denL (balW A a B c)),Pt o 105 (SV.denL (ownV (-1) (-1) (-1) 0 0 (-1)))]):=by
 have T1:=wonB b A a B c
 have T2:=sitesB b A a B c
 refine triple_intro Tryz.tbs_ok Tryz.func88 rfl [vI 0,vI 1,vI 3,.pt 0 b 0] [.box b 152 (balW A a B c)] ⟨trivial,trivial,trivial,rfl,trivial⟩ rfl (by simp [balW,regV,regZ,SV.good,SV.goodL]) ?_
 intro E
 refine aG ?_
 refine aD T1 [0] [] (fun v0_=>[.box (b) 152 [vI 0,vI 2,vI 1,vI 3,vI 0,.bl true,.bl true,.bl false,.bl false,.bl false,.bl false,.bl false,vI 2,vI 0,vL B 0 c,vI 0,vI 2,vI 0,vL A 0 a,vI 0,vI 0,vI 0,vL none 0 0,vI 0,vI 0,vI 0,vL none 0 0,vI 0,vI 0,vI 0,vL none 0 0,vI 0,vI 0,vI 0,vL none 0 0,vI 0,vI 0,vI 0,vL none 0 0,vI 0]]) fun _ h0=>?_
 refine aI (aI (aI (aI (aI (aI ?_)))))
 refine ev_inline Tryz.tbs_ok Tryz.func87 rfl rfl ?_
 refine aG ?_
 refine ev_inline Tryz.tbs_ok Tryz.func81 rfl rfl ?_
 refine aG ?_
 refine ev_fin ⟨trivial,aL,_,rfl,?_⟩
 refine aG (aI ?_)
 refine ev_fin ⟨trivial,aL,_,rfl,?_⟩
 refine aG ?_
 refine ev_inline Tryz.tbs_ok Tryz.func78 rfl rfl ?_
 refine aG (aI (aI ?_))
 refine ev_inline Tryz.tbs_ok Tryz.func124 rfl rfl ?_
 refine aG (aJ ?_)
 refine ev_fin ⟨trivial,aL,_,rfl,?_⟩
 refine aG (aI ?_)
 refine wN (2-1) ?_
 refine ev_stop (go_bin (.va (.int _ (((2-1) % (3):Nat):Int))) trivial rfl rfl rfl rfl rfl (by decide) (by decide) (fun w=>rem_run (show ¬3=0 from (by omega)) w) ?_)
 refine aG ?_
 refine ev_fin ⟨trivial,aL,_,rfl,?_⟩
 refine aG (aI ?_)
 refine ev_inline Tryz.tbs_ok Tryz.func87 rfl rfl ?_
 refine aG ?_
 refine ev_inline Tryz.tbs_ok Tryz.func81 rfl rfl ?_
 refine aG ?_
 refine ev_fin ⟨trivial,aL,_,rfl,?_⟩
 refine aG (aI ?_)
 refine ev_fin ⟨trivial,aL,_,rfl,?_⟩
 refine aG ?_
 refine ev_new fun b1=>?_
 refine ev_stop (go_rounds 9 ?_)
 refine aG (aJ ?_)
 refine ev_stop (go_draw Tryz.tbs_ok false [] [(0,true),(1,true),(2,true),(3,true),(4,true),(5,true),(6,true),(8,true),(9,true),(7,false),(10,false),(11,false)] rfl ?_)
 refine aG (aE ?_)
 refine ev_stop (tk_indexArr Tryz.tbs_ok (0) aB rfl rfl rfl rfl rfl rfl rfl (by first | decide | omega) rfl rfl ?_)
 refine aG (aE (aE ?_))
 refine ev_stop (go_indexArr Tryz.tbs_ok (0) rfl rfl rfl rfl rfl rfl (by first | decide | omega) rfl rfl ?_)
 refine aG (aE (aK ?_))
 refine wN (0+1) ?_
 refine ev_fin (go Tryz.tbs_ok 1000 ?_)
 refine aJ ?_
 refine ev_stop (go_draw Tryz.tbs_ok false [] [(0,true),(1,true),(2,true),(3,true),(4,true),(5,true),(6,true),(8,true),(9,true),(7,false),(10,false),(11,false)] rfl ?_)
 refine aG (aE ?_)
 refine ev_stop (tk_indexArr Tryz.tbs_ok (0+1) aB rfl rfl rfl rfl rfl rfl rfl (by first | decide | omega) rfl rfl ?_)
 refine aG (aE (aE ?_))
 refine ev_stop (go_indexArr Tryz.tbs_ok (0+1) rfl rfl rfl rfl rfl rfl (by first | decide | omega) rfl rfl ?_)
 refine aG (aE (aK ?_))
 refine wN (0+1+1) ?_
 refine ev_fin (go Tryz.tbs_ok 1000 ?_)
 refine aJ ?_
 refine ev_stop (go_draw Tryz.tbs_ok false [] [(0,true),(1,true),(2,true),(3,true),(4,true),(5,true),(6,true),(8,true),(9,true),(7,false),(10,false),(11,false)] rfl ?_)
 refine aG (aE ?_)
 refine ev_stop (tk_indexArr Tryz.tbs_ok (0+1+1) aB rfl rfl rfl rfl rfl rfl rfl (by first | decide | omega) rfl rfl ?_)
 refine aG (aE (aE ?_))
 refine ev_stop (go_indexArr Tryz.tbs_ok (0+1+1) rfl rfl rfl rfl rfl rfl (by first | decide | omega) rfl rfl ?_)
 refine aG (aE (aK ?_))
 refine wN (0+1+1+1) ?_
 refine ev_fin (go Tryz.tbs_ok 1000 ?_)
 refine aJ ?_
 refine ev_stop (go_draw Tryz.tbs_ok false [] [(0,true),(1,true),(2,true),(3,true),(4,true),(5,true),(6,true),(8,true),(9,true),(7,false),(10,false),(11,false)] rfl ?_)
 refine aG (aE ?_)
 refine ev_stop (tk_indexArr Tryz.tbs_ok (0+1+1+1) aB rfl rfl rfl rfl rfl rfl rfl (by first | decide | omega) rfl rfl ?_)
 refine aG (aE (aE ?_))
 refine ev_stop (go_indexArr Tryz.tbs_ok (0+1+1+1) rfl rfl rfl rfl rfl rfl (by first | decide | omega) rfl rfl ?_)
 refine aG (aE (aK ?_))
 refine wN (0+1+1+1+1) ?_
 refine ev_fin (go Tryz.tbs_ok 1000 ?_)
 refine aJ ?_
 refine ev_stop (go_draw Tryz.tbs_ok false [] [(0,true),(1,true),(2,true),(3,true),(4,true),(5,true),(6,true),(8,true),(9,true),(7,false),(10,false),(11,false)] rfl ?_)
 refine aG (aE ?_)
 refine ev_stop (tk_indexArr Tryz.tbs_ok (0+1+1+1+1) aB rfl rfl rfl rfl rfl rfl rfl (by first | decide | omega) rfl rfl ?_)
 refine aG (aE (aE ?_))
 refine ev_stop (go_indexArr Tryz.tbs_ok (0+1+1+1+1) rfl rfl rfl rfl rfl rfl (by first | decide | omega) rfl rfl ?_)
 refine aG (aE (aK ?_))
 refine wN (0+1+1+1+1+1) ?_
 refine ev_fin (go Tryz.tbs_ok 1000 ?_)
 refine aJ ?_
 refine ev_stop (go_draw Tryz.tbs_ok false [] [(0,true),(1,true),(2,true),(3,true),(4,true),(5,true),(6,true),(8,true),(9,true),(7,false),(10,false),(11,false)] rfl ?_)
 refine aG (aE ?_)
 refine ev_stop (tk_indexArr Tryz.tbs_ok (0+1+1+1+1+1) aB rfl rfl rfl rfl rfl rfl rfl (by first | decide | omega) rfl rfl ?_)
 refine aG (aE (aE ?_))
 refine ev_stop (go_indexArr Tryz.tbs_ok (0+1+1+1+1+1) rfl rfl rfl rfl rfl rfl (by first | decide | omega) rfl rfl ?_)
 refine aG (aE (aK ?_))
 refine wN (0+1+1+1+1+1+1) ?_
 refine ev_fin (go Tryz.tbs_ok 1000 ?_)
 refine aJ ?_
 refine ev_stop (go_draw Tryz.tbs_ok false [] [(0,true),(1,true),(2,true),(3,true),(4,true),(5,true),(6,true),(8,true),(9,true),(7,false),(10,false),(11,false)] rfl ?_)
 refine aG (aE ?_)
 refine ev_stop (tk_indexArr Tryz.tbs_ok (0+1+1+1+1+1+1) aB rfl rfl rfl rfl rfl rfl rfl (by first | decide | omega) rfl rfl ?_)
 refine aG (aE (aE ?_))
 refine ev_stop (go_indexArr Tryz.tbs_ok (0+1+1+1+1+1+1) rfl rfl rfl rfl rfl rfl (by first | decide | omega) rfl rfl ?_)
 refine aG (aE (aK ?_))
 refine wN (0+1+1+1+1+1+1+1) ?_
 refine ev_fin (go Tryz.tbs_ok 1000 ?_)
 refine aI ?_
 refine ev_fin (go Tryz.tbs_ok 1000 ?_)
 refine aD T2 [0] [] (fun (v0_,v1_)=>[.box (b) 152 [vI 0,vI 2,vI 1,vI 3,vI 0,.bl true,.bl true,.bl false,.bl false,.bl false,.bl false,.bl false,vI 2,vI 0,vL B 0 c,vI 0,vI 2,vI 0,vL A 0 a,vI 0,vI 0,vI 0,vL none 0 0,vI 0,vI 0,vI 0,vL none 0 0,vI 0,vI 0,vI 0,vL none 0 0,vI 0,vI 0,vI 0,vL none 0 0,vI 0,vI 0,vI 0,vL none 0 0,vI 0],.fact (Row 3 1 v0_ 2 v1_ (List.flatMap encN [0,1]))]) fun ⟨x2,x3⟩ h4=>?_
 refine ev_stop (go_rounds 9 ?_)
 refine aG (aJ ?_)
 refine ev_stop (go_index0 (sz:=1) Tryz.tbs_ok (.inr 2) (0) rfl rfl rfl rfl rfl rfl (by omega) rfl Row.at0 (fun g5 e6=>?_))
 subst e6
 refine aG ?_
 refine ev_stop (go_loadL Tryz.tbs_ok (.inr 2) 0 0 (Int.ofNat 0) rfl rfl rfl rfl rfl (fun _ h=>Row.rd h) (by omega) (fun _=>rfl) (by decide) (by decide) ?_)
 refine aG ?_
 refine ev_stop (go_draw Tryz.tbs_ok false [] [(0,true),(1,true),(2,true),(4,true),(5,true),(3,false),(6,false),(7,false)] rfl ?_)
 refine aG (aE ?_)
 refine ev_inline Tryz.tbs_ok Tryz.func133 rfl rfl ?_
 refine aG ?_
 refine ev_inline Tryz.tbs_ok Tryz.func81 rfl rfl ?_
 refine aG ?_
 refine ev_fin ⟨trivial,aL,_,rfl,?_⟩
 refine aG (aI ?_)
 refine ev_fin ⟨trivial,aL,_,rfl,?_⟩
 refine aG (aE ?_)
 refine ev_stop (go_indexArr Tryz.tbs_ok (0) rfl rfl rfl rfl rfl rfl (by first | decide | omega) rfl rfl ?_)
 refine aG (aE (aK ?_))
 refine wN (0+1) ?_
 refine ev_fin (go Tryz.tbs_ok 1000 ?_)
 refine aJ ?_
 refine ev_stop (go_atE (sz:=1) Tryz.tbs_ok (0+1) rfl rfl rfl rfl rfl rfl (by omega) ?_)
 refine aG ?_
 refine ev_stop (go_loadL Tryz.tbs_ok (.inr 2) 1 0 (Int.ofNat 1) rfl rfl rfl rfl rfl (fun _ h=>Row.rd h) (by omega) (fun _=>rfl) (by decide) (by decide) ?_)
 refine aG ?_
 refine ev_stop (go_draw Tryz.tbs_ok false [] [(0,true),(1,true),(2,true),(4,true),(5,true),(3,false),(6,false),(7,false)] rfl ?_)
 refine aG (aE ?_)
 refine ev_inline Tryz.tbs_ok Tryz.func133 rfl rfl ?_
 refine aG ?_
 refine ev_inline Tryz.tbs_ok Tryz.func81 rfl rfl ?_
 refine aG ?_
 refine ev_fin ⟨trivial,aL,_,rfl,?_⟩
 refine aG (aI ?_)
 refine ev_fin ⟨trivial,aL,_,rfl,?_⟩
 refine aG (aE ?_)
 refine ev_stop (go_indexArr Tryz.tbs_ok (1) rfl rfl rfl rfl rfl rfl (by first | decide | omega) rfl rfl ?_)
 refine aG (aE (aK ?_))
 refine wN (0+1+1) ?_
 refine ev_fin (go Tryz.tbs_ok 1000 ?_)
 refine aI ?_
 refine ev_fin (go Tryz.tbs_ok 1000 ?_)
 exact ev_fin ⟨trivial,_,rfl,(b1),rfl,by trivial,aF [0,1]⟩
 all_goals skip
def ent7:Ent:=⟨2,7,0,-1,1,1⟩
theorem cloneE1 (A:Option Addr) (a:Nat):Triple Tryz.prog 119 [.slice A 1 a] [] [Rd 6 A 1 (([ent7]:List Ent).flatMap encE)] Sl (fun (A',c')=>.slice A' 1 c') (fun _=>True) (fun _=>[]) :=
 (cloneE A [ent7] 1 a rfl (by decide)).imp fun x _=>⟨x,rfl,trivial,fun _ _=>trivial⟩
set_option maxHeartbeats 8000000 in
theorem mailO0 (o:Nat) (k:Int) (A:Option Addr) (a:Nat):Triple Tryz.prog 57 [pP o,.agg #[.int .i64 2,.int .i64 2,.slice A 0 a,.int .i64 0],.int .i64 0] [Pt o 105 (SV.denL (ownV (-1) k (-1) 0 0 (-1)))] [] (Option Addr × Nat × Option Addr × Nat × Option Addr × Nat) (fun (C,c,_)=>.slice C 2 c) (fun _=>True) (fun (C,c,A1,c1,A2,c2)=>[Pt o 105 (SV.denL (ownV (-1) k (-1) 0 0 (-1))),Row 28 18 C 2 c (([⟨4,1,0,0,2,0,0,0,0,A1,0,c1,0,0,0,0,0,0,0,0⟩,⟨4,1,2,0,2,0,0,0,0,A2,0,c2,0,0,0,0,0,0,0,0⟩]:List MailS).flatMap encM)]):=by
 refine triple_intro Tryz.tbs_ok Tryz.func57 rfl [.pt 0 o 0,.ag [vI 2,vI 2,vL A 0 a,vI 0],vI 0] [.box o 105 (ownV (-1) k (-1) 0 0 (-1))] ⟨rfl,by simp [SV.good,SV.goodL],trivial,trivial⟩ rfl (by simp [ownV,SV.good,SV.goodL]) ?_
 intro E
 refine go_fact (Row 28 18 none 0 0 (([]:List MailS).flatMap encM)) (Row.nilE _ _) ?_
 refine aG ?_
 refine ev_new fun b0=>?_
 refine ev_stop (go_draw Tryz.tbs_ok true [0,2] [(0,true),(1,false),(2,false),(3,true),(4,true),(5,false),(6,false),(7,false),(8,false),(9,false),(10,false)] rfl ?_)
 refine aG (aE ?_)
 refine ev_inline Tryz.tbs_ok Tryz.func63 rfl rfl ?_
 refine aG ?_
 refine ev_fin ⟨trivial,aL,_,rfl,?_⟩
 refine aG (aE (aE (aI (aE (aE (aE (aE (aE (aE (aE (aI ?_)))))))))))
 refine ev_stop (go_rounds 9 ?_)
 refine aG (aJ (aJ ?_))
 refine ev_stop (go_draw Tryz.tbs_ok false [0,2] [(0,true),(1,true),(2,true),(3,true),(4,true),(5,true),(6,true),(7,true),(8,true),(9,true),(10,true),(11,true),(12,true),(13,true),(14,true),(15,true),(16,false),(17,false),(18,false),(19,false)] rfl ?_)
 refine aG (aE ?_)
 refine ev_stop (tk_indexArr Tryz.tbs_ok (0) aB rfl rfl rfl rfl rfl rfl rfl (by first | decide | omega) rfl rfl ?_)
 refine aG (aE ?_)
 refine ev_inline Tryz.tbs_ok Tryz.func90 rfl rfl ?_
 refine aG ?_
 refine ev_new fun b1=>?_
 refine ev_new fun b2=>?_
 refine ev_stop (go_draw Tryz.tbs_ok false [0,3] [(0,true),(1,true),(2,true),(3,true),(4,true),(5,true),(6,true),(7,true),(8,true),(9,true),(10,true),(11,true),(12,true),(13,true),(14,true),(15,true),(16,true),(17,true),(19,true),(20,true),(21,true),(18,false),(22,false),(23,false)] rfl ?_)
 refine aG (aE ?_)
 refine ev_stop (tk_front Tryz.tbs_ok (0) (a) aB rfl rfl rfl rfl rfl rfl ⟨_,rfl⟩ rfl rfl (by decide) (by omega) (by omega) ?_)
 refine aG (aE ?_)
 refine aC (cloneE0 (A) (a)) [] [] fun ⟨x3,x4⟩ h5=>?_
 refine aE (aE (aK ?_))
 refine ev_fin ⟨trivial,aL,_,rfl,?_⟩
 refine aG (aE ?_)
 refine ev_new fun b6=>?_
 refine aE ?_
 refine ev_stop (go_appendE (sz:=18) (M:=[]) (enc:=encM) Tryz.tbs_ok [] [] (.inr 5) ([]) ([{ k:=4,fr:=1,to:=0,st:=0,ep:=2,vi:=0,ba:=min (max (-1) 0) (↑0:Int),le:=0,sm:=0,A:=x3,n:=0,a:=x4,o1:=0,o2:=0,o3:=0,o4:=0,o5:=0,a1:=0,a2:=0,a3:=0:MailS }]) ([{ k:=4,fr:=1,to:=0,st:=0,ep:=2,vi:=0,ba:=min (max (-1) 0) (↑0:Int),le:=0,sm:=0,A:=x3,n:=0,a:=x4,o1:=0,o2:=0,o3:=0,o4:=0,o5:=0,a1:=0,a2:=0,a3:=0:MailS }]) (1) rfl rfl rfl rfl rfl rfl rfl (by decide) rfl (by decide) (fun _ _=>Row.nil _ _ _) rfl (fun _ p=>Pt.rd p rfl) (by first | rfl | simp) (by first | rfl | omega) (aM (1)) (aN (1)) (fun _ _=>aL) (fun A7 c8 h9=>?_))
 refine aG (aE (aK ?_))
 refine wN (0+1) ?_
 refine ev_fin (go Tryz.tbs_ok 1000 ?_)
 refine aJ (aI ?_)
 refine wN (0+1+1) ?_
 refine ev_fin (go Tryz.tbs_ok 1000 ?_)
 refine aJ (aJ ?_)
 refine ev_stop (go_draw Tryz.tbs_ok false [0,2] [(0,true),(1,true),(2,true),(3,true),(4,true),(5,true),(6,true),(7,true),(8,true),(9,true),(10,true),(11,true),(12,true),(13,true),(14,true),(15,true),(16,false),(17,false),(18,false),(19,false)] rfl ?_)
 refine aG (aE ?_)
 refine ev_stop (tk_indexArr Tryz.tbs_ok (0+1+1) aB rfl rfl rfl rfl rfl rfl rfl (by first | decide | omega) rfl rfl ?_)
 refine aG (aE ?_)
 refine ev_inline Tryz.tbs_ok Tryz.func90 rfl rfl ?_
 refine aG ?_
 refine ev_new fun b10=>?_
 refine ev_new fun b11=>?_
 refine ev_stop (go_draw Tryz.tbs_ok false [0,7] [(0,true),(1,true),(2,true),(3,true),(4,true),(5,true),(6,true),(7,true),(8,true),(9,true),(10,true),(11,true),(12,true),(13,true),(14,true),(15,true),(16,true),(17,true),(19,true),(20,true),(21,true),(18,false),(22,false),(23,false)] rfl ?_)
 refine aG (aE ?_)
 refine ev_stop (tk_front Tryz.tbs_ok (0) (a) aB rfl rfl rfl rfl rfl rfl ⟨_,rfl⟩ rfl rfl (by decide) (by omega) (by omega) ?_)
 refine aG (aE ?_)
 refine aC (cloneE0 (A) (a)) [] [] fun ⟨x12,x13⟩ h14=>?_
 refine aE (aE (aK ?_))
 refine ev_fin ⟨trivial,aL,_,rfl,?_⟩
 refine aG (aE ?_)
 refine ev_new fun b15=>?_
 refine aE ?_
 refine ev_stop (go_appendE (sz:=18) (M:=[_]) (enc:=encM) Tryz.tbs_ok [6] [] (.inr 9) ([{ k:=4,fr:=1,to:=0,st:=0,ep:=2,vi:=0,ba:=min (max (-1) 0) 0,le:=0,sm:=0,A:=x3,n:=0,a:=x4,o1:=0,o2:=0,o3:=0,o4:=0,o5:=0,a1:=0,a2:=0,a3:=0:MailS }]) ([{ k:=4,fr:=1,to:=(↑(0+1+1):Int),st:=0,ep:=2,vi:=0,ba:=min (max (-1) 0) (↑0:Int),le:=0,sm:=0,A:=x12,n:=0,a:=x13,o1:=0,o2:=0,o3:=0,o4:=0,o5:=0,a1:=0,a2:=0,a3:=0:MailS }]) (([{ k:=4,fr:=1,to:=0,st:=0,ep:=2,vi:=0,ba:=min (max (-1) 0) 0,le:=0,sm:=0,A:=x3,n:=0,a:=x4,o1:=0,o2:=0,o3:=0,o4:=0,o5:=0,a1:=0,a2:=0,a3:=0:MailS }])++([{ k:=4,fr:=1,to:=(↑(0+1+1):Int),st:=0,ep:=2,vi:=0,ba:=min (max (-1) 0) (↑0:Int),le:=0,sm:=0,A:=x12,n:=0,a:=x13,o1:=0,o2:=0,o3:=0,o4:=0,o5:=0,a1:=0,a2:=0,a3:=0:MailS }])) (2) rfl rfl rfl rfl rfl rfl rfl (by decide) rfl (by decide) (fun _ p=>starH_one.1 p) rfl (fun _ p=>Pt.rd p rfl) (by first | rfl | simp) (by first | rfl | omega) (aM (2)) (aN (2)) (fun _ _=>aL) (fun A16 c17 h18=>?_))
 refine aG (aE (aK ?_))
 refine wN (0+1+1+1) ?_
 refine ev_fin (go Tryz.tbs_ok 1000 ?_)
 refine aI ?_
 refine ev_fin (go Tryz.tbs_ok 1000 ?_)
 exact ev_fin ⟨trivial,_,rfl,((A16,c17,x3,x4,x12,x13)),rfl,by trivial,aF [0,6]⟩
 all_goals skip
set_option maxHeartbeats 8000000 in
theorem mailO1 (o:Nat) (k:Int) (A:Option Addr) (a:Nat) (ha:1≤a):Triple Tryz.prog 57 [pP o,.agg #[.int .i64 2,.int .i64 2,.slice A 1 a,.int .i64 0],.int .i64 0] [Pt o 105 (SV.denL (ownV (-1) k (-1) 0 0 (-1)))] [Rd 6 A 1 (([ent7]:List Ent).flatMap encE)] (Option Addr × Nat × Option Addr × Nat × Option Addr × Nat) (fun (C,c,_)=>.slice C 2 c) (fun _=>True) (fun (C,c,A1,c1,A2,c2)=>[Pt o 105 (SV.denL (ownV (-1) k (-1) 0 0 (-1))),Row 28 18 C 2 c (([⟨4,1,0,0,2,0,0,0,0,A1,1,c1,0,0,0,0,0,0,0,0⟩,⟨4,1,2,0,2,0,0,0,0,A2,1,c2,0,0,0,0,0,0,0,0⟩]:List MailS).flatMap encM)]):=by
 refine triple_intro Tryz.tbs_ok Tryz.func57 rfl [.pt 0 o 0,.ag [vI 2,vI 2,vL A 1 a,vI 0],vI 0] [.box o 105 (ownV (-1) k (-1) 0 0 (-1))] ⟨rfl,by simp [SV.good,SV.goodL],trivial,trivial⟩ rfl (by simp [ownV,SV.good,SV.goodL]) ?_
 intro E
 refine go_fact (Row 28 18 none 0 0 (([]:List MailS).flatMap encM)) (Row.nilE _ _) ?_
 refine aG ?_
 refine ev_new fun b0=>?_
 refine ev_stop (go_draw Tryz.tbs_ok true [0,2] [(0,true),(1,false),(2,false),(3,true),(4,true),(5,false),(6,false),(7,false),(8,false),(9,false),(10,false)] rfl ?_)
 refine aG (aE ?_)
 refine ev_inline Tryz.tbs_ok Tryz.func63 rfl rfl ?_
 refine aG ?_
 refine ev_fin ⟨trivial,aL,_,rfl,?_⟩
 refine aG (aE (aE (aI (aE (aE (aE (aE (aE (aE (aE (aI ?_)))))))))))
 refine ev_stop (go_rounds 9 ?_)
 refine aG (aJ (aJ ?_))
 refine ev_stop (go_draw Tryz.tbs_ok false [0,2] [(0,true),(1,true),(2,true),(3,true),(4,true),(5,true),(6,true),(7,true),(8,true),(9,true),(10,true),(11,true),(12,true),(13,true),(14,true),(15,true),(16,false),(17,false),(18,false),(19,false)] rfl ?_)
 refine aG (aE ?_)
 refine ev_stop (tk_indexArr Tryz.tbs_ok (0) aB rfl rfl rfl rfl rfl rfl rfl (by first | decide | omega) rfl rfl ?_)
 refine aG (aE ?_)
 refine ev_inline Tryz.tbs_ok Tryz.func90 rfl rfl ?_
 refine aG ?_
 refine ev_new fun b1=>?_
 refine ev_new fun b2=>?_
 refine ev_stop (go_draw Tryz.tbs_ok false [0,3] [(0,true),(1,true),(2,true),(3,true),(4,true),(5,true),(6,true),(7,true),(8,true),(9,true),(10,true),(11,true),(12,true),(13,true),(14,true),(15,true),(16,true),(17,true),(19,true),(20,true),(21,true),(18,false),(22,false),(23,false)] rfl ?_)
 refine aG (aE ?_)
 refine ev_stop (tk_front Tryz.tbs_ok (1) (a) aB rfl rfl rfl rfl rfl rfl ⟨_,rfl⟩ rfl rfl (by decide) (by omega) (by omega) ?_)
 refine aG (aE ?_)
 refine aC (cloneE1 (A) (a)) [] [.inl 0] fun ⟨x3,x4⟩ h5=>?_
 refine aE (aE (aK ?_))
 refine ev_fin ⟨trivial,aL,_,rfl,?_⟩
 refine aG (aE ?_)
 refine ev_new fun b6=>?_
 refine aE ?_
 refine ev_stop (go_appendE (sz:=18) (M:=[]) (enc:=encM) Tryz.tbs_ok [] [] (.inr 5) ([]) ([{ k:=4,fr:=1,to:=0,st:=0,ep:=2,vi:=0,ba:=min (max (-1) 0) (↑1:Int),le:=0,sm:=0,A:=x3,n:=1,a:=x4,o1:=0,o2:=0,o3:=0,o4:=0,o5:=0,a1:=0,a2:=0,a3:=0:MailS }]) ([{ k:=4,fr:=1,to:=0,st:=0,ep:=2,vi:=0,ba:=min (max (-1) 0) (↑1:Int),le:=0,sm:=0,A:=x3,n:=1,a:=x4,o1:=0,o2:=0,o3:=0,o4:=0,o5:=0,a1:=0,a2:=0,a3:=0:MailS }]) (1) rfl rfl rfl rfl rfl rfl rfl (by decide) rfl (by decide) (fun _ _=>Row.nil _ _ _) rfl (fun _ p=>Pt.rd p rfl) (by first | rfl | simp) (by first | rfl | omega) (aM (1)) (aN (1)) (fun _ _=>aL) (fun A7 c8 h9=>?_))
 refine aG (aE (aK ?_))
 refine wN (0+1) ?_
 refine ev_fin (go Tryz.tbs_ok 1000 ?_)
 refine aJ (aI ?_)
 refine wN (0+1+1) ?_
 refine ev_fin (go Tryz.tbs_ok 1000 ?_)
 refine aJ (aJ ?_)
 refine ev_stop (go_draw Tryz.tbs_ok false [0,2] [(0,true),(1,true),(2,true),(3,true),(4,true),(5,true),(6,true),(7,true),(8,true),(9,true),(10,true),(11,true),(12,true),(13,true),(14,true),(15,true),(16,false),(17,false),(18,false),(19,false)] rfl ?_)
 refine aG (aE ?_)
 refine ev_stop (tk_indexArr Tryz.tbs_ok (0+1+1) aB rfl rfl rfl rfl rfl rfl rfl (by first | decide | omega) rfl rfl ?_)
 refine aG (aE ?_)
 refine ev_inline Tryz.tbs_ok Tryz.func90 rfl rfl ?_
 refine aG ?_
 refine ev_new fun b10=>?_
 refine ev_new fun b11=>?_
 refine ev_stop (go_draw Tryz.tbs_ok false [0,7] [(0,true),(1,true),(2,true),(3,true),(4,true),(5,true),(6,true),(7,true),(8,true),(9,true),(10,true),(11,true),(12,true),(13,true),(14,true),(15,true),(16,true),(17,true),(19,true),(20,true),(21,true),(18,false),(22,false),(23,false)] rfl ?_)
 refine aG (aE ?_)
 refine ev_stop (tk_front Tryz.tbs_ok (1) (a) aB rfl rfl rfl rfl rfl rfl ⟨_,rfl⟩ rfl rfl (by decide) (by omega) (by omega) ?_)
 refine aG (aE ?_)
 refine aC (cloneE1 (A) (a)) [] [.inl 0] fun ⟨x12,x13⟩ h14=>?_
 refine aE (aE (aK ?_))
 refine ev_fin ⟨trivial,aL,_,rfl,?_⟩
 refine aG (aE ?_)
 refine ev_new fun b15=>?_
 refine aE ?_
 refine ev_stop (go_appendE (sz:=18) (M:=[_]) (enc:=encM) Tryz.tbs_ok [6] [] (.inr 9) ([{ k:=4,fr:=1,to:=0,st:=0,ep:=2,vi:=0,ba:=min (max (-1) 0) 1,le:=0,sm:=0,A:=x3,n:=1,a:=x4,o1:=0,o2:=0,o3:=0,o4:=0,o5:=0,a1:=0,a2:=0,a3:=0:MailS }]) ([{ k:=4,fr:=1,to:=(↑(0+1+1):Int),st:=0,ep:=2,vi:=0,ba:=min (max (-1) 0) (↑1:Int),le:=0,sm:=0,A:=x12,n:=1,a:=x13,o1:=0,o2:=0,o3:=0,o4:=0,o5:=0,a1:=0,a2:=0,a3:=0:MailS }]) (([{ k:=4,fr:=1,to:=0,st:=0,ep:=2,vi:=0,ba:=min (max (-1) 0) 1,le:=0,sm:=0,A:=x3,n:=1,a:=x4,o1:=0,o2:=0,o3:=0,o4:=0,o5:=0,a1:=0,a2:=0,a3:=0:MailS }])++([{ k:=4,fr:=1,to:=(↑(0+1+1):Int),st:=0,ep:=2,vi:=0,ba:=min (max (-1) 0) (↑1:Int),le:=0,sm:=0,A:=x12,n:=1,a:=x13,o1:=0,o2:=0,o3:=0,o4:=0,o5:=0,a1:=0,a2:=0,a3:=0:MailS }])) (2) rfl rfl rfl rfl rfl rfl rfl (by decide) rfl (by decide) (fun _ p=>starH_one.1 p) rfl (fun _ p=>Pt.rd p rfl) (by first | rfl | simp) (by first | rfl | omega) (aM (2)) (aN (2)) (fun _ _=>aL) (fun A16 c17 h18=>?_))
 refine aG (aE (aK ?_))
 refine wN (0+1+1+1) ?_
 refine ev_fin (go Tryz.tbs_ok 1000 ?_)
 refine aI ?_
 refine ev_fin (go Tryz.tbs_ok 1000 ?_)
 exact ev_fin ⟨trivial,_,rfl,((A16,c17,x3,x4,x12,x13)),rfl,by trivial,aF [0,6]⟩
 all_goals skip
theorem bool_und:Tryz.prog.underlying 4=some .bool:=by kernel_rfl
theorem ok_state:EqOk Tryz.prog 116:=⟨by kernel_rfl,by kernel_rfl⟩
theorem eq_state (a:Int) (b:Bool) (c d e:Int) (f:Bool) (g h:Int) (n:Nat) (w:World):(Op.equalIn (n+2) 116 (.agg #[.int .i64 a,.bool b,.int .i64 c,.int .i64 d]) (.agg #[.int .i64 e,.bool f,.int .i64 g,.int .i64 h])).run Tryz.prog w = .ok (a==e&&(b==f&&(c==g&&(d==h&&true)))) w:=by
 refine eq_struct ok_state rfl ?_
 refine eqF_int (by decide) Tryz.underlying3 rfl rfl ?_
 refine eqF_bool (by decide) bool_und rfl rfl ?_
 iterate 2 refine eqF_int (by decide) Tryz.underlying3 rfl rfl ?_
 exact eqF_nil
theorem ofT0:Triple Tryz.prog 166 [.int .i64 0] [] [] Unit (fun _=>.nilIface) (fun _=>True) (fun _=>[]):=by
 refine aT Tryz.func166 [vI 0] [] (fun E=>?_) ⟨trivial,trivial⟩
 refine aG (aI (aI (aI ?_)))
 refine ev_fin ⟨trivial,_,rfl,(()),rfl,(by trivial),Frm.nil _⟩
 all_goals skip
theorem ofT1:Triple Tryz.prog 166 [.int .i64 1] [] [] Unit (fun _=>.iface 311 (.agg #[])) (fun _=>True) (fun _=>[]):=by
 refine aT Tryz.func166 [vI 1] [] (fun E=>?_) ⟨trivial,trivial⟩
 refine aG (aJ ?_)
 refine ev_stop (go_iface (by kernel_rfl) rfl rfl ?_)
 refine aG ?_
 refine ev_fin ⟨trivial,_,rfl,(()),rfl,(by trivial),Frm.nil _⟩
 all_goals skip
theorem mayS0:Triple Tryz.prog 165 [.agg #[.int .i64 0,.bool false,.int .i64 0,.int .i64 0]] [] [] Unit (fun _=>.bool true) (fun _=>True) (fun _=>[]):=by
 refine aT Tryz.func165 [.ag [vI 0,.bl false,vI 0,vI 0]] [] (fun E=>?_) ⟨by simp [SV.good,SV.goodL],trivial⟩
 refine aG ?_
 refine ev_new fun b0=>?_
 refine aC ofT0 [] [] fun _ h1=>?_
 refine ev_stop (go_ifNil (by kernel_rfl) true rfl rfl rfl ?_)
 refine aG ?_
 refine ev_stop (go_val rfl (.bl true) trivial (fun a w hR=>eql_run (ev_denv hR.fr rfl rfl) (ev_denv hR.fr rfl rfl) (by kernel_rfl) (eq_state (0) (false) (0) (0) (0) (false) (0) (0) 9998 w)) ?_)
 refine aG ?_
 refine ev_fin ⟨trivial,_,rfl,(()),rfl,(by trivial),Frm.nil _⟩
 all_goals skip
set_option maxHeartbeats 8000000 in
theorem applyS1:Triple Tryz.prog 118 [.agg #[.int .i64 0,.bool false,.int .i64 0,.int .i64 0],.agg #[.int .i64 1,.int .i64 1]] [] [] Unit (fun _=>.agg #[.int .i64 1,.bool false,.int .i64 0,.int .i64 1]) (fun _=>True) (fun _=>[]):=by
 refine aT Tryz.func118 [.ag [vI 0,.bl false,vI 0,vI 0],.ag [vI 1,vI 1]] [] (fun E=>?_) ⟨by simp [SV.good,SV.goodL],by simp [SV.good,SV.goodL],trivial⟩
 refine aG ?_
 refine ev_new fun b0=>?_
 refine ev_new fun b1=>?_
 refine ev_new fun b2=>?_
 refine aC mayS0 [] [] fun _ h3=>?_
 refine aI (aI ?_)
 refine ev_stop (go_draw Tryz.tbs_ok false [0] [(0,true),(1,true),(2,true),(99,false),(0,true),(0,true),(0,true)] rfl ?_)
 refine aG (aE ?_)
 refine ev_stop (go_fork 3 4 [(4,false),(5,false),(6,false)] [(3,false),(5,false),(6,false)] _ _ ⟨aL,rfl⟩ (by kernel_rfl) rfl rfl rfl rfl ?_ ?_)
 refine aG ?_
 refine aC ofT0 [] [] fun _ h4=>?_
 refine aE ?_
 refine ev_new fun b5=>?_
 refine aE (aE (aK ?_))
 refine wN (0+1) ?_
 refine ev_stop (go_ifNil (by kernel_rfl) true rfl rfl rfl ?_)
 refine aG (aJ ?_)
 refine aC ofT1 [] [] fun _ h6=>?_
 refine ev_stop (go_ifNil (by kernel_rfl) true rfl rfl rfl ?_)
 refine aG ?_
 refine ev_fin ⟨trivial,_,rfl,(()),rfl,(by trivial),Frm.nil _⟩
 refine aG ?_
 refine ev_new fun b7=>?_
 refine aE ?_
 refine aC ofT0 [] [] fun _ h8=>?_
 refine aE (aE (aK ?_))
 refine wN (0+1) ?_
 refine ev_stop (go_ifNil (by kernel_rfl) true rfl rfl rfl ?_)
 refine aG (aJ ?_)
 refine aC ofT1 [] [] fun _ h9=>?_
 refine ev_stop (go_ifNil (by kernel_rfl) true rfl rfl rfl ?_)
 refine aG ?_
 refine ev_fin ⟨trivial,_,rfl,(()),rfl,(by trivial),Frm.nil _⟩
 all_goals skip
set_option maxHeartbeats 8000000 in
theorem decideT:Triple Tryz.prog 117 [.agg #[.int .i64 0,.bool false,.int .i64 0,.int .i64 0],.agg #[.int .i64 7,.int .i64 0,.int .i64 (-1),.int .i64 1,.int .i64 1]] [] [] Nat (fun b=>.agg #[.int .i64 1,.int .i64 1,.slice (some ⟨b,0,none⟩) 1 1]) (fun _=>True) (fun b=>[Pt b 125 [.int .i64 1,.int .i64 1]]):=by
 refine aT Tryz.func117 [.ag [vI 0,.bl false,vI 0,vI 0],.ag [vI 7,vI 0,vI (-1),vI 1,vI 1]] [] (fun E=>?_) ⟨by simp [SV.good,SV.goodL],by simp [SV.good,SV.goodL],trivial⟩
 refine aG ?_
 refine ev_new fun b0=>?_
 refine ev_new fun b1=>?_
 refine ev_new fun b2=>?_
 refine ev_new fun b3=>?_
 refine aC mayS0 [] [] fun _ h4=>?_
 refine aI ?_
 refine ev_new fun b5=>?_
 refine aI ?_
 refine aC applyS1 [] [] fun _ h6=>?_
 refine ev_new fun b7=>?_
 refine aC ordersT [] [] fun _ h8=>?_
 refine aI (aI ?_)
 refine ev_stop (go_val rfl (.bl false) trivial (fun a w hR=>eql_run (ev_denv hR.fr rfl rfl) (ev_denv hR.fr rfl rfl) (by kernel_rfl) (eq_state (1) (false) (0) (1) (0) (false) (0) (0) 9998 w)) ?_)
 refine aG ?_
 refine ev_new fun b9=>?_
 exact ev_fin ⟨trivial,_,rfl,(b9),rfl,by trivial,aF [6]⟩
 all_goals skip
theorem decideR:Triple Tryz.prog 117 [.agg #[.int .i64 0,.bool false,.int .i64 0,.int .i64 0],.agg #[.int .i64 7,.int .i64 0,.int .i64 (-1),.int .i64 1,.int .i64 1]] [] [] Nat (fun b=>.agg #[.int .i64 1,.int .i64 1,.slice (some ⟨b,0,none⟩) 1 1]) (fun _=>True) (fun b=>[Row 125 2 (some ⟨b,0,none⟩) 1 1 (([(1,1)]:List (Int × Int)).flatMap encK2)]) :=
 decideT.imp fun b g=>⟨b,rfl,g,fun h q=>starH_one.2 (Pt.row (n:=1) (sz:=2) (starH_one.1 q) rfl (by decide))⟩
/-! folds -/
def encL1 (k:Int):Value:=.agg #[.int .i64 k]
theorem fkey_und:Tryz.prog.underlying 208=some (.struct (Tryz.prog.fieldsOf 208)):=by kernel_rfl
theorem ok_fkey:EqOk Tryz.prog 208:=⟨by kernel_rfl,by kernel_rfl⟩
theorem fkey_fields:∃ f1:Field,Tryz.prog.fieldsOf 208 = #[f1]∧(f1.type=3∧f1.offset=0∧f1.name ≠ "_"):=⟨_,rfl,⟨rfl,rfl,by decide⟩⟩
theorem fkey_check (e:Bool) (k:Int) (w:World):(Instr.checkKey e 10000 208 (encL1 k)).run Tryz.prog w = .ok () w:=by
 obtain ⟨f1,hf,⟨h1,h2,h3⟩⟩:=fkey_fields
 have hu:=fkey_und
 rw [hf] at hu
 have p1:(part f1.type #[.int .i64 k] f1.offset).run Tryz.prog w = .ok (.int .i64 k) w:=by
  rw [h1,h2];exact part_one int_und rfl rfl
 have q1:(Instr.checkKey e 9999 f1.type (.int .i64 k)).run Tryz.prog w = .ok () w:=by
  rw [h1,Instr.checkKey,Sem.run_bind,run_underlying int_und];rfl
 rw [Instr.checkKey,Sem.run_bind,run_underlying hu]
 simp [encL1,h3,p1,q1]
theorem fkey_eq (a b:Int) (w:World):(Op.equal 208 (encL1 a) (encL1 b)).run Tryz.prog w = .ok (decide (a=b)) w:=by
 have:decide (a=b)=(a==b&&true):=by
  rw [Bool.eq_iff_iff]
  simp
 rw [this]
 refine eq_struct (d:=9999) ok_fkey rfl ?_
 refine eqF_int (by decide) int_und rfl rfl ?_
 exact eqF_nil
theorem fkeyOk:KeyOk Tryz.prog 208 encL1 :=
 keyOk_of fkey_und (fun _ _=>rfl) fkey_check fkey_eq (fun k=>by simp [encL1,Instr.sameBits])
theorem zeroN (w:World):(zeroValue 3).run Tryz.prog w = .ok (.int .i64 0) w:=by
 have h:(Tryz.prog.info? 3).bind (fun i=>i.zero)=some (.int .i64 0):=by kernel_rfl
 cases hq:Tryz.prog.info? 3 with
 | none=>rw [hq] at h;cases h
 |
  some i =>
  rw [hq] at h
  simp only [Option.bind_some] at h
  simp [zeroValue,typeInfo,hq,h]
structure OutS where
 c:Int
 v:Int
 A:Option Addr
 n:Nat
 a:Nat
def encO (x:OutS):List Value:=[.int .i64 x.c,.int .i64 x.v,.slice x.A x.n x.a]
set_option maxHeartbeats 8000000 in
theorem foldT (A:Option Addr) (a:Nat):Triple Tryz.prog 68 [.slice A 1 a] [] [Rd 6 A 1 (([ent7]:List Ent).flatMap encE)] (Option Addr × Nat × Nat) (fun (C,c,_)=>.tuple #[.agg #[.int .i64 1,.bool false,.int .i64 0,.int .i64 1],.slice C 1 c]) (fun _=>True) (fun (C,c,b)=>[Row 125 2 (some ⟨b,0,none⟩) 1 1 (([(1,1)]:List (Int × Int)).flatMap encK2),Row 122 3 C 1 c (([⟨1,1,some ⟨b,0,none⟩,1,1⟩]:List OutS).flatMap encO)]):=by
 refine aT Tryz.func68 [vL A 1 a] [] (fun E=>?_) ⟨trivial,trivial⟩
 refine go_fact (Row 122 3 none 0 0 (([]:List OutS).flatMap encO)) (Row.nilE _ _) ?_
 refine aG ?_
 refine ev_new fun b0=>?_
 refine ev_stop (go_makeMap encL1 rfl (fun _=>aL) (fun b1=>?_))
 refine aG ?_
 refine ev_stop (go_rounds 9 ?_)
 refine aG (aJ ?_)
 refine ev_stop (go_indexE (sz:=6) Tryz.tbs_ok (.inl 0) (0) rfl rfl rfl rfl rfl rfl (by omega) rfl (fun _ h=>h) (fun g2 o4 e3=>?_))
 subst e3
 refine aG ?_
 refine ev_stop (go_loadL Tryz.tbs_ok (.inl 0) 0 0 ({ e:=2,id:=7,st:=0,ex := -1,k:=1,a:=1:Ent }) rfl rfl rfl rfl rfl (fun _ h=>h) (by first | omega | rfl) (fun _=>rfl) (by decide) (by decide) ?_)
 refine aG ?_
 refine ev_new fun b5=>?_
 refine ev_new fun b6=>?_
 refine ev_stop (go_lookupC (encK:=encL1) Tryz.tbs_ok ([]) fkeyOk (7) _ (vI 0) false (.inr 2) rfl rfl rfl rfl rfl rfl zeroN rfl (fun _ h=>h) rfl (fun _=>by repeat (first | exact trivial | refine ⟨trivial,?_⟩)) rfl ?_)
 refine aG ?_
 refine ev_stop (go_mapUpdate (encK:=encL1) Tryz.tbs_ok 2 ([]) (putE ([]) (7) (Value.int IntKind.i64 0)) fkeyOk (7) (Value.int IntKind.i64 0) rfl rfl rfl rfl rfl rfl rfl rfl rfl rfl ?_)
 refine aG ?_
 refine aC decideR [] [] fun x7 h8=>?_
 refine ev_new fun b9=>?_
 refine ev_stop (go_rounds 9 ?_)
 refine aG (aJ ?_)
 refine ev_stop (go_atE (sz:=2) Tryz.tbs_ok (0) rfl rfl rfl rfl rfl rfl (by omega) ?_)
 refine aG ?_
 refine ev_stop (go_loadL Tryz.tbs_ok (.inr 5) 0 0 ((1,1)) rfl rfl rfl rfl rfl (fun _ h=>Row.rd h) (by first | omega | rfl) (fun _=>rfl) (by decide) (by decide) ?_)
 refine aG ?_
 refine ev_new fun b10=>?_
 refine aC applyS1 [] [] fun _ h11=>?_
 refine wN (0+1) ?_
 refine ev_fin (go Tryz.tbs_ok 1000 ?_)
 refine aI ?_
 refine ev_fin (go Tryz.tbs_ok 1000 ?_)
 refine ev_new fun b12=>?_
 refine ev_stop (go_appendE (sz:=3) (M:=[]) (enc:=encO) Tryz.tbs_ok [] [] (.inr 8) ([]) ([{ c:=1,v:=1,A:=some { block:=x7,off:=0:Addr },n:=1,a:=1:OutS }]) ([{ c:=1,v:=1,A:=some { block:=x7,off:=0:Addr },n:=1,a:=1:OutS }]) (1) rfl rfl rfl rfl rfl rfl rfl (by decide) rfl (by decide) (fun _ _=>Row.nil _ _ _) rfl (fun _ p=>Pt.rd p rfl) (by first | rfl | simp) (by first | rfl | omega) (aM (1)) (aN (1)) (fun _ _=>aL) (fun A13 c14 h15=>?_))
 refine aG ?_
 refine wN (0+1) ?_
 refine ev_fin (go Tryz.tbs_ok 1000 ?_)
 refine aI ?_
 refine ev_fin (go Tryz.tbs_ok 1000 ?_)
 exact ev_fin ⟨trivial,_,rfl,((A13,c14,x7)),rfl,by trivial,aF [5,9]⟩
 all_goals skip
set_option maxHeartbeats 8000000 in
theorem foldT0 (A:Option Addr) (a:Nat):Triple Tryz.prog 68 [.slice A 0 a] [] [] Unit (fun _=>.tuple #[.agg #[.int .i64 0,.bool false,.int .i64 0,.int .i64 0],.slice none 0 0]) (fun _=>True) (fun _=>[]):=by
 refine aT Tryz.func68 [vL A 0 a] [] (fun E=>?_) ⟨trivial,trivial⟩
 refine aG ?_
 refine ev_new fun b0=>?_
 refine ev_stop (go_makeMap encL1 rfl (fun _=>aL) (fun b1=>?_))
 refine aG ?_
 refine ev_stop (go_rounds 9 ?_)
 refine aG (aI ?_)
 refine ev_fin (go Tryz.tbs_ok 1000 ?_)
 refine ev_fin ⟨trivial,_,rfl,(()),rfl,(by trivial),Frm.nil _⟩
 all_goals skip
def rec1:Rec:=⟨1,0,2,0,0,0,[],[]⟩
def rec2:Rec:=⟨2,0,2,0,0,0,[],[]⟩
def rec3:Rec:=⟨2,0,2,0,0,0,[ent7],[]⟩
def rec4:Rec:=⟨3,0,0,0,0,1,[],[]⟩
def sta1:Sta:=⟨[⟨2,0,[],0⟩,noReg,noReg,noReg],[]⟩
def sta2:Sta:=⟨[⟨2,2,[],0⟩,noReg,noReg,noReg],[]⟩
def sta3:Sta:=⟨[⟨2,2,[ent7],0⟩,noReg,noReg,noReg],[]⟩
def sta4:Sta:=⟨[⟨2,2,[ent7],1⟩,noReg,noReg,noReg],[⟨0,0⟩]⟩
theorem wr1:writeS noSta [rec1]=some sta1:=by kernel_rfl
theorem wr2:writeS sta1 [rec2]=some sta2:=by kernel_rfl
theorem wr3:writeS sta2 [rec3]=some sta3:=by kernel_rfl
theorem wr4:writeS sta3 [rec4]=some sta4:=by kernel_rfl
theorem regQ0 (p q:Nat) (z:Sta) (s:Nat) (d:Bool) (b i:Nat) (j:Nat) (P V C:Int) (hj:j<4) (hg:z.R[j]? = some ⟨P,V,[],C⟩):Triple Tryz.prog 32 [pP p,.int .i64 (j:Int)] [StQ p q z s d b i] [] Sl (fun (A',c')=>.tuple #[.agg #[.int .i64 P,.int .i64 V,.slice A' 0 c',.int .i64 C],.int .i64 0]) (fun _=>True) (fun _=>[StQ p q z s d b i]) :=
 (regQ p q z s d b i j ⟨P,V,[],C⟩ hj hg (Nat.zero_le _)).imp fun x _=>⟨x,rfl,trivial,fun _h ⟨_,_,_,a1,_,p1,_⟩=>starH_one.2 (Asn.mono _ a1 p1)⟩
theorem regQ7 (p q:Nat) (z:Sta) (s:Nat) (d:Bool) (b i:Nat) (C:Int) (hg:z.R[0]? = some ⟨2,2,[ent7],C⟩):Triple Tryz.prog 32 [pP p,.int .i64 0] [StQ p q z s d b i] [] Sl (fun (A',c')=>.tuple #[.agg #[.int .i64 2,.int .i64 2,.slice A' 1 c',.int .i64 C],.int .i64 0]) (fun (_,c')=>1≤c') (fun (A',c')=>[StQ p q z s d b i,Row 127 6 A' 1 c' (([ent7]:List Ent).flatMap encE)]) :=
 (regQ p q z s d b i 0 ⟨2,2,[ent7],C⟩ (by decide) hg (show 1≤1000 by decide)).imp fun (A,c) g=>⟨(A,c),rfl,g,fun _ h=>h⟩
theorem writeQ0 (p q:Nat) (z z':Sta) (s:Nat) (d:Bool) (b b' i bx:Nat) (A:Option Addr) (a:Nat) (k st e v f n:Int) (hw:writeS z [⟨k,st,e,v,f,n,[],[]⟩]=some z') (hb:b'=b+47) (hb2:b'≤200000) :
 Triple Tryz.prog 115 [pP p,.slice (some ⟨bx,0,none⟩) 1 1] [StQ p q z s d b i] [TabA,Pt bx 108 [.int .i64 k,.int .i64 st,.int .i64 e,.int .i64 v,.int .i64 f,.int .i64 n,.slice A 0 a,.slice none 0 0]] Unit (fun _=>.int .i64 0) (fun _=>True) (fun _=>[StQ p q z' s true b' i]) :=
 (writeQ p q z z' s d b i (some ⟨bx,0,none⟩) [⟨⟨k,st,e,v,f,n,[],[]⟩,A,a,none,0⟩] 1 1 b' rfl (by decide) (by decide) (fun y hy=>by
  obtain rfl:=List.mem_singleton.1 hy
  exact ⟨Nat.zero_le _,Nat.zero_le _⟩) hw (by rw [hb];rfl) hb2).reads fun X hX=>by
  simp only [List.mem_cons,List.not_mem_nil,or_false] at hX
  rcases hX with rfl | rfl | rfl
  · exact ⟨_,List.mem_cons_self,fun _ h=>h⟩
  · exact ⟨_,List.mem_cons_of_mem _ List.mem_cons_self,fun _ h=>Pt.rd h rfl⟩
  exact ⟨TabA,List.mem_cons_self,fun h _ y hy=>by
   obtain rfl:=List.mem_singleton.1 hy
   exact ⟨Rd.nil _ _ h,Rd.nil _ _ h⟩⟩
theorem writeQ7 (p q:Nat) (s:Nat) (d:Bool) (b b' i bx be:Nat) (hb:b'=b+77) (hb2:b'≤200000) :
 Triple Tryz.prog 115 [pP p,.slice (some ⟨bx,0,none⟩) 1 1] [StQ p q sta2 s d b i] [TabA,Pt bx 108 [.int .i64 2,.int .i64 0,.int .i64 2,.int .i64 0,.int .i64 0,.int .i64 0,.slice (some ⟨be,0,none⟩) 1 1,.slice none 0 0],Pt be 127 (encE ent7)] Unit (fun _=>.int .i64 0) (fun _=>True) (fun _=>[StQ p q sta3 s true b' i]) :=
 (writeQ p q sta2 sta3 s d b i (some ⟨bx,0,none⟩) [⟨rec3,some ⟨be,0,none⟩,1,none,0⟩] 1 1 b' rfl (by decide) (by decide) (fun y hy=>by
  obtain rfl:=List.mem_singleton.1 hy
  exact ⟨show 1≤2000 by decide,Nat.zero_le _⟩) wr3 (by rw [hb];rfl) hb2).reads fun X hX=>by
  simp only [List.mem_cons,List.not_mem_nil,or_false] at hX
  rcases hX with rfl | rfl | rfl
  · exact ⟨_,List.mem_cons_self,fun _ h=>h⟩
  · exact ⟨_,List.mem_cons_of_mem _ List.mem_cons_self,fun _ h=>Pt.rd h rfl⟩
  exact ⟨_,List.mem_cons_of_mem _ (List.mem_cons_of_mem _ List.mem_cons_self),fun h q y hy=>by
   obtain rfl:=List.mem_singleton.1 hy
   exact ⟨Pt.rd q rfl,Rd.nil _ _ h⟩⟩
/-! the owner,asked -/
theorem epochO (o:Nat) (a0 a1 a2 s0 s1 s2:Int):Triple Tryz.prog 25 [pP o] [Pt o 105 (SV.denL (ownV a0 a1 a2 s0 s1 s2))] [] Unit (fun _=>.int .i64 2) (fun _=>True) (fun _=>[Pt o 105 (SV.denL (ownV a0 a1 a2 s0 s1 s2))]):=by
 refine triple_intro Tryz.tbs_ok Tryz.func25 rfl [.pt 0 o 0] [.box o 105 (ownV a0 a1 a2 s0 s1 s2)] ⟨rfl,trivial⟩ rfl (by simp [ownV,SV.good,SV.goodL]) ?_
 intro E
 refine aG ?_
 refine ev_inline Tryz.tbs_ok Tryz.func63 rfl rfl ?_
 refine aG ?_
 refine ev_fin ⟨trivial,aL,_,rfl,?_⟩
 refine aG (aI ?_)
 exact ev_fin ⟨trivial,_,rfl,(),rfl,by trivial,aF [0]⟩
 all_goals skip
theorem targetO (o:Nat) (a0 a1 a2 s0 s1 s2:Int):Triple Tryz.prog 66 [pP o] [Pt o 105 (SV.denL (ownV a0 a1 a2 s0 s1 s2))] [] Unit (fun _=>.tuple #[.int .i64 0,.bool false]) (fun _=>True) (fun _=>[Pt o 105 (SV.denL (ownV a0 a1 a2 s0 s1 s2))]):=by
 refine triple_intro Tryz.tbs_ok Tryz.func66 rfl [.pt 0 o 0] [.box o 105 (ownV a0 a1 a2 s0 s1 s2)] ⟨rfl,trivial⟩ rfl (by simp [ownV,SV.good,SV.goodL]) ?_
 intro E
 refine aG ?_
 refine ev_inline Tryz.tbs_ok Tryz.func63 rfl rfl ?_
 refine aG ?_
 refine ev_fin ⟨trivial,aL,_,rfl,?_⟩
 refine aG (aI ?_)
 exact ev_fin ⟨trivial,_,rfl,(),rfl,by trivial,aF [0]⟩
 all_goals skip
theorem sureO (o:Nat) (a0 a1 a2 s0 s1 s2 k m:Int) (hk:max a1 k=m):Triple Tryz.prog 26 [pP o,.int .i64 k] [Pt o 105 (SV.denL (ownV a0 a1 a2 s0 s1 s2))] [] Unit (fun _=>.tuple #[]) (fun _=>True) (fun _=>[Pt o 105 (SV.denL (ownV a0 m a2 s0 s1 s2))]):=by
 subst hk
 refine triple_intro Tryz.tbs_ok Tryz.func26 rfl [.pt 0 o 0,vI k] [.box o 105 (ownV a0 a1 a2 s0 s1 s2)] ⟨rfl,trivial,trivial⟩ rfl (by simp [ownV,SV.good,SV.goodL]) ?_
 intro E
 refine aG ?_
 refine ev_inline Tryz.tbs_ok Tryz.func63 rfl rfl ?_
 refine aG ?_
 refine ev_fin ⟨trivial,aL,_,rfl,?_⟩
 refine aG (aJ ?_)
 refine ev_stop (go_draw Tryz.tbs_ok false [0] [(0,true),(1,true),(2,true),(3,true),(4,true),(5,true),(6,true),(7,true),(8,true),(9,true),(10,true),(11,true),(12,true),(13,true),(14,true),(15,true),(16,true),(17,true),(18,true),(19,false)] rfl ?_)
 refine aG (aE ?_)
 refine ev_stop (tk_indexArr Tryz.tbs_ok (1) aB rfl rfl rfl rfl rfl rfl rfl (by first | decide | omega) rfl rfl ?_)
 refine aG (aE ?_)
 refine ev_stop (tk_indexArr Tryz.tbs_ok (1) aB rfl rfl rfl rfl rfl rfl rfl (by first | decide | omega) rfl rfl ?_)
 refine aG (aE (aK ?_))
 exact ev_fin ⟨trivial,_,rfl,(),rfl,by trivial,aF [0]⟩
 all_goals skip
def siteV (id n:Int) (q p bk rt:Nat) (ba ow:Option Addr) (O:Option Addr) (on oc:Nat) (T:Option Addr) (tn tc:Nat):List SV:=[vI id,vI n,vP q,vI 0,vP p,vP bk,.va (.pointer ba),.va (.pointer none),.va (.pointer none),.va (.pointer none),.va (.pointer ow),.va (.pointer none),.va (.pointer none),.va (.pointer none),vI 0,vI 0,vI 0,vI 0,vP rt,vL O on oc,vL T tn tc]
set_option maxHeartbeats 8000000 in
theorem newS (id n:Int) (h1:2≤n) (h2:n≤7) (h3:0≤id) (h4:id<n):Triple Tryz.prog 22 [.int .i64 id,.int .i64 n,.int .i64 262144] [] [TabA] (Nat × Nat × Nat × Nat × Nat × Nat × Nat) (fun (s,_)=>.tuple #[pP s,.int .i64 0]) (fun _=>True) (fun (s,q,p,bk,bm,rt,rm)=>[Pt s 67 (SV.denL (siteV id n q p bk rt none none none 0 0 none 0 0)),StQ p q noSta 0 false 0 0,Pt bk 170 [.bool true,.int .i64 0,.map (some bm)],MapA encI bm [],Pt rt 134 [.map (some rm)],MapA encK rm []]):=by
 have T1:=fun q=>openQ q noSta 0 0 0 (by decide) rfl
 refine aT Tryz.func22 [vI id,vI n,vI 262144] [] (fun E=>?_) ⟨trivial,trivial,trivial,trivial⟩
 refine aG ?_
 refine aI ?_ (decide_eq_false (show ¬n<2 from (by omega)))
 refine aI ?_ (decide_eq_false (show ¬n > 7 from (by omega)))
 refine aI ?_ (decide_eq_false (show ¬id<0 from (by omega)))
 refine aI ?_ (decide_eq_false (show ¬id ≥ n from (by omega)))
 refine aC newQ [] [] fun x0 h1=>?_
 refine aI ?_
 refine ev_new fun b2=>?_
 refine ev_inline Tryz.tbs_ok Tryz.func59 rfl rfl ?_
 refine aG ?_
 refine aC (T1 (x0)) [0] [.inl 0] fun x3 h4=>?_
 refine aI ?_
 refine ev_stop (go_draw Tryz.tbs_ok false [1] [(0,true),(1,true),(2,true),(3,true),(4,true),(5,true),(6,true),(7,true),(8,true),(9,true),(10,true),(11,true),(12,true),(13,true),(14,true),(15,true),(16,true),(17,true),(18,true),(19,true),(20,true),(21,true),(22,true),(23,false),(24,false),(25,false),(26,false),(27,false)] rfl ?_)
 refine aG (aE ?_)
 refine aD newB0 [] [] (fun (v0_,v1_)=>[.box (v0_) 170 [.bl true,vI 0,.va (Value.map (some v1_))],.fact (MapA encI v1_ [])]) fun ⟨x5,x6⟩ h7=>?_
 refine aE ?_
 refine aD tableT [] [] (fun (v0_,v1_)=>[.box (v0_) 134 [.va (Value.map (some v1_))],.fact (MapA encK v1_ [])]) fun ⟨x8,x9⟩ h10=>?_
 refine aE (aE (aE (aK ?_)))
 refine ev_fin ⟨trivial,aL,_,rfl,?_⟩
 refine aG (aI ?_)
 exact ev_fin ⟨trivial,_,rfl,((b2,x0,x3,x5,x6,x8,x9)),rfl,by trivial,aF [1,0,2,3,4,5]⟩
 all_goals skip
theorem badS (id n:Int) (h:¬ (2≤n∧n≤7∧0≤id∧id<n)):Triple Tryz.prog 22 [.int .i64 id,.int .i64 n,.int .i64 262144] [] [TabA] Unit (fun _=>.tuple #[.pointer none,.int .i64 2]) (fun _=>True) (fun _=>[]):=by
 refine aT Tryz.func22 [vI id,vI n,vI 262144] [] (fun E=>?_) ⟨trivial,trivial,trivial,trivial⟩
 refine aG ?_
 refine ev_if_lt (fun h0=>?_) (fun h0=>?_)
 refine aG ?_
 refine ev_fin ⟨trivial,_,rfl,(()),rfl,(by trivial),Frm.nil _⟩
 refine aG ?_
 refine ev_if_lt (fun h1=>?_) (fun h1=>?_)
 refine aG ?_
 refine ev_fin ⟨trivial,_,rfl,(()),rfl,(by trivial),Frm.nil _⟩
 refine aG ?_
 refine ev_if_lt (fun h2=>?_) (fun h2=>?_)
 refine aG ?_
 refine ev_fin ⟨trivial,_,rfl,(()),rfl,(by trivial),Frm.nil _⟩
 refine aG ?_
 refine aJ ?_ (decide_eq_true (show id ≥ n from (by omega)))
 refine ev_fin ⟨trivial,_,rfl,(()),rfl,(by trivial),Frm.nil _⟩
 all_goals skip
def mailsP:List MailS:=[⟨1,1,0,0,2,0,0,0,0,none,0,0,0,0,0,0,0,0,0,0⟩,⟨1,1,2,0,2,0,0,0,0,none,0,0,0,0,0,0,0,0,0,0⟩]
set_option maxHeartbeats 8000000 in
theorem claimS (s q p bk bm rt:Nat):Triple Tryz.prog 14 [pP s,.int .i64 0] [Pt s 67 (SV.denL (siteV 1 3 q p bk rt none none none 0 0 none 0 0)),StQ p q noSta 0 false 0 0,Pt bk 170 [.bool true,.int .i64 0,.map (some bm)],MapA encI bm []] [TabA] (Nat × Option Addr × Nat × Option Addr × Nat) (fun _=>.int .i64 0) (fun _=>True)
 (fun (b,A,a,O,oc)=>[Pt s 67 (SV.denL (siteV 1 3 q p bk rt (some ⟨b,0,none⟩) none O 2 oc none 0 0)),StQ p q sta1 0 true 47 0,Pt bk 170 [.bool true,.int .i64 0,.map (some bm)],MapA encI bm [(0,.agg #[.int .i64 2,.int .i64 16])],Pt b 152 (SV.denL (balV A a)),Row 28 18 O 2 oc (mailsP.flatMap encM)]):=by
 have R0:=regQ0 p q noSta 0 false 0 0 0 0 0 0 (by decide) rfl
 have R1:=regQ0 p q sta1 0 true 47 0 0 2 0 0 (by decide) rfl
 have W1:=fun bx A a=>writeQ0 p q noSta sta1 0 false 0 47 0 bx A a 1 0 2 0 0 0 wr1 rfl (by decide)
 have B1:=fun A a=>ballotT A a
 refine triple_intro Tryz.tbs_ok Tryz.func14 rfl [.pt 0 s 0,vI 0] [.box s 67 (siteV 1 3 q p bk rt none none none 0 0 none 0 0),.fact (StQ p q noSta 0 false 0 0),.box bk 170 [.bl true,vI 0,.va (.map (some bm))],.fact (MapA encI bm [])] ⟨rfl,trivial,trivial⟩ rfl (by simp [siteV,SV.good,SV.goodL]) ?_
 intro E
 refine aG ?_
 refine ev_inline Tryz.tbs_ok Tryz.func31 rfl rfl ?_
 refine aG ?_
 refine ev_inline Tryz.tbs_ok Tryz.func23 rfl rfl ?_
 refine aG ?_
 refine ev_fin ⟨trivial,aL,_,rfl,?_⟩
 refine aG (aJ (aI (aI ?_)))
 refine ev_fin ⟨trivial,aL,_,rfl,?_⟩
 refine aG (aI ?_)
 refine ev_inline Tryz.tbs_ok Tryz.func52 rfl rfl ?_
 refine aG ?_
 refine ev_inline Tryz.tbs_ok Tryz.func27 rfl rfl ?_
 refine aG ?_
 refine ev_new fun b0=>?_
 refine aC R0 [1] [] fun ⟨x1,x2⟩ h3=>?_
 refine ev_new fun b4=>?_
 refine ev_fin ⟨trivial,aL,_,rfl,?_⟩
 refine aG ?_
 refine ev_new fun b5=>?_
 refine ev_stop (go_draw Tryz.tbs_ok false [0,6] [(0,true),(1,true),(2,true),(3,true),(4,true),(5,true),(6,true),(7,true),(8,true),(9,true),(10,true),(11,true),(12,true),(13,true),(14,true),(15,true),(16,true),(17,false),(18,false),(19,true),(20,true),(21,false),(22,false)] rfl ?_)
 refine aG (aE ?_)
 refine ev_stop (tk_indexArr Tryz.tbs_ok (0) aB rfl rfl rfl rfl rfl rfl rfl (by first | decide | omega) rfl rfl ?_)
 refine aG (aE ?_)
 refine ev_inline Tryz.tbs_ok Tryz.func95 rfl rfl ?_
 refine aG ?_
 refine ev_inline Tryz.tbs_ok Tryz.func124 rfl rfl ?_
 refine aG (aJ ?_)
 refine ev_fin ⟨trivial,aL,_,rfl,?_⟩
 refine aG (aI (aI (aI (aI (aI ?_)))))
 refine wN (0+1) ?_
 refine ev_stop (go_bin (.va (.int _ (((0) % (3):Nat):Int))) trivial rfl rfl rfl rfl rfl (by decide) (by decide) (fun w=>rem_run (show ¬3=0 from (by omega)) w) ?_)
 refine aG ?_
 refine wN (1-0 % 3) ?_
 refine wN (1-0 % 3+3) ?_
 refine ev_stop (go_bin (.va (.int _ (((1-0 % 3+3) % (3):Nat):Int))) trivial rfl rfl rfl rfl rfl (by decide) (by decide) (fun w=>rem_run (show ¬3=0 from (by omega)) w) ?_)
 refine aG ?_
 refine wN (0+1+(1-0 % 3+3) % 3) ?_
 refine aI ?_
 refine ev_fin ⟨trivial,aL,_,rfl,?_⟩
 refine aG (aE (aE (aE (aK (aI ?_)))))
 refine ev_stop (go_draw Tryz.tbs_ok false [0] [(0,true),(1,true),(2,true),(3,true),(4,true),(5,true),(6,false),(7,false),(8,false),(9,true),(10,true),(11,true),(12,true),(13,true),(14,true),(15,false),(16,false),(17,false),(18,false),(19,false),(20,false),(21,false),(22,false)] rfl ?_)
 refine aG (aE ?_)
 refine ev_stop (tk_indexArr Tryz.tbs_ok (0) aB rfl rfl rfl rfl rfl rfl rfl (by first | decide | omega) rfl rfl ?_)
 refine aG (aE ?_)
 refine ev_inline Tryz.tbs_ok Tryz.func25 rfl rfl ?_
 refine aG ?_
 refine ev_inline Tryz.tbs_ok Tryz.func63 rfl rfl ?_
 refine aG ?_
 refine ev_fin ⟨trivial,aL,_,rfl,?_⟩
 refine aG ?_
 refine ev_fin ⟨trivial,aL,_,rfl,?_⟩
 refine aG (aE (aE (aE (aI (aE (aE (aE (aE (aE ?_)))))))))
 refine aD (mayB (bk) (bm)) [2,3] [] (fun v0_=>[.box (bk) 170 [.bl true,vI 0,.va (Value.map (some bm))],.fact (MapA encI bm [])]) fun _ h6=>?_
 refine aE (aE (aE (aK (aI ?_))))
 refine ev_new fun b7=>?_
 refine ev_inline Tryz.tbs_ok Tryz.func65 rfl rfl ?_
 refine aG ?_
 refine ev_inline Tryz.tbs_ok Tryz.func27 rfl rfl ?_
 refine aG ?_
 refine ev_new fun b8=>?_
 refine aC R0 [1] [] fun ⟨x9,x10⟩ h11=>?_
 refine ev_new fun b12=>?_
 refine ev_fin ⟨trivial,aL,_,rfl,?_⟩
 refine aG ?_
 refine aC (W1 (b7) (none) (0)) [1] [.inl 0,.inr 7] fun _ h13=>?_
 refine aI ?_
 refine ev_inline Tryz.tbs_ok Tryz.func27 rfl rfl ?_
 refine aG ?_
 refine ev_new fun b14=>?_
 refine aC R1 [1] [] fun ⟨x15,x16⟩ h17=>?_
 refine ev_new fun b18=>?_
 refine ev_fin ⟨trivial,aL,_,rfl,?_⟩
 refine aG ?_
 refine ev_new fun b19=>?_
 refine ev_stop (go_draw Tryz.tbs_ok true [0,12] [(0,true),(1,true),(2,true),(3,true),(4,true),(5,true),(7,true),(8,true),(6,false),(9,false)] rfl ?_)
 refine aG (aE ?_)
 refine ev_stop (tk_indexArr Tryz.tbs_ok (0) aB rfl rfl rfl rfl rfl rfl rfl (by first | decide | omega) rfl rfl ?_)
 refine aG (aE ?_)
 refine ev_inline Tryz.tbs_ok Tryz.func25 rfl rfl ?_
 refine aG ?_
 refine ev_inline Tryz.tbs_ok Tryz.func63 rfl rfl ?_
 refine aG ?_
 refine ev_fin ⟨trivial,aL,_,rfl,?_⟩
 refine aG ?_
 refine ev_fin ⟨trivial,aL,_,rfl,?_⟩
 refine aG (aE (aE (aJ ?_)))
 refine ev_stop (go_indexArr Tryz.tbs_ok (0) rfl rfl rfl rfl rfl rfl (by first | decide | omega) rfl rfl ?_)
 refine aG ?_
 refine ev_stop (go_draw Tryz.tbs_ok true [0,12] [(0,true),(1,true),(2,true),(3,true),(4,true),(5,true),(7,true),(8,true),(6,false),(9,false)] rfl ?_)
 refine aG (aE ?_)
 refine ev_stop (tk_indexArr Tryz.tbs_ok (0) aB rfl rfl rfl rfl rfl rfl rfl (by first | decide | omega) rfl rfl ?_)
 refine aG (aE ?_)
 refine ev_inline Tryz.tbs_ok Tryz.func87 rfl rfl ?_
 refine aG ?_
 refine ev_inline Tryz.tbs_ok Tryz.func81 rfl rfl ?_
 refine aG ?_
 refine ev_fin ⟨trivial,aL,_,rfl,?_⟩
 refine aG ?_
 refine ev_fin ⟨trivial,aL,_,rfl,?_⟩
 refine aG (aE (aE (aJ ?_)))
 refine ev_stop (go_indexArr Tryz.tbs_ok (0) rfl rfl rfl rfl rfl rfl (by first | decide | omega) rfl rfl ?_)
 refine aG ?_
 refine ev_stop (go_rounds 9 ?_)
 refine aG (aI ?_)
 refine ev_fin (go Tryz.tbs_ok 1000 ?_)
 refine ev_fin ⟨trivial,aL,_,rfl,?_⟩
 refine aG ?_
 refine ev_stop (go_draw Tryz.tbs_ok false [0] [(0,true),(1,true),(2,true),(3,true),(4,true),(5,true),(6,true),(7,true),(8,true),(9,true),(10,false)] rfl ?_)
 refine aG (aE ?_)
 refine aD (grantB (bk) (bm)) [2,3] [] (fun v0_=>[.box (bk) 170 [.bl true,vI 0,.va (Value.map (some bm))],.fact (MapA encI bm [(0,Value.agg #[Value.int IntKind.i64 2,Value.int IntKind.i64 16])])]) fun _ h20=>?_
 refine aK ?_
 refine ev_stop (go_draw Tryz.tbs_ok false [0] [(0,true),(1,true),(2,true),(3,true),(4,true),(5,true),(6,true),(7,true),(8,true),(9,true),(10,true),(11,true),(12,true),(13,true),(14,true),(15,true),(16,false),(17,false),(18,false),(19,true),(20,true),(21,false),(22,false)] rfl ?_)
 refine aG (aE ?_)
 refine ev_inline Tryz.tbs_ok Tryz.func27 rfl rfl ?_
 refine aG ?_
 refine ev_new fun b21=>?_
 refine aC R1 [1] [] fun ⟨x22,x23⟩ h24=>?_
 refine ev_new fun b25=>?_
 refine ev_fin ⟨trivial,aL,_,rfl,?_⟩
 refine aG (aE ?_)
 refine aD (B1 (x22) (x23)) [] [] (fun (v0_,v1_,v2_)=>[.box (v0_) 152 [vI 0,vI 2,vI 1,vI 3,vI 0,.bl false,.bl true,.bl false,.bl false,.bl false,.bl false,.bl false,vI 0,vI 0,vL none 0 0,vI 0,vI 2,vI 0,vL v1_ 0 v2_,vI 0,vI 0,vI 0,vL none 0 0,vI 0,vI 0,vI 0,vL none 0 0,vI 0,vI 0,vI 0,vL none 0 0,vI 0,vI 0,vI 0,vL none 0 0,vI 0,vI 0,vI 0,vL none 0 0,vI 0]]) fun ⟨x26,x27,x28⟩ h29=>?_
 refine aE (aE (aE (aK (aI ?_))))
 refine ev_stop (go_indexArr Tryz.tbs_ok (0) rfl rfl rfl rfl rfl rfl (by first | decide | omega) rfl rfl ?_)
 refine aG ?_
 refine aD (mailB (x26) (x27) (x28)) [15] [] (fun (v0_,v1_)=>[.box (x26) 152 [vI 0,vI 2,vI 1,vI 3,vI 0,.bl false,.bl true,.bl false,.bl false,.bl false,.bl false,.bl false,vI 0,vI 0,vL none 0 0,vI 0,vI 2,vI 0,vL x27 0 x28,vI 0,vI 0,vI 0,vL none 0 0,vI 0,vI 0,vI 0,vL none 0 0,vI 0,vI 0,vI 0,vL none 0 0,vI 0,vI 0,vI 0,vL none 0 0,vI 0,vI 0,vI 0,vL none 0 0,vI 0],.fact (Row 28 18 v0_ 2 v1_ (List.flatMap encM [{ k:=1,fr:=1,to:=0,st:=0,ep:=2,vi:=0,ba:=0,le:=0,sm:=0,A:=none,n:=0,a:=0,o1:=0,o2:=0,o3:=0,o4:=0,o5:=0,a1:=0,a2:=0,a3:=0:MailS },{ k:=1,fr:=1,to:=2,st:=0,ep:=2,vi:=0,ba:=0,le:=0,sm:=0,A:=none,n:=0,a:=0,o1:=0,o2:=0,o3:=0,o4:=0,o5:=0,a1:=0,a2:=0,a3:=0:MailS }]))]) fun ⟨x30,x31⟩ h32=>?_
 refine ev_inline Tryz.tbs_ok Tryz.func47 rfl rfl ?_
 refine aG ?_
 refine ev_stop (go_appendE (sz:=18) (M:=[]) (enc:=encM) Tryz.tbs_ok [] [] (.inr 16) ([]) ([{ k:=1,fr:=1,to:=0,st:=0,ep:=2,vi:=0,ba:=0,le:=0,sm:=0,A:=none,n:=0,a:=0,o1:=0,o2:=0,o3:=0,o4:=0,o5:=0,a1:=0,a2:=0,a3:=0:MailS },{ k:=1,fr:=1,to:=2,st:=0,ep:=2,vi:=0,ba:=0,le:=0,sm:=0,A:=none,n:=0,a:=0,o1:=0,o2:=0,o3:=0,o4:=0,o5:=0,a1:=0,a2:=0,a3:=0:MailS }]) ([{ k:=1,fr:=1,to:=0,st:=0,ep:=2,vi:=0,ba:=0,le:=0,sm:=0,A:=none,n:=0,a:=0,o1:=0,o2:=0,o3:=0,o4:=0,o5:=0,a1:=0,a2:=0,a3:=0:MailS },{ k:=1,fr:=1,to:=2,st:=0,ep:=2,vi:=0,ba:=0,le:=0,sm:=0,A:=none,n:=0,a:=0,o1:=0,o2:=0,o3:=0,o4:=0,o5:=0,a1:=0,a2:=0,a3:=0:MailS }]) (2) rfl rfl rfl rfl rfl rfl rfl (by decide) rfl (by decide) (fun _ _=>Row.nil _ _ _) rfl (fun _ h=>Row.rd h) (by first | rfl | simp) (by first | rfl | omega) (aM (2)) (aN (2)) (fun _ _=>aL) (fun A33 c34 h35=>?_))
 refine aG ?_
 refine ev_fin ⟨trivial,aL,_,rfl,?_⟩
 refine aG ?_
 refine ev_fin ⟨trivial,aL,_,rfl,?_⟩
 refine aG ?_
 exact ev_fin ⟨trivial,_,rfl,((x26,x27,x28,A33,c34)),rfl,by trivial,aF [0,1,2,3,15,17]⟩
 all_goals skip
set_option maxHeartbeats 8000000 in
theorem sync1S (s q p bk rt:Nat) (ba:Option Addr) (O:Option Addr) (oc:Nat):Triple Tryz.prog 6 [pP s] [Pt s 67 (SV.denL (siteV 1 3 q p bk rt ba none O 2 oc none 0 0)),StQ p q sta1 0 true 47 0] [TabA] Unit (fun _=>.tuple #[.slice O 2 oc,.slice none 0 0,.int .i64 0]) (fun _=>True)
 (fun _=>[Pt s 67 (SV.denL (siteV 1 3 q p bk rt ba none none 0 0 none 0 0)),StQ p q sta1 0 false 47 0]):=by
 have S1:=syncQ p q sta1 0 true 47 0
 refine triple_intro Tryz.tbs_ok Tryz.func6 rfl [.pt 0 s 0] [.box s 67 (siteV 1 3 q p bk rt ba none O 2 oc none 0 0),.fact (StQ p q sta1 0 true 47 0)] ⟨rfl,trivial⟩ rfl (by simp [siteV,SV.good,SV.goodL]) ?_
 intro E
 refine aG ?_
 refine ev_inline Tryz.tbs_ok Tryz.func23 rfl rfl ?_
 refine aG ?_
 refine ev_fin ⟨trivial,aL,_,rfl,?_⟩
 refine aG (aI ?_)
 refine aC S1 [1] [.inl 0] fun _ h0=>?_
 refine aI ?_
 refine ev_stop (go_rounds 9 ?_)
 refine aG (aJ ?_)
 refine ev_stop (go_indexAg Tryz.tbs_ok (0) rfl rfl rfl rfl rfl rfl (by decide) rfl ?_)
 refine aG ?_
 refine ev_inline Tryz.tbs_ok Tryz.func25 rfl rfl ?_
 refine aG ?_
 refine ev_inline Tryz.tbs_ok Tryz.func63 rfl rfl ?_
 refine aG ?_
 refine ev_fin ⟨trivial,aL,_,rfl,?_⟩
 refine aG ?_
 refine ev_fin ⟨trivial,aL,_,rfl,?_⟩
 refine aG (aI ?_)
 refine wN (0+1) ?_
 refine ev_fin (go Tryz.tbs_ok 1000 ?_)
 refine aJ ?_
 refine ev_stop (go_indexAg Tryz.tbs_ok (0+1) rfl rfl rfl rfl rfl rfl (by decide) rfl ?_)
 refine aG ?_
 refine ev_inline Tryz.tbs_ok Tryz.func25 rfl rfl ?_
 refine aG ?_
 refine ev_inline Tryz.tbs_ok Tryz.func63 rfl rfl ?_
 refine aG ?_
 refine ev_fin ⟨trivial,aL,_,rfl,?_⟩
 refine aG ?_
 refine ev_fin ⟨trivial,aL,_,rfl,?_⟩
 refine aG (aI ?_)
 refine wN (0+1+1) ?_
 refine ev_fin (go Tryz.tbs_ok 1000 ?_)
 refine aJ ?_
 refine ev_stop (go_indexAg Tryz.tbs_ok (0+1+1) rfl rfl rfl rfl rfl rfl (by decide) rfl ?_)
 refine aG ?_
 refine ev_inline Tryz.tbs_ok Tryz.func25 rfl rfl ?_
 refine aG ?_
 refine ev_inline Tryz.tbs_ok Tryz.func63 rfl rfl ?_
 refine aG ?_
 refine ev_fin ⟨trivial,aL,_,rfl,?_⟩
 refine aG ?_
 refine ev_fin ⟨trivial,aL,_,rfl,?_⟩
 refine aG (aI ?_)
 refine wN (0+1+1+1) ?_
 refine ev_fin (go Tryz.tbs_ok 1000 ?_)
 refine aJ ?_
 refine ev_stop (go_indexAg Tryz.tbs_ok (0+1+1+1) rfl rfl rfl rfl rfl rfl (by decide) rfl ?_)
 refine aG ?_
 refine ev_inline Tryz.tbs_ok Tryz.func25 rfl rfl ?_
 refine aG ?_
 refine ev_inline Tryz.tbs_ok Tryz.func63 rfl rfl ?_
 refine aG ?_
 refine ev_fin ⟨trivial,aL,_,rfl,?_⟩
 refine aG ?_
 refine ev_fin ⟨trivial,aL,_,rfl,?_⟩
 refine aG (aI ?_)
 refine wN (0+1+1+1+1) ?_
 refine ev_fin (go Tryz.tbs_ok 1000 ?_)
 refine aI ?_
 refine ev_fin (go Tryz.tbs_ok 1000 ?_)
 refine ev_stop (go_draw Tryz.tbs_ok false [0] [(0,true),(1,true),(2,true),(3,true),(4,true),(5,true),(6,true),(7,true),(8,false),(9,false)] rfl ?_)
 refine aG (aE (aE (aK ?_)))
 exact ev_fin ⟨trivial,_,rfl,(),rfl,by trivial,aF [0,1]⟩
 all_goals skip
def mailsA (A1:Option Addr) (c1:Nat) (A2:Option Addr) (c2 n:Nat):List MailS:=[⟨4,1,0,0,2,0,0,0,0,A1,n,c1,0,0,0,0,0,0,0,0⟩,⟨4,1,2,0,2,0,0,0,0,A2,n,c2,0,0,0,0,0,0,0,0⟩]
theorem wonW (b:Nat) (A:Option Addr) (a:Nat) (B:Option Addr) (c:Nat):Triple Tryz.prog 87 [pP b] [Pt b 152 (SV.denL (balW A a B c))] [] Unit (fun _=>.int .i64 2) (fun _=>True) (fun _=>[Pt b 152 (SV.denL (balW A a B c))]):=by
 refine triple_intro Tryz.tbs_ok Tryz.func87 rfl [.pt 0 b 0] [.box b 152 (balW A a B c)] ⟨rfl,trivial⟩ rfl (by simp [balW,regV,regZ,SV.good,SV.goodL]) ?_
 intro E
 refine aG ?_
 refine ev_inline Tryz.tbs_ok Tryz.func81 rfl rfl ?_
 refine aG ?_
 refine ev_fin ⟨trivial,aL,_,rfl,?_⟩
 refine aG (aI ?_)
 exact ev_fin ⟨trivial,_,rfl,(),rfl,by trivial,aF [0]⟩
 all_goals skip
set_option maxHeartbeats 8000000 in
theorem chosenB (b:Nat) (A:Option Addr) (a:Nat) (B:Option Addr) (c:Nat):Triple Tryz.prog 86 [pP b] [Pt b 152 (SV.denL (balW A a B c))] [] Sl (fun (C,d)=>.tuple #[.slice C 0 d,.int .i64 0,.int .i64 0]) (fun _=>True) (fun _=>[Pt b 152 (SV.denL (balW A a B c))]):=by
 have T1:=wonB b A a B c
 have T2:=listB b A a B c
 have T3:=fun C d=>(bestB C d A a B c).ofRow 45 d
 refine triple_intro Tryz.tbs_ok Tryz.func86 rfl [.pt 0 b 0] [.box b 152 (balW A a B c)] ⟨rfl,trivial⟩ rfl (by simp [balW,regV,regZ,SV.good,SV.goodL]) ?_
 intro E
 refine aG ?_
 refine ev_inline Tryz.tbs_ok Tryz.func81 rfl rfl ?_
 refine aG ?_
 refine ev_fin ⟨trivial,aL,_,rfl,?_⟩
 refine aG (aI ?_)
 refine aD T1 [0] [] (fun v0_=>[.box (b) 152 [vI 0,vI 2,vI 1,vI 3,vI 0,.bl true,.bl true,.bl false,.bl false,.bl false,.bl false,.bl false,vI 2,vI 0,vL B 0 c,vI 0,vI 2,vI 0,vL A 0 a,vI 0,vI 0,vI 0,vL none 0 0,vI 0,vI 0,vI 0,vL none 0 0,vI 0,vI 0,vI 0,vL none 0 0,vI 0,vI 0,vI 0,vL none 0 0,vI 0,vI 0,vI 0,vL none 0 0,vI 0]]) fun _ h0=>?_
 refine aI ?_
 refine aD T2 [0] [] (fun (v0_,v1_)=>[.box (b) 152 [vI 0,vI 2,vI 1,vI 3,vI 0,.bl true,.bl true,.bl false,.bl false,.bl false,.bl false,.bl false,vI 2,vI 0,vL B 0 c,vI 0,vI 2,vI 0,vL A 0 a,vI 0,vI 0,vI 0,vL none 0 0,vI 0,vI 0,vI 0,vL none 0 0,vI 0,vI 0,vI 0,vL none 0 0,vI 0,vI 0,vI 0,vL none 0 0,vI 0,vI 0,vI 0,vL none 0 0,vI 0],.fact (Row 45 4 v0_ 2 v1_ (List.flatMap encH [{ p:=2,v:=0,A:=B,n:=0,a:=c,c:=0:RgS },{ p:=2,v:=0,A:=A,n:=0,a:=a,c:=0:RgS }]))]) fun ⟨x1,x2⟩ h3=>?_
 refine aC (T3 (x1) (x2)) [] [.inr 1] fun _ h4=>?_
 refine ev_stop (go_index0 (sz:=4) Tryz.tbs_ok (.inr 1) (0) rfl rfl rfl rfl rfl rfl (by omega) rfl Row.at0 (fun g5 e6=>?_))
 subst e6
 refine aG ?_
 refine ev_stop (go_loadL Tryz.tbs_ok (.inr 1) 0 2 ({ p:=2,v:=0,A:=B,n:=0,a:=c,c:=0:RgS }) rfl rfl rfl rfl rfl (fun _ h=>Row.rd h) (by first | omega | rfl) (fun _=>rfl) (by decide) (by decide) ?_)
 refine aG ?_
 refine aC (cloneE0 (B) (c)) [] [] fun ⟨x7,x8⟩ h9=>?_
 refine ev_stop (go_rounds 9 ?_)
 refine aG (aJ ?_)
 refine ev_stop (go_atE (sz:=4) Tryz.tbs_ok (0) rfl rfl rfl rfl rfl rfl (by omega) ?_)
 refine aG ?_
 refine ev_stop (go_loadL Tryz.tbs_ok (.inr 1) 0 0 ({ p:=2,v:=0,A:=B,n:=0,a:=c,c:=0:RgS }) rfl rfl rfl rfl rfl (fun _ h=>Row.rd h) (by first | omega | rfl) (fun _=>rfl) (by decide) (by decide) ?_)
 refine aG ?_
 refine ev_new fun b10=>?_
 refine aJ ?_
 refine wN (0+1) ?_
 refine ev_fin (go Tryz.tbs_ok 1000 ?_)
 refine aJ ?_
 refine ev_stop (go_atE (sz:=4) Tryz.tbs_ok (0+1) rfl rfl rfl rfl rfl rfl (by omega) ?_)
 refine aG ?_
 refine ev_stop (go_loadL Tryz.tbs_ok (.inr 1) 1 0 ({ p:=2,v:=0,A:=A,n:=0,a:=a,c:=0:RgS }) rfl rfl rfl rfl rfl (fun _ h=>Row.rd h) (by first | omega | rfl) (fun _=>rfl) (by decide) (by decide) ?_)
 refine aG ?_
 refine ev_new fun b11=>?_
 refine aJ ?_
 refine wN (0+1+1) ?_
 refine ev_fin (go Tryz.tbs_ok 1000 ?_)
 refine aI ?_
 refine ev_fin (go Tryz.tbs_ok 1000 ?_)
 exact ev_fin ⟨trivial,_,rfl,((x7,x8)),rfl,by trivial,aF [0]⟩
 all_goals skip
set_option maxHeartbeats 8000000 in
theorem takeP (s q p bk rt b:Nat) (A:Option Addr) (a:Nat):Triple Tryz.prog 13 [pP s,.agg (encM ⟨2,0,1,0,2,0,0,0,0,none,0,0,0,0,0,0,0,0,0,0⟩).toArray] [Pt s 67 (SV.denL (siteV 1 3 q p bk rt (some ⟨b,0,none⟩) none none 0 0 none 0 0)),StQ p q sta1 0 false 47 0,Pt b 152 (SV.denL (balV A a))] [TabA,Rd 1 (some ⟨0,0,none⟩) 11 (([0,35,119,3,123,51,19,128,257,3,3]:List Int).flatMap encN)] (Nat × Option Addr × Nat × Option Addr × Nat × Option Addr × Nat × Option Addr × Nat) (fun _=>.int .i64 0) (fun _=>True)
 (fun (o,O,oc,A1,c1,A2,c2,B,c)=>[Pt s 67 (SV.denL (siteV 1 3 q p bk rt none (some ⟨o,0,none⟩) O 2 oc none 0 0)),StQ p q sta2 0 true 94 0,Pt b 152 (SV.denL (balW A a B c)),Pt o 105 (SV.denL (ownV (-1) (-1) (-1) 0 0 (-1))),Row 28 18 O 2 oc ((mailsA A1 c1 A2 c2 0).flatMap encM)]):=by
 have R0:=regQ0 p q sta1 0 false 47 0 0 2 0 0 (by decide) rfl
 have R1:=regQ0 p q sta2 0 true 94 0 0 2 2 0 (by decide) rfl
 have W1:=fun bx A a=>writeQ0 p q sta1 sta2 0 false 47 94 0 bx A a 2 0 2 0 0 0 wr2 rfl (by decide)
 have M1:=fun o A a=>mailO0 o (-1) A a
 refine triple_intro Tryz.tbs_ok Tryz.func13 rfl [.pt 0 s 0,.ag [vI 2,vI 0,vI 1,vI 0,vI 2,vI 0,vI 0,vI 0,vI 0,vL none 0 0,vI 0,vI 0,vI 0,vI 0,vI 0,vI 0,vI 0,vI 0]] [.box s 67 (siteV 1 3 q p bk rt (some ⟨b,0,none⟩) none none 0 0 none 0 0),.fact (StQ p q sta1 0 false 47 0),.box b 152 (balV A a)] ⟨rfl,by simp [SV.good,SV.goodL],trivial⟩ rfl (by simp [siteV,balV,regV,regZ,SV.good,SV.goodL]) ?_
 intro E
 refine aG ?_
 refine ev_new fun b0=>?_
 refine ev_inline Tryz.tbs_ok Tryz.func23 rfl rfl ?_
 refine aG ?_
 refine ev_fin ⟨trivial,aL,_,rfl,?_⟩
 refine aG (aI ?_)
 refine ev_stop (go_draw Tryz.tbs_ok true [0,3] [(0,true),(1,true),(2,true),(3,true),(4,true),(5,false),(6,false),(7,false),(8,true),(9,true),(10,false),(11,false),(12,false),(13,false),(14,false),(15,false)] rfl ?_)
 refine aG (aE ?_)
 refine aC promT [] [.inl 1] fun _ h1=>?_
 refine aE (aE (aE (aI (aE (aE (aE (aE (aE (aE (aE (aI (aI ?_))))))))))))
 refine aI (aI (aJ ?_))
 refine ev_stop (go_draw Tryz.tbs_ok false [0,3] [(0,true),(1,true),(2,true),(3,true),(4,true),(5,true),(6,true),(7,false)] rfl ?_)
 refine aG (aE ?_)
 refine ev_stop (tk_indexArr Tryz.tbs_ok (0) aB rfl rfl rfl rfl rfl rfl rfl (by first | decide | omega) rfl rfl ?_)
 refine aG (aE (aK ?_))
 refine aD (addB (b) (A) (a)) [2] [] (fun (v0_,v1_)=>[.box (b) 152 [vI 0,vI 2,vI 1,vI 3,vI 0,.bl true,.bl true,.bl false,.bl false,.bl false,.bl false,.bl false,vI 2,vI 0,vL v0_ 0 v1_,vI 0,vI 2,vI 0,vL A 0 a,vI 0,vI 0,vI 0,vL none 0 0,vI 0,vI 0,vI 0,vL none 0 0,vI 0,vI 0,vI 0,vL none 0 0,vI 0,vI 0,vI 0,vL none 0 0,vI 0,vI 0,vI 0,vL none 0 0,vI 0]]) fun ⟨x2,x3⟩ h4=>?_
 refine aJ ?_
 refine aD (wonB (b) (A) (a) (x2) (x3)) [2] [] (fun v0_=>[.box (b) 152 [vI 0,vI 2,vI 1,vI 3,vI 0,.bl true,.bl true,.bl false,.bl false,.bl false,.bl false,.bl false,vI 2,vI 0,vL x2 0 x3,vI 0,vI 2,vI 0,vL A 0 a,vI 0,vI 0,vI 0,vL none 0 0,vI 0,vI 0,vI 0,vL none 0 0,vI 0,vI 0,vI 0,vL none 0 0,vI 0,vI 0,vI 0,vL none 0 0,vI 0,vI 0,vI 0,vL none 0 0,vI 0]]) fun _ h5=>?_
 refine aJ ?_
 refine ev_inline Tryz.tbs_ok Tryz.func44 rfl rfl ?_
 refine aG ?_
 refine ev_stop (go_indexArr Tryz.tbs_ok (0) rfl rfl rfl rfl rfl rfl (by first | decide | omega) rfl rfl ?_)
 refine aG ?_
 refine ev_stop (go_indexArr Tryz.tbs_ok (0) rfl rfl rfl rfl rfl rfl (by first | decide | omega) rfl rfl ?_)
 refine aG ?_
 refine aD (chosenB (b) (A) (a) (x2) (x3)) [2] [] (fun (v0_,v1_)=>[.box (b) 152 [vI 0,vI 2,vI 1,vI 3,vI 0,.bl true,.bl true,.bl false,.bl false,.bl false,.bl false,.bl false,vI 2,vI 0,vL x2 0 x3,vI 0,vI 2,vI 0,vL A 0 a,vI 0,vI 0,vI 0,vL none 0 0,vI 0,vI 0,vI 0,vL none 0 0,vI 0,vI 0,vI 0,vL none 0 0,vI 0,vI 0,vI 0,vL none 0 0,vI 0,vI 0,vI 0,vL none 0 0,vI 0]]) fun ⟨x6,x7⟩ h8=>?_
 refine aD (wonW (b) (A) (a) (x2) (x3)) [2] [] (fun v0_=>[.box (b) 152 [vI 0,vI 2,vI 1,vI 3,vI 0,.bl true,.bl true,.bl false,.bl false,.bl false,.bl false,.bl false,vI 2,vI 0,vL x2 0 x3,vI 0,vI 2,vI 0,vL A 0 a,vI 0,vI 0,vI 0,vL none 0 0,vI 0,vI 0,vI 0,vL none 0 0,vI 0,vI 0,vI 0,vL none 0 0,vI 0,vI 0,vI 0,vL none 0 0,vI 0,vI 0,vI 0,vL none 0 0,vI 0]]) fun _ h9=>?_
 refine ev_new fun b10=>?_
 refine ev_inline Tryz.tbs_ok Tryz.func27 rfl rfl ?_
 refine aG ?_
 refine ev_new fun b11=>?_
 refine aC R0 [1] [] fun ⟨x12,x13⟩ h14=>?_
 refine ev_new fun b15=>?_
 refine ev_fin ⟨trivial,aL,_,rfl,?_⟩
 refine aG (aI ?_)
 refine ev_inline Tryz.tbs_ok Tryz.func65 rfl rfl ?_
 refine aG ?_
 refine ev_inline Tryz.tbs_ok Tryz.func27 rfl rfl ?_
 refine aG ?_
 refine ev_new fun b16=>?_
 refine aC R0 [1] [] fun ⟨x17,x18⟩ h19=>?_
 refine ev_new fun b20=>?_
 refine ev_fin ⟨trivial,aL,_,rfl,?_⟩
 refine aG ?_
 refine aC (W1 (b10) (x6) (x7)) [1] [.inl 0,.inr 4] fun _ h21=>?_
 refine aI ?_
 refine ev_inline Tryz.tbs_ok Tryz.func27 rfl rfl ?_
 refine aG ?_
 refine ev_new fun b22=>?_
 refine aC R1 [1] [] fun ⟨x23,x24⟩ h25=>?_
 refine ev_new fun b26=>?_
 refine ev_fin ⟨trivial,aL,_,rfl,?_⟩
 refine aG ?_
 refine ev_new fun b27=>?_
 refine ev_stop (go_draw Tryz.tbs_ok true [0,11] [(0,true),(1,true),(2,true),(3,true),(4,true),(5,true),(7,true),(8,true),(6,false),(9,false)] rfl ?_)
 refine aG (aE ?_)
 refine ev_stop (tk_indexArr Tryz.tbs_ok (0) aB rfl rfl rfl rfl rfl rfl rfl (by first | decide | omega) rfl rfl ?_)
 refine aG (aE ?_)
 refine ev_inline Tryz.tbs_ok Tryz.func25 rfl rfl ?_
 refine aG ?_
 refine ev_inline Tryz.tbs_ok Tryz.func63 rfl rfl ?_
 refine aG ?_
 refine ev_fin ⟨trivial,aL,_,rfl,?_⟩
 refine aG ?_
 refine ev_fin ⟨trivial,aL,_,rfl,?_⟩
 refine aG (aE (aE (aJ ?_)))
 refine ev_stop (go_indexArr Tryz.tbs_ok (0) rfl rfl rfl rfl rfl rfl (by first | decide | omega) rfl rfl ?_)
 refine aG ?_
 refine ev_stop (go_draw Tryz.tbs_ok true [0,11] [(0,true),(1,true),(2,true),(3,true),(4,true),(5,true),(7,true),(8,true),(6,false),(9,false)] rfl ?_)
 refine aG (aE ?_)
 refine ev_stop (tk_indexArr Tryz.tbs_ok (0) aB rfl rfl rfl rfl rfl rfl rfl (by first | decide | omega) rfl rfl ?_)
 refine aG (aE ?_)
 refine ev_inline Tryz.tbs_ok Tryz.func87 rfl rfl ?_
 refine aG ?_
 refine ev_inline Tryz.tbs_ok Tryz.func81 rfl rfl ?_
 refine aG ?_
 refine ev_fin ⟨trivial,aL,_,rfl,?_⟩
 refine aG ?_
 refine ev_fin ⟨trivial,aL,_,rfl,?_⟩
 refine aG (aE (aE (aJ ?_)))
 refine ev_stop (go_indexArr Tryz.tbs_ok (0) rfl rfl rfl rfl rfl rfl (by first | decide | omega) rfl rfl ?_)
 refine aG ?_
 refine ev_stop (go_rounds 9 ?_)
 refine aG (aI ?_)
 refine ev_fin (go Tryz.tbs_ok 1000 ?_)
 refine ev_fin ⟨trivial,aL,_,rfl,?_⟩
 refine aG ?_
 refine ev_stop (go_draw Tryz.tbs_ok false [0] [(0,true),(1,true),(2,true),(3,true),(4,true),(5,true),(6,true),(7,true),(8,true),(9,true),(10,false),(11,false),(12,true),(13,true),(14,false),(15,false)] rfl ?_)
 refine aG (aE ?_)
 refine aD (ownersT (b) (A) (a) (x2) (x3)) [2] [] (fun v0_=>[.box (b) 152 [vI 0,vI 2,vI 1,vI 3,vI 0,.bl true,.bl true,.bl false,.bl false,.bl false,.bl false,.bl false,vI 2,vI 0,vL x2 0 x3,vI 0,vI 2,vI 0,vL A 0 a,vI 0,vI 0,vI 0,vL none 0 0,vI 0,vI 0,vI 0,vL none 0 0,vI 0,vI 0,vI 0,vL none 0 0,vI 0,vI 0,vI 0,vL none 0 0,vI 0,vI 0,vI 0,vL none 0 0,vI 0],.box (v0_) 105 [vI 0,vI 2,vI 1,vI 3,vI (-1),vI (-1),vI (-1),vI (-1),vI (-1),vI (-1),vI (-1),vI 0,vI 0,vI (-1),vI (-1),vI (-1),vI (-1),vI (-1),.bl false,vI 0]]) fun x28 h29=>?_
 refine aE (aE (aE (aK (aI ?_))))
 refine ev_stop (go_indexArr Tryz.tbs_ok (0) rfl rfl rfl rfl rfl rfl (by first | decide | omega) rfl rfl ?_)
 refine aG ?_
 refine ev_stop (go_draw Tryz.tbs_ok false [0] [(0,true),(1,true),(2,true),(3,true),(5,true),(6,true),(7,true),(8,true),(4,false),(9,false),(10,false)] rfl ?_)
 refine aG (aE ?_)
 refine ev_inline Tryz.tbs_ok Tryz.func27 rfl rfl ?_
 refine aG ?_
 refine ev_new fun b30=>?_
 refine aC R1 [1] [] fun ⟨x31,x32⟩ h33=>?_
 refine ev_new fun b34=>?_
 refine ev_fin ⟨trivial,aL,_,rfl,?_⟩
 refine aG (aE ?_)
 refine aD (M1 (x28) (x31) (x32)) [12] [] (fun (v0_,v1_,v2_,v3_,v4_,v5_)=>[.box (x28) 105 [vI 0,vI 2,vI 1,vI 3,vI (-1),vI (-1),vI (-1),vI (-1),vI (-1),vI (-1),vI (-1),vI 0,vI 0,vI (-1),vI (-1),vI (-1),vI (-1),vI (-1),.bl false,vI 0],.fact (Row 28 18 v0_ 2 v1_ (List.flatMap encM [{ k:=4,fr:=1,to:=0,st:=0,ep:=2,vi:=0,ba:=0,le:=0,sm:=0,A:=v2_,n:=0,a:=v3_,o1:=0,o2:=0,o3:=0,o4:=0,o5:=0,a1:=0,a2:=0,a3:=0:MailS },{ k:=4,fr:=1,to:=2,st:=0,ep:=2,vi:=0,ba:=0,le:=0,sm:=0,A:=v4_,n:=0,a:=v5_,o1:=0,o2:=0,o3:=0,o4:=0,o5:=0,a1:=0,a2:=0,a3:=0:MailS }]))]) fun ⟨x35,x36,x37,x38,x39,x40⟩ h41=>?_
 refine aE ?_
 refine ev_inline Tryz.tbs_ok Tryz.func47 rfl rfl ?_
 refine aG ?_
 refine ev_stop (go_appendE (sz:=18) (M:=[]) (enc:=encM) Tryz.tbs_ok [] [] (.inr 15) ([]) ([{ k:=4,fr:=1,to:=0,st:=0,ep:=2,vi:=0,ba:=0,le:=0,sm:=0,A:=x37,n:=0,a:=x38,o1:=0,o2:=0,o3:=0,o4:=0,o5:=0,a1:=0,a2:=0,a3:=0:MailS },{ k:=4,fr:=1,to:=2,st:=0,ep:=2,vi:=0,ba:=0,le:=0,sm:=0,A:=x39,n:=0,a:=x40,o1:=0,o2:=0,o3:=0,o4:=0,o5:=0,a1:=0,a2:=0,a3:=0:MailS }]) ([{ k:=4,fr:=1,to:=0,st:=0,ep:=2,vi:=0,ba:=0,le:=0,sm:=0,A:=x37,n:=0,a:=x38,o1:=0,o2:=0,o3:=0,o4:=0,o5:=0,a1:=0,a2:=0,a3:=0:MailS },{ k:=4,fr:=1,to:=2,st:=0,ep:=2,vi:=0,ba:=0,le:=0,sm:=0,A:=x39,n:=0,a:=x40,o1:=0,o2:=0,o3:=0,o4:=0,o5:=0,a1:=0,a2:=0,a3:=0:MailS }]) (2) rfl rfl rfl rfl rfl rfl rfl (by decide) rfl (by decide) (fun _ _=>Row.nil _ _ _) rfl (fun _ h=>Row.rd h) (by first | rfl | simp) (by first | rfl | omega) (aM (2)) (aN (2)) (fun _ _=>aL) (fun A42 c43 h44=>?_))
 refine aG ?_
 refine ev_fin ⟨trivial,aL,_,rfl,?_⟩
 refine aG (aK ?_)
 refine ev_fin ⟨trivial,aL,_,rfl,?_⟩
 refine aG ?_
 exact ev_fin ⟨trivial,_,rfl,((x28,A42,c43,x37,x38,x39,x40,x2,x3)),rfl,by trivial,aF [0,1,2,12,16]⟩
 all_goals skip
set_option maxHeartbeats 8000000 in
theorem ownerS (s q p bk rt o:Nat) (a0 a1 a2:Int) (O:Option Addr) (on oc:Nat):Triple Tryz.prog 9 [pP s,.int .i64 0] [Pt s 67 (SV.denL (siteV 1 3 q p bk rt none (some ⟨o,0,none⟩) O on oc none 0 0)),Pt o 105 (SV.denL (ownV a0 a1 a2 0 0 (-1)))] [] Unit (fun _=>.tuple #[.int .i64 2,.bool true]) (fun _=>True)
 (fun _=>[Pt s 67 (SV.denL (siteV 1 3 q p bk rt none (some ⟨o,0,none⟩) O on oc none 0 0)),Pt o 105 (SV.denL (ownV a0 a1 a2 0 0 (-1)))]):=by
 have T1:=openO o a0 a1 a2
 have T2:=epochO o a0 a1 a2 0 0 (-1)
 refine triple_intro Tryz.tbs_ok Tryz.func9 rfl [.pt 0 s 0,vI 0] [.box s 67 (siteV 1 3 q p bk rt none (some ⟨o,0,none⟩) O on oc none 0 0),.box o 105 (ownV a0 a1 a2 0 0 (-1))] ⟨rfl,trivial,trivial⟩ rfl (by simp [siteV,ownV,SV.good,SV.goodL]) ?_
 intro E
 refine aG ?_
 refine ev_inline Tryz.tbs_ok Tryz.func31 rfl rfl ?_
 refine aG ?_
 refine ev_inline Tryz.tbs_ok Tryz.func23 rfl rfl ?_
 refine aG ?_
 refine ev_fin ⟨trivial,aL,_,rfl,?_⟩
 refine aG (aJ (aI (aI ?_)))
 refine ev_fin ⟨trivial,aL,_,rfl,?_⟩
 refine aG (aI ?_)
 refine ev_stop (go_indexArr Tryz.tbs_ok (0) rfl rfl rfl rfl rfl rfl (by first | decide | omega) rfl rfl ?_)
 refine aG ?_
 refine ev_stop (go_draw Tryz.tbs_ok false [0] [(0,true),(2,true),(3,true),(4,true),(5,true),(6,true),(1,false),(7,false),(8,false),(9,false)] rfl ?_)
 refine aG (aE ?_)
 refine aD T2 [1] [] (fun v0_=>[.box (o) 105 [vI 0,vI 2,vI 1,vI 3,vI a0,vI a1,vI a2,vI (-1),vI (-1),vI (-1),vI (-1),vI 0,vI 0,vI (-1),vI (-1),vI (-1),vI (-1),vI (-1),.bl false,vI 0]]) fun _ h0=>?_
 refine aE ?_
 refine aD T1 [1] [] (fun v0_=>[.box (o) 105 [vI 0,vI 2,vI 1,vI 3,vI a0,vI a1,vI a2,vI (-1),vI (-1),vI (-1),vI (-1),vI 0,vI 0,vI (-1),vI (-1),vI (-1),vI (-1),vI (-1),.bl false,vI 0]]) fun _ h1=>?_
 refine aE (aE (aK ?_))
 exact ev_fin ⟨trivial,_,rfl,(),rfl,by trivial,aF [0,1]⟩
 all_goals skip
set_option maxHeartbeats 8000000 in
theorem ownerN (s q p bk rt:Nat):Triple Tryz.prog 9 [pP s,.int .i64 0] [Pt s 67 (SV.denL (siteV 1 3 q p bk rt none none none 0 0 none 0 0))] [] Unit (fun _=>.tuple #[.int .i64 0,.bool false]) (fun _=>True)
 (fun _=>[Pt s 67 (SV.denL (siteV 1 3 q p bk rt none none none 0 0 none 0 0))]):=by
 refine triple_intro Tryz.tbs_ok Tryz.func9 rfl [.pt 0 s 0,vI 0] [.box s 67 (siteV 1 3 q p bk rt none none none 0 0 none 0 0)] ⟨rfl,trivial,trivial⟩ rfl (by simp [siteV,SV.good,SV.goodL]) ?_
 intro E
 refine aG ?_
 refine ev_inline Tryz.tbs_ok Tryz.func31 rfl rfl ?_
 refine aG ?_
 refine ev_inline Tryz.tbs_ok Tryz.func23 rfl rfl ?_
 refine aG ?_
 refine ev_fin ⟨trivial,aL,_,rfl,?_⟩
 refine aG (aJ (aI (aI ?_)))
 refine ev_fin ⟨trivial,aL,_,rfl,?_⟩
 refine aG (aI ?_)
 refine ev_stop (go_indexArr Tryz.tbs_ok (0) rfl rfl rfl rfl rfl rfl (by first | decide | omega) rfl rfl ?_)
 refine aG ?_
 refine ev_stop (go_draw Tryz.tbs_ok false [0] [(0,true),(2,true),(3,true),(4,true),(5,true),(6,true),(1,false),(7,false),(8,false),(9,false)] rfl ?_)
 refine aG (aE ?_)
 refine ev_inline Tryz.tbs_ok Tryz.func25 rfl rfl ?_
 refine aG ?_
 refine ev_inline Tryz.tbs_ok Tryz.func63 rfl rfl ?_
 refine aG ?_
 refine ev_fin ⟨trivial,aL,_,rfl,?_⟩
 refine aG ?_
 refine ev_fin ⟨trivial,aL,_,rfl,?_⟩
 refine aG (aE ?_)
 refine ev_inline Tryz.tbs_ok Tryz.func33 rfl rfl ?_
 refine aG ?_
 refine ev_inline Tryz.tbs_ok Tryz.func63 rfl rfl ?_
 refine aG ?_
 refine ev_fin ⟨trivial,aL,_,rfl,?_⟩
 refine aG ?_
 refine ev_fin ⟨trivial,aL,_,rfl,?_⟩
 refine aG (aE (aE (aK ?_)))
 exact ev_fin ⟨trivial,_,rfl,(),rfl,by trivial,aF [0]⟩
 all_goals skip
theorem upS (s q p bk rt:Nat):Triple Tryz.prog 10 [pP s] [Pt s 67 (SV.denL (siteV 1 3 q p bk rt none none none 0 0 none 0 0))] [] Unit (fun _=>.bool true) (fun _=>True)
 (fun _=>[Pt s 67 (SV.denL (siteV 1 3 q p bk rt none none none 0 0 none 0 0))]):=by
 refine triple_intro Tryz.tbs_ok Tryz.func10 rfl [.pt 0 s 0] [.box s 67 (siteV 1 3 q p bk rt none none none 0 0 none 0 0)] ⟨rfl,trivial⟩ rfl (by simp [siteV,SV.good,SV.goodL]) ?_
 intro E
 refine aG ?_
 refine ev_inline Tryz.tbs_ok Tryz.func23 rfl rfl ?_
 refine aG ?_
 refine ev_fin ⟨trivial,aL,_,rfl,?_⟩
 refine aG ?_
 exact ev_fin ⟨trivial,_,rfl,(),rfl,by trivial,aF [0]⟩
 all_goals skip
set_option maxHeartbeats 8000000 in
theorem sync2S (s q p bk rt o:Nat) (O:Option Addr) (oc:Nat):Triple Tryz.prog 6 [pP s] [Pt s 67 (SV.denL (siteV 1 3 q p bk rt none (some ⟨o,0,none⟩) O 2 oc none 0 0)),StQ p q sta2 0 true 94 0,Pt o 105 (SV.denL (ownV (-1) (-1) (-1) 0 0 (-1)))] [TabA] Unit (fun _=>.tuple #[.slice O 2 oc,.slice none 0 0,.int .i64 0]) (fun _=>True)
 (fun _=>[Pt s 67 (SV.denL (siteV 1 3 q p bk rt none (some ⟨o,0,none⟩) none 0 0 none 0 0)),StQ p q sta2 0 false 94 0,Pt o 105 (SV.denL (ownV (-1) 0 (-1) 0 0 (-1)))]):=by
 have S1:=syncQ p q sta2 0 true 94 0
 have R0:=regQ0 p q sta2 0 false 94 0 0 2 2 0 (by decide) rfl
 have O1:=epochO o (-1) (-1) (-1) 0 0 (-1)
 have O2:=epochO o (-1) 0 (-1) 0 0 (-1)
 have O3:=sureO o (-1) (-1) (-1) 0 0 (-1) 0 0 rfl
 have O4:=commitN o 0 0 0 (-1) (by decide)
 have O5:=targetO o (-1) 0 (-1) 0 0 (-1)
 refine triple_intro Tryz.tbs_ok Tryz.func6 rfl [.pt 0 s 0] [.box s 67 (siteV 1 3 q p bk rt none (some ⟨o,0,none⟩) O 2 oc none 0 0),.fact (StQ p q sta2 0 true 94 0),.box o 105 (ownV (-1) (-1) (-1) 0 0 (-1))] ⟨rfl,trivial⟩ rfl (by simp [siteV,ownV,SV.good,SV.goodL]) ?_
 intro E
 refine aG ?_
 refine ev_inline Tryz.tbs_ok Tryz.func23 rfl rfl ?_
 refine aG ?_
 refine ev_fin ⟨trivial,aL,_,rfl,?_⟩
 refine aG (aI ?_)
 refine aC S1 [1] [.inl 0] fun _ h0=>?_
 refine aI ?_
 refine ev_stop (go_rounds 9 ?_)
 refine aG (aJ ?_)
 refine ev_stop (go_indexAg Tryz.tbs_ok (0) rfl rfl rfl rfl rfl rfl (by decide) rfl ?_)
 refine aG ?_
 refine aD O1 [2] [] (fun v0_=>[.box (o) 105 [vI 0,vI 2,vI 1,vI 3,vI (-1),vI (-1),vI (-1),vI (-1),vI (-1),vI (-1),vI (-1),vI 0,vI 0,vI (-1),vI (-1),vI (-1),vI (-1),vI (-1),.bl false,vI 0]]) fun _ h1=>?_
 refine aJ ?_
 refine ev_inline Tryz.tbs_ok Tryz.func27 rfl rfl ?_
 refine aG ?_
 refine ev_new fun b2=>?_
 refine aC R0 [1] [] fun ⟨x3,x4⟩ h5=>?_
 refine ev_new fun b6=>?_
 refine ev_fin ⟨trivial,aL,_,rfl,?_⟩
 refine aG ?_
 refine aD O3 [2] [] (fun v0_=>[.box (o) 105 [vI 0,vI 2,vI 1,vI 3,vI (-1),vI 0,vI (-1),vI (-1),vI (-1),vI (-1),vI (-1),vI 0,vI 0,vI (-1),vI (-1),vI (-1),vI (-1),vI (-1),.bl false,vI 0]]) fun _ h7=>?_
 refine ev_inline Tryz.tbs_ok Tryz.func28 rfl rfl ?_
 refine aG ?_
 refine ev_stop (go_indexArr Tryz.tbs_ok (0) rfl rfl rfl rfl rfl rfl (by first | decide | omega) rfl rfl ?_)
 refine aG ?_
 refine ev_inline Tryz.tbs_ok Tryz.func27 rfl rfl ?_
 refine aG ?_
 refine ev_new fun b8=>?_
 refine aC R0 [1] [] fun ⟨x9,x10⟩ h11=>?_
 refine ev_new fun b12=>?_
 refine ev_fin ⟨trivial,aL,_,rfl,?_⟩
 refine aG ?_
 refine ev_new fun b13=>?_
 refine aD O2 [2] [] (fun v0_=>[.box (o) 105 [vI 0,vI 2,vI 1,vI 3,vI (-1),vI 0,vI (-1),vI (-1),vI (-1),vI (-1),vI (-1),vI 0,vI 0,vI (-1),vI (-1),vI (-1),vI (-1),vI (-1),.bl false,vI 0]]) fun _ h14=>?_
 refine aI ?_
 refine ev_stop (go_draw Tryz.tbs_ok false [7] [(0,true),(2,true),(3,true),(4,true),(1,false),(5,false),(6,false)] rfl ?_)
 refine aG (aE ?_)
 refine aD O4 [2] [] (fun v0_=>[.box (o) 105 [vI 0,vI 2,vI 1,vI 3,vI (-1),vI 0,vI (-1),vI (-1),vI (-1),vI (-1),vI (-1),vI 0,vI 0,vI (-1),vI (-1),vI (-1),vI (-1),vI (-1),.bl false,vI 0]]) fun _ h15=>?_
 refine aE (aE (aK (aI ?_)))
 refine ev_inline Tryz.tbs_ok Tryz.func27 rfl rfl ?_
 refine aG ?_
 refine ev_new fun b16=>?_
 refine aC R0 [1] [] fun ⟨x17,x18⟩ h19=>?_
 refine ev_new fun b20=>?_
 refine ev_fin ⟨trivial,aL,_,rfl,?_⟩
 refine aG ?_
 refine aD O5 [2] [] (fun v0_=>[.box (o) 105 [vI 0,vI 2,vI 1,vI 3,vI (-1),vI 0,vI (-1),vI (-1),vI (-1),vI (-1),vI (-1),vI 0,vI 0,vI (-1),vI (-1),vI (-1),vI (-1),vI (-1),.bl false,vI 0]]) fun _ h21=>?_
 refine aJ ?_
 refine ev_fin ⟨trivial,aL,_,rfl,?_⟩
 refine aG ?_
 refine wN (0+1) ?_
 refine ev_fin (go Tryz.tbs_ok 1000 ?_)
 refine aJ ?_
 refine ev_stop (go_indexAg Tryz.tbs_ok (0+1) rfl rfl rfl rfl rfl rfl (by decide) rfl ?_)
 refine aG ?_
 refine ev_inline Tryz.tbs_ok Tryz.func25 rfl rfl ?_
 refine aG ?_
 refine ev_inline Tryz.tbs_ok Tryz.func63 rfl rfl ?_
 refine aG ?_
 refine ev_fin ⟨trivial,aL,_,rfl,?_⟩
 refine aG ?_
 refine ev_fin ⟨trivial,aL,_,rfl,?_⟩
 refine aG (aI ?_)
 refine wN (0+1+1) ?_
 refine ev_fin (go Tryz.tbs_ok 1000 ?_)
 refine aJ ?_
 refine ev_stop (go_indexAg Tryz.tbs_ok (0+1+1) rfl rfl rfl rfl rfl rfl (by decide) rfl ?_)
 refine aG ?_
 refine ev_inline Tryz.tbs_ok Tryz.func25 rfl rfl ?_
 refine aG ?_
 refine ev_inline Tryz.tbs_ok Tryz.func63 rfl rfl ?_
 refine aG ?_
 refine ev_fin ⟨trivial,aL,_,rfl,?_⟩
 refine aG ?_
 refine ev_fin ⟨trivial,aL,_,rfl,?_⟩
 refine aG (aI ?_)
 refine wN (0+1+1+1) ?_
 refine ev_fin (go Tryz.tbs_ok 1000 ?_)
 refine aJ ?_
 refine ev_stop (go_indexAg Tryz.tbs_ok (0+1+1+1) rfl rfl rfl rfl rfl rfl (by decide) rfl ?_)
 refine aG ?_
 refine ev_inline Tryz.tbs_ok Tryz.func25 rfl rfl ?_
 refine aG ?_
 refine ev_inline Tryz.tbs_ok Tryz.func63 rfl rfl ?_
 refine aG ?_
 refine ev_fin ⟨trivial,aL,_,rfl,?_⟩
 refine aG ?_
 refine ev_fin ⟨trivial,aL,_,rfl,?_⟩
 refine aG (aI ?_)
 refine wN (0+1+1+1+1) ?_
 refine ev_fin (go Tryz.tbs_ok 1000 ?_)
 refine aI ?_
 refine ev_fin (go Tryz.tbs_ok 1000 ?_)
 refine ev_stop (go_draw Tryz.tbs_ok false [0] [(0,true),(1,true),(2,true),(3,true),(4,true),(5,true),(6,true),(7,true),(8,false),(9,false)] rfl ?_)
 refine aG (aE (aE (aK ?_)))
 exact ev_fin ⟨trivial,_,rfl,(),rfl,by trivial,aF [0,1,2]⟩
 all_goals skip
set_option maxHeartbeats 8000000 in
theorem callS (s q p bk rt rm o:Nat):Triple Tryz.prog 12 [pP s,.agg #[.int .i64 7,.int .i64 0,.int .i64 (-1),.int .i64 1,.int .i64 1]] [Pt s 67 (SV.denL (siteV 1 3 q p bk rt none (some ⟨o,0,none⟩) none 0 0 none 0 0)),StQ p q sta2 0 false 94 0,Pt o 105 (SV.denL (ownV (-1) 0 (-1) 0 0 (-1))),Pt rt 134 [.map (some rm)],MapA encK rm []] [TabA] (Option Addr × Nat × Option Addr × Nat × Option Addr × Nat × Option Addr × Nat) (fun _=>.int .i64 0) (fun _=>True)
 (fun (O,oc,A1,c1,A2,c2,C,c)=>[Pt s 67 (SV.denL (siteV 1 3 q p bk rt none (some ⟨o,0,none⟩) O 2 oc none 0 0)),StQ p q sta3 0 true 171 0,Pt o 105 (SV.denL (ownV (-1) 0 (-1) 0 0 (-1))),Pt rt 134 [.map (some rm)],MapA encK rm [((0,7),.slice C 1 c)],Row 3 1 C 1 c (([-1]:List Int).flatMap encN),Row 28 18 O 2 oc ((mailsA A1 c1 A2 c2 1).flatMap encM)]):=by
 have R0:=regQ0 p q sta2 0 false 94 0 0 2 2 0 (by decide) rfl
 have R1:=regQ7 p q sta3 0 true 171 0 0 rfl
 have W1:=fun bx be=>writeQ7 p q 0 false 94 171 0 bx be rfl (by decide)
 have O1:=epochO o (-1) 0 (-1) 0 0 (-1)
 have O2:=openO o (-1) 0 (-1)
 have O3:=fun A a ha=>(mailO1 o 0 A a ha).ofRow 127 a
 refine triple_intro Tryz.tbs_ok Tryz.func12 rfl [.pt 0 s 0,.ag [vI 7,vI 0,vI (-1),vI 1,vI 1]] [.box s 67 (siteV 1 3 q p bk rt none (some ⟨o,0,none⟩) none 0 0 none 0 0),.fact (StQ p q sta2 0 false 94 0),.box o 105 (ownV (-1) 0 (-1) 0 0 (-1)),.box rt 134 [.va (.map (some rm))],.fact (MapA encK rm [])] ⟨rfl,by simp [SV.good,SV.goodL],trivial⟩ rfl (by simp [siteV,ownV,SV.good,SV.goodL]) ?_
 intro E
 refine aG ?_
 refine ev_new fun b0=>?_
 refine ev_inline Tryz.tbs_ok Tryz.func23 rfl rfl ?_
 refine aG ?_
 refine ev_fin ⟨trivial,aL,_,rfl,?_⟩
 refine aG (aI ?_)
 refine aC ordersT [] [] fun _ h1=>?_
 refine aI ?_
 refine ev_inline Tryz.tbs_ok Tryz.func36 rfl rfl ?_
 refine aG ?_
 refine ev_new fun b2=>?_
 refine ev_new fun b3=>?_
 refine ev_inline Tryz.tbs_ok Tryz.func27 rfl rfl ?_
 refine aG ?_
 refine ev_new fun b4=>?_
 refine aC R0 [1] [] fun ⟨x5,x6⟩ h7=>?_
 refine ev_new fun b8=>?_
 refine ev_fin ⟨trivial,aL,_,rfl,?_⟩
 refine aG ?_
 refine ev_new fun b9=>?_
 refine aC (findT0 (x5) (x6)) [] [] fun _ h10=>?_
 refine aI ?_
 refine ev_fin ⟨trivial,aL,_,rfl,?_⟩
 refine aG ?_
 refine ev_new fun b11=>?_
 refine ev_stop (go_draw Tryz.tbs_ok false [0,5] [(0,true),(1,true),(2,true),(3,true),(4,true),(5,true),(6,true),(7,true),(8,true),(9,true),(10,true),(11,false)] rfl ?_)
 refine aG (aE ?_)
 refine ev_stop (tk_indexArr Tryz.tbs_ok (0) aB rfl rfl rfl rfl rfl rfl rfl (by first | decide | omega) rfl rfl ?_)
 refine aG (aE ?_)
 refine aD O2 [2] [] (fun v0_=>[.box (o) 105 [vI 0,vI 2,vI 1,vI 3,vI (-1),vI 0,vI (-1),vI (-1),vI (-1),vI (-1),vI (-1),vI 0,vI 0,vI (-1),vI (-1),vI (-1),vI (-1),vI (-1),.bl false,vI 0]]) fun _ h12=>?_
 refine aK (aJ ?_)
 refine ev_inline Tryz.tbs_ok Tryz.func38 rfl rfl ?_
 refine aG ?_
 refine ev_new fun b13=>?_
 refine ev_inline Tryz.tbs_ok Tryz.func27 rfl rfl ?_
 refine aG ?_
 refine ev_new fun b14=>?_
 refine aC R0 [1] [] fun ⟨x15,x16⟩ h17=>?_
 refine ev_new fun b18=>?_
 refine ev_fin ⟨trivial,aL,_,rfl,?_⟩
 refine aG ?_
 refine ev_new fun b19=>?_
 refine aC (findT0 (x15) (x16)) [] [] fun _ h20=>?_
 refine ev_stop (go_draw Tryz.tbs_ok true [0,12,15] [(0,true),(1,true),(2,true),(3,true),(4,true),(5,true),(6,true),(7,true),(8,true),(9,true),(10,true),(11,true),(12,true),(13,true),(14,true),(15,true),(16,true),(17,true),(18,false),(19,false),(20,false)] rfl ?_)
 refine aG (aE (aJ (aE (aI (aE ?_)))))
 refine aD (waitT7 (rt) (rm)) [3,4] [] (fun (v0_,v1_)=>[.box (rt) 134 [.va (Value.map (some rm))],.fact (MapA encK rm [((0,7),Value.slice v0_ 1 v1_)]),.fact (Row 3 1 v0_ 1 v1_ (List.flatMap encN [-1]))]) fun ⟨x21,x22⟩ h23=>?_
 refine aE (aE (aE (aI (aI ?_))))
 refine ev_stop (go_draw Tryz.tbs_ok false [0,12] [(0,true),(1,true),(2,true),(3,true),(4,true),(5,true),(6,true),(7,false),(8,false)] rfl ?_)
 refine aG (aE ?_)
 refine ev_stop (tk_indexArr Tryz.tbs_ok (0) aB rfl rfl rfl rfl rfl rfl rfl (by first | decide | omega) rfl rfl ?_)
 refine aG (aE ?_)
 refine aD O1 [2] [] (fun v0_=>[.box (o) 105 [vI 0,vI 2,vI 1,vI 3,vI (-1),vI 0,vI (-1),vI (-1),vI (-1),vI (-1),vI (-1),vI 0,vI 0,vI (-1),vI (-1),vI (-1),vI (-1),vI (-1),.bl false,vI 0]]) fun _ h24=>?_
 refine aE (aK ?_)
 refine ev_new fun b25=>?_
 refine ev_new fun b26=>?_
 refine ev_new fun b27=>?_
 refine ev_inline Tryz.tbs_ok Tryz.func65 rfl rfl ?_
 refine aG ?_
 refine ev_inline Tryz.tbs_ok Tryz.func27 rfl rfl ?_
 refine aG ?_
 refine ev_new fun b28=>?_
 refine aC R0 [1] [] fun ⟨x29,x30⟩ h31=>?_
 refine ev_new fun b32=>?_
 refine ev_fin ⟨trivial,aL,_,rfl,?_⟩
 refine aG ?_
 refine aC (W1 (b27) (b25)) [1] [.inl 0,.inr 19,.inr 17] fun _ h33=>?_
 refine aI ?_
 refine ev_inline Tryz.tbs_ok Tryz.func27 rfl rfl ?_
 refine aG ?_
 refine ev_new fun b34=>?_
 refine aC R1 [1] [] fun ⟨x35,x36⟩ h37=>?_
 refine ev_new fun b38=>?_
 refine ev_fin ⟨trivial,aL,_,rfl,?_⟩
 refine aG ?_
 refine ev_new fun b39=>?_
 refine ev_stop (go_draw Tryz.tbs_ok true [0,25] [(0,true),(1,true),(2,true),(3,true),(4,true),(5,true),(7,true),(8,true),(6,false),(9,false)] rfl ?_)
 refine aG (aE ?_)
 refine ev_stop (tk_indexArr Tryz.tbs_ok (0) aB rfl rfl rfl rfl rfl rfl rfl (by first | decide | omega) rfl rfl ?_)
 refine aG (aE ?_)
 refine aD O1 [2] [] (fun v0_=>[.box (o) 105 [vI 0,vI 2,vI 1,vI 3,vI (-1),vI 0,vI (-1),vI (-1),vI (-1),vI (-1),vI (-1),vI 0,vI 0,vI (-1),vI (-1),vI (-1),vI (-1),vI (-1),.bl false,vI 0]]) fun _ h40=>?_
 refine aE (aE (aI ?_))
 refine ev_stop (go_draw Tryz.tbs_ok true [0,25] [(0,true),(1,true),(2,true),(3,true),(4,true),(5,true),(7,true),(8,true),(6,false),(9,false)] rfl ?_)
 refine aG (aE ?_)
 refine ev_stop (tk_indexArr Tryz.tbs_ok (0) aB rfl rfl rfl rfl rfl rfl rfl (by first | decide | omega) rfl rfl ?_)
 refine aG (aE ?_)
 refine ev_inline Tryz.tbs_ok Tryz.func87 rfl rfl ?_
 refine aG ?_
 refine ev_inline Tryz.tbs_ok Tryz.func81 rfl rfl ?_
 refine aG ?_
 refine ev_fin ⟨trivial,aL,_,rfl,?_⟩
 refine aG ?_
 refine ev_fin ⟨trivial,aL,_,rfl,?_⟩
 refine aG (aE (aE (aJ ?_)))
 refine ev_stop (go_indexArr Tryz.tbs_ok (0) rfl rfl rfl rfl rfl rfl (by first | decide | omega) rfl rfl ?_)
 refine aG ?_
 refine ev_stop (go_rounds 9 ?_)
 refine aG (aI ?_)
 refine ev_fin (go Tryz.tbs_ok 1000 ?_)
 refine ev_fin ⟨trivial,aL,_,rfl,?_⟩
 refine aG ?_
 refine ev_stop (go_draw Tryz.tbs_ok false [0,12] [(0,true),(1,true),(2,true),(3,true),(4,true),(5,true),(6,true),(7,true),(8,true),(9,true),(10,true),(12,true),(13,true),(14,true),(15,true),(11,false),(16,false),(17,false)] rfl ?_)
 refine aG (aE ?_)
 refine ev_stop (tk_indexArr Tryz.tbs_ok (0) aB rfl rfl rfl rfl rfl rfl rfl (by first | decide | omega) rfl rfl ?_)
 refine aG (aE ?_)
 refine ev_inline Tryz.tbs_ok Tryz.func27 rfl rfl ?_
 refine aG ?_
 refine ev_new fun b41=>?_
 refine aC R1 [1] [] fun ⟨x42,x43⟩ h44=>?_
 refine ev_new fun b45=>?_
 refine ev_fin ⟨trivial,aL,_,rfl,?_⟩
 refine aG (aE ?_)
 refine aD (O3 (x42) (x43) (by with_reducible assumption)) [2] [.inr 27] (fun (v0_,v1_,v2_,v3_,v4_,v5_)=>[.box (o) 105 [vI 0,vI 2,vI 1,vI 3,vI (-1),vI 0,vI (-1),vI (-1),vI (-1),vI (-1),vI (-1),vI 0,vI 0,vI (-1),vI (-1),vI (-1),vI (-1),vI (-1),.bl false,vI 0],.fact (Row 28 18 v0_ 2 v1_ (List.flatMap encM [{ k:=4,fr:=1,to:=0,st:=0,ep:=2,vi:=0,ba:=0,le:=0,sm:=0,A:=v2_,n:=1,a:=v3_,o1:=0,o2:=0,o3:=0,o4:=0,o5:=0,a1:=0,a2:=0,a3:=0:MailS },{ k:=4,fr:=1,to:=2,st:=0,ep:=2,vi:=0,ba:=0,le:=0,sm:=0,A:=v4_,n:=1,a:=v5_,o1:=0,o2:=0,o3:=0,o4:=0,o5:=0,a1:=0,a2:=0,a3:=0:MailS }]))]) fun ⟨x46,x47,x48,x49,x50,x51⟩ h52=>?_
 refine aE ?_
 refine ev_inline Tryz.tbs_ok Tryz.func47 rfl rfl ?_
 refine aG ?_
 refine ev_stop (go_appendE (sz:=18) (M:=[]) (enc:=encM) Tryz.tbs_ok [] [] (.inr 29) ([]) ([{ k:=4,fr:=1,to:=0,st:=0,ep:=2,vi:=0,ba:=0,le:=0,sm:=0,A:=x48,n:=1,a:=x49,o1:=0,o2:=0,o3:=0,o4:=0,o5:=0,a1:=0,a2:=0,a3:=0:MailS },{ k:=4,fr:=1,to:=2,st:=0,ep:=2,vi:=0,ba:=0,le:=0,sm:=0,A:=x50,n:=1,a:=x51,o1:=0,o2:=0,o3:=0,o4:=0,o5:=0,a1:=0,a2:=0,a3:=0:MailS }]) ([{ k:=4,fr:=1,to:=0,st:=0,ep:=2,vi:=0,ba:=0,le:=0,sm:=0,A:=x48,n:=1,a:=x49,o1:=0,o2:=0,o3:=0,o4:=0,o5:=0,a1:=0,a2:=0,a3:=0:MailS },{ k:=4,fr:=1,to:=2,st:=0,ep:=2,vi:=0,ba:=0,le:=0,sm:=0,A:=x50,n:=1,a:=x51,o1:=0,o2:=0,o3:=0,o4:=0,o5:=0,a1:=0,a2:=0,a3:=0:MailS }]) (2) rfl rfl rfl rfl rfl rfl rfl (by decide) rfl (by decide) (fun _ _=>Row.nil _ _ _) rfl (fun _ h=>Row.rd h) (by first | rfl | simp) (by first | rfl | omega) (aM (2)) (aN (2)) (fun _ _=>aL) (fun A53 c54 h55=>?_))
 refine aG ?_
 refine ev_fin ⟨trivial,aL,_,rfl,?_⟩
 refine aG (aK ?_)
 refine ev_fin ⟨trivial,aL,_,rfl,?_⟩
 refine aG (aI ?_)
 exact ev_fin ⟨trivial,_,rfl,((A53,c54,x48,x49,x50,x51,x21,x22)),rfl,by trivial,aF [0,1,2,3,4,16,30]⟩
 all_goals skip
set_option maxHeartbeats 8000000 in
theorem sync3S (s q p bk rt o:Nat) (O:Option Addr) (oc:Nat):Triple Tryz.prog 6 [pP s] [Pt s 67 (SV.denL (siteV 1 3 q p bk rt none (some ⟨o,0,none⟩) O 2 oc none 0 0)),StQ p q sta3 0 true 171 0,Pt o 105 (SV.denL (ownV (-1) 0 (-1) 0 0 (-1)))] [TabA] Unit (fun _=>.tuple #[.slice O 2 oc,.slice none 0 0,.int .i64 0]) (fun _=>True)
 (fun _=>[Pt s 67 (SV.denL (siteV 1 3 q p bk rt none (some ⟨o,0,none⟩) none 0 0 none 0 0)),StQ p q sta3 0 false 171 0,Pt o 105 (SV.denL (ownV (-1) 1 (-1) 0 0 (-1)))]):=by
 have S1:=syncQ p q sta3 0 true 171 0
 have R0:=regQ7 p q sta3 0 false 171 0 0 rfl
 have O1:=epochO o (-1) 0 (-1) 0 0 (-1)
 have O2:=epochO o (-1) 1 (-1) 0 0 (-1)
 have O3:=sureO o (-1) 0 (-1) 0 0 (-1) 1 1 rfl
 have O4:=commitN o 1 0 0 (-1) (by decide)
 have O5:=targetO o (-1) 1 (-1) 0 0 (-1)
 refine triple_intro Tryz.tbs_ok Tryz.func6 rfl [.pt 0 s 0] [.box s 67 (siteV 1 3 q p bk rt none (some ⟨o,0,none⟩) O 2 oc none 0 0),.fact (StQ p q sta3 0 true 171 0),.box o 105 (ownV (-1) 0 (-1) 0 0 (-1))] ⟨rfl,trivial⟩ rfl (by simp [siteV,ownV,SV.good,SV.goodL]) ?_
 intro E
 refine aG ?_
 refine ev_inline Tryz.tbs_ok Tryz.func23 rfl rfl ?_
 refine aG ?_
 refine ev_fin ⟨trivial,aL,_,rfl,?_⟩
 refine aG (aI ?_)
 refine aC S1 [1] [.inl 0] fun _ h0=>?_
 refine aI ?_
 refine ev_stop (go_rounds 9 ?_)
 refine aG (aJ ?_)
 refine ev_stop (go_indexAg Tryz.tbs_ok (0) rfl rfl rfl rfl rfl rfl (by decide) rfl ?_)
 refine aG ?_
 refine aD O1 [2] [] (fun v0_=>[.box (o) 105 [vI 0,vI 2,vI 1,vI 3,vI (-1),vI 0,vI (-1),vI (-1),vI (-1),vI (-1),vI (-1),vI 0,vI 0,vI (-1),vI (-1),vI (-1),vI (-1),vI (-1),.bl false,vI 0]]) fun _ h1=>?_
 refine aJ ?_
 refine ev_inline Tryz.tbs_ok Tryz.func27 rfl rfl ?_
 refine aG ?_
 refine ev_new fun b2=>?_
 refine aC R0 [1] [] fun ⟨x3,x4⟩ h5=>?_
 refine ev_new fun b6=>?_
 refine ev_fin ⟨trivial,aL,_,rfl,?_⟩
 refine aG ?_
 refine aD O3 [2] [] (fun v0_=>[.box (o) 105 [vI 0,vI 2,vI 1,vI 3,vI (-1),vI 1,vI (-1),vI (-1),vI (-1),vI (-1),vI (-1),vI 0,vI 0,vI (-1),vI (-1),vI (-1),vI (-1),vI (-1),.bl false,vI 0]]) fun _ h7=>?_
 refine ev_inline Tryz.tbs_ok Tryz.func28 rfl rfl ?_
 refine aG ?_
 refine ev_stop (go_indexArr Tryz.tbs_ok (0) rfl rfl rfl rfl rfl rfl (by first | decide | omega) rfl rfl ?_)
 refine aG ?_
 refine ev_inline Tryz.tbs_ok Tryz.func27 rfl rfl ?_
 refine aG ?_
 refine ev_new fun b8=>?_
 refine aC R0 [1] [] fun ⟨x9,x10⟩ h11=>?_
 refine ev_new fun b12=>?_
 refine ev_fin ⟨trivial,aL,_,rfl,?_⟩
 refine aG ?_
 refine ev_new fun b13=>?_
 refine aD O2 [2] [] (fun v0_=>[.box (o) 105 [vI 0,vI 2,vI 1,vI 3,vI (-1),vI 1,vI (-1),vI (-1),vI (-1),vI (-1),vI (-1),vI 0,vI 0,vI (-1),vI (-1),vI (-1),vI (-1),vI (-1),.bl false,vI 0]]) fun _ h14=>?_
 refine aI ?_
 refine ev_stop (go_draw Tryz.tbs_ok false [9] [(0,true),(2,true),(3,true),(4,true),(1,false),(5,false),(6,false)] rfl ?_)
 refine aG (aE ?_)
 refine aD O4 [2] [] (fun v0_=>[.box (o) 105 [vI 0,vI 2,vI 1,vI 3,vI (-1),vI 1,vI (-1),vI (-1),vI (-1),vI (-1),vI (-1),vI 0,vI 0,vI (-1),vI (-1),vI (-1),vI (-1),vI (-1),.bl false,vI 0]]) fun _ h15=>?_
 refine aE (aE (aK (aI ?_)))
 refine ev_inline Tryz.tbs_ok Tryz.func27 rfl rfl ?_
 refine aG ?_
 refine ev_new fun b16=>?_
 refine aC R0 [1] [] fun ⟨x17,x18⟩ h19=>?_
 refine ev_new fun b20=>?_
 refine ev_fin ⟨trivial,aL,_,rfl,?_⟩
 refine aG ?_
 refine aD O5 [2] [] (fun v0_=>[.box (o) 105 [vI 0,vI 2,vI 1,vI 3,vI (-1),vI 1,vI (-1),vI (-1),vI (-1),vI (-1),vI (-1),vI 0,vI 0,vI (-1),vI (-1),vI (-1),vI (-1),vI (-1),.bl false,vI 0]]) fun _ h21=>?_
 refine aJ ?_
 refine ev_fin ⟨trivial,aL,_,rfl,?_⟩
 refine aG ?_
 refine wN (0+1) ?_
 refine ev_fin (go Tryz.tbs_ok 1000 ?_)
 refine aJ ?_
 refine ev_stop (go_indexAg Tryz.tbs_ok (0+1) rfl rfl rfl rfl rfl rfl (by decide) rfl ?_)
 refine aG ?_
 refine ev_inline Tryz.tbs_ok Tryz.func25 rfl rfl ?_
 refine aG ?_
 refine ev_inline Tryz.tbs_ok Tryz.func63 rfl rfl ?_
 refine aG ?_
 refine ev_fin ⟨trivial,aL,_,rfl,?_⟩
 refine aG ?_
 refine ev_fin ⟨trivial,aL,_,rfl,?_⟩
 refine aG (aI ?_)
 refine wN (0+1+1) ?_
 refine ev_fin (go Tryz.tbs_ok 1000 ?_)
 refine aJ ?_
 refine ev_stop (go_indexAg Tryz.tbs_ok (0+1+1) rfl rfl rfl rfl rfl rfl (by decide) rfl ?_)
 refine aG ?_
 refine ev_inline Tryz.tbs_ok Tryz.func25 rfl rfl ?_
 refine aG ?_
 refine ev_inline Tryz.tbs_ok Tryz.func63 rfl rfl ?_
 refine aG ?_
 refine ev_fin ⟨trivial,aL,_,rfl,?_⟩
 refine aG ?_
 refine ev_fin ⟨trivial,aL,_,rfl,?_⟩
 refine aG (aI ?_)
 refine wN (0+1+1+1) ?_
 refine ev_fin (go Tryz.tbs_ok 1000 ?_)
 refine aJ ?_
 refine ev_stop (go_indexAg Tryz.tbs_ok (0+1+1+1) rfl rfl rfl rfl rfl rfl (by decide) rfl ?_)
 refine aG ?_
 refine ev_inline Tryz.tbs_ok Tryz.func25 rfl rfl ?_
 refine aG ?_
 refine ev_inline Tryz.tbs_ok Tryz.func63 rfl rfl ?_
 refine aG ?_
 refine ev_fin ⟨trivial,aL,_,rfl,?_⟩
 refine aG ?_
 refine ev_fin ⟨trivial,aL,_,rfl,?_⟩
 refine aG (aI ?_)
 refine wN (0+1+1+1+1) ?_
 refine ev_fin (go Tryz.tbs_ok 1000 ?_)
 refine aI ?_
 refine ev_fin (go Tryz.tbs_ok 1000 ?_)
 refine ev_stop (go_draw Tryz.tbs_ok false [0] [(0,true),(1,true),(2,true),(3,true),(4,true),(5,true),(6,true),(7,true),(8,false),(9,false)] rfl ?_)
 refine aG (aE (aE (aK ?_)))
 exact ev_fin ⟨trivial,_,rfl,(),rfl,by trivial,aF [0,1,2]⟩
 all_goals skip
structure ToldS where
 si:Int
 st:Int
 id:Int
 co:Int
 ve:Int
def encTd (x:ToldS):List Value:=[.int .i64 x.si,.int .i64 x.st,.int .i64 x.id,.int .i64 x.co,.int .i64 x.ve]
set_option maxHeartbeats 8000000 in
theorem takeA (s q p bk rt rm o:Nat) (C:Option Addr) (c:Nat):Triple Tryz.prog 13 [pP s,.agg (encM ⟨5,2,1,0,2,0,0,1,0,none,0,0,0,0,0,0,0,0,0,0⟩).toArray] [Pt s 67 (SV.denL (siteV 1 3 q p bk rt none (some ⟨o,0,none⟩) none 0 0 none 0 0)),StQ p q sta3 0 false 171 0,Pt o 105 (SV.denL (ownV (-1) 1 (-1) 0 0 (-1))),Pt rt 134 [.map (some rm)],MapA encK rm [((0,7),.slice C 1 c)],Row 3 1 C 1 c (([-1]:List Int).flatMap encN)] [TabA,Rd 1 (some ⟨0,0,none⟩) 11 (([0,35,119,3,123,51,19,128,257,3,3]:List Int).flatMap encN)] Sl (fun _=>.int .i64 0) (fun _=>True)
 (fun (T,tc)=>[Pt s 67 (SV.denL (siteV 1 3 q p bk rt none (some ⟨o,0,none⟩) none 0 0 T 1 tc)),StQ p q sta4 0 true 218 0,Pt o 105 (SV.denL (ownV (-1) 1 1 0 0 0)),Pt rt 134 [.map (some rm)],MapA encK rm [],Row 72 5 T 1 tc (([⟨1,0,7,1,1⟩]:List ToldS).flatMap encTd)]):=by
 have R0:=regQ7 p q sta3 0 false 171 0 0 rfl
 have R1:=regQ7 p q sta4 0 true 218 0 1 rfl
 have W1:=fun bx A a=>writeQ0 p q sta3 sta4 0 false 171 218 0 bx A a 3 0 0 0 0 1 wr4 rfl (by decide)
 have O1:=epochO o (-1) 1 1 0 0 0
 have O2:=commitY o 1 0 0 0 (by decide)
 have O3:=targetO o (-1) 1 1 0 0 0
 have F1:=fun A a=>(foldT A a).ofRow 127 a
 refine triple_intro Tryz.tbs_ok Tryz.func13 rfl [.pt 0 s 0,.ag [vI 5,vI 2,vI 1,vI 0,vI 2,vI 0,vI 0,vI 1,vI 0,vL none 0 0,vI 0,vI 0,vI 0,vI 0,vI 0,vI 0,vI 0,vI 0]] [.box s 67 (siteV 1 3 q p bk rt none (some ⟨o,0,none⟩) none 0 0 none 0 0),.fact (StQ p q sta3 0 false 171 0),.box o 105 (ownV (-1) 1 (-1) 0 0 (-1)),.box rt 134 [.va (.map (some rm))],.fact (MapA encK rm [((0,7),.slice C 1 c)]),.fact (Row 3 1 C 1 c (([-1]:List Int).flatMap encN))] ⟨rfl,by simp [SV.good,SV.goodL],trivial⟩ rfl (by simp [siteV,ownV,SV.good,SV.goodL]) ?_
 intro E
 refine go_fact (Row 72 5 none 0 0 (([]:List ToldS).flatMap encTd)) (Row.nilE _ _) ?_
 refine aG ?_
 refine ev_new fun b0=>?_
 refine ev_inline Tryz.tbs_ok Tryz.func23 rfl rfl ?_
 refine aG ?_
 refine ev_fin ⟨trivial,aL,_,rfl,?_⟩
 refine aG (aI ?_)
 refine ev_stop (go_draw Tryz.tbs_ok true [0,7] [(0,true),(1,true),(2,true),(3,true),(4,true),(5,false),(6,false),(7,false),(8,true),(9,true),(10,false),(11,false),(12,false),(13,false),(14,false),(15,false)] rfl ?_)
 refine aG (aE ?_)
 refine aC ackT [] [.inl 1] fun _ h1=>?_
 refine aE (aE (aE (aI (aE (aE (aE (aE (aE (aE (aE (aI (aI ?_))))))))))))
 refine aI (aI (aI (aI (aJ ?_))))
 refine ev_stop (go_draw Tryz.tbs_ok false [0,7] [(0,true),(1,true),(2,true),(3,true),(4,true),(5,true),(6,true),(7,true),(8,false)] rfl ?_)
 refine aG (aE ?_)
 refine ev_stop (tk_indexArr Tryz.tbs_ok (0) aB rfl rfl rfl rfl rfl rfl rfl (by first | decide | omega) rfl rfl ?_)
 refine aG (aE ?_)
 refine aD (ackO (o)) [2] [] (fun v0_=>[.box (o) 105 [vI 0,vI 2,vI 1,vI 3,vI (-1),vI 1,vI 1,vI (-1),vI (-1),vI (-1),vI (-1),vI 0,vI 0,vI 0,vI (-1),vI (-1),vI (-1),vI (-1),.bl false,vI 0]]) fun _ h2=>?_
 refine aK (aJ ?_)
 refine ev_inline Tryz.tbs_ok Tryz.func28 rfl rfl ?_
 refine aG ?_
 refine ev_stop (go_indexArr Tryz.tbs_ok (0) rfl rfl rfl rfl rfl rfl (by first | decide | omega) rfl rfl ?_)
 refine aG ?_
 refine ev_inline Tryz.tbs_ok Tryz.func27 rfl rfl ?_
 refine aG ?_
 refine ev_new fun b3=>?_
 refine aC R0 [1] [] fun ⟨x4,x5⟩ h6=>?_
 refine ev_new fun b7=>?_
 refine ev_fin ⟨trivial,aL,_,rfl,?_⟩
 refine aG ?_
 refine ev_new fun b8=>?_
 refine aD O1 [2] [] (fun v0_=>[.box (o) 105 [vI 0,vI 2,vI 1,vI 3,vI (-1),vI 1,vI 1,vI (-1),vI (-1),vI (-1),vI (-1),vI 0,vI 0,vI 0,vI (-1),vI (-1),vI (-1),vI (-1),.bl false,vI 0]]) fun _ h9=>?_
 refine aI ?_
 refine ev_stop (go_draw Tryz.tbs_ok false [11] [(0,true),(2,true),(3,true),(4,true),(1,false),(5,false),(6,false)] rfl ?_)
 refine aG (aE ?_)
 refine aD O2 [2] [] (fun v0_=>[.box (o) 105 [vI 0,vI 2,vI 1,vI 3,vI (-1),vI 1,vI 1,vI (-1),vI (-1),vI (-1),vI (-1),vI 0,vI 0,vI 0,vI (-1),vI (-1),vI (-1),vI (-1),.bl false,vI 0]]) fun _ h10=>?_
 refine aE (aE (aK (aJ ?_)))
 refine ev_new fun b11=>?_
 refine ev_inline Tryz.tbs_ok Tryz.func65 rfl rfl ?_
 refine aG ?_
 refine ev_inline Tryz.tbs_ok Tryz.func27 rfl rfl ?_
 refine aG ?_
 refine ev_new fun b12=>?_
 refine aC R0 [1] [] fun ⟨x13,x14⟩ h15=>?_
 refine ev_new fun b16=>?_
 refine ev_fin ⟨trivial,aL,_,rfl,?_⟩
 refine aG ?_
 refine aC (W1 (b11) (none) (0)) [1] [.inl 0,.inr 12] fun _ h17=>?_
 refine aI ?_
 refine ev_inline Tryz.tbs_ok Tryz.func27 rfl rfl ?_
 refine aG ?_
 refine ev_new fun b18=>?_
 refine aC R1 [1] [] fun ⟨x19,x20⟩ h21=>?_
 refine ev_new fun b22=>?_
 refine ev_fin ⟨trivial,aL,_,rfl,?_⟩
 refine aG ?_
 refine ev_new fun b23=>?_
 refine ev_stop (go_draw Tryz.tbs_ok true [0,19] [(0,true),(1,true),(2,true),(3,true),(4,true),(5,true),(7,true),(8,true),(6,false),(9,false)] rfl ?_)
 refine aG (aE ?_)
 refine ev_stop (tk_indexArr Tryz.tbs_ok (0) aB rfl rfl rfl rfl rfl rfl rfl (by first | decide | omega) rfl rfl ?_)
 refine aG (aE ?_)
 refine aD O1 [2] [] (fun v0_=>[.box (o) 105 [vI 0,vI 2,vI 1,vI 3,vI (-1),vI 1,vI 1,vI (-1),vI (-1),vI (-1),vI (-1),vI 0,vI 0,vI 0,vI (-1),vI (-1),vI (-1),vI (-1),.bl false,vI 0]]) fun _ h24=>?_
 refine aE (aE (aI ?_))
 refine ev_stop (go_draw Tryz.tbs_ok true [0,19] [(0,true),(1,true),(2,true),(3,true),(4,true),(5,true),(7,true),(8,true),(6,false),(9,false)] rfl ?_)
 refine aG (aE ?_)
 refine ev_stop (tk_indexArr Tryz.tbs_ok (0) aB rfl rfl rfl rfl rfl rfl rfl (by first | decide | omega) rfl rfl ?_)
 refine aG (aE ?_)
 refine ev_inline Tryz.tbs_ok Tryz.func87 rfl rfl ?_
 refine aG ?_
 refine ev_inline Tryz.tbs_ok Tryz.func81 rfl rfl ?_
 refine aG ?_
 refine ev_fin ⟨trivial,aL,_,rfl,?_⟩
 refine aG ?_
 refine ev_fin ⟨trivial,aL,_,rfl,?_⟩
 refine aG (aE (aE (aJ ?_)))
 refine ev_stop (go_indexArr Tryz.tbs_ok (0) rfl rfl rfl rfl rfl rfl (by first | decide | omega) rfl rfl ?_)
 refine aG ?_
 refine ev_stop (go_rounds 9 ?_)
 refine aG (aJ ?_)
 refine ev_inline Tryz.tbs_ok Tryz.func75 rfl rfl ?_
 refine aG ?_
 refine ev_new fun b25=>?_
 refine ev_new fun b26=>?_
 refine aC (F1 (x19) (x20)) [] [.inr 17] fun ⟨x27,x28,x29⟩ h30=>?_
 refine ev_new fun b31=>?_
 refine ev_stop (go_draw Tryz.tbs_ok false [17,20,23] [(0,true),(1,true),(2,true),(3,true),(4,true),(5,true),(6,true),(7,true),(8,true),(9,true),(10,true),(11,true),(12,true),(13,true),(14,true),(15,true),(16,true),(17,true),(18,false)] rfl ?_)
 refine aG (aE ?_)
 refine ev_stop (tk_index0 (sz:=6) Tryz.tbs_ok (.inr 17) (0) aB rfl rfl rfl rfl rfl rfl rfl (by omega) rfl Row.at0 (fun g32 e33=>?_))
 subst e33
 refine aG (aE ?_)
 refine ev_stop (tk_loadL Tryz.tbs_ok (.inr 0) 0 1 ({ e:=2,id:=7,st:=0,ex := -1,k:=1,a:=1:Ent }) rfl aB rfl rfl rfl rfl rfl (fun _ h=>Row.rd h) (by first | omega | rfl) (fun _=>rfl) (by decide) (by decide) ?_)
 refine aG (aE ?_)
 refine ev_stop (tk_index0 (sz:=3) Tryz.tbs_ok (.inr 23) (0) aB rfl rfl rfl rfl rfl rfl rfl (by omega) rfl Row.at0 (fun g34 e35=>?_))
 subst e35
 refine aG (aE ?_)
 refine ev_stop (tk_loadL Tryz.tbs_ok (.inr 2) 0 0 ({ c:=1,v:=1,A:=some { block:=x29,off:=0:Addr },n:=1,a:=1:OutS }) rfl aB rfl rfl rfl rfl rfl (fun _ h=>Row.rd h) (by first | omega | rfl) (fun _=>rfl) (by decide) (by decide) ?_)
 refine aG (aE ?_)
 refine ev_stop (tk_atE (sz:=3) Tryz.tbs_ok (0) aB rfl rfl rfl rfl rfl rfl rfl (by omega) ?_)
 refine aG (aE ?_)
 refine ev_stop (tk_loadL Tryz.tbs_ok (.inr 2) 0 1 ({ c:=1,v:=1,A:=some { block:=x29,off:=0:Addr },n:=1,a:=1:OutS }) rfl aB rfl rfl rfl rfl rfl (fun _ h=>Row.rd h) (by first | omega | rfl) (fun _=>rfl) (by decide) (by decide) ?_)
 refine aG (aE (aK ?_))
 refine ev_fin ⟨trivial,aL,_,rfl,?_⟩
 refine aG ?_
 refine ev_new fun b36=>?_
 refine ev_stop (go_draw Tryz.tbs_ok true [0,25] [(0,true),(1,true),(2,true),(3,true),(4,true),(5,true),(6,true),(9,true),(7,false),(8,false)] rfl ?_)
 refine aG (aE ?_)
 refine aD (takeT7 (rt) (rm) (C) (c)) [3,4] [] (fun v0_=>[.box (rt) 134 [.va (Value.map (some rm))],.fact (MapA encK rm [])]) fun _ h37=>?_
 refine aE (aE ?_)
 refine ev_stop (go_rounds 9 ?_)
 refine aG (aJ ?_)
 refine ev_stop (go_index0 (sz:=1) Tryz.tbs_ok (.inr 5) (0) rfl rfl rfl rfl rfl rfl (by omega) rfl Row.at0 (fun g38 e39=>?_))
 subst e39
 refine aG ?_
 refine ev_stop (go_loadL Tryz.tbs_ok (.inr 5) 0 0 (Int.negSucc 0) rfl rfl rfl rfl rfl (fun _ h=>Row.rd h) (by first | omega | rfl) (fun _=>rfl) (by decide) (by decide) ?_)
 refine aG ?_
 refine ev_inline Tryz.tbs_ok Tryz.func37 rfl rfl ?_
 refine aG ?_
 refine ev_new fun b40=>?_
 refine aJ ?_
 refine ev_stop (go_draw Tryz.tbs_ok false [0,26] [(0,true),(1,true),(2,true),(3,true),(4,true),(5,true),(6,true),(7,true),(8,true),(9,true),(10,true),(11,true),(12,false),(13,false),(14,false),(15,false),(16,false)] rfl ?_)
 refine aG (aE ?_)
 refine ev_new fun b41=>?_
 refine aE ?_
 refine ev_stop (go_appendE (sz:=5) (M:=[]) (enc:=encTd) Tryz.tbs_ok [] [] (.inr 27) ([]) ([{ si:=1,st:=0,id:=7,co:=1,ve:=1:ToldS }]) ([{ si:=1,st:=0,id:=7,co:=1,ve:=1:ToldS }]) (1) rfl rfl rfl rfl rfl rfl rfl (by decide) rfl (by decide) (fun _ _=>Row.nil _ _ _) rfl (fun _ p=>Pt.rd p rfl) (by first | rfl | simp) (by first | rfl | omega) (aM (1)) (aN (1)) (fun _ _=>aL) (fun A42 c43 h44=>?_))
 refine aG (aE (aE (aE (aK ?_))))
 refine ev_fin ⟨trivial,aL,_,rfl,?_⟩
 refine aG ?_
 refine wN (0+1) ?_
 refine ev_fin (go Tryz.tbs_ok 1000 ?_)
 refine aI ?_
 refine ev_fin (go Tryz.tbs_ok 1000 ?_)
 refine wN (0+1) ?_
 refine ev_fin (go Tryz.tbs_ok 1000 ?_)
 refine aI ?_
 refine ev_fin (go Tryz.tbs_ok 1000 ?_)
 refine ev_fin ⟨trivial,aL,_,rfl,?_⟩
 refine aG ?_
 refine ev_inline Tryz.tbs_ok Tryz.func27 rfl rfl ?_
 refine aG ?_
 refine ev_new fun b45=>?_
 refine aC R1 [1] [] fun ⟨x46,x47⟩ h48=>?_
 refine ev_new fun b49=>?_
 refine ev_fin ⟨trivial,aL,_,rfl,?_⟩
 refine aG ?_
 refine aD O3 [2] [] (fun v0_=>[.box (o) 105 [vI 0,vI 2,vI 1,vI 3,vI (-1),vI 1,vI 1,vI (-1),vI (-1),vI (-1),vI (-1),vI 0,vI 0,vI 0,vI (-1),vI (-1),vI (-1),vI (-1),.bl false,vI 0]]) fun _ h50=>?_
 refine aJ ?_
 refine ev_fin ⟨trivial,aL,_,rfl,?_⟩
 refine aG ?_
 exact ev_fin ⟨trivial,_,rfl,((A42,c43)),rfl,by trivial,aF [0,1,2,3,4,28]⟩
 all_goals skip
set_option maxHeartbeats 8000000 in
theorem sync4S (s q p bk rt o:Nat) (T:Option Addr) (tn tc:Nat) (f:Nat) (d:Bool):Triple Tryz.prog 6 [pP s] [Pt s 67 (SV.denL (siteV 1 3 q p bk rt none (some ⟨o,0,none⟩) none 0 0 T tn tc)),StQ p q sta4 f d 218 0,Pt o 105 (SV.denL (ownV (-1) 1 1 0 0 0))] [TabA] Unit (fun _=>.tuple #[.slice none 0 0,.slice T tn tc,.int .i64 0]) (fun _=>True)
 (fun _=>[Pt s 67 (SV.denL (siteV 1 3 q p bk rt none (some ⟨o,0,none⟩) none 0 0 none 0 0)),StQ p q sta4 1 false 218 0,Pt o 105 (SV.denL (ownV (-1) 1 1 0 0 0))]):=by
 have S1:=syncQ p q sta4 f d 218 0
 have R0:=regQ7 p q sta4 1 false 218 0 1 rfl
 have O2:=epochO o (-1) 1 1 0 0 0
 have O3:=sureO o (-1) 1 1 0 0 0 1 1 rfl
 have O4:=commitY o 1 0 0 0 (by decide)
 have O5:=targetO o (-1) 1 1 0 0 0
 refine triple_intro Tryz.tbs_ok Tryz.func6 rfl [.pt 0 s 0] [.box s 67 (siteV 1 3 q p bk rt none (some ⟨o,0,none⟩) none 0 0 T tn tc),.fact (StQ p q sta4 f d 218 0),.box o 105 (ownV (-1) 1 1 0 0 0)] ⟨rfl,trivial⟩ rfl (by simp [siteV,ownV,SV.good,SV.goodL]) ?_
 intro E
 refine aG ?_
 refine ev_inline Tryz.tbs_ok Tryz.func23 rfl rfl ?_
 refine aG ?_
 refine ev_fin ⟨trivial,aL,_,rfl,?_⟩
 refine aG (aI ?_)
 refine aC S1 [1] [.inl 0] fun _ h0=>?_
 refine aI ?_
 refine ev_stop (go_rounds 9 ?_)
 refine aG (aJ ?_)
 refine ev_stop (go_indexAg Tryz.tbs_ok (0) rfl rfl rfl rfl rfl rfl (by decide) rfl ?_)
 refine aG ?_
 refine aD O2 [2] [] (fun v0_=>[.box (o) 105 [vI 0,vI 2,vI 1,vI 3,vI (-1),vI 1,vI 1,vI (-1),vI (-1),vI (-1),vI (-1),vI 0,vI 0,vI 0,vI (-1),vI (-1),vI (-1),vI (-1),.bl false,vI 0]]) fun _ h1=>?_
 refine aJ ?_
 refine ev_inline Tryz.tbs_ok Tryz.func27 rfl rfl ?_
 refine aG ?_
 refine ev_new fun b2=>?_
 refine aC R0 [1] [] fun ⟨x3,x4⟩ h5=>?_
 refine ev_new fun b6=>?_
 refine ev_fin ⟨trivial,aL,_,rfl,?_⟩
 refine aG ?_
 refine aD O3 [2] [] (fun v0_=>[.box (o) 105 [vI 0,vI 2,vI 1,vI 3,vI (-1),vI 1,vI 1,vI (-1),vI (-1),vI (-1),vI (-1),vI 0,vI 0,vI 0,vI (-1),vI (-1),vI (-1),vI (-1),.bl false,vI 0]]) fun _ h7=>?_
 refine ev_inline Tryz.tbs_ok Tryz.func28 rfl rfl ?_
 refine aG ?_
 refine ev_stop (go_indexArr Tryz.tbs_ok (0) rfl rfl rfl rfl rfl rfl (by first | decide | omega) rfl rfl ?_)
 refine aG ?_
 refine ev_inline Tryz.tbs_ok Tryz.func27 rfl rfl ?_
 refine aG ?_
 refine ev_new fun b8=>?_
 refine aC R0 [1] [] fun ⟨x9,x10⟩ h11=>?_
 refine ev_new fun b12=>?_
 refine ev_fin ⟨trivial,aL,_,rfl,?_⟩
 refine aG ?_
 refine ev_new fun b13=>?_
 refine aD O2 [2] [] (fun v0_=>[.box (o) 105 [vI 0,vI 2,vI 1,vI 3,vI (-1),vI 1,vI 1,vI (-1),vI (-1),vI (-1),vI (-1),vI 0,vI 0,vI 0,vI (-1),vI (-1),vI (-1),vI (-1),.bl false,vI 0]]) fun _ h14=>?_
 refine aI ?_
 refine ev_stop (go_draw Tryz.tbs_ok false [9] [(0,true),(2,true),(3,true),(4,true),(1,false),(5,false),(6,false)] rfl ?_)
 refine aG (aE ?_)
 refine aD O4 [2] [] (fun v0_=>[.box (o) 105 [vI 0,vI 2,vI 1,vI 3,vI (-1),vI 1,vI 1,vI (-1),vI (-1),vI (-1),vI (-1),vI 0,vI 0,vI 0,vI (-1),vI (-1),vI (-1),vI (-1),.bl false,vI 0]]) fun _ h15=>?_
 refine aE (aE (aK (aI ?_)))
 refine ev_inline Tryz.tbs_ok Tryz.func27 rfl rfl ?_
 refine aG ?_
 refine ev_new fun b16=>?_
 refine aC R0 [1] [] fun ⟨x17,x18⟩ h19=>?_
 refine ev_new fun b20=>?_
 refine ev_fin ⟨trivial,aL,_,rfl,?_⟩
 refine aG ?_
 refine aD O5 [2] [] (fun v0_=>[.box (o) 105 [vI 0,vI 2,vI 1,vI 3,vI (-1),vI 1,vI 1,vI (-1),vI (-1),vI (-1),vI (-1),vI 0,vI 0,vI 0,vI (-1),vI (-1),vI (-1),vI (-1),.bl false,vI 0]]) fun _ h21=>?_
 refine aJ ?_
 refine ev_fin ⟨trivial,aL,_,rfl,?_⟩
 refine aG ?_
 refine wN (0+1) ?_
 refine ev_fin (go Tryz.tbs_ok 1000 ?_)
 refine aJ ?_
 refine ev_stop (go_indexAg Tryz.tbs_ok (0+1) rfl rfl rfl rfl rfl rfl (by decide) rfl ?_)
 refine aG ?_
 refine ev_inline Tryz.tbs_ok Tryz.func25 rfl rfl ?_
 refine aG ?_
 refine ev_inline Tryz.tbs_ok Tryz.func63 rfl rfl ?_
 refine aG ?_
 refine ev_fin ⟨trivial,aL,_,rfl,?_⟩
 refine aG ?_
 refine ev_fin ⟨trivial,aL,_,rfl,?_⟩
 refine aG (aI ?_)
 refine wN (0+1+1) ?_
 refine ev_fin (go Tryz.tbs_ok 1000 ?_)
 refine aJ ?_
 refine ev_stop (go_indexAg Tryz.tbs_ok (0+1+1) rfl rfl rfl rfl rfl rfl (by decide) rfl ?_)
 refine aG ?_
 refine ev_inline Tryz.tbs_ok Tryz.func25 rfl rfl ?_
 refine aG ?_
 refine ev_inline Tryz.tbs_ok Tryz.func63 rfl rfl ?_
 refine aG ?_
 refine ev_fin ⟨trivial,aL,_,rfl,?_⟩
 refine aG ?_
 refine ev_fin ⟨trivial,aL,_,rfl,?_⟩
 refine aG (aI ?_)
 refine wN (0+1+1+1) ?_
 refine ev_fin (go Tryz.tbs_ok 1000 ?_)
 refine aJ ?_
 refine ev_stop (go_indexAg Tryz.tbs_ok (0+1+1+1) rfl rfl rfl rfl rfl rfl (by decide) rfl ?_)
 refine aG ?_
 refine ev_inline Tryz.tbs_ok Tryz.func25 rfl rfl ?_
 refine aG ?_
 refine ev_inline Tryz.tbs_ok Tryz.func63 rfl rfl ?_
 refine aG ?_
 refine ev_fin ⟨trivial,aL,_,rfl,?_⟩
 refine aG ?_
 refine ev_fin ⟨trivial,aL,_,rfl,?_⟩
 refine aG (aI ?_)
 refine wN (0+1+1+1+1) ?_
 refine ev_fin (go Tryz.tbs_ok 1000 ?_)
 refine aI ?_
 refine ev_fin (go Tryz.tbs_ok 1000 ?_)
 refine ev_stop (go_draw Tryz.tbs_ok false [0] [(0,true),(1,true),(2,true),(3,true),(4,true),(5,true),(6,true),(7,true),(8,false),(9,false)] rfl ?_)
 refine aG (aE (aE (aK ?_)))
 exact ev_fin ⟨trivial,_,rfl,(),rfl,by trivial,aF [0,1,2]⟩
 all_goals skip
def downV (id n:Int) (q:Nat):List SV:=[vI id,vI n,vP q,vI 0,.va (.pointer none),.va (.pointer none),.va (.pointer none),.va (.pointer none),.va (.pointer none),.va (.pointer none),.va (.pointer none),.va (.pointer none),.va (.pointer none),.va (.pointer none),vI 0,vI 0,vI 0,vI 0,.va (.pointer none),vL none 0 0,vL none 0 0]
theorem crashS (id n:Int) (s q p bk rt:Nat) (ow:Option Addr) (z:Sta) (f b i:Nat):Triple Tryz.prog 18 [pP s,.slice none 0 0] [Pt s 67 (SV.denL (siteV id n q p bk rt none ow none 0 0 none 0 0)),StQ p q z f false b i] [] Unit (fun _=>.int .i64 0) (fun _=>True)
 (fun _=>[Pt s 67 (SV.denL (downV id n q)),DownQ q z b i]):=by
 have T1:=crashQ p q z f b i
 refine triple_intro Tryz.tbs_ok Tryz.func18 rfl [.pt 0 s 0,vL none 0 0] [.box s 67 (siteV id n q p bk rt none ow none 0 0 none 0 0),.fact (StQ p q z f false b i)] ⟨rfl,trivial,trivial⟩ rfl (by simp [siteV,SV.good,SV.goodL]) ?_
 intro E
 refine aG ?_
 refine ev_inline Tryz.tbs_ok Tryz.func23 rfl rfl ?_
 refine aG ?_
 refine ev_fin ⟨trivial,aL,_,rfl,?_⟩
 refine aG (aI ?_)
 refine aC T1 [1] [] fun _ h0=>?_
 refine aI ?_
 refine ev_stop (go_draw Tryz.tbs_ok false [0] [(0,true),(1,true),(2,true),(3,true),(4,true),(5,true),(6,true),(7,true),(8,true),(9,true),(10,true),(11,true),(12,true),(13,true),(14,true),(15,true),(16,true),(17,true),(18,true),(19,false)] rfl ?_)
 refine aG (aE (aK ?_))
 exact ev_fin ⟨trivial,_,rfl,(),rfl,by trivial,aF [0,1]⟩
 all_goals skip
theorem restartS (id n:Int) (s q:Nat) (z:Sta) (b i m:Nat) (hb:b≤100000) (hi:i≤1000) (hm:m=z.F.length):Triple Tryz.prog 20 [pP s] [Pt s 67 (SV.denL (downV id n q)),DownQ q z b i] [TabA] (Nat × Nat × Nat × Nat × Nat) (fun _=>.int .i64 0) (fun _=>True)
 (fun (p,bk,bm,rt,rm)=>[Pt s 67 (SV.denL (siteV id n q p bk rt none none none 0 0 none 0 0)),StQ p q z m false b (i+1),Pt bk 170 [.bool true,.int .i64 16,.map (some bm)],MapA encI bm [],Pt rt 134 [.map (some rm)],MapA encK rm []]):=by
 have T1:=startQ q z b i (by omega)
 have T2:=openQ q z b (i+1) m hb hm
 refine triple_intro Tryz.tbs_ok Tryz.func20 rfl [.pt 0 s 0] [.box s 67 (downV id n q),.fact (DownQ q z b i)] ⟨rfl,trivial⟩ rfl (by simp [downV,SV.good,SV.goodL]) ?_
 intro E
 refine aG ?_
 refine ev_inline Tryz.tbs_ok Tryz.func23 rfl rfl ?_
 refine aG ?_
 refine ev_fin ⟨trivial,aL,_,rfl,?_⟩
 refine aG (aI (aI ?_))
 refine aC T1 [1] [] fun _ h0=>?_
 refine aI ?_
 refine ev_inline Tryz.tbs_ok Tryz.func59 rfl rfl ?_
 refine aG ?_
 refine aC T2 [1] [.inl 0] fun x1 h2=>?_
 refine aI ?_
 refine ev_stop (go_draw Tryz.tbs_ok false [0] [(0,true),(1,true),(2,true),(3,true),(4,true),(5,true),(6,true),(7,true),(8,true),(9,true),(10,true),(11,true),(12,true),(13,true),(14,true),(15,true),(16,true),(17,true),(18,true),(19,true),(20,true),(21,true),(22,true),(23,false),(24,false),(25,false),(26,false),(27,false)] rfl ?_)
 refine aG (aE ?_)
 refine aD newB1 [] [] (fun (v0_,v1_)=>[.box (v0_) 170 [.bl true,vI 16,.va (Value.map (some v1_))],.fact (MapA encI v1_ [])]) fun ⟨x3,x4⟩ h5=>?_
 refine aE ?_
 refine aD tableT [] [] (fun (v0_,v1_)=>[.box (v0_) 134 [.va (Value.map (some v1_))],.fact (MapA encK v1_ [])]) fun ⟨x6,x7⟩ h8=>?_
 refine aE (aE (aE (aK ?_)))
 refine ev_fin ⟨trivial,aL,_,rfl,?_⟩
 refine aG ?_
 exact ev_fin ⟨trivial,_,rfl,((x1,x3,x4,x6,x7)),rfl,by trivial,aF [0,1,2,3,4,5]⟩
 all_goals skip
structure ItemS where
 s:Int
 i:Int
 o1:Int
 o2:Int
 o3:Int
 o4:Int
 o5:Int
 c:Int
 v:Int
 A:Option Addr
 n:Nat
 a:Nat
def encIt (x:ItemS):List Value:=[.int .i64 x.s,.int .i64 x.i,.int .i64 x.o1,.int .i64 x.o2,.int .i64 x.o3,.int .i64 x.o4,.int .i64 x.o5,.int .i64 x.c,.int .i64 x.v,.slice x.A x.n x.a]
set_option maxHeartbeats 8000000 in
theorem itemsT (F:Option Addr) (f:Nat) (A:Option Addr) (a:Nat) (B1:Option Addr) (u1:Nat) (B2:Option Addr) (u2:Nat) (B3:Option Addr) (u3:Nat):Triple Tryz.prog 30 [.slice F 1 f,.agg #[.slice A 1 a,.slice B1 0 u1,.slice B2 0 u2,.slice B3 0 u3]] [] [Rd 2 F 1 (([⟨0,0⟩]:List Spt).flatMap encP),Rd 6 A 1 (([ent7]:List Ent).flatMap encE)] Sl (fun (C,c)=>.tuple #[.slice C 1 c,.int .i64 0]) (fun _=>True) (fun _=>[]):=by
 refine aT Tryz.func30 [vL F 1 f,.ag [vL A 1 a,vL B1 0 u1,vL B2 0 u2,vL B3 0 u3]] [] (fun E=>?_) ⟨trivial,by simp [SV.good,SV.goodL],trivial⟩
 refine go_fact (Row 129 10 none 0 0 (([]:List ItemS).flatMap encIt)) (Row.nilE _ _) ?_
 refine aG ?_
 refine ev_new fun b0=>?_
 refine ev_new fun b1=>?_
 refine ev_stop (go_rounds 9 ?_)
 refine aG (aJ ?_)
 refine ev_stop (go_indexAg Tryz.tbs_ok (0) rfl rfl rfl rfl rfl rfl (by decide) rfl ?_)
 refine aG (aI ?_)
 refine aC (foldT (A) (a)) [] [.inl 1] fun ⟨x2,x3,x4⟩ h5=>?_
 refine ev_stop (go_indexArr Tryz.tbs_ok (0) rfl rfl rfl rfl rfl rfl (by first | decide | omega) rfl rfl ?_)
 refine aG ?_
 refine wN (0+1) ?_
 refine ev_fin (go Tryz.tbs_ok 1000 ?_)
 refine aJ ?_
 refine ev_stop (go_indexAg Tryz.tbs_ok (0+1) rfl rfl rfl rfl rfl rfl (by decide) rfl ?_)
 refine aG (aI ?_)
 refine aC (foldT0 (B1) (u1)) [] [] fun _ h6=>?_
 refine ev_stop (go_indexArr Tryz.tbs_ok (0+1) rfl rfl rfl rfl rfl rfl (by first | decide | omega) rfl rfl ?_)
 refine aG ?_
 refine wN (0+1+1) ?_
 refine ev_fin (go Tryz.tbs_ok 1000 ?_)
 refine aJ ?_
 refine ev_stop (go_indexAg Tryz.tbs_ok (0+1+1) rfl rfl rfl rfl rfl rfl (by decide) rfl ?_)
 refine aG (aI ?_)
 refine aC (foldT0 (B2) (u2)) [] [] fun _ h7=>?_
 refine ev_stop (go_indexArr Tryz.tbs_ok (0+1+1) rfl rfl rfl rfl rfl rfl (by first | decide | omega) rfl rfl ?_)
 refine aG ?_
 refine wN (0+1+1+1) ?_
 refine ev_fin (go Tryz.tbs_ok 1000 ?_)
 refine aJ ?_
 refine ev_stop (go_indexAg Tryz.tbs_ok (0+1+1+1) rfl rfl rfl rfl rfl rfl (by decide) rfl ?_)
 refine aG (aI ?_)
 refine aC (foldT0 (B3) (u3)) [] [] fun _ h8=>?_
 refine ev_stop (go_indexArr Tryz.tbs_ok (0+1+1+1) rfl rfl rfl rfl rfl rfl (by first | decide | omega) rfl rfl ?_)
 refine aG ?_
 refine wN (0+1+1+1+1) ?_
 refine ev_fin (go Tryz.tbs_ok 1000 ?_)
 refine aI ?_
 refine ev_fin (go Tryz.tbs_ok 1000 ?_)
 refine ev_stop (go_makeMap encI rfl (fun _=>aL) (fun b9=>?_))
 refine aG ?_
 refine ev_stop (go_rounds 9 ?_)
 refine aG (aJ ?_)
 refine ev_stop (go_indexE (sz:=2) Tryz.tbs_ok (.inl 0) (0) rfl rfl rfl rfl rfl rfl (by omega) rfl (fun _ h=>h) (fun g10 o12 e11=>?_))
 subst e11
 refine aG ?_
 refine ev_stop (go_loadL Tryz.tbs_ok (.inl 0) 0 0 ({ s:=0,i:=0:Spt }) rfl rfl rfl rfl rfl (fun _ h=>h) (by first | omega | rfl) (fun _=>rfl) (by decide) (by decide) ?_)
 refine aG ?_
 refine ev_new fun b13=>?_
 refine ev_stop (go_draw Tryz.tbs_ok true [0,1,2,3,4,5,6] [(0,true),(1,true),(2,true),(3,true),(4,true),(5,true),(6,true),(7,true),(8,true),(9,true),(10,true),(11,true),(12,true),(13,true),(14,true),(15,true),(16,true),(17,true),(18,true),(19,true),(20,true),(21,true),(22,true),(23,true),(24,true),(25,true),(26,true)] rfl ?_)
 refine aG (aE (aI (aE (aI (aE ?_)))))
 refine ev_stop (tk_lookup (encK:=encI) Tryz.tbs_ok ([]) intK (0) _ (Value.int IntKind.i64 0) (.inr 5) aB rfl rfl rfl rfl rfl rfl rfl zeroN rfl (fun _ h=>h) rfl ?_)
 refine aG (aE (aI (aE ?_)))
 refine ev_stop (tk_indexArr Tryz.tbs_ok (0) aB rfl rfl rfl rfl rfl rfl rfl (by first | decide | omega) rfl rfl ?_)
 refine aG (aE (aI ?_))
 refine ev_stop (go_lookup (encK:=encI) Tryz.tbs_ok ([]) intK (0) _ (Value.int IntKind.i64 0) (.inr 5) rfl rfl rfl rfl rfl rfl zeroN rfl (fun _ h=>h) rfl ?_)
 refine aG ?_
 refine wN (0+1) ?_
 refine ev_stop (go_mapUpdate (encK:=encI) Tryz.tbs_ok 5 ([]) (putE ([]) (0) (Value.int IntKind.i64 (↑(0+1):Int))) intK (0) (Value.int IntKind.i64 (↑(0+1):Int)) rfl rfl rfl rfl rfl rfl rfl rfl rfl rfl ?_)
 refine aG ?_
 refine ev_stop (go_draw Tryz.tbs_ok false [2,4,6] [(0,true),(1,true),(2,true),(3,true),(4,true),(5,true),(6,true),(7,true),(8,false),(9,false)] rfl ?_)
 refine aG (aE ?_)
 refine ev_stop (tk_indexArr Tryz.tbs_ok (0) aB rfl rfl rfl rfl rfl rfl rfl (by first | decide | omega) rfl rfl ?_)
 refine aG (aE ?_)
 refine ev_stop (tk_index0 (sz:=3) Tryz.tbs_ok (.inr 4) (0) aB rfl rfl rfl rfl rfl rfl rfl (by omega) rfl Row.at0 (fun g14 e15=>?_))
 subst e15
 refine aG (aE ?_)
 refine ev_stop (tk_loadL Tryz.tbs_ok (.inr 1) 0 0 ({ c:=1,v:=1,A:=some { block:=x4,off:=0:Addr },n:=1,a:=1:OutS }) rfl aB rfl rfl rfl rfl rfl (fun _ h=>Row.rd h) (by first | omega | rfl) (fun _=>rfl) (by decide) (by decide) ?_)
 refine aG (aE ?_)
 refine ev_new fun b16=>?_
 refine aE (aK ?_)
 refine ev_inline Tryz.tbs_ok Tryz.func69 rfl rfl ?_
 refine aG (aI ?_)
 refine ev_new fun b17=>?_
 refine ev_stop (go_appendE (sz:=2) (M:=[_]) (enc:=encK2) Tryz.tbs_ok [8] [some b17] (.inr 3) ([]) ([(1,1)]) ([(1,1)]) (1) rfl rfl rfl rfl rfl rfl rfl (by decide) rfl (by decide) (fun _ p=>Pt.row (starH_one.1 p) rfl (by decide)) rfl (fun _ h=>Row.rd h) (by first | rfl | simp) (by first | rfl | omega) (aM (1)) (aN (1)) (fun _ _=>aL) (fun A21 c22 h23=>?_))
 refine aG ?_
 refine ev_fin ⟨trivial,aL,_,rfl,?_⟩
 refine aG ?_
 refine ev_stop (go_draw Tryz.tbs_ok false [1,6,7] [(0,true),(1,true),(2,true),(3,true),(4,true),(5,true),(6,true),(7,true),(8,true),(9,true),(10,true),(11,true),(12,true),(13,false),(14,false),(15,false)] rfl ?_)
 refine aG (aE ?_)
 refine ev_stop (tk_indexArr Tryz.tbs_ok (0) aB rfl rfl rfl rfl rfl rfl rfl (by first | decide | omega) rfl rfl ?_)
 refine aG (aE ?_)
 refine ev_stop (tk_indexE (sz:=6) Tryz.tbs_ok (.inl 1) (0) aB rfl rfl rfl rfl rfl rfl rfl (by omega) rfl (fun _ h=>h) (fun g24 o26 e25=>?_))
 subst e25
 refine aG (aE ?_)
 refine ev_stop (tk_loadL Tryz.tbs_ok (.inl 1) 0 1 ({ e:=2,id:=7,st:=0,ex := -1,k:=1,a:=1:Ent }) rfl aB rfl rfl rfl rfl rfl (fun _ h=>h) (by first | omega | rfl) (fun _=>rfl) (by decide) (by decide) ?_)
 refine aG (aE ?_)
 refine ev_new fun b27=>?_
 refine aE ?_
 refine ev_stop (go_appendE (sz:=10) (M:=[]) (enc:=encIt) Tryz.tbs_ok [] [] (.inr 10) ([]) ([{ s:=0,i:=0,o1:=7,o2:=0,o3 := -1,o4:=1,o5:=1,c:=1,v:=1,A:=A21,n:=1,a:=c22:ItemS }]) ([{ s:=0,i:=0,o1:=7,o2:=0,o3 := -1,o4:=1,o5:=1,c:=1,v:=1,A:=A21,n:=1,a:=c22:ItemS }]) (1) rfl rfl rfl rfl rfl rfl rfl (by decide) rfl (by decide) (fun _ _=>Row.nil _ _ _) rfl (fun _ p=>Pt.rd p rfl) (by first | rfl | simp) (by first | rfl | omega) (aM (1)) (aN (1)) (fun _ _=>aL) (fun A28 c29 h30=>?_))
 refine aG (aE (aK ?_))
 refine wN (0+1) ?_
 refine ev_fin (go Tryz.tbs_ok 1000 ?_)
 refine aI ?_
 refine ev_fin (go Tryz.tbs_ok 1000 ?_)
 refine ev_fin ⟨trivial,_,rfl,((A28,c29)),rfl,(by trivial),Frm.nil _⟩
 all_goals skip
theorem ok_told:EqOk Tryz.prog 72:=⟨by kernel_rfl,by kernel_rfl⟩
theorem eq_told (a b c d e a' b' c' d' e':Int) (n:Nat) (w:World):(Op.equalIn (n+3) 72 (.agg #[.int .i64 a,.int .i64 b,.int .i64 c,.int .i64 d,.int .i64 e]) (.agg #[.int .i64 a',.int .i64 b',.int .i64 c',.int .i64 d',.int .i64 e'])).run Tryz.prog w = .ok (a==a'&&(b==b'&&((c==c'&&(d==d'&&(e==e'&&true)))&&true))) w:=by
 refine eq_struct ok_told rfl ?_
 iterate 2 refine eqF_int (by decide) Tryz.underlying3 rfl rfl ?_
 refine eqF_agg (by decide) Tryz.underlying26 (i:=(Tryz.prog.info? 26).get rfl) rfl rfl rfl rfl (eq_ans _ _ _ _ _ _ n w) ?_
 exact eqF_nil
theorem feedQ4 (p q i:Nat):Triple Tryz.prog 29 [pP p] [StQ p q sta4 1 false 218 i] [] Sl (fun (A',c')=>.tuple #[.slice A' 1 c',.int .i64 1]) (fun (_,c')=>1≤c') (fun (A',c')=>[StQ p q sta4 1 false 218 i,Row 112 2 A' 1 c' (([⟨0,0⟩]:List Spt).flatMap encP)]):=feedQ p q sta4 1 false 218 i
set_option maxHeartbeats 8000000 in
theorem feedS (s q p bk rt i:Nat) (ow:Option Addr):Triple Tryz.prog 7 [pP s] [Pt s 67 (SV.denL (siteV 1 3 q p bk rt none ow none 0 0 none 0 0)),StQ p q sta4 1 false 218 i] [] Sl (fun (C,c)=>.tuple #[.slice C 1 c,.int .i64 0]) (fun _=>True) (fun _=>[Pt s 67 (SV.denL (siteV 1 3 q p bk rt none ow none 0 0 none 0 0)),StQ p q sta4 1 false 218 i]):=by
 have T1:=feedQ4 p q i
 have R0:=regQ7 p q sta4 1 false 218 i 1 rfl
 have R1:=fun j hj hg=>regQ0 p q sta4 1 false 218 i j 0 0 0 hj hg
 have R2:=R1 1 (by decide) rfl
 have R3:=R1 2 (by decide) rfl
 have R4:=R1 3 (by decide) rfl
 have I1:=fun F f A a B1 u1 B2 u2 B3 u3=>(itemsT F f A a B1 u1 B2 u2 B3 u3).reads (N':=[Row 112 2 F 1 f (([⟨0,0⟩]:List Spt).flatMap encP),Row 127 6 A 1 a (([ent7]:List Ent).flatMap encE)]) fun X hX=>by
  simp only [List.mem_cons,List.not_mem_nil,or_false] at hX
  rcases hX with rfl | rfl
  · exact ⟨_,List.mem_cons_self,fun _ q=>Row.rd q⟩
  exact ⟨_,List.mem_cons_of_mem _ List.mem_cons_self,fun _ q=>Row.rd q⟩
 refine triple_intro Tryz.tbs_ok Tryz.func7 rfl [.pt 0 s 0] [.box s 67 (siteV 1 3 q p bk rt none ow none 0 0 none 0 0),.fact (StQ p q sta4 1 false 218 i)] ⟨rfl,trivial⟩ rfl (by simp [siteV,SV.good,SV.goodL]) ?_
 intro E
 refine aG ?_
 refine ev_inline Tryz.tbs_ok Tryz.func23 rfl rfl ?_
 refine aG ?_
 refine ev_fin ⟨trivial,aL,_,rfl,?_⟩
 refine aG (aI ?_)
 refine aC T1 [1] [] fun ⟨x0,x1⟩ h2=>?_
 refine ev_new fun b3=>?_
 refine ev_stop (go_rounds 9 ?_)
 refine aG (aJ ?_)
 refine ev_inline Tryz.tbs_ok Tryz.func27 rfl rfl ?_
 refine aG ?_
 refine ev_new fun b4=>?_
 refine aC R0 [1] [] fun ⟨x5,x6⟩ h7=>?_
 refine ev_new fun b8=>?_
 refine ev_fin ⟨trivial,aL,_,rfl,?_⟩
 refine aG ?_
 refine ev_stop (go_indexArr Tryz.tbs_ok (0) rfl rfl rfl rfl rfl rfl (by first | decide | omega) rfl rfl ?_)
 refine aG ?_
 refine wN (0+1) ?_
 refine ev_fin (go Tryz.tbs_ok 1000 ?_)
 refine aJ ?_
 refine ev_inline Tryz.tbs_ok Tryz.func27 rfl rfl ?_
 refine aG ?_
 refine ev_new fun b9=>?_
 refine aC R2 [1] [] fun ⟨x10,x11⟩ h12=>?_
 refine ev_new fun b13=>?_
 refine ev_fin ⟨trivial,aL,_,rfl,?_⟩
 refine aG ?_
 refine ev_stop (go_indexArr Tryz.tbs_ok (0+1) rfl rfl rfl rfl rfl rfl (by first | decide | omega) rfl rfl ?_)
 refine aG ?_
 refine wN (0+1+1) ?_
 refine ev_fin (go Tryz.tbs_ok 1000 ?_)
 refine aJ ?_
 refine ev_inline Tryz.tbs_ok Tryz.func27 rfl rfl ?_
 refine aG ?_
 refine ev_new fun b14=>?_
 refine aC R3 [1] [] fun ⟨x15,x16⟩ h17=>?_
 refine ev_new fun b18=>?_
 refine ev_fin ⟨trivial,aL,_,rfl,?_⟩
 refine aG ?_
 refine ev_stop (go_indexArr Tryz.tbs_ok (0+1+1) rfl rfl rfl rfl rfl rfl (by first | decide | omega) rfl rfl ?_)
 refine aG ?_
 refine wN (0+1+1+1) ?_
 refine ev_fin (go Tryz.tbs_ok 1000 ?_)
 refine aJ ?_
 refine ev_inline Tryz.tbs_ok Tryz.func27 rfl rfl ?_
 refine aG ?_
 refine ev_new fun b19=>?_
 refine aC R4 [1] [] fun ⟨x20,x21⟩ h22=>?_
 refine ev_new fun b23=>?_
 refine ev_fin ⟨trivial,aL,_,rfl,?_⟩
 refine aG ?_
 refine ev_stop (go_indexArr Tryz.tbs_ok (0+1+1+1) rfl rfl rfl rfl rfl rfl (by first | decide | omega) rfl rfl ?_)
 refine aG ?_
 refine wN (0+1+1+1+1) ?_
 refine ev_fin (go Tryz.tbs_ok 1000 ?_)
 refine aI ?_
 refine ev_fin (go Tryz.tbs_ok 1000 ?_)
 refine ev_stop (go_draw Tryz.tbs_ok false [3] [(0,true),(1,true),(2,true),(3,true),(4,false),(5,true),(6,false),(7,false),(8,false)] rfl ?_)
 refine aG (aE ?_)
 refine ev_stop (tk_front Tryz.tbs_ok (1) (x1) aB rfl rfl rfl rfl rfl rfl rfl ⟨_,rfl⟩ rfl (by decide) (by omega) (by omega) ?_)
 refine aG (aE ?_)
 refine aC (I1 (x0) (x1) (x5) (x6) (x10) (x11) (x15) (x16) (x20) (x21)) [] [.inr 2,.inr 5] fun ⟨x24,x25⟩ h26=>?_
 refine aE (aE (aE (aK ?_)))
 exact ev_fin ⟨trivial,_,rfl,((x24,x25)),rfl,by trivial,aF [0,1]⟩
 all_goals skip
set_option maxHeartbeats 16000000 in
theorem livesT:Triple Tryz.prog 5 [] [] [TabA,Rd 1 (some ⟨0,0,none⟩) 11 (([0,35,119,3,123,51,19,128,257,3,3]:List Int).flatMap encN)] Unit (fun _=>.bool true) (fun _=>True) (fun _=>[]):=by
 have N1:=newS 1 3 (by decide) (by decide) (by decide) (by decide)
 have C1:=fun s q p bk rt ow=>crashS 1 3 s q p bk rt ow sta4 1 218 0
 have C2:=fun s q=>restartS 1 3 s q sta4 218 0 1 (by decide) (by decide) rfl
 refine aT Tryz.func5 [] [] (fun E=>?_) trivial
 refine aG ?_
 refine aD N1 [] [.inl 0] (fun (v0_,v1_,v2_,v3_,v4_,v5_,v6_)=>[.box (v0_) 67 [vI 1,vI 3,vP v1_,vI 0,vP v2_,vP v3_,.va (Value.pointer none),.va (Value.pointer none),.va (Value.pointer none),.va (Value.pointer none),.va (Value.pointer none),.va (Value.pointer none),.va (Value.pointer none),.va (Value.pointer none),vI 0,vI 0,vI 0,vI 0,vP v5_,vL none 0 0,vL none 0 0],.fact (StQ v2_ v1_ noSta 0 false 0 0),.box (v3_) 170 [.bl true,vI 0,.va (Value.map (some v4_))],.fact (MapA encI v4_ []),.box (v5_) 134 [.va (Value.map (some v6_))],.fact (MapA encK v6_ [])]) fun ⟨x0,x1,x2,x3,x4,x5,x6⟩ h7=>?_
 refine aI ?_
 refine aD (claimS (x0) (x1) (x2) (x3) (x4) (x5)) [0,1,2,3] [.inl 0] (fun (v0_,v1_,v2_,v3_,v4_)=>[.box (x0) 67 [vI 1,vI 3,vP x1,vI 0,vP x2,vP x3,vP v0_,.va (Value.pointer none),.va (Value.pointer none),.va (Value.pointer none),.va (Value.pointer none),.va (Value.pointer none),.va (Value.pointer none),.va (Value.pointer none),vI 0,vI 0,vI 0,vI 0,vP x5,vL v3_ 2 v4_,vL none 0 0],.fact (StQ x2 x1 sta1 0 true 47 0),.box (x3) 170 [.bl true,vI 0,.va (Value.map (some x4))],.fact (MapA encI x4 [(0,Value.agg #[Value.int IntKind.i64 2,Value.int IntKind.i64 16])]),.box (v0_) 152 [vI 0,vI 2,vI 1,vI 3,vI 0,.bl false,.bl true,.bl false,.bl false,.bl false,.bl false,.bl false,vI 0,vI 0,vL none 0 0,vI 0,vI 2,vI 0,vL v1_ 0 v2_,vI 0,vI 0,vI 0,vL none 0 0,vI 0,vI 0,vI 0,vL none 0 0,vI 0,vI 0,vI 0,vL none 0 0,vI 0,vI 0,vI 0,vL none 0 0,vI 0,vI 0,vI 0,vL none 0 0,vI 0],.fact (Row 28 18 v3_ 2 v4_ (List.flatMap encM mailsP))]) fun ⟨x8,x9,x10,x11,x12⟩ h13=>?_
 refine aI ?_
 refine aD (sync1S (x0) (x1) (x2) (x3) (x5) (some { block:=x8,off:=0:Addr }) (x11) (x12)) [0,1] [.inl 0] (fun v0_=>[.box (x0) 67 [vI 1,vI 3,vP x1,vI 0,vP x2,vP x3,vP x8,.va (Value.pointer none),.va (Value.pointer none),.va (Value.pointer none),.va (Value.pointer none),.va (Value.pointer none),.va (Value.pointer none),.va (Value.pointer none),vI 0,vI 0,vI 0,vI 0,vP x5,vL none 0 0,vL none 0 0],.fact (StQ x2 x1 sta1 0 false 47 0)]) fun _ h14=>?_
 refine aI (aI ?_)
 refine ev_stop (go_index0 (sz:=18) Tryz.tbs_ok (.inr 7) (0) rfl rfl rfl rfl rfl rfl (by omega) rfl Row.at0 (fun g15 e16=>?_))
 subst e16
 refine aG ?_
 refine ev_stop (go_loadL Tryz.tbs_ok (.inr 7) 0 0 ({ k:=1,fr:=1,to:=0,st:=0,ep:=2,vi:=0,ba:=0,le:=0,sm:=0,A:=none,n:=0,a:=0,o1:=0,o2:=0,o3:=0,o4:=0,o5:=0,a1:=0,a2:=0,a3:=0:MailS }) rfl rfl rfl rfl rfl (fun _ h=>Row.rd h) (by first | omega | rfl) (fun _=>rfl) (by decide) (by decide) ?_)
 refine aG (aI ?_)
 refine ev_stop (go_atE (sz:=18) Tryz.tbs_ok (1) rfl rfl rfl rfl rfl rfl (by omega) ?_)
 refine aG ?_
 refine ev_stop (go_loadL Tryz.tbs_ok (.inr 7) 1 2 ({ k:=1,fr:=1,to:=2,st:=0,ep:=2,vi:=0,ba:=0,le:=0,sm:=0,A:=none,n:=0,a:=0,o1:=0,o2:=0,o3:=0,o4:=0,o5:=0,a1:=0,a2:=0,a3:=0:MailS }) rfl rfl rfl rfl rfl (fun _ h=>Row.rd h) (by first | omega | rfl) (fun _=>rfl) (by decide) (by decide) ?_)
 refine aG (aI ?_)
 refine ev_stop (go_atE (sz:=18) Tryz.tbs_ok (1) rfl rfl rfl rfl rfl rfl (by omega) ?_)
 refine aG ?_
 refine ev_stop (go_loadL Tryz.tbs_ok (.inr 7) 1 4 ({ k:=1,fr:=1,to:=2,st:=0,ep:=2,vi:=0,ba:=0,le:=0,sm:=0,A:=none,n:=0,a:=0,o1:=0,o2:=0,o3:=0,o4:=0,o5:=0,a1:=0,a2:=0,a3:=0:MailS }) rfl rfl rfl rfl rfl (fun _ h=>Row.rd h) (by first | omega | rfl) (fun _=>rfl) (by decide) (by decide) ?_)
 refine aG (aI ?_)
 refine aD (takeP (x0) (x1) (x2) (x3) (x5) (x8) (x9) (x10)) [0,1,6] [.inl 0,.inl 1] (fun (v0_,v1_,v2_,v3_,v4_,v5_,v6_,v7_,v8_)=>[.box (x0) 67 [vI 1,vI 3,vP x1,vI 0,vP x2,vP x3,.va (Value.pointer none),.va (Value.pointer none),.va (Value.pointer none),.va (Value.pointer none),vP v0_,.va (Value.pointer none),.va (Value.pointer none),.va (Value.pointer none),vI 0,vI 0,vI 0,vI 0,vP x5,vL v1_ 2 v2_,vL none 0 0],.fact (StQ x2 x1 sta2 0 true 94 0),.box (x8) 152 [vI 0,vI 2,vI 1,vI 3,vI 0,.bl true,.bl true,.bl false,.bl false,.bl false,.bl false,.bl false,vI 2,vI 0,vL v7_ 0 v8_,vI 0,vI 2,vI 0,vL x9 0 x10,vI 0,vI 0,vI 0,vL none 0 0,vI 0,vI 0,vI 0,vL none 0 0,vI 0,vI 0,vI 0,vL none 0 0,vI 0,vI 0,vI 0,vL none 0 0,vI 0,vI 0,vI 0,vL none 0 0,vI 0],.box (v0_) 105 [vI 0,vI 2,vI 1,vI 3,vI (-1),vI (-1),vI (-1),vI (-1),vI (-1),vI (-1),vI (-1),vI 0,vI 0,vI (-1),vI (-1),vI (-1),vI (-1),vI (-1),.bl false,vI 0],.fact (Row 28 18 v1_ 2 v2_ (List.flatMap encM (mailsA v3_ v4_ v5_ v6_ 0)))]) fun ⟨x17,x18,x19,x20,x21,x22,x23,x24,x25⟩ h26=>?_
 refine aD (ownerS (x0) (x1) (x2) (x3) (x5) (x17) (-1) (-1) (-1) (x18) (2) (x19)) [0,8] [] (fun v0_=>[.box (x0) 67 [vI 1,vI 3,vP x1,vI 0,vP x2,vP x3,.va (Value.pointer none),.va (Value.pointer none),.va (Value.pointer none),.va (Value.pointer none),vP x17,.va (Value.pointer none),.va (Value.pointer none),.va (Value.pointer none),vI 0,vI 0,vI 0,vI 0,vP x5,vL x18 2 x19,vL none 0 0],.box (x17) 105 [vI 0,vI 2,vI 1,vI 3,vI (-1),vI (-1),vI (-1),vI (-1),vI (-1),vI (-1),vI (-1),vI 0,vI 0,vI (-1),vI (-1),vI (-1),vI (-1),vI (-1),.bl false,vI 0]]) fun _ h27=>?_
 refine aD (sync2S (x0) (x1) (x2) (x3) (x5) (x17) (x18) (x19)) [0,1,8] [.inl 0] (fun v0_=>[.box (x0) 67 [vI 1,vI 3,vP x1,vI 0,vP x2,vP x3,.va (Value.pointer none),.va (Value.pointer none),.va (Value.pointer none),.va (Value.pointer none),vP x17,.va (Value.pointer none),.va (Value.pointer none),.va (Value.pointer none),vI 0,vI 0,vI 0,vI 0,vP x5,vL none 0 0,vL none 0 0],.fact (StQ x2 x1 sta2 0 false 94 0),.box (x17) 105 [vI 0,vI 2,vI 1,vI 3,vI (-1),vI 0,vI (-1),vI (-1),vI (-1),vI (-1),vI (-1),vI 0,vI 0,vI (-1),vI (-1),vI (-1),vI (-1),vI (-1),.bl false,vI 0]]) fun _ h28=>?_
 refine aD (callS (x0) (x1) (x2) (x3) (x5) (x6) (x17)) [0,1,8,4,5] [.inl 0] (fun (v0_,v1_,v2_,v3_,v4_,v5_,v6_,v7_)=>[.box (x0) 67 [vI 1,vI 3,vP x1,vI 0,vP x2,vP x3,.va (Value.pointer none),.va (Value.pointer none),.va (Value.pointer none),.va (Value.pointer none),vP x17,.va (Value.pointer none),.va (Value.pointer none),.va (Value.pointer none),vI 0,vI 0,vI 0,vI 0,vP x5,vL v0_ 2 v1_,vL none 0 0],.fact (StQ x2 x1 sta3 0 true 171 0),.box (x17) 105 [vI 0,vI 2,vI 1,vI 3,vI (-1),vI 0,vI (-1),vI (-1),vI (-1),vI (-1),vI (-1),vI 0,vI 0,vI (-1),vI (-1),vI (-1),vI (-1),vI (-1),.bl false,vI 0],.box (x5) 134 [.va (Value.map (some x6))],.fact (MapA encK x6 [((0,7),Value.slice v6_ 1 v7_)]),.fact (Row 3 1 v6_ 1 v7_ (List.flatMap encN [-1])),.fact (Row 28 18 v0_ 2 v1_ (List.flatMap encM (mailsA v2_ v3_ v4_ v5_ 1)))]) fun ⟨x29,x30,x31,x32,x33,x34,x35,x36⟩ h37=>?_
 refine aD (sync3S (x0) (x1) (x2) (x3) (x5) (x17) (x29) (x30)) [0,1,8] [.inl 0] (fun v0_=>[.box (x0) 67 [vI 1,vI 3,vP x1,vI 0,vP x2,vP x3,.va (Value.pointer none),.va (Value.pointer none),.va (Value.pointer none),.va (Value.pointer none),vP x17,.va (Value.pointer none),.va (Value.pointer none),.va (Value.pointer none),vI 0,vI 0,vI 0,vI 0,vP x5,vL none 0 0,vL none 0 0],.fact (StQ x2 x1 sta3 0 false 171 0),.box (x17) 105 [vI 0,vI 2,vI 1,vI 3,vI (-1),vI 1,vI (-1),vI (-1),vI (-1),vI (-1),vI (-1),vI 0,vI 0,vI (-1),vI (-1),vI (-1),vI (-1),vI (-1),.bl false,vI 0]]) fun _ h38=>?_
 refine aI (aI (aI (aI (aI ?_))))
 refine ev_stop (go_index0 (sz:=18) Tryz.tbs_ok (.inr 11) (0) rfl rfl rfl rfl rfl rfl (by omega) rfl Row.at0 (fun g39 e40=>?_))
 subst e40
 refine aG ?_
 refine ev_stop (go_loadL Tryz.tbs_ok (.inr 11) 0 9 ({ k:=4,fr:=1,to:=0,st:=0,ep:=2,vi:=0,ba:=0,le:=0,sm:=0,A:=x31,n:=1,a:=x32,o1:=0,o2:=0,o3:=0,o4:=0,o5:=0,a1:=0,a2:=0,a3:=0:MailS }) rfl rfl rfl rfl rfl (fun _ h=>Row.rd h) (by first | omega | rfl) (fun _=>rfl) (by decide) (by decide) ?_)
 refine aG (aI (aI ?_))
 refine aD (takeA (x0) (x1) (x2) (x3) (x5) (x6) (x17) (x35) (x36)) [0,1,8,4,5,10] [.inl 0,.inl 1] (fun (v0_,v1_)=>[.box (x0) 67 [vI 1,vI 3,vP x1,vI 0,vP x2,vP x3,.va (Value.pointer none),.va (Value.pointer none),.va (Value.pointer none),.va (Value.pointer none),vP x17,.va (Value.pointer none),.va (Value.pointer none),.va (Value.pointer none),vI 0,vI 0,vI 0,vI 0,vP x5,vL none 0 0,vL v0_ 1 v1_],.fact (StQ x2 x1 sta4 0 true 218 0),.box (x17) 105 [vI 0,vI 2,vI 1,vI 3,vI (-1),vI 1,vI 1,vI (-1),vI (-1),vI (-1),vI (-1),vI 0,vI 0,vI 0,vI (-1),vI (-1),vI (-1),vI (-1),.bl false,vI 0],.box (x5) 134 [.va (Value.map (some x6))],.fact (MapA encK x6 []),.fact (Row 72 5 v0_ 1 v1_ (List.flatMap encTd [{ si:=1,st:=0,id:=7,co:=1,ve:=1:ToldS }]))]) fun ⟨x41,x42⟩ h43=>?_
 refine aD (sync4S (x0) (x1) (x2) (x3) (x5) (x17) (x41) (1) (x42) (0) (true)) [0,1,8] [.inl 0] (fun v0_=>[.box (x0) 67 [vI 1,vI 3,vP x1,vI 0,vP x2,vP x3,.va (Value.pointer none),.va (Value.pointer none),.va (Value.pointer none),.va (Value.pointer none),vP x17,.va (Value.pointer none),.va (Value.pointer none),.va (Value.pointer none),vI 0,vI 0,vI 0,vI 0,vP x5,vL none 0 0,vL none 0 0],.fact (StQ x2 x1 sta4 1 false 218 0),.box (x17) 105 [vI 0,vI 2,vI 1,vI 3,vI (-1),vI 1,vI 1,vI (-1),vI (-1),vI (-1),vI (-1),vI 0,vI 0,vI 0,vI (-1),vI (-1),vI (-1),vI (-1),.bl false,vI 0]]) fun _ h44=>?_
 refine aI ?_
 refine ev_stop (go_index0 (sz:=5) Tryz.tbs_ok (.inr 10) (0) rfl rfl rfl rfl rfl rfl (by omega) rfl Row.at0 (fun g45 e46=>?_))
 subst e46
 refine aG ?_
 refine ev_stop (go_loadL Tryz.tbs_ok (.inr 10) 0 0 ({ si:=1,st:=0,id:=7,co:=1,ve:=1:ToldS }) rfl rfl rfl rfl rfl (fun _ h=>Row.rd h) (by first | omega | rfl) (fun _=>rfl) (by decide) (by decide) ?_)
 refine aG ?_
 refine ev_stop (go_val rfl (.bl false) trivial (fun a w hR=>neq_run (ev_denv hR.fr rfl rfl) (ev_denv hR.fr rfl rfl) (by kernel_rfl) (eq_told (1) (0) (7) (1) (1) (1) (0) (7) (1) (1) 9997 w)) ?_)
 refine aG ?_
 refine aD (sync4S (x0) (x1) (x2) (x3) (x5) (x17) (none) (0) (0) (1) (false)) [0,1,8] [.inl 0] (fun v0_=>[.box (x0) 67 [vI 1,vI 3,vP x1,vI 0,vP x2,vP x3,.va (Value.pointer none),.va (Value.pointer none),.va (Value.pointer none),.va (Value.pointer none),vP x17,.va (Value.pointer none),.va (Value.pointer none),.va (Value.pointer none),vI 0,vI 0,vI 0,vI 0,vP x5,vL none 0 0,vL none 0 0],.fact (StQ x2 x1 sta4 1 false 218 0),.box (x17) 105 [vI 0,vI 2,vI 1,vI 3,vI (-1),vI 1,vI 1,vI (-1),vI (-1),vI (-1),vI (-1),vI 0,vI 0,vI 0,vI (-1),vI (-1),vI (-1),vI (-1),.bl false,vI 0]]) fun _ h47=>?_
 refine aD (feedS (x0) (x1) (x2) (x3) (x5) (0) (some { block:=x17,off:=0:Addr })) [0,1] [] (fun (v0_,v1_)=>[.box (x0) 67 [vI 1,vI 3,vP x1,vI 0,vP x2,vP x3,.va (Value.pointer none),.va (Value.pointer none),.va (Value.pointer none),.va (Value.pointer none),vP x17,.va (Value.pointer none),.va (Value.pointer none),.va (Value.pointer none),vI 0,vI 0,vI 0,vI 0,vP x5,vL none 0 0,vL none 0 0],.fact (StQ x2 x1 sta4 1 false 218 0)]) fun ⟨x48,x49⟩ h50=>?_
 refine aD (C1 (x0) (x1) (x2) (x3) (x5) (some { block:=x17,off:=0:Addr })) [0,1] [] (fun v0_=>[.box (x0) 67 [vI 1,vI 3,vP x1,vI 0,.va (Value.pointer none),.va (Value.pointer none),.va (Value.pointer none),.va (Value.pointer none),.va (Value.pointer none),.va (Value.pointer none),.va (Value.pointer none),.va (Value.pointer none),.va (Value.pointer none),.va (Value.pointer none),vI 0,vI 0,vI 0,vI 0,.va (Value.pointer none),vL none 0 0,vL none 0 0],.fact (DownQ x1 sta4 218 0)]) fun _ h51=>?_
 refine aD (C2 (x0) (x1)) [0,1] [.inl 0] (fun (v0_,v1_,v2_,v3_,v4_)=>[.box (x0) 67 [vI 1,vI 3,vP x1,vI 0,vP v0_,vP v1_,.va (Value.pointer none),.va (Value.pointer none),.va (Value.pointer none),.va (Value.pointer none),.va (Value.pointer none),.va (Value.pointer none),.va (Value.pointer none),.va (Value.pointer none),vI 0,vI 0,vI 0,vI 0,vP v3_,vL none 0 0,vL none 0 0],.fact (StQ v0_ x1 sta4 1 false 218 (0+1)),.box (v1_) 170 [.bl true,vI 16,.va (Value.map (some v2_))],.fact (MapA encI v2_ []),.box (v3_) 134 [.va (Value.map (some v4_))],.fact (MapA encK v4_ [])]) fun ⟨x52,x53,x54,x55,x56⟩ h57=>?_
 refine aD (feedS (x0) (x1) (x52) (x53) (x55) (0+1) (none)) [0,1] [] (fun (v0_,v1_)=>[.box (x0) 67 [vI 1,vI 3,vP x1,vI 0,vP x52,vP x53,.va (Value.pointer none),.va (Value.pointer none),.va (Value.pointer none),.va (Value.pointer none),.va (Value.pointer none),.va (Value.pointer none),.va (Value.pointer none),.va (Value.pointer none),vI 0,vI 0,vI 0,vI 0,vP x55,vL none 0 0,vL none 0 0],.fact (StQ x52 x1 sta4 1 false 218 (0+1))]) fun ⟨x58,x59⟩ h60=>?_
 refine aD (ownerN (x0) (x1) (x52) (x53) (x55)) [0] [] (fun v0_=>[.box (x0) 67 [vI 1,vI 3,vP x1,vI 0,vP x52,vP x53,.va (Value.pointer none),.va (Value.pointer none),.va (Value.pointer none),.va (Value.pointer none),.va (Value.pointer none),.va (Value.pointer none),.va (Value.pointer none),.va (Value.pointer none),vI 0,vI 0,vI 0,vI 0,vP x55,vL none 0 0,vL none 0 0]]) fun _ h61=>?_
 refine aJ (aJ (aJ (aJ (aJ (aJ (aJ (aJ ?_)))))))
 refine aD (upS (x0) (x1) (x52) (x53) (x55)) [0] [] (fun v0_=>[.box (x0) 67 [vI 1,vI 3,vP x1,vI 0,vP x52,vP x53,.va (Value.pointer none),.va (Value.pointer none),.va (Value.pointer none),.va (Value.pointer none),.va (Value.pointer none),.va (Value.pointer none),.va (Value.pointer none),.va (Value.pointer none),vI 0,vI 0,vI 0,vI 0,vP x55,vL none 0 0,vL none 0 0]]) fun _ h62=>?_
 refine ev_fin ⟨trivial,_,rfl,(()),rfl,(by trivial),Frm.nil _⟩
 all_goals skip
theorem downSync (s q:Nat):Triple Tryz.prog 6 [pP s] [Pt s 67 (SV.denL (downV 0 3 q))] [] Unit (fun _=>.tuple #[.slice none 0 0,.slice none 0 0,.int .i64 240]) (fun _=>True) (fun _=>[Pt s 67 (SV.denL (downV 0 3 q))]):=by
 refine triple_intro Tryz.tbs_ok Tryz.func6 rfl [.pt 0 s 0] [.box s 67 (downV 0 3 q)] ⟨rfl,trivial⟩ rfl (by simp [downV,SV.good,SV.goodL]) ?_
 intro E
 refine aG ?_
 refine ev_inline Tryz.tbs_ok Tryz.func23 rfl rfl ?_
 refine aG ?_
 refine ev_fin ⟨trivial,aL,_,rfl,?_⟩
 refine aG (aJ ?_)
 exact ev_fin ⟨trivial,_,rfl,(),rfl,by trivial,aF [0]⟩
 all_goals skip
theorem downFeed (s q:Nat):Triple Tryz.prog 7 [pP s] [Pt s 67 (SV.denL (downV 0 3 q))] [] Unit (fun _=>.tuple #[.slice none 0 0,.int .i64 240]) (fun _=>True) (fun _=>[Pt s 67 (SV.denL (downV 0 3 q))]):=by
 refine triple_intro Tryz.tbs_ok Tryz.func7 rfl [.pt 0 s 0] [.box s 67 (downV 0 3 q)] ⟨rfl,trivial⟩ rfl (by simp [downV,SV.good,SV.goodL]) ?_
 intro E
 refine aG ?_
 refine ev_inline Tryz.tbs_ok Tryz.func23 rfl rfl ?_
 refine aG ?_
 refine ev_fin ⟨trivial,aL,_,rfl,?_⟩
 refine aG (aJ ?_)
 exact ev_fin ⟨trivial,_,rfl,(),rfl,by trivial,aF [0]⟩
 all_goals skip
theorem downRegister (s q:Nat) (j:Int):Triple Tryz.prog 8 [pP s,.int .i64 j] [Pt s 67 (SV.denL (downV 0 3 q))] [] Unit (fun _=>.tuple #[.agg #[.int .i64 0,.int .i64 0,.slice none 0 0,.int .i64 0],.int .i64 240]) (fun _=>True) (fun _=>[Pt s 67 (SV.denL (downV 0 3 q))]):=by
 refine triple_intro Tryz.tbs_ok Tryz.func8 rfl [.pt 0 s 0,vI j] [.box s 67 (downV 0 3 q)] ⟨rfl,trivial,trivial⟩ rfl (by simp [downV,SV.good,SV.goodL]) ?_
 intro E
 refine aG ?_
 refine ev_new fun b0=>?_
 refine ev_inline Tryz.tbs_ok Tryz.func31 rfl rfl ?_
 refine aG ?_
 refine ev_inline Tryz.tbs_ok Tryz.func23 rfl rfl ?_
 refine aG ?_
 refine ev_fin ⟨trivial,aL,_,rfl,?_⟩
 refine aG (aI ?_)
 refine ev_fin ⟨trivial,aL,_,rfl,?_⟩
 refine aG (aJ ?_)
 exact ev_fin ⟨trivial,_,rfl,(),rfl,by trivial,aF [0]⟩
 all_goals skip
theorem downOwner (s q:Nat) (j:Int):Triple Tryz.prog 9 [pP s,.int .i64 j] [Pt s 67 (SV.denL (downV 0 3 q))] [] Unit (fun _=>.tuple #[.int .i64 0,.bool false]) (fun _=>True) (fun _=>[Pt s 67 (SV.denL (downV 0 3 q))]):=by
 refine triple_intro Tryz.tbs_ok Tryz.func9 rfl [.pt 0 s 0,vI j] [.box s 67 (downV 0 3 q)] ⟨rfl,trivial,trivial⟩ rfl (by simp [downV,SV.good,SV.goodL]) ?_
 intro E
 refine aG ?_
 refine ev_inline Tryz.tbs_ok Tryz.func31 rfl rfl ?_
 refine aG ?_
 refine ev_inline Tryz.tbs_ok Tryz.func23 rfl rfl ?_
 refine aG ?_
 refine ev_fin ⟨trivial,aL,_,rfl,?_⟩
 refine aG (aI ?_)
 refine ev_fin ⟨trivial,aL,_,rfl,?_⟩
 refine aG (aJ ?_)
 exact ev_fin ⟨trivial,_,rfl,(),rfl,by trivial,aF [0]⟩
 all_goals skip
theorem downUp (s q:Nat):Triple Tryz.prog 10 [pP s] [Pt s 67 (SV.denL (downV 0 3 q))] [] Unit (fun _=>.bool false) (fun _=>True) (fun _=>[Pt s 67 (SV.denL (downV 0 3 q))]):=by
 refine triple_intro Tryz.tbs_ok Tryz.func10 rfl [.pt 0 s 0] [.box s 67 (downV 0 3 q)] ⟨rfl,trivial⟩ rfl (by simp [downV,SV.good,SV.goodL]) ?_
 intro E
 refine aG ?_
 refine ev_inline Tryz.tbs_ok Tryz.func23 rfl rfl ?_
 refine aG ?_
 refine ev_fin ⟨trivial,aL,_,rfl,?_⟩
 refine aG ?_
 exact ev_fin ⟨trivial,_,rfl,(),rfl,by trivial,aF [0]⟩
 all_goals skip
theorem downWaits (s q:Nat):Triple Tryz.prog 11 [pP s] [Pt s 67 (SV.denL (downV 0 3 q))] [] Unit (fun _=>.int .i64 0) (fun _=>True) (fun _=>[Pt s 67 (SV.denL (downV 0 3 q))]):=by
 refine triple_intro Tryz.tbs_ok Tryz.func11 rfl [.pt 0 s 0] [.box s 67 (downV 0 3 q)] ⟨rfl,trivial⟩ rfl (by simp [downV,SV.good,SV.goodL]) ?_
 intro E
 refine aG ?_
 refine ev_inline Tryz.tbs_ok Tryz.func23 rfl rfl ?_
 refine aG ?_
 refine ev_fin ⟨trivial,aL,_,rfl,?_⟩
 refine aG (aJ ?_)
 exact ev_fin ⟨trivial,_,rfl,(),rfl,by trivial,aF [0]⟩
 all_goals skip
theorem downCall (s q:Nat) (o1 o2 o3 o4 o5:Int):Triple Tryz.prog 12 [pP s,.agg #[.int .i64 o1,.int .i64 o2,.int .i64 o3,.int .i64 o4,.int .i64 o5]] [Pt s 67 (SV.denL (downV 0 3 q))] [] Unit (fun _=>.int .i64 240) (fun _=>True) (fun _=>[Pt s 67 (SV.denL (downV 0 3 q))]):=by
 refine triple_intro Tryz.tbs_ok Tryz.func12 rfl [.pt 0 s 0,.ag [vI o1,vI o2,vI o3,vI o4,vI o5]] [.box s 67 (downV 0 3 q)] ⟨rfl,by simp [SV.good,SV.goodL],trivial⟩ rfl (by simp [downV,SV.good,SV.goodL]) ?_
 intro E
 refine aG ?_
 refine ev_new fun b0=>?_
 refine ev_inline Tryz.tbs_ok Tryz.func23 rfl rfl ?_
 refine aG ?_
 refine ev_fin ⟨trivial,aL,_,rfl,?_⟩
 refine aG (aJ ?_)
 exact ev_fin ⟨trivial,_,rfl,(),rfl,by trivial,aF [0]⟩
 all_goals skip
theorem downTake (s q:Nat) (mk mfr mto mst mep mvi mba mle msm mp1 mp2 mp3 mp4 mp5 ma1 ma2 ma3:Int) (A:Option Addr) (en ec:Nat):Triple Tryz.prog 13 [pP s,.agg #[.int .i64 mk,.int .i64 mfr,.int .i64 mto,.int .i64 mst,.int .i64 mep,.int .i64 mvi,.int .i64 mba,.int .i64 mle,.int .i64 msm,.slice A en ec,.int .i64 mp1,.int .i64 mp2,.int .i64 mp3,.int .i64 mp4,.int .i64 mp5,.int .i64 ma1,.int .i64 ma2,.int .i64 ma3]] [Pt s 67 (SV.denL (downV 0 3 q))] [] Unit (fun _=>.int .i64 240) (fun _=>True) (fun _=>[Pt s 67 (SV.denL (downV 0 3 q))]):=by
 refine triple_intro Tryz.tbs_ok Tryz.func13 rfl [.pt 0 s 0,.ag [vI mk,vI mfr,vI mto,vI mst,vI mep,vI mvi,vI mba,vI mle,vI msm,vL A en ec,vI mp1,vI mp2,vI mp3,vI mp4,vI mp5,vI ma1,vI ma2,vI ma3]] [.box s 67 (downV 0 3 q)] ⟨rfl,by simp [SV.good,SV.goodL],trivial⟩ rfl (by simp [downV,SV.good,SV.goodL]) ?_
 intro E
 refine aG ?_
 refine ev_new fun b0=>?_
 refine ev_inline Tryz.tbs_ok Tryz.func23 rfl rfl ?_
 refine aG ?_
 refine ev_fin ⟨trivial,aL,_,rfl,?_⟩
 refine aG (aJ ?_)
 exact ev_fin ⟨trivial,_,rfl,(),rfl,by trivial,aF [0]⟩
 all_goals skip
theorem downClaim (s q:Nat) (j:Int):Triple Tryz.prog 14 [pP s,.int .i64 j] [Pt s 67 (SV.denL (downV 0 3 q))] [] Unit (fun _=>.int .i64 240) (fun _=>True) (fun _=>[Pt s 67 (SV.denL (downV 0 3 q))]):=by
 refine triple_intro Tryz.tbs_ok Tryz.func14 rfl [.pt 0 s 0,vI j] [.box s 67 (downV 0 3 q)] ⟨rfl,trivial,trivial⟩ rfl (by simp [downV,SV.good,SV.goodL]) ?_
 intro E
 refine aG ?_
 refine ev_inline Tryz.tbs_ok Tryz.func31 rfl rfl ?_
 refine aG ?_
 refine ev_inline Tryz.tbs_ok Tryz.func23 rfl rfl ?_
 refine aG ?_
 refine ev_fin ⟨trivial,aL,_,rfl,?_⟩
 refine aG (aI ?_)
 refine ev_fin ⟨trivial,aL,_,rfl,?_⟩
 refine aG (aJ ?_)
 exact ev_fin ⟨trivial,_,rfl,(),rfl,by trivial,aF [0]⟩
 all_goals skip
theorem downGive (s q:Nat) (i j:Int):Triple Tryz.prog 15 [pP s,.int .i64 i,.int .i64 j] [Pt s 67 (SV.denL (downV 0 3 q))] [] Unit (fun _=>.int .i64 240) (fun _=>True) (fun _=>[Pt s 67 (SV.denL (downV 0 3 q))]):=by
 refine triple_intro Tryz.tbs_ok Tryz.func15 rfl [.pt 0 s 0,vI i,vI j] [.box s 67 (downV 0 3 q)] ⟨rfl,trivial,trivial,trivial⟩ rfl (by simp [downV,SV.good,SV.goodL]) ?_
 intro E
 refine aG ?_
 refine ev_inline Tryz.tbs_ok Tryz.func31 rfl rfl ?_
 refine aG ?_
 refine ev_inline Tryz.tbs_ok Tryz.func23 rfl rfl ?_
 refine aG ?_
 refine ev_fin ⟨trivial,aL,_,rfl,?_⟩
 refine aG (aI ?_)
 refine ev_fin ⟨trivial,aL,_,rfl,?_⟩
 refine aG (aJ ?_)
 exact ev_fin ⟨trivial,_,rfl,(),rfl,by trivial,aF [0]⟩
 all_goals skip
theorem downTimeout (s q:Nat) (i j:Int):Triple Tryz.prog 16 [pP s,.int .i64 i,.int .i64 j] [Pt s 67 (SV.denL (downV 0 3 q))] [] Unit (fun _=>.int .i64 240) (fun _=>True) (fun _=>[Pt s 67 (SV.denL (downV 0 3 q))]):=by
 refine triple_intro Tryz.tbs_ok Tryz.func16 rfl [.pt 0 s 0,vI i,vI j] [.box s 67 (downV 0 3 q)] ⟨rfl,trivial,trivial,trivial⟩ rfl (by simp [downV,SV.good,SV.goodL]) ?_
 intro E
 refine aG ?_
 refine ev_inline Tryz.tbs_ok Tryz.func23 rfl rfl ?_
 refine aG ?_
 refine ev_fin ⟨trivial,aL,_,rfl,?_⟩
 refine aG (aJ ?_)
 exact ev_fin ⟨trivial,_,rfl,(),rfl,by trivial,aF [0]⟩
 all_goals skip
theorem downCheckpoint (s q:Nat):Triple Tryz.prog 17 [pP s] [Pt s 67 (SV.denL (downV 0 3 q))] [] Unit (fun _=>.int .i64 240) (fun _=>True) (fun _=>[Pt s 67 (SV.denL (downV 0 3 q))]):=by
 refine triple_intro Tryz.tbs_ok Tryz.func17 rfl [.pt 0 s 0] [.box s 67 (downV 0 3 q)] ⟨rfl,trivial⟩ rfl (by simp [downV,SV.good,SV.goodL]) ?_
 intro E
 refine aG ?_
 refine ev_inline Tryz.tbs_ok Tryz.func23 rfl rfl ?_
 refine aG ?_
 refine ev_fin ⟨trivial,aL,_,rfl,?_⟩
 refine aG (aJ ?_)
 exact ev_fin ⟨trivial,_,rfl,(),rfl,by trivial,aF [0]⟩
 all_goals skip
theorem downCrash (s q:Nat) (B:Option Addr) (kn kc:Nat):Triple Tryz.prog 18 [pP s,.slice B kn kc] [Pt s 67 (SV.denL (downV 0 3 q))] [] Unit (fun _=>.int .i64 240) (fun _=>True) (fun _=>[Pt s 67 (SV.denL (downV 0 3 q))]):=by
 refine triple_intro Tryz.tbs_ok Tryz.func18 rfl [.pt 0 s 0,vL B kn kc] [.box s 67 (downV 0 3 q)] ⟨rfl,trivial,trivial⟩ rfl (by simp [downV,SV.good,SV.goodL]) ?_
 intro E
 refine aG ?_
 refine ev_inline Tryz.tbs_ok Tryz.func23 rfl rfl ?_
 refine aG ?_
 refine ev_fin ⟨trivial,aL,_,rfl,?_⟩
 refine aG (aJ ?_)
 exact ev_fin ⟨trivial,_,rfl,(),rfl,by trivial,aF [0]⟩
 all_goals skip
theorem restartU (s q p bk rt:Nat):Triple Tryz.prog 20 [pP s] [Pt s 67 (SV.denL (siteV 0 3 q p bk rt none none none 0 0 none 0 0))] [] Unit (fun _=>.int .i64 240) (fun _=>True) (fun _=>[Pt s 67 (SV.denL (siteV 0 3 q p bk rt none none none 0 0 none 0 0))]):=by
 refine triple_intro Tryz.tbs_ok Tryz.func20 rfl [.pt 0 s 0] [.box s 67 (siteV 0 3 q p bk rt none none none 0 0 none 0 0)] ⟨rfl,trivial⟩ rfl (by simp [siteV,SV.good,SV.goodL]) ?_
 intro E
 refine aG ?_
 refine ev_inline Tryz.tbs_ok Tryz.func23 rfl rfl ?_
 refine aG ?_
 refine ev_fin ⟨trivial,aL,_,rfl,?_⟩
 refine aG (aI (aJ ?_))
 exact ev_fin ⟨trivial,_,rfl,(),rfl,by trivial,aF [0]⟩
 all_goals skip
structure ActS where
 k:Int
 st:Int
 ta:Int
 o1:Int
 o2:Int
 o3:Int
 o4:Int
 o5:Int
 m:MailS
 B:Option Addr
 kn:Nat
 kc:Nat
def encAct (x:ActS):List Value:=[.int .u8 x.k,.int .i64 x.st,.int .i64 x.ta,.int .i64 x.o1,.int .i64 x.o2,.int .i64 x.o3,.int .i64 x.o4,.int .i64 x.o5]++(encM x.m++[.slice x.B x.kn x.kc])
set_option maxHeartbeats 16000000 in
theorem sitesNone (x:ActS) (id n:Int) (hx:x.m.n≤140737488355328∧x.kn≤140737488355328):Triple Tryz.prog 3 [.agg (encAct x).toArray,.int .i64 id,.int .i64 n] [] [TabA,Rd 1 (some ⟨0,0,none⟩) 11 (([0,35,119,3,123,51,19,128,257,3,3]:List Int).flatMap encN)] Unit (fun _=>.bool true) (fun _=>True) (fun _=>[]):=by
 obtain ⟨k,st,ta,o1,o2,o3,o4,o5,⟨mk,mfr,mto,mst,mep,mvi,mba,mle,msm,A,en,ec,mp1,mp2,mp3,mp4,mp5,ma1,ma2,ma3⟩,B,kn,kc⟩:=x
 have N0:=newS 0 3 (by decide) (by decide) (by decide) (by decide)
 have C0:=fun s q p bk rt ow=>crashS 0 3 s q p bk rt ow noSta 0 0 0
 refine aT Tryz.func3 [.ag [.va (.int .u8 k),vI st,vI ta,vI o1,vI o2,vI o3,vI o4,vI o5,vI mk,vI mfr,vI mto,vI mst,vI mep,vI mvi,vI mba,vI mle,vI msm,vL A en ec,vI mp1,vI mp2,vI mp3,vI mp4,vI mp5,vI ma1,vI ma2,vI ma3,vL B kn kc],vI id,vI n] [] (fun E=>?_) ⟨by simp [SV.good,SV.goodL],trivial,trivial,trivial⟩
 refine aG ?_
 refine ev_new fun b0=>?_
 refine ev_new fun b1=>?_
 refine ev_inline Tryz.tbs_ok Tryz.func4 rfl rfl ?_
 refine aG (aI ?_)
 refine ev_stop (go_rounds 9 ?_)
 refine aG (aJ ?_)
 refine ev_stop (go_indexSl Tryz.tbs_ok (0) rfl rfl rfl rfl rfl rfl (by first | decide | omega) rfl rfl ?_)
 refine aG ?_
 refine ev_if_lt (fun h2=>?_) (fun h2=>?_)
 refine aG ?_
 refine ev_fin ⟨trivial,aL,_,rfl,?_⟩
 refine aG ?_
 refine aC livesT [] [.inl 0,.inl 1] fun _ h3=>?_
 refine ev_fin ⟨trivial,_,rfl,(()),rfl,(by trivial),Frm.nil _⟩
 refine aG ?_
 refine ev_stop (go_indexSl Tryz.tbs_ok (0) rfl rfl rfl rfl rfl rfl (by first | decide | omega) rfl rfl ?_)
 refine aG ?_
 refine ev_if_lt (fun h4=>?_) (fun h4=>?_)
 refine aG ?_
 refine ev_fin ⟨trivial,aL,_,rfl,?_⟩
 refine aG ?_
 refine aC livesT [] [.inl 0,.inl 1] fun _ h5=>?_
 refine ev_fin ⟨trivial,_,rfl,(()),rfl,(by trivial),Frm.nil _⟩
 refine aG ?_
 refine wN (0+1) ?_
 refine ev_fin (go Tryz.tbs_ok 1000 ?_)
 refine aI ?_
 refine ev_fin (go Tryz.tbs_ok 1000 ?_)
 refine ev_fin ⟨trivial,aL,_,rfl,?_⟩
 refine aG ?_
 refine ev_stop (go_rounds 9 ?_)
 refine aG (aJ (aI ?_))
 refine ev_inline Tryz.tbs_ok Tryz.func6 rfl rfl ?_
 refine aG ?_
 refine ev_inline Tryz.tbs_ok Tryz.func23 rfl rfl ?_
 refine aG ?_
 refine ev_fin ⟨trivial,aL,_,rfl,?_⟩
 refine aG (aJ ?_)
 refine ev_fin ⟨trivial,aL,_,rfl,?_⟩
 refine aG ?_
 refine ev_inline Tryz.tbs_ok Tryz.func7 rfl rfl ?_
 refine aG ?_
 refine ev_inline Tryz.tbs_ok Tryz.func23 rfl rfl ?_
 refine aG ?_
 refine ev_fin ⟨trivial,aL,_,rfl,?_⟩
 refine aG (aJ ?_)
 refine ev_fin ⟨trivial,aL,_,rfl,?_⟩
 refine aG ?_
 refine ev_inline Tryz.tbs_ok Tryz.func8 rfl rfl ?_
 refine aG ?_
 refine ev_new fun b6=>?_
 refine ev_inline Tryz.tbs_ok Tryz.func31 rfl rfl ?_
 refine aG ?_
 refine ev_inline Tryz.tbs_ok Tryz.func23 rfl rfl ?_
 refine aG ?_
 refine ev_fin ⟨trivial,aL,_,rfl,?_⟩
 refine aG (aI ?_)
 refine ev_fin ⟨trivial,aL,_,rfl,?_⟩
 refine aG (aJ ?_)
 refine ev_fin ⟨trivial,aL,_,rfl,?_⟩
 refine aG ?_
 refine ev_new fun b7=>?_
 refine ev_inline Tryz.tbs_ok Tryz.func9 rfl rfl ?_
 refine aG ?_
 refine ev_inline Tryz.tbs_ok Tryz.func31 rfl rfl ?_
 refine aG ?_
 refine ev_inline Tryz.tbs_ok Tryz.func23 rfl rfl ?_
 refine aG ?_
 refine ev_fin ⟨trivial,aL,_,rfl,?_⟩
 refine aG (aI ?_)
 refine ev_fin ⟨trivial,aL,_,rfl,?_⟩
 refine aG (aJ ?_)
 refine ev_fin ⟨trivial,aL,_,rfl,?_⟩
 refine aG (aI (aI (aI (aI ?_))))
 refine ev_inline Tryz.tbs_ok Tryz.func10 rfl rfl ?_
 refine aG ?_
 refine ev_inline Tryz.tbs_ok Tryz.func23 rfl rfl ?_
 refine aG ?_
 refine ev_fin ⟨trivial,aL,_,rfl,?_⟩
 refine aG ?_
 refine ev_fin ⟨trivial,aL,_,rfl,?_⟩
 refine aG (aI ?_)
 refine ev_inline Tryz.tbs_ok Tryz.func11 rfl rfl ?_
 refine aG ?_
 refine ev_inline Tryz.tbs_ok Tryz.func23 rfl rfl ?_
 refine aG ?_
 refine ev_fin ⟨trivial,aL,_,rfl,?_⟩
 refine aG (aJ ?_)
 refine ev_fin ⟨trivial,aL,_,rfl,?_⟩
 refine aG (aI ?_)
 refine ev_inline Tryz.tbs_ok Tryz.func12 rfl rfl ?_
 refine aG ?_
 refine ev_new fun b8=>?_
 refine ev_inline Tryz.tbs_ok Tryz.func23 rfl rfl ?_
 refine aG ?_
 refine ev_fin ⟨trivial,aL,_,rfl,?_⟩
 refine aG (aJ ?_)
 refine ev_fin ⟨trivial,aL,_,rfl,?_⟩
 refine aG (aI ?_)
 refine ev_inline Tryz.tbs_ok Tryz.func13 rfl rfl ?_
 refine aG ?_
 refine ev_new fun b9=>?_
 refine ev_inline Tryz.tbs_ok Tryz.func23 rfl rfl ?_
 refine aG ?_
 refine ev_fin ⟨trivial,aL,_,rfl,?_⟩
 refine aG (aJ ?_)
 refine ev_fin ⟨trivial,aL,_,rfl,?_⟩
 refine aG (aI ?_)
 refine ev_inline Tryz.tbs_ok Tryz.func14 rfl rfl ?_
 refine aG ?_
 refine ev_inline Tryz.tbs_ok Tryz.func31 rfl rfl ?_
 refine aG ?_
 refine ev_inline Tryz.tbs_ok Tryz.func23 rfl rfl ?_
 refine aG ?_
 refine ev_fin ⟨trivial,aL,_,rfl,?_⟩
 refine aG (aI ?_)
 refine ev_fin ⟨trivial,aL,_,rfl,?_⟩
 refine aG (aJ ?_)
 refine ev_fin ⟨trivial,aL,_,rfl,?_⟩
 refine aG (aI ?_)
 refine ev_inline Tryz.tbs_ok Tryz.func15 rfl rfl ?_
 refine aG ?_
 refine ev_inline Tryz.tbs_ok Tryz.func31 rfl rfl ?_
 refine aG ?_
 refine ev_inline Tryz.tbs_ok Tryz.func23 rfl rfl ?_
 refine aG ?_
 refine ev_fin ⟨trivial,aL,_,rfl,?_⟩
 refine aG (aI ?_)
 refine ev_fin ⟨trivial,aL,_,rfl,?_⟩
 refine aG (aJ ?_)
 refine ev_fin ⟨trivial,aL,_,rfl,?_⟩
 refine aG (aI ?_)
 refine ev_inline Tryz.tbs_ok Tryz.func16 rfl rfl ?_
 refine aG ?_
 refine ev_inline Tryz.tbs_ok Tryz.func23 rfl rfl ?_
 refine aG ?_
 refine ev_fin ⟨trivial,aL,_,rfl,?_⟩
 refine aG (aJ ?_)
 refine ev_fin ⟨trivial,aL,_,rfl,?_⟩
 refine aG (aI ?_)
 refine ev_inline Tryz.tbs_ok Tryz.func17 rfl rfl ?_
 refine aG ?_
 refine ev_inline Tryz.tbs_ok Tryz.func23 rfl rfl ?_
 refine aG ?_
 refine ev_fin ⟨trivial,aL,_,rfl,?_⟩
 refine aG (aJ ?_)
 refine ev_fin ⟨trivial,aL,_,rfl,?_⟩
 refine aG (aI ?_)
 refine ev_inline Tryz.tbs_ok Tryz.func18 rfl rfl ?_
 refine aG ?_
 refine ev_inline Tryz.tbs_ok Tryz.func23 rfl rfl ?_
 refine aG ?_
 refine ev_fin ⟨trivial,aL,_,rfl,?_⟩
 refine aG (aJ ?_)
 refine ev_fin ⟨trivial,aL,_,rfl,?_⟩
 refine aG (aI (aJ ?_))
 refine ev_inline Tryz.tbs_ok Tryz.func19 rfl rfl ?_
 refine aG ?_
 refine ev_inline Tryz.tbs_ok Tryz.func23 rfl rfl ?_
 refine aG ?_
 refine ev_fin ⟨trivial,aL,_,rfl,?_⟩
 refine aG (aJ ?_)
 refine ev_fin ⟨trivial,aL,_,rfl,?_⟩
 refine aG (aI ?_)
 refine ev_inline Tryz.tbs_ok Tryz.func20 rfl rfl ?_
 refine aG ?_
 refine ev_inline Tryz.tbs_ok Tryz.func23 rfl rfl ?_
 refine aG ?_
 refine ev_fin ⟨trivial,aL,_,rfl,?_⟩
 refine aG (aJ ?_)
 refine ev_fin ⟨trivial,aL,_,rfl,?_⟩
 refine aG (aI ?_)
 refine ev_inline Tryz.tbs_ok Tryz.func21 rfl rfl ?_
 refine aG ?_
 refine ev_fin ⟨trivial,aL,_,rfl,?_⟩
 refine aG (aI ?_)
 refine ev_new fun b10=>?_
 refine aI ?_
 refine wN (0+1) ?_
 refine ev_fin (go Tryz.tbs_ok 1000 ?_)
 refine aJ (aI ?_)
 refine ev_inline Tryz.tbs_ok Tryz.func6 rfl rfl ?_
 refine aG ?_
 refine ev_inline Tryz.tbs_ok Tryz.func23 rfl rfl ?_
 refine aG ?_
 refine ev_fin ⟨trivial,aL,_,rfl,?_⟩
 refine aG (aJ ?_)
 refine ev_fin ⟨trivial,aL,_,rfl,?_⟩
 refine aG ?_
 refine ev_inline Tryz.tbs_ok Tryz.func7 rfl rfl ?_
 refine aG ?_
 refine ev_inline Tryz.tbs_ok Tryz.func23 rfl rfl ?_
 refine aG ?_
 refine ev_fin ⟨trivial,aL,_,rfl,?_⟩
 refine aG (aJ ?_)
 refine ev_fin ⟨trivial,aL,_,rfl,?_⟩
 refine aG ?_
 refine ev_inline Tryz.tbs_ok Tryz.func8 rfl rfl ?_
 refine aG ?_
 refine ev_new fun b11=>?_
 refine ev_inline Tryz.tbs_ok Tryz.func31 rfl rfl ?_
 refine aG ?_
 refine ev_inline Tryz.tbs_ok Tryz.func23 rfl rfl ?_
 refine aG ?_
 refine ev_fin ⟨trivial,aL,_,rfl,?_⟩
 refine aG (aI ?_)
 refine ev_fin ⟨trivial,aL,_,rfl,?_⟩
 refine aG (aJ ?_)
 refine ev_fin ⟨trivial,aL,_,rfl,?_⟩
 refine aG ?_
 refine ev_new fun b12=>?_
 refine ev_inline Tryz.tbs_ok Tryz.func9 rfl rfl ?_
 refine aG ?_
 refine ev_inline Tryz.tbs_ok Tryz.func31 rfl rfl ?_
 refine aG ?_
 refine ev_inline Tryz.tbs_ok Tryz.func23 rfl rfl ?_
 refine aG ?_
 refine ev_fin ⟨trivial,aL,_,rfl,?_⟩
 refine aG (aI ?_)
 refine ev_fin ⟨trivial,aL,_,rfl,?_⟩
 refine aG (aJ ?_)
 refine ev_fin ⟨trivial,aL,_,rfl,?_⟩
 refine aG (aI (aI (aI (aI ?_))))
 refine ev_inline Tryz.tbs_ok Tryz.func10 rfl rfl ?_
 refine aG ?_
 refine ev_inline Tryz.tbs_ok Tryz.func23 rfl rfl ?_
 refine aG ?_
 refine ev_fin ⟨trivial,aL,_,rfl,?_⟩
 refine aG ?_
 refine ev_fin ⟨trivial,aL,_,rfl,?_⟩
 refine aG (aI ?_)
 refine ev_inline Tryz.tbs_ok Tryz.func11 rfl rfl ?_
 refine aG ?_
 refine ev_inline Tryz.tbs_ok Tryz.func23 rfl rfl ?_
 refine aG ?_
 refine ev_fin ⟨trivial,aL,_,rfl,?_⟩
 refine aG (aJ ?_)
 refine ev_fin ⟨trivial,aL,_,rfl,?_⟩
 refine aG (aI ?_)
 refine ev_inline Tryz.tbs_ok Tryz.func12 rfl rfl ?_
 refine aG ?_
 refine ev_new fun b13=>?_
 refine ev_inline Tryz.tbs_ok Tryz.func23 rfl rfl ?_
 refine aG ?_
 refine ev_fin ⟨trivial,aL,_,rfl,?_⟩
 refine aG (aJ ?_)
 refine ev_fin ⟨trivial,aL,_,rfl,?_⟩
 refine aG (aI ?_)
 refine ev_inline Tryz.tbs_ok Tryz.func13 rfl rfl ?_
 refine aG ?_
 refine ev_new fun b14=>?_
 refine ev_inline Tryz.tbs_ok Tryz.func23 rfl rfl ?_
 refine aG ?_
 refine ev_fin ⟨trivial,aL,_,rfl,?_⟩
 refine aG (aJ ?_)
 refine ev_fin ⟨trivial,aL,_,rfl,?_⟩
 refine aG (aI ?_)
 refine ev_inline Tryz.tbs_ok Tryz.func14 rfl rfl ?_
 refine aG ?_
 refine ev_inline Tryz.tbs_ok Tryz.func31 rfl rfl ?_
 refine aG ?_
 refine ev_inline Tryz.tbs_ok Tryz.func23 rfl rfl ?_
 refine aG ?_
 refine ev_fin ⟨trivial,aL,_,rfl,?_⟩
 refine aG (aI ?_)
 refine ev_fin ⟨trivial,aL,_,rfl,?_⟩
 refine aG (aJ ?_)
 refine ev_fin ⟨trivial,aL,_,rfl,?_⟩
 refine aG (aI ?_)
 refine ev_inline Tryz.tbs_ok Tryz.func15 rfl rfl ?_
 refine aG ?_
 refine ev_inline Tryz.tbs_ok Tryz.func31 rfl rfl ?_
 refine aG ?_
 refine ev_inline Tryz.tbs_ok Tryz.func23 rfl rfl ?_
 refine aG ?_
 refine ev_fin ⟨trivial,aL,_,rfl,?_⟩
 refine aG (aI ?_)
 refine ev_fin ⟨trivial,aL,_,rfl,?_⟩
 refine aG (aJ ?_)
 refine ev_fin ⟨trivial,aL,_,rfl,?_⟩
 refine aG (aI ?_)
 refine ev_inline Tryz.tbs_ok Tryz.func16 rfl rfl ?_
 refine aG ?_
 refine ev_inline Tryz.tbs_ok Tryz.func23 rfl rfl ?_
 refine aG ?_
 refine ev_fin ⟨trivial,aL,_,rfl,?_⟩
 refine aG (aJ ?_)
 refine ev_fin ⟨trivial,aL,_,rfl,?_⟩
 refine aG (aI ?_)
 refine ev_inline Tryz.tbs_ok Tryz.func17 rfl rfl ?_
 refine aG ?_
 refine ev_inline Tryz.tbs_ok Tryz.func23 rfl rfl ?_
 refine aG ?_
 refine ev_fin ⟨trivial,aL,_,rfl,?_⟩
 refine aG (aJ ?_)
 refine ev_fin ⟨trivial,aL,_,rfl,?_⟩
 refine aG (aI ?_)
 refine ev_inline Tryz.tbs_ok Tryz.func18 rfl rfl ?_
 refine aG ?_
 refine ev_inline Tryz.tbs_ok Tryz.func23 rfl rfl ?_
 refine aG ?_
 refine ev_fin ⟨trivial,aL,_,rfl,?_⟩
 refine aG (aJ ?_)
 refine ev_fin ⟨trivial,aL,_,rfl,?_⟩
 refine aG (aI (aJ ?_))
 refine ev_inline Tryz.tbs_ok Tryz.func19 rfl rfl ?_
 refine aG ?_
 refine ev_inline Tryz.tbs_ok Tryz.func23 rfl rfl ?_
 refine aG ?_
 refine ev_fin ⟨trivial,aL,_,rfl,?_⟩
 refine aG (aJ ?_)
 refine ev_fin ⟨trivial,aL,_,rfl,?_⟩
 refine aG (aI ?_)
 refine ev_inline Tryz.tbs_ok Tryz.func20 rfl rfl ?_
 refine aG ?_
 refine ev_inline Tryz.tbs_ok Tryz.func23 rfl rfl ?_
 refine aG ?_
 refine ev_fin ⟨trivial,aL,_,rfl,?_⟩
 refine aG (aJ ?_)
 refine ev_fin ⟨trivial,aL,_,rfl,?_⟩
 refine aG (aI ?_)
 refine ev_inline Tryz.tbs_ok Tryz.func21 rfl rfl ?_
 refine aG ?_
 refine ev_fin ⟨trivial,aL,_,rfl,?_⟩
 refine aG (aI ?_)
 refine ev_new fun b15=>?_
 refine aJ ?_
 refine aD N0 [] [.inl 0] (fun (v0_,v1_,v2_,v3_,v4_,v5_,v6_)=>[.box (v0_) 67 [vI 0,vI 3,vP v1_,vI 0,vP v2_,vP v3_,.va (Value.pointer none),.va (Value.pointer none),.va (Value.pointer none),.va (Value.pointer none),.va (Value.pointer none),.va (Value.pointer none),.va (Value.pointer none),.va (Value.pointer none),vI 0,vI 0,vI 0,vI 0,vP v5_,vL none 0 0,vL none 0 0],.fact (StQ v2_ v1_ noSta 0 false 0 0),.box (v3_) 170 [.bl true,vI 0,.va (Value.map (some v4_))],.fact (MapA encI v4_ []),.box (v5_) 134 [.va (Value.map (some v6_))],.fact (MapA encK v6_ [])]) fun ⟨x16,x17,x18,x19,x20,x21,x22⟩ h23=>?_
 refine aI ?_
 refine aD (restartU (x16) (x17) (x18) (x19) (x21)) [12] [] (fun v0_=>[.box (x16) 67 [vI 0,vI 3,vP x17,vI 0,vP x18,vP x19,.va (Value.pointer none),.va (Value.pointer none),.va (Value.pointer none),.va (Value.pointer none),.va (Value.pointer none),.va (Value.pointer none),.va (Value.pointer none),.va (Value.pointer none),vI 0,vI 0,vI 0,vI 0,vP x21,vL none 0 0,vL none 0 0]]) fun _ h24=>?_
 refine aI ?_
 refine aD (C0 (x16) (x17) (x18) (x19) (x21) (none)) [12,13] [] (fun v0_=>[.box (x16) 67 [vI 0,vI 3,vP x17,vI 0,.va (Value.pointer none),.va (Value.pointer none),.va (Value.pointer none),.va (Value.pointer none),.va (Value.pointer none),.va (Value.pointer none),.va (Value.pointer none),.va (Value.pointer none),.va (Value.pointer none),.va (Value.pointer none),vI 0,vI 0,vI 0,vI 0,.va (Value.pointer none),vL none 0 0,vL none 0 0],.fact (DownQ x17 noSta 0 0)]) fun _ h25=>?_
 refine aI ?_
 refine wN (0+1+1) ?_
 refine ev_fin (go Tryz.tbs_ok 1000 ?_)
 refine aJ (aJ ?_)
 refine aD (downSync (x16) (x17)) [12] [] (fun v0_=>[.box (x16) 67 [vI 0,vI 3,vP x17,vI 0,.va (Value.pointer none),.va (Value.pointer none),.va (Value.pointer none),.va (Value.pointer none),.va (Value.pointer none),.va (Value.pointer none),.va (Value.pointer none),.va (Value.pointer none),.va (Value.pointer none),.va (Value.pointer none),vI 0,vI 0,vI 0,vI 0,.va (Value.pointer none),vL none 0 0,vL none 0 0]]) fun _ h26=>?_
 refine aD (downFeed (x16) (x17)) [12] [] (fun v0_=>[.box (x16) 67 [vI 0,vI 3,vP x17,vI 0,.va (Value.pointer none),.va (Value.pointer none),.va (Value.pointer none),.va (Value.pointer none),.va (Value.pointer none),.va (Value.pointer none),.va (Value.pointer none),.va (Value.pointer none),.va (Value.pointer none),.va (Value.pointer none),vI 0,vI 0,vI 0,vI 0,.va (Value.pointer none),vL none 0 0,vL none 0 0]]) fun _ h27=>?_
 refine aD (downRegister (x16) (x17) (0)) [12] [] (fun v0_=>[.box (x16) 67 [vI 0,vI 3,vP x17,vI 0,.va (Value.pointer none),.va (Value.pointer none),.va (Value.pointer none),.va (Value.pointer none),.va (Value.pointer none),.va (Value.pointer none),.va (Value.pointer none),.va (Value.pointer none),.va (Value.pointer none),.va (Value.pointer none),vI 0,vI 0,vI 0,vI 0,.va (Value.pointer none),vL none 0 0,vL none 0 0]]) fun _ h28=>?_
 refine ev_new fun b29=>?_
 refine aD (downOwner (x16) (x17) (0)) [12] [] (fun v0_=>[.box (x16) 67 [vI 0,vI 3,vP x17,vI 0,.va (Value.pointer none),.va (Value.pointer none),.va (Value.pointer none),.va (Value.pointer none),.va (Value.pointer none),.va (Value.pointer none),.va (Value.pointer none),.va (Value.pointer none),.va (Value.pointer none),.va (Value.pointer none),vI 0,vI 0,vI 0,vI 0,.va (Value.pointer none),vL none 0 0,vL none 0 0]]) fun _ h30=>?_
 refine aI (aI (aI (aI (aI ?_))))
 refine aD (downUp (x16) (x17)) [12] [] (fun v0_=>[.box (x16) 67 [vI 0,vI 3,vP x17,vI 0,.va (Value.pointer none),.va (Value.pointer none),.va (Value.pointer none),.va (Value.pointer none),.va (Value.pointer none),.va (Value.pointer none),.va (Value.pointer none),.va (Value.pointer none),.va (Value.pointer none),.va (Value.pointer none),vI 0,vI 0,vI 0,vI 0,.va (Value.pointer none),vL none 0 0,vL none 0 0]]) fun _ h31=>?_
 refine aI ?_
 refine aD (downWaits (x16) (x17)) [12] [] (fun v0_=>[.box (x16) 67 [vI 0,vI 3,vP x17,vI 0,.va (Value.pointer none),.va (Value.pointer none),.va (Value.pointer none),.va (Value.pointer none),.va (Value.pointer none),.va (Value.pointer none),.va (Value.pointer none),.va (Value.pointer none),.va (Value.pointer none),.va (Value.pointer none),vI 0,vI 0,vI 0,vI 0,.va (Value.pointer none),vL none 0 0,vL none 0 0]]) fun _ h32=>?_
 refine aI ?_
 refine aD (downCall (x16) (x17) (o1) (o2) (o3) (o4) (o5)) [12] [] (fun v0_=>[.box (x16) 67 [vI 0,vI 3,vP x17,vI 0,.va (Value.pointer none),.va (Value.pointer none),.va (Value.pointer none),.va (Value.pointer none),.va (Value.pointer none),.va (Value.pointer none),.va (Value.pointer none),.va (Value.pointer none),.va (Value.pointer none),.va (Value.pointer none),vI 0,vI 0,vI 0,vI 0,.va (Value.pointer none),vL none 0 0,vL none 0 0]]) fun _ h33=>?_
 refine aI ?_
 refine aD (downTake (x16) (x17) (mk) (mfr) (mto) (mst) (mep) (mvi) (mba) (mle) (msm) (mp1) (mp2) (mp3) (mp4) (mp5) (ma1) (ma2) (ma3) (A) (en) (ec)) [12] [] (fun v0_=>[.box (x16) 67 [vI 0,vI 3,vP x17,vI 0,.va (Value.pointer none),.va (Value.pointer none),.va (Value.pointer none),.va (Value.pointer none),.va (Value.pointer none),.va (Value.pointer none),.va (Value.pointer none),.va (Value.pointer none),.va (Value.pointer none),.va (Value.pointer none),vI 0,vI 0,vI 0,vI 0,.va (Value.pointer none),vL none 0 0,vL none 0 0]]) fun _ h34=>?_
 refine aI ?_
 refine aD (downClaim (x16) (x17) (st)) [12] [] (fun v0_=>[.box (x16) 67 [vI 0,vI 3,vP x17,vI 0,.va (Value.pointer none),.va (Value.pointer none),.va (Value.pointer none),.va (Value.pointer none),.va (Value.pointer none),.va (Value.pointer none),.va (Value.pointer none),.va (Value.pointer none),.va (Value.pointer none),.va (Value.pointer none),vI 0,vI 0,vI 0,vI 0,.va (Value.pointer none),vL none 0 0,vL none 0 0]]) fun _ h35=>?_
 refine aI ?_
 refine aD (downGive (x16) (x17) (st) (ta)) [12] [] (fun v0_=>[.box (x16) 67 [vI 0,vI 3,vP x17,vI 0,.va (Value.pointer none),.va (Value.pointer none),.va (Value.pointer none),.va (Value.pointer none),.va (Value.pointer none),.va (Value.pointer none),.va (Value.pointer none),.va (Value.pointer none),.va (Value.pointer none),.va (Value.pointer none),vI 0,vI 0,vI 0,vI 0,.va (Value.pointer none),vL none 0 0,vL none 0 0]]) fun _ h36=>?_
 refine aI ?_
 refine aD (downTimeout (x16) (x17) (st) (ta)) [12] [] (fun v0_=>[.box (x16) 67 [vI 0,vI 3,vP x17,vI 0,.va (Value.pointer none),.va (Value.pointer none),.va (Value.pointer none),.va (Value.pointer none),.va (Value.pointer none),.va (Value.pointer none),.va (Value.pointer none),.va (Value.pointer none),.va (Value.pointer none),.va (Value.pointer none),vI 0,vI 0,vI 0,vI 0,.va (Value.pointer none),vL none 0 0,vL none 0 0]]) fun _ h37=>?_
 refine aI ?_
 refine aD (downCheckpoint (x16) (x17)) [12] [] (fun v0_=>[.box (x16) 67 [vI 0,vI 3,vP x17,vI 0,.va (Value.pointer none),.va (Value.pointer none),.va (Value.pointer none),.va (Value.pointer none),.va (Value.pointer none),.va (Value.pointer none),.va (Value.pointer none),.va (Value.pointer none),.va (Value.pointer none),.va (Value.pointer none),vI 0,vI 0,vI 0,vI 0,.va (Value.pointer none),vL none 0 0,vL none 0 0]]) fun _ h38=>?_
 refine aI ?_
 refine aD (downCrash (x16) (x17) (B) (kn) (kc)) [12] [] (fun v0_=>[.box (x16) 67 [vI 0,vI 3,vP x17,vI 0,.va (Value.pointer none),.va (Value.pointer none),.va (Value.pointer none),.va (Value.pointer none),.va (Value.pointer none),.va (Value.pointer none),.va (Value.pointer none),.va (Value.pointer none),.va (Value.pointer none),.va (Value.pointer none),vI 0,vI 0,vI 0,vI 0,.va (Value.pointer none),vL none 0 0,vL none 0 0]]) fun _ h39=>?_
 refine aI (aI ?_)
 refine ev_new fun b40=>?_
 refine aI ?_
 refine wN (0+1+1+1) ?_
 refine ev_fin (go Tryz.tbs_ok 1000 ?_)
 refine aI ?_
 refine ev_fin (go Tryz.tbs_ok 1000 ?_)
 by_cases h:2≤n∧n≤7∧0≤id∧id<n
 · obtain ⟨g1,g2,g3,g4⟩:=h
   have N1:=newS id n g1 g2 g3 g4
   refine aD N1 [] [.inl 0] (fun (v0_,v1_,v2_,v3_,v4_,v5_,v6_)=>[.box (v0_) 67 [vI id,vI n,vP v1_,vI 0,vP v2_,vP v3_,.va (Value.pointer none),.va (Value.pointer none),.va (Value.pointer none),.va (Value.pointer none),.va (Value.pointer none),.va (Value.pointer none),.va (Value.pointer none),.va (Value.pointer none),vI 0,vI 0,vI 0,vI 0,vP v5_,vL none 0 0,vL none 0 0],.fact (StQ v2_ v1_ noSta 0 false 0 0),.box (v3_) 170 [.bl true,vI 0,.va (Value.map (some v4_))],.fact (MapA encI v4_ []),.box (v5_) 134 [.va (Value.map (some v6_))],.fact (MapA encK v6_ [])]) fun ⟨x500,x501,x502,x503,x504,x505,x506⟩ h507=>?_
   refine aJ ?_ (decide_eq_true (by with_reducible assumption))
   refine aJ ?_ (decide_eq_true (by with_reducible assumption))
   refine aJ ?_ (decide_eq_true (by with_reducible assumption))
   refine aJ ?_ (by simp [*])
   refine aJ ?_
   refine aC livesT [] [.inl 0,.inl 1] fun _ h508=>?_
   refine ev_fin ⟨trivial,_,rfl,(()),rfl,(by trivial),Frm.nil _⟩
   all_goals skip
 have N1:=badS id n h
 refine aC N1 [] [.inl 0] fun _ h600=>?_
 refine ev_if_lt (fun h601=>?_) (fun h601=>?_)
 refine aG ?_
 refine ev_if_lt (fun h602=>?_) (fun h602=>?_)
 refine aG ?_
 refine ev_if_lt (fun h603=>?_) (fun h603=>?_)
 refine aG ?_
 refine ev_if (fun h604=>?_) (fun h604=>?_)
 refine aG (aJ ?_)
 refine aC livesT [] [.inl 0,.inl 1] fun _ h605=>?_
 refine ev_fin ⟨trivial,_,rfl,(()),rfl,(by trivial),Frm.nil _⟩
 refine aG ?_
 refine ev_fin ⟨trivial,_,rfl,(()),?_,(by trivial),Frm.nil _⟩
 rotate_left
 refine aG (aJ (aJ ?_))
 refine aC livesT [] [.inl 0,.inl 1] fun _ h606=>?_
 refine ev_fin ⟨trivial,_,rfl,(()),rfl,(by trivial),Frm.nil _⟩
 refine aG (aJ (aJ ?_))
 refine aC livesT [] [.inl 0,.inl 1] fun _ h607=>?_
 refine ev_fin ⟨trivial,_,rfl,(()),rfl,(by trivial),Frm.nil _⟩
 refine aG (aJ (aJ ?_))
 refine aC livesT [] [.inl 0,.inl 1] fun _ h608=>?_
 refine ev_fin ⟨trivial,_,rfl,(()),rfl,(by trivial),Frm.nil _⟩
 exact absurd ⟨h601,h602,h603,by simpa using h604⟩ h
open Go.Sy Go.RowKit Go.ChangeShapes Go.WideShapes
theorem encE_len (x:Ent):(encE x).length=6:=rfl
instance:Inhabited MailS:=⟨⟨0,0,0,0,0,0,0,0,0,none,0,0,0,0,0,0,0,0,0,0⟩⟩
instance:Inhabited ActS:=⟨⟨0,0,0,0,0,0,0,0,default,none,0,0⟩⟩
instance:Inhabited Ent:=⟨⟨0,0,0,0,0,0⟩⟩
theorem int_dec {w:World} {F:Nat} {vs:List Value} (hl:vs.length=1) (h:Sees Tryz.tab w (F+1) 3 vs):∃ x:Int,vs=encN x∧True:=by
 obtain ⟨n0,e0,_⟩:=leaf_int (F:=F) (d:=0) (k:=.i64) (u:=3) rfl rfl h 0 (by decide)
 exact ⟨n0,eq_of_at hl (And.intro e0 trivial),trivial⟩
theorem ent_dec {w:World} {F:Nat} {vs:List Value} (hl:vs.length=6) (h:Sees Tryz.tab w (F+1+2) 127 vs):∃ x:Ent,vs=encE x∧(True):=by
 obtain ⟨n0,e0,w0⟩:=leaf_int (F:=F) (d:=2) (k:=.i64) (u:=3) rfl rfl h 0 (by decide)
 obtain ⟨n1,e1,w1⟩:=leaf_int (F:=F) (d:=2) (k:=.i64) (u:=3) rfl rfl h 1 (by decide)
 obtain ⟨n2,e2,w2⟩:=leaf_int (F:=F) (d:=2) (k:=.i64) (u:=3) rfl rfl h 2 (by decide)
 obtain ⟨n3,e3,w3⟩:=leaf_int (F:=F) (d:=2) (k:=.i64) (u:=3) rfl rfl h 3 (by decide)
 obtain ⟨n4,e4,w4⟩:=leaf_int (F:=F) (d:=2) (k:=.i64) (u:=3) rfl rfl h 4 (by decide)
 obtain ⟨n5,e5,w5⟩:=leaf_int (F:=F) (d:=2) (k:=.i64) (u:=3) rfl rfl h 5 (by decide)
 exact ⟨⟨n0,n1,n2,n3,n4,n5⟩,eq_of_at hl (And.intro e0 (And.intro e1 (And.intro e2 (And.intro e3 (And.intro e4 (And.intro e5 trivial)))))),trivial⟩
theorem act_dec {w:World} {F:Nat} {vs:List Value} (hl:vs.length=27) (h:Sees Tryz.tab w (F+1+1+1+1+3) 31 vs):∃ x:ActS,vs=encAct x∧(x.m.n≤reachBytes∧x.kn≤reachBytes):=by
 obtain ⟨n0,e0,w0⟩:=leaf_int (F:=F+1+1+1) (d:=3) (k:=.u8) (u:=5) rfl rfl h 0 (by decide)
 obtain ⟨n1,e1,w1⟩:=leaf_int (F:=F+1+1+1) (d:=3) (k:=.i64) (u:=3) rfl rfl h 1 (by decide)
 obtain ⟨n2,e2,w2⟩:=leaf_int (F:=F+1+1+1) (d:=3) (k:=.i64) (u:=3) rfl rfl h 2 (by decide)
 obtain ⟨n3,e3,w3⟩:=leaf_int (F:=F+1+1+1) (d:=3) (k:=.i64) (u:=3) rfl rfl h 3 (by decide)
 obtain ⟨n4,e4,w4⟩:=leaf_int (F:=F+1+1+1) (d:=3) (k:=.i64) (u:=3) rfl rfl h 4 (by decide)
 obtain ⟨n5,e5,w5⟩:=leaf_int (F:=F+1+1+1) (d:=3) (k:=.i64) (u:=3) rfl rfl h 5 (by decide)
 obtain ⟨n6,e6,w6⟩:=leaf_int (F:=F+1+1+1) (d:=3) (k:=.i64) (u:=3) rfl rfl h 6 (by decide)
 obtain ⟨n7,e7,w7⟩:=leaf_int (F:=F+1+1+1) (d:=3) (k:=.i64) (u:=3) rfl rfl h 7 (by decide)
 obtain ⟨n8,e8,w8⟩:=leaf_int (F:=F+1+1+1) (d:=3) (k:=.i64) (u:=3) rfl rfl h 8 (by decide)
 obtain ⟨n9,e9,w9⟩:=leaf_int (F:=F+1+1+1) (d:=3) (k:=.i64) (u:=3) rfl rfl h 9 (by decide)
 obtain ⟨n10,e10,w10⟩:=leaf_int (F:=F+1+1+1) (d:=3) (k:=.i64) (u:=3) rfl rfl h 10 (by decide)
 obtain ⟨n11,e11,w11⟩:=leaf_int (F:=F+1+1+1) (d:=3) (k:=.i64) (u:=3) rfl rfl h 11 (by decide)
 obtain ⟨n12,e12,w12⟩:=leaf_int (F:=F+1+1+1) (d:=3) (k:=.i64) (u:=3) rfl rfl h 12 (by decide)
 obtain ⟨n13,e13,w13⟩:=leaf_int (F:=F+1+1+1) (d:=3) (k:=.i64) (u:=3) rfl rfl h 13 (by decide)
 obtain ⟨n14,e14,w14⟩:=leaf_int (F:=F+1+1+1) (d:=3) (k:=.i64) (u:=3) rfl rfl h 14 (by decide)
 obtain ⟨n15,e15,w15⟩:=leaf_int (F:=F+1+1+1) (d:=3) (k:=.i64) (u:=3) rfl rfl h 15 (by decide)
 obtain ⟨n16,e16,w16⟩:=leaf_int (F:=F+1+1+1) (d:=3) (k:=.i64) (u:=3) rfl rfl h 16 (by decide)
 obtain ⟨A17,n17,c17,l17,e17,hn17,hc17,hm17,hr17,hg17⟩:=leaf_slice (F:=F+1+1+1) (d:=3) (u:=24) (el:=127) (enc:=encE) (G:=fun _=>True) rfl rfl (by decide) encE_len (fun _=>rfl) (fun vs hl h=>ent_dec hl h) rfl h 17 (by decide)
 subst hn17
 obtain ⟨n18,e18,w18⟩:=leaf_int (F:=F+1+1+1) (d:=3) (k:=.i64) (u:=3) rfl rfl h 18 (by decide)
 obtain ⟨n19,e19,w19⟩:=leaf_int (F:=F+1+1+1) (d:=3) (k:=.i64) (u:=3) rfl rfl h 19 (by decide)
 obtain ⟨n20,e20,w20⟩:=leaf_int (F:=F+1+1+1) (d:=3) (k:=.i64) (u:=3) rfl rfl h 20 (by decide)
 obtain ⟨n21,e21,w21⟩:=leaf_int (F:=F+1+1+1) (d:=3) (k:=.i64) (u:=3) rfl rfl h 21 (by decide)
 obtain ⟨n22,e22,w22⟩:=leaf_int (F:=F+1+1+1) (d:=3) (k:=.i64) (u:=3) rfl rfl h 22 (by decide)
 obtain ⟨n23,e23,w23⟩:=leaf_int (F:=F+1+1+1) (d:=3) (k:=.i64) (u:=3) rfl rfl h 23 (by decide)
 obtain ⟨n24,e24,w24⟩:=leaf_int (F:=F+1+1+1) (d:=3) (k:=.i64) (u:=3) rfl rfl h 24 (by decide)
 obtain ⟨n25,e25,w25⟩:=leaf_int (F:=F+1+1+1) (d:=3) (k:=.i64) (u:=3) rfl rfl h 25 (by decide)
 obtain ⟨A26,n26,c26,l26,e26,hn26,hc26,hm26,hr26,hg26⟩:=leaf_slice (F:=F+1+1+1) (d:=3) (u:=29) (el:=3) (enc:=encN) (G:=fun _=>True) rfl rfl (by decide) encN_len (fun _=>rfl) (fun vs hl h=>int_dec hl h) rfl h 26 (by decide)
 subst hn26
 exact ⟨⟨n0,n1,n2,n3,n4,n5,n6,n7,⟨n8,n9,n10,n11,n12,n13,n14,n15,n16,A17,l17.length,c17,n18,n19,n20,n21,n22,n23,n24,n25⟩,A26,l26.length,c26⟩,eq_of_at hl (And.intro e0 (And.intro e1 (And.intro e2 (And.intro e3 (And.intro e4 (And.intro e5 (And.intro e6 (And.intro e7 (And.intro e8 (And.intro e9 (And.intro e10 (And.intro e11 (And.intro e12 (And.intro e13 (And.intro e14 (And.intro e15 (And.intro e16 (And.intro e17 (And.intro e18 (And.intro e19 (And.intro e20 (And.intro e21 (And.intro e22 (And.intro e23 (And.intro e24 (And.intro e25 (And.intro e26 trivial))))))))))))))))))))))))))),hm17.2,hm26.2⟩
theorem bytes_ok:bytesOk Tryz.prog Tryz.tbs.tab=true:=by kernel_rfl
theorem all_le {l:List Nat} (h:l.all (· ≤ reachBytes)=true):∀ k∈l,k≤reachBytes:=fun k hk=>of_decide_eq_true (List.all_eq_true.1 h k hk)
abbrev laidL:List (String × DataW Unit):=Rows.sitesNoneRow.laid
theorem door_met (os:Os) (args:Array Value):laidMetH Tryz.prog laidL ((World.doorLaid Tryz.prog 400 os).forCall (fun _ _=>0) ⟨#[],args,[]⟩).memory:=by
 rw [MakeChecks.laidMetH_plain _ _ _ (by kernel_rfl)]
 exact laidMet_of_run' 8 (by kernel_rfl) (by kernel_rfl)
theorem tab_of {W:World} (h:laidMetH Tryz.prog laidL W):TabA.holds (hp W):=by
 rw [MakeChecks.laidMetH_plain _ _ _ (by kernel_rfl)] at h
 obtain ⟨g,hg,hgt⟩:∃ g,Tryz.prog.globalNamed "internal/strconv.uint64pow10" = some g∧(Tryz.prog.globals[g]?).map (·.type)=some 373:=⟨1,by kernel_rfl,by kernel_rfl⟩
 have h3:Lib.TabIs Tryz.prog W "internal/strconv.uint64pow10" .u64 Lib.pow10Tab:=Lib.tabIs_of_head (g:=g) (t:=373) (e:=323) (n:=20) hg hgt (by kernel_rfl) (by kernel_rfl) (by kernel_rfl) (by kernel_rfl) (laidMet.tail (laidMet.tail h))
 intro w hw
 have h4:W.var? Tryz.prog "internal/strconv.uint64pow10" = some (Lib.pow10Tab.map fun z=>Value.int .u64 z).toArray:=h3
 show w.var? Tryz.prog "internal/strconv.uint64pow10" = some _
 unfold World.var? at h4 ⊢
 rw [hg] at h4 ⊢
 simp only [Option.bind_some] at h4 ⊢
 cases hx:W.heap[g]? with
 | none=>rw [hx] at h4;cases h4
 |
  some o =>
  rw [hx] at h4
  have h5:w.heap[g]? = some o:=hw g o hx
  rw [h5]
  exact h4
theorem kinds_of {W:World} (h:laidMetH Tryz.prog laidL W):(Rd 1 (some ⟨0,0,none⟩) 11 (([0,35,119,3,123,51,19,128,257,3,3]:List Int).flatMap encN)).holds (hp W):=by
 rw [MakeChecks.laidMetH_plain _ _ _ (by kernel_rfl)] at h
 obtain ⟨g,hg,hgt,hg0⟩:∃ g,Tryz.prog.globalNamed "archipelago/mail.kinds" = some g∧(Tryz.prog.globals[g]?).map (·.type)=some 215∧g=0:=⟨0,by kernel_rfl,by kernel_rfl,rfl⟩
 have h3:Lib.TabIs Tryz.prog W "archipelago/mail.kinds" .i64 [0,35,119,3,123,51,19,128,257,3,3]:=Lib.tabIs_of_head (g:=g) (t:=215) (e:=3) (n:=11) hg hgt (by kernel_rfl) (by kernel_rfl) (by kernel_rfl) (by kernel_rfl) (laidMet.tail (laidMet.tail (laidMet.tail h)))
 have h4:W.var? Tryz.prog "archipelago/mail.kinds" = some (([0,35,119,3,123,51,19,128,257,3,3]:List Int).map fun z=>Value.int .i64 z).toArray:=h3
 unfold World.var? at h4
 rw [hg] at h4
 simp only [Option.bind_some] at h4
 subst hg0
 cases hx:W.heap[0]? with
 | none=>rw [hx] at h4;cases h4
 |
  some o =>
  rw [hx] at h4
  cases o with
  |
   cells cs e fz =>
   obtain rfl:=Option.some.inj h4
   exact ⟨rfl,ones_of rfl,fun _=>⟨0,0,_,e,fz,rfl,hx,rfl⟩⟩
  | _=>cases h4
theorem sitesNone_lifted (os:Os) (started:os.Started) (H:Type) (enc:TypeId × Value→H) :
 ReturnsInHanded {} Tryz.checked os 3 .any (fun w args=>(Rows.sitesNoneSpec.pre enc Tryz.prog Tryz.f3 Rows.sitesNoneRow.domain Rows.sitesNoneRow.apart w args∧laidMetH Tryz.prog Rows.sitesNoneRow.laid w)∧sizedMet enc Tryz.prog Tryz.f3 (OpenSpec.ofChange Rows.sitesNoneSpec) Rows.sitesNoneRow.apart w args) (Rows.sitesNoneSpec.post enc Tryz.prog Tryz.f3 Rows.sitesNoneRow.apart Rows.sitesNoneRow.fresh Rows.sitesNoneRow.handsOn Rows.sitesNoneRow.again):=by
 refine returnsInHanded_of_change_and (C:=Tryz.checked) (X:=fun w _=>laidMetH Tryz.prog Rows.sitesNoneRow.laid w) (fun _ _ _ hh h=>h.of_heap hh) Tryz.own started (by kernel_rfl) Tryz.func3
  (ChangeSpec.witness_shaped (enc:=enc) (C:=Tryz.checked) (os:=os) (X:=fun w _=>laidMetH Tryz.prog Rows.sitesNoneRow.laid w) false (World.doorLaid Tryz.prog 400 os) #[.agg (encAct default).toArray,.int .i64 0,.int .i64 0] 8 rfl (World.shaped_of_RefB (by kernel_rfl) (by kernel_rfl)) (by kernel_rfl) (by kernel_rfl) (by kernel_rfl) (door_met os _)) ?_
 intro W base args ds gs before hval0 hW hcnd hwt hL _
 have htab:=tab_of hL
 have hval:∀ (j:Nat) t v,Tryz.f3.params[j]? = some t→args[j]? = some v→Value.okWide Tryz.prog W .any base t v:=hval0
 obtain ⟨p,q,hA0,hV,_,_,_⟩:=id hW
 have hA:DataW.TrodAll enc Tryz.prog W 0 (fun _=>true) true Tryz.f3.params.toList args.toList ds p:=hA0
 clear hval0 hA0
 obtain ⟨rfl,_⟩:=trodVars_none hV
 have hwt2:=all_le hwt
 have hkin:=kinds_of hL
 have hpar:Tryz.f3.params = #[31,3,3]:=by kernel_rfl
 rw [hpar] at hA hval
 obtain ⟨v0,v1,v2,d0,d1,d2,p0,p1,p2,rfl,rfl,_,⟨fuel0,hf0⟩,⟨fuel1,hf1⟩,⟨fuel2,hf2⟩⟩:=trodAll_three hA
 obtain ⟨cs,rfl,hsz⟩:=okWide_struct (P:=Tryz.prog) (t:=31) (fs:=Tryz.prog.fieldsOf 31) (by kernel_rfl) (hval 0 _ _ rfl rfl)
 have hl:cs.toList.length=27:=by rw [Array.length_toList,hsz];kernel_rfl
 obtain ⟨x,hx,hx1,hx2⟩:=act_dec (F:=0) (w:=W) hl (sees_of_trod Tryz.tbs_ok.tab bytes_ok 7 fuel0 _ _ _ hf0 (fun k hk=>hwt2 k (weightsEach_get _ _ _ 0 _ _ rfl rfl k hk)))
 obtain rfl:cs=(encAct x).toArray:=by rw [←hx]
 obtain ⟨m1,rfl,_,_,w1⟩:=open_int (P:=Tryz.prog) (t:=3) (k:=.i64) (by kernel_rfl) (hval 1 _ _ rfl rfl) ⟨fuel1,hf1⟩
 obtain ⟨m2,rfl,_,_,w2⟩:=open_int (P:=Tryz.prog) (t:=3) (k:=.i64) (by kernel_rfl) (hval 2 _ _ rfl rfl) ⟨fuel2,hf2⟩
 refine (sitesNone x m1 m2 ⟨Nat.le_trans hx1 (by decide),Nat.le_trans hx2 (by decide)⟩ W Hp.emp (hp W) (Hp.emp_le _) (Hp.le_refl _) (Hp.emp_dis _) trivial (fun X hX=>?_)).mono fun e W' ⟨_,_,he,_,_,_,hext,_⟩=>?_
 · simp only [List.mem_cons,List.not_mem_nil,or_false] at hX
   rcases hX with rfl | rfl
   · exact htab
   exact hkin
 exact ⟨.bool true,he,post_true Tryz.laidOut (by kernel_rfl) rfl (rt:=4) (by kernel_rfl) (by kernel_rfl) hW hext.below rfl rfl rfl⟩
theorem fact_inPlace:(Rows.sitesNoneRow.inPlace==Tryz.prog.inPlace 3)=true:=by kernel_rfl
theorem fact_unfollowed:(Rows.sitesNoneRow.unfollowed==Tryz.prog.unfollowed 3)=true:=by kernel_rfl
theorem fact_recurses:(Rows.sitesNoneRow.recurses==Tryz.prog.recurses 3)=true:=by kernel_rfl
theorem fact_named:(Rows.sitesNoneRow.named==Tryz.prog.varsNamed 3)=true:=by kernel_rfl
theorem facts_all:joinedFacts Tryz.prog 3 Tryz.f3 Rows.sitesNoneSpec Rows.sitesNoneRow=true:=by
 unfold joinedFacts
 rw [fact_inPlace,fact_unfollowed,fact_recurses,fact_named]
 kernel_rfl
theorem sitesNone_holds:Rows.SitesNoneSaid :=
 OpenClaim.holds_of_wide 3 Tryz.f3 rfl rfl rfl rfl rfl rfl rfl ⟨rfl,rfl,rfl,rfl,rfl⟩ rfl rfl rfl rfl rfl (by kernel_rfl) Tryz.func3 facts_all
  (of_decide_eq_true (by kernel_rfl)) (by unfold Func.isWrapper;rw [if_neg (by decide +kernel)];exact ⟨rfl,rfl⟩)
  (fun os started H enc _=>sitesNone_lifted os started H enc)
theorem sitesNone_card:Rows.SitesNoneCardSaid :=
 Claim7.holds_tied_plain_at .later [] [.data,.data,.data,.data] true Rows.sitesNoneCard.stood.harness false
  sitesNone_holds (fun _ h=>by cases h) (by kernel_rfl) (fun _ h=>by cases h) sitesNone_row_tie rfl ⟨rfl,rfl⟩ (by kernel_rfl) rfl
  (fun f fn hf hfn=>by
   obtain rfl:f=3:=(Option.some.inj ((show Tryz.prog.funcNamed Rows.sitesNoneRow.func=some 3 by kernel_rfl).symm.trans hf)).symm
   obtain rfl:fn=Tryz.f3:=(Option.some.inj (Tryz.func3.symm.trans hfn)).symm
   refine ⟨by kernel_rfl,fun j t ht=>?_⟩
   have hpar:Tryz.f3.params = #[31,3,3]:=by kernel_rfl
   rw [hpar] at ht
   have hm:t∈[31,3,3]:=by
    rw [show (#[31,3,3]:Array TypeId)[j]? = ([31,3,3]:List TypeId)[j]? from by simp] at ht
    exact List.mem_of_getElem? ht
   simp only [List.mem_cons,List.not_mem_nil,or_false] at hm
   rcases hm with rfl | rfl | rfl
   · exact (show Tryz.prog.wantsStandIn 31=false by kernel_rfl)
   · exact (show Tryz.prog.wantsStandIn 3=false by kernel_rfl)
   exact (show Tryz.prog.wantsStandIn 3=false by kernel_rfl))
  (by kernel_rfl)
end Go.Proofs.YtnhoidnmlibcpaaGreatDoor

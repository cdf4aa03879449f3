/-
  What is proved: the texts that the claims share, part 4 of 5, each text behind the other. Conditions: none.
-/
import Derived.Shelf.LaysM
import Derived.Shelf.Strconv.Itoa3
import Derived.Test.YtnhoidnmlibcpaaGreatDoorProg
import Derived.Test.YtnhoidnmlibcpaaGreatDoorRows
import Derived.Lib.AppendIntMem
import Derived.Test.YtnhoidnmlibcpaaGreatDoorZa3
set_option maxRecDepth 100000
namespace Go.Proofs.YtnhoidnmlibcpaaGreatDoor
open Go.Sy
theorem thereP (p:Nat) (m s:Int) (dn:Bool) (A:Option Addr) (n c:Nat) (fv:Value) (B:Option Addr) (k d:Nat):Triple Tryz.prog 151 [pP p] [Pt p 184 [.int .i64 m,.int .i64 s,.bool dn,.slice A n c,fv,.slice B k d]] [] (Unit) (fun _=>.bool (decide (m > 0))) (fun _=>True) (fun _=>[Pt p 184 [.int .i64 m,.int .i64 s,.bool dn,.slice A n c,fv,.slice B k d]]):=by
 refine aT Tryz.func151 [.pt 0 p 0] [.box p 184 [vI m,vI s,.va (.bool dn),vL A n c,.va fv,vL B k d]] (fun E=>?_) ⟨rfl,trivial⟩
 refine aG ?_
 exact ev_fin ⟨trivial,_,rfl,(),rfl,by trivial,aF [0]⟩
theorem thereT (p:Nat) (m s:Int) (dn:Bool) (A:Option Addr) (n c:Nat) (fv:Value) (B:Option Addr) (k d:Nat) (hm:0<m):Triple Tryz.prog 151 [pP p] [Pt p 184 [.int .i64 m,.int .i64 s,.bool dn,.slice A n c,fv,.slice B k d]] [] Unit (fun _=>.bool true) (fun _=>True) (fun _=>[Pt p 184 [.int .i64 m,.int .i64 s,.bool dn,.slice A n c,fv,.slice B k d]]):=by
 have:=thereP p m s dn A n c fv B k d
 rwa [decide_eq_true (show m > 0 by omega)] at this
theorem askP (p:Nat) (m s:Int) (dn:Bool) (A:Option Addr) (n c:Nat) (fv:Value) (B:Option Addr) (k d:Nat) (hm:0<m):Triple Tryz.prog 103 [pP p] [Pt p 184 [.int .i64 m,.int .i64 s,.bool dn,.slice A n c,fv,.slice B k d]] [] (Unit) (fun _=>.int .i64 (if dn then 41 else 0)) (fun _=>True) (fun _=>[Pt p 184 [.int .i64 m,.int .i64 s,.bool dn,.slice A n c,fv,.slice B k d]]):=by
 have T1:=thereT p m s dn A n c fv B k d hm
 refine aT Tryz.func103 [.pt 0 p 0] [.box p 184 [vI m,vI s,.va (.bool dn),vL A n c,.va fv,vL B k d]] (fun E=>?_) ⟨rfl,trivial⟩
 cases dn
 · refine aG ?_
   refine aD T1 [0] [] (fun v0_=>[.box (p) 184 [vI m,vI s,.bl false,vL A n c,.va (fv),vL B k d]]) fun _ h0=>?_
   refine aI ?_
   exact ev_fin ⟨trivial,_,rfl,(),rfl,by trivial,aF [0]⟩
 refine aG ?_
 refine aD T1 [0] [] (fun v0_=>[.box (p) 184 [vI m,vI s,.bl true,vL A n c,.va (fv),vL B k d]]) fun _ h0=>?_
 refine aI ?_
 exact ev_fin ⟨trivial,_,rfl,(),rfl,by trivial,aF [0]⟩
theorem empty_iff {x:ByteArray}:x.size=0↔x=⟨#[]⟩:=by
 obtain ⟨a⟩:=x
 rw [ByteArray.mk.injEq]
 exact Array.size_eq_zero_iff
def oddS (x:ByteArray):Bool:=decide (x.size=0) || decide (16<x.size)
theorem oddT (x:ByteArray):Triple Tryz.prog 196 [.string x] [] [] (Unit) (fun _=>.bool (oddS x)) (fun _=>True) (fun _=>[]):=by
 refine aT Tryz.func196 [.va (.string x)] [] (fun E=>?_) ⟨trivial,trivial⟩
 refine aG ?_
 refine ev_if_lt (fun h0=>?_) (fun h0=>?_)
 refine aG ?_
 refine ev_fin ⟨trivial,_,rfl,(()),?_,(by trivial),Frm.nil _⟩
 rotate_left
 refine aG ?_
 refine ev_fin ⟨trivial,_,rfl,(()),?_,(by trivial),Frm.nil _⟩
 rotate_left
 · rw [h0]
   rfl
 refine congrArg Value.bool ?_
 have h1:x.size≠0:=fun e=>h0 (empty_iff.1 e)
 unfold oddS
 rw [decide_eq_false h1,Bool.false_or,decide_eq_decide]
 omega
theorem findT (p:Nat) (m s:Int) (dn:Bool) (A:Option Addr) (n c:Nat) (fv:Value) (B:Option Addr) (k d:Nat) (L:List Fl) (x:ByteArray) (hn:n=L.length) (h1:n≤1000) (hs:riseF L):Triple Tryz.prog 200 [pP p,.string x] [Pt p 184 [.int .i64 m,.int .i64 s,.bool dn,.slice A n c,fv,.slice B k d],Row 187 3 A n c (L.flatMap encF)] [] (Unit) (fun _=>.tuple #[.int .i64 (posF L x:Nat),.bool (hasF L x)]) (fun _=>True) (fun _=>[Pt p 184 [.int .i64 m,.int .i64 s,.bool dn,.slice A n c,fv,.slice B k d],Row 187 3 A n c (L.flatMap encF)]):=by
 have T1:=(searchF A L n c x hn h1 hs).ofRow 187 c
 refine aT Tryz.func200 [.pt 0 p 0,.va (.string x)] [.box p 184 [vI m,vI s,.va (.bool dn),vL A n c,.va fv,vL B k d],.fact (Row 187 3 A n c (L.flatMap encF))] (fun E=>?_) ⟨rfl,trivial,trivial⟩
 refine aG ?_
 refine aC T1 [] [.inr 1] fun _ h0=>?_
 exact ev_fin ⟨trivial,_,rfl,(),rfl,by trivial,aF [0,1]⟩
theorem sizeE1 (f:Fl):Triple Tryz.prog 277 [.agg #[.string f.n,.string f.d,.int .i64 f.s]] [] [] (Unit) (fun _=>.int .i64 (f.d.size:Nat)) (fun _=>True) (fun _=>[]):=by
 refine aT Tryz.func277 [.ag [.va (.string f.n),.va (.string f.d),vI f.s]] [] (fun E=>?_) ⟨by simp [SV.good,SV.goodL],trivial⟩
 refine aG ?_
 refine ev_new fun b0=>?_
 refine ev_fin ⟨trivial,_,rfl,(()),rfl,(by trivial),Frm.nil _⟩
def sizeEG (f:Fl):Int:=(f.d.size:Int)
theorem sizeE (p:Nat) (m s:Int) (dn:Bool) (A:Option Addr) (n c:Nat) (fv:Value) (B:Option Addr) (k d:Nat) (L:List Fl) (hm:0<m) (hn:n=L.length) (h1:n≤1000):Triple Tryz.prog 276 [pP p,.func (.func 277) #[] #[]] [Pt p 184 [.int .i64 m,.int .i64 s,.bool dn,.slice A n c,fv,.slice B k d],Row 187 3 A n c (L.flatMap encF)] [] (Option Addr × Nat) (fun (C,e)=>.slice C n e) (fun _=>True) (fun (C,e)=>[Pt p 184 [.int .i64 m,.int .i64 s,.bool dn,.slice A n c,fv,.slice B k d],Row 187 3 A n c (L.flatMap encF),Row 3 1 C n e ((L.map sizeEG).flatMap encN)]):=by
 have T1:=thereT p m s dn A n c fv B k d hm
 refine aT Tryz.func276 [.pt 0 p 0,.va (.func (.func 277) #[] #[])] [.box p 184 [vI m,vI s,.va (.bool dn),vL A n c,.va fv,vL B k d],.fact (Row 187 3 A n c (L.flatMap encF))] (fun E=>?_) ⟨rfl,trivial,trivial⟩
 refine aG ?_
 refine aD T1 [0] [] (fun v0_=>[.box (p) 184 [vI m,vI s,.bq (dn),vL A n c,.va (fv),vL B k d]]) fun _ h0=>?_
 refine aI ?_
 refine ev_stop (go_fact (Row 3 1 none 0 0 (([]:List Int).flatMap encN)) (Row.nilE _ _) ?_)
 refine aG ?_
 refine ev_stop (go_loopR [5,7,16,17,18,19,20,21,22,23,24,25,26] (fun (j,C,q,e,_)=>[(5,vL C q e),(16,vI (j:Nat))]) (fun (_,C,q,e,M)=>[(2,.fact (Row 3 1 C q e (M.flatMap encN)))]) (fun (j,_,q,_,M)=>j≤n∧q=M.length∧q=j∧M=(L.take j).map sizeEG) (fun (j,_,_,_,_)=>n-j) ((0,none,0,0,[]):Nat × Option Addr × Nat × Nat × List Int) ⟨Nat.zero_le _,rfl,rfl,rfl⟩ aS (fun x_ h_=>?_))
 obtain ⟨j,C,q,e,M⟩:=x_
 obtain ⟨hj,hq,hqj,hM⟩:=h_
 refine aG ?_
 refine ev_if_lt (fun hlt=>?_) (fun hge=>?_)
 · have hjn:j<L.length:=by
    have:(j:Int)<(n:Int):=hlt
    omega
   have T2:=sizeE1 L[j]
   refine aG ?_
   refine ev_stop (go_index0 (sz:=3) Tryz.tbs_ok (.inr 1) (j) rfl rfl rfl rfl rfl rfl (by omega) rfl Row.at0 (fun g40 e41=>?_))
   subst e41
   refine aG ?_
   have l42:j<(L).length:=(by omega)
   refine ev_stop (go_loadE Tryz.tbs_ok (.inr 1) (j) 0 rfl rfl rfl rfl (fun _ h=>Row.rd h) (by omega) (fun _=>rfl) (by omega) l42 (by decide) ?_)
   refine aG ?_
   refine ev_new fun b43=>?_
   refine aC T2 [] [] fun _ h44=>?_
   refine ev_new fun b45=>?_
   refine ev_stop (go_appendE (sz:=1) (M:=[_]) (enc:=encN) Tryz.tbs_ok [2] [] (.inr 4) (M) ([(↑L[j].d.size:Int)]) ((M)++([(↑L[j].d.size:Int)])) (q+1) rfl rfl rfl rfl rfl rfl rfl (by decide) rfl (by decide) (fun _ p=>starH_one.1 p) rfl (fun _ p=>Pt.rd p rfl) (by first | rfl | simp) (by first | rfl | omega) (aM (q+1)) (aN (q+1)) (fun _ _=>aL) (fun A46 c47 h48=>?_))
   refine aG ?_
   refine wN (j+1) ?_
   refine ev_fin (round_next ((j+1,A46,q+1,c47,M++[(↑L[j].d.size:Int)])) (?_:j+1≤n∧q+1=(M++[(↑L[j].d.size:Int)]).length∧q+1=j+1∧M++[(↑L[j].d.size:Int)]=List.map sizeEG (List.take (j+1) L)) (show n-(j+1)<n-j from (by omega)) aS)
   refine ⟨by omega,by rw [List.length_append,←hq];rfl,by omega,?_⟩
   rw [hM,←List.take_append_getElem hjn,List.map_append]
   rfl
 obtain rfl:j=n:=by
  have:¬ (j:Int)<(n:Int):=hge
  omega
 obtain rfl:=hqj
 rw [List.take_of_length_le (by omega)] at hM
 subst hM
 refine aG ?_
 refine ev_fin (go Tryz.tbs_ok 1000 ?_)
 exact ev_fin ⟨trivial,_,rfl,((C,e)),rfl,by trivial,aF [0,1,2]⟩
theorem nameE1 (f:Fl):Triple Tryz.prog 206 [.agg #[.string f.n,.string f.d,.int .i64 f.s]] [] [] (Unit) (fun _=>.string f.n) (fun _=>True) (fun _=>[]):=by
 refine aT Tryz.func206 [.ag [.va (.string f.n),.va (.string f.d),vI f.s]] [] (fun E=>?_) ⟨by simp [SV.good,SV.goodL],trivial⟩
 refine aG ?_
 refine ev_new fun b0=>?_
 refine ev_fin ⟨trivial,_,rfl,(()),rfl,(by trivial),Frm.nil _⟩
def nameEG (f:Fl):ByteArray:=f.n
theorem nameE (p:Nat) (m s:Int) (dn:Bool) (A:Option Addr) (n c:Nat) (fv:Value) (B:Option Addr) (k d:Nat) (L:List Fl) (hm:0<m) (hn:n=L.length) (h1:n≤1000):Triple Tryz.prog 205 [pP p,.func (.func 206) #[] #[]] [Pt p 184 [.int .i64 m,.int .i64 s,.bool dn,.slice A n c,fv,.slice B k d],Row 187 3 A n c (L.flatMap encF)] [] (Option Addr × Nat) (fun (C,e)=>.slice C n e) (fun _=>True) (fun (C,e)=>[Pt p 184 [.int .i64 m,.int .i64 s,.bool dn,.slice A n c,fv,.slice B k d],Row 187 3 A n c (L.flatMap encF),Row 9 1 C n e ((L.map nameEG).flatMap encS)]):=by
 have T1:=thereT p m s dn A n c fv B k d hm
 refine aT Tryz.func205 [.pt 0 p 0,.va (.func (.func 206) #[] #[])] [.box p 184 [vI m,vI s,.va (.bool dn),vL A n c,.va fv,vL B k d],.fact (Row 187 3 A n c (L.flatMap encF))] (fun E=>?_) ⟨rfl,trivial,trivial⟩
 refine aG ?_
 refine aD T1 [0] [] (fun v0_=>[.box (p) 184 [vI m,vI s,.bq (dn),vL A n c,.va (fv),vL B k d]]) fun _ h0=>?_
 refine aI ?_
 refine ev_stop (go_fact (Row 9 1 none 0 0 (([]:List ByteArray).flatMap encS)) (Row.nilE _ _) ?_)
 refine aG ?_
 refine ev_stop (go_loopR [5,7,16,17,18,19,20,21,22,23,24,25,26] (fun (j,C,q,e,_)=>[(5,vL C q e),(16,vI (j:Nat))]) (fun (_,C,q,e,M)=>[(2,.fact (Row 9 1 C q e (M.flatMap encS)))]) (fun (j,_,q,_,M)=>j≤n∧q=M.length∧q=j∧M=(L.take j).map nameEG) (fun (j,_,_,_,_)=>n-j) ((0,none,0,0,[]):Nat × Option Addr × Nat × Nat × List ByteArray) ⟨Nat.zero_le _,rfl,rfl,rfl⟩ aS (fun x_ h_=>?_))
 obtain ⟨j,C,q,e,M⟩:=x_
 obtain ⟨hj,hq,hqj,hM⟩:=h_
 refine aG ?_
 refine ev_if_lt (fun hlt=>?_) (fun hge=>?_)
 · have hjn:j<L.length:=by
    have:(j:Int)<(n:Int):=hlt
    omega
   have T2:=nameE1 L[j]
   refine aG ?_
   refine ev_stop (go_index0 (sz:=3) Tryz.tbs_ok (.inr 1) (j) rfl rfl rfl rfl rfl rfl (by omega) rfl Row.at0 (fun g40 e41=>?_))
   subst e41
   refine aG ?_
   have l42:j<(L).length:=(by omega)
   refine ev_stop (go_loadE Tryz.tbs_ok (.inr 1) (j) 0 rfl rfl rfl rfl (fun _ h=>Row.rd h) (by omega) (fun _=>rfl) (by omega) l42 (by decide) ?_)
   refine aG ?_
   refine ev_new fun b43=>?_
   refine aC T2 [] [] fun _ h44=>?_
   refine ev_new fun b45=>?_
   refine ev_stop (go_appendE (sz:=1) (M:=[_]) (enc:=encS) Tryz.tbs_ok [2] [] (.inr 4) (M) ([L[j].n]) ((M)++([L[j].n])) (q+1) rfl rfl rfl rfl rfl rfl rfl (by decide) rfl (by decide) (fun _ p=>starH_one.1 p) rfl (fun _ p=>Pt.rd p rfl) (by first | rfl | simp) (by first | rfl | omega) (aM (q+1)) (aN (q+1)) (fun _ _=>aL) (fun A46 c47 h48=>?_))
   refine aG ?_
   refine wN (j+1) ?_
   refine ev_fin (round_next ((j+1,A46,q+1,c47,M++[L[j].n])) (?_:j+1≤n∧q+1=(M++[L[j].n]).length∧q+1=j+1∧M++[L[j].n]=List.map nameEG (List.take (j+1) L)) (show n-(j+1)<n-j from (by omega)) aS)
   refine ⟨by omega,by rw [List.length_append,←hq];rfl,by omega,?_⟩
   rw [hM,←List.take_append_getElem hjn,List.map_append]
   rfl
 obtain rfl:j=n:=by
  have:¬ (j:Int)<(n:Int):=hge
  omega
 obtain rfl:=hqj
 rw [List.take_of_length_le (by omega)] at hM
 subst hM
 refine aG ?_
 refine ev_fin (go Tryz.tbs_ok 1000 ?_)
 exact ev_fin ⟨trivial,_,rfl,((C,e)),rfl,by trivial,aF [0,1,2]⟩
def sumD (L:List Fl):Nat:=(L.map fun f=>f.d.size).sum
theorem sumD_take (L:List Fl) (j:Nat):sumD (L.take j)≤sumD L:=by
 unfold sumD
 conv=>rhs;rw [←List.take_append_drop j L,List.map_append,List.sum_append]
 omega
theorem sumD_step {L:List Fl} {j:Nat} (hj:j<L.length):sumD (L.take (j+1))=sumD (L.take j)+L[j].d.size:=by
 unfold sumD
 rw [←List.take_append_getElem hj,List.map_append,List.sum_append]
 rfl
theorem sizeT (p:Nat) (m s:Int) (dn:Bool) (A:Option Addr) (n c:Nat) (fv:Value) (B:Option Addr) (k d:Nat) (L:List Fl) (hm:0<m) (hn:n=L.length) (h1:n≤1000) (hb:sumD L≤1000000000):Triple Tryz.prog 240 [pP p] [Pt p 184 [.int .i64 m,.int .i64 s,.bool dn,.slice A n c,fv,.slice B k d],Row 187 3 A n c (L.flatMap encF)] [] (Unit) (fun _=>.int .i64 (sumD L:Nat)) (fun _=>True) (fun _=>[Pt p 184 [.int .i64 m,.int .i64 s,.bool dn,.slice A n c,fv,.slice B k d],Row 187 3 A n c (L.flatMap encF)]):=by
 have T1:=sizeE p m s dn A n c fv B k d L hm hn h1
 refine aT Tryz.func240 [.pt 0 p 0] [.box p 184 [vI m,vI s,.va (.bool dn),vL A n c,.va fv,vL B k d],.fact (Row 187 3 A n c (L.flatMap encF))] (fun E=>?_) ⟨rfl,trivial⟩
 refine aG ?_
 refine aD T1 [0,1] [] (fun (v0_,v1_)=>[.box (p) 184 [vI m,vI s,.bq (dn),vL A n c,.va (fv),vL B k d],.fact (Row 187 3 A n c (List.flatMap encF L)),.fact (Row 3 1 v0_ n v1_ (List.flatMap encN (List.map sizeEG L)))]) fun ⟨x0,x1⟩ h2=>?_
 refine ev_stop (go_loopR [3,5,9,10,11,12,13,14,15,16] (fun (j,q)=>[(3,vI q),(9,vI (j:Nat))]) (fun _=>[]) (fun (j,q)=>j≤n∧q=((sumD (L.take j):Nat):Int)) (fun (j,_)=>n-j) ((0,0):Nat × Int) ⟨Nat.zero_le _,rfl⟩ aS (fun x_ h_=>?_))
 obtain ⟨j,q⟩:=x_
 obtain ⟨hj,hq⟩:=h_
 refine aG ?_
 refine ev_if_lt (fun hlt=>?_) (fun hge=>?_)
 · have hjn:j<L.length:=by
    have:(j:Int)<(n:Int):=hlt
    omega
   have hs1:=sumD_step hjn
   have hs2:=sumD_take L (j+1)
   have hg:(L.map sizeEG)[j]'(by simpa using hjn)=((L[j].d.size:Nat):Int):=by simp [sizeEG]
   refine aG ?_
   refine ev_stop (go_index0 (sz:=1) Tryz.tbs_ok (.inr 2) (j) rfl rfl rfl rfl rfl rfl (by omega) rfl Row.at0 (fun g40 e41=>?_))
   subst e41
   refine aG ?_
   have l42:j<(List.map sizeEG L).length:=(by (simp only [List.length_map]<;>omega))
   refine ev_stop (go_loadE Tryz.tbs_ok (.inr 2) (j) 0 rfl rfl rfl rfl (fun _ h=>Row.rd h) (by omega) (fun _=>rfl) (by omega) l42 (by decide) ?_)
   refine aG ?_
   refine w6 ?_
   refine wN (j+1) ?_
   refine ev_fin (round_next ((j+1,q+(List.map sizeEG L)[j])) (show j+1≤n∧q+(List.map sizeEG L)[j]=(↑(sumD (List.take (j+1) L)):Int) from (by omega)) (show n-(j+1)<n-j from (by omega)) aS)
 refine aG ?_
 refine ev_fin (go Tryz.tbs_ok 1000 ?_)
 refine ev_fin ⟨trivial,_,rfl,(),?_,by trivial,aF [0,1]⟩
 rw [hq,List.take_of_length_le (by omega)]
 rfl
theorem namesT (p:Nat) (m s:Int) (dn:Bool) (A:Option Addr) (n c:Nat) (fv:Value) (B:Option Addr) (k d:Nat) (L:List Fl) (hm:0<m) (hn:n=L.length) (h1:n≤1000):Triple Tryz.prog 149 [pP p] [Pt p 184 [.int .i64 m,.int .i64 s,.bool dn,.slice A n c,fv,.slice B k d],Row 187 3 A n c (L.flatMap encF)] [] (Option Addr × Nat) (fun (C,e)=>.slice C n e) (fun _=>True) (fun (C,e)=>[Pt p 184 [.int .i64 m,.int .i64 s,.bool dn,.slice A n c,fv,.slice B k d],Row 187 3 A n c (L.flatMap encF),Row 9 1 C n e ((L.map nameEG).flatMap encS)]):=by
 have T1:=nameE p m s dn A n c fv B k d L hm hn h1
 refine aT Tryz.func149 [.pt 0 p 0] [.box p 184 [vI m,vI s,.va (.bool dn),vL A n c,.va fv,vL B k d],.fact (Row 187 3 A n c (L.flatMap encF))] (fun E=>?_) ⟨rfl,trivial⟩
 refine aG ?_
 refine aD T1 [0,1] [] (fun (v0_,v1_)=>[.box (p) 184 [vI m,vI s,.bq (dn),vL A n c,.va (fv),vL B k d],.fact (Row 187 3 A n c (List.flatMap encF L)),.fact (Row 9 1 v0_ n v1_ (List.flatMap encS (List.map nameEG L)))]) fun ⟨x0,x1⟩ h2=>?_
 exact ev_fin ⟨trivial,_,rfl,((x0,x1)),rfl,by trivial,aF [0,1,2]⟩
theorem upT (p:Nat) (m s:Int) (dn:Bool) (A:Option Addr) (n c:Nat) (fv:Value) (B:Option Addr) (k d:Nat) (hm:0<m):Triple Tryz.prog 156 [pP p] [Pt p 184 [.int .i64 m,.int .i64 s,.bool dn,.slice A n c,fv,.slice B k d]] [] (Unit) (fun _=>.bool (!dn)) (fun _=>True) (fun _=>[Pt p 184 [.int .i64 m,.int .i64 s,.bool dn,.slice A n c,fv,.slice B k d]]):=by
 have T1:=thereT p m s dn A n c fv B k d hm
 refine aT Tryz.func156 [.pt 0 p 0] [.box p 184 [vI m,vI s,.va (.bool dn),vL A n c,.va fv,vL B k d]] (fun E=>?_) ⟨rfl,trivial⟩
 refine aG ?_
 refine aD T1 [0] [] (fun v0_=>[.box (p) 184 [vI m,vI s,.bq (dn),vL A n c,.va (fv),vL B k d]]) fun _ h0=>?_
 refine aJ ?_
 exact ev_fin ⟨trivial,_,rfl,(),rfl,by trivial,aF [0]⟩
theorem startsT (p:Nat) (m s:Int) (dn:Bool) (A:Option Addr) (n c:Nat) (fv:Value) (B:Option Addr) (k d:Nat) (hm:0<m):Triple Tryz.prog 157 [pP p] [Pt p 184 [.int .i64 m,.int .i64 s,.bool dn,.slice A n c,fv,.slice B k d]] [] (Unit) (fun _=>.int .i64 s) (fun _=>True) (fun _=>[Pt p 184 [.int .i64 m,.int .i64 s,.bool dn,.slice A n c,fv,.slice B k d]]):=by
 have T1:=thereT p m s dn A n c fv B k d hm
 refine aT Tryz.func157 [.pt 0 p 0] [.box p 184 [vI m,vI s,.va (.bool dn),vL A n c,.va fv,vL B k d]] (fun E=>?_) ⟨rfl,trivial⟩
 refine aG ?_
 refine aD T1 [0] [] (fun v0_=>[.box (p) 184 [vI m,vI s,.bq (dn),vL A n c,.va (fv),vL B k d]]) fun _ h0=>?_
 refine aI ?_
 exact ev_fin ⟨trivial,_,rfl,(),rfl,by trivial,aF [0]⟩
def keep1 (k:Option Int) (f:Fl):Fl :=
 match k with
 | some k=>⟨f.n,f.d.extract 0 (f.s+max 0 (min k ((f.d.size:Int)-f.s))).toNat,f.s+max 0 (min k ((f.d.size:Int)-f.s))⟩
 | none=>⟨f.n,f.d.extract 0 f.s.toNat,f.s⟩
def crashF (L:List Fl) (K:List Int):List Fl:=L.mapIdx fun i f=>keep1 K[i]? f
def okF (L:List Fl):Prop:=∀ f∈L,0≤f.s∧f.s≤f.d.size∧f.d.size≤1000000000
theorem crashF_len (L:List Fl) (K:List Int):(crashF L K).length=L.length:=List.length_mapIdx
theorem crashF_at (L:List Fl) (K:List Int) {j:Nat} (hj:j<L.length):(crashF L K)[j]'(by rw [crashF_len];exact hj)=keep1 K[j]? L[j]:=List.getElem_mapIdx
theorem crashF_step {L:List Fl} {K:List Int} {j:Nat} (hj:j<L.length) (f:Fl) (hf:f=keep1 K[j]? L[j]):((crashF L K).take j++L.drop j).set j f=(crashF L K).take (j+1)++L.drop (j+1):=by
 have hl:((crashF L K).take j).length=j:=by rw [List.length_take,crashF_len];omega
 rw [List.set_append_right _ _ (by omega),hl,Nat.sub_self,List.drop_eq_getElem_cons hj,List.set_cons_zero,←List.take_append_getElem (show j<(crashF L K).length by rw [crashF_len];exact hj),crashF_at L K hj,hf,List.append_assoc]
 rfl
theorem crashF_get {L:List Fl} {K:List Int} {j:Nat} (hj:j<L.length) {hx:j<((crashF L K).take j++L.drop j).length}:((crashF L K).take j++L.drop j)[j]=L[j]:=by
 have hl:((crashF L K).take j).length=j:=by rw [List.length_take,crashF_len];omega
 rw [List.getElem_append_right (by omega),List.getElem_drop]
 congr 1
 omega
theorem crashT (p:Nat) (m s:Int) (A:Option Addr) (n c:Nat) (fv:Value) (B:Option Addr) (k d:Nat) (L:List Fl) (Q:Option Addr) (kq dq:Nat) (K:List Int) (hm:0<m) (hn:n=L.length) (h1:n≤1000) (hq:kq=K.length) (hL:okF L):Triple Tryz.prog 55 [pP p,.slice Q kq dq] [Pt p 184 [.int .i64 m,.int .i64 s,.bool false,.slice A n c,fv,.slice B k d],Row 187 3 A n c (L.flatMap encF)] [Rd 1 Q kq (K.flatMap encN)] (Unit) (fun _=>.int .i64 0) (fun _=>True) (fun _=>[Pt p 184 [.int .i64 m,.int .i64 s,.bool true,.slice A n c,.nilFunc,.slice B k d],Row 187 3 A n c ((crashF L K).flatMap encF)]):=by
 have T1:=askP p m s false A n c fv B k d hm
 refine aT Tryz.func55 [.pt 0 p 0,vL Q kq dq] [.box p 184 [vI m,vI s,.va (.bool false),vL A n c,.va fv,vL B k d],.fact (Row 187 3 A n c (L.flatMap encF))] (fun E=>?_) ⟨rfl,trivial,trivial⟩
 refine aG ?_
 refine aD T1 [0] [] (fun v0_=>[.box (p) 184 [vI m,vI s,.bl false,vL A n c,.va (fv),vL B k d]]) fun _ h0=>?_
 refine aI ?_
 refine ev_stop (go_loopR [6,7,24,25,26,27,28,29,30,31,32,33,34,35,36,37,38,39,40,41,42,43,44,45,46,47,48,49,50,51,52,53,54,55,56,57,58,59,60,61,62,63,64,65,66,67,68,69,70,71,72] (fun j=>[(24,vI (j:Nat))]) (fun j=>[(1,.fact (Row 187 3 A n c (((crashF L K).take j++L.drop j).flatMap encF)))]) (fun j=>j≤n) (fun j=>n-j) (0:Nat) (Nat.zero_le _) aS (fun j hj=>?_))
 refine aG ?_
 refine ev_if_lt (fun hlt=>?_) (fun hge=>?_)
 · have hjn:j<L.length:=by
    have:(j:Int)<(n:Int):=hlt
    omega
   have hf:=hL _ (List.getElem_mem hjn)
   obtain ⟨C,hC⟩:∃ C,C=(crashF L K).take j++L.drop j:=⟨_,rfl⟩
   have hCl:C.length=n:=by rw [hC,List.length_append,List.length_take,crashF_len,List.length_drop];omega
   have hCj:C[j]'(by omega)=L[j]:=by simp only [hC];exact crashF_get hjn
   rw [←hCj] at hf
   rw [←hC]
   have hj2:j<C.length:=by omega
   have e1:∀ hK:j<K.length,C.set j (⟨C[j].n,C[j].d.extract 0 (C[j].s+max 0 (min K[j] ((C[j].d.size:Int)-C[j].s))).toNat,C[j].s+max 0 (min K[j] ((C[j].d.size:Int)-C[j].s))⟩:Fl)=(crashF L K).take (j+1)++L.drop (j+1):=fun hK=>by
    rw [hCj,hC]
    exact crashF_step hjn _ (by rw [List.getElem?_eq_getElem hK];rfl)
   have e2:¬ j<K.length→C.set j (⟨C[j].n,C[j].d.extract 0 C[j].s.toNat,C[j].s⟩:Fl)=(crashF L K).take (j+1)++L.drop (j+1):=fun hK=>by
    rw [hCj,hC]
    exact crashF_step hjn _ (by rw [List.getElem?_eq_none (by omega)];rfl)
   refine aG ?_
   refine ev_stop (go_index0 (sz:=3) Tryz.tbs_ok (.inr 1) (j) rfl rfl rfl rfl rfl rfl (by omega) rfl Row.at0 (fun g40 e41=>?_))
   subst e41
   refine aG ?_
   refine ev_if_lt (fun h42=>?_) (fun h42=>?_)
   refine aG ?_
   refine ev_stop (go_draw Tryz.tbs_ok false [1] [(0,true),(1,true),(2,true),(3,true),(4,true),(5,true),(6,true),(7,true),(8,true),(9,true),(10,true),(11,true),(12,true),(13,true),(14,true),(15,true),(16,true),(17,true),(18,true),(19,true),(20,true),(21,true),(22,true),(23,false)] rfl ?_)
   refine aG (aE ?_)
   have l43:j<(C).length:=(by omega)
   refine ev_stop (tk_loadE Tryz.tbs_ok (.inr 0) (j) 2 aB rfl rfl rfl rfl rfl (fun _ h=>Row.rd h) (by omega) (fun _=>rfl) (by omega) l43 (by decide) ?_)
   refine aG (aE ?_)
   refine ev_stop (tk_indexE (sz:=1) Tryz.tbs_ok (.inl 0) (j) aB rfl rfl rfl rfl rfl rfl rfl (by omega) rfl (fun _ h=>h) (fun g44 o46 e45=>?_))
   subst e45
   refine aG (aE ?_)
   have l47:j<(K).length:=(by omega)
   refine ev_stop (tk_loadE Tryz.tbs_ok (.inl 0) (j) 0 aB rfl rfl rfl rfl rfl (fun _ h=>h) (by omega) (fun _=>rfl) (by omega) l47 (by decide) ?_)
   refine aG (aE ?_)
   have l48:j<(C).length:=(by omega)
   refine ev_stop (tk_loadE Tryz.tbs_ok (.inr 0) (j) 1 aB rfl rfl rfl rfl rfl (fun _ h=>Row.rd h) (by omega) (fun _=>rfl) (by omega) l48 (by decide) ?_)
   refine aG (aE ?_)
   have l49:j<(C).length:=(by omega)
   refine ev_stop (tk_loadE Tryz.tbs_ok (.inr 0) (j) 2 aB rfl rfl rfl rfl rfl (fun _ h=>Row.rd h) (by omega) (fun _=>rfl) (by omega) l49 (by decide) ?_)
   refine aG (aE ?_)
   refine w6 ?_
   refine w6 ?_
   have l50:j<(C).length:=(by omega)
   refine ev_stop (go_storeR Tryz.tbs_ok 1 (j) 2 ({ n:=C[j].n,d:=C[j].d,s:=C[j].s+max 0 (min K[j] ((↑C[j].d.size:Int)-C[j].s)):Fl }) rfl rfl rfl rfl rfl (by omega) (fun _=>rfl) (ones_of rfl) (by omega) l50 rfl (by decide) (ones_of rfl) rfl ?_)
   refine aG (aK ?_)
   refine ev_stop (go_draw Tryz.tbs_ok false [1] [(0,true),(1,true),(2,true),(3,true),(4,true),(5,true),(6,true),(7,true),(8,true),(9,true),(10,true),(11,true),(12,false)] rfl ?_)
   refine aG (aE ?_)
   have l51:j<(C.set j { n:=C[j].n,d:=C[j].d,s:=C[j].s+max 0 (min K[j] ((↑C[j].d.size:Int)-C[j].s)):Fl }).length:=(by (simp only [List.length_set];omega))
   refine ev_stop (tk_loadE Tryz.tbs_ok (.inr 0) (j) 1 aB rfl rfl rfl rfl rfl (fun _ h=>Row.rd h) (by omega) (fun _=>rfl) (by omega) l51 (by decide) ?_)
   refine aG (aE ?_)
   have l52:j<(C.set j { n:=C[j].n,d:=C[j].d,s:=C[j].s+max 0 (min K[j] ((↑C[j].d.size:Int)-C[j].s)):Fl }).length:=(by omega)
   refine ev_stop (tk_loadE Tryz.tbs_ok (.inr 0) (j) 2 aB rfl rfl rfl rfl rfl (fun _ h=>Row.rd h) (by omega) (fun _=>rfl) (by omega) l52 (by decide) ?_)
   refine aG (aE ?_)
   refine ev_stop (go_slot 68 _ (.va (.int IntKind.i64 (((C.set j { n:=C[j].n,d:=C[j].d,s:=C[j].s+max 0 (min K[j] ((↑C[j].d.size:Int)-C[j].s)):Fl })[j].s.toNat:Nat):Int))) rfl rfl (congrArg (fun z=>Value.int IntKind.i64 z) (show (C.set j { n:=C[j].n,d:=C[j].d,s:=C[j].s+max 0 (min K[j] ((↑C[j].d.size:Int)-C[j].s)):Fl })[j].s=(((C.set j { n:=C[j].n,d:=C[j].d,s:=C[j].s+max 0 (min K[j] ((↑C[j].d.size:Int)-C[j].s)):Fl })[j].s.toNat:Nat):Int) by first | omega | (simp only [List.getElem_set_self];omega))) (fun _=>trivial) ?_)
   refine aG (aE ?_)
   refine ev_stop (tk_sliceS Tryz.tbs_ok (0) ((C.set j { n:=C[j].n,d:=C[j].d,s:=C[j].s+max 0 (min K[j] ((↑C[j].d.size:Int)-C[j].s)):Fl })[j].s.toNat) aB rfl rfl rfl rfl rfl rfl ⟨_,rfl⟩ (by omega) (by (simp only [List.getElem_set_self];omega)) ?_)
   refine aG (aE ?_)
   have l53:j<(C.set j { n:=C[j].n,d:=C[j].d,s:=C[j].s+max 0 (min K[j] ((↑C[j].d.size:Int)-C[j].s)):Fl }).length:=(by omega)
   refine ev_stop (go_storeR Tryz.tbs_ok 1 (j) 1 ({ n:=(C.set j { n:=C[j].n,d:=C[j].d,s:=C[j].s+max 0 (min K[j] ((↑C[j].d.size:Int)-C[j].s)):Fl })[j].n,d:=(C.set j { n:=C[j].n,d:=C[j].d,s:=C[j].s+max 0 (min K[j] ((↑C[j].d.size:Int)-C[j].s)):Fl })[j].d.extract 0 (C.set j { n:=C[j].n,d:=C[j].d,s:=C[j].s+max 0 (min K[j] ((↑C[j].d.size:Int)-C[j].s)):Fl })[j].s.toNat,s:=(C.set j { n:=C[j].n,d:=C[j].d,s:=C[j].s+max 0 (min K[j] ((↑C[j].d.size:Int)-C[j].s)):Fl })[j].s:Fl }) rfl rfl rfl rfl rfl (by omega) (fun _=>rfl) (ones_of rfl) (by omega) l53 rfl (by decide) (ones_of rfl) rfl ?_)
   refine aG (aK ?_)
   refine wN (j+1) ?_
   rotate_left
   refine aG ?_
   refine ev_stop (go_draw Tryz.tbs_ok false [1] [(0,true),(1,true),(2,true),(3,true),(4,true),(5,true),(6,true),(7,true),(8,true),(9,true),(10,true),(11,true),(12,false)] rfl ?_)
   refine aG (aE ?_)
   have l54:j<(C).length:=(by omega)
   refine ev_stop (tk_loadE Tryz.tbs_ok (.inr 0) (j) 1 aB rfl rfl rfl rfl rfl (fun _ h=>Row.rd h) (by omega) (fun _=>rfl) (by omega) l54 (by decide) ?_)
   refine aG (aE ?_)
   have l55:j<(C).length:=(by omega)
   refine ev_stop (tk_loadE Tryz.tbs_ok (.inr 0) (j) 2 aB rfl rfl rfl rfl rfl (fun _ h=>Row.rd h) (by omega) (fun _=>rfl) (by omega) l55 (by decide) ?_)
   refine aG (aE ?_)
   refine ev_stop (go_slot 68 _ (.va (.int IntKind.i64 ((C[j].s.toNat:Nat):Int))) rfl rfl (congrArg (fun z=>Value.int IntKind.i64 z) (show C[j].s=((C[j].s.toNat:Nat):Int) by first | omega | (simp only [List.getElem_set_self];omega))) (fun _=>trivial) ?_)
   refine aG (aE ?_)
   refine ev_stop (tk_sliceS Tryz.tbs_ok (0) (C[j].s.toNat) aB rfl rfl rfl rfl rfl rfl ⟨_,rfl⟩ (by omega) (by omega) ?_)
   refine aG (aE ?_)
   have l56:j<(C).length:=(by omega)
   refine ev_stop (go_storeR Tryz.tbs_ok 1 (j) 1 ({ n:=C[j].n,d:=C[j].d.extract 0 C[j].s.toNat,s:=C[j].s:Fl }) rfl rfl rfl rfl rfl (by omega) (fun _=>rfl) (ones_of rfl) (by omega) l56 rfl (by decide) (ones_of rfl) rfl ?_)
   refine aG (aK ?_)
   refine wN (j+1) ?_
   rotate_left
   · simp only [List.getElem_set_self,List.set_set]
     rw [e1 (by omega)]
     refine ev_fin (round_next (j+1) (show j+1≤n from (by omega)) (show n-(j+1)<n-j from (by omega)) aS)
   rw [e2 (by omega)]
   refine ev_fin (round_next (j+1) (show j+1≤n from (by omega)) (show n-(j+1)<n-j from (by omega)) aS)
 obtain rfl:j=n:=by
  have:¬ (j:Int)<(n:Int):=hge
  omega
 have e:(crashF L K).take j++L.drop j=crashF L K:=by
  rw [List.take_of_length_le (by rw [crashF_len];omega),List.drop_of_length_le (by omega),List.append_nil]
 rw [e]
 refine aG ?_
 refine ev_fin (go Tryz.tbs_ok 1000 ?_)
 exact ev_fin ⟨trivial,_,rfl,(),rfl,by trivial,aF [0,1]⟩
theorem row_shrink {e sz n k c:Nat} {A:Option Addr} {α:Type} {enc:α→List Value} (hlen:∀ x,(enc x).length=sz) {L:List α} {h:Hp} (p:(Row e sz A n c (L.flatMap enc)).holds h) (hk:k≤n):(Row e sz A k c ((L.take k).flatMap enc)).holds h:=by
 obtain ⟨p1,p2,p3⟩:=p
 have hkn:k*sz≤n*sz:=Nat.mul_le_mul_right _ hk
 refine ⟨?_,fun v hv=>p2 v ?_,?_⟩
 · rw [←flat_take hlen,List.length_take];omega
 · rw [←flat_take hlen] at hv;exact List.mem_of_mem_take hv
 rcases p3 with ⟨h1,h2,h3⟩ | ⟨g,cur,h1,h2,h3,h4,h5,h6⟩
 · exact .inl ⟨h1,by omega,h3⟩
 exact .inr ⟨g,cur,h1,h2,by omega,h4,h5,by rw [←flat_take hlen,←h6,List.take_take,Nat.min_eq_left hkn]⟩
theorem drop_eq {L:List Fl} {n at_:Nat} (hn:n=L.length) (h:at_<n) {k:Nat} (hk:k=n-(at_+1)):((L.take at_++(((L.take (at_+1+k)).drop (at_+1)).take k)++L.drop (at_+k)).take (n-1))=L.eraseIdx at_:=by
 subst hk
 have h1:at_+1+(n-(at_+1))=L.length:=by omega
 have hl:(L.take at_).length=at_:=by rw [List.length_take];omega
 have h2:(L.drop (at_+1)).take (n-(at_+1))=L.drop (at_+1):=List.take_of_length_le (by rw [List.length_drop];omega)
 rw [h1,List.take_length,h2,List.take_append_of_le_length (by rw [List.length_append,hl,List.length_drop];omega),List.take_of_length_le (by rw [List.length_append,hl,List.length_drop];omega),List.eraseIdx_eq_take_drop_succ]
theorem dropT (p:Nat) (m s:Int) (dn:Bool) (A:Option Addr) (n c:Nat) (fv:Value) (B:Option Addr) (k d:Nat) (L:List Fl) (hn:n=L.length) (h1:n≤1000) (i:Nat) (hi:i<n):Triple Tryz.prog 199 [pP p,.int .i64 (i:Nat)] [Pt p 184 [.int .i64 m,.int .i64 s,.bool dn,.slice A n c,fv,.slice B k d],Row 187 3 A n c (L.flatMap encF)] [] (Unit) (fun _=>.tuple #[]) (fun _=>True) (fun _=>[Pt p 184 [.int .i64 m,.int .i64 s,.bool dn,.slice A (n-1) c,fv,.slice B k d],Row 187 3 A (n-1) c ((L.eraseIdx i).flatMap encF)]):=by
 refine aT Tryz.func199 [.pt 0 p 0,vI (i:Nat)] [.box p 184 [vI m,vI s,.va (.bool dn),vL A n c,.va fv,vL B k d],.fact (Row 187 3 A n c (L.flatMap encF))] (fun E=>?_) ⟨rfl,trivial,trivial⟩
 refine go_know (.inr 1) (Row 187 3 A n c (L.flatMap encF)) rfl (p:=n≤c) (fun _ p=>Row.cap p) fun hc=>?_
 refine go_know (.inr 1) (Row 187 3 A n c (L.flatMap encF)) rfl (p:=∃ g,A=some ⟨g,0,none⟩) (fun h p=>Row.at0 h p (by omega)) ?_
 rintro ⟨g,rfl⟩
 refine aG ?_
 refine ev_stop (go_draw Tryz.tbs_ok false [0] [(0,true),(1,true),(2,true),(3,true),(4,true),(5,true),(6,true),(7,true),(8,true),(9,true),(10,true),(11,true),(12,true),(13,false)] rfl ?_)
 refine aG (aE ?_)
 refine ev_stop (tk_back Tryz.tbs_ok (i) (n) (c) aB rfl rfl rfl rfl rfl rfl ⟨_,rfl⟩ rfl rfl (by decide) (by omega) (by omega) (by omega) ?_)
 refine aG (aE ?_)
 refine wN (i+1) ?_
 refine ev_stop (tk_back Tryz.tbs_ok (i+1) (n) (c) aB rfl rfl rfl rfl rfl rfl ⟨_,rfl⟩ rfl rfl (by decide) (by omega) (by omega) (by omega) ?_)
 refine aG (aE ?_)
 refine ev_stop (go_copyE (sz:=3) (enc:=encF) Tryz.tbs_ok 1 (i) (n-(i+1)) (.inr 1) (L) ((((L).take ((i+1)+(n-(i+1)))).drop (i+1))) ((L).take (i)++((((L).take ((i+1)+(n-(i+1)))).drop (i+1))).take (n-(i+1))++(L).drop ((i)+(n-(i+1)))) rfl rfl rfl rfl rfl rfl rfl (by decide) rfl (backA_at (by omega)) rfl (fun _ h=>rd_part (lo:=i+1) (m:=n-(i+1)) (fun _=>rfl) (Row.rd h) (by omega) (by omega)) (fun _=>rfl) (by first | rfl | (show _=min _ _;omega)) (by omega) rfl ?_)
 refine aG (aK ?_)
 refine ev_stop (go_draw Tryz.tbs_ok false [0] [(0,true),(1,true),(2,true),(3,true),(4,true),(5,true),(6,true),(7,true),(8,true),(9,true),(10,true),(11,true),(12,true),(13,true),(14,false)] rfl ?_)
 refine aG (aE ?_)
 refine wO (n-1) ?_
 refine ev_stop (tk_front Tryz.tbs_ok (n-1) (c) aB rfl rfl rfl rfl rfl rfl rfl ⟨_,rfl⟩ rfl (by decide) (by omega) (by omega) ?_)
 refine aG (aE (aK ?_))
 refine ev_fin ⟨trivial,_,rfl,(),rfl,trivial,Frm.imp (M:=[Pt p 184 [.int .i64 m,.int .i64 s,.bool dn,.slice (some ⟨g,0,none⟩) (n-1) c,fv,.slice B k d],Row 187 3 (some ⟨g,0,none⟩) n c ((L.take i++(((L.take (i+1+(n-(i+1)))).drop (i+1)).take (n-(i+1)))++L.drop (i+(n-(i+1)))).flatMap encF)]) [0,1] rfl (by decide) (fun h q=>?_)⟩
 obtain ⟨h1',h2',d1,a,b,p1,q⟩:=q
 refine ⟨h1',h2',d1,a,b,p1,starH_one.2 ?_⟩
 rw [←drop_eq hn hi rfl]
 exact row_shrink (enc:=encF) (sz:=3) (fun _=>rfl) (starH_one.1 q) (by omega)
theorem syncDo (p:Nat) (m s:Int) (dn:Bool) (A:Option Addr) (n c:Nat) (fv:Value) (B:Option Addr) (k d:Nat) (L:List Fl) (hn:n=L.length) (_h1:n≤1000) (bd ba i:Nat) (hi:i<L.length):Triple Tryz.prog 224 [pP bd,pP ba] [Pt p 184 [.int .i64 m,.int .i64 s,.bool dn,.slice A n c,fv,.slice B k d],Row 187 3 A n c (L.flatMap encF),Pt bd 57 [pP p],Pt ba 3 [.int .i64 (i:Nat)]] [] (Unit) (fun _=>.tuple #[]) (fun _=>True) (fun _=>[Pt p 184 [.int .i64 m,.int .i64 s,.bool dn,.slice A n c,fv,.slice B k d],Row 187 3 A n c ((L.set i ⟨(L[i]'hi).n,(L[i]'hi).d,((L[i]'hi).d.size:Nat)⟩).flatMap encF),Pt bd 57 [pP p],Pt ba 3 [.int .i64 (i:Nat)]]):=by
 refine triple_intro Tryz.tbs_ok Tryz.func224 rfl [.pt 2 bd 0,.pt 3 ba 0] [.box p 184 [vI m,vI s,.va (.bool dn),vL A n c,.va fv,vL B k d],.fact (Row 187 3 A n c (L.flatMap encF)),.box bd 57 [.pt 0 p 0],.box ba 3 [vI (i:Nat)]] ⟨rfl,rfl,trivial⟩ rfl (by simp [SV.good,SV.goodL]<;>rfl) ?_
 intro E
 refine aG ?_
 refine ev_stop (go_draw Tryz.tbs_ok false [0,1,2,3] [(0,true),(1,true),(2,true),(3,true),(4,true),(5,true),(6,true),(7,true),(8,true),(9,true),(10,true),(11,true),(12,true),(13,true),(14,true),(15,true),(16,false)] rfl ?_)
 refine aG (aE ?_)
 refine ev_stop (tk_index0 (sz:=3) Tryz.tbs_ok (.inr 1) (i) aB rfl rfl rfl rfl rfl rfl rfl (by omega) rfl Row.at0 (fun g0 e1=>?_))
 subst e1
 refine aG (aE ?_)
 have l2:i<(L).length:=(by omega)
 refine ev_stop (tk_loadE Tryz.tbs_ok (.inr 1) (i) 1 aB rfl rfl rfl rfl rfl (fun _ h=>Row.rd h) (by omega) (fun _=>rfl) (by omega) l2 (by decide) ?_)
 refine aG (aE ?_)
 refine ev_stop (tk_atE (sz:=3) Tryz.tbs_ok (i) aB rfl rfl rfl rfl rfl rfl rfl (by omega) ?_)
 refine aG (aE ?_)
 have l3:i<(L).length:=(by omega)
 refine ev_stop (go_storeR Tryz.tbs_ok 1 (i) 2 ({ n:=L[i].n,d:=L[i].d,s:=(↑L[i].d.size:Int):Fl }) rfl rfl rfl rfl rfl (by omega) (fun _=>rfl) (ones_of rfl) (by omega) l3 rfl (by decide) (ones_of rfl) rfl ?_)
 refine aG (aK ?_)
 exact ev_fin ⟨trivial,_,rfl,(),rfl,by trivial,aF [0,1,2,3]⟩
theorem truncDo (n c g:Nat) (L:List Fl) (hn:n=L.length) (_h1:n≤1000) (bf bn i:Nat) (q:Int) (hi:i<L.length) (hq:0≤q) (hq2:q≤(L[i]'hi).d.size):Triple Tryz.prog 256 [pP bf,pP bn] [Row 187 3 (some ⟨g,0,none⟩) n c ((L).flatMap encF),Pt bf 185 [.pointer (some ⟨g,0+i*3,none⟩)],Pt bn 3 [.int .i64 q]] [] (Unit) (fun _=>.tuple #[]) (fun _=>True) (fun _=>[Row 187 3 (some ⟨g,0,none⟩) n c ((L.set i ⟨(L[i]'hi).n,(L[i]'hi).d.extract 0 q.toNat,min (L[i]'hi).s q⟩).flatMap encF),Pt bf 185 [.pointer (some ⟨g,0+i*3,none⟩)],Pt bn 3 [.int .i64 q]]):=by
 refine aT Tryz.func256 [.pt 1 bf 0,.pt 2 bn 0] [.fact (Row 187 3 (some ⟨g,0,none⟩) n c ((L).flatMap encF)),.box bf 185 [.va (.pointer (some ⟨g,0+i*3,none⟩))],.box bn 3 [vI q]] (fun E=>?_) ⟨rfl,rfl,trivial⟩
 refine aG ?_
 refine ev_stop (go_draw Tryz.tbs_ok false [1,2] [(0,true),(1,true),(2,true),(3,true),(4,true),(6,true),(8,true),(9,true),(10,true),(12,true),(99,false),(0,true),(0,true),(0,true),(0,true),(0,true),(0,true),(0,true),(0,true),(0,true)] rfl ?_)
 refine aG (aE ?_)
 refine ev_stop (go_fork 5 11 [(7,true),(11,false),(13,true),(14,false),(15,false),(16,false),(17,false),(18,false),(19,false)] [(13,true),(5,false),(7,false),(14,false),(15,false),(16,false),(17,false),(18,false),(19,false)] _ _ ⟨aL,rfl⟩ (by kernel_rfl) rfl rfl rfl rfl ?_ ?_)
 refine aG ?_
 have l0:i<(L).length:=(by omega)
 refine ev_stop (go_loadE Tryz.tbs_ok (.inr 0) (i) 1 rfl rfl rfl rfl (fun _ h=>Row.rd h) (by omega) (fun _=>rfl) (by omega) l0 (by decide) ?_)
 refine aG (aE ?_)
 refine ev_stop (go_slot 8 _ (.va (.int IntKind.i64 ((q.toNat:Nat):Int))) rfl rfl (congrArg (fun z=>Value.int IntKind.i64 z) (show q=((q.toNat:Nat):Int) by first | omega | (simp only [List.getElem_set_self];omega))) (fun _=>trivial) ?_)
 refine aG (aE ?_)
 refine ev_stop (tk_sliceS Tryz.tbs_ok (0) (q.toNat) aB rfl rfl rfl rfl rfl rfl ⟨_,rfl⟩ (by omega) (by omega) ?_)
 refine aG (aE ?_)
 have l1:i<(L).length:=(by omega)
 refine ev_stop (go_loadE Tryz.tbs_ok (.inr 0) (i) 2 rfl rfl rfl rfl (fun _ h=>Row.rd h) (by omega) (fun _=>rfl) (by omega) l1 (by decide) ?_)
 refine aG (aE (aE (aE ?_)))
 have l2:i<(L).length:=(by omega)
 refine ev_stop (go_storeR Tryz.tbs_ok 0 (i) 1 ({ n:=L[i].n,d:=L[i].d.extract 0 q.toNat,s:=L[i].s:Fl }) rfl rfl rfl rfl rfl (by omega) (fun _=>rfl) (ones_of rfl) (by omega) l2 rfl (by decide) (ones_of rfl) rfl ?_)
 refine aG (aE (aE (aE ?_)))
 have l3:i<(L.set i { n:=L[i].n,d:=L[i].d.extract 0 q.toNat,s:=L[i].s:Fl }).length:=(by (simp only [List.length_set];omega))
 refine ev_stop (go_storeR Tryz.tbs_ok 0 (i) 2 ({ n:=(L.set i { n:=L[i].n,d:=L[i].d.extract 0 q.toNat,s:=L[i].s:Fl })[i].n,d:=(L.set i { n:=L[i].n,d:=L[i].d.extract 0 q.toNat,s:=L[i].s:Fl })[i].d,s:=min L[i].s q:Fl }) rfl rfl rfl rfl rfl (by omega) (fun _=>rfl) (ones_of rfl) (by omega) l3 rfl (by decide) (ones_of rfl) rfl ?_)
 refine aG (aK ?_)
 rotate_left
 refine aG ?_
 have l4:i<(L).length:=(by omega)
 refine ev_stop (go_loadE Tryz.tbs_ok (.inr 0) (i) 2 rfl rfl rfl rfl (fun _ h=>Row.rd h) (by omega) (fun _=>rfl) (by omega) l4 (by decide) ?_)
 refine aG (aE ?_)
 have l5:i<(L).length:=(by omega)
 refine ev_stop (go_loadE Tryz.tbs_ok (.inr 0) (i) 1 rfl rfl rfl rfl (fun _ h=>Row.rd h) (by omega) (fun _=>rfl) (by omega) l5 (by decide) ?_)
 refine aG (aE ?_)
 refine ev_stop (go_slot 8 _ (.va (.int IntKind.i64 ((q.toNat:Nat):Int))) rfl rfl (congrArg (fun z=>Value.int IntKind.i64 z) (show q=((q.toNat:Nat):Int) by first | omega | (simp only [List.getElem_set_self];omega))) (fun _=>trivial) ?_)
 refine aG ?_
 refine ev_stop (go_sliceS Tryz.tbs_ok (0) (q.toNat) rfl rfl rfl rfl rfl ⟨_,rfl⟩ (by omega) (by omega) ?_)
 refine aG (aE (aE (aE ?_)))
 have l6:i<(L).length:=(by omega)
 refine ev_stop (go_storeR Tryz.tbs_ok 0 (i) 1 ({ n:=L[i].n,d:=L[i].d.extract 0 q.toNat,s:=L[i].s:Fl }) rfl rfl rfl rfl rfl (by omega) (fun _=>rfl) (ones_of rfl) (by omega) l6 rfl (by decide) (ones_of rfl) rfl ?_)
 refine aG (aE (aE (aE ?_)))
 have l7:i<(L.set i { n:=L[i].n,d:=L[i].d.extract 0 q.toNat,s:=L[i].s:Fl }).length:=(by (simp only [List.length_set];omega))
 refine ev_stop (go_storeR Tryz.tbs_ok 0 (i) 2 ({ n:=(L.set i { n:=L[i].n,d:=L[i].d.extract 0 q.toNat,s:=L[i].s:Fl })[i].n,d:=(L.set i { n:=L[i].n,d:=L[i].d.extract 0 q.toNat,s:=L[i].s:Fl })[i].d,s:=min L[i].s q:Fl }) rfl rfl rfl rfl rfl (by omega) (fun _=>rfl) (ones_of rfl) (by omega) l7 rfl (by decide) (ones_of rfl) rfl ?_)
 refine aG (aK ?_)
 rotate_left
 · simp only [List.getElem_set_self,List.set_set]
   exact ev_fin ⟨trivial,_,rfl,(),rfl,by trivial,aF [0,1,2]⟩
 simp only [List.getElem_set_self,List.set_set]
 exact ev_fin ⟨trivial,_,rfl,(),rfl,by trivial,aF [0,1,2]⟩
theorem removeDo (p:Nat) (m s:Int) (dn:Bool) (A:Option Addr) (n c:Nat) (fv:Value) (B:Option Addr) (k d:Nat) (L:List Fl) (hn:n=L.length) (h1:n≤1000) (bd ba i:Nat) (hi:i<n):Triple Tryz.prog 251 [pP bd,pP ba] [Pt p 184 [.int .i64 m,.int .i64 s,.bool dn,.slice A n c,fv,.slice B k d],Row 187 3 A n c (L.flatMap encF),Pt bd 57 [pP p],Pt ba 3 [.int .i64 (i:Nat)]] [] (Unit) (fun _=>.tuple #[]) (fun _=>True) (fun _=>[Pt p 184 [.int .i64 m,.int .i64 s,.bool dn,.slice A (n-1) c,fv,.slice B k d],Row 187 3 A (n-1) c ((L.eraseIdx i).flatMap encF),Pt bd 57 [pP p],Pt ba 3 [.int .i64 (i:Nat)]]):=by
 have T1:=dropT p m s dn A n c fv B k d L hn h1 i hi
 refine triple_intro Tryz.tbs_ok Tryz.func251 rfl [.pt 2 bd 0,.pt 3 ba 0] [.box p 184 [vI m,vI s,.va (.bool dn),vL A n c,.va fv,vL B k d],.fact (Row 187 3 A n c (L.flatMap encF)),.box bd 57 [.pt 0 p 0],.box ba 3 [vI (i:Nat)]] ⟨rfl,rfl,trivial⟩ rfl (by simp [SV.good,SV.goodL]<;>rfl) ?_
 intro E
 refine aG ?_
 refine aD T1 [0,1] [] (fun v0_=>[.box (p) 184 [vI m,vI s,.bq (dn),vL A (n-1) c,.va (fv),vL B k d],.fact (Row 187 3 A (n-1) c (List.flatMap encF (L.eraseIdx i)))]) fun _ h0=>?_
 exact ev_fin ⟨trivial,_,rfl,(),rfl,by trivial,aF [0,1,2,3]⟩
theorem appendDoT (p:Nat) (m s:Int) (dn:Bool) (A:Option Addr) (n c:Nat) (fv:Value) (B:Option Addr) (k d:Nat) (L:List Fl) (hn:n=L.length) (_h1:n≤1000) (bk bd ba bx bs i:Nat) (x y:ByteArray) (hi:i<L.length) (hy:(L[i]'hi).d.size+y.size≤1000000000):Triple Tryz.prog 241 [pP bk,pP bd,pP ba,pP bx,pP bs] [Pt p 184 [.int .i64 m,.int .i64 s,.bool dn,.slice A n c,fv,.slice B k d],Row 187 3 A n c (L.flatMap encF),Pt bk 4 [.bool true],Pt bd 57 [pP p],Pt ba 3 [.int .i64 (i:Nat)],Pt bx 9 [.string x],Pt bs 9 [.string y]] [] (Unit) (fun _=>.tuple #[]) (fun _=>True) (fun _=>[Pt p 184 [.int .i64 m,.int .i64 s,.bool dn,.slice A n c,fv,.slice B k d],Row 187 3 A n c ((L.set i ⟨(L[i]'hi).n,(L[i]'hi).d++y,(L[i]'hi).s⟩).flatMap encF),Pt bk 4 [.bool true],Pt bd 57 [pP p],Pt ba 3 [.int .i64 (i:Nat)],Pt bx 9 [.string x],Pt bs 9 [.string y]]):=by
 refine triple_intro Tryz.tbs_ok Tryz.func241 rfl [.pt 2 bk 0,.pt 3 bd 0,.pt 4 ba 0,.pt 5 bx 0,.pt 6 bs 0] [.box p 184 [vI m,vI s,.va (.bool dn),vL A n c,.va fv,vL B k d],.fact (Row 187 3 A n c (L.flatMap encF)),.box bk 4 [.va (.bool true)],.box bd 57 [.pt 0 p 0],.box ba 3 [vI (i:Nat)],.box bx 9 [.va (.string x)],.box bs 9 [.va (.string y)]] ⟨rfl,rfl,rfl,rfl,rfl,trivial⟩ rfl (by simp [SV.good,SV.goodL]<;>rfl) ?_
 intro E
 refine aG (aI ?_)
 refine ev_stop (go_draw Tryz.tbs_ok false [0,1,3,4,6] [(0,true),(1,true),(2,true),(3,true),(4,true),(5,true),(6,true),(7,true),(8,true),(9,true),(10,true),(11,true),(12,false)] rfl ?_)
 refine aG (aE ?_)
 refine ev_stop (tk_index0 (sz:=3) Tryz.tbs_ok (.inr 1) (i) aB rfl rfl rfl rfl rfl rfl rfl (by omega) rfl Row.at0 (fun g0 e1=>?_))
 subst e1
 refine aG (aE ?_)
 have l2:i<(L).length:=(by omega)
 refine ev_stop (tk_loadE Tryz.tbs_ok (.inr 1) (i) 1 aB rfl rfl rfl rfl rfl (fun _ h=>Row.rd h) (by omega) (fun _=>rfl) (by omega) l2 (by decide) ?_)
 refine aG (aE ?_)
 refine ev_stop (tk_bin (.va _) trivial aB rfl rfl rfl rfl rfl rfl (by decide) (by decide) (fun w=>cat_run (by omega) w) ?_)
 refine aG (aE ?_)
 refine ev_stop (tk_atE (sz:=3) Tryz.tbs_ok (i) aB rfl rfl rfl rfl rfl rfl rfl (by omega) ?_)
 refine aG (aE ?_)
 have l3:i<(L).length:=(by omega)
 refine ev_stop (go_storeR Tryz.tbs_ok 1 (i) 1 ({ n:=L[i].n,d:=L[i].d++y,s:=L[i].s:Fl }) rfl rfl rfl rfl rfl (by omega) (fun _=>rfl) (ones_of rfl) (by omega) l3 rfl (by decide) (ones_of rfl) rfl ?_)
 refine aG (aK ?_)
 exact ev_fin ⟨trivial,_,rfl,(),rfl,by trivial,aF [0,1,2,3,4,5,6]⟩
theorem appendDoF (p:Nat) (m s:Int) (dn:Bool) (A:Option Addr) (n c:Nat) (fv:Value) (B:Option Addr) (k d:Nat) (L:List Fl) (hn:n=L.length) (h1:n≤1000) (bk bd ba bx bs i:Nat) (x y:ByteArray) (hi:i≤n) (hy:y.size≤1000000000):Triple Tryz.prog 241 [pP bk,pP bd,pP ba,pP bx,pP bs] [Pt p 184 [.int .i64 m,.int .i64 s,.bool dn,.slice A n c,fv,.slice B k d],Row 187 3 A n c (L.flatMap encF),Pt bk 4 [.bool false],Pt bd 57 [pP p],Pt ba 3 [.int .i64 (i:Nat)],Pt bx 9 [.string x],Pt bs 9 [.string y]] [] (Option Addr × Nat) (fun _=>.tuple #[]) (fun _=>True) (fun (A2,c2)=>[Pt p 184 [.int .i64 m,.int .i64 s,.bool dn,.slice A2 (n+1) c2,fv,.slice B k d],Row 187 3 A2 (n+1) c2 ((L.take i++⟨x,y,0⟩::L.drop i).flatMap encF),Pt bk 4 [.bool false],Pt bd 57 [pP p],Pt ba 3 [.int .i64 (i:Nat)],Pt bx 9 [.string x],Pt bs 9 [.string y]]):=by
 have T1:=fun vb=>insertF A L n c i vb ⟨x,ByteArray.empty,0⟩ hn h1 hi
 refine triple_intro Tryz.tbs_ok Tryz.func241 rfl [.pt 2 bk 0,.pt 3 bd 0,.pt 4 ba 0,.pt 5 bx 0,.pt 6 bs 0] [.box p 184 [vI m,vI s,.va (.bool dn),vL A n c,.va fv,vL B k d],.fact (Row 187 3 A n c (L.flatMap encF)),.box bk 4 [.va (.bool false)],.box bd 57 [.pt 0 p 0],.box ba 3 [vI (i:Nat)],.box bx 9 [.va (.string x)],.box bs 9 [.va (.string y)]] ⟨rfl,rfl,rfl,rfl,rfl,trivial⟩ rfl (by simp [SV.good,SV.goodL]<;>rfl) ?_
 intro E
 obtain ⟨J,hJ⟩:∃ J,J=L.take i++(⟨x,ByteArray.empty,0⟩:Fl)::L.drop i:=⟨_,rfl⟩
 have hl:(L.take i).length=i:=by rw [List.length_take];omega
 have hJl:J.length=n+1:=by
  rw [hJ,List.length_append,hl,List.length_cons,List.length_drop];omega
 have hJi:J[i]'(by omega)=⟨x,ByteArray.empty,0⟩:=by
  simp only [hJ]
  rw [List.getElem_append_right (by omega)]
  simp [hl]
 have hJz:(J[i]'(by omega)).d.size+y.size≤1000000000:=by
  rw [hJi]
  have:ByteArray.empty.size=0:=rfl
  simp only [this]
  omega
 have e1:J.set i ⟨(J[i]'(by omega)).n,(J[i]'(by omega)).d++y,(J[i]'(by omega)).s⟩=L.take i++⟨x,y,0⟩::L.drop i:=by
  rw [hJi,hJ,List.set_append_right _ _ (by omega),hl,Nat.sub_self,List.set_cons_zero]
  simp only [ByteArray.empty_append]
 simp only [←hJ] at T1
 refine aG (aJ ?_)
 refine ev_stop (go_draw Tryz.tbs_ok false [0,3,4,5] [(0,true),(1,true),(2,true),(3,true),(4,true),(5,true),(6,true),(7,true),(8,false),(9,false),(10,false),(11,false),(12,false)] rfl ?_)
 refine aG (aE ?_)
 refine ev_new fun b0=>?_
 refine aE ?_
 refine aC (T1 (b0)) [1,7] [] fun ⟨x1,x2⟩ h3=>?_
 refine aE (aE (aE (aK ?_)))
 refine ev_stop (go_draw Tryz.tbs_ok false [0,1,3,4,6] [(0,true),(1,true),(2,true),(3,true),(4,true),(5,true),(6,true),(7,true),(8,true),(9,true),(10,true),(11,true),(12,false)] rfl ?_)
 refine aG (aE ?_)
 refine ev_stop (tk_index0 (sz:=3) Tryz.tbs_ok (.inr 1) (i) aB rfl rfl rfl rfl rfl rfl rfl (by omega) rfl Row.at0 (fun g4 e5=>?_))
 subst e5
 refine aG (aE ?_)
 have l6:i<(J).length:=(by omega)
 refine ev_stop (tk_loadE Tryz.tbs_ok (.inr 1) (i) 1 aB rfl rfl rfl rfl rfl (fun _ h=>Row.rd h) (by omega) (fun _=>rfl) (by omega) l6 (by decide) ?_)
 refine aG (aE ?_)
 refine ev_stop (tk_bin (.va _) trivial aB rfl rfl rfl rfl rfl rfl (by decide) (by decide) (fun w=>cat_run (by omega) w) ?_)
 refine aG (aE ?_)
 refine ev_stop (tk_atE (sz:=3) Tryz.tbs_ok (i) aB rfl rfl rfl rfl rfl rfl rfl (by omega) ?_)
 refine aG (aE ?_)
 have l7:i<(J).length:=(by omega)
 refine ev_stop (go_storeR Tryz.tbs_ok 1 (i) 1 ({ n:=J[i].n,d:=J[i].d++y,s:=J[i].s:Fl }) rfl rfl rfl rfl rfl (by omega) (fun _=>rfl) (ones_of rfl) (by omega) l7 rfl (by decide) (ones_of rfl) rfl ?_)
 refine aG (aK ?_)
 rw [e1]
 exact ev_fin ⟨trivial,_,rfl,((some { block:=g4,off:=0:Addr },x2)),rfl,by trivial,aF [0,1,2,3,4,5,6]⟩
theorem has_pos {L:List Fl} (hs:riseF L) {x:ByteArray} (h:hasF L x=true):∃ h:posF L x<L.length,(L[posF L x]'h).n=x:=by
 unfold hasF at h
 rw [List.any_eq_true] at h
 obtain ⟨y,hy,e⟩:=h
 have e:=of_decide_eq_true e
 obtain ⟨k,hk,rfl⟩:=List.getElem_of_mem hy
 have h1:∀ y∈L.take k,ltS y.n x:=fun y hy=>by
  obtain ⟨j,hj,rfl⟩:=List.getElem_of_mem hy
  rw [List.length_take] at hj
  rw [List.getElem_take,←e]
  exact List.pairwise_iff_getElem.1 hs j k (by omega) hk (by omega)
 have h2:∀ y∈L.drop k,¬ ltS y.n x:=fun y hy=>by
  obtain ⟨j,hj,rfl⟩:=List.getElem_of_mem hy
  rw [List.length_drop] at hj
  rw [List.getElem_drop,←e]
  rcases Nat.eq_zero_or_pos j with h0 | h0
  · subst h0;exact ltS.irrefl _
  exact (List.pairwise_iff_getElem.1 hs k (k+j) hk (by omega) (by omega)).asymm
 have:posF L x=k:=posF_of (by omega) h1 h2
 simp only [this]
 exact ⟨hk,e⟩
theorem renameDoT (p:Nat) (m s:Int) (dn:Bool) (A:Option Addr) (n c:Nat) (fv:Value) (B:Option Addr) (k d:Nat) (L:List Fl) (hn:n=L.length) (h1:n≤1000) (hs:riseF L) (bd ba bt i:Nat) (x:ByteArray) (hi:i<L.length) (hh:hasF (L.eraseIdx i) x=true):Triple Tryz.prog 198 [pP bd,pP ba,pP bt] [Pt p 184 [.int .i64 m,.int .i64 s,.bool dn,.slice A n c,fv,.slice B k d],Row 187 3 A n c (L.flatMap encF),Pt bd 57 [pP p],Pt ba 3 [.int .i64 (i:Nat)],Pt bt 9 [.string x]] [] (Unit) (fun _=>.tuple #[]) (fun _=>True) (fun _=>[Pt p 184 [.int .i64 m,.int .i64 s,.bool dn,.slice A (n-1) c,fv,.slice B k d],Row 187 3 A (n-1) c (((L.eraseIdx i).set (posF (L.eraseIdx i) x) ⟨x,(L[i]'hi).d,(L[i]'hi).s⟩).flatMap encF),Pt bd 57 [pP p],Pt ba 3 [.int .i64 (i:Nat)],Pt bt 9 [.string x]]):=by
 have T1:=dropT p m s dn A n c fv B k d L hn h1 i (by omega)
 have hl:(L.eraseIdx i).length=n-1:=by rw [List.length_eraseIdx_of_lt hi];omega
 have hsM:riseF (L.eraseIdx i):=List.Pairwise.sublist (List.eraseIdx_sublist _ _) hs
 have T2:=findT p m s dn A (n-1) c fv B k d (L.eraseIdx i) x hl.symm (by omega) hsM
 rw [hh] at T2
 obtain ⟨hp,_⟩:=has_pos hsM hh
 refine triple_intro Tryz.tbs_ok Tryz.func198 rfl [.pt 2 bd 0,.pt 3 ba 0,.pt 4 bt 0] [.box p 184 [vI m,vI s,.va (.bool dn),vL A n c,.va fv,vL B k d],.fact (Row 187 3 A n c (L.flatMap encF)),.box bd 57 [.pt 0 p 0],.box ba 3 [vI (i:Nat)],.box bt 9 [.va (.string x)]] ⟨rfl,rfl,rfl,trivial⟩ rfl (by simp [SV.good,SV.goodL]<;>rfl) ?_
 intro E
 refine aG ?_
 refine ev_stop (go_draw Tryz.tbs_ok false [0,1,2,3] [(0,true),(1,true),(2,true),(3,true),(4,true),(5,true),(6,true),(7,false),(8,false)] rfl ?_)
 refine aG (aE ?_)
 refine ev_stop (tk_index0 (sz:=3) Tryz.tbs_ok (.inr 1) (i) aB rfl rfl rfl rfl rfl rfl rfl (by omega) rfl Row.at0 (fun g0 e1=>?_))
 subst e1
 refine aG (aE ?_)
 have l2:i<(L).length:=(by omega)
 refine ev_stop (tk_loadE Tryz.tbs_ok (.inr 1) (i) 0 aB rfl rfl rfl rfl rfl (fun _ h=>Row.rd h) (by omega) (fun _=>rfl) (by omega) l2 (by decide) ?_)
 refine aG (aE ?_)
 refine ev_new fun b3=>?_
 refine aE (aK ?_)
 refine aD T1 [0,1] [] (fun v0_=>[.box (p) 184 [vI m,vI s,.bq (dn),vL (some { block:=g0,off:=0:Addr }) (n-1) c,.va (fv),vL B k d],.fact (Row 187 3 (some { block:=g0,off:=0:Addr }) (n-1) c (List.flatMap encF (L.eraseIdx i)))]) fun _ h4=>?_
 refine aD T2 [0,1] [] (fun v0_=>[.box (p) 184 [vI m,vI s,.bq (dn),vL (some { block:=g0,off:=0:Addr }) (n-1) c,.va (fv),vL B k d],.fact (Row 187 3 (some { block:=g0,off:=0:Addr }) (n-1) c (List.flatMap encF (L.eraseIdx i)))]) fun _ h5=>?_
 refine aJ ?_
 refine ev_stop (go_draw Tryz.tbs_ok false [0,2,5] [(0,true),(1,true),(2,true),(3,true),(4,true),(5,true),(6,true),(7,false)] rfl ?_)
 refine aG (aE ?_)
 refine ev_stop (tk_atE (sz:=3) Tryz.tbs_ok (posF (L.eraseIdx i) x) aB rfl rfl rfl rfl rfl rfl rfl (by omega) ?_)
 refine aG (aE ?_)
 have l6:posF (L.eraseIdx i) x<(L.eraseIdx i).length:=(by omega)
 refine ev_stop (go_storeR Tryz.tbs_ok 1 (posF (L.eraseIdx i) x) 0 ({ n:=x,d:=L[i].d,s:=L[i].s:Fl }) rfl rfl rfl rfl rfl (by omega) (fun _=>rfl) (ones_of rfl) (by omega) l6 rfl (by decide) (ones_of rfl) rfl ?_)
 refine aG (aK ?_)
 exact ev_fin ⟨trivial,_,rfl,(),rfl,by trivial,aF [0,1,2,3,4]⟩
theorem renameDoF (p:Nat) (m s:Int) (dn:Bool) (A:Option Addr) (n c:Nat) (fv:Value) (B:Option Addr) (k d:Nat) (L:List Fl) (hn:n=L.length) (h1:n≤1000) (hs:riseF L) (bd ba bt i:Nat) (x:ByteArray) (hi:i<L.length) (hh:hasF (L.eraseIdx i) x=false):Triple Tryz.prog 198 [pP bd,pP ba,pP bt] [Pt p 184 [.int .i64 m,.int .i64 s,.bool dn,.slice A n c,fv,.slice B k d],Row 187 3 A n c (L.flatMap encF),Pt bd 57 [pP p],Pt ba 3 [.int .i64 (i:Nat)],Pt bt 9 [.string x]] [] (Option Addr × Nat) (fun _=>.tuple #[]) (fun _=>True) (fun (A2,c2)=>[Pt p 184 [.int .i64 m,.int .i64 s,.bool dn,.slice A2 (n-1+1) c2,fv,.slice B k d],Row 187 3 A2 (n-1+1) c2 (((L.eraseIdx i).take (posF (L.eraseIdx i) x)++⟨x,(L[i]'hi).d,(L[i]'hi).s⟩::(L.eraseIdx i).drop (posF (L.eraseIdx i) x)).flatMap encF),Pt bd 57 [pP p],Pt ba 3 [.int .i64 (i:Nat)],Pt bt 9 [.string x]]):=by
 have T1:=dropT p m s dn A n c fv B k d L hn h1 i (by omega)
 have hl:(L.eraseIdx i).length=n-1:=by rw [List.length_eraseIdx_of_lt hi];omega
 have hsM:riseF (L.eraseIdx i):=List.Pairwise.sublist (List.eraseIdx_sublist _ _) hs
 have T2:=findT p m s dn A (n-1) c fv B k d (L.eraseIdx i) x hl.symm (by omega) hsM
 rw [hh] at T2
 have hp:=posF_le (L.eraseIdx i) x
 have T3:=fun vb=>insertF A (L.eraseIdx i) (n-1) c (posF (L.eraseIdx i) x) vb ⟨x,L[i].d,L[i].s⟩ hl.symm (by omega) (by omega)
 refine triple_intro Tryz.tbs_ok Tryz.func198 rfl [.pt 2 bd 0,.pt 3 ba 0,.pt 4 bt 0] [.box p 184 [vI m,vI s,.va (.bool dn),vL A n c,.va fv,vL B k d],.fact (Row 187 3 A n c (L.flatMap encF)),.box bd 57 [.pt 0 p 0],.box ba 3 [vI (i:Nat)],.box bt 9 [.va (.string x)]] ⟨rfl,rfl,rfl,trivial⟩ rfl (by simp [SV.good,SV.goodL]<;>rfl) ?_
 intro E
 refine aG ?_
 refine ev_stop (go_draw Tryz.tbs_ok false [0,1,2,3] [(0,true),(1,true),(2,true),(3,true),(4,true),(5,true),(6,true),(7,false),(8,false)] rfl ?_)
 refine aG (aE ?_)
 refine ev_stop (tk_index0 (sz:=3) Tryz.tbs_ok (.inr 1) (i) aB rfl rfl rfl rfl rfl rfl rfl (by omega) rfl Row.at0 (fun g0 e1=>?_))
 subst e1
 refine aG (aE ?_)
 have l2:i<(L).length:=(by omega)
 refine ev_stop (tk_loadE Tryz.tbs_ok (.inr 1) (i) 0 aB rfl rfl rfl rfl rfl (fun _ h=>Row.rd h) (by omega) (fun _=>rfl) (by omega) l2 (by decide) ?_)
 refine aG (aE ?_)
 refine ev_new fun b3=>?_
 refine aE (aK ?_)
 refine aD T1 [0,1] [] (fun v0_=>[.box (p) 184 [vI m,vI s,.bq (dn),vL (some { block:=g0,off:=0:Addr }) (n-1) c,.va (fv),vL B k d],.fact (Row 187 3 (some { block:=g0,off:=0:Addr }) (n-1) c (List.flatMap encF (L.eraseIdx i)))]) fun _ h4=>?_
 refine aD T2 [0,1] [] (fun v0_=>[.box (p) 184 [vI m,vI s,.bq (dn),vL (some { block:=g0,off:=0:Addr }) (n-1) c,.va (fv),vL B k d],.fact (Row 187 3 (some { block:=g0,off:=0:Addr }) (n-1) c (List.flatMap encF (L.eraseIdx i)))]) fun _ h5=>?_
 refine aI ?_
 refine ev_stop (go_draw Tryz.tbs_ok false [0,2,5] [(0,true),(1,true),(2,true),(3,true),(4,true),(5,true),(6,true),(7,false),(8,false),(9,false),(10,false),(11,false)] rfl ?_)
 refine aG (aE ?_)
 refine ev_new fun b6=>?_
 refine aE ?_
 refine aC (T3 (b6)) [1,6] [] fun ⟨x7,x8⟩ h9=>?_
 refine aE (aE (aE (aK ?_)))
 exact ev_fin ⟨trivial,_,rfl,((x7,x8)),rfl,by trivial,aF [0,1,2,3,4]⟩
theorem syncN (p:Nat) (m s:Int) (A:Option Addr) (n c:Nat) (B:Option Addr) (k d:Nat) (L:List Fl) (hn:n=L.length) (h1:n≤1000) (x:ByteArray) (hh:hasF L x=true) (hi':posF L x<L.length) (_hF:okF L) (hm:0<m) (hs:riseF L):Triple Tryz.prog 160 [pP p,.string x] [Pt p 184 [.int .i64 m,.int .i64 s,.bool false,.slice A n c,.nilFunc,.slice B k d],Row 187 3 A n c (L.flatMap encF)] [] (Unit) (fun _=>.int .i64 0) (fun _=>True) (fun _=>[Pt p 184 [.int .i64 m,.int .i64 s,.bool false,.slice A n c,.nilFunc,.slice B k d],Row 187 3 A n c ((L.set (posF L x) ⟨(L[posF L x]'hi').n,(L[posF L x]'hi').d,((L[posF L x]'hi').d.size:Nat)⟩).flatMap encF)]):=by
 have T1:=askP p m s false A n c (.nilFunc) B k d hm
 have T2:=findT p m s false A n c (.nilFunc) B k d L x hn h1 hs
 have hi:posF L x<L.length:=(has_pos hs hh).1
 rw [hh] at T2
 have TD:=fun bd ba=>syncDo p m s false A n c (.nilFunc) B k d L hn h1 bd ba (posF L x) hi
 refine aT Tryz.func160 [.pt 0 p 0,.va (.string x)] [.box p 184 [vI m,vI s,.va (.bool false),vL A n c,.va (.nilFunc),vL B k d],.fact (Row 187 3 A n c (L.flatMap encF))] (fun E=>?_) ⟨rfl,trivial,trivial⟩
 refine aG ?_
 refine ev_new fun b0=>?_
 refine ev_inline Tryz.tbs_ok Tryz.func194 rfl rfl ?_
 refine aG ?_
 refine aD T1 [0] [] (fun v0_=>[.box (p) 184 [vI m,vI s,.bl false,vL A n c,.va (Value.nilFunc),vL B k d]]) fun _ h1=>?_
 refine aI ?_
 refine aD T2 [0,1] [] (fun v0_=>[.box (p) 184 [vI m,vI s,.bl false,vL A n c,.va (Value.nilFunc),vL B k d],.fact (Row 187 3 A n c (List.flatMap encF L))]) fun _ h2=>?_
 refine aI ?_
 refine ev_inline Tryz.tbs_ok Tryz.func223 rfl rfl ?_
 refine aG ?_
 refine ev_new fun b3=>?_
 refine ev_inline Tryz.tbs_ok Tryz.func197 rfl rfl ?_
 refine aG ?_
 refine ev_call (TD (b0) (b3)) [0,1,2,3] [] (fun v0_=>[.box (p) 184 [vI m,vI s,.bl false,vL A n c,.va (Value.nilFunc),vL B k d],.fact (Row 187 3 A n c (List.flatMap encF (L.set (posF L x) { n:=L[posF L x].n,d:=L[posF L x].d,s:=(↑L[posF L x].d.size:Int):Fl }))),.box (b0) 57 [SV.pt 0 p 0],.box (b3) 3 [vI (↑(posF L x):Int)]]) rfl rfl (by decide) rfl (by simp) (fun _=>rfl) (fun _=>(newsOk_box (by repeat (first | exact trivial | refine ⟨rfl,?_⟩ | refine ⟨trivial,?_⟩)) (newsOk_fact (newsOk_box (by repeat (first | exact trivial | refine ⟨rfl,?_⟩ | refine ⟨trivial,?_⟩)) (newsOk_box (by repeat (first | exact trivial | refine ⟨rfl,?_⟩ | refine ⟨trivial,?_⟩)) (newsOk_nil _)))))) (fun _=>aL) (fun _ h4=>?_)
 refine aG ?_
 refine ev_fin ⟨trivial,aL,_,rfl,?_⟩
 refine aG ?_
 refine ev_fin ⟨trivial,aL,_,rfl,?_⟩
 refine aG ?_
 refine ev_fin ⟨trivial,aL,_,rfl,?_⟩
 refine aG ?_
 exact ev_fin ⟨trivial,_,rfl,(),rfl,by trivial,aF [0,1]⟩
theorem truncN (p:Nat) (m s:Int) (A:Option Addr) (n c:Nat) (B:Option Addr) (k d:Nat) (L:List Fl) (hn:n=L.length) (h1:n≤1000) (x:ByteArray) (z:Int) (hh:hasF L x=true) (hi':posF L x<L.length) (_hF:okF L) (hz1:0≤z) (hz2:z≤(L[posF L x]'hi').d.size) (hm:0<m) (hs:riseF L):Triple Tryz.prog 214 [pP p,.string x,.int .i64 z] [Pt p 184 [.int .i64 m,.int .i64 s,.bool false,.slice A n c,.nilFunc,.slice B k d],Row 187 3 A n c (L.flatMap encF)] [] (Unit) (fun _=>.int .i64 0) (fun _=>True) (fun _=>[Pt p 184 [.int .i64 m,.int .i64 s,.bool false,.slice A n c,.nilFunc,.slice B k d],Row 187 3 A n c ((L.set (posF L x) ⟨(L[posF L x]'hi').n,(L[posF L x]'hi').d.extract 0 z.toNat,min (L[posF L x]'hi').s z⟩).flatMap encF)]):=by
 have T1:=askP p m s false A n c (.nilFunc) B k d hm
 have T2:=findT p m s false A n c (.nilFunc) B k d L x hn h1 hs
 have hi:posF L x<L.length:=(has_pos hs hh).1
 rw [hh] at T2
 have TD:=fun g bf bn=>truncDo n c g L hn h1 bf bn (posF L x) z hi hz1 hz2
 refine aT Tryz.func214 [.pt 0 p 0,.va (.string x),vI z] [.box p 184 [vI m,vI s,.va (.bool false),vL A n c,.va (.nilFunc),vL B k d],.fact (Row 187 3 A n c (L.flatMap encF))] (fun E=>?_) ⟨rfl,trivial,trivial,trivial⟩
 refine aG ?_
 refine ev_new fun b0=>?_
 refine ev_new fun b1=>?_
 refine ev_inline Tryz.tbs_ok Tryz.func194 rfl rfl ?_
 refine aG ?_
 refine aD T1 [0] [] (fun v0_=>[.box (p) 184 [vI m,vI s,.bl false,vL A n c,.va (Value.nilFunc),vL B k d]]) fun _ h2=>?_
 refine aI ?_
 refine aD T2 [0,1] [] (fun v0_=>[.box (p) 184 [vI m,vI s,.bl false,vL A n c,.va (Value.nilFunc),vL B k d],.fact (Row 187 3 A n c (List.flatMap encF L))]) fun _ h3=>?_
 refine aI ?_
 refine ev_inline Tryz.tbs_ok Tryz.func255 rfl rfl ?_
 refine aG ?_
 refine ev_stop (go_index0 (sz:=3) Tryz.tbs_ok (.inr 1) (posF L x) rfl rfl rfl rfl rfl rfl (by omega) rfl Row.at0 (fun g4 e5=>?_))
 subst e5
 refine aG ?_
 refine ev_new fun b6=>?_
 refine ev_stop (go_draw Tryz.tbs_ok true [0,1,2,3,4] [(0,true),(1,true),(2,true),(3,true),(4,true),(5,true),(6,true),(7,true),(8,true),(9,true),(10,true)] rfl ?_)
 refine aG (aE ?_)
 refine aI ?_ (decide_eq_false (show ¬z<0 from (by omega)))
 refine aE ?_
 have l7:posF L x<(L).length:=(by omega)
 refine ev_stop (tk_loadE Tryz.tbs_ok (.inr 1) (posF L x) 1 aB rfl rfl rfl rfl rfl (fun _ h=>Row.rd h) (by omega) (fun _=>rfl) (by omega) l7 (by decide) ?_)
 refine aG (aE ?_)
 refine aI ?_ (decide_eq_false (show ¬z > (↑L[posF L x].d.size:Int) from (by omega)))
 refine ev_inline Tryz.tbs_ok Tryz.func197 rfl rfl ?_
 refine aG ?_
 refine aD (TD (g4) (b6) (b1)) [1,4,3] [] (fun v0_=>[.fact (Row 187 3 (some { block:=g4,off:=0:Addr }) n c (List.flatMap encF (L.set (posF L x) { n:=L[posF L x].n,d:=L[posF L x].d.extract 0 z.toNat,s:=min L[posF L x].s z:Fl }))),.box (b6) 185 [.va (Value.pointer (some { block:=g4,off:=0+posF L x*3:Addr }))],.box (b1) 3 [vI z]]) fun _ h8=>?_
 refine ev_fin ⟨trivial,aL,_,rfl,?_⟩
 refine aG ?_
 refine ev_fin ⟨trivial,aL,_,rfl,?_⟩
 refine aG ?_
 refine ev_fin ⟨trivial,aL,_,rfl,?_⟩
 refine aG ?_
 exact ev_fin ⟨trivial,_,rfl,(),rfl,by trivial,aF [0,1]⟩
theorem removeN (p:Nat) (m s:Int) (A:Option Addr) (n c:Nat) (B:Option Addr) (k d:Nat) (L:List Fl) (hn:n=L.length) (h1:n≤1000) (x:ByteArray) (hh:hasF L x=true) (hi':posF L x<L.length) (_hF:okF L) (hm:0<m) (hs:riseF L):Triple Tryz.prog 209 [pP p,.string x] [Pt p 184 [.int .i64 m,.int .i64 s,.bool false,.slice A n c,.nilFunc,.slice B k d],Row 187 3 A n c (L.flatMap encF)] [] (Unit) (fun _=>.int .i64 0) (fun _=>True) (fun _=>[Pt p 184 [.int .i64 m,.int .i64 s,.bool false,.slice A (n-1) c,.nilFunc,.slice B k d],Row 187 3 A (n-1) c ((L.eraseIdx (posF L x)).flatMap encF)]):=by
 have T1:=askP p m s false A n c (.nilFunc) B k d hm
 have T2:=findT p m s false A n c (.nilFunc) B k d L x hn h1 hs
 have hi:posF L x<L.length:=(has_pos hs hh).1
 rw [hh] at T2
 have TD:=fun bd ba=>removeDo p m s false A n c (.nilFunc) B k d L hn h1 bd ba (posF L x) (by omega)
 refine aT Tryz.func209 [.pt 0 p 0,.va (.string x)] [.box p 184 [vI m,vI s,.va (.bool false),vL A n c,.va (.nilFunc),vL B k d],.fact (Row 187 3 A n c (L.flatMap encF))] (fun E=>?_) ⟨rfl,trivial,trivial⟩
 refine aG ?_
 refine ev_new fun b0=>?_
 refine ev_inline Tryz.tbs_ok Tryz.func194 rfl rfl ?_
 refine aG ?_
 refine aD T1 [0] [] (fun v0_=>[.box (p) 184 [vI m,vI s,.bl false,vL A n c,.va (Value.nilFunc),vL B k d]]) fun _ h1=>?_
 refine aI ?_
 refine aD T2 [0,1] [] (fun v0_=>[.box (p) 184 [vI m,vI s,.bl false,vL A n c,.va (Value.nilFunc),vL B k d],.fact (Row 187 3 A n c (List.flatMap encF L))]) fun _ h2=>?_
 refine aI ?_
 refine ev_inline Tryz.tbs_ok Tryz.func250 rfl rfl ?_
 refine aG ?_
 refine ev_new fun b3=>?_
 refine ev_inline Tryz.tbs_ok Tryz.func197 rfl rfl ?_
 refine aG ?_
 refine ev_call (TD (b0) (b3)) [0,1,2,3] [] (fun v0_=>[.box (p) 184 [vI m,vI s,.bl false,vL A (n-1) c,.va (Value.nilFunc),vL B k d],.fact (Row 187 3 A (n-1) c (List.flatMap encF (L.eraseIdx (posF L x)))),.box (b0) 57 [SV.pt 0 p 0],.box (b3) 3 [vI (↑(posF L x):Int)]]) rfl rfl (by decide) rfl (by simp) (fun _=>rfl) (fun _=>(newsOk_box (by repeat (first | exact trivial | refine ⟨rfl,?_⟩ | refine ⟨trivial,?_⟩)) (newsOk_fact (newsOk_box (by repeat (first | exact trivial | refine ⟨rfl,?_⟩ | refine ⟨trivial,?_⟩)) (newsOk_box (by repeat (first | exact trivial | refine ⟨rfl,?_⟩ | refine ⟨trivial,?_⟩)) (newsOk_nil _)))))) (fun _=>aL) (fun _ h4=>?_)
 refine aG ?_
 refine ev_fin ⟨trivial,aL,_,rfl,?_⟩
 refine aG ?_
 refine ev_fin ⟨trivial,aL,_,rfl,?_⟩
 refine aG ?_
 refine ev_fin ⟨trivial,aL,_,rfl,?_⟩
 refine aG ?_
 exact ev_fin ⟨trivial,_,rfl,(),rfl,by trivial,aF [0,1]⟩
theorem renameFN (p:Nat) (m s:Int) (A:Option Addr) (n c:Nat) (B:Option Addr) (k d:Nat) (L:List Fl) (hn:n=L.length) (h1:n≤1000) (x y:ByteArray) (hh:hasF L x=true) (hi':posF L x<L.length) (_hF:okF L) (ho:oddS y=false) (hh2:hasF (L.eraseIdx (posF L x)) y=false) (hm:0<m) (hs:riseF L):Triple Tryz.prog 146 [pP p,.string x,.string y] [Pt p 184 [.int .i64 m,.int .i64 s,.bool false,.slice A n c,.nilFunc,.slice B k d],Row 187 3 A n c (L.flatMap encF)] [] (Option Addr × Nat) (fun _=>.int .i64 0) (fun _=>True) (fun (A2,c2)=>[Pt p 184 [.int .i64 m,.int .i64 s,.bool false,.slice A2 (n-1+1) c2,.nilFunc,.slice B k d],Row 187 3 A2 (n-1+1) c2 (((L.eraseIdx (posF L x)).take (posF (L.eraseIdx (posF L x)) y)++⟨y,(L[posF L x]'hi').d,(L[posF L x]'hi').s⟩::(L.eraseIdx (posF L x)).drop (posF (L.eraseIdx (posF L x)) y)).flatMap encF)]):=by
 have T1:=askP p m s false A n c (.nilFunc) B k d hm
 have T2:=findT p m s false A n c (.nilFunc) B k d L x hn h1 hs
 have hi:posF L x<L.length:=(has_pos hs hh).1
 rw [hh] at T2
 have TO:=oddT y
 rw [ho] at TO
 have TD:=fun bd ba bt=>renameDoF p m s false A n c (.nilFunc) B k d L hn h1 hs bd ba bt (posF L x) y hi hh2
 refine aT Tryz.func146 [.pt 0 p 0,.va (.string x),.va (.string y)] [.box p 184 [vI m,vI s,.va (.bool false),vL A n c,.va (.nilFunc),vL B k d],.fact (Row 187 3 A n c (L.flatMap encF))] (fun E=>?_) ⟨rfl,trivial,trivial,trivial⟩
 refine aG ?_
 refine ev_new fun b0=>?_
 refine ev_new fun b1=>?_
 refine ev_inline Tryz.tbs_ok Tryz.func194 rfl rfl ?_
 refine aG ?_
 refine aD T1 [0] [] (fun v0_=>[.box (p) 184 [vI m,vI s,.bl false,vL A n c,.va (Value.nilFunc),vL B k d]]) fun _ h2=>?_
 refine aI ?_
 refine aD T2 [0,1] [] (fun v0_=>[.box (p) 184 [vI m,vI s,.bl false,vL A n c,.va (Value.nilFunc),vL B k d],.fact (Row 187 3 A n c (List.flatMap encF L))]) fun _ h3=>?_
 refine aI ?_
 refine ev_inline Tryz.tbs_ok Tryz.func195 rfl rfl ?_
 refine aG ?_
 refine ev_new fun b4=>?_
 refine aC TO [] [] fun _ h5=>?_
 refine aI ?_
 refine ev_inline Tryz.tbs_ok Tryz.func197 rfl rfl ?_
 refine aG ?_
 refine ev_call (TD (b0) (b4) (b1)) [0,1,2,4,3] [] (fun (v0_,v1_)=>[.box (p) 184 [vI m,vI s,.bl false,vL v0_ (n-1+1) v1_,.va (Value.nilFunc),vL B k d],.fact (Row 187 3 v0_ (n-1+1) v1_ (List.flatMap encF (List.take (posF (L.eraseIdx (posF L x)) y) (L.eraseIdx (posF L x))++{ n:=y,d:=L[posF L x].d,s:=L[posF L x].s:Fl }::List.drop (posF (L.eraseIdx (posF L x)) y) (L.eraseIdx (posF L x))))),.box (b0) 57 [SV.pt 0 p 0],.box (b4) 3 [vI (↑(posF L x):Int)],.box (b1) 9 [.va (Value.string y)]]) rfl rfl (by decide) rfl (by simp) (fun _=>rfl) (fun _=>(newsOk_box (by repeat (first | exact trivial | refine ⟨rfl,?_⟩ | refine ⟨trivial,?_⟩)) (newsOk_fact (newsOk_box (by repeat (first | exact trivial | refine ⟨rfl,?_⟩ | refine ⟨trivial,?_⟩)) (newsOk_box (by repeat (first | exact trivial | refine ⟨rfl,?_⟩ | refine ⟨trivial,?_⟩)) (newsOk_box (by repeat (first | exact trivial | refine ⟨rfl,?_⟩ | refine ⟨trivial,?_⟩)) (newsOk_nil _))))))) (fun _=>aL) (fun ⟨x6,x7⟩ h8=>?_)
 refine aG ?_
 refine ev_fin ⟨trivial,aL,_,rfl,?_⟩
 refine aG ?_
 refine ev_fin ⟨trivial,aL,_,rfl,?_⟩
 refine aG ?_
 refine ev_fin ⟨trivial,aL,_,rfl,?_⟩
 refine aG ?_
 exact ev_fin ⟨trivial,_,rfl,((x6,x7)),rfl,by trivial,aF [0,1]⟩
theorem appendTN (p:Nat) (m s:Int) (A:Option Addr) (n c:Nat) (B:Option Addr) (k d:Nat) (L:List Fl) (hn:n=L.length) (h1:n≤1000) (x y:ByteArray) (hh:hasF L x=true) (ho:oddS x=false) (hb:sumD L≤1000000000) (hm2:m≤1048576) (hy:(y.size:Int)≤m-sumD L) (hi':posF L x<L.length) (hz:(L[posF L x]'hi').d.size+y.size≤1000000000) (_hF2:okF (L.set (posF L x) ⟨(L[posF L x]'hi').n,(L[posF L x]'hi').d++y,(L[posF L x]'hi').s⟩)) (hm:0<m) (hs:riseF L):Triple Tryz.prog 193 [pP p,.string x,.string y] [Pt p 184 [.int .i64 m,.int .i64 s,.bool false,.slice A n c,.nilFunc,.slice B k d],Row 187 3 A n c (L.flatMap encF)] [] (Unit) (fun _=>.int .i64 0) (fun _=>True) (fun _=>[Pt p 184 [.int .i64 m,.int .i64 s,.bool false,.slice A n c,.nilFunc,.slice B k d],Row 187 3 A n c ((L.set (posF L x) ⟨(L[posF L x]'hi').n,(L[posF L x]'hi').d++y,(L[posF L x]'hi').s⟩).flatMap encF)]):=by
 have T1:=askP p m s false A n c (.nilFunc) B k d hm
 have T2:=findT p m s false A n c (.nilFunc) B k d L x hn h1 hs
 rw [hh] at T2
 have TO:=oddT x
 rw [ho] at TO
 have TS:=sizeT p m s false A n c (.nilFunc) B k d L hm hn h1 hb
 have hi:posF L x<L.length:=(has_pos hs hh).1
 have TD:=fun bk bd ba bx bs=>appendDoT p m s false A n c (.nilFunc) B k d L hn h1 bk bd ba bx bs (posF L x) x y hi hz
 refine aT Tryz.func193 [.pt 0 p 0,.va (.string x),.va (.string y)] [.box p 184 [vI m,vI s,.va (.bool false),vL A n c,.va (.nilFunc),vL B k d],.fact (Row 187 3 A n c (L.flatMap encF))] (fun E=>?_) ⟨rfl,trivial,trivial,trivial⟩
 refine aG ?_
 refine ev_new fun b0=>?_
 refine ev_new fun b1=>?_
 refine ev_new fun b2=>?_
 refine aD T1 [0] [] (fun v0_=>[.box (p) 184 [vI m,vI s,.bl false,vL A n c,.va (Value.nilFunc),vL B k d]]) fun _ h3=>?_
 refine aI ?_
 refine aD T2 [0,1] [] (fun v0_=>[.box (p) 184 [vI m,vI s,.bl false,vL A n c,.va (Value.nilFunc),vL B k d],.fact (Row 187 3 A n c (List.flatMap encF L))]) fun _ h4=>?_
 refine ev_new fun b5=>?_
 refine ev_new fun b6=>?_
 refine aC TO [] [] fun _ h7=>?_
 refine aI (aI ?_)
 refine ev_stop (go_draw Tryz.tbs_ok false [0,2,4] [(0,true),(1,true),(2,true),(3,true),(4,true),(5,true),(6,true),(7,false),(8,false),(9,false),(10,false)] rfl ?_)
 refine aG (aE ?_)
 refine aD TS [0,1] [] (fun v0_=>[.box (p) 184 [vI m,vI s,.bl false,vL A n c,.va (Value.nilFunc),vL B k d],.fact (Row 187 3 A n c (List.flatMap encF L))]) fun _ h8=>?_
 refine aE ?_
 refine w6 ?_
 refine aE (aE (aK ?_))
 refine aI ?_ (decide_eq_false (show ¬(↑y.size:Int) > m-(↑(sumD L):Int) from (by omega)))
 refine ev_inline Tryz.tbs_ok Tryz.func197 rfl rfl ?_
 refine aG ?_
 refine ev_call (TD (b6) (b0) (b5) (b1) (b2)) [0,1,6,2,5,3,4] [] (fun v0_=>[.box (p) 184 [vI m,vI s,.bl false,vL A n c,.va (Value.nilFunc),vL B k d],.fact (Row 187 3 A n c (List.flatMap encF (L.set (posF L x) { n:=L[posF L x].n,d:=L[posF L x].d++y,s:=L[posF L x].s:Fl }))),.box (b6) 4 [.bl true],.box (b0) 57 [SV.pt 0 p 0],.box (b5) 3 [vI (↑(posF L x):Int)],.box (b1) 9 [.va (Value.string x)],.box (b2) 9 [.va (Value.string y)]]) rfl rfl (by decide) rfl (by simp) (fun _=>rfl) (fun _=>(newsOk_box (by repeat (first | exact trivial | refine ⟨rfl,?_⟩ | refine ⟨trivial,?_⟩)) (newsOk_fact (newsOk_box (by repeat (first | exact trivial | refine ⟨rfl,?_⟩ | refine ⟨trivial,?_⟩)) (newsOk_box (by repeat (first | exact trivial | refine ⟨rfl,?_⟩ | refine ⟨trivial,?_⟩)) (newsOk_box (by repeat (first | exact trivial | refine ⟨rfl,?_⟩ | refine ⟨trivial,?_⟩)) (newsOk_box (by repeat (first | exact trivial | refine ⟨rfl,?_⟩ | refine ⟨trivial,?_⟩)) (newsOk_box (by repeat (first | exact trivial | refine ⟨rfl,?_⟩ | refine ⟨trivial,?_⟩)) (newsOk_nil _))))))))) (fun _=>aL) (fun _ h9=>?_)
 refine aG ?_
 refine ev_fin ⟨trivial,aL,_,rfl,?_⟩
 refine aG ?_
 exact ev_fin ⟨trivial,_,rfl,(),rfl,by trivial,aF [0,1]⟩
theorem appendFN (p:Nat) (m s:Int) (A:Option Addr) (n c:Nat) (B:Option Addr) (k d:Nat) (L:List Fl) (hn:n=L.length) (h1:n≤1000) (x y:ByteArray) (hh:hasF L x=false) (ho:oddS x=false) (hb:sumD L≤1000000000) (hm2:m≤1048576) (hy:(y.size:Int)≤m-sumD L) (hn16:n≠16) (_h999:n≤999) (_hF2:okF (L.take (posF L x)++⟨x,y,0⟩::L.drop (posF L x))) (hm:0<m) (hs:riseF L):Triple Tryz.prog 193 [pP p,.string x,.string y] [Pt p 184 [.int .i64 m,.int .i64 s,.bool false,.slice A n c,.nilFunc,.slice B k d],Row 187 3 A n c (L.flatMap encF)] [] (Option Addr × Nat) (fun _=>.int .i64 0) (fun _=>True) (fun (A2,c2)=>[Pt p 184 [.int .i64 m,.int .i64 s,.bool false,.slice A2 (n+1) c2,.nilFunc,.slice B k d],Row 187 3 A2 (n+1) c2 ((L.take (posF L x)++⟨x,y,0⟩::L.drop (posF L x)).flatMap encF)]):=by
 have T1:=askP p m s false A n c (.nilFunc) B k d hm
 have T2:=findT p m s false A n c (.nilFunc) B k d L x hn h1 hs
 rw [hh] at T2
 have TO:=oddT x
 rw [ho] at TO
 have TS:=sizeT p m s false A n c (.nilFunc) B k d L hm hn h1 hb
 have hp:=posF_le L x
 have TD:=fun bk bd ba bx bs=>appendDoF p m s false A n c (.nilFunc) B k d L hn h1 bk bd ba bx bs (posF L x) x y (by omega) (by omega)
 refine aT Tryz.func193 [.pt 0 p 0,.va (.string x),.va (.string y)] [.box p 184 [vI m,vI s,.va (.bool false),vL A n c,.va (.nilFunc),vL B k d],.fact (Row 187 3 A n c (L.flatMap encF))] (fun E=>?_) ⟨rfl,trivial,trivial,trivial⟩
 refine aG ?_
 refine ev_new fun b0=>?_
 refine ev_new fun b1=>?_
 refine ev_new fun b2=>?_
 refine aD T1 [0] [] (fun v0_=>[.box (p) 184 [vI m,vI s,.bl false,vL A n c,.va (Value.nilFunc),vL B k d]]) fun _ h3=>?_
 refine aI ?_
 refine aD T2 [0,1] [] (fun v0_=>[.box (p) 184 [vI m,vI s,.bl false,vL A n c,.va (Value.nilFunc),vL B k d],.fact (Row 187 3 A n c (List.flatMap encF L))]) fun _ h4=>?_
 refine ev_new fun b5=>?_
 refine ev_new fun b6=>?_
 refine aC TO [] [] fun _ h7=>?_
 refine aI (aJ ?_)
 refine aI ?_ (beq_eq_false_iff_ne.2 (show ¬(↑n:Int)=16 from (by omega)))
 refine ev_stop (go_draw Tryz.tbs_ok false [0,2,4] [(0,true),(1,true),(2,true),(3,true),(4,true),(5,true),(6,true),(7,false),(8,false),(9,false),(10,false)] rfl ?_)
 refine aG (aE ?_)
 refine aD TS [0,1] [] (fun v0_=>[.box (p) 184 [vI m,vI s,.bl false,vL A n c,.va (Value.nilFunc),vL B k d],.fact (Row 187 3 A n c (List.flatMap encF L))]) fun _ h8=>?_
 refine aE ?_
 refine w6 ?_
 refine aE (aE (aK ?_))
 refine aI ?_ (decide_eq_false (show ¬(↑y.size:Int) > m-(↑(sumD L):Int) from (by omega)))
 refine ev_inline Tryz.tbs_ok Tryz.func197 rfl rfl ?_
 refine aG ?_
 refine ev_call (TD (b6) (b0) (b5) (b1) (b2)) [0,1,6,2,5,3,4] [] (fun (v0_,v1_)=>[.box (p) 184 [vI m,vI s,.bl false,vL v0_ (n+1) v1_,.va (Value.nilFunc),vL B k d],.fact (Row 187 3 v0_ (n+1) v1_ (List.flatMap encF (List.take (posF L x) L++{ n:=x,d:=y,s:=0:Fl }::List.drop (posF L x) L))),.box (b6) 4 [.bl false],.box (b0) 57 [SV.pt 0 p 0],.box (b5) 3 [vI (↑(posF L x):Int)],.box (b1) 9 [.va (Value.string x)],.box (b2) 9 [.va (Value.string y)]]) rfl rfl (by decide) rfl (by simp) (fun _=>rfl) (fun _=>(newsOk_box (by repeat (first | exact trivial | refine ⟨rfl,?_⟩ | refine ⟨trivial,?_⟩)) (newsOk_fact (newsOk_box (by repeat (first | exact trivial | refine ⟨rfl,?_⟩ | refine ⟨trivial,?_⟩)) (newsOk_box (by repeat (first | exact trivial | refine ⟨rfl,?_⟩ | refine ⟨trivial,?_⟩)) (newsOk_box (by repeat (first | exact trivial | refine ⟨rfl,?_⟩ | refine ⟨trivial,?_⟩)) (newsOk_box (by repeat (first | exact trivial | refine ⟨rfl,?_⟩ | refine ⟨trivial,?_⟩)) (newsOk_box (by repeat (first | exact trivial | refine ⟨rfl,?_⟩ | refine ⟨trivial,?_⟩)) (newsOk_nil _))))))))) (fun _=>aL) (fun ⟨x9,x10⟩ h11=>?_)
 refine aG ?_
 refine ev_fin ⟨trivial,aL,_,rfl,?_⟩
 refine aG ?_
 exact ev_fin ⟨trivial,_,rfl,((x9,x10)),rfl,by trivial,aF [0,1]⟩
theorem appendDown (p:Nat) (m s:Int) (A:Option Addr) (n c:Nat) (fv:Value) (B:Option Addr) (k d:Nat) (x y:ByteArray) (hm:0<m):Triple Tryz.prog 193 [pP p,.string x,.string y] [Pt p 184 [.int .i64 m,.int .i64 s,.bool true,.slice A n c,fv,.slice B k d]] [] (Unit) (fun _=>.int .i64 41) (fun _=>True) (fun _=>[Pt p 184 [.int .i64 m,.int .i64 s,.bool true,.slice A n c,fv,.slice B k d]]):=by
 have T1:=askP p m s true A n c fv B k d hm
 refine aT Tryz.func193 [.pt 0 p 0,.va (.string x),.va (.string y)] [.box p 184 [vI m,vI s,.va (.bool true),vL A n c,.va fv,vL B k d]] (fun E=>?_) ⟨rfl,trivial,trivial,trivial⟩
 refine aG ?_
 refine ev_new fun b0=>?_
 refine ev_new fun b1=>?_
 refine ev_new fun b2=>?_
 refine aD T1 [0] [] (fun v0_=>[.box (p) 184 [vI m,vI s,.bl true,vL A n c,.va (fv),vL B k d]]) fun _ h3=>?_
 refine aJ ?_
 exact ev_fin ⟨trivial,_,rfl,(),rfl,by trivial,aF [0]⟩
theorem syncDown (p:Nat) (m s:Int) (A:Option Addr) (n c:Nat) (fv:Value) (B:Option Addr) (k d:Nat) (x:ByteArray) (hm:0<m):Triple Tryz.prog 160 [pP p,.string x] [Pt p 184 [.int .i64 m,.int .i64 s,.bool true,.slice A n c,fv,.slice B k d]] [] (Unit) (fun _=>.int .i64 41) (fun _=>True) (fun _=>[Pt p 184 [.int .i64 m,.int .i64 s,.bool true,.slice A n c,fv,.slice B k d]]):=by
 have T1:=askP p m s true A n c fv B k d hm
 refine aT Tryz.func160 [.pt 0 p 0,.va (.string x)] [.box p 184 [vI m,vI s,.va (.bool true),vL A n c,.va fv,vL B k d]] (fun E=>?_) ⟨rfl,trivial,trivial⟩
 refine aG ?_
 refine ev_new fun b0=>?_
 refine ev_inline Tryz.tbs_ok Tryz.func194 rfl rfl ?_
 refine aG ?_
 refine aD T1 [0] [] (fun v0_=>[.box (p) 184 [vI m,vI s,.bl true,vL A n c,.va (fv),vL B k d]]) fun _ h1=>?_
 refine aJ ?_
 refine ev_fin ⟨trivial,aL,_,rfl,?_⟩
 refine aG ?_
 exact ev_fin ⟨trivial,_,rfl,(),rfl,by trivial,aF [0]⟩
theorem syncGone (p:Nat) (m s:Int) (A:Option Addr) (n c:Nat) (fv:Value) (B:Option Addr) (k d:Nat) (L:List Fl) (hn:n=L.length) (h1:n≤1000) (x:ByteArray) (hm:0<m) (hs:riseF L) (hh:hasF L x=false):Triple Tryz.prog 160 [pP p,.string x] [Pt p 184 [.int .i64 m,.int .i64 s,.bool false,.slice A n c,fv,.slice B k d],Row 187 3 A n c (L.flatMap encF)] [] (Unit) (fun _=>.int .i64 4) (fun _=>True) (fun _=>[Pt p 184 [.int .i64 m,.int .i64 s,.bool false,.slice A n c,fv,.slice B k d],Row 187 3 A n c (L.flatMap encF)]):=by
 have T1:=askP p m s false A n c fv B k d hm
 have T2:=findT p m s false A n c fv B k d L x hn h1 hs
 rw [hh] at T2
 refine aT Tryz.func160 [.pt 0 p 0,.va (.string x)] [.box p 184 [vI m,vI s,.va (.bool false),vL A n c,.va fv,vL B k d],.fact (Row 187 3 A n c (L.flatMap encF))] (fun E=>?_) ⟨rfl,trivial,trivial⟩
 refine aG ?_
 refine ev_new fun b0=>?_
 refine ev_inline Tryz.tbs_ok Tryz.func194 rfl rfl ?_
 refine aG ?_
 refine aD T1 [0] [] (fun v0_=>[.box (p) 184 [vI m,vI s,.bl false,vL A n c,.va (fv),vL B k d]]) fun _ h1=>?_
 refine aI ?_
 refine aD T2 [0,1] [] (fun v0_=>[.box (p) 184 [vI m,vI s,.bl false,vL A n c,.va (fv),vL B k d],.fact (Row 187 3 A n c (List.flatMap encF L))]) fun _ h2=>?_
 refine aJ ?_
 refine ev_fin ⟨trivial,aL,_,rfl,?_⟩
 refine aG ?_
 exact ev_fin ⟨trivial,_,rfl,(),rfl,by trivial,aF [0,1]⟩
theorem truncDown (p:Nat) (m s:Int) (A:Option Addr) (n c:Nat) (fv:Value) (B:Option Addr) (k d:Nat) (x:ByteArray) (z:Int) (hm:0<m):Triple Tryz.prog 214 [pP p,.string x,.int .i64 z] [Pt p 184 [.int .i64 m,.int .i64 s,.bool true,.slice A n c,fv,.slice B k d]] [] (Unit) (fun _=>.int .i64 41) (fun _=>True) (fun _=>[Pt p 184 [.int .i64 m,.int .i64 s,.bool true,.slice A n c,fv,.slice B k d]]):=by
 have T1:=askP p m s true A n c fv B k d hm
 refine aT Tryz.func214 [.pt 0 p 0,.va (.string x),vI z] [.box p 184 [vI m,vI s,.va (.bool true),vL A n c,.va fv,vL B k d]] (fun E=>?_) ⟨rfl,trivial,trivial,trivial⟩
 refine aG ?_
 refine ev_new fun b0=>?_
 refine ev_new fun b1=>?_
 refine ev_inline Tryz.tbs_ok Tryz.func194 rfl rfl ?_
 refine aG ?_
 refine aD T1 [0] [] (fun v0_=>[.box (p) 184 [vI m,vI s,.bl true,vL A n c,.va (fv),vL B k d]]) fun _ h2=>?_
 refine aJ ?_
 refine ev_fin ⟨trivial,aL,_,rfl,?_⟩
 refine aG ?_
 exact ev_fin ⟨trivial,_,rfl,(),rfl,by trivial,aF [0]⟩
theorem truncGone (p:Nat) (m s:Int) (A:Option Addr) (n c:Nat) (fv:Value) (B:Option Addr) (k d:Nat) (L:List Fl) (hn:n=L.length) (h1:n≤1000) (x:ByteArray) (z:Int) (hm:0<m) (hs:riseF L) (hh:hasF L x=false):Triple Tryz.prog 214 [pP p,.string x,.int .i64 z] [Pt p 184 [.int .i64 m,.int .i64 s,.bool false,.slice A n c,fv,.slice B k d],Row 187 3 A n c (L.flatMap encF)] [] (Unit) (fun _=>.int .i64 4) (fun _=>True) (fun _=>[Pt p 184 [.int .i64 m,.int .i64 s,.bool false,.slice A n c,fv,.slice B k d],Row 187 3 A n c (L.flatMap encF)]):=by
 have T1:=askP p m s false A n c fv B k d hm
 have T2:=findT p m s false A n c fv B k d L x hn h1 hs
 rw [hh] at T2
 refine aT Tryz.func214 [.pt 0 p 0,.va (.string x),vI z] [.box p 184 [vI m,vI s,.va (.bool false),vL A n c,.va fv,vL B k d],.fact (Row 187 3 A n c (L.flatMap encF))] (fun E=>?_) ⟨rfl,trivial,trivial,trivial⟩
 refine aG ?_
 refine ev_new fun b0=>?_
 refine ev_new fun b1=>?_
 refine ev_inline Tryz.tbs_ok Tryz.func194 rfl rfl ?_
 refine aG ?_
 refine aD T1 [0] [] (fun v0_=>[.box (p) 184 [vI m,vI s,.bl false,vL A n c,.va (fv),vL B k d]]) fun _ h2=>?_
 refine aI ?_
 refine aD T2 [0,1] [] (fun v0_=>[.box (p) 184 [vI m,vI s,.bl false,vL A n c,.va (fv),vL B k d],.fact (Row 187 3 A n c (List.flatMap encF L))]) fun _ h3=>?_
 refine aJ ?_
 refine ev_fin ⟨trivial,aL,_,rfl,?_⟩
 refine aG ?_
 exact ev_fin ⟨trivial,_,rfl,(),rfl,by trivial,aF [0,1]⟩
theorem removeDown (p:Nat) (m s:Int) (A:Option Addr) (n c:Nat) (fv:Value) (B:Option Addr) (k d:Nat) (x:ByteArray) (hm:0<m):Triple Tryz.prog 209 [pP p,.string x] [Pt p 184 [.int .i64 m,.int .i64 s,.bool true,.slice A n c,fv,.slice B k d]] [] (Unit) (fun _=>.int .i64 41) (fun _=>True) (fun _=>[Pt p 184 [.int .i64 m,.int .i64 s,.bool true,.slice A n c,fv,.slice B k d]]):=by
 have T1:=askP p m s true A n c fv B k d hm
 refine aT Tryz.func209 [.pt 0 p 0,.va (.string x)] [.box p 184 [vI m,vI s,.va (.bool true),vL A n c,.va fv,vL B k d]] (fun E=>?_) ⟨rfl,trivial,trivial⟩
 refine aG ?_
 refine ev_new fun b0=>?_
 refine ev_inline Tryz.tbs_ok Tryz.func194 rfl rfl ?_
 refine aG ?_
 refine aD T1 [0] [] (fun v0_=>[.box (p) 184 [vI m,vI s,.bl true,vL A n c,.va (fv),vL B k d]]) fun _ h1=>?_
 refine aJ ?_
 refine ev_fin ⟨trivial,aL,_,rfl,?_⟩
 refine aG ?_
 exact ev_fin ⟨trivial,_,rfl,(),rfl,by trivial,aF [0]⟩
theorem removeGone (p:Nat) (m s:Int) (A:Option Addr) (n c:Nat) (fv:Value) (B:Option Addr) (k d:Nat) (L:List Fl) (hn:n=L.length) (h1:n≤1000) (x:ByteArray) (hm:0<m) (hs:riseF L) (hh:hasF L x=false):Triple Tryz.prog 209 [pP p,.string x] [Pt p 184 [.int .i64 m,.int .i64 s,.bool false,.slice A n c,fv,.slice B k d],Row 187 3 A n c (L.flatMap encF)] [] (Unit) (fun _=>.int .i64 4) (fun _=>True) (fun _=>[Pt p 184 [.int .i64 m,.int .i64 s,.bool false,.slice A n c,fv,.slice B k d],Row 187 3 A n c (L.flatMap encF)]):=by
 have T1:=askP p m s false A n c fv B k d hm
 have T2:=findT p m s false A n c fv B k d L x hn h1 hs
 rw [hh] at T2
 refine aT Tryz.func209 [.pt 0 p 0,.va (.string x)] [.box p 184 [vI m,vI s,.va (.bool false),vL A n c,.va fv,vL B k d],.fact (Row 187 3 A n c (L.flatMap encF))] (fun E=>?_) ⟨rfl,trivial,trivial⟩
 refine aG ?_
 refine ev_new fun b0=>?_
 refine ev_inline Tryz.tbs_ok Tryz.func194 rfl rfl ?_
 refine aG ?_
 refine aD T1 [0] [] (fun v0_=>[.box (p) 184 [vI m,vI s,.bl false,vL A n c,.va (fv),vL B k d]]) fun _ h1=>?_
 refine aI ?_
 refine aD T2 [0,1] [] (fun v0_=>[.box (p) 184 [vI m,vI s,.bl false,vL A n c,.va (fv),vL B k d],.fact (Row 187 3 A n c (List.flatMap encF L))]) fun _ h2=>?_
 refine aJ ?_
 refine ev_fin ⟨trivial,aL,_,rfl,?_⟩
 refine aG ?_
 exact ev_fin ⟨trivial,_,rfl,(),rfl,by trivial,aF [0,1]⟩
theorem readDown (p:Nat) (m s:Int) (A:Option Addr) (n c:Nat) (fv:Value) (B:Option Addr) (k d:Nat) (x:ByteArray) (hm:0<m):Triple Tryz.prog 212 [pP p,.string x] [Pt p 184 [.int .i64 m,.int .i64 s,.bool true,.slice A n c,fv,.slice B k d]] [] (Unit) (fun _=>.tuple #[.string ByteArray.empty,.int .i64 41]) (fun _=>True) (fun _=>[Pt p 184 [.int .i64 m,.int .i64 s,.bool true,.slice A n c,fv,.slice B k d]]):=by
 have T1:=askP p m s true A n c fv B k d hm
 refine aT Tryz.func212 [.pt 0 p 0,.va (.string x)] [.box p 184 [vI m,vI s,.va (.bool true),vL A n c,.va fv,vL B k d]] (fun E=>?_) ⟨rfl,trivial,trivial⟩
 refine aG ?_
 refine ev_new fun b0=>?_
 refine ev_new fun b1=>?_
 refine ev_inline Tryz.tbs_ok Tryz.func194 rfl rfl ?_
 refine aG ?_
 refine aD T1 [0] [] (fun v0_=>[.box (p) 184 [vI m,vI s,.bl true,vL A n c,.va (fv),vL B k d]]) fun _ h2=>?_
 refine aJ ?_
 refine ev_fin ⟨trivial,aL,_,rfl,?_⟩
 refine aG ?_
 exact ev_fin ⟨trivial,_,rfl,(),rfl,by trivial,aF [0]⟩
theorem readGone (p:Nat) (m s:Int) (A:Option Addr) (n c:Nat) (fv:Value) (B:Option Addr) (k d:Nat) (L:List Fl) (hn:n=L.length) (h1:n≤1000) (x:ByteArray) (hm:0<m) (hs:riseF L) (hh:hasF L x=false):Triple Tryz.prog 212 [pP p,.string x] [Pt p 184 [.int .i64 m,.int .i64 s,.bool false,.slice A n c,fv,.slice B k d],Row 187 3 A n c (L.flatMap encF)] [] (Unit) (fun _=>.tuple #[.string ByteArray.empty,.int .i64 4]) (fun _=>True) (fun _=>[Pt p 184 [.int .i64 m,.int .i64 s,.bool false,.slice A n c,fv,.slice B k d],Row 187 3 A n c (L.flatMap encF)]):=by
 have T1:=askP p m s false A n c fv B k d hm
 have T2:=findT p m s false A n c fv B k d L x hn h1 hs
 rw [hh] at T2
 refine aT Tryz.func212 [.pt 0 p 0,.va (.string x)] [.box p 184 [vI m,vI s,.va (.bool false),vL A n c,.va fv,vL B k d],.fact (Row 187 3 A n c (L.flatMap encF))] (fun E=>?_) ⟨rfl,trivial,trivial⟩
 refine aG ?_
 refine ev_new fun b0=>?_
 refine ev_new fun b1=>?_
 refine ev_inline Tryz.tbs_ok Tryz.func194 rfl rfl ?_
 refine aG ?_
 refine aD T1 [0] [] (fun v0_=>[.box (p) 184 [vI m,vI s,.bl false,vL A n c,.va (fv),vL B k d]]) fun _ h2=>?_
 refine aI ?_
 refine aD T2 [0,1] [] (fun v0_=>[.box (p) 184 [vI m,vI s,.bl false,vL A n c,.va (fv),vL B k d],.fact (Row 187 3 A n c (List.flatMap encF L))]) fun _ h3=>?_
 refine aJ ?_
 refine ev_fin ⟨trivial,aL,_,rfl,?_⟩
 refine aG ?_
 exact ev_fin ⟨trivial,_,rfl,(),rfl,by trivial,aF [0,1]⟩
theorem crashDown (p:Nat) (m s:Int) (A:Option Addr) (n c:Nat) (fv:Value) (B:Option Addr) (k d:Nat) (Q:Option Addr) (kq dq:Nat) (hm:0<m):Triple Tryz.prog 55 [pP p,.slice Q kq dq] [Pt p 184 [.int .i64 m,.int .i64 s,.bool true,.slice A n c,fv,.slice B k d]] [] (Unit) (fun _=>.int .i64 41) (fun _=>True) (fun _=>[Pt p 184 [.int .i64 m,.int .i64 s,.bool true,.slice A n c,fv,.slice B k d]]):=by
 have T1:=askP p m s true A n c fv B k d hm
 refine aT Tryz.func55 [.pt 0 p 0,vL Q kq dq] [.box p 184 [vI m,vI s,.va (.bool true),vL A n c,.va fv,vL B k d]] (fun E=>?_) ⟨rfl,trivial,trivial⟩
 refine aG ?_
 refine aD T1 [0] [] (fun v0_=>[.box (p) 184 [vI m,vI s,.bl true,vL A n c,.va (fv),vL B k d]]) fun _ h0=>?_
 refine aJ ?_
 exact ev_fin ⟨trivial,_,rfl,(),rfl,by trivial,aF [0]⟩
theorem truncArg (p:Nat) (m s:Int) (A:Option Addr) (n c:Nat) (fv:Value) (B:Option Addr) (k d:Nat) (L:List Fl) (hn:n=L.length) (h1:n≤1000) (x:ByteArray) (z:Int) (hm:0<m) (hs:riseF L) (hh:hasF L x=true) (hi':posF L x<L.length) (hz:z<0∨(((L[posF L x]'hi').d.size:Nat):Int)<z):Triple Tryz.prog 214 [pP p,.string x,.int .i64 z] [Pt p 184 [.int .i64 m,.int .i64 s,.bool false,.slice A n c,fv,.slice B k d],Row 187 3 A n c (L.flatMap encF)] [] (Unit) (fun _=>.int .i64 2) (fun _=>True) (fun _=>[Pt p 184 [.int .i64 m,.int .i64 s,.bool false,.slice A n c,fv,.slice B k d],Row 187 3 A n c (L.flatMap encF)]):=by
 have T1:=askP p m s false A n c fv B k d hm
 have T2:=findT p m s false A n c fv B k d L x hn h1 hs
 rw [hh] at T2
 have hi:posF L x<L.length:=(has_pos hs hh).1
 refine aT Tryz.func214 [.pt 0 p 0,.va (.string x),vI z] [.box p 184 [vI m,vI s,.va (.bool false),vL A n c,.va fv,vL B k d],.fact (Row 187 3 A n c (L.flatMap encF))] (fun E=>?_) ⟨rfl,trivial,trivial,trivial⟩
 refine aG ?_
 refine ev_new fun b0=>?_
 refine ev_new fun b1=>?_
 refine ev_inline Tryz.tbs_ok Tryz.func194 rfl rfl ?_
 refine aG ?_
 refine aD T1 [0] [] (fun v0_=>[.box (p) 184 [vI m,vI s,.bl false,vL A n c,.va (fv),vL B k d]]) fun _ h2=>?_
 refine aI ?_
 refine aD T2 [0,1] [] (fun v0_=>[.box (p) 184 [vI m,vI s,.bl false,vL A n c,.va (fv),vL B k d],.fact (Row 187 3 A n c (List.flatMap encF L))]) fun _ h3=>?_
 refine aI ?_
 refine ev_inline Tryz.tbs_ok Tryz.func255 rfl rfl ?_
 refine aG ?_
 refine ev_stop (go_index0 (sz:=3) Tryz.tbs_ok (.inr 1) (posF L x) rfl rfl rfl rfl rfl rfl (by omega) rfl Row.at0 (fun g4 e5=>?_))
 subst e5
 refine aG ?_
 refine ev_new fun b6=>?_
 refine ev_stop (go_draw Tryz.tbs_ok true [0,1,2,3,4] [(0,true),(1,true),(2,true),(3,true),(4,true),(5,true),(6,true),(7,true),(8,true),(9,true),(10,true)] rfl ?_)
 refine aG (aE ?_)
 refine ev_if_lt (fun h7=>?_) (fun h7=>?_)
 refine aG (aE ?_)
 refine ev_fin ⟨trivial,aL,_,rfl,?_⟩
 refine aG ?_
 refine ev_fin ⟨trivial,aL,_,rfl,?_⟩
 refine aG ?_
 exact ev_fin ⟨trivial,_,rfl,(),rfl,by trivial,aF [0,1]⟩
 refine aG (aE ?_)
 have l8:posF L x<(L).length:=(by omega)
 refine ev_stop (tk_loadE Tryz.tbs_ok (.inr 1) (posF L x) 1 aB rfl rfl rfl rfl rfl (fun _ h=>Row.rd h) (by omega) (fun _=>rfl) (by omega) l8 (by decide) ?_)
 refine aG (aE ?_)
 refine aJ ?_ (decide_eq_true (show z > (↑L[posF L x].d.size:Int) from (by omega)))
 refine ev_fin ⟨trivial,aL,_,rfl,?_⟩
 refine aG ?_
 refine ev_fin ⟨trivial,aL,_,rfl,?_⟩
 refine aG ?_
 exact ev_fin ⟨trivial,_,rfl,(),rfl,by trivial,aF [0,1]⟩
theorem readT (p:Nat) (m s:Int) (A:Option Addr) (n c:Nat) (fv:Value) (B:Option Addr) (k d:Nat) (L:List Fl) (hn:n=L.length) (h1:n≤1000) (x:ByteArray) (hm:0<m) (hs:riseF L) (hh:hasF L x=true) (hi':posF L x<L.length):Triple Tryz.prog 212 [pP p,.string x] [Pt p 184 [.int .i64 m,.int .i64 s,.bool false,.slice A n c,fv,.slice B k d],Row 187 3 A n c (L.flatMap encF)] [] (Unit) (fun _=>.tuple #[.string (L[posF L x]'hi').d,.int .i64 0]) (fun _=>True) (fun _=>[Pt p 184 [.int .i64 m,.int .i64 s,.bool false,.slice A n c,fv,.slice B k d],Row 187 3 A n c (L.flatMap encF)]):=by
 have T1:=askP p m s false A n c fv B k d hm
 have T2:=findT p m s false A n c fv B k d L x hn h1 hs
 rw [hh] at T2
 have hi:posF L x<L.length:=(has_pos hs hh).1
 refine aT Tryz.func212 [.pt 0 p 0,.va (.string x)] [.box p 184 [vI m,vI s,.va (.bool false),vL A n c,.va fv,vL B k d],.fact (Row 187 3 A n c (L.flatMap encF))] (fun E=>?_) ⟨rfl,trivial,trivial⟩
 refine aG ?_
 refine ev_new fun b0=>?_
 refine ev_new fun b1=>?_
 refine ev_inline Tryz.tbs_ok Tryz.func194 rfl rfl ?_
 refine aG ?_
 refine aD T1 [0] [] (fun v0_=>[.box (p) 184 [vI m,vI s,.bl false,vL A n c,.va (fv),vL B k d]]) fun _ h2=>?_
 refine aI ?_
 refine aD T2 [0,1] [] (fun v0_=>[.box (p) 184 [vI m,vI s,.bl false,vL A n c,.va (fv),vL B k d],.fact (Row 187 3 A n c (List.flatMap encF L))]) fun _ h3=>?_
 refine aI ?_
 refine ev_inline Tryz.tbs_ok Tryz.func253 rfl rfl ?_
 refine aG ?_
 refine ev_stop (go_index0 (sz:=3) Tryz.tbs_ok (.inr 1) (posF L x) rfl rfl rfl rfl rfl rfl (by omega) rfl Row.at0 (fun g4 e5=>?_))
 subst e5
 refine aG ?_
 have l6:posF L x<(L).length:=(by omega)
 refine ev_stop (go_loadE Tryz.tbs_ok (.inr 1) (posF L x) 1 rfl rfl rfl rfl (fun _ h=>Row.rd h) (by omega) (fun _=>rfl) (by omega) l6 (by decide) ?_)
 refine aG ?_
 refine ev_fin ⟨trivial,aL,_,rfl,?_⟩
 refine aG ?_
 refine ev_fin ⟨trivial,aL,_,rfl,?_⟩
 refine aG ?_
 exact ev_fin ⟨trivial,_,rfl,(),rfl,by trivial,aF [0,1]⟩
theorem appendArg (p:Nat) (m s:Int) (A:Option Addr) (n c:Nat) (fv:Value) (B:Option Addr) (k d:Nat) (L:List Fl) (hn:n=L.length) (h1:n≤1000) (x y:ByteArray) (hm:0<m) (hs:riseF L) (ho:oddS x=true):Triple Tryz.prog 193 [pP p,.string x,.string y] [Pt p 184 [.int .i64 m,.int .i64 s,.bool false,.slice A n c,fv,.slice B k d],Row 187 3 A n c (L.flatMap encF)] [] (Unit) (fun _=>.int .i64 2) (fun _=>True) (fun _=>[Pt p 184 [.int .i64 m,.int .i64 s,.bool false,.slice A n c,fv,.slice B k d],Row 187 3 A n c (L.flatMap encF)]):=by
 have T1:=askP p m s false A n c fv B k d hm
 have T2:=findT p m s false A n c fv B k d L x hn h1 hs
 have TO:=oddT x
 rw [ho] at TO
 refine aT Tryz.func193 [.pt 0 p 0,.va (.string x),.va (.string y)] [.box p 184 [vI m,vI s,.va (.bool false),vL A n c,.va fv,vL B k d],.fact (Row 187 3 A n c (L.flatMap encF))] (fun E=>?_) ⟨rfl,trivial,trivial,trivial⟩
 refine aG ?_
 refine ev_new fun b0=>?_
 refine ev_new fun b1=>?_
 refine ev_new fun b2=>?_
 refine aD T1 [0] [] (fun v0_=>[.box (p) 184 [vI m,vI s,.bl false,vL A n c,.va (fv),vL B k d]]) fun _ h3=>?_
 refine aI ?_
 refine aD T2 [0,1] [] (fun v0_=>[.box (p) 184 [vI m,vI s,.bl false,vL A n c,.va (fv),vL B k d],.fact (Row 187 3 A n c (List.flatMap encF L))]) fun _ h4=>?_
 refine ev_new fun b5=>?_
 refine ev_new fun b6=>?_
 refine aC TO [] [] fun _ h7=>?_
 refine aJ ?_
 exact ev_fin ⟨trivial,_,rfl,(),rfl,by trivial,aF [0,1]⟩
theorem appendFull1 (p:Nat) (m s:Int) (A:Option Addr) (n c:Nat) (fv:Value) (B:Option Addr) (k d:Nat) (L:List Fl) (hn:n=L.length) (h1:n≤1000) (x y:ByteArray) (hm:0<m) (hs:riseF L) (ho:oddS x=false) (hh:hasF L x=false) (hn16:n=16):Triple Tryz.prog 193 [pP p,.string x,.string y] [Pt p 184 [.int .i64 m,.int .i64 s,.bool false,.slice A n c,fv,.slice B k d],Row 187 3 A n c (L.flatMap encF)] [] (Unit) (fun _=>.int .i64 40) (fun _=>True) (fun _=>[Pt p 184 [.int .i64 m,.int .i64 s,.bool false,.slice A n c,fv,.slice B k d],Row 187 3 A n c (L.flatMap encF)]):=by
 have T1:=askP p m s false A n c fv B k d hm
 have T2:=findT p m s false A n c fv B k d L x hn h1 hs
 rw [hh] at T2
 have TO:=oddT x
 rw [ho] at TO
 refine aT Tryz.func193 [.pt 0 p 0,.va (.string x),.va (.string y)] [.box p 184 [vI m,vI s,.va (.bool false),vL A n c,.va fv,vL B k d],.fact (Row 187 3 A n c (L.flatMap encF))] (fun E=>?_) ⟨rfl,trivial,trivial,trivial⟩
 refine aG ?_
 refine ev_new fun b0=>?_
 refine ev_new fun b1=>?_
 refine ev_new fun b2=>?_
 refine aD T1 [0] [] (fun v0_=>[.box (p) 184 [vI m,vI s,.bl false,vL A n c,.va (fv),vL B k d]]) fun _ h3=>?_
 refine aI ?_
 refine aD T2 [0,1] [] (fun v0_=>[.box (p) 184 [vI m,vI s,.bl false,vL A n c,.va (fv),vL B k d],.fact (Row 187 3 A n c (List.flatMap encF L))]) fun _ h4=>?_
 refine ev_new fun b5=>?_
 refine ev_new fun b6=>?_
 refine aC TO [] [] fun _ h7=>?_
 refine aI (aJ ?_)
 refine aJ ?_ (beq_iff_eq.2 (show (↑n:Int)=16 from (by omega)))
 refine aJ ?_ (beq_iff_eq.2 (show (↑n:Int)=16 from (by omega)))
 exact ev_fin ⟨trivial,_,rfl,(),rfl,by trivial,aF [0,1]⟩
theorem appendFull2T (p:Nat) (m s:Int) (A:Option Addr) (n c:Nat) (fv:Value) (B:Option Addr) (k d:Nat) (L:List Fl) (hn:n=L.length) (h1:n≤1000) (x y:ByteArray) (hm:0<m) (hm2:m≤1048576) (hb:sumD L≤1000000000) (hs:riseF L) (ho:oddS x=false) (hh:hasF L x=true) (hy:m-sumD L<(y.size:Int)):Triple Tryz.prog 193 [pP p,.string x,.string y] [Pt p 184 [.int .i64 m,.int .i64 s,.bool false,.slice A n c,fv,.slice B k d],Row 187 3 A n c (L.flatMap encF)] [] (Unit) (fun _=>.int .i64 40) (fun _=>True) (fun _=>[Pt p 184 [.int .i64 m,.int .i64 s,.bool false,.slice A n c,fv,.slice B k d],Row 187 3 A n c (L.flatMap encF)]):=by
 have T1:=askP p m s false A n c fv B k d hm
 have T2:=findT p m s false A n c fv B k d L x hn h1 hs
 rw [hh] at T2
 have TO:=oddT x
 rw [ho] at TO
 have TS:=sizeT p m s false A n c fv B k d L hm hn h1 hb
 refine aT Tryz.func193 [.pt 0 p 0,.va (.string x),.va (.string y)] [.box p 184 [vI m,vI s,.va (.bool false),vL A n c,.va fv,vL B k d],.fact (Row 187 3 A n c (L.flatMap encF))] (fun E=>?_) ⟨rfl,trivial,trivial,trivial⟩
 refine aG ?_
 refine ev_new fun b0=>?_
 refine ev_new fun b1=>?_
 refine ev_new fun b2=>?_
 refine aD T1 [0] [] (fun v0_=>[.box (p) 184 [vI m,vI s,.bl false,vL A n c,.va (fv),vL B k d]]) fun _ h3=>?_
 refine aI ?_
 refine aD T2 [0,1] [] (fun v0_=>[.box (p) 184 [vI m,vI s,.bl false,vL A n c,.va (fv),vL B k d],.fact (Row 187 3 A n c (List.flatMap encF L))]) fun _ h4=>?_
 refine ev_new fun b5=>?_
 refine ev_new fun b6=>?_
 refine aC TO [] [] fun _ h7=>?_
 refine aI (aI ?_)
 refine ev_stop (go_draw Tryz.tbs_ok false [0,2,4] [(0,true),(1,true),(2,true),(3,true),(4,true),(5,true),(6,true),(7,false),(8,false),(9,false),(10,false)] rfl ?_)
 refine aG (aE ?_)
 refine aD TS [0,1] [] (fun v0_=>[.box (p) 184 [vI m,vI s,.bl false,vL A n c,.va (fv),vL B k d],.fact (Row 187 3 A n c (List.flatMap encF L))]) fun _ h8=>?_
 refine aE ?_
 refine w6 ?_
 refine aE (aE (aK ?_))
 refine aJ ?_ (decide_eq_true (by with_reducible assumption))
 exact ev_fin ⟨trivial,_,rfl,(),rfl,by trivial,aF [0,1]⟩
theorem appendFull2F (p:Nat) (m s:Int) (A:Option Addr) (n c:Nat) (fv:Value) (B:Option Addr) (k d:Nat) (L:List Fl) (hn:n=L.length) (h1:n≤1000) (x y:ByteArray) (hm:0<m) (hm2:m≤1048576) (hb:sumD L≤1000000000) (hs:riseF L) (ho:oddS x=false) (hh:hasF L x=false) (hn16:n≠16) (hy:m-sumD L<(y.size:Int)):Triple Tryz.prog 193 [pP p,.string x,.string y] [Pt p 184 [.int .i64 m,.int .i64 s,.bool false,.slice A n c,fv,.slice B k d],Row 187 3 A n c (L.flatMap encF)] [] (Unit) (fun _=>.int .i64 40) (fun _=>True) (fun _=>[Pt p 184 [.int .i64 m,.int .i64 s,.bool false,.slice A n c,fv,.slice B k d],Row 187 3 A n c (L.flatMap encF)]):=by
 have T1:=askP p m s false A n c fv B k d hm
 have T2:=findT p m s false A n c fv B k d L x hn h1 hs
 rw [hh] at T2
 have TO:=oddT x
 rw [ho] at TO
 have TS:=sizeT p m s false A n c fv B k d L hm hn h1 hb
 refine aT Tryz.func193 [.pt 0 p 0,.va (.string x),.va (.string y)] [.box p 184 [vI m,vI s,.va (.bool false),vL A n c,.va fv,vL B k d],.fact (Row 187 3 A n c (L.flatMap encF))] (fun E=>?_) ⟨rfl,trivial,trivial,trivial⟩
 refine aG ?_
 refine ev_new fun b0=>?_
 refine ev_new fun b1=>?_
 refine ev_new fun b2=>?_
 refine aD T1 [0] [] (fun v0_=>[.box (p) 184 [vI m,vI s,.bl false,vL A n c,.va (fv),vL B k d]]) fun _ h3=>?_
 refine aI ?_
 refine aD T2 [0,1] [] (fun v0_=>[.box (p) 184 [vI m,vI s,.bl false,vL A n c,.va (fv),vL B k d],.fact (Row 187 3 A n c (List.flatMap encF L))]) fun _ h4=>?_
 refine ev_new fun b5=>?_
 refine ev_new fun b6=>?_
 refine aC TO [] [] fun _ h7=>?_
 refine aI (aJ ?_)
 refine aI ?_ (beq_eq_false_iff_ne.2 (show ¬(↑n:Int)=16 from (by omega)))
 refine ev_stop (go_draw Tryz.tbs_ok false [0,2,4] [(0,true),(1,true),(2,true),(3,true),(4,true),(5,true),(6,true),(7,false),(8,false),(9,false),(10,false)] rfl ?_)
 refine aG (aE ?_)
 refine aD TS [0,1] [] (fun v0_=>[.box (p) 184 [vI m,vI s,.bl false,vL A n c,.va (fv),vL B k d],.fact (Row 187 3 A n c (List.flatMap encF L))]) fun _ h8=>?_
 refine aE ?_
 refine w6 ?_
 refine aE (aE (aK ?_))
 refine aJ ?_ (decide_eq_true (by with_reducible assumption))
 exact ev_fin ⟨trivial,_,rfl,(),rfl,by trivial,aF [0,1]⟩
theorem startUp (p:Nat) (m s:Int) (A:Option Addr) (n c:Nat) (fv:Value) (B:Option Addr) (k d:Nat) (hm:0<m):Triple Tryz.prog 58 [pP p] [Pt p 184 [.int .i64 m,.int .i64 s,.bool false,.slice A n c,fv,.slice B k d]] [] (Unit) (fun _=>.int .i64 2) (fun _=>True) (fun _=>[Pt p 184 [.int .i64 m,.int .i64 s,.bool false,.slice A n c,fv,.slice B k d]]):=by
 have T1:=askP p m s false A n c fv B k d hm
 refine aT Tryz.func58 [.pt 0 p 0] [.box p 184 [vI m,vI s,.va (.bool false),vL A n c,.va fv,vL B k d]] (fun E=>?_) ⟨rfl,trivial⟩
 refine aG ?_
 refine aD T1 [0] [] (fun v0_=>[.box (p) 184 [vI m,vI s,.bl false,vL A n c,.va (fv),vL B k d]]) fun _ h0=>?_
 refine aI (aJ ?_)
 exact ev_fin ⟨trivial,_,rfl,(),rfl,by trivial,aF [0]⟩
theorem startDown (p:Nat) (m s:Int) (A:Option Addr) (n c:Nat) (fv:Value) (B:Option Addr) (k d:Nat) (hm:0<m) (h0:0≤s) (h1:s≤1000000000):Triple Tryz.prog 58 [pP p] [Pt p 184 [.int .i64 m,.int .i64 s,.bool true,.slice A n c,fv,.slice B k d]] [] (Unit) (fun _=>.int .i64 0) (fun _=>True) (fun _=>[Pt p 184 [.int .i64 m,.int .i64 (s+1),.bool false,.slice A n c,fv,.slice B k d]]):=by
 have T1:=askP p m s true A n c fv B k d hm
 refine aT Tryz.func58 [.pt 0 p 0] [.box p 184 [vI m,vI s,.va (.bool true),vL A n c,.va fv,vL B k d]] (fun E=>?_) ⟨rfl,trivial⟩
 refine aG ?_
 refine aD T1 [0] [] (fun v0_=>[.box (p) 184 [vI m,vI s,.bl true,vL A n c,.va (fv),vL B k d]]) fun _ h0=>?_
 refine aJ ?_
 refine w6 ?_
 exact ev_fin ⟨trivial,_,rfl,(),rfl,by trivial,aF [0]⟩
theorem newOk (z:Int) (hz:1≤z) (hz2:z≤1048576):Triple Tryz.prog 60 [.int .i64 z] [] [] (Nat) (fun p=>.tuple #[pP p,.int .i64 0]) (fun _=>True) (fun p=>[Pt p 184 [.int .i64 z,.int .i64 0,.bool false,.slice none 0 0,.nilFunc,.slice none 0 0]]):=by
 refine aT Tryz.func60 [vI z] [] (fun E=>?_) ⟨trivial,trivial⟩
 refine aG ?_
 refine aI ?_ (decide_eq_false (show ¬z<1 from (by omega)))
 refine aI ?_ (decide_eq_false (show ¬z > 1048576 from (by omega)))
 refine ev_new fun b0=>?_
 exact ev_fin ⟨trivial,_,rfl,(b0),rfl,by trivial,aF [0]⟩
structure DK where
 most:Int
 starts:Int
 down:Bool
 files:List Fl
 fails:Option Int
 keep:List Int
 deriving DecidableEq
def ptD (p:Nat) (m s:Int) (dn:Bool) (A:Option Addr) (n c:Nat) (fv:Value) (B:Option Addr) (k d:Nat):Asn:=Pt p 184 [.int .i64 m,.int .i64 s,.bool dn,.slice A n c,fv,.slice B k d]
def rowF (A:Option Addr) (n c:Nat) (L:List Fl):Asn:=Row 187 3 A n c (L.flatMap encF)
def rowN (B:Option Addr) (k d:Nat) (K:List Int):Asn:=Row 3 1 B k d (K.flatMap encN)
def ptN (nb:Nat) (q:Int):Asn:=Pt nb 3 [.int .i64 q]
def fvOf (f:Option Int) (nb:Nat):Value:=match f with | none=>.nilFunc | some _=>.func (.func 252) #[] #[pP nb]
def failA (f:Option Int) (nb:Nat):List Asn:=match f with | none=>[] | some q=>[ptN nb q]
structure DA where
 A:Option Addr
 c:Nat
 nb:Nat
 B:Option Addr
 d:Nat
def DiskM (p:Nat) (D:DK):Asn:=Asn.ex fun x:DA=>Asn.star ([ptD p D.most D.starts D.down x.A D.files.length x.c (fvOf D.fails x.nb) x.B D.keep.length x.d,rowF x.A D.files.length x.c D.files]++(failA D.fails x.nb++[rowN x.B D.keep.length x.d D.keep]))
theorem DiskM.pre {p:Nat} {D:DK} (h:Hp) (q:Asn.starH [DiskM p D] h):∃ x:DA,Asn.starH ([ptD p D.most D.starts D.down x.A D.files.length x.c (fvOf D.fails x.nb) x.B D.keep.length x.d,rowF x.A D.files.length x.c D.files]++(failA D.fails x.nb++[rowN x.B D.keep.length x.d D.keep])) h:=by
 obtain ⟨x,q⟩:=starH_one.1 q
 exact ⟨x,star_holds.1 q⟩
theorem DiskM.put {p:Nat} {D:DK} (x:DA) {h:Hp} (q:Asn.starH ([ptD p D.most D.starts D.down x.A D.files.length x.c (fvOf D.fails x.nb) x.B D.keep.length x.d,rowF x.A D.files.length x.c D.files]++(failA D.fails x.nb++[rowN x.B D.keep.length x.d D.keep])) h):Asn.starH [DiskM p D] h:=starH_one.2 ⟨x,star_holds.2 q⟩
theorem starH_drop (l:List Asn) (A:Asn) (r:List Asn) {h:Hp} (q:Asn.starH (l++A::r) h):Asn.starH (l++r) h:=by
 induction l generalizing h with
 |
  nil =>
  obtain ⟨h1,h2,d,a,b,p,q⟩:=q
  exact Asn.starH_mono _ b q
 |
  cons B l ih =>
  obtain ⟨h1,h2,d,a,b,p,q⟩:=q
  exact ⟨h1,h2,d,a,b,p,ih q⟩
def chg (D:DK) (late:Bool) (L2:List Fl):DK × Int :=
 match D.fails with
 | none=>(⟨D.most,D.starts,D.down,L2,none,D.keep⟩,0)
 | some q=>if 0<q then (⟨D.most,D.starts,D.down,L2,some (q-1),D.keep⟩,0) else (⟨D.most,D.starts,true,crashF (if late then L2 else D.files) D.keep,none,D.keep⟩,41)
theorem liftChg {p:Nat} {fn:FuncId} {args:List Value} (m s:Int) (L:List Fl) (K:List Int) (late:Bool) (L2:List Fl)
 (hN:∀ A c B d,Triple Tryz.prog fn args [ptD p m s false A L.length c .nilFunc B K.length d,rowF A L.length c L] [] (Option Addr × Nat) (fun _=>.int .i64 0) (fun _=>True) (fun x=>[ptD p m s false x.1 L2.length x.2 .nilFunc B K.length d,rowF x.1 L2.length x.2 L2])) :
 Triple Tryz.prog fn args [DiskM p ⟨m,s,false,L,none,K⟩] [] Unit (fun _=>.int .i64 (chg ⟨m,s,false,L,none,K⟩ late L2).2) (fun _=>True) (fun _=>[DiskM p (chg ⟨m,s,false,L,none,K⟩ late L2).1]):=by
 refine Triple.pre DiskM.pre fun ⟨A,c,nb,B,d⟩=>?_
 exact ((hN A c B d).frame [rowN B K.length d K]).imp fun x _=>⟨(),rfl,trivial,fun h q=>DiskM.put ⟨x.1,x.2,nb,B,d⟩ q⟩
theorem liftAsk {p:Nat} {fn:FuncId} {args:List Value} {X:Type} {ret:X→Value} {good:X→Prop} (D:DK) (N:List Asn)
 (hN:∀ A c fv B d,Triple Tryz.prog fn args [ptD p D.most D.starts D.down A D.files.length c fv B D.keep.length d,rowF A D.files.length c D.files] N X ret good (fun _=>[ptD p D.most D.starts D.down A D.files.length c fv B D.keep.length d,rowF A D.files.length c D.files])) :
 Triple Tryz.prog fn args [DiskM p D] N X ret good (fun _=>[DiskM p D]) :=
 Triple.pre DiskM.pre fun ⟨A,c,nb,B,d⟩=>((hN A c _ B d).frame _).imp fun x hx=>⟨x,rfl,hx,fun _ q=>DiskM.put ⟨A,c,nb,B,d⟩ q⟩
theorem liftPt {p:Nat} {fn:FuncId} {args:List Value} {X:Type} {ret:X→Value} {good:X→Prop} (D:DK) (N:List Asn)
 (hN:∀ A c fv B d,Triple Tryz.prog fn args [ptD p D.most D.starts D.down A D.files.length c fv B D.keep.length d] N X ret good (fun _=>[ptD p D.most D.starts D.down A D.files.length c fv B D.keep.length d])) :
 Triple Tryz.prog fn args [DiskM p D] N X ret good (fun _=>[DiskM p D]) :=
 Triple.pre DiskM.pre fun ⟨A,c,nb,B,d⟩=>((hN A c _ B d).frame _).imp fun x hx=>⟨x,rfl,hx,fun _ q=>DiskM.put ⟨A,c,nb,B,d⟩ q⟩
structure okD (D:DK):Prop where
 most:0<D.most∧D.most≤1048576
 rise:riseF D.files
 sure:∀ f∈D.files,0≤f.s∧f.s≤f.d.size
 room:(sumD D.files:Int)≤D.most
 few:D.files.length≤16
 names:∀ f∈D.files,oddS f.n=false
 fails:D.fails=none
theorem sumD_mem {L:List Fl} {f:Fl} (h:f∈L):f.d.size≤sumD L:=by
 obtain ⟨j,hj,rfl⟩:=List.getElem_of_mem h
 have h1:=sumD_step hj
 have h2:=sumD_take L (j+1)
 omega
theorem okD.okF {D:DK} (h:okD D):Proofs.YtnhoidnmlibcpaaGreatDoor.okF D.files:=fun f hf=>by
 have h1:=h.sure f hf
 have h2:=sumD_mem hf
 have h3:=h.room
 have h4:=h.most
 exact ⟨h1.1,h1.2,by omega⟩
/-! the files behind what is done -/
def setF (L:List Fl) (x:ByteArray) (g:Fl→Fl):List Fl:=match L[posF L x]? with | some f=>L.set (posF L x) (g f) | none=>L
def insF (L:List Fl) (f:Fl):List Fl:=L.take (posF L f.n)++f::L.drop (posF L f.n)
def putFl (L:List Fl) (f:Fl):List Fl:=if hasF L f.n then L.set (posF L f.n) f else insF L f
def appF (L:List Fl) (x y:ByteArray):List Fl:=if hasF L x then setF L x (fun f=>⟨f.n,f.d++y,f.s⟩) else insF L ⟨x,y,0⟩
theorem setF_eq {L:List Fl} {x:ByteArray} {g:Fl→Fl} (h:posF L x<L.length):setF L x g=L.set (posF L x) (g L[posF L x]):=by
 unfold setF
 rw [List.getElem?_eq_getElem h]
def getF (L:List Fl) (x:ByteArray):ByteArray:=match L[posF L x]? with | some f=>f.d | none=>.empty
theorem getF_eq {L:List Fl} {x:ByteArray} (h:posF L x<L.length):getF L x=L[posF L x].d:=by
 unfold getF
 rw [List.getElem?_eq_getElem h]
/-! what the functions do -/
def syncD (D:DK) (x:ByteArray):DK × Int:=if D.down then (D,41) else if hasF D.files x then chg D false (setF D.files x fun f=>⟨f.n,f.d,(f.d.size:Nat)⟩) else (D,4)
def truncD (D:DK) (x:ByteArray) (z:Int):DK × Int:=if D.down then (D,41) else if hasF D.files x then (if z<0∨((getF D.files x).size:Int)<z then (D,2) else chg D false (setF D.files x fun f=>⟨f.n,f.d.extract 0 z.toNat,min f.s z⟩)) else (D,4)
def remD (D:DK) (x:ByteArray):DK × Int:=if D.down then (D,41) else if hasF D.files x then chg D false (D.files.eraseIdx (posF D.files x)) else (D,4)
def appD (D:DK) (x y:ByteArray):DK × Int:=if D.down then (D,41) else if oddS x then (D,2) else if (hasF D.files x=false∧D.files.length=16)∨D.most-sumD D.files<(y.size:Int) then (D,40) else chg D true (appF D.files x y)
def readD (D:DK) (x:ByteArray):ByteArray × Int:=if D.down then (.empty,41) else if hasF D.files x then (getF D.files x,0) else (.empty,4)
def crashD (D:DK) (K:List Int):DK × Int:=if D.down then (D,41) else (⟨D.most,D.starts,true,crashF D.files K,none,D.keep⟩,0)
def startD (D:DK):DK × Int:=if D.down then (⟨D.most,D.starts+1,false,D.files,D.fails,D.keep⟩,0) else (D,2)
theorem syncM (p:Nat) (D:DK) (x:ByteArray) (ok:okD D):Triple Tryz.prog 160 [pP p,.string x] [DiskM p D] [] Unit (fun _=>.int .i64 (syncD D x).2) (fun _=>True) (fun _=>[DiskM p (syncD D x).1]):=by
 have hF:=ok.okF
 have hs:=ok.rise
 have hm:=ok.most.1
 have h1:D.files.length≤1000:=Nat.le_trans ok.few (by decide)
 have hfl:=ok.fails
 obtain ⟨m,s,dn,L,fl,K⟩:=D
 obtain rfl:fl=none:=hfl
 simp only [syncD]
 cases dn with
 | true=>exact liftPt ⟨m,s,true,L,none,K⟩ [] fun A c fv B d=>syncDown p m s A L.length c fv B K.length d x hm
 |
  false =>
  simp only [Bool.false_eq_true,if_false]
  cases hh:hasF L x with
  | false=>exact liftAsk ⟨m,s,false,L,none,K⟩ [] fun A c fv B d=>syncGone p m s A L.length c fv B K.length d L rfl h1 x hm hs hh
  |
   true =>
   obtain ⟨hi,_⟩:=has_pos hs hh
   rw [if_pos rfl,setF_eq hi]
   refine liftChg m s L K false _ (fun A c B d=>?_)
   exact (syncN p m s A L.length c B K.length d L rfl h1 x hh hi hF hm hs).imp fun _ _=>⟨(A,c),rfl,trivial,fun h q=>by rw [List.length_set];exact q⟩
theorem truncM (p:Nat) (D:DK) (x:ByteArray) (z:Int) (ok:okD D):Triple Tryz.prog 214 [pP p,.string x,.int .i64 z] [DiskM p D] [] Unit (fun _=>.int .i64 (truncD D x z).2) (fun _=>True) (fun _=>[DiskM p (truncD D x z).1]):=by
 have hF:=ok.okF
 have hs:=ok.rise
 have hm:=ok.most.1
 have h1:D.files.length≤1000:=Nat.le_trans ok.few (by decide)
 have hfl:=ok.fails
 obtain ⟨m,s,dn,L,fl,K⟩:=D
 obtain rfl:fl=none:=hfl
 simp only [truncD]
 cases dn with
 | true=>exact liftPt ⟨m,s,true,L,none,K⟩ [] fun A c fv B d=>truncDown p m s A L.length c fv B K.length d x z hm
 |
  false =>
  simp only [Bool.false_eq_true,if_false]
  cases hh:hasF L x with
  | false=>exact liftAsk ⟨m,s,false,L,none,K⟩ [] fun A c fv B d=>truncGone p m s A L.length c fv B K.length d L rfl h1 x z hm hs hh
  |
   true =>
   obtain ⟨hi,_⟩:=has_pos hs hh
   rw [if_pos rfl]
   rw [getF_eq hi]
   by_cases hz:z<0∨((L[posF L x].d.size:Nat):Int)<z
   · rw [if_pos hz]
     exact liftAsk ⟨m,s,false,L,none,K⟩ [] fun A c fv B d=>truncArg p m s A L.length c fv B K.length d L rfl h1 x z hm hs hh hi hz
   rw [if_neg hz,setF_eq hi]
   have hz1:0≤z:=by omega
   have hz2:z≤L[posF L x].d.size:=by omega
   refine liftChg m s L K false _ (fun A c B d=>?_)
   exact (truncN p m s A L.length c B K.length d L rfl h1 x z hh hi hF hz1 hz2 hm hs).imp fun _ _=>⟨(A,c),rfl,trivial,fun h q=>by rw [List.length_set];exact q⟩
theorem remM (p:Nat) (D:DK) (x:ByteArray) (ok:okD D):Triple Tryz.prog 209 [pP p,.string x] [DiskM p D] [] Unit (fun _=>.int .i64 (remD D x).2) (fun _=>True) (fun _=>[DiskM p (remD D x).1]):=by
 have hF:=ok.okF
 have hs:=ok.rise
 have hm:=ok.most.1
 have h1:D.files.length≤1000:=Nat.le_trans ok.few (by decide)
 have hfl:=ok.fails
 obtain ⟨m,s,dn,L,fl,K⟩:=D
 obtain rfl:fl=none:=hfl
 simp only [remD]
 cases dn with
 | true=>exact liftPt ⟨m,s,true,L,none,K⟩ [] fun A c fv B d=>removeDown p m s A L.length c fv B K.length d x hm
 |
  false =>
  simp only [Bool.false_eq_true,if_false]
  cases hh:hasF L x with
  | false=>exact liftAsk ⟨m,s,false,L,none,K⟩ [] fun A c fv B d=>removeGone p m s A L.length c fv B K.length d L rfl h1 x hm hs hh
  |
   true =>
   obtain ⟨hi,_⟩:=has_pos hs hh
   rw [if_pos rfl]
   have hl:(L.eraseIdx (posF L x)).length=L.length-1:=by rw [List.length_eraseIdx_of_lt hi]
   refine liftChg m s L K false _ (fun A c B d=>?_)
   exact (removeN p m s A L.length c B K.length d L rfl h1 x hh hi hF hm hs).imp fun _ _=>⟨(A,c),rfl,trivial,fun h q=>by rw [hl];exact q⟩
theorem starH_tail {A:Asn} {l l':List Asn} (hl:∀ h,Asn.starH l h→Asn.starH l' h) {h:Hp} (q:Asn.starH (A::l) h):Asn.starH (A::l') h:=by
 obtain ⟨h1,h2,d,a,b,p,q⟩:=q
 exact ⟨h1,h2,d,a,b,p,hl _ q⟩
theorem starH_sink (l:List Asn) {A:Asn} {h:Hp} (q:Asn.starH (A::l) h):Asn.starH (l++[A]) h:=by
 induction l generalizing h with
 | nil=>exact q
 | cons B l ih=>exact starH_tail (fun h q=>ih q) (starH_swap q)
theorem insF_len (L:List Fl) (f:Fl):(insF L f).length=L.length+1:=by
 have hp:=posF_le L f.n
 unfold insF
 simp only [List.length_append,List.length_take,List.length_cons,List.length_drop]
 omega
theorem insF_mem {L:List Fl} {f g:Fl} (h:g∈insF L f):g=f∨g∈L:=by
 unfold insF at h
 rcases List.mem_append.1 h with h | h
 · exact .inr (List.mem_of_mem_take h)
 rcases List.mem_cons.1 h with h | h
 · exact .inl h
 exact .inr (List.mem_of_mem_drop h)
theorem appM (p:Nat) (D:DK) (x y:ByteArray) (ok:okD D) (hy:y.size≤100000000):Triple Tryz.prog 193 [pP p,.string x,.string y] [DiskM p D] [] Unit (fun _=>.int .i64 (appD D x y).2) (fun _=>True) (fun _=>[DiskM p (appD D x y).1]):=by
 have hF:=ok.okF
 have hs:=ok.rise
 have hm:=ok.most.1
 have hm2:=ok.most.2
 have hfew:=ok.few
 have hroom:=ok.room
 have h1:D.files.length≤1000:=Nat.le_trans ok.few (by decide)
 have hfl:=ok.fails
 obtain ⟨m,s,dn,L,fl,K⟩:=D
 obtain rfl:fl=none:=hfl
 replace hF:okF L:=hF
 replace hs:riseF L:=hs
 replace hm:0<m:=hm
 replace hm2:m≤1048576:=hm2
 replace hfew:L.length≤16:=hfew
 replace hroom:(sumD L:Int)≤m:=hroom
 replace h1:L.length≤1000:=h1
 simp only [appD]
 have hb:sumD L≤1000000000:=by omega
 cases dn with
 | true=>exact liftPt ⟨m,s,true,L,none,K⟩ [] fun A c fv B d=>appendDown p m s A L.length c fv B K.length d x y hm
 |
  false =>
  simp only [Bool.false_eq_true,if_false]
  cases ho:oddS x with
  | true=>exact liftAsk ⟨m,s,false,L,none,K⟩ [] fun A c fv B d=>appendArg p m s A L.length c fv B K.length d L rfl h1 x y hm hs ho
  |
   false =>
   rw [if_neg (by decide)]
   cases hh:hasF L x with
   |
    true =>
    obtain ⟨hi,_⟩:=has_pos hs hh
    have hFi:=hF _ (List.getElem_mem hi)
    have ha:appF L x y=L.set (posF L x) ⟨L[posF L x].n,L[posF L x].d++y,L[posF L x].s⟩:=by
     unfold appF
     rw [if_pos hh,setF_eq hi]
    by_cases hz:m-sumD L<(y.size:Int)
    · rw [if_pos (.inr hz)]
      exact liftAsk ⟨m,s,false,L,none,K⟩ [] fun A c fv B d=>appendFull2T p m s A L.length c fv B K.length d L rfl h1 x y hm hm2 hb hs ho hh hz
    rw [if_neg (by
     rintro (⟨h,_⟩ | h); · cases h
     exact hz h),ha]
    have hy2:(y.size:Int)≤m-sumD L:=by omega
    have hz2:L[posF L x].d.size+y.size≤1000000000:=by
     have:=sumD_mem (List.getElem_mem hi)
     omega
    have hF2:okF (L.set (posF L x) ⟨L[posF L x].n,L[posF L x].d++y,L[posF L x].s⟩):=fun f hf=>by
     rcases List.mem_or_eq_of_mem_set hf with hf | rfl
     · exact hF f hf
     simp only [ByteArray.size_append]
     omega
    refine liftChg m s L K true _ (fun A c B d=>?_)
    exact (appendTN p m s A L.length c B K.length d L rfl h1 x y hh ho hb hm2 hy2 hi hz2 hF2 hm hs).imp fun _ _=>⟨(A,c),rfl,trivial,fun h q=>by rw [List.length_set];exact q⟩
   |
    false =>
    by_cases h16:L.length=16
    · rw [if_pos (.inl ⟨rfl,h16⟩)]
      exact liftAsk ⟨m,s,false,L,none,K⟩ [] fun A c fv B d=>appendFull1 p m s A L.length c fv B K.length d L rfl h1 x y hm hs ho hh h16
    by_cases hz:m-sumD L<(y.size:Int)
    · rw [if_pos (.inr hz)]
      exact liftAsk ⟨m,s,false,L,none,K⟩ [] fun A c fv B d=>appendFull2F p m s A L.length c fv B K.length d L rfl h1 x y hm hm2 hb hs ho hh h16 hz
    have ha:appF L x y=insF L ⟨x,y,0⟩:=by
     unfold appF
     rw [if_neg (by rw [hh];decide)]
    rw [if_neg (by
     rintro (⟨_,h⟩ | h); · exact h16 h
     exact hz h),ha]
    have hy2:(y.size:Int)≤m-sumD L:=by omega
    have hF2:okF (insF L ⟨x,y,0⟩):=fun f hf=>by
     rcases insF_mem hf with rfl | hf
     · exact ⟨Int.le_refl _,Int.natCast_nonneg _,by simp only;omega⟩
     exact hF f hf
    have hl:=insF_len L ⟨x,y,0⟩
    have h999:L.length≤999:=by omega
    refine liftChg m s L K true _ (fun A c B d=>?_)
    exact (appendFN p m s A L.length c B K.length d L rfl h1 x y hh ho hb hm2 hy2 h16 h999 hF2 hm hs).imp fun (A2,c2) _=>⟨(A2,c2),rfl,trivial,fun h q=>by rw [hl];exact q⟩
theorem readM (p:Nat) (D:DK) (x:ByteArray) (ok:okD D):Triple Tryz.prog 212 [pP p,.string x] [DiskM p D] [] Unit (fun _=>.tuple #[.string (readD D x).1,.int .i64 (readD D x).2]) (fun _=>True) (fun _=>[DiskM p D]):=by
 have hs:=ok.rise
 have hm:=ok.most.1
 have h1:D.files.length≤1000:=Nat.le_trans ok.few (by decide)
 obtain ⟨m,s,dn,L,fl,K⟩:=D
 simp only [readD]
 cases dn with
 | true=>exact liftPt ⟨m,s,true,L,fl,K⟩ [] fun A c fv B d=>readDown p m s A L.length c fv B K.length d x hm
 |
  false =>
  simp only [Bool.false_eq_true,if_false]
  cases hh:hasF L x with
  | false=>exact liftAsk ⟨m,s,false,L,fl,K⟩ [] fun A c fv B d=>readGone p m s A L.length c fv B K.length d L rfl h1 x hm hs hh
  |
   true =>
   obtain ⟨hi,_⟩:=has_pos hs hh
   rw [if_pos rfl,getF_eq hi]
   exact liftAsk ⟨m,s,false,L,fl,K⟩ [] fun A c fv B d=>readT p m s A L.length c fv B K.length d L rfl h1 x hm hs hh hi
theorem upM (p:Nat) (D:DK) (ok:okD D):Triple Tryz.prog 156 [pP p] [DiskM p D] [] Unit (fun _=>.bool (!D.down)) (fun _=>True) (fun _=>[DiskM p D]) :=
 liftPt D [] fun A c fv B d=>upT p D.most D.starts D.down A D.files.length c fv B D.keep.length d ok.most.1
theorem startsM (p:Nat) (D:DK) (ok:okD D):Triple Tryz.prog 157 [pP p] [DiskM p D] [] Unit (fun _=>.int .i64 D.starts) (fun _=>True) (fun _=>[DiskM p D]) :=
 liftPt D [] fun A c fv B d=>startsT p D.most D.starts D.down A D.files.length c fv B D.keep.length d ok.most.1
theorem namesM (p:Nat) (D:DK) (ok:okD D):Triple Tryz.prog 149 [pP p] [DiskM p D] [] (Option Addr × Nat) (fun (C,e)=>.slice C D.files.length e) (fun _=>True) (fun (C,e)=>[DiskM p D,Row 9 1 C D.files.length e ((D.files.map nameEG).flatMap encS)]) :=
 Triple.pre DiskM.pre fun ⟨A,c,nb,B,d⟩=>((namesT p D.most D.starts D.down A D.files.length c (fvOf D.fails nb) B D.keep.length d D.files ok.most.1 rfl (Nat.le_trans ok.few (by decide))).frame (failA D.fails nb++[rowN B D.keep.length d D.keep])).imp fun (C,e) _=>⟨(C,e),rfl,trivial,fun h q=>by
  have q2:=starH_tail (fun h q=>starH_tail (fun h q=>starH_sink (failA D.fails nb++[rowN B D.keep.length d D.keep]) q) q) q
  obtain ⟨h1,h2,d1,a,b,p1,p2⟩:=(starH_append (_::_::(failA D.fails nb++[rowN B D.keep.length d D.keep])) [_]).1 q2
  exact ⟨h1,h2,d1,a,b,starH_one.1 (DiskM.put ⟨A,c,nb,B,d⟩ p1),p2⟩⟩
theorem crashM (p:Nat) (D:DK) (Q:Option Addr) (kq dq:Nat) (K:List Int) (ok:okD D) (hk:kq=K.length):Triple Tryz.prog 55 [pP p,.slice Q kq dq] [DiskM p D] [Rd 1 Q kq (K.flatMap encN)] Unit (fun _=>.int .i64 (crashD D K).2) (fun _=>True) (fun _=>[DiskM p (crashD D K).1]):=by
 have hF:=ok.okF
 have hm:=ok.most.1
 have h1:D.files.length≤1000:=Nat.le_trans ok.few (by decide)
 obtain ⟨m,s,dn,L,fl,K0⟩:=D
 simp only [crashD]
 cases dn with
 | true=>exact (liftPt ⟨m,s,true,L,fl,K0⟩ [] fun A c fv B d=>crashDown p m s A L.length c fv B K0.length d Q kq dq hm).reads (fun _ h=>(by cases h))
 |
  false =>
  simp only [Bool.false_eq_true,if_false]
  refine Triple.pre DiskM.pre fun ⟨A,c,nb,B,d⟩=>((crashT p m s A L.length c (fvOf fl nb) B K0.length d L Q kq dq K hm rfl h1 hk hF).frame _).imp fun _ _=>⟨(),rfl,trivial,fun h q=>DiskM.put ⟨A,c,nb,B,d⟩ ?_⟩
  simp only [crashF_len]
  cases fl with
  | none=>exact q
  | some z=>exact starH_drop [_,_] _ [_] q
theorem startM (p:Nat) (D:DK) (ok:okD D) (h0:0≤D.starts) (h1:D.starts≤1000000000):Triple Tryz.prog 58 [pP p] [DiskM p D] [] Unit (fun _=>.int .i64 (startD D).2) (fun _=>True) (fun _=>[DiskM p (startD D).1]):=by
 have hm:=ok.most.1
 obtain ⟨m,s,dn,L,fl,K⟩:=D
 simp only [startD]
 cases dn with
 | false=>exact liftPt ⟨m,s,false,L,fl,K⟩ [] fun A c fv B d=>startUp p m s A L.length c fv B K.length d hm
 | true=>exact Triple.pre DiskM.pre fun ⟨A,c,nb,B,d⟩=>((startDown p m s A L.length c (fvOf fl nb) B K.length d hm h0 h1).frame _).imp fun _ _=>⟨(),rfl,trivial,fun h q=>DiskM.put ⟨A,c,nb,B,d⟩ q⟩
theorem newM (z:Int) (hz:1≤z) (hz2:z≤1048576):Triple Tryz.prog 60 [.int .i64 z] [] [] Nat (fun p=>.tuple #[pP p,.int .i64 0]) (fun _=>True) (fun p=>[DiskM p ⟨z,0,false,[],none,[]⟩]) :=
 (newOk z hz hz2).imp fun p _=>⟨p,rfl,trivial,fun h q=>DiskM.put ⟨none,0,0,none,0⟩ ⟨h,Hp.emp,(Hp.emp_dis _).symm,Hp.le_refl _,Hp.emp_le _,starH_one.1 q,⟨Hp.emp,Hp.emp,Hp.emp_dis _,Hp.emp_le _,Hp.emp_le _,Row.nil _ _ _,starH_one.2 (Row.nil _ _ _)⟩⟩⟩
theorem posF_split {L:List Fl} (hs:riseF L) (x:ByteArray):(∀ y∈L.take (posF L x),ltS y.n x)∧∀ y∈L.drop (posF L x),¬ ltS y.n x:=by
 induction L with
 | nil=>exact ⟨fun y h=>by simp at h,fun y h=>by simp at h⟩
 |
  cons z L ih =>
  obtain ⟨h1,h2⟩:=List.pairwise_cons.1 hs
  obtain ⟨i1,i2⟩:=ih h2
  by_cases hz:ltS z.n x
  · have:posF (z::L) x=posF L x+1:=by unfold posF;rw [List.countP_cons];simp [hz]
    rw [this]
    refine ⟨fun y hy=>?_,fun y hy=>i2 y (by simpa using hy)⟩
    rw [List.take_succ_cons] at hy
    rcases List.mem_cons.1 hy with rfl | hy
    · exact hz
    exact i1 y hy
  have hn:∀ y∈z::L,¬ ltS y.n x:=fun y hy=>by
   rcases List.mem_cons.1 hy with rfl | hy
   · exact hz
   exact fun h=>hz ((h1 y hy).trans h)
  have:posF (z::L) x=0:=by
   unfold posF
   exact List.countP_eq_zero.2 fun y hy=>by simpa using hn y hy
  rw [this]
  exact ⟨fun y hy=>by simp at hy,fun y hy=>hn y (by simpa using hy)⟩
theorem hasF_iff {L:List Fl} {x:ByteArray}:hasF L x=true↔∃ f∈L,f.n=x:=by
 unfold hasF
 rw [List.any_eq_true]
 simp
theorem hasF_no {L:List Fl} {x:ByteArray}:hasF L x=false↔∀ f∈L,f.n≠x:=by
 unfold hasF
 rw [List.any_eq_false]
 simp
theorem riseF_ins {L:List Fl} (hs:riseF L) {f:Fl} (h:hasF L f.n=false):riseF (insF L f):=by
 obtain ⟨h1,h2⟩:=posF_split hs f.n
 unfold insF riseF
 rw [List.pairwise_append,List.pairwise_cons]
 have hlt:∀ y∈L.drop (posF L f.n),ltS f.n y.n:=fun y hy=>by
  by_cases h3:ltS f.n y.n
  · exact h3
  exact absurd (ltS.total (h2 y hy) h3) (hasF_no.1 h y (List.mem_of_mem_drop hy))
 refine ⟨hs.sublist (List.take_sublist _ _),⟨hlt,hs.sublist (List.drop_sublist _ _)⟩,fun y hy z hz=>?_⟩
 rcases List.mem_cons.1 hz with rfl | hz
 · exact h1 y hy
 exact (h1 y hy).trans (hlt z hz)
theorem riseF_names {L M:List Fl} (e:M.map (·.n)=L.map (·.n)) (hs:riseF L):riseF M:=by
 unfold riseF at *
 have h1:(L.map (·.n)).Pairwise ltS:=List.pairwise_map.2 hs
 rw [←e] at h1
 exact List.pairwise_map.1 h1
theorem set_names {L:List Fl} {i:Nat} (h:i<L.length) {f:Fl} (e:f.n=L[i].n):(L.set i f).map (·.n)=L.map (·.n):=by
 rw [List.map_set]
 apply List.ext_getElem
 · simp
 intro q h1 h2
 rw [List.getElem_set]
 split
 · rename_i e2;subst e2;simp [e]
 rfl
theorem setF_names {L:List Fl} {x:ByteArray} {g:Fl→Fl} (hg:∀ f,(g f).n=f.n):(setF L x g).map (·.n)=L.map (·.n):=by
 unfold setF
 split
 · rename_i f hf
   obtain ⟨h,rfl⟩:=List.getElem?_eq_some_iff.1 hf
   exact set_names h (hg _)
 rfl
theorem crashF_names (L:List Fl) (K:List Int):(crashF L K).map (·.n)=L.map (·.n):=by
 apply List.ext_getElem
 · simp [crashF_len]
 intro q h1 h2
 have hq:q<L.length:=by simpa using h2
 rw [List.getElem_map,List.getElem_map,crashF_at L K hq]
 unfold keep1
 split<;>rfl
/-! how many bytes -/
theorem sumD_cons (f:Fl) (L:List Fl):sumD (f::L)=f.d.size+sumD L:=by unfold sumD;simp
theorem sumD_append (L M:List Fl):sumD (L++M)=sumD L+sumD M:=by unfold sumD;simp
theorem sumD_split {L:List Fl} {i:Nat} (h:i<L.length):sumD L=sumD (L.take i)+L[i].d.size+sumD (L.drop (i+1)):=by
 conv=>lhs;rw [←List.take_append_drop i L,List.drop_eq_getElem_cons h]
 rw [sumD_append,sumD_cons]
 omega
theorem sumD_set {L:List Fl} {i:Nat} (h:i<L.length) (f:Fl):sumD (L.set i f)+L[i].d.size=sumD L+f.d.size:=by
 have h2:i<(L.set i f).length:=by rw [List.length_set];exact h
 rw [sumD_split h,sumD_split h2,List.getElem_set_self,List.take_set,List.drop_set_of_lt (by omega),List.set_eq_of_length_le (by rw [List.length_take];omega)]
 omega
theorem sumD_erase {L:List Fl} {i:Nat} (h:i<L.length):sumD (L.eraseIdx i)+L[i].d.size=sumD L:=by
 rw [sumD_split h,List.eraseIdx_eq_take_drop_succ,sumD_append]
 omega
theorem sumD_ins (L:List Fl) (f:Fl):sumD (insF L f)=sumD L+f.d.size:=by
 unfold insF
 conv=>rhs;rw [←List.take_append_drop (posF L f.n) L]
 rw [sumD_append,sumD_append,sumD_cons]
 omega
theorem sumD_le {L M:List Fl} (hl:M.length=L.length) (h:∀ i (h1:i<M.length) (h2:i<L.length),M[i].d.size≤L[i].d.size):sumD M≤sumD L:=by
 induction L generalizing M with
 | nil=>rw [List.eq_nil_of_length_eq_zero hl];exact Nat.le_refl _
 |
  cons x L ih =>
  cases M with
  | nil=>cases hl
  |
   cons y M =>
   rw [sumD_cons,sumD_cons]
   have h0:=h 0 (by simp) (by simp)
   have:=ih (M:=M) (by simpa using hl) fun i h1 h2=>h (i+1) (by simpa using h1) (by simpa using h2)
   simp only [List.getElem_cons_zero] at h0
   omega
theorem keep1_ok {f:Fl} (h0:0≤f.s) (h1:f.s≤f.d.size) (k:Option Int):0≤(keep1 k f).s∧(keep1 k f).s=(keep1 k f).d.size∧(keep1 k f).d.size≤f.d.size∧f.s≤(keep1 k f).s:=by
 unfold keep1
 split
 · simp only [ByteArray.size_extract]
   omega
 simp only [ByteArray.size_extract]
 omega
/-! that files stay as they ought to be -/
structure okL (m:Int) (L:List Fl):Prop where
 rise:riseF L
 sure:∀ f∈L,0≤f.s∧f.s≤f.d.size
 room:(sumD L:Int)≤m
 few:L.length≤16
 names:∀ f∈L,oddS f.n=false
theorem okD.okL {D:DK} (h:okD D):Proofs.YtnhoidnmlibcpaaGreatDoor.okL D.most D.files:=⟨h.rise,h.sure,h.room,h.few,h.names⟩
theorem okL.crash {m:Int} {L:List Fl} (h:okL m L) (K:List Int):okL m (crashF L K):=by
 have hk:∀ i (h1:i<(crashF L K).length) (h2:i<L.length),(crashF L K)[i].d.size≤L[i].d.size:=fun i h1 h2=>by
  rw [crashF_at L K h2]
  have:=h.sure _ (List.getElem_mem h2)
  exact (keep1_ok this.1 this.2 _).2.2.1
 refine ⟨riseF_names (crashF_names L K) h.rise,fun f hf=>?_,?_,by rw [crashF_len];exact h.few,fun f hf=>?_⟩
 · obtain ⟨i,hi,rfl⟩:=List.getElem_of_mem hf
   rw [crashF_len] at hi
   rw [crashF_at L K hi]
   have:=h.sure _ (List.getElem_mem hi)
   have:=keep1_ok this.1 this.2 K[i]?
   omega
 · have:=sumD_le (crashF_len L K) hk
   have:=h.room
   omega
 have:f.n∈(crashF L K).map (·.n):=List.mem_map_of_mem hf
 rw [crashF_names] at this
 obtain ⟨g,hg,e⟩:=List.mem_map.1 this
 rw [←e]
 exact h.names g hg
theorem okL.set {m:Int} {L:List Fl} (h:okL m L) {x:ByteArray} {g:Fl→Fl} (hi:posF L x<L.length) (hg:(g L[posF L x]).n=L[posF L x].n) (hs:0≤(g L[posF L x]).s∧(g L[posF L x]).s≤(g L[posF L x]).d.size) (hr:(sumD L:Int)+(g L[posF L x]).d.size≤m+L[posF L x].d.size):okL m (setF L x g):=by
 rw [setF_eq hi]
 refine ⟨riseF_names (set_names hi hg) h.rise,fun f hf=>?_,?_,by rw [List.length_set];exact h.few,fun f hf=>?_⟩
 · rcases List.mem_or_eq_of_mem_set hf with hf | rfl
   · exact h.sure f hf
   exact hs
 · have:=sumD_set hi (g L[posF L x])
   omega
 rcases List.mem_or_eq_of_mem_set hf with hf | rfl
 · exact h.names f hf
 rw [hg];exact h.names _ (List.getElem_mem hi)
theorem okL.erase {m:Int} {L:List Fl} (h:okL m L) {i:Nat} (hi:i<L.length):okL m (L.eraseIdx i):=by
 have hs:(L.eraseIdx i).Sublist L:=List.eraseIdx_sublist _ _
 have:=sumD_erase hi
 have hr:=h.room
 exact ⟨h.rise.sublist hs,fun f hf=>h.sure f (hs.subset hf),by omega,Nat.le_trans hs.length_le h.few,fun f hf=>h.names f (hs.subset hf)⟩
theorem okL.put {m:Int} {L:List Fl} (h:okL m L) {f:Fl} (hl:L.length<16) (ho:oddS f.n=false) (hs:0≤f.s∧f.s≤f.d.size) (hr:(sumD L:Int)+f.d.size≤m):okL m (putFl L f):=by
 unfold putFl
 cases hh:hasF L f.n with
 |
  true =>
  obtain ⟨hi,e⟩:=has_pos h.rise hh
  rw [if_pos rfl]
  have:=sumD_set hi f
  refine ⟨riseF_names (set_names hi e.symm) h.rise,fun g hg=>?_,by omega,by rw [List.length_set];exact h.few,fun g hg=>?_⟩
  · rcases List.mem_or_eq_of_mem_set hg with hg | rfl
    · exact h.sure g hg
    exact hs
  rcases List.mem_or_eq_of_mem_set hg with hg | rfl
  · exact h.names g hg
  exact ho
 |
  false =>
  rw [if_neg (by decide)]
  refine ⟨riseF_ins h.rise hh,fun g hg=>?_,by rw [sumD_ins];omega,by rw [insF_len];omega,fun g hg=>?_⟩
  · rcases insF_mem hg with rfl | hg
    · exact hs
    exact h.sure g hg
  rcases insF_mem hg with rfl | hg
  · exact ho
  exact h.names g hg
theorem okD.of {D:DK} (h1:0<D.most∧D.most≤1048576) (h2:Proofs.YtnhoidnmlibcpaaGreatDoor.okL D.most D.files) (h3:D.fails=none):okD D:=⟨h1,h2.rise,h2.sure,h2.room,h2.few,h2.names,h3⟩
theorem chg_ok {D:DK} (h:okD D) (late:Bool) {L2:List Fl} (h2:okL D.most L2):okD (chg D late L2).1:=by
 unfold chg
 rw [h.fails]
 exact okD.of h.most h2 rfl
theorem sync_ok {D:DK} (h:okD D) (x:ByteArray):okD (syncD D x).1:=by
 unfold syncD
 split
 · exact h
 split
 · rename_i hh
   obtain ⟨hi,_⟩:=has_pos h.rise hh
   have:=h.room
   exact chg_ok h _ (h.okL.set hi rfl ⟨Int.natCast_nonneg _,Int.le_refl _⟩ (by simp only;omega))
 exact h
theorem trunc_ok {D:DK} (h:okD D) (x:ByteArray) (z:Int):okD (truncD D x z).1:=by
 unfold truncD
 split
 · exact h
 split
 · rename_i hh
   obtain ⟨hi,_⟩:=has_pos h.rise hh
   have hr:=h.room
   have hs:=h.sure _ (List.getElem_mem hi)
   split
   · exact h
   rename_i hz
   rw [getF_eq hi] at hz
   refine chg_ok h _ (h.okL.set hi rfl ?_ ?_)
   · simp only [ByteArray.size_extract]
     omega
   simp only [ByteArray.size_extract]
   omega
 exact h
theorem rem_ok {D:DK} (h:okD D) (x:ByteArray):okD (remD D x).1:=by
 unfold remD
 split
 · exact h
 split
 · rename_i hh
   obtain ⟨hi,_⟩:=has_pos h.rise hh
   exact chg_ok h _ (h.okL.erase hi)
 exact h
theorem appF_sum {L:List Fl} (hs:riseF L) (x y:ByteArray):sumD (appF L x y)=sumD L+y.size:=by
 unfold appF
 split
 · rename_i hh
   obtain ⟨hi,_⟩:=has_pos hs hh
   rw [setF_eq hi]
   have:=sumD_set hi ⟨L[posF L x].n,L[posF L x].d++y,L[posF L x].s⟩
   simp only [ByteArray.size_append] at this
   omega
 rw [sumD_ins]
theorem appF_ok {m:Int} {L:List Fl} (h:okL m L) {x y:ByteArray} (ho:oddS x=false) (hn:hasF L x=true∨L.length≠16) (hr:(y.size:Int)≤m-sumD L):okL m (appF L x y):=by
 unfold appF
 cases hh:hasF L x with
 |
  true =>
  obtain ⟨hi,_⟩:=has_pos h.rise hh
  have hs:=h.sure _ (List.getElem_mem hi)
  rw [if_pos rfl]
  refine h.set hi rfl ?_ ?_
  · simp only [ByteArray.size_append]
    omega
  simp only [ByteArray.size_append]
  omega
 |
  false =>
  rw [if_neg (by decide)]
  have h3:=h.few
  have hn:L.length≠16:=by
   rcases hn with hn | hn
   · rw [hh] at hn;cases hn
   exact hn
  have:=h.put (f:=⟨x,y,0⟩) (by omega) ho ⟨Int.le_refl _,Int.natCast_nonneg _⟩ (by simp only;omega)
  unfold putFl at this
  rwa [if_neg (by simp only [hh];decide)] at this
theorem app_ok {D:DK} (h:okD D) (x y:ByteArray):okD (appD D x y).1:=by
 unfold appD
 split
 · exact h
 split
 · exact h
 rename_i ho
 split
 · exact h
 rename_i hf
 refine chg_ok h _ (appF_ok h.okL (by simpa using ho) ?_ (by omega))
 cases hh:hasF D.files x with
 | true=>exact .inl rfl
 | false=>exact .inr fun e=>hf (.inl ⟨hh,e⟩)
theorem crash_ok {D:DK} (h:okD D) (K:List Int):okD (crashD D K).1:=by
 unfold crashD
 split
 · exact h
 exact okD.of h.most (h.okL.crash K) rfl
theorem start_ok {D:DK} (h:okD D):okD (startD D).1:=by
 unfold startD
 split
 · exact okD.of h.most h.okL h.fails
 exact h
theorem new_ok {z:Int} (h1:1≤z) (h2:z≤1048576):okD ⟨z,0,false,[],none,[]⟩ :=
 okD.of ⟨by simp only;omega,h2⟩ ⟨List.Pairwise.nil,fun f h=>(by cases h),by simp [sumD];omega,Nat.zero_le _,fun f h=>(by cases h)⟩ rfl
end Go.Proofs.YtnhoidnmlibcpaaGreatDoor
namespace Go.Proofs
open Go.Shelf
def Tryz.laysM171_ren:Go.Shelf.Ren:=⟨fun | 171=>147 | 243=>202 | 246=>247 | 283=>280 | 284=>281 | 285=>282 | 286=>283 | 129=>269 | 317=>292 | 318=>293 | 319=>294 | 320=>295 | 337=>298 | 338=>299 | n=>n,fun | 3=>3 | 9=>9 | 2=>2 | 4=>4 | 171=>361 | 0=>0 | 53=>323 | 37=>225 | 5=>5 | 173=>363 | 212=>373 | 51=>350 | 20=>20 | 213=>374 | 46=>255 | 232=>379 | 233=>380 | n=>n,fun | 17=>1 | 18=>2 | 19=>3 | n=>n⟩
theorem Tryz.laysM171:Go.Proofs.LaysM.n171 Tryz.prog Tryz.laysM171_ren:={
 mixed:=by kernel_rfl
 f129:=Tryz.func269.trans (congrArg some (by kernel_rfl))
 f171:=Tryz.func147.trans (congrArg some (by kernel_rfl))
 f243:=Tryz.func202.trans (congrArg some (by kernel_rfl))
 f246:=Tryz.func247.trans (congrArg some (by kernel_rfl))
 f283:=Tryz.func280.trans (congrArg some (by kernel_rfl))
 f284:=Tryz.func281.trans (congrArg some (by kernel_rfl))
 f285:=Tryz.func282.trans (congrArg some (by kernel_rfl))
 f286:=Tryz.func283.trans (congrArg some (by kernel_rfl))
 f317:=Tryz.func292.trans (congrArg some (by kernel_rfl))
 f318:=Tryz.func293.trans (congrArg some (by kernel_rfl))
 f319:=Tryz.func294.trans (congrArg some (by kernel_rfl))
 f320:=Tryz.func295.trans (congrArg some (by kernel_rfl))
 f337:=Tryz.func298.trans (congrArg some (by kernel_rfl))
 f338:=Tryz.func299.trans (congrArg some (by kernel_rfl))
 t0:=Tryz.underlying0
 a0:=Tryz.isAgg0
 z0:=Tryz.sizeOf0
 v0:=Tryz.zeroValue0
 t2:=Tryz.underlying2
 a2:=Tryz.isAgg2
 z2:=Tryz.sizeOf2
 v2:=Tryz.zeroValue2
 t3:=Tryz.underlying3
 a3:=Tryz.isAgg3
 z3:=Tryz.sizeOf3
 v3:=Tryz.zeroValue3
 t4:=Tryz.underlying4
 a4:=Tryz.isAgg4
 z4:=Tryz.sizeOf4
 v4:=Tryz.zeroValue4
 t5:=Tryz.underlying5
 a5:=Tryz.isAgg5
 z5:=Tryz.sizeOf5
 v5:=Tryz.zeroValue5
 t9:=Tryz.underlying9
 a9:=Tryz.isAgg9
 z9:=Tryz.sizeOf9
 v9:=Tryz.zeroValue9
 t20:=Tryz.underlying20
 a20:=Tryz.isAgg20
 z20:=Tryz.sizeOf20
 v20:=Tryz.zeroValue20
 t37:=Tryz.underlying225
 a37:=Tryz.isAgg225
 z37:=Tryz.sizeOf225
 v37:=Tryz.zeroValue225
 t46:=Tryz.underlying255
 a46:=Tryz.isAgg255
 z46:=Tryz.sizeOf255
 v46:=Tryz.zeroValue255
 t51:=Tryz.underlying350
 a51:=Tryz.isAgg350
 z51:=Tryz.sizeOf350
 v51:=Tryz.zeroValue350
 t53:=Tryz.underlying323
 a53:=Tryz.isAgg323
 z53:=Tryz.sizeOf323
 v53:=Tryz.zeroValue323
 t171:=Tryz.underlying361
 a171:=Tryz.isAgg361
 z171:=Tryz.sizeOf361
 v171:=Tryz.zeroValue361
 t173:=Tryz.underlying363
 a173:=Tryz.isAgg363
 z173:=Tryz.sizeOf363
 v173:=Tryz.zeroValue363
 t212:=Tryz.underlying373
 a212:=Tryz.isAgg373
 z212:=Tryz.sizeOf373
 v212:=Tryz.zeroValue373
 t213:=Tryz.underlying374
 a213:=Tryz.isAgg374
 z213:=Tryz.sizeOf374
 t232:=Tryz.underlying379
 a232:=Tryz.isAgg379
 z232:=Tryz.sizeOf379
 v232:=Tryz.zeroValue379
 t233:=Tryz.underlying380
 a233:=Tryz.isAgg380
 z233:=Tryz.sizeOf380
 v233:=Tryz.zeroValue380
 g17:=by kernel_rfl
 g18:=by kernel_rfl
 g19:=by kernel_rfl
 i0:=by kernel_rfl
 i2:=by kernel_rfl
 i3:=by kernel_rfl
 i4:=by kernel_rfl
 i5:=by kernel_rfl
 i9:=by kernel_rfl
 i20:=by kernel_rfl
 i37:=by kernel_rfl
 i46:=by kernel_rfl
 i51:=by kernel_rfl
 i53:=by kernel_rfl
 i171:=by kernel_rfl
 i173:=by kernel_rfl
 i212:=by kernel_rfl
 i232:=by kernel_rfl
 i233:=by kernel_rfl
 m17:=by kernel_rfl
 m18:=by kernel_rfl
 m19:=by kernel_rfl }
end Go.Proofs
namespace Go.Sy
def decL (n:Nat):List UInt8:=if n<10 then [UInt8.ofNat (48+n)] else decL (n / 10)++[UInt8.ofNat (48+n % 10)]
termination_by n
theorem decL_small {n:Nat} (h:n<10):decL n=[UInt8.ofNat (48+n)]:=by rw [decL,if_pos h]
theorem decL_great {n:Nat} (h:10≤n):decL n=decL (n / 10)++[UInt8.ofNat (48+n % 10)]:=by rw [decL,if_neg (by omega)]
def digL:Nat→List UInt8→Option Nat
 | acc,[]=>some acc
 | acc,c::r=>if c.toNat<48∨57<c.toNat then none else digL (10*acc+(c.toNat-48)) r
def numM (c:UInt8):List UInt8→Nat
 | []=>0
 | x::r=>if x=c∧r≠[]∧r.length≤9∧r.head? ≠ some 48 then (digL 0 r).getD 0 else 0
theorem digL_append:∀ (l r:List UInt8) (acc:Nat),digL acc (l++r)=(digL acc l).bind fun a=>digL a r
 | [],r,acc=>rfl
 |
  c::l,r,acc=>by
  simp only [List.cons_append,digL]
  split
  · rfl
  exact digL_append l r _
theorem digL_dec:∀ n:Nat,digL 0 (decL n)=some n:=by
 intro n
 induction n using Nat.strongRecOn with
 |
  _ n ih =>
  rcases Nat.lt_or_ge n 10 with h | h
  · rw [decL_small h,digL,toNat_of (by omega),if_neg (by omega),digL]
    congr 1
    omega
  rw [decL_great h,digL_append,ih (n / 10) (Nat.div_lt_self (by omega) (by decide)),Option.bind_some,digL,toNat_of (by omega),if_neg (by omega),digL]
  congr 1
  omega
theorem decL_ne (n:Nat):decL n≠[]:=by
 rcases Nat.lt_or_ge n 10 with h | h
 · rw [decL_small h];simp
 rw [decL_great h];simp
theorem decL_head:∀ n:Nat,0<n→(decL n).head? ≠ some 48:=by
 intro n
 induction n using Nat.strongRecOn with
 |
  _ n ih =>
  intro h0
  rcases Nat.lt_or_ge n 10 with h | h
  · rw [decL_small h]
    intro e
    simp only [List.head?_cons,Option.some.injEq] at e
    have:=congrArg UInt8.toNat e
    rw [toNat_of (by omega)] at this
    have h48:(48:UInt8).toNat=48:=rfl
    omega
  rw [decL_great h,List.head?_append,Option.or_of_isSome (by cases hd:decL (n / 10) with | nil=>exact absurd hd (decL_ne _) | cons a l=>rfl)]
  exact ih (n / 10) (Nat.div_lt_self (by omega) (by decide)) (Nat.div_pos h (by decide))
theorem decL_len:∀ (k n:Nat),n<10 ^ (k+1)→(decL n).length≤k+1
 |
  0,n,h=>by
  rw [decL_small (by simpa using h)]
  exact Nat.le_refl _
 |
  k+1,n,h=>by
  rcases Nat.lt_or_ge n 10 with h1 | h1
  · rw [decL_small h1]
    simp
  rw [decL_great h1,List.length_append,List.length_singleton]
  have:=decL_len k (n / 10) (Nat.div_lt_of_lt_mul (by rw [←Nat.pow_succ'];exact h))
  omega
theorem num_name {c:UInt8} {n:Nat} (h0:0<n) (h:n≤999999999):numM c (c::decL n)=n:=by
 have hl:=decL_len 8 n (by have:(10:Nat) ^ (8+1)=1000000000:=rfl;omega)
 rw [numM,if_pos ⟨rfl,decL_ne n,hl,decL_head n h0⟩,digL_dec]
 rfl
theorem dec_dig:∀ (l:List UInt8) (acc n:Nat),digL acc l=some n→0<acc→decL n=decL acc++l
 |
  [],acc,n,h,_=>by
  cases h
  rw [List.append_nil]
 |
  c::l,acc,n,h,h0=>by
  rw [digL] at h
  split at h
  · cases h
  rename_i hc
  rw [dec_dig l _ n h (by omega),decL_great (by omega)]
  have h1:(10*acc+(c.toNat-48)) / 10=acc:=by omega
  have h2:(10*acc+(c.toNat-48)) % 10=c.toNat-48:=by omega
  rw [h1,h2,show 48+(c.toNat-48)=c.toNat by omega,UInt8.ofNat_toNat,List.append_assoc]
  rfl
theorem digL_lt:∀ (l:List UInt8) (acc n k:Nat),digL acc l=some n→acc<10 ^ k→n<10 ^ (k+l.length)
 | [],acc,n,k,h,h0=>by cases h;exact h0
 |
  c::l,acc,n,k,h,h0=>by
  rw [digL] at h
  split at h
  · cases h
  rename_i hc
  have:=digL_lt l _ n (k+1) h (by rw [Nat.pow_succ];omega)
  rw [List.length_cons,show k+(l.length+1)=k+1+l.length by omega]
  exact this
theorem name_num {c:UInt8} {x:List UInt8} {n:Nat} (h:numM c x=n) (h0:0<n):x=c::decL n∧n≤999999999:=by
 cases x with
 | nil=>rw [numM] at h;omega
 |
  cons y r =>
  rw [numM] at h
  split at h
  · rename_i hc
    obtain ⟨rfl,hr,hl,hh⟩:=hc
    cases hd:digL 0 r with
    | none=>rw [hd] at h;simp at h;omega
    |
     some m =>
     rw [hd] at h
     obtain rfl:m=n:=h
     have hlt:=digL_lt r 0 m 0 hd (by decide)
     have h9:(10:Nat) ^ (0+r.length)≤10 ^ 9:=Nat.pow_le_pow_right (by decide) (by omega)
     have h99:(10:Nat) ^ 9=1000000000:=rfl
     refine ⟨?_,by omega⟩
     cases r with
     | nil=>exact absurd rfl hr
     |
      cons z r =>
      rw [digL] at hd
      split at hd
      · cases hd
      rename_i hz
      have hz0:z.toNat≠48:=fun e=>hh (by
       rw [List.head?_cons]
       congr 1
       exact UInt8.toNat_inj.1 e)
      rw [dec_dig r _ m hd (by omega),decL_small (by omega),show 48+(10*0+(z.toNat-48))=z.toNat by omega,UInt8.ofNat_toNat]
      rfl
  omega
theorem decL_inj {m n:Nat} (h:decL m=decL n):m=n:=by
 have h1:=digL_dec m
 rw [h,digL_dec] at h1
 exact (Option.some.inj h1).symm
end Go.Sy
namespace Go.Proofs.YtnhoidnmlibcpaaGreatDoor
open Go.Sy Go.RowKit
def tabName:String:=Rows.sitesNoneRow.named.getD 0 ""
def TabA:Asn:=⟨fun h=>∀ w,h.le (hp w)→Lib.TabIs Tryz.prog w tabName .u64 Lib.pow10Tab,fun e x w hw=>x w (e.trans hw)⟩
theorem dec_eq:∀ n:Nat,Lib.decDigits n=decL n:=by
 intro n
 induction n using Nat.strongRecOn with
 |
  _ n ih =>
  rw [Lib.decDigits,decL]
  by_cases h:n<10
  · rw [dif_pos h,if_pos h]
  rw [dif_neg h,if_neg h,ih (n / 10) (by omega)]
def decB (n:Nat):ByteArray:=⟨(decL n).toArray⟩
theorem itoaT (n:Nat) (h:n≤9223372036854775807):Triple Tryz.prog 147 [.int .i64 (n:Int)] [] [TabA] Unit (fun _=>.string (decB n)) (fun _=>True) (fun _=>[]):=by
 intro w hm hn h1 h2 h3 h4 h5
 have hT:Lib.TabIs Tryz.prog w tabName .u64 Lib.pow10Tab:=h5 TabA List.mem_cons_self w h2
 refine (Any.strconv_Itoa Tryz.laysM171 (n:Int) (by omega) (by omega) w hT).mono fun e w' he=>?_
 obtain ⟨rfl,k,os,rfl⟩:=he
 have hb:=Lib.below_grow w.heap.size w (Nat.le_refl _) k os
 refine ⟨(),Hp.emp,?_,trivial,trivial,Hp.emp_le _,⟨hb.os,hb.tape,hb.output,hb.size,fun b hl _=>hb.block b hl⟩,fun b q=>absurd rfl q⟩
 have e:Lib.itoa (n:Int)=decL n:=by
  unfold Lib.itoa
  rw [if_neg (by omega),Int.toNat_natCast,dec_eq]
 rw [e]
 rfl
open Go.Sy
theorem ext_list (x:ByteArray) (a b:Nat):(x.extract a b).data.toList=(x.data.toList.take b).drop a:=by
 rw [ByteArray.data_extract,Array.toList_extract]
 simp [List.extract_eq_take_drop,List.drop_take]
theorem ba_ext {a b:ByteArray} (h:a.data.toList=b.data.toList):a=b:=by
 cases a;cases b
 congr
 exact Array.ext' h
theorem ba_iff {a b:ByteArray}:a=b↔a.data.toList=b.data.toList:=⟨fun h=>by rw [h],ba_ext⟩
theorem digL_pre:∀ (r:List UInt8) (j:Nat) (acc:Nat),digL acc (r.take j)=none→digL acc r=none:=by
 intro r j acc h
 have:=digL_append (r.take j) (r.drop j) acc
 rw [List.take_append_drop,h] at this
 exact this
theorem numberT (x y:ByteArray) (ch:UInt8) (hy:y.data.toList=[ch]):Triple Tryz.prog 203 [.string x,.string y] [] [] Unit (fun _=>.int .i64 (numM ch x.data.toList:Nat)) (fun _=>True) (fun _=>[]):=by
 have hy1:y.size=1:=by rw [←size_data,hy];rfl
 have hx:=size_data x
 have hE:(x.extract y.size x.size).data.toList=x.data.toList.drop 1:=by
  rw [ext_list,hy1,←hx,List.take_length]
 have hEs:(x.extract y.size x.size).size=x.data.toList.length-1:=by
  rw [←size_data,hE,List.length_drop]
 have hP:x.extract 0 y.size=y↔x.data.toList.take 1=[ch]:=by
  rw [ba_iff,ext_list,hy,hy1,List.drop_zero]
 obtain ⟨l,hl⟩:∃ l,l=x.data.toList:=⟨_,rfl⟩
 rw [←hl] at hx hE hEs hP ⊢
 have hno:¬ l.take 1=[ch]→numM ch l=0:=fun h=>by
  cases l with
  | nil=>rfl
  |
   cons c r =>
   rw [numM,if_neg (fun q=>h (by rw [q.1];rfl))]
 have hyes:l.take 1=[ch]→numM ch l=if l.drop 1≠[]∧(l.drop 1).length≤9∧(l.drop 1).head? ≠ some 48 then (digL 0 (l.drop 1)).getD 0 else 0:=fun h=>by
  cases l with
  | nil=>cases h
  |
   cons c r =>
   simp only [List.take_succ_cons,List.take_zero,List.cons.injEq,and_true] at h
   rw [numM]
   simp [h]
 refine aT Tryz.func203 [.va (.string x),.va (.string y)] [] (fun E=>?_) ⟨trivial,trivial,trivial⟩
 refine aG ?_
 refine ev_inline Tryz.tbs_ok Tryz.func248 rfl rfl ?_
 refine aG ?_
 refine ev_inline Tryz.tbs_ok Tryz.func284 rfl rfl ?_
 refine aG ?_
 refine ev_inline Tryz.tbs_ok Tryz.func296 rfl rfl ?_
 refine aG ?_
 refine ev_if_lt (fun h0=>?_) (fun h0=>?_)
 refine aG ?_
 refine ev_stop (go_sliceS Tryz.tbs_ok (0) (y.size) rfl rfl rfl rfl rfl ⟨_,rfl⟩ (by omega) (by omega) ?_)
 refine aG ?_
 refine ev_fin ⟨trivial,aL,_,rfl,?_⟩
 refine aG ?_
 refine ev_if_nd (fun h1=>?_) (fun h1=>?_)
 refine aG ?_
 refine ev_fin ⟨trivial,aL,_,rfl,?_⟩
 refine aG ?_
 refine ev_fin ⟨trivial,aL,_,rfl,?_⟩
 refine aG ?_
 refine ev_fin ⟨trivial,_,rfl,(()),?_,(by trivial),Frm.nil _⟩
 rotate_left
 refine aG ?_
 refine ev_stop (go_sliceS Tryz.tbs_ok (y.size) (x.size) rfl rfl rfl rfl ⟨_,rfl⟩ rfl (by omega) (by omega) ?_)
 refine aG ?_
 refine ev_fin ⟨trivial,aL,_,rfl,?_⟩
 refine aG ?_
 refine ev_fin ⟨trivial,aL,_,rfl,?_⟩
 refine aG ?_
 refine ev_if_lt (fun h2=>?_) (fun h2=>?_)
 refine aG ?_
 refine ev_fin ⟨trivial,_,rfl,(()),?_,(by trivial),Frm.nil _⟩
 rotate_left
 refine aG ?_
 refine ev_if_lt (fun h3=>?_) (fun h3=>?_)
 refine aG ?_
 refine ev_fin ⟨trivial,_,rfl,(()),?_,(by trivial),Frm.nil _⟩
 rotate_left
 refine aG ?_
 refine ev_stop (go_bytesOf Tryz.tbs_ok rfl rfl rfl rfl rfl rfl (fun b4 c5=>?_))
 refine aG ?_
 rotate_left
 refine aG ?_
 refine ev_fin ⟨trivial,aL,_,rfl,?_⟩
 refine aG ?_
 refine ev_fin ⟨trivial,aL,_,rfl,?_⟩
 refine aG ?_
 refine ev_fin ⟨trivial,aL,_,rfl,?_⟩
 refine aG ?_
 refine ev_fin ⟨trivial,_,rfl,(()),?_,(by trivial),Frm.nil _⟩
 rotate_left
 · rw [hno (fun q=>h1 (hP.2 q))]
   rfl
 · rw [hyes (hP.1 h1),if_neg]
   · rfl
   rintro ⟨q,_⟩
   refine q (List.eq_nil_of_length_eq_zero ?_)
   have:=congrArg ByteArray.size h2
   rw [hEs] at this
   rw [List.length_drop]
   exact this
 · rw [hyes (hP.1 h1),if_neg]
   · rfl
   rintro ⟨_,q,_⟩
   rw [List.length_drop] at q
   omega
 · have hr0:l.drop 1≠[]:=fun q=>by
    have:=congrArg List.length q
    rw [List.length_drop] at this
    refine h2 (ba_ext (List.eq_nil_of_length_eq_zero ?_))
    rw [size_data,hEs]
    exact this
   have hr9:(l.drop 1).length≤9:=by
    rw [List.length_drop];omega
   have hl1:=hP.1 h1
   obtain ⟨R,hR⟩:∃ R,R=l.drop 1:=⟨_,rfl⟩
   rw [hyes hl1]
   rw [←hR] at hr0 hr9 hE ⊢
   obtain ⟨X,hX⟩:∃ X,X=x.extract y.size x.size:=⟨_,rfl⟩
   rw [←hX] at hE hEs h2 h3 ⊢
   have hXR:X.size=R.length:=by rw [←size_data,hE]
   have hX0:0<X.size:=by rw [hXR];exact List.length_pos_iff.2 hr0
   rw [hE]
   refine ev_stop (go_loopR [4,7,9,10,13,30,31,32,33,34,35,36,37,38,39,40,41,42,43,44,45,46] (fun (j,n)=>[(7,vI (n:Nat)),(30,vI (j:Nat))]) (fun _=>[]) (fun (j,n)=>j≤R.length∧digL 0 (R.take j)=some n) (fun (j,_)=>R.length-j) ((0,0):Nat × Nat) ⟨Nat.zero_le _,rfl⟩ aS (fun x_ h_=>?_))
   obtain ⟨j,n⟩:=x_
   obtain ⟨hj,hn⟩:=h_
   have hn9:n<1000000000:=by
    have:=digL_lt (R.take j) 0 n 0 hn (by decide)
    rw [List.length_take] at this
    have h9:min j R.length≤9:=Nat.le_trans (Nat.min_le_right _ _) hr9
    exact Nat.lt_of_lt_of_le this (Nat.le_trans (Nat.pow_le_pow_right (by decide) (by omega)) (by decide:10 ^ 9≤1000000000))
   have hstep:∀ hjl:j<R.length,digL 0 (R.take (j+1))=if R[j].toNat<48∨57<R[j].toNat then none else some (10*n+(R[j].toNat-48)):=fun hjl=>by
    rw [←List.take_append_getElem hjl,digL_append,hn]
    simp only [Option.bind_some,digL]
   rcases Nat.lt_or_ge j R.length with hjl | hjl
   · have hb:R[j].toNat<256:=UInt8.toNat_lt _
     have hs:=hstep hjl
     refine aG ?_
     refine aJ ?_ (decide_eq_true (show (↑j:Int)<(↑X.size:Int) from (by omega)))
     refine ev_stop (go_atE (sz:=1) Tryz.tbs_ok (j) rfl rfl rfl rfl rfl rfl (by omega) ?_)
     refine aG ?_
     have l20:j<(R).length:=(by omega)
     refine ev_stop (go_loadE Tryz.tbs_ok (.inr 0) (j) 0 rfl rfl rfl rfl (fun _ h=>h) (by omega) (fun _=>rfl) (by omega) l20 (by decide) ?_)
     refine aG ?_
     refine ev_if_lt (fun h21=>?_) (fun h21=>?_)
     refine aG ?_
     refine ev_fin ⟨trivial,_,rfl,(()),?_,(by trivial),Frm.nil _⟩
     rotate_left
     refine aG ?_
     refine ev_if_lt (fun h22=>?_) (fun h22=>?_)
     refine aG ?_
     refine ev_fin ⟨trivial,_,rfl,(()),?_,(by trivial),Frm.nil _⟩
     rotate_left
     refine aG ?_
     refine wN (10*n) ?_
     refine ev_wu8 (show 0≤(↑R[j].toNat:Int)-48∧(↑R[j].toNat:Int)-48<256 from (by constructor<;>omega)) ?_
     refine wO (R[j].toNat-48) ?_
     refine wN (10*n+(R[j].toNat-48)) ?_
     refine wN (j+1) ?_
     refine ev_fin (round_next ((j+1,10*n+(R[j].toNat-48))) (?_:j+1≤R.length∧digL 0 (List.take (j+1) R)=some (10*n+(R[j].toNat-48))) (show R.length-(j+1)<R.length-j from (by omega)) aS)
     rotate_left
     · rw [digL_pre R (j+1) 0 (by rw [hs,if_pos (.inl (by omega))])]
       simp [retV,SV.den]
     · rw [digL_pre R (j+1) 0 (by rw [hs,if_pos (.inr (by omega))])]
       simp [retV,SV.den]
     exact ⟨hjl,by rw [hs,if_neg (by omega)]⟩
   have hhead:R.head? = some (X[0]'hX0):=by
    rw [←hE,List.head?_eq_getElem?,List.getElem?_eq_getElem (by rw [size_data];exact hX0)]
    rfl
   have hnR:digL 0 R=some n:=by rw [←hn,List.take_of_length_le hjl]
   rw [hnR,hhead]
   refine aG ?_
   refine aI ?_ (decide_eq_false (show ¬(↑j:Int)<(↑X.size:Int) from (by omega)))
   refine ev_fin (go Tryz.tbs_ok 1000 ?_)
   refine ev_stop (go_byte Tryz.tbs_ok (0) rfl rfl rfl rfl rfl rfl (by omega) ?_)
   refine aG ?_
   refine ev_if_eq (fun h20=>?_) (fun h20=>?_)
   refine aG ?_
   refine ev_fin ⟨trivial,_,rfl,(()),?_,(by trivial),Frm.nil _⟩
   rotate_left
   refine aG ?_
   refine ev_fin ⟨trivial,_,rfl,(()),?_,(by trivial),Frm.nil _⟩
   rotate_left
   · rw [if_neg (fun q=>q.2.2 (congrArg some (UInt8.toNat_inj.1 (show _=48 by omega))))]
     rfl
   rw [if_pos ⟨hr0,hr9,fun q=>by
    have q:=Option.some.inj q
    rw [q] at h20
    exact h20 rfl⟩]
   rfl
 rw [hno (fun q=>?_)]
 · rfl
 have:=congrArg List.length q
 rw [List.length_take] at this
 simp at this
 omega
def nmB (c:UInt8) (n:Nat):ByteArray:=⟨#[c]⟩++decB n
theorem nmB_list (c:UInt8) (n:Nat):(nmB c n).data.toList=c::decL n:=by
 unfold nmB decB
 rw [ByteArray.data_append]
 simp
theorem nmB_size (c:UInt8) (n:Nat) (h:n≤9999999999):(nmB c n).size≤11:=by
 rw [←size_data,nmB_list]
 have:=decL_len 9 n (by omega)
 simp only [List.length_cons]
 omega
def memB (L:List ByteArray) (x:ByteArray):Bool:=L.any fun y=>decide (y=x)
theorem memB_iff {L:List ByteArray} {x:ByteArray}:memB L x=true↔x∈L:=by
 simp [memB]
def segsM (b t:Nat):List ByteArray:=(if 0<b then [nmB 99 b] else [])++(List.range t).map fun i=>nmB 115 (b+1+i)
theorem lastT (b t:Nat) (h:b+t≤9223372036854775807):Triple Tryz.prog 143 [.agg #[.int .i64 (b:Nat),.int .i64 (t:Nat)]] [] [] Unit (fun _=>.int .i64 ((b+t:Nat):Int)) (fun _=>True) (fun _=>[]):=by
 refine aT Tryz.func143 [.ag [vI (b:Nat),vI (t:Nat)]] [] (fun E=>?_) ⟨⟨trivial,trivial,trivial⟩,trivial⟩
 refine aG ?_
 refine ev_new fun b0=>?_
 refine wN (b+t) ?_
 refine ev_fin ⟨trivial,_,rfl,(()),rfl,(by trivial),Frm.nil _⟩
theorem indexT (A:Option Addr) (L:List ByteArray) (n c:Nat) (x:ByteArray) (hn:n=L.length) (h1:n≤1000000000):Triple Tryz.prog 249 [.slice A n c,.string x] [] [Rd 1 A n (L.flatMap encS)] Int (fun z=>.int .i64 z) (fun z=>0≤z↔x∈L) (fun _=>[]):=by
 refine aT Tryz.func249 [vL A n c,.va (.string x)] [] (fun E=>?_) ⟨trivial,trivial,trivial⟩
 refine aG ?_
 refine ev_stop (go_loopR [4,5,8,9,10,11,12,13,14,15,16,17,18] (fun j=>[(8,vI (j:Nat))]) (fun _=>[]) (fun j=>j≤n∧x ∉ L.take j) (fun j=>n-j) (0:Nat) ⟨Nat.zero_le _,by simp⟩ aS (fun j h_=>?_))
 obtain ⟨hj,hx⟩:=h_
 refine aG ?_
 refine ev_if_lt (fun h20=>?_) (fun h20=>?_)
 refine aG ?_
 refine ev_stop (go_indexE (sz:=1) Tryz.tbs_ok (.inl 0) (j) rfl rfl rfl rfl rfl rfl (by omega) rfl (fun _ h=>h) (fun g21 o23 e22=>?_))
 subst e22
 refine aG ?_
 have l24:j<(L).length:=(by omega)
 refine ev_stop (go_loadE Tryz.tbs_ok (.inl 0) (j) 0 rfl rfl rfl rfl (fun _ h=>h) (by omega) (fun _=>rfl) (by omega) l24 (by decide) ?_)
 refine aG ?_
 refine ev_if_lt (fun h25=>?_) (fun h25=>?_)
 refine aG ?_
 refine ev_fin ⟨trivial,_,rfl,((↑j:Int)),rfl,(by simp [*]),Frm.nil _⟩
 refine aG ?_
 refine wN (j+1) ?_
 refine ev_fin (round_next (j+1) (?_:j+1≤n∧¬x∈List.take (j+1) L) (show n-(j+1)<n-j from (by omega)) aS)
 rotate_left
 refine aG ?_
 refine ev_fin (go Tryz.tbs_ok 1000 ?_)
 refine ev_fin ⟨trivial,_,rfl,(-1),rfl,?_,Frm.nil _⟩
 rotate_left
 · refine ⟨by omega,fun q=>?_⟩
   rw [←List.take_append_getElem l24] at q
   rcases List.mem_append.1 q with q | q
   · exact hx q
   exact h25 (List.mem_singleton.1 q)
 refine ⟨fun q=>absurd q (by decide),fun q=>?_⟩
 rw [List.take_of_length_le (by omega)] at hx
 exact absurd q hx
theorem containsT (A:Option Addr) (L:List ByteArray) (n c:Nat) (x:ByteArray) (hn:n=L.length) (hn1:n≤1000000000):Triple Tryz.prog 204 [.slice A n c,.string x] [] [Rd 1 A n (L.flatMap encS)] Unit (fun _=>.bool (memB L x)) (fun _=>True) (fun _=>[]):=by
 have T1:=indexT A L n c x hn hn1
 refine aT Tryz.func204 [vL A n c,.va (.string x)] [] (fun E=>?_) ⟨trivial,trivial,trivial⟩
 refine aG ?_
 refine aC T1 [] [.inl 0] fun x0 h1=>?_
 refine ev_fin ⟨trivial,_,rfl,(()),?_,(by trivial),Frm.nil _⟩
 refine congrArg Value.bool ?_
 cases hb:memB L x with
 | true=>exact decide_eq_true (h1.2 (memB_iff.1 hb))
 |
  false =>
  refine decide_eq_false (fun q=>?_)
  rw [memB_iff.2 (h1.1 q)] at hb
  cases hb
def tailsG (L:List ByteArray) (b t:Nat):Nat:=if b+t<999999999∧memB L (nmB 115 (b+t+1))=true then tailsG L b (t+1) else t
termination_by 999999999-(b+t)
def baseM (L:List ByteArray):Nat:=L.foldl (fun b s=>max b (numM 99 s.data.toList)) 0
def staleB (b:Nat) (s:ByteArray):Bool:=decide (s=nmT) || (decide (0<numM 99 s.data.toList)&&decide (numM 99 s.data.toList<b)) || (decide (0<numM 115 s.data.toList)&&decide (numM 115 s.data.toList≤b))
where nmT:ByteArray:=⟨#[116]⟩
def oddB (b t:Nat) (s:ByteArray):Bool := !staleB b s&&((numM 99 s.data.toList==0&&numM 115 s.data.toList==0) || decide (b+t<numM 115 s.data.toList))
theorem decB_size (n:Nat) (h:n≤9999999999):(decB n).size≤10:=by
 rw [←size_data]
 have:=decL_len 9 n (by omega)
 exact this
theorem segsT (b t:Nat) (hb:b≤999999999) (ht:t≤999999999):Triple Tryz.prog 211 [.agg #[.int .i64 (b:Nat),.int .i64 (t:Nat)]] [] [TabA] (Option Addr × Nat) (fun (C,e)=>.slice C (segsM b t).length e) (fun _=>True) (fun (C,e)=>[Row 9 1 C (segsM b t).length e ((segsM b t).flatMap encS)]):=by
 have T1:=itoaT b (by omega)
 have hz:=decB_size b (by omega)
 refine aT Tryz.func211 [.ag [vI (b:Nat),vI (t:Nat)]] [] (fun E=>?_) ⟨⟨trivial,trivial,trivial⟩,trivial⟩
 refine go_fact (Row 9 1 none 0 0 (([]:List ByteArray).flatMap encS)) (Row.nilE _ _) ?_
 have h99:(⟨#[99]⟩:ByteArray).size=1:=rfl
 have h115:(⟨#[115]⟩:ByteArray).size=1:=rfl
 obtain ⟨P,hP⟩:∃ P,P=if 0<b then [nmB 99 b] else []:=⟨_,rfl⟩
 obtain ⟨p,hp⟩:∃ p,p=P.length:=⟨_,rfl⟩
 have hp1:p≤1:=by rw [hp,hP];split<;>simp
 have hS:segsM b t=P++(List.range t).map fun i=>nmB 115 (b+1+i):=by rw [hP];rfl
 have hlen:(segsM b t).length=p+t:=by rw [hS,hp];simp
 rw [hlen]
 refine aG ?_
 refine ev_new fun b0=>?_
 refine ev_join [0,3,8,9,10,11,12,13,14] (fun (C,e)=>[(3,vL C p e)]) (fun ((C,e):Option Addr × Nat)=>[(0,.fact (Row 9 1 C p e (P.flatMap encS)))]) (fun _=>True) (fun hif=>?_) (fun hif=>?_) (fun x_ h_=>?_)
 · have hb0:0<b:=by simpa using hif
   rw [if_pos hb0] at hP
   have e1:(⟨#[99]⟩:ByteArray)++decB b=nmB 99 b:=rfl
   subst hP
   subst hp
   refine aG ?_
   refine aC T1 [] [.inl 0] fun _ h10=>?_
   refine ev_stop (go_bin (.va _) trivial rfl rfl rfl rfl rfl (by decide) (by decide) (fun w=>cat_run (by omega) w) ?_)
   refine aG ?_
   refine ev_new fun b11=>?_
   refine ev_stop (go_appendE (sz:=1) (M:=[]) (enc:=encS) Tryz.tbs_ok [] [] (.inr 2) ([]) ([{ data := #[99]:ByteArray }++decB b]) ([{ data := #[99]:ByteArray }++decB b]) (1) rfl rfl rfl rfl rfl rfl rfl (by decide) rfl (by decide) (fun _ _=>Row.nil _ _ _) rfl (fun _ p=>Pt.rd p rfl) (by first | rfl | simp) (by first | rfl | omega) (aM (1)) (aN (1)) (fun _ _=>aL) (fun A12 c13 h14=>?_))
   refine aG ?_
   refine ev_moveJ 0 3 (by decide) rfl rfl aL ?_
   refine ev_fin (join_next ((A12,c13)) (show True from (by assumption))  aS)
 · have hb0:¬ 0<b:=by simpa using hif
   rw [if_neg hb0] at hP
   subst hP
   subst hp
   refine aG ?_
   refine ev_fin (join_next ((none,0)) (show True from (by trivial))  aS)
 obtain ⟨C,e⟩:=x_
 refine aG ?_
 refine ev_stop (go_loopR [3,4,17,18,19,20,21,22,23,24,25,26,27,28,29,30] (fun (i,C,q,e,_)=>[(3,vL C q e),(17,vI (i:Nat))]) (fun (_,C,q,e,M)=>[(0,.fact (Row 9 1 C q e (M.flatMap encS)))]) (fun (i,_,q,_,M)=>i≤t∧q=p+i∧M=P++(List.range i).map fun i=>nmB 115 (b+1+i)) (fun (i,_,_,_,_)=>t-i) ((0,C,p,e,P):Nat × Option Addr × Nat × Nat × List ByteArray) ⟨Nat.zero_le _,rfl,by simp⟩ aS (fun x_ h_=>?_))
 obtain ⟨i,C,q,e,M⟩:=x_
 obtain ⟨hi,hq,hM⟩:=h_
 have T2:=fun h=>itoaT (b+1+i) h
 have hz2:=fun h=>decB_size (b+1+i) h
 rcases Nat.lt_or_ge i t with hit | hit
 · refine aG ?_
   refine aJ ?_ (decide_eq_true (show (↑i:Int)<(↑t:Int) from (by omega)))
   refine wN (b+1) ?_
   refine wN (b+1+i) ?_
   refine aC (T2 (show b+1+i≤9223372036854775807 from (by omega))) [] [.inl 0] fun _ h40=>?_
   refine ev_stop (go_bin (.va _) trivial rfl rfl rfl rfl rfl (by decide) (by decide) (fun w=>cat_run (by omega) w) ?_)
   refine aG ?_
   refine ev_new fun b41=>?_
   refine ev_stop (go_appendE (sz:=1) (M:=[_]) (enc:=encS) Tryz.tbs_ok [0] [] (.inr 2) (M) ([{ data := #[115]:ByteArray }++decB (b+1+i)]) ((M)++([{ data := #[115]:ByteArray }++decB (b+1+i)])) (q+1) rfl rfl rfl rfl rfl rfl rfl (by decide) rfl (by decide) (fun _ p=>starH_one.1 p) rfl (fun _ p=>Pt.rd p rfl) (by first | rfl | simp) (by first | rfl | omega) (aM (q+1)) (aN (q+1)) (fun _ _=>aL) (fun A42 c43 h44=>?_))
   refine aG ?_
   refine wN (i+1) ?_
   refine ev_fin (round_next ((i+1,A42,q+1,c43,M++[{ data := #[115]:ByteArray }++decB (b+1+i)])) (?_:i+1≤t∧q+1=p+(i+1)∧M++[{ data := #[115]:ByteArray }++decB (b+1+i)]=P++List.map (fun i ↦ nmB 115 (b+1+i)) (List.range (i+1))) (show t-(i+1)<t-i from (by omega)) aS)
   exact ⟨hit,by omega,by rw [hM,List.range_succ,List.map_append,←List.append_assoc];rfl⟩
 obtain rfl:i=t:=by omega
 rw [←hS] at hM
 subst hM
 subst hq
 refine aG ?_
 refine aI ?_ (decide_eq_false (show ¬(↑i:Int)<(↑i:Int) from (by omega)))
 refine ev_fin (go Tryz.tbs_ok 1000 ?_)
 exact ev_fin ⟨trivial,_,rfl,((C,e)),rfl,by trivial,aF [0]⟩
theorem numM_le (c:UInt8) (x:List UInt8):numM c x≤999999999:=by
 rcases Nat.eq_zero_or_pos (numM c x) with h | h
 · omega
 exact (name_num rfl h).2
theorem baseM_step {L:List ByteArray} {j:Nat} (hj:j<L.length):baseM (L.take (j+1))=max (baseM (L.take j)) (numM 99 L[j].data.toList):=by
 rw [←List.take_append_getElem hj]
 unfold baseM
 rw [List.foldl_append]
 rfl
theorem baseM_le (L:List ByteArray):baseM L≤999999999:=by
 unfold baseM
 have:∀ (L:List ByteArray) (b:Nat),b≤999999999→L.foldl (fun b s=>max b (numM 99 s.data.toList)) b≤999999999:=by
  intro L
  induction L with
  | nil=>exact fun b h=>h
  | cons x L ih=>exact fun b h=>ih _ (Nat.max_le.2 ⟨h,numM_le _ _⟩)
 exact this L 0 (by decide)
theorem tailsG_yes {L:List ByteArray} {b t:Nat} (h1:b+t<999999999) (h2:memB L (nmB 115 (b+t+1))=true):tailsG L b t=tailsG L b (t+1):=by
 rw [tailsG,if_pos ⟨h1,h2⟩]
theorem tailsG_no {L:List ByteArray} {b t:Nat} (h:¬ (b+t<999999999∧memB L (nmB 115 (b+t+1))=true)):tailsG L b t=t:=by
 rw [tailsG,if_neg h]
theorem tailsG_le (L:List ByteArray) (b:Nat):∀ (k t:Nat),999999999-(b+t)≤k→t≤tailsG L b t∧(b+t≤999999999→b+tailsG L b t≤999999999):=by
 intro k
 induction k with
 |
  zero =>
  intro t h
  rw [tailsG_no (fun q=>by omega)]
  exact ⟨Nat.le_refl _,fun h=>h⟩
 |
  succ k ih =>
  intro t h
  by_cases q:b+t<999999999∧memB L (nmB 115 (b+t+1))=true
  · rw [tailsG_yes q.1 q.2]
    obtain ⟨h1,h2⟩:=ih (t+1) (by omega)
    exact ⟨by omega,fun _=>h2 (by omega)⟩
  rw [tailsG_no q]
  exact ⟨Nat.le_refl _,fun h=>h⟩
def tailsM (L:List ByteArray):Nat:=tailsG L (baseM L) 0
theorem last_le (L:List ByteArray):baseM L+tailsM L≤999999999:=(tailsG_le L (baseM L) _ 0 (Nat.le_refl _)).2 (by have:=baseM_le L;omega)
def okN (L:List ByteArray):Bool := !L.any (oddB (baseM L) (tailsM L))
def staleM (L:List ByteArray):List ByteArray:=if okN L then L.filter (staleB (baseM L)) else []
theorem stale_iff {b:Nat} {x:ByteArray}:staleB b x=true↔(x=⟨#[116]⟩∨(0<numM 99 x.data.toList∧numM 99 x.data.toList<b)∨(0<numM 115 x.data.toList∧numM 115 x.data.toList≤b)):=by
 have e:staleB b x=true↔(x=staleB.nmT∨(0<numM 99 x.data.toList∧numM 99 x.data.toList<b)∨(0<numM 115 x.data.toList∧numM 115 x.data.toList≤b)):=by simp [staleB,or_assoc]
 exact e
theorem odd_iff {b t:Nat} {x:ByteArray}:oddB b t x=true↔(¬ staleB b x=true∧((numM 99 x.data.toList=0∧numM 115 x.data.toList=0)∨b+t<numM 115 x.data.toList)):=by
 simp [oddB]
theorem stale_yes {b T k q j:Nat} {L M:List ByteArray} (h:k<L.length) (hk:k<j) (hq:q=M.length) (hM:M=(L.take k).filter (staleB b)) (hO:(L.take k).any (oddB b T)=false) (hs:staleB b L[k]=true) :
 k+1≤j∧q+1=(M++[L[k]]).length∧M++[L[k]]=(L.take (k+1)).filter (staleB b)∧(L.take (k+1)).any (oddB b T)=false:=by
 have e:=List.take_append_getElem h
 have ho:oddB b T L[k]=false:=by unfold oddB;rw [hs];rfl
 rw [←e,List.filter_append,List.any_append,hO,←hM]
 refine ⟨by omega,by simp [hq],?_,by simp [ho]⟩
 rw [List.filter_cons_of_pos hs]
 rfl
theorem stale_no {b T k q j:Nat} {L M:List ByteArray} (h:k<L.length) (hk:k<j) (hq:q=M.length) (hM:M=(L.take k).filter (staleB b)) (hO:(L.take k).any (oddB b T)=false) (hs:¬ staleB b L[k]=true) (ho:¬ oddB b T L[k]=true) :
 k+1≤j∧q=M.length∧M=(L.take (k+1)).filter (staleB b)∧(L.take (k+1)).any (oddB b T)=false:=by
 have e:=List.take_append_getElem h
 rw [←e,List.filter_append,List.any_append,hO,←hM]
 refine ⟨by omega,hq,?_,by simpa using ho⟩
 rw [List.filter_cons_of_neg hs]
 simp
set_option maxHeartbeats 2000000 in
theorem lookT (A:Option Addr) (L:List ByteArray) (n c:Nat) (hn:n=L.length) (hn1:n≤1000000):Triple Tryz.prog 148 [.slice A n c] [] [TabA,Rd 1 A n (L.flatMap encS)] (Option Addr × Nat)
 (fun (C,e)=>.tuple #[.agg #[.int .i64 (baseM L:Nat),.int .i64 (tailsM L:Nat)],.slice C (staleM L).length e,.bool (okN L)]) (fun _=>True) (fun (C,e)=>[Row 9 1 C (staleM L).length e ((staleM L).flatMap encS)]):=by
 have TC:=fun x=>numberT x ⟨#[99]⟩ 99 rfl
 have TS:=fun x=>numberT x ⟨#[115]⟩ 115 rfl
 have h115:(⟨#[115]⟩:ByteArray).size=1:=rfl
 have hb9:=baseM_le L
 have hl9:=last_le L
 refine aT Tryz.func148 [vL A n c] [] (fun E=>?_) ⟨trivial,trivial⟩
 refine go_fact (Row 9 1 none 0 0 (([]:List ByteArray).flatMap encS)) (Row.nilE _ _) ?_
 refine go_fact (Row 9 1 none 0 0 (([]:List ByteArray).flatMap encS)) (Row.nilE _ _) ?_
 refine aG ?_
 refine ev_new fun b0=>?_
 refine ev_stop (go_loopR [6,13,14,15,16,17,18,19,20,21,22,23] (fun (j,_)=>[(13,vI (j:Nat))]) (fun (_,b)=>[(2,.box b0 193 [vI b,vI 0])]) (fun (j,b)=>j≤n∧b=(baseM (L.take j):Nat)) (fun (j,_)=>n-j) ((0,0):Nat × Int) ⟨Nat.zero_le _,rfl⟩ aS (fun x_ h_=>?_))
 obtain ⟨j,b⟩:=x_
 obtain ⟨hj,hb⟩:=h_
 have hbj:=baseM_le (L.take j)
 rcases Nat.lt_or_ge j n with hjn | hjn
 · have hn9:=numM_le 99 (L[j]'(by omega)).data.toList
   have hst:=baseM_step (L:=L) (j:=j) (by omega)
   refine aG ?_
   refine aJ ?_ (decide_eq_true (show (↑j:Int)<(↑n:Int) from (by omega)))
   refine ev_stop (go_indexE (sz:=1) Tryz.tbs_ok (.inl 1) (j) rfl rfl rfl rfl rfl rfl (by omega) rfl (fun _ h=>h) (fun g20 o22 e21=>?_))
   subst e21
   refine aG ?_
   have l23:j<(L).length:=(by omega)
   refine ev_stop (go_loadE Tryz.tbs_ok (.inl 1) (j) 0 rfl rfl rfl rfl (fun _ h=>h) (by omega) (fun _=>rfl) (by omega) l23 (by decide) ?_)
   refine aG ?_
   refine ev_stop (go_draw Tryz.tbs_ok false [2] [(0,true),(1,true),(2,true),(3,false),(4,false),(5,false),(6,false)] rfl ?_)
   refine aG (aE ?_)
   refine aC (TC (L[j])) [] [] fun _ h24=>?_
   refine aE (aE (aE (aK ?_)))
   refine wN (j+1) ?_
   refine ev_fin (round_next ((j+1,max b (↑(numM 99 L[j].data.toList):Int))) (show j+1≤n∧max b (↑(numM 99 L[j].data.toList):Int)=(↑(baseM (List.take (j+1) L)):Int) from (by omega)) (show n-(j+1)<n-j from (by omega)) aS)
 obtain rfl:j=n:=by omega
 rw [List.take_of_length_le (Nat.le_of_eq hn.symm)] at hb hbj
 obtain ⟨o,ho⟩:∃ o,o=okN L:=⟨_,rfl⟩
 obtain ⟨S,hS⟩:∃ S,S=staleM L:=⟨_,rfl⟩
 obtain ⟨T,hT⟩:∃ T,T=tailsM L:=⟨_,rfl⟩
 obtain ⟨b',hb'⟩:∃ b',b'=baseM L:=⟨_,rfl⟩
 have hT2:tailsG L b' 0=T:=by rw [hT,hb'];rfl
 rw [←ho,←hS,←hT,←hb']
 rw [←hT,←hb'] at hl9
 rw [←hb'] at hb hbj hb9
 subst hb
 obtain ⟨B,hB⟩:∃ B,B=999999999:=⟨_,rfl⟩
 obtain ⟨G,hG⟩:∃ G:Nat→Nat,G=tailsG L b':=⟨_,rfl⟩
 have hyes:∀ t,b'+t<B→memB L (nmB 115 (b'+t+1))=true→G t=G (t+1):=fun t h1 h2=>by rw [hG];exact tailsG_yes (by omega) h2
 have hno:∀ t,¬ (b'+t<B∧memB L (nmB 115 (b'+t+1))=true)→G t=t:=fun t h=>by rw [hG];exact tailsG_no (by rw [hB] at h;exact h)
 rw [←hG] at hT2
 refine aG ?_
 refine aI ?_ (decide_eq_false (show ¬(↑j:Int)<(↑j:Int) from (by omega)))
 refine ev_fin (go Tryz.tbs_ok 1000 ?_)
 refine ev_stop (go_loopR [24,25,26,27,28,29,30,31,32,33,34,35,36,37,38,39] (fun _=>[]) (fun (t:Nat)=>[(2,.box b0 193 [vI (b':Nat),vI (t:Nat)])]) (fun t=>G t=T∧b'+t≤B) (fun t=>B-(b'+t)) (0:Nat) ⟨hT2,(by omega)⟩ aS (fun t h_=>?_))
 obtain ⟨ht,ht2⟩:=h_
 have T1:=Proofs.YtnhoidnmlibcpaaGreatDoor.lastT b' t (by omega)
 have T2:=fun h=>itoaT (b'+t+1) h
 have hz:=fun h=>decB_size (b'+t+1) h
 have T3:=containsT A L j c (⟨#[115]⟩++decB (b'+t+1)) hn (by omega)
 refine go Tryz.tbs_ok 2 ?_
 refine ev_stop (go_joinR [24,25,26,27,28,29,30,31,32,33,34,35] (fun m=>[(35,.bq m)]) (fun (_:Bool)=>[]) (fun m=>(m=true→b'+t<B∧G t=G (t+1))∧(m=false→G t=t)) ?_ (fun x_ h_=>?_))
 · refine aG ?_
   refine aC T1 [] [] fun _ h60=>?_
   refine ev_if_lt (fun h61=>?_) (fun h61=>?_)
   refine aG ?_
   refine aC T1 [] [] fun _ h62=>?_
   refine wN (b'+t+1) ?_
   refine aC (T2 (show b'+t+1≤9223372036854775807 from (by omega))) [] [.inl 0] fun _ h63=>?_
   refine ev_stop (go_bin (.va _) trivial rfl rfl rfl rfl rfl (by decide) (by decide) (fun w=>cat_run (by omega) w) ?_)
   refine aG ?_
   refine aC T3 [] [.inl 1] fun _ h64=>?_
   refine ev_fin (join_next (memB L ({ data := #[115]:ByteArray }++decB (b'+t+1))) (?_:(memB L ({ data := #[115]:ByteArray }++decB (b'+t+1))=true→b'+t<B∧G t=G (t+1))∧(memB L ({ data := #[115]:ByteArray }++decB (b'+t+1))=false→G t=t))  aS)
   rotate_left
   refine aG ?_
   refine ev_slotJ 35 _ (.bq false) rfl rfl rfl (fun _=>trivial) ?_
   refine ev_fin (join_next (false) (?_:(false=true→b'+t<B∧G t=G (t+1))∧(false=false→G t=t))  aS)
   rotate_left
   · refine ⟨fun q=>⟨by omega,hyes t (by omega) q⟩,fun q=>hno t (fun q2=>?_)⟩
     have e:memB L (nmB 115 (b'+t+1))=memB L (⟨#[115]⟩++decB (b'+t+1)):=rfl
     rw [e,q] at q2
     cases q2.2
   exact ⟨fun q=>(by cases q),fun _=>hno t (fun q2=>by omega)⟩
 obtain ⟨hm1,hm2⟩:=h_
 cases x_ with
 |
  true =>
  obtain ⟨hm3,hm4⟩:=hm1 rfl
  refine aG (aJ ?_)
  refine wN (t+1) ?_
  refine ev_fin (round_next (t+1) (show G (t+1)=T∧b'+(t+1)≤B from (by omega)) (show B-(b'+(t+1))<B-(b'+t) from (by omega)) aS)
 |
  false =>
  have hm5:=hm2 rfl
  rw [ht] at hm5
  subst hm5
  refine aG (aI ?_)
  refine ev_fin (go Tryz.tbs_ok 1000 ?_)
  refine ev_stop (go_loopR [3,4,8,9,10,42,43,44,45,46,47,48,49,50,51,52,53,54,55,56,57,58,59,60,61,62,63,64,65,66,67,68,69,70,71,72,73,74,75,76,77,78,79,80,81,82,83,84,85] (fun (k,C,q,e,_)=>[(3,vL C q e),(42,vI (k:Nat))]) (fun (_,C,q,e,M)=>[(0,.fact (Row 9 1 C q e (M.flatMap encS)))]) (fun (k,C,q,e,M)=>k≤j∧q=M.length∧M=(L.take k).filter (staleB b')∧(L.take k).any (oddB b' T)=false) (fun (k,_,_,_,_)=>j-k) ((0,none,0,0,[]):Nat × Option Addr × Nat × Nat × List ByteArray) ⟨Nat.zero_le _,rfl,rfl,rfl⟩ aS (fun x_ h_=>?_))
  obtain ⟨k,C,q,e,M⟩:=x_
  obtain ⟨hk,hq,hM,hO⟩:=h_
  have hq9:q≤k:=by rw [hq,hM];exact Nat.le_trans (List.length_filter_le _ _) (by rw [List.length_take];exact Nat.min_le_left _ _)
  rcases Nat.lt_or_ge k j with hkj | hkj
  · obtain ⟨x,hx⟩:∃ x,x=L[k]'(by omega):=⟨_,rfl⟩
    have htk:L.take (k+1)=L.take k++[x]:=by rw [hx];exact (List.take_append_getElem (by omega)).symm
    have T1:=Proofs.YtnhoidnmlibcpaaGreatDoor.lastT b' T (by omega)
    have hn9:=numM_le 99 (L[k]'(by omega)).data.toList
    have hn8:=numM_le 115 (L[k]'(by omega)).data.toList
    have hodd:oddB b' T (L[k]'(by omega))=true→o=false∧S=[]:=by
     intro q
     have:okN L=false:=by
      unfold okN
      rw [←hb',←hT,List.any_eq_true.2 ⟨_,List.getElem_mem _,q⟩]
      rfl
     refine ⟨by rw [ho,this],?_⟩
     rw [hS]
     unfold staleM
     rw [this]
     rfl
    refine aG ?_
    refine aJ ?_ (decide_eq_true (show (↑k:Int)<(↑j:Int) from (by omega)))
    refine ev_stop (go_indexE (sz:=1) Tryz.tbs_ok (.inl 1) (k) rfl rfl rfl rfl rfl rfl (by omega) rfl (fun _ h=>h) (fun g120 o122 e121=>?_))
    subst e121
    refine aG ?_
    have l123:k<(L).length:=(by omega)
    refine ev_stop (go_loadE Tryz.tbs_ok (.inl 1) (k) 0 rfl rfl rfl rfl (fun _ h=>h) (by omega) (fun _=>rfl) (by omega) l123 (by decide) ?_)
    refine aG ?_
    refine aC (TC (L[k])) [] [] fun _ h124=>?_
    refine aC (TS (L[k])) [] [] fun _ h125=>?_
    refine ev_if_lt (fun h126=>?_) (fun h126=>?_)
    refine aG ?_
    refine aJ ?_ (decide_eq_true (by with_reducible assumption))
    refine ev_new fun b127=>?_
    refine ev_stop (go_appendE (sz:=1) (M:=[_]) (enc:=encS) Tryz.tbs_ok [0] [] (.inr 3) (M) ([L[k]]) ((M)++([L[k]])) (q+1) rfl rfl rfl rfl rfl rfl rfl (by decide) rfl (by decide) (fun _ p=>starH_one.1 p) rfl (fun _ p=>Pt.rd p rfl) (by first | rfl | simp) (by first | rfl | omega) (aM (q+1)) (aN (q+1)) (fun _ _=>aL) (fun A128 c129 h130=>?_))
    refine aG ?_
    refine wN (k+1) ?_
    refine ev_fin (round_next ((k+1,A128,q+1,c129,M++[L[k]])) (?_:k+1≤j∧q+1=(M++[L[k]]).length∧M++[L[k]]=List.filter (staleB b') (List.take (k+1) L)∧(List.take (k+1) L).any (oddB b' T)=false) (show j-(k+1)<j-k from (by omega)) aS)
    rotate_left
    refine aG ?_
    refine ev_if_lt (fun h131=>?_) (fun h131=>?_)
    refine aG ?_
    refine ev_if_lt (fun h132=>?_) (fun h132=>?_)
    refine aG ?_
    refine aJ ?_ (decide_eq_true (by with_reducible assumption))
    refine ev_new fun b133=>?_
    refine ev_stop (go_appendE (sz:=1) (M:=[_]) (enc:=encS) Tryz.tbs_ok [0] [] (.inr 3) (M) ([L[k]]) ((M)++([L[k]])) (q+1) rfl rfl rfl rfl rfl rfl rfl (by decide) rfl (by decide) (fun _ p=>starH_one.1 p) rfl (fun _ p=>Pt.rd p rfl) (by first | rfl | simp) (by first | rfl | omega) (aM (q+1)) (aN (q+1)) (fun _ _=>aL) (fun A134 c135 h136=>?_))
    refine aG ?_
    refine wN (k+1) ?_
    refine ev_fin (round_next ((k+1,A134,q+1,c135,M++[L[k]])) (?_:k+1≤j∧q+1=(M++[L[k]]).length∧M++[L[k]]=List.filter (staleB b') (List.take (k+1) L)∧(List.take (k+1) L).any (oddB b' T)=false) (show j-(k+1)<j-k from (by omega)) aS)
    rotate_left
    refine aG ?_
    refine ev_if_lt (fun h137=>?_) (fun h137=>?_)
    refine aG ?_
    refine ev_if_lt (fun h138=>?_) (fun h138=>?_)
    refine aG ?_
    refine ev_new fun b139=>?_
    refine ev_stop (go_appendE (sz:=1) (M:=[_]) (enc:=encS) Tryz.tbs_ok [0] [] (.inr 3) (M) ([L[k]]) ((M)++([L[k]])) (q+1) rfl rfl rfl rfl rfl rfl rfl (by decide) rfl (by decide) (fun _ p=>starH_one.1 p) rfl (fun _ p=>Pt.rd p rfl) (by first | rfl | simp) (by first | rfl | omega) (aM (q+1)) (aN (q+1)) (fun _ _=>aL) (fun A140 c141 h142=>?_))
    refine aG ?_
    refine wN (k+1) ?_
    refine ev_fin (round_next ((k+1,A140,q+1,c141,M++[L[k]])) (?_:k+1≤j∧q+1=(M++[L[k]]).length∧M++[L[k]]=List.filter (staleB b') (List.take (k+1) L)∧(List.take (k+1) L).any (oddB b' T)=false) (show j-(k+1)<j-k from (by omega)) aS)
    rotate_left
    refine aG ?_
    refine aI ?_ (beq_eq_false_iff_ne.2 (show ¬(↑(numM 99 L[k].data.toList):Int)=0 from (by omega)))
    refine aC T1 [] [] fun _ h143=>?_
    refine ev_if_lt (fun h144=>?_) (fun h144=>?_)
    refine aG ?_
    rotate_left
    refine aG ?_
    refine wN (k+1) ?_
    refine ev_fin (round_next ((k+1,C,q,e,M)) (?_:k+1≤j∧q=M.length∧M=List.filter (staleB b') (List.take (k+1) L)∧(List.take (k+1) L).any (oddB b' T)=false) (show j-(k+1)<j-k from (by omega)) aS)
    rotate_left
    refine aG ?_
    refine aI ?_ (beq_eq_false_iff_ne.2 (show ¬(↑(numM 99 L[k].data.toList):Int)=0 from (by omega)))
    refine aC T1 [] [] fun _ h145=>?_
    refine aI ?_ (decide_eq_false (show ¬(↑(numM 115 L[k].data.toList):Int) > (↑(b'+T):Int) from (by omega)))
    refine wN (k+1) ?_
    refine ev_fin (round_next ((k+1,C,q,e,M)) (?_:k+1≤j∧q=M.length∧M=List.filter (staleB b') (List.take (k+1) L)∧(List.take (k+1) L).any (oddB b' T)=false) (show j-(k+1)<j-k from (by omega)) aS)
    rotate_left
    refine aG ?_
    refine ev_if_lt (fun h146=>?_) (fun h146=>?_)
    refine aG ?_
    refine ev_if_lt (fun h147=>?_) (fun h147=>?_)
    refine aG ?_
    refine ev_new fun b148=>?_
    refine ev_stop (go_appendE (sz:=1) (M:=[_]) (enc:=encS) Tryz.tbs_ok [0] [] (.inr 3) (M) ([L[k]]) ((M)++([L[k]])) (q+1) rfl rfl rfl rfl rfl rfl rfl (by decide) rfl (by decide) (fun _ p=>starH_one.1 p) rfl (fun _ p=>Pt.rd p rfl) (by first | rfl | simp) (by first | rfl | omega) (aM (q+1)) (aN (q+1)) (fun _ _=>aL) (fun A149 c150 h151=>?_))
    refine aG ?_
    refine wN (k+1) ?_
    refine ev_fin (round_next ((k+1,A149,q+1,c150,M++[L[k]])) (?_:k+1≤j∧q+1=(M++[L[k]]).length∧M++[L[k]]=List.filter (staleB b') (List.take (k+1) L)∧(List.take (k+1) L).any (oddB b' T)=false) (show j-(k+1)<j-k from (by omega)) aS)
    rotate_left
    refine aG ?_
    refine aJ ?_ (beq_iff_eq.2 (show (↑(numM 99 L[k].data.toList):Int)=0 from (by omega)))
    refine aI ?_ (beq_eq_false_iff_ne.2 (show ¬(↑(numM 115 L[k].data.toList):Int)=0 from (by omega)))
    refine aC T1 [] [] fun _ h152=>?_
    refine ev_if_lt (fun h153=>?_) (fun h153=>?_)
    refine aG ?_
    rotate_left
    refine aG ?_
    refine wN (k+1) ?_
    refine ev_fin (round_next ((k+1,C,q,e,M)) (?_:k+1≤j∧q=M.length∧M=List.filter (staleB b') (List.take (k+1) L)∧(List.take (k+1) L).any (oddB b' T)=false) (show j-(k+1)<j-k from (by omega)) aS)
    rotate_left
    refine aG ?_
    refine aJ ?_ (beq_iff_eq.2 (show (↑(numM 99 L[k].data.toList):Int)=0 from (by omega)))
    refine aJ ?_ (beq_iff_eq.2 (show (↑(numM 115 L[k].data.toList):Int)=0 from (by omega)))
    refine aJ ?_ (beq_iff_eq.2 (show (↑(numM 115 L[k].data.toList):Int)=0 from (by omega)))
    rotate_left
    all_goals first
     | exact stale_yes (by assumption) hkj hq hM hO (stale_iff.2 (by first | exact .inl (by assumption) | exact .inr (.inl ⟨by omega,by omega⟩) | exact .inr (.inr ⟨by omega,by omega⟩)))
     | skip
    all_goals have hns:¬ staleB b' (L[k]'(by omega))=true:=fun q=>by rcases stale_iff.1 q with q | q | q<;>first | (exact absurd q (by assumption)) | omega
    all_goals first
     | exact stale_no (by assumption) hkj hq hM hO hns (fun q=>by have:=odd_iff.1 q;omega)
     | skip
    all_goals obtain ⟨ho1,hS1⟩:=hodd (odd_iff.2 ⟨hns,by omega⟩)
    all_goals clear ho hS hodd
    all_goals subst ho1 hS1
    · exact ev_fin ⟨trivial,_,rfl,((none,0)),rfl,by trivial,aF [1]⟩
    · exact ev_fin ⟨trivial,_,rfl,((none,0)),rfl,by trivial,aF [1]⟩
    exact ev_fin ⟨trivial,_,rfl,((none,0)),rfl,by trivial,aF [1]⟩
  obtain rfl:k=j:=by omega
  have e1:L.take k=L:=List.take_of_length_le (Nat.le_of_eq hn.symm)
  rw [e1] at hM hO
  have e2:okN L=true:=by unfold okN;rw [←hb',←hT,hO];rfl
  have e3:S=M:=by rw [hS,hM];unfold staleM;rw [e2,if_pos rfl,←hb']
  rw [e2] at ho
  clear hS
  subst e3 ho hq
  refine aG ?_
  refine aI ?_ (decide_eq_false (show ¬(↑k:Int)<(↑k:Int) from (by omega)))
  refine ev_fin (go Tryz.tbs_ok 1000 ?_)
  exact ev_fin ⟨trivial,_,rfl,((C,e)),rfl,by trivial,aF [0]⟩
theorem ba_eq {a b:ByteArray} (h:a.data.toList=b.data.toList):a=b:=by
 cases a;cases b
 simp only [ByteArray.mk.injEq]
 exact Array.toList_inj.1 h
theorem ba_app (a b:ByteArray):(a++b).data.toList=a.data.toList++b.data.toList:=by
 rw [ByteArray.data_append,Array.toList_append]
theorem ext_l (x:ByteArray) (a b:Nat):(x.extract a b).data.toList=(x.data.toList.take b).drop a:=by
 rw [ByteArray.data_extract,Array.toList_extract,List.extract_eq_take_drop,List.take_drop,Nat.add_comm]
 rcases Nat.le_total a b with h | h
 · rw [Nat.sub_add_cancel h]
 rw [List.drop_eq_nil_of_le (by rw [List.length_take];omega),List.drop_eq_nil_of_le (by rw [List.length_take];omega)]
def strL (l:List UInt8):ByteArray:=⟨l.toArray⟩
theorem strL_list (l:List UInt8):(strL l).data.toList=l:=rfl
theorem strL_size (l:List UInt8):(strL l).size=l.length:=by
 rw [←size_data,strL_list]
theorem list_strL (s:ByteArray):strL s.data.toList=s:=ba_eq rfl
def frameB (p:ByteArray):ByteArray:=strL (frameL ckL p.data.toList)
def frameM (p:ByteArray):ByteArray × Int:=if p.size≤8192 then (frameB p,0) else (.empty,3)
theorem frameT (p:ByteArray) (hp:p.size≤900000000):Triple Tryz.prog 189 [.string p] [] [] Unit (fun _=>.tuple #[.string (frameM p).1,.int .i64 (frameM p).2]) (fun _=>True) (fun _=>[]):=by
 have T1:=mputT p.size (by omega)
 obtain ⟨m,hm⟩:∃ m,m=strL (putL (2*p.size)):=⟨_,rfl⟩
 rw [show (⟨(putL (2*p.size)).toArray⟩:ByteArray)=m from hm.symm] at T1
 have hm1:m.size≤10:=by
  rw [hm,strL_size]
  exact putL_len 9 _ (by omega)
 have T2:=checkT (m++p) (by rw [ByteArray.size_append];omega)
 obtain ⟨k,hk⟩:∃ k,k=strL (ckL (m++p).data.toList):=⟨_,rfl⟩
 rw [show (⟨(ckL (m++p).data.toList).toArray⟩:ByteArray)=k from hk.symm] at T2
 have hk1:k.size=4:=by rw [hk,strL_size,ckL_len]
 have hmk:(m++k).size≤14:=by rw [ByteArray.size_append];omega
 refine aT Tryz.func189 [.va (.string p)] [] (fun E=>?_) ⟨trivial,trivial⟩
 by_cases hsz:p.size≤8192
 · have hR:frameM p=(m++k++p,0):=by
    unfold frameM
    rw [if_pos hsz]
    congr 1
    apply ba_eq
    unfold frameB
    rw [strL_list,frameL,ba_app,ba_app,hk,strL_list,ba_app,hm,strL_list,size_data,List.append_assoc]
   rw [hR]
   refine aG ?_
   refine aI ?_ (decide_eq_false (show ¬(↑p.size:Int) > 8192 from (by omega)))
   refine aC T1 [] [] fun _ h0=>?_
   refine ev_stop (go_bin (.va _) trivial rfl rfl rfl rfl rfl (by decide) (by decide) (fun w=>cat_run (by omega) w) ?_)
   refine aG ?_
   refine aC T2 [] [] fun _ h1=>?_
   refine ev_stop (go_bin (.va _) trivial rfl rfl rfl rfl rfl (by decide) (by decide) (fun w=>cat_run (by omega) w) ?_)
   refine aG ?_
   refine ev_stop (go_bin (.va _) trivial rfl rfl rfl rfl rfl (by decide) (by decide) (fun w=>cat_run (by omega) w) ?_)
   refine aG ?_
   refine ev_fin ⟨trivial,_,rfl,(()),rfl,(by trivial),Frm.nil _⟩
 have hR:frameM p=(.empty,3):=by unfold frameM;rw [if_neg hsz]
 rw [hR]
 refine aG ?_
 refine aJ ?_ (decide_eq_true (show (↑p.size:Int) > 8192 from (by omega)))
 refine ev_fin ⟨trivial,_,rfl,(()),rfl,(by trivial),Frm.nil _⟩
def nextM (s:ByteArray) (a:Nat):ByteArray × Nat × Bool:=match nextL ckL (s.data.toList.drop a) with | none=>(.empty,0,false) | some (p,n)=>(strL p,a+n,true)
theorem nextM_none {s:ByteArray} {a:Nat} (h:nextL ckL (s.data.toList.drop a)=none):nextM s a=(.empty,0,false):=by unfold nextM;rw [h]
theorem nextM_some {s:ByteArray} {a n:Nat} {p:List UInt8} (h:nextL ckL (s.data.toList.drop a)=some (p,n)):nextM s a=(strL p,a+n,true):=by unfold nextM;rw [h]
theorem getL_wide:∀ (l:List UInt8) (i acc F k:Nat),getL i acc l=some (F,k)→acc<128 ^ i→i≤9→F<18446744073709551616
 | [],_,_,_,_,h,_,_=>by cases h
 |
  c::l,i,acc,F,k,h,ha,hi=>by
  have hc:=UInt8.toNat_lt c
  rw [getL,if_neg (by omega)] at h
  split at h
  · rcases (show i≤8∨i=9 by omega) with h8 | rfl
    · refine getL_wide l (i+1) _ F k h ?_ (by omega)
      have h3:=Nat.mul_le_mul_right (128 ^ i) (show c.toNat-128≤127 by omega)
      rw [pow128]
      omega
    cases l with
    | nil=>cases h
    | cons d l=>rw [getL,if_pos (by decide)] at h;cases h
  split at h
  · cases h
  rename_i h1 h2
  cases h
  rcases (show i≤8∨i=9 by omega) with h8 | rfl
  · have h3:=Nat.mul_le_mul_right (128 ^ i) (show c.toNat≤127 by omega)
    have h4:=Nat.pow_le_pow_right (show 128 > 0 by decide) h8
    have h5:(128:Nat) ^ 8=72057594037927936:=rfl
    omega
  have h3:=Nat.mul_le_mul_right (128 ^ 9) (show c.toNat≤1 by omega)
  have h5:(128:Nat) ^ 9=9223372036854775808:=rfl
  omega
set_option maxHeartbeats 2000000 in
theorem nextT (s:ByteArray) (a:Nat) (hs:s.size≤100000000) (ha:a≤s.size):Triple Tryz.prog 254 [.string s,.int .i64 (a:Int)] [] [] Unit (fun _=>.tuple #[.string (nextM s a).1,.int .i64 ((nextM s a).2.1:Nat),.bool (nextM s a).2.2]) (fun _=>True) (fun _=>[]):=by
 have T1:=mgetT s a (by omega) ha
 refine aT Tryz.func254 [.va (.string s),vI (a:Int)] [] (fun E=>?_) ⟨trivial,trivial,trivial⟩
 have hsz:=size_data s
 cases hg:getL 0 0 (s.data.toList.drop a) with
 |
  none =>
  rw [getM_none hg] at T1
  dsimp only at T1
  rw [nextM_none (by unfold nextL;rw [hg])]
  refine aG ?_
  refine aC T1 [] [] fun _ h0=>?_
  refine aJ ?_
  refine ev_fin ⟨trivial,_,rfl,(()),rfl,(by trivial),Frm.nil _⟩
 |
  some x =>
  obtain ⟨F,k⟩:=x
  rw [getM_some hg] at T1
  dsimp only at T1
  obtain ⟨hk0,hk1,_⟩:=getL_some _ _ _ _ _ hg
  rw [List.length_drop,hsz] at hk1
  have hF:=getL_wide _ _ _ _ _ hg (by decide) (by decide)
  have hz:zigM F=if F % 2=1 then -((F / 2:Nat):Int)-1 else ((F / 2:Nat):Int):=rfl
  by_cases hbad:F % 2=1∨16384<F∨s.size-a<k+4+F / 2
  · have hR:nextM s a=(.empty,0,false):=nextM_none (by
     unfold nextL
     rw [hg]
     simp only
     rw [if_pos (by rw [List.length_drop,hsz];exact hbad)])
    rw [hR]
    rcases Nat.mod_two_eq_zero_or_one F with ho | ho
    · have hz2:zigM F=((F / 2:Nat):Int):=by rw [hz,if_neg (by omega)]
      rw [hz2] at T1
      rcases (show 8192<F / 2∨(F / 2≤8192∧s.size<a+k+4+F / 2) by omega) with hb | ⟨hb,hb2⟩
      · refine aG ?_
        refine aC T1 [] [] fun _ h0=>?_
        refine aI (aI ?_)
        refine aJ ?_ (decide_eq_true (show (↑(F / 2):Int) > 8192 from (by omega)))
        refine ev_fin ⟨trivial,_,rfl,(()),rfl,(by trivial),Frm.nil _⟩
      refine aG ?_
      refine aC T1 [] [] fun _ h0=>?_
      refine aI (aI ?_)
      refine aI ?_ (decide_eq_false (show ¬(↑(F / 2):Int) > 8192 from (by omega)))
      refine wO (s.size-(a+k)) ?_
      refine wN (4+F / 2) ?_
      refine aJ ?_ (decide_eq_true (show (↑(s.size-(a+k)):Int)<(↑(4+F / 2):Int) from (by omega)))
      refine ev_fin ⟨trivial,_,rfl,(()),rfl,(by trivial),Frm.nil _⟩
    obtain ⟨z,hz2⟩:∃ z,z=zigM F:=⟨_,rfl⟩
    rw [←hz2] at T1
    have hz3:z<0:=by rw [hz2,hz,if_pos ho];omega
    refine aG ?_
    refine aC T1 [] [] fun _ h0=>?_
    refine aI ?_
    refine aJ ?_ (decide_eq_true (by with_reducible assumption))
    refine ev_fin ⟨trivial,_,rfl,(()),rfl,(by trivial),Frm.nil _⟩
  have hz2:zigM F=((F / 2:Nat):Int):=by rw [hz,if_neg (by omega)]
  rw [hz2] at T1
  obtain ⟨n,hn⟩:∃ n,n=F / 2:=⟨_,rfl⟩
  have hb1:n≤8192:=by omega
  have hb2:a+k+4+n≤s.size:=by omega
  rw [←hn] at T1
  have e1:(s.extract a (a+k)).size=k:=by rw [ByteArray.size_extract];omega
  have e2:(s.extract (a+k+4) (a+k+4+n)).size=n:=by rw [ByteArray.size_extract];omega
  have T2:=checkT (s.extract a (a+k)++s.extract (a+k+4) (a+k+4+n)) (by rw [ByteArray.size_append];omega)
  obtain ⟨q,hq⟩:∃ q,q=strL (ckL (s.extract a (a+k)++s.extract (a+k+4) (a+k+4+n)).data.toList):=⟨_,rfl⟩
  rw [show (⟨(ckL (s.extract a (a+k)++s.extract (a+k+4) (a+k+4+n)).data.toList).toArray⟩:ByteArray)=q from hq.symm] at T2
  have l1:(s.extract a (a+k)).data.toList=(s.data.toList.drop a).take k:=by rw [ext_l,List.drop_take];congr 1;omega
  have l2:(s.extract (a+k+4) (a+k+4+n)).data.toList=((s.data.toList.drop a).drop (k+4)).take n:=by rw [ext_l,List.drop_take,List.drop_drop];congr 1<;>omega
  have l3:(s.extract (a+k) (a+k+4)).data.toList=((s.data.toList.drop a).drop k).take 4:=by rw [ext_l,List.drop_take,List.drop_drop];congr 1;omega
  have hiff:q=s.extract (a+k) (a+k+4)↔ckL ((s.data.toList.drop a).take k++((s.data.toList.drop a).drop (k+4)).take n)=((s.data.toList.drop a).drop k).take 4:=by
   rw [←l1,←l2,←l3,←ba_app,hq]
   exact ⟨fun h=>congrArg (fun x=>x.data.toList) h,fun h=>ba_eq h⟩
  have hnx:nextL ckL (s.data.toList.drop a)=if ckL ((s.data.toList.drop a).take k++((s.data.toList.drop a).drop (k+4)).take n)=((s.data.toList.drop a).drop k).take 4 then some (((s.data.toList.drop a).drop (k+4)).take n,k+4+n) else none:=by
   unfold nextL
   rw [hg]
   simp only
   rw [if_neg (by rw [List.length_drop,hsz];exact hbad),hn]
  by_cases hc:q=s.extract (a+k) (a+k+4)
  · have hR:nextM s a=(s.extract (a+k+4) (a+k+4+n),a+k+4+n,true):=by
     rw [nextM_some (by rw [hnx,if_pos (hiff.1 hc)]),←l2,list_strL]
     congr 2
     omega
    rw [hR]
    refine aG ?_
    refine aC T1 [] [] fun _ h0=>?_
    refine aI (aI ?_)
    refine aI ?_ (decide_eq_false (show ¬(↑n:Int) > 8192 from (by omega)))
    refine wO (s.size-(a+k)) ?_
    refine wN (4+n) ?_
    refine aI ?_ (decide_eq_false (show ¬(↑(s.size-(a+k)):Int)<(↑(4+n):Int) from (by omega)))
    refine wN (a+k+4) ?_
    refine wN (a+k+4+n) ?_
    refine ev_stop (go_sliceS Tryz.tbs_ok (a+k+4) (a+k+4+n) rfl rfl rfl rfl ⟨_,rfl⟩ ⟨_,rfl⟩ (by omega) (by omega) ?_)
    refine aG ?_
    refine ev_stop (go_draw Tryz.tbs_ok true [] [(0,true),(1,true),(2,true),(3,true),(4,true),(5,true),(7,true),(8,true),(9,true),(10,true),(6,false),(11,false)] rfl ?_)
    refine aG (aE ?_)
    refine ev_stop (tk_sliceS Tryz.tbs_ok (a) (a+k) aB rfl rfl rfl rfl rfl ⟨_,rfl⟩ ⟨_,rfl⟩ (by omega) (by omega) ?_)
    refine aG (aE ?_)
    refine ev_stop (tk_bin (.va _) trivial aB rfl rfl rfl rfl rfl rfl (by decide) (by decide) (fun w=>cat_run (by omega) w) ?_)
    refine aG (aE ?_)
    refine ev_stop (tk_sliceS Tryz.tbs_ok (a+k) (a+k+4) aB rfl rfl rfl rfl rfl ⟨_,rfl⟩ ⟨_,rfl⟩ (by omega) (by omega) ?_)
    refine aG (aE ?_)
    refine aC T2 [] [] fun _ h1=>?_
    refine aE (aE ?_)
    refine aI ?_ (dec_no (by with_reducible assumption))
    refine wN (a+k+4+n) ?_
    refine ev_fin ⟨trivial,_,rfl,(()),rfl,(by trivial),Frm.nil _⟩
  have hR:nextM s a=(.empty,0,false):=nextM_none (by rw [hnx,if_neg (fun h=>hc (hiff.2 h))])
  rw [hR]
  refine aG ?_
  refine aC T1 [] [] fun _ h0=>?_
  refine aI (aI ?_)
  refine aI ?_ (decide_eq_false (show ¬(↑n:Int) > 8192 from (by omega)))
  refine wO (s.size-(a+k)) ?_
  refine wN (4+n) ?_
  refine aI ?_ (decide_eq_false (show ¬(↑(s.size-(a+k)):Int)<(↑(4+n):Int) from (by omega)))
  refine wN (a+k+4) ?_
  refine wN (a+k+4+n) ?_
  refine ev_stop (go_sliceS Tryz.tbs_ok (a+k+4) (a+k+4+n) rfl rfl rfl rfl ⟨_,rfl⟩ ⟨_,rfl⟩ (by omega) (by omega) ?_)
  refine aG ?_
  refine ev_stop (go_draw Tryz.tbs_ok true [] [(0,true),(1,true),(2,true),(3,true),(4,true),(5,true),(7,true),(8,true),(9,true),(10,true),(6,false),(11,false)] rfl ?_)
  refine aG (aE ?_)
  refine ev_stop (tk_sliceS Tryz.tbs_ok (a) (a+k) aB rfl rfl rfl rfl rfl ⟨_,rfl⟩ ⟨_,rfl⟩ (by omega) (by omega) ?_)
  refine aG (aE ?_)
  refine ev_stop (tk_bin (.va _) trivial aB rfl rfl rfl rfl rfl rfl (by decide) (by decide) (fun w=>cat_run (by omega) w) ?_)
  refine aG (aE ?_)
  refine ev_stop (tk_sliceS Tryz.tbs_ok (a+k) (a+k+4) aB rfl rfl rfl rfl rfl ⟨_,rfl⟩ ⟨_,rfl⟩ (by omega) (by omega) ?_)
  refine aG (aE ?_)
  refine aC T2 [] [] fun _ h1=>?_
  refine aE (aE ?_)
  refine aJ ?_ (dec_yes (by with_reducible assumption))
  refine ev_fin ⟨trivial,_,rfl,(()),rfl,(by trivial),Frm.nil _⟩
def wholeM (s:ByteArray):List ByteArray × Nat:=((wholeL ckL s.data.toList).1.map strL,(wholeL ckL s.data.toList).2)
theorem wholeT (s:ByteArray) (hs:s.size≤10000000):Triple Tryz.prog 213 [.string s] [] [] (Option Addr × Nat) (fun (C,c)=>.tuple #[.slice C (wholeM s).1.length c,.int .i64 ((wholeM s).2:Nat)]) (fun _=>True) (fun (C,c)=>[Row 9 1 C (wholeM s).1.length c ((wholeM s).1.flatMap encS)]):=by
 refine aT Tryz.func213 [.va (.string s)] [] (fun E=>?_) ⟨trivial,trivial⟩
 have hsz:=size_data s
 obtain ⟨R,hR⟩:∃ R,R=wholeM s:=⟨_,rfl⟩
 rw [←hR]
 refine go_fact (Row 9 1 none 0 0 (([]:List ByteArray).flatMap encS)) (Row.nilE _ _) ?_
 refine aG ?_
 refine ev_stop (go_loopR [2,3,4,5,6,7,8,9,10,11,12,13,14,15,16,17,18,19,20,21,22] (fun (a,C,q,e,_)=>[(2,vL C q e),(3,vI (a:Nat))]) (fun (_,C,q,e,M)=>[(0,.fact (Row 9 1 C q e (M.flatMap encS)))]) (fun (a,_,q,_,M)=>a≤s.size∧q=M.length∧q≤a∧R=(M++(wholeL ckL (s.data.toList.drop a)).1.map strL,a+(wholeL ckL (s.data.toList.drop a)).2)) (fun (a,_,_,_,_)=>s.size-a) ((0,none,0,0,[]):Nat × Option Addr × Nat × Nat × List ByteArray) ⟨Nat.zero_le _,rfl,Nat.zero_le _,by rw [hR];unfold wholeM;simp⟩ aS (fun x_ h_=>?_))
 obtain ⟨a,C,q,e,M⟩:=x_
 obtain ⟨ha,hq,hq2,hM⟩:=h_
 have T1:=nextT s a (by omega) ha
 cases hn:nextL ckL (s.data.toList.drop a) with
 |
  none =>
  rw [nextM_none hn] at T1
  dsimp only at T1
  rw [wholeL_none hn] at hM
  simp only [List.map_nil,List.append_nil,Nat.add_zero] at hM
  subst hM
  subst hq
  refine aG ?_
  refine aC T1 [] [] fun _ h20=>?_
  refine aJ ?_
  exact ev_fin ⟨trivial,_,rfl,((C,e)),rfl,by trivial,aF [0]⟩
 |
  some x =>
  obtain ⟨p,n⟩:=x
  rw [nextM_some hn] at T1
  dsimp only at T1
  have hs2:=nextL_some hn
  rw [List.length_drop,hsz] at hs2
  rw [wholeL_some hn,List.drop_drop] at hM
  refine aG ?_
  refine aC T1 [] [] fun _ h20=>?_
  refine aI ?_
  refine ev_new fun b21=>?_
  refine ev_stop (go_appendE (sz:=1) (M:=[_]) (enc:=encS) Tryz.tbs_ok [0] [] (.inr 1) (M) ([strL p]) ((M)++([strL p])) (q+1) rfl rfl rfl rfl rfl rfl rfl (by decide) rfl (by decide) (fun _ p=>starH_one.1 p) rfl (fun _ p=>Pt.rd p rfl) (by first | rfl | simp) (by first | rfl | omega) (aM (q+1)) (aN (q+1)) (fun _ _=>aL) (fun A22 c23 h24=>?_))
  refine aG ?_
  refine ev_fin (round_next ((a+n,A22,q+1,c23,M++[strL p])) (?_:a+n≤s.size∧q+1=(M++[strL p]).length∧q+1≤a+n∧R=(M++[strL p]++List.map strL (wholeL ckL (List.drop (a+n) s.data.toList)).fst,a+n+(wholeL ckL (List.drop (a+n) s.data.toList)).snd)) (show s.size-(a+n)<s.size-a from (by omega)) aS)
  refine ⟨by omega,by rw [hq];simp,by omega,?_⟩
  rw [hM]
  simp only [List.map_cons,List.append_assoc,List.singleton_append,Prod.mk.injEq,true_and]
  omega
def ptB (p:Nat) (q A:Option Addr) (n c:Nat):Asn:=Pt p 278 [.pointer q,.slice A n c]
theorem copyN (p:Nat) (A:Option Addr) (n c:Nat):Triple Tryz.prog 239 [pP p] [ptB p none A n c] [] Unit (fun _=>.tuple #[]) (fun _=>True) (fun _=>[ptB p (some ⟨p,0,none⟩) A n c]):=by
 refine aT Tryz.func239 [.pt 0 p 0] [.box p 278 [.va (.pointer none),vL A n c]] (fun E=>?_) ⟨rfl,trivial⟩
 refine aG ?_
 refine ev_stop (go_toUnsafe (t:=278) rfl rfl (by kernel_rfl) (by kernel_rfl) (by kernel_rfl) rfl (Nat.zero_lt_succ _) ?_)
 refine go_ext (e:=Extern.AbiNoEscape.same) Tryz.func275 rfl rfl rfl rfl rfl (.pt 0 p 0) rfl (fun a w hR=>by
  rw [show Array.map a.eval #[Operand.tmp 9] = #[a.eval (.tmp 9)] from by simp,ev_denv hR.fr rfl rfl]
  rfl) ?_
 refine go_fromUnsafe (u:=278) rfl rfl (by kernel_rfl) (by kernel_rfl) (by kernel_rfl) rfl (by kernel_rfl) ?_
 refine aG ?_
 exact ev_fin ⟨trivial,_,rfl,(),rfl,by trivial,aF [0]⟩
theorem copyS (p:Nat) (A:Option Addr) (n c:Nat):Triple Tryz.prog 239 [pP p] [ptB p (some ⟨p,0,none⟩) A n c] [] Unit (fun _=>.tuple #[]) (fun _=>True) (fun _=>[ptB p (some ⟨p,0,none⟩) A n c]):=by
 refine aT Tryz.func239 [.pt 0 p 0] [.box p 278 [.pt 0 p 0,vL A n c]] (fun E=>?_) ⟨rfl,trivial⟩
 refine aG ?_
 refine ev_stop (go_neqSame Tryz.tbs_ok rfl rfl rfl rfl rfl rfl (by kernel_rfl) ?_)
 refine aG ?_
 exact ev_fin ⟨trivial,_,rfl,(),rfl,by trivial,aF [0]⟩
theorem copyT (p:Nat) (q A:Option Addr) (n c:Nat) (hq:q=none∨q=some ⟨p,0,none⟩):Triple Tryz.prog 239 [pP p] [ptB p q A n c] [] Unit (fun _=>.tuple #[]) (fun _=>True) (fun _=>[ptB p (some ⟨p,0,none⟩) A n c]):=by
 rcases hq with rfl | rfl
 · exact copyN p A n c
 exact copyS p A n c
theorem writeT (p:Nat) (q A:Option Addr) (n c:Nat) (L:List UInt8) (x:ByteArray) (hq:q=none∨q=some ⟨p,0,none⟩) (hn:n+x.size≤1000000000):Triple Tryz.prog 190 [pP p,.string x] [ptB p q A n c,Row 5 1 A n c (L.flatMap encC)] [] (Option Addr × Nat) (fun _=>.tuple #[.int .i64 (x.size:Nat),.nilIface]) (fun _=>True) (fun (A2,c2)=>[ptB p (some ⟨p,0,none⟩) A2 (n+x.size) c2,Row 5 1 A2 (n+x.size) c2 ((L++x.data.toList).flatMap encC)]):=by
 have T1:=copyT p q A n c hq
 unfold ptB at T1
 refine aT Tryz.func190 [.pt 0 p 0,.va (.string x)] [.box p 278 [.va (.pointer q),vL A n c],.fact (Row 5 1 A n c (L.flatMap encC))] (fun E=>?_) ⟨rfl,trivial,trivial⟩
 refine aG ?_
 refine aD T1 [0] [] (fun v0_=>[.box (p) 278 [vP p,vL A n c]]) fun _ h0=>?_
 refine ev_stop (go_appendS Tryz.tbs_ok (bs:=L) 1 rfl rfl rfl rfl rfl rfl rfl (by kernel_rfl) rfl (by omega) (fun A1 c2 h3=>?_))
 refine aG ?_
 exact ev_fin ⟨trivial,_,rfl,((A1,c2)),rfl,by trivial,aF [0,1]⟩
theorem stringN (p:Nat) (q:Option Addr):Triple Tryz.prog 191 [pP p] [ptB p q none 0 0] [] Unit (fun _=>.string .empty) (fun _=>True) (fun _=>[]):=by
 refine aT Tryz.func191 [.pt 0 p 0] [.box p 278 [.va (.pointer q),vL none 0 0]] (fun E=>?_) ⟨rfl,trivial⟩
 refine aG ?_
 refine ev_stop (go_draw Tryz.tbs_ok false [0] [(0,true),(1,true),(2,true),(3,true),(5,true),(6,true),(7,true),(8,true),(9,true),(4,false),(10,false),(11,false)] rfl ?_)
 refine aG (aE ?_)
 refine ev_stop (go_dataN rfl rfl rfl ?_)
 refine aG (aE ?_)
 refine ev_stop (go_unsafeN rfl rfl rfl rfl rfl ?_)
 refine aG (aE (aK ?_))
 refine ev_fin ⟨trivial,_,rfl,(()),rfl,(by trivial),Frm.nil _⟩
theorem stringS (p g:Nat) (q:Option Addr) (n c:Nat) (L:List UInt8) (hn:n=L.length) (hn1:n≤1000000000) (h0:0<n) (hc:n≤c):Triple Tryz.prog 191 [pP p] [ptB p q (some ⟨g,0,none⟩) n c,Row 5 1 (some ⟨g,0,none⟩) n c (L.flatMap encC)] [] Unit (fun _=>.string (strL L)) (fun _=>True) (fun _=>[]):=by
 refine aT Tryz.func191 [.pt 0 p 0] [.box p 278 [.va (.pointer q),vL (some ⟨g,0,none⟩) n c],.fact (Row 5 1 (some ⟨g,0,none⟩) n c (L.flatMap encC))] (fun E=>?_) ⟨rfl,trivial⟩
 refine aG ?_
 refine ev_stop (go_draw Tryz.tbs_ok false [0] [(0,true),(1,true),(2,true),(3,true),(5,true),(6,true),(7,true),(8,true),(9,true),(4,false),(10,false),(11,false)] rfl ?_)
 refine aG (aE ?_)
 refine ev_stop (go_dataS rfl rfl rfl (by omega) ?_)
 refine aG (aE ?_)
 refine ev_stop (go_unsafeS Tryz.tbs_ok 1 rfl rfl rfl rfl rfl rfl rfl rfl hn h0 hn1 ?_)
 refine aG (aE (aK ?_))
 refine ev_fin ⟨trivial,_,rfl,(()),rfl,(by trivial),Frm.nil _⟩
def framedM (ps:List ByteArray):ByteArray × Int:=if ps.all (fun p=>decide (p.size≤8192)) then (strL (framesL ckL (ps.map fun p=>p.data.toList)),0) else (.empty,3)
theorem framesL_take {ps:List ByteArray} {i:Nat} (h:i<ps.length):framesL ckL ((ps.take (i+1)).map fun p=>p.data.toList)=framesL ckL ((ps.take i).map fun p=>p.data.toList)++frameL ckL ps[i].data.toList:=by
 rw [←List.take_append_getElem h,List.map_append,framesL_append]
 simp [framesL]
theorem frameL_size (p:List UInt8):(frameL ckL p).length≤p.length+20∨4611686018427387903<p.length:=by
 rcases Nat.lt_or_ge 4611686018427387903 p.length with h | h
 · exact .inr h
 left
 unfold frameL
 have:=putL_len 9 (2*p.length) (by omega)
 simp only [List.length_append,ckL_len]
 omega
set_option maxHeartbeats 1000000 in
theorem framedT (A:Option Addr) (ps:List ByteArray) (np cp:Nat) (hp:np=ps.length) (hp1:np≤10000) (hp2:∀ p∈ps,p.size≤900000000):Triple Tryz.prog 142 [.slice A np cp] [] [Rd 1 A np (ps.flatMap encS)] Unit (fun _=>.tuple #[.string (framedM ps).1,.int .i64 (framedM ps).2]) (fun _=>True) (fun _=>[]):=by
 obtain ⟨R,hR⟩:∃ R,R=framedM ps:=⟨_,rfl⟩
 rw [←hR]
 refine aT Tryz.func142 [vL A np cp] [] (fun E=>?_) ⟨trivial,trivial⟩
 refine go_fact (Row 5 1 none 0 0 (([]:List UInt8).flatMap encC)) (Row.nilE _ _) ?_
 refine aG ?_
 refine ev_new fun b0=>?_
 refine ev_stop (go_loopR [2,3,6,7,8,11,12,13,14,15,16,17,18,19,20,21,22,23,24,25] (fun (i,_)=>[(11,vI (i:Nat))]) (fun (_,q,C,n,c,L)=>[(0,.fact (Row 5 1 C n c (L.flatMap encC))),(1,.box b0 278 [.va (.pointer q),vL C n c])]) (fun (i,q,C,n,c,L)=>i≤np∧(q=none∨q=some ⟨b0,0,none⟩)∧(ps.take i).all (fun p=>decide (p.size≤8192))=true∧L=framesL ckL ((ps.take i).map fun p=>p.data.toList)∧n=L.length∧n≤i*10000∧(i=0→C=none∧n=0∧c=0)∧(0<i→0<n)) (fun (i,_)=>np-i) ((0,none,none,0,0,[]):Nat × Option Addr × Option Addr × Nat × Nat × List UInt8) ⟨Nat.zero_le _,.inl rfl,rfl,rfl,rfl,Nat.le_refl _,fun _=>⟨rfl,rfl,rfl⟩,fun h=>absurd h (by decide)⟩ aS (fun x_ h_=>?_))
 obtain ⟨i,q,C,n,c,L⟩:=x_
 obtain ⟨hi,hq,hok,hL,hn,hn2,hz,hz2⟩:=h_
 rcases Nat.lt_or_ge i np with hinp | hinp
 · have hil:i<ps.length:=by omega
   have T1:=frameT ps[i] (hp2 _ (List.getElem_mem hil))
   have hall:(ps.take (i+1)).all (fun p=>decide (p.size≤8192))=decide (ps[i].size≤8192):=by
    rw [←List.take_append_getElem hil,List.all_append,hok]
    simp
   by_cases hsz:ps[i].size≤8192
   · have hfr:frameM ps[i]=(frameB ps[i],0):=by unfold frameM;rw [if_pos hsz]
     rw [hfr] at T1
     dsimp only at T1
     have hf1:(frameB ps[i]).data.toList=frameL ckL ps[i].data.toList:=rfl
     have hf2:(frameB ps[i]).size≤8220∧5≤(frameB ps[i]).size:=by
      have e:(frameB ps[i]).size=(frameL ckL ps[i].data.toList).length:=strL_size _
      have h3:=frameL_size ps[i].data.toList
      have h4:=frameL_len ckL_len ps[i].data.toList
      rw [size_data] at h3
      omega
     obtain ⟨F,hF⟩:∃ F,F=frameB ps[i]:=⟨_,rfl⟩
     rw [←hF] at T1 hf1 hf2
     have T2:=writeT b0 q C n c L F hq (by omega)
     unfold ptB at T2
     have hLs:=framesL_take hil
     rw [←hf1,←hL] at hLs
     refine aG ?_
     refine aJ ?_ (decide_eq_true (show (↑i:Int)<(↑np:Int) from (by omega)))
     refine ev_stop (go_indexE (sz:=1) Tryz.tbs_ok (.inl 0) (i) rfl rfl rfl rfl rfl rfl (by omega) rfl (fun _ h=>h) (fun g20 o22 e21=>?_))
     subst e21
     refine aG ?_
     have l23:i<(ps).length:=(by omega)
     refine ev_stop (go_loadE Tryz.tbs_ok (.inl 0) (i) 0 rfl rfl rfl rfl (fun _ h=>h) (by omega) (fun _=>rfl) (by omega) l23 (by decide) ?_)
     refine aG ?_
     refine aC T1 [] [] fun _ h24=>?_
     refine aI ?_
     refine aD T2 [1,0] [] (fun (v0_,v1_)=>[.box (b0) 278 [vP b0,vL v0_ (n+F.size) v1_],.fact (Row 5 1 v0_ (n+F.size) v1_ (List.flatMap encC (L++F.data.toList)))]) fun ⟨x25,x26⟩ h27=>?_
     refine wN (i+1) ?_
     refine ev_fin (round_next ((i+1,some { block:=b0,off:=0:Addr },x25,n+F.size,x26,L++F.data.toList)) (?_:i+1≤np∧(some { block:=b0,off:=0:Addr }=none∨some { block:=b0,off:=0:Addr }=some { block:=b0,off:=0:Addr })∧((List.take (i+1) ps).all fun p ↦ decide (p.size≤8192))=true∧L++F.data.toList=framesL ckL (List.map (fun p ↦ p.data.toList) (List.take (i+1) ps))∧n+F.size=(L++F.data.toList).length∧n+F.size≤(i+1)*10000∧(i+1=0→x25=none∧n+F.size=0∧x26=0)∧(0<i+1→0<n+F.size)) (show np-(i+1)<np-i from (by omega)) aS)
     refine ⟨by omega,.inr rfl,by rw [hall];exact decide_eq_true hsz,hLs.symm,by rw [hn,List.length_append,size_data],by omega,fun h=>absurd h (by omega),fun _=>by omega⟩
   have hfr:frameM ps[i]=(.empty,3):=by unfold frameM;rw [if_neg hsz]
   rw [hfr] at T1
   dsimp only at T1
   have hRe:R=(.empty,3):=by
    rw [hR]
    unfold framedM
    rw [if_neg (fun h=>hsz (by
     have:=List.all_eq_true.1 h _ (List.getElem_mem hil)
     exact of_decide_eq_true this))]
   rw [hRe]
   refine aG ?_
   refine aJ ?_ (decide_eq_true (show (↑i:Int)<(↑np:Int) from (by omega)))
   refine ev_stop (go_indexE (sz:=1) Tryz.tbs_ok (.inl 0) (i) rfl rfl rfl rfl rfl rfl (by omega) rfl (fun _ h=>h) (fun g20 o22 e21=>?_))
   subst e21
   refine aG ?_
   have l23:i<(ps).length:=(by omega)
   refine ev_stop (go_loadE Tryz.tbs_ok (.inl 0) (i) 0 rfl rfl rfl rfl (fun _ h=>h) (by omega) (fun _=>rfl) (by omega) l23 (by decide) ?_)
   refine aG ?_
   refine aC T1 [] [] fun _ h24=>?_
   refine aJ ?_
   refine ev_fin ⟨trivial,_,rfl,(()),rfl,(by trivial),Frm.nil _⟩
 obtain rfl:i=np:=by omega
 rw [List.take_of_length_le (by omega)] at hok hL
 have hRe:R=(strL L,0):=by rw [hR];unfold framedM;rw [if_pos hok,hL]
 rw [hRe]
 rcases Nat.eq_zero_or_pos i with h0 | h0
 · obtain ⟨rfl,rfl,rfl⟩:=hz h0
   have hLn:L=[]:=List.eq_nil_of_length_eq_zero hn.symm
   subst hLn
   have T3:=stringN b0 q
   unfold ptB at T3
   refine aG ?_
   refine aI ?_ (decide_eq_false (show ¬(↑i:Int)<(↑i:Int) from (by omega)))
   refine ev_fin (go Tryz.tbs_ok 1000 ?_)
   refine aC T3 [1] [] fun _ h20=>?_
   refine ev_fin ⟨trivial,_,rfl,(()),rfl,(by trivial),Frm.nil _⟩
 have hn0:=hz2 h0
 refine go_know (.inr 0) (Row 5 1 C n c (L.flatMap encC)) rfl (p:=(∃ g,C=some ⟨g,0,none⟩)∧n≤c) (fun h p=>⟨Row.at0 h p hn0,Row.cap p⟩) fun ⟨⟨g,hg⟩,hc⟩=>?_
 subst hg
 have T3:=stringS b0 g q n c L hn (by omega) hn0 hc
 unfold ptB at T3
 refine aG ?_
 refine aI ?_ (decide_eq_false (show ¬(↑i:Int)<(↑i:Int) from (by omega)))
 refine ev_fin (go Tryz.tbs_ok 1000 ?_)
 refine aC T3 [1,0] [] fun _ h20=>?_
 refine ev_fin ⟨trivial,_,rfl,(()),rfl,(by trivial),Frm.nil _⟩
def ptW (p q:Nat) (s:Int) (bad:Bool) (b t:Int):Asn:=Pt p 195 [pP q,.int .i64 s,.bool bad,.int .i64 b,.int .i64 t]
theorem putC (p q bw bn bs:Nat) (s:Int) (bad:Bool) (b t:Int) (D:DK) (x y:ByteArray) (hD:okD D) (hy:y.size≤100000000) :
 Triple Tryz.prog 192 [pP bw,pP bn,pP bs] [Pt bw 97 [pP p],Pt bn 9 [.string x],Pt bs 9 [.string y],ptW p q s bad b t,DiskM q D] [] Unit (fun _=>.int .i64 (appD D x y).2) (fun _=>True) (fun _=>[Pt bw 97 [pP p],Pt bn 9 [.string x],Pt bs 9 [.string y],ptW p q s bad b t,DiskM q (appD D x y).1]):=by
 have T1:=appM q D x y hD hy
 refine aT Tryz.func192 [.pt 0 bw 0,.pt 1 bn 0,.pt 2 bs 0] [.box bw 97 [.pt 3 p 0],.box bn 9 [.va (.string x)],.box bs 9 [.va (.string y)],.box p 195 [vP q,vI s,.va (.bool bad),vI b,vI t],.fact (DiskM q D)] (fun E=>?_) ⟨rfl,rfl,rfl,trivial⟩
 refine aG ?_
 refine ev_stop (go_draw Tryz.tbs_ok false [0,1,2,3] [(0,true),(1,true),(2,true),(3,true),(4,true),(5,true),(6,false),(7,false)] rfl ?_)
 refine aG (aE ?_)
 refine aC T1 [4] [] fun _ h0=>?_
 refine aE (aK ?_)
 exact ev_fin ⟨trivial,_,rfl,(),rfl,by trivial,aF [0,1,2,3,4]⟩
theorem syncC (p q bw bn:Nat) (s:Int) (bad:Bool) (b t:Int) (D:DK) (x:ByteArray) (hD:okD D) :
 Triple Tryz.prog 159 [pP bw,pP bn] [Pt bw 97 [pP p],Pt bn 9 [.string x],ptW p q s bad b t,DiskM q D] [] Unit (fun _=>.int .i64 (syncD D x).2) (fun _=>True) (fun _=>[Pt bw 97 [pP p],Pt bn 9 [.string x],ptW p q s bad b t,DiskM q (syncD D x).1]):=by
 have T1:=syncM q D x hD
 refine aT Tryz.func159 [.pt 0 bw 0,.pt 1 bn 0] [.box bw 97 [.pt 2 p 0],.box bn 9 [.va (.string x)],.box p 195 [vP q,vI s,.va (.bool bad),vI b,vI t],.fact (DiskM q D)] (fun E=>?_) ⟨rfl,rfl,trivial⟩
 refine aG ?_
 refine ev_stop (go_draw Tryz.tbs_ok false [0,1,2] [(0,true),(1,true),(2,true),(3,true),(4,true),(5,false),(6,false)] rfl ?_)
 refine aG (aE ?_)
 refine aC T1 [3] [] fun _ h0=>?_
 refine aE (aK ?_)
 exact ev_fin ⟨trivial,_,rfl,(),rfl,by trivial,aF [0,1,2,3]⟩
theorem remC (p q bw bn:Nat) (s:Int) (bad:Bool) (b t:Int) (D:DK) (x:ByteArray) (hD:okD D) :
 Triple Tryz.prog 208 [pP bw,pP bn] [Pt bw 97 [pP p],Pt bn 9 [.string x],ptW p q s bad b t,DiskM q D] [] Unit (fun _=>.int .i64 (remD D x).2) (fun _=>True) (fun _=>[Pt bw 97 [pP p],Pt bn 9 [.string x],ptW p q s bad b t,DiskM q (remD D x).1]):=by
 have T1:=remM q D x hD
 refine aT Tryz.func208 [.pt 0 bw 0,.pt 1 bn 0] [.box bw 97 [.pt 2 p 0],.box bn 9 [.va (.string x)],.box p 195 [vP q,vI s,.va (.bool bad),vI b,vI t],.fact (DiskM q D)] (fun E=>?_) ⟨rfl,rfl,trivial⟩
 refine aG ?_
 refine ev_stop (go_draw Tryz.tbs_ok false [0,1,2] [(0,true),(1,true),(2,true),(3,true),(4,true),(5,false),(6,false)] rfl ?_)
 refine aG (aE ?_)
 refine aC T1 [3] [] fun _ h0=>?_
 refine aE (aK ?_)
 exact ev_fin ⟨trivial,_,rfl,(),rfl,by trivial,aF [0,1,2,3]⟩
abbrev HasFn (f:FuncId):Prop:=Tryz.tbs.lo≤f∧f<Tryz.tbs.nf∧Tryz.tbs.ex.all (fun e => !(e==f))=true
def ChgOf (p q:Nat) (s b t:Int) (C:Asn) (v:Value) (f:DK→DK × Int):Prop :=
 ∃ fn caps,v = .func (.func fn) #[] caps∧HasFn fn∧(∀ D,okD D→okD (f D).1) ∧
  ∀ bad D,okD D→Triple Tryz.prog fn caps.toList [C,ptW p q s bad b t,DiskM q D] [TabA] Unit (fun _=>.int .i64 (f D).2) (fun _=>True) (fun _=>[C,ptW p q s bad b t,DiskM q (f D).1])
def IterOf (p q:Nat) (s b t:Int) (B:Asn) (it:Value) (fs:List (DK→DK × Int)):Prop :=
 ∃ gf lb,it = .func (.func gf) #[] lb∧HasFn gf∧∀ (L:Nat) (J:Nat→Asn) (Jx:Asn),
  (∀ i f,fs[i]? = some f→∀ v C,ChgOf p q s b t C v f→YTriple Tryz.prog L [v] [C,J i] [TabA] Bool (fun x=>.bool x) (fun _=>True) (fun x=>[C,if x then J (i+1) else Jx])) →
  Triple Tryz.prog gf (.func (.yield L) #[] #[]::lb.toList) [B,J 0] [TabA] Bool (fun _=>.tuple #[]) (fun _=>True) (fun x=>[B,if x then J fs.length else Jx])
theorem removedI (p q bn bw:Nat) (s b t:Int) (A:Option Addr) (n c:Nat) (l:List ByteArray) (hn:n=l.length) (hn1:n≤1000000000) :
 IterOf p q s b t (Asn.star [Pt bn 176 [.slice A n c],Pt bw 97 [pP p],Row 9 1 A n c (l.flatMap encS)]) (.func (.func 207) #[] #[pP bn,pP bw]) (l.map fun x D=>remD D x):=by
 refine ⟨207,_,rfl,⟨by decide,by decide,by decide⟩,fun L J Jx hY=>?_⟩
 have key:Triple Tryz.prog 207 [.func (.yield L) #[] #[],pP bn,pP bw] [Pt bn 176 [.slice A n c],Pt bw 97 [pP p],Row 9 1 A n c (l.flatMap encS),J 0] [TabA] Bool (fun _=>.tuple #[]) (fun _=>True) (fun x=>[Pt bn 176 [.slice A n c],Pt bw 97 [pP p],Row 9 1 A n c (l.flatMap encS),if x then J n else Jx]):=by
  refine aT Tryz.func207 [.va (.func (.yield L) #[] #[]),.pt 0 bn 0,.pt 1 bw 0] [.box bn 176 [vL A n c],.box bw 97 [vP p],.fact (Row 9 1 A n c (l.flatMap encS)),.fact (J 0)] (fun E=>?_) ⟨trivial,rfl,rfl,trivial⟩
  refine aG ?_
  refine ev_stop (go_loopR [5,8,9,10,11,12,13,14,15,16] (fun j=>[(8,vI (j:Nat))]) (fun j=>[(3,.fact (J j))]) (fun j=>j≤n) (fun j=>n-j) (0:Nat) (Nat.zero_le _) aS (fun j hj=>?_))
  refine aG ?_
  refine ev_if_lt (fun h20=>?_) (fun h20=>?_)
  · refine aG ?_
    refine ev_stop (go_index0 (sz:=1) Tryz.tbs_ok (.inr 2) (j) rfl rfl rfl rfl rfl rfl (by omega) rfl Row.at0 (fun g21 e22=>?_))
    subst e22
    refine aG ?_
    have l23:j<(l).length:=(by omega)
    refine ev_stop (go_loadE Tryz.tbs_ok (.inr 2) (j) 0 rfl rfl rfl rfl (fun _ h=>Row.rd h) (by omega) (fun _=>rfl) (by omega) l23 (by decide) ?_)
    refine go Tryz.tbs_ok 4 ?_
    refine ev_new fun b24=>?_
    refine ev_stop ?_
    refine go_yield (List.take 2 _) (List.drop 2 _) (List.take_append_drop 2 _).symm ?_
    refine aG ?_
    refine ev_fin ⟨rfl,?_⟩
    have T:YTriple Tryz.prog L [.func (.func 208) #[] #[pP bw,pP b24]] [Pt bw 97 [pP p],Pt b24 9 [.string l[j]],J j] [TabA] Bool (fun x=>.bool x) (fun _=>True) (fun x=>[Pt bw 97 [pP p],Pt b24 9 [.string l[j]],if x then J (j+1) else Jx]) :=
     (hY j (fun D=>remD D l[j]) (by simp [l23]) _ (Asn.star [Pt bw 97 [pP p],Pt b24 9 [.string l[j]]]) ⟨208,#[pP bw,pP b24],rfl,⟨by decide,by decide,by decide⟩,fun D h=>rem_ok h _,fun bad D hD=>((remC p q bw b24 s bad b t D l[j] hD).reads (N':=[TabA]) (fun _ h=>(by cases h))).shape (fun h q=>(star_one (l:=[_,_])).1 q) (fun _ h q=>(star_one (l:=[_,_])).2 q)⟩).pre (fun h q=>(star_one (l:=[_,_])).2 q) (fun _ h q=>(star_one (l:=[_,_])).1 q)
    refine ystep rfl rfl rfl rfl rfl rfl rfl T [1,4,3] [.inl 0] (fun x:Bool=>[.box bw 97 [vP p],.box b24 9 [.va (.string l[j])],.fact (if x then J (j+1) else Jx)]) rfl (by decide) rfl (by simp) (fun _=>rfl) (fun _=>newsOk_box (by simp [SV.good,SV.goodL]) (newsOk_box (by simp [SV.good,SV.goodL]) (newsOk_fact (newsOk_nil _)))) (fun _=>aL) (fun x _=>?_)
    cases x
    · refine aG (aJ ?_)
      exact ev_fin ⟨trivial,_,rfl,false,rfl,trivial,Frm.imp (M:=[Pt bn 176 [.slice (some ⟨g21,0,none⟩) n c],Pt bw 97 [pP p],Row 9 1 (some ⟨g21,0,none⟩) n c (l.flatMap encS),Jx]) [0,1,2,3] rfl (by decide) (fun h q=>q)⟩
    refine aG (aI ?_)
    refine wN (j+1) ?_
    refine ev_fin (round_next (j+1) (show j+1≤n from (by omega)) (show n-(j+1)<n-j from (by omega)) aS)
  obtain rfl:j=n:=by omega
  refine aG ?_
  exact ev_fin (go Tryz.tbs_ok 1000 (ev_fin ⟨trivial,_,rfl,true,rfl,trivial,Frm.imp (M:=[Pt bn 176 [.slice A j c],Pt bw 97 [pP p],Row 9 1 A j c (l.flatMap encS),J j]) [0,1,2,3] rfl (by decide) (fun h q=>q)⟩))
 exact key.shape (fun h q=>(star_one (l:=[_,_,_])).1 q) (fun x h q=>(star_one (l:=[_,_,_])).2 (by rw [List.length_map,←hn] ;exact q))
def encV (v:FuncId × Array Value):List Value:=[.func (.func v.1) #[] v.2]
theorem valuesI (p q bs:Nat) (s b t:Int) (A:Option Addr) (n c:Nat) (vs:List (FuncId × Array Value)) (fs:List (DK→DK × Int)) (C:Asn) (hn:n=vs.length) (hn1:n≤1000000000) (hf:vs.length=fs.length)
 (hv:∀ (i:Nat) v f,vs[i]? = some v→fs[i]? = some f→ChgOf p q s b t C (.func (.func v.1) #[] v.2) f) :
 IterOf p q s b t (Asn.star [Pt bs 246 [.slice A n c],Row 55 1 A n c (vs.flatMap encV),C]) (.func (.func 222) #[] #[pP bs]) fs:=by
 refine ⟨222,_,rfl,⟨by decide,by decide,by decide⟩,fun L J Jx hY=>?_⟩
 have key:Triple Tryz.prog 222 [.func (.yield L) #[] #[],pP bs] [Pt bs 246 [.slice A n c],Row 55 1 A n c (vs.flatMap encV),C,J 0] [TabA] Bool (fun _=>.tuple #[]) (fun _=>True) (fun x=>[Pt bs 246 [.slice A n c],Row 55 1 A n c (vs.flatMap encV),C,if x then J n else Jx]):=by
  refine aT Tryz.func222 [.va (.func (.yield L) #[] #[]),.pt 0 bs 0] [.box bs 246 [vL A n c],.fact (Row 55 1 A n c (vs.flatMap encV)),.fact C,.fact (J 0)] (fun E=>?_) ⟨trivial,rfl,trivial⟩
  refine aG ?_
  refine ev_stop (go_loopR [4,7,8,9,10,11,12,13,14,15] (fun j=>[(7,vI (j:Nat))]) (fun j=>[(3,.fact (J j))]) (fun j=>j≤n) (fun j=>n-j) (0:Nat) (Nat.zero_le _) aS (fun j hj=>?_))
  refine aG ?_
  refine ev_if_lt (fun h20=>?_) (fun h20=>?_)
  · refine aG ?_
    refine ev_stop (go_index0 (sz:=1) Tryz.tbs_ok (.inr 1) (j) rfl rfl rfl rfl rfl rfl (by omega) rfl Row.at0 (fun g21 e22=>?_))
    subst e22
    refine aG ?_
    have l23:j<(vs).length:=(by omega)
    refine ev_stop (go_loadE Tryz.tbs_ok (.inr 1) (j) 0 rfl rfl rfl rfl (fun _ h=>Row.rd h) (by omega) (fun _=>rfl) (by omega) l23 (by decide) ?_)
    refine go Tryz.tbs_ok 3 ?_
    refine ev_stop ?_
    refine go_yield (List.take 2 _) (List.drop 2 _) (List.take_append_drop 2 _).symm ?_
    refine aG ?_
    refine ev_fin ⟨rfl,?_⟩
    have l24:j<fs.length:=by omega
    have T:=hY j fs[j] (List.getElem?_eq_getElem l24) _ C (hv j vs[j] fs[j] (List.getElem?_eq_getElem l23) (List.getElem?_eq_getElem l24))
    refine ystep rfl rfl rfl rfl rfl rfl rfl T [2,3] [.inl 0] (fun x:Bool=>[.fact C,.fact (if x then J (j+1) else Jx)]) rfl (by decide) rfl (by simp) (fun _=>rfl) (fun _=>newsOk_fact (newsOk_fact (newsOk_nil _))) (fun _=>aL) (fun x _=>?_)
    cases x
    · refine aG (aJ ?_)
      exact ev_fin ⟨trivial,_,rfl,false,rfl,trivial,Frm.imp (M:=[Pt bs 246 [.slice (some ⟨g21,0,none⟩) n c],Row 55 1 (some ⟨g21,0,none⟩) n c (vs.flatMap encV),C,Jx]) [0,1,2,3] rfl (by decide) (fun h q=>q)⟩
    refine aG (aI ?_)
    refine wN (j+1) ?_
    refine ev_fin (round_next (j+1) (show j+1≤n from (by omega)) (show n-(j+1)<n-j from (by omega)) aS)
  obtain rfl:j=n:=by omega
  refine aG ?_
  exact ev_fin (go Tryz.tbs_ok 1000 (ev_fin ⟨trivial,_,rfl,true,rfl,trivial,Frm.imp (M:=[Pt bs 246 [.slice A j c],Row 55 1 A j c (vs.flatMap encV),C,J j]) [0,1,2,3] rfl (by decide) (fun h q=>q)⟩))
 exact key.shape (fun h q=>(star_one (l:=[_,_,_])).1 q) (fun x h q=>(star_one (l:=[_,_,_])).2 (by rw [←hf,←hn] ;exact q))
def runD:List (DK→DK × Int)→DK→DK × Int
 | [],D=>(D,0)
 | f::l,D=>if (f D).2=0 then runD l (f D).1 else f D
theorem run_step:∀ {fs:List (DK→DK × Int)} {i:Nat} {f:DK→DK × Int} {D:DK},fs[i]? = some f→(runD (fs.take i) D).2=0 →
 ((f (runD (fs.take i) D).1).2=0→runD (fs.take (i+1)) D=f (runD (fs.take i) D).1)∧((f (runD (fs.take i) D).1).2≠0→runD fs D=f (runD (fs.take i) D).1):=by
 intro fs
 induction fs with
 | nil=>intro i f D h;simp at h
 |
  cons g l ih =>
  intro i f D h h0
  cases i with
  |
   zero =>
   simp only [List.getElem?_cons_zero,Option.some.injEq] at h
   subst h
   simp only [List.take_zero,runD,List.take_succ_cons]
   constructor
   · intro e
     rw [if_pos e]
     exact Prod.ext rfl e.symm
   intro e
   rw [if_neg e]
  |
   succ i =>
   simp only [List.getElem?_cons_succ] at h
   simp only [List.take_succ_cons,runD] at h0 ⊢
   by_cases e:(g D).2=0
   · rw [if_pos e] at h0
     simp only [if_pos e]
     exact ih h h0
   rw [if_neg e] at h0
   exact absurd h0 e
def badE (e:Int):Bool := !(e==0) && !(e==40)
theorem doT (p q:Nat) (s b t:Int) (bad:Bool) (B:Asn) (it:Value) (fs:List (DK→DK × Int)) (D:DK) (hI:IterOf p q s b t B it fs) (hD:okD D) :
 Triple Tryz.prog 109 [pP p,it] [ptW p q s bad b t,B,DiskM q D] [TabA] Unit (fun _=>.int .i64 (runD fs D).2) (fun _=>True) (fun _=>[ptW p q s (bad || badE (runD fs D).2) b t,B,DiskM q (runD fs D).1]):=by
 obtain ⟨gf,lb,rfl,hk,hI⟩:=hI
 refine triple_range Tryz.tbs_ok Tryz.func109 rfl [.pt 0 p 0,.va (.func (.func gf) #[] lb)] [.box p 195 [vP q,vI s,.va (.bool bad),vI b,vI t],.fact B,.fact (DiskM q D)] ⟨rfl,trivial,trivial⟩ rfl (by simp [SV.good,SV.goodL]) ?_
 intro E a w hR
 refine wide_seq ?_ a w hR
 refine aG ?_
 refine ev_new fun bw=>?_
 refine ev_new fun be=>?_
 refine ev_fin ⟨rfl,fun a w hR=>?_⟩
 refine wpIn_wide.2 (wp_scope_straight ((wpIn_wide (n:=0)).1 ?_))
 refine wide_seq ?_ a w hR
 refine aG ?_
 refine ev_fin ⟨rfl,fun a w hR=>?_⟩
 refine wpIn_seq (wide_seq ?_ a w hR)
 refine aG ?_
 refine ev_fin ⟨rfl,fun a w hR=>?_⟩
 refine wpIn_block ?_
 refine range_in Tryz.tbs_ok hR (gf:=gf) (lb:=lb) rfl rfl hk fun fn Dd L rec hrec hfr=>?_
 have hst:rec.state = .ready:=by rw [hrec]
 have hpd:rec.pending=none:=by rw [hrec]
 have hps:rec.params = #[7]:=by rw [hrec]
 have has:=congrArg Loop.assign hrec
 have hbo:=congrArg Loop.body hrec
 clear hrec
 dsimp only at has hbo
 have T:=hI L (fun i=>Asn.star (Asn.pure ((runD (fs.take i) D).2=0∧okD (runD (fs.take i) D).1)::[ptW p q s bad b t,DiskM q (runD (fs.take i) D).1,Pt bw 97 [pP p],Pt be 36 [.int .i64 0],Ob Dd (.deferred (some [])),Ob L (.loop rec)]))
  (Asn.star (Asn.pure ((runD fs D).2≠0)::[ptW p q s (bad || badE (runD fs D).2) b t,DiskM q (runD fs D).1,Pt bw 97 [pP p],Pt be 36 [.int .i64 (runD fs D).2],Ob Dd (.deferred (some [])),Ob L (.loop { rec with state:=.done,pending:=some (.exit 0) })]))
  (fun i f hf v C hC=>YTriple.mpure fun ⟨h0,hok⟩ => ?round)
 case round =>
  obtain ⟨cf,caps,rfl,hcf,hkeep,hT⟩:=hC
  obtain ⟨r1,r2⟩:=run_step hf h0
  have TC:=hT bad _ hok
  have hkp:=hkeep _ hok
  obtain ⟨D',hD'⟩:∃ D',D'=(runD (fs.take i) D).1:=⟨_,rfl⟩
  rw [←hD'] at r1 r2 TC hkp ⊢
  refine YTriple.pre (M':=([.box p 195 [vP q,vI s,.va (.bool bad),vI b,vI t],.fact C,.fact (DiskM q D'),.box bw 97 [.pt 0 p 0],.box be 36 [vI 0],.fact (Ob Dd (.deferred (some []))),.fact (Ob L (.loop rec))]:List Res).map Res.asn) (fun h q=>starH_swap q) (fun _ _ q=>q) ?_
  refine yt_intro (v:=.va (.func (.func cf) #[] caps)) hst hpd hps hfr (fun r b e=>?_) 6 rfl trivial (by simp [SV.good,SV.goodL,blkAt,Res.blk]) fun E=>?_
  · exact blkLe_spec aL r b e
  rw [has,hbo]
  refine goR_region rfl ?_
  refine aG ?_
  refine ev_fin ⟨rfl,rfl,?_⟩
  refine goR_block ?_
  refine goR_seq ?_
  refine goR_region rfl ?_
  refine go Tryz.tbs_ok 1 ?_
  refine ev_stop (go_callv Tryz.tbs_ok rfl rfl rfl hcf ?_)
  refine ev_call TC [1,0,2] [.inl 0] (fun _=>[.fact C,.box p 195 [vP q,vI s,.va (.bool bad),vI b,vI t],.fact (DiskM q (f D').1)]) (denL_va _) rfl (by decide) rfl (by simp) (fun _=>rfl) (fun _=>newsOk_fact (newsOk_box (by simp [SV.good,SV.goodL]) (newsOk_fact (newsOk_nil _)))) (fun _=>aL) (fun _ _=>?_)
  refine aG ?_
  refine ev_fin ?_
  refine goR_seq (goR_region rfl (go Tryz.tbs_ok 1000 (ev_fin ?_)))
  refine goR_block (goR_seq (goR_region rfl (go Tryz.tbs_ok 1000 (ev_fin ?_))))
  refine goR_cond rfl (fun he=>?_) (fun he=>?_)
  · have he:(f D').2=0:=by simpa using he
    refine goR_skip ⟨rfl,true,trivial,rfl,Frm.imp (M:=[C,ptW p q s bad b t,DiskM q (f D').1,Pt bw 97 [pP p],Pt be 36 [.int .i64 (f D').2],Ob Dd (.deferred (some [])),Ob L (.loop rec)]) [1,0,2,3,4,5,6] rfl (by decide) (fun h q=>?_)⟩
    rw [if_pos rfl,r1 he]
    rw [he] at q
    exact starH_pk ⟨he,hkp⟩ q
  have he:(f D').2≠0:=by simpa using he
  refine goR_seq (goR_region rfl (go Tryz.tbs_ok 1000 (ev_fin ?_)))
  refine goR_cond rfl (fun h40=>?_) (fun h40=>?_)
  · have h40:(f D').2=40:=by simpa using h40
    refine goR_exit ⟨rfl,false,trivial,rfl,Frm.imp (M:=[C,ptW p q s bad b t,DiskM q (f D').1,Pt bw 97 [pP p],Pt be 36 [.int .i64 (f D').2],Ob Dd (.deferred (some [])),Ob L (.loop { rec with state:=.done,pending:=some (.exit 0) })]) [1,0,2,3,4,5,6] (by rw [has,hbo];rfl) (by decide) (fun h q=>?_)⟩
    rw [if_neg (by decide),r2 he]
    have e2:(bad || badE (f D').2)=bad:=by rw [h40];simp [badE]
    rw [e2]
    exact starH_pk he (by rw [has,hbo] at q;exact q)
  have h40:(f D').2≠40:=by simpa using h40
  refine goR_seq (goR_region rfl (go Tryz.tbs_ok 1000 (ev_fin ?_)))
  refine goR_exit ⟨rfl,false,trivial,rfl,Frm.imp (M:=[C,ptW p q s true b t,DiskM q (f D').1,Pt bw 97 [pP p],Pt be 36 [.int .i64 (f D').2],Ob Dd (.deferred (some [])),Ob L (.loop { rec with state:=.done,pending:=some (.exit 0) })]) [1,0,2,3,4,5,6] (by rw [has,hbo];rfl) (by decide) (fun h q=>?_)⟩
  rw [if_neg (by decide),r2 he]
  have e2:(bad || badE (f D').2)=true:=by simp [badE,he,h40]
  rw [e2]
  exact starH_pk he (by rw [has,hbo] at q;exact q)
 have T2:Triple Tryz.prog gf (.func (.yield L) #[] #[]::lb.toList) [B,ptW p q s bad b t,DiskM q D,Pt bw 97 [pP p],Pt be 36 [.int .i64 0],Ob Dd (.deferred (some [])),Ob L (.loop rec)] [TabA] Bool (fun _=>.tuple #[]) (fun _=>True)
  (fun x=>[B,ptW p q s (bad || badE (runD fs D).2) b t,DiskM q (runD fs D).1,Pt bw 97 [pP p],Pt be 36 [.int .i64 (runD fs D).2],Ob Dd (.deferred (some [])),Ob L (.loop (if x then rec else { rec with state:=.done,pending:=some (.exit 0) }))]):=by
  refine T.shape (fun h q=>starH_pk ⟨rfl,hD⟩ q) (fun x h q=>?_)
  cases x
  · rw [if_neg (by decide)] at q ⊢
    obtain ⟨k1,k2,d,a,b,hc,q⟩:=q
    obtain ⟨m1,m2,d2,a2,b2,_,q⟩:=starH_one.1 q
    exact ⟨k1,m2,d.mono (Hp.le_refl _) b2,a,b2.trans b,hc,q⟩
  rw [if_pos rfl] at q ⊢
  rw [List.take_length] at q
  obtain ⟨k1,k2,d,a,b,hc,q⟩:=q
  obtain ⟨m1,m2,d2,a2,b2,⟨h0,_⟩,q⟩:=starH_one.1 q
  rw [h0]
  have e2:(bad || badE 0)=bad:=by simp [badE]
  rw [e2]
  exact ⟨k1,m2,d.mono (Hp.le_refl _) b2,a,b2.trans b,hc,q⟩
 refine callEv T2 [1,0,2,3,4,5,6] [.inl 0] (fun x:Bool=>[.fact B,.box p 195 [vP q,vI s,.va (.bool (bad || badE (runD fs D).2)),vI b,vI t],.fact (DiskM q (runD fs D).1),.box bw 97 [vP p],.box be 36 [.va (.int .i64 (runD fs D).2)],.fact (Ob Dd (.deferred (some []))),.fact (Ob L (.loop (if x then rec else { rec with state:=.done,pending:=some (.exit 0) })))])
  (by simp [SV.denL,SV.den,denL_va]) rfl (by decide) rfl (by simp) (fun _=>rfl) (fun _=>newsOk_fact (newsOk_box (by simp [SV.good,SV.goodL]) (newsOk_fact (newsOk_box (by simp [SV.good,SV.goodL]) (newsOk_box (by simp [SV.good,SV.goodL]) (newsOk_fact (newsOk_fact (newsOk_nil _)))))))) (fun _=>aL) (fun x _=>?_)
 refine ⟨6,_,rfl,?_,?_,fun w' hR'=>?_⟩
 · cases x
   · simp
   simp [hst]
 · cases x
   · exact .inr ⟨0,rfl⟩
   exact .inl hpd
 cases x
 all_goals simp only [Bool.false_eq_true,if_false,if_true,hpd,Exit.inBlock,Exit.then]
 all_goals refine wide_behind [_] ?_ _ _ hR'
 all_goals refine go Tryz.tbs_ok 1000 ?_
 all_goals refine ev_fin ⟨rfl,fun a w hR=>wpIn_ret ⟨trivial,a,Dd,5,_,rfl,hR,rfl,_,rfl,(),rfl,trivial,?_⟩⟩
 all_goals exact Frm.imp (M:=[ptW p q s (bad || badE (runD fs D).2) b t,B,DiskM q (runD fs D).1]) [0,1,2] rfl (by decide) (fun h q=>q)
def askW (s:Int) (bad:Bool) (D:DK):Int:=if bad || D.down || !(D.starts==s) then 41 else 0
theorem askT (p q:Nat) (s:Int) (bad:Bool) (b t:Int) (D:DK) (hD:okD D):Triple Tryz.prog 108 [pP p] [ptW p q s bad b t,DiskM q D] [] Unit (fun _=>.int .i64 (askW s bad D)) (fun _=>True) (fun _=>[ptW p q s bad b t,DiskM q D]):=by
 have T1:=upM q D hD
 have T2:=startsM q D hD
 refine aT Tryz.func108 [.pt 0 p 0] [.box p 195 [vP q,vI s,.va (.bool bad),vI b,vI t],.fact (DiskM q D)] (fun E=>?_) ⟨rfl,trivial⟩
 unfold askW
 cases bad with
 | true =>
  refine go Tryz.tbs_ok 1000 ?_
  refine ev_stop (go_draw Tryz.tbs_ok false [0] [(0,true),(1,true),(2,true),(3,true),(4,true),(5,true),(6,true),(7,true),(8,true),(9,false),(10,false),(11,false),(12,false),(13,true),(14,true),(15,true),(16,true),(18,true),(19,true),(20,true),(21,true),(17,false),(22,false),(23,false),(24,false)] rfl ?_)
  refine aG (aE (aJ (aE (aE (aE (aE (aE (aE (aE (aE (aK ?_)))))))))))
  exact ev_fin ⟨trivial,_,rfl,(),rfl,by trivial,aF [0,1]⟩
 |
  false =>
  cases hd:D.down with
  |
   true =>
   rw [hd] at T1
   refine aG ?_
   refine ev_stop (go_draw Tryz.tbs_ok false [0] [(0,true),(1,true),(2,true),(3,true),(4,true),(5,true),(6,true),(7,true),(8,true),(9,false),(10,false),(11,false),(12,false),(13,true),(14,true),(15,true),(16,true),(18,true),(19,true),(20,true),(21,true),(17,false),(22,false),(23,false),(24,false)] rfl ?_)
   refine aG (aE (aI (aE ?_)))
   refine aC T1 [1] [] fun _ h0=>?_
   refine aE (aE (aE (aE (aJ (aE (aE (aE (aE (aK ?_)))))))))
   exact ev_fin ⟨trivial,_,rfl,(),rfl,by trivial,aF [0,1]⟩
  |
   false =>
   rw [hd] at T1
   by_cases hs:D.starts=s
   · rw [show (D.starts==s)=true from by simpa using hs]
     refine aG ?_
     refine ev_stop (go_draw Tryz.tbs_ok false [0] [(0,true),(1,true),(2,true),(3,true),(4,true),(5,true),(6,true),(7,true),(8,true),(9,false),(10,false),(11,false),(12,false),(13,true),(14,true),(15,true),(16,true),(18,true),(19,true),(20,true),(21,true),(17,false),(22,false),(23,false),(24,false)] rfl ?_)
     refine aG (aE (aI (aE ?_)))
     refine aC T1 [1] [] fun _ h0=>?_
     refine aE (aE (aE (aE (aI (aE ?_)))))
     refine aC T2 [1] [] fun _ h1=>?_
     refine aE (aE (aE (aK ?_)))
     refine aI ?_ (ne_no (by with_reducible assumption))
     exact ev_fin ⟨trivial,_,rfl,(),rfl,by trivial,aF [0,1]⟩
   rw [show (D.starts==s)=false from by simpa using hs]
   refine aG ?_
   refine ev_stop (go_draw Tryz.tbs_ok false [0] [(0,true),(1,true),(2,true),(3,true),(4,true),(5,true),(6,true),(7,true),(8,true),(9,false),(10,false),(11,false),(12,false),(13,true),(14,true),(15,true),(16,true),(18,true),(19,true),(20,true),(21,true),(17,false),(22,false),(23,false),(24,false)] rfl ?_)
   refine aG (aE (aI (aE ?_)))
   refine aC T1 [1] [] fun _ h0=>?_
   refine aE (aE (aE (aE (aI (aE ?_)))))
   refine aC T2 [1] [] fun _ h1=>?_
   refine aE (aE (aE (aK ?_)))
   refine aJ ?_ (ne_yes (by with_reducible assumption))
   exact ev_fin ⟨trivial,_,rfl,(),rfl,by trivial,aF [0,1]⟩
def endM (b t:Nat):ByteArray:=if t=0 then .empty else nmB 115 (b+t)
theorem endT (p q:Nat) (s:Int) (bad:Bool) (b t:Nat) (h:b+t≤999999999):Triple Tryz.prog 112 [pP p] [ptW p q s bad b t] [TabA] Unit (fun _=>.string (endM b t)) (fun _=>True) (fun _=>[ptW p q s bad b t]):=by
 have T1:=Proofs.YtnhoidnmlibcpaaGreatDoor.lastT b t (by omega)
 have T2:=itoaT (b+t) (by omega)
 have hz:=decB_size (b+t) (by omega)
 have h115:(⟨#[115]⟩:ByteArray).size=1:=rfl
 refine aT Tryz.func112 [.pt 0 p 0] [.box p 195 [vP q,vI s,.va (.bool bad),vI (b:Nat),vI (t:Nat)]] (fun E=>?_) ⟨rfl,trivial⟩
 unfold endM
 by_cases ht:t=0
 · subst ht
   refine aG (aJ ?_)
   exact ev_fin ⟨trivial,_,rfl,(),rfl,by trivial,aF [0]⟩
 rw [if_neg ht]
 refine aG ?_
 refine aI ?_ (beq_eq_false_iff_ne.2 (show ¬(↑t:Int)=0 from (by omega)))
 refine aC T1 [] [] fun _ h0=>?_
 refine aC T2 [] [.inl 0] fun _ h1=>?_
 refine ev_stop (go_bin (.va _) trivial rfl rfl rfl rfl rfl (by decide) (by decide) (fun w=>cat_run (by omega) w) ?_)
 refine aG ?_
 exact ev_fin ⟨trivial,_,rfl,(),rfl,by trivial,aF [0]⟩
theorem sizeW (p q:Nat) (s:Int) (bad:Bool) (b t:Int) (D:DK) (x:ByteArray) (hD:okD D):Triple Tryz.prog 227 [pP p,.string x] [ptW p q s bad b t,DiskM q D] [] Unit (fun _=>.int .i64 ((readD D x).1.size:Nat)) (fun _=>True) (fun _=>[ptW p q s bad b t,DiskM q D]):=by
 have T1:=readM q D x hD
 refine aT Tryz.func227 [.pt 0 p 0,.va (.string x)] [.box p 195 [vP q,vI s,.va (.bool bad),vI b,vI t],.fact (DiskM q D)] (fun E=>?_) ⟨rfl,trivial,trivial⟩
 refine aG ?_
 refine aC T1 [1] [] fun _ h0=>?_
 exact ev_fin ⟨trivial,_,rfl,(),rfl,by trivial,aF [0,1]⟩
/-! changes as values -/
abbrev FnV:=FuncId × Array Value
def fnV (v:FnV):Value:=.func (.func v.1) #[] v.2
def ChgA (p q:Nat) (s b t:Int) (v:FnV) (f:DK→DK × Int):Asn:=Asn.ex fun C:Asn=>Asn.star [Asn.pure (ChgOf p q s b t C (fnV v) f),C]
def IterA (p q:Nat) (s b t:Int) (it:FnV) (fs:List (DK→DK × Int)):Asn:=Asn.ex fun B:Asn=>Asn.star [Asn.pure (IterOf p q s b t B (fnV it) fs),B]
theorem starH_head {A:Asn} {l m:List Asn} (hA:∀ h,A.holds h→Asn.starH l h) {h:Hp} (q:Asn.starH (A::m) h):Asn.starH (l++m) h:=by
 obtain ⟨h1,h2,d,a,b,p,q⟩:=q
 exact starH_star.1 ⟨h1,h2,d,a,b,star_holds.2 (hA _ p),q⟩
theorem putF (p q:Nat) (s b t:Int) (x y:ByteArray) (hy:y.size≤100000000):Triple Tryz.prog 144 [pP p,.string x,.string y] [] [] FnV (fun v=>.func (.func v.1) #[] v.2) (fun _=>True) (fun v=>[ChgA p q s b t v fun D=>appD D x y]):=by
 have T:Triple Tryz.prog 144 [pP p,.string x,.string y] [] [] (Nat × Nat × Nat) (fun (bw,bn,bs)=>.func (.func 192) #[] #[pP bw,pP bn,pP bs]) (fun _=>True) (fun (bw,bn,bs)=>[Pt bw 97 [pP p],Pt bn 9 [.string x],Pt bs 9 [.string y]]):=by
  refine aT Tryz.func144 [vP p,.va (.string x),.va (.string y)] [] (fun E=>?_) ⟨trivial,trivial,trivial,trivial⟩
  refine aG ?_
  refine ev_new fun b0=>?_
  refine ev_new fun b1=>?_
  refine ev_new fun b2=>?_
  exact ev_fin ⟨trivial,_,rfl,((b0,b1,b2)),rfl,by trivial,aF [0,1,2]⟩
 refine T.imp fun (bw,bn,bs) _=>⟨(192,#[pP bw,pP bn,pP bs]),rfl,trivial,fun h z=>starH_one.2 ⟨Asn.star [Pt bw 97 [pP p],Pt bn 9 [.string x],Pt bs 9 [.string y]],star_holds.2 (starH_pure.2 ⟨⟨_,_,rfl,show HasFn 192 from ⟨by decide,by decide,by decide⟩,fun D h=>app_ok h _ _,fun bad D hD=>?_⟩,starH_star.2 z⟩)⟩⟩
 exact ((putC p q bw bn bs s bad b t D x y hD hy).reads (fun _ h=>by cases h)).shape (fun h z=>starH_star.1 z) (fun _ h z=>starH_star.2 z)
theorem syncF (p q:Nat) (s b t:Int) (x:ByteArray):Triple Tryz.prog 111 [pP p,.string x] [] [] FnV (fun v=>.func (.func v.1) #[] v.2) (fun _=>True) (fun v=>[ChgA p q s b t v fun D=>syncD D x]):=by
 have T:Triple Tryz.prog 111 [pP p,.string x] [] [] (Nat × Nat) (fun (bw,bn)=>.func (.func 159) #[] #[pP bw,pP bn]) (fun _=>True) (fun (bw,bn)=>[Pt bw 97 [pP p],Pt bn 9 [.string x]]):=by
  refine aT Tryz.func111 [vP p,.va (.string x)] [] (fun E=>?_) ⟨trivial,trivial,trivial⟩
  refine aG ?_
  refine ev_new fun b0=>?_
  refine ev_new fun b1=>?_
  exact ev_fin ⟨trivial,_,rfl,((b0,b1)),rfl,by trivial,aF [0,1]⟩
 refine T.imp fun (bw,bn) _=>⟨(159,#[pP bw,pP bn]),rfl,trivial,fun h z=>starH_one.2 ⟨Asn.star [Pt bw 97 [pP p],Pt bn 9 [.string x]],star_holds.2 (starH_pure.2 ⟨⟨_,_,rfl,show HasFn 159 from ⟨by decide,by decide,by decide⟩,fun D h=>sync_ok h _,fun bad D hD=>?_⟩,starH_star.2 z⟩)⟩⟩
 exact ((syncC p q bw bn s bad b t D x hD).reads (fun _ h=>by cases h)).shape (fun h z=>starH_star.1 z) (fun _ h z=>starH_star.2 z)
theorem removedF (p q:Nat) (s b t:Int) (A:Option Addr) (n c:Nat) (l:List ByteArray) (hn:n=l.length) (hn1:n≤1000000000):Triple Tryz.prog 150 [pP p,.slice A n c] [Row 9 1 A n c (l.flatMap encS)] [] FnV (fun v=>.func (.func v.1) #[] v.2) (fun _=>True) (fun it=>[IterA p q s b t it (l.map fun x D=>remD D x)]):=by
 have T:Triple Tryz.prog 150 [pP p,.slice A n c] [Row 9 1 A n c (l.flatMap encS)] [] (Nat × Nat) (fun (bn,bw)=>.func (.func 207) #[] #[pP bn,pP bw]) (fun _=>True) (fun (bn,bw)=>[Pt bn 176 [.slice A n c],Pt bw 97 [pP p],Row 9 1 A n c (l.flatMap encS)]):=by
  refine aT Tryz.func150 [vP p,vL A n c] [.fact (Row 9 1 A n c (l.flatMap encS))] (fun E=>?_) ⟨trivial,trivial,trivial⟩
  refine aG ?_
  refine ev_new fun b0=>?_
  refine ev_new fun b1=>?_
  exact ev_fin ⟨trivial,_,rfl,((b1,b0)),rfl,by trivial,aF [2,1,0]⟩
 exact T.imp fun (bn,bw) _=>⟨(207,#[pP bn,pP bw]),rfl,trivial,fun h z=>starH_one.2 ⟨_,star_holds.2 (starH_pure.2 ⟨removedI p q bn bw s b t A n c l hn hn1,starH_star.2 z⟩)⟩⟩
theorem doA (p q:Nat) (s:Int) (bad:Bool) (b t:Int) (ia:FuncId) (ic:Array Value) (fs:List (DK→DK × Int)) (D:DK) (hD:okD D) :
 Triple Tryz.prog 109 [pP p,.func (.func ia) #[] ic] [ptW p q s bad b t,IterA p q s b t (ia,ic) fs,DiskM q D] [TabA] Unit (fun _=>.int .i64 (runD fs D).2) (fun _=>True) (fun _=>[ptW p q s (bad || badE (runD fs D).2) b t,DiskM q (runD fs D).1]):=by
 refine Triple.pre (α:={ B:Asn // IterOf p q s b t B (fnV (ia,ic)) fs }) (M:=fun B=>[ptW p q s bad b t,B.1,DiskM q D]) (fun h z=>?_) fun ⟨B,hB⟩=>?_
 · obtain ⟨B,z⟩:=starH_ex.1 (starH_swap z)
   obtain ⟨hB,z⟩:=starH_pure.1 (starH_star.1 z)
   exact ⟨⟨B,hB⟩,starH_swap z⟩
 exact (doT p q s b t bad B (fnV (ia,ic)) fs D hB hD).shape (fun h z=>z) (fun _ h z=>starH_drop [_] _ [_] z)
structure WK where
 s:Int
 bad:Bool
 b:Nat
 t:Nat
 deriving DecidableEq
def WalM (p q:Nat) (W:WK):Asn:=ptW p q W.s W.bad (W.b:Nat) (W.t:Nat)
def okW (W:WK):Prop:=W.b+W.t≤999999999
theorem run_one (f:DK→DK × Int) (D:DK):runD [f] D=f D:=by
 unfold runD
 split
 · rename_i h
   simp only [runD]
   exact Prod.ext rfl h.symm
 rfl
theorem valuesF (A:Option Addr) (n c:Nat):Triple Tryz.prog 158 [.slice A n c] [] [] Nat (fun bs=>.func (.func 222) #[] #[pP bs]) (fun _=>True) (fun bs=>[Pt bs 246 [.slice A n c]]):=by
 refine aT Tryz.func158 [vL A n c] [] (fun E=>?_) ⟨trivial,trivial⟩
 refine aG ?_
 refine ev_new fun b0=>?_
 exact ev_fin ⟨trivial,_,rfl,(b0),rfl,by trivial,aF [0]⟩
theorem oneF (A:Option Addr) (n c:Nat):Triple Tryz.prog 110 [.slice A n c] [] [] Nat (fun bs=>.func (.func 222) #[] #[pP bs]) (fun _=>True) (fun bs=>[Pt bs 246 [.slice A n c]]):=by
 have T1:=valuesF A n c
 refine aT Tryz.func110 [vL A n c] [] (fun E=>?_) ⟨trivial,trivial⟩
 refine aG ?_
 refine aD T1 [] [] (fun v0_=>[.box (v0_) 246 [vL A n c]]) fun x0 h1=>?_
 exact ev_fin ⟨trivial,_,rfl,(x0),rfl,by trivial,aF [0]⟩
theorem one1 (p q:Nat) (s b t:Int) (bx:Nat) (va:FuncId) (vc:Array Value) (f:DK→DK × Int):Triple Tryz.prog 110 [.slice (some ⟨bx,0,none⟩) 1 1] [ChgA p q s b t (va,vc) f,Pt bx 55 [.func (.func va) #[] vc]] [] FnV (fun v=>.func (.func v.1) #[] v.2) (fun _=>True) (fun it=>[IterA p q s b t it [f]]):=by
 refine Triple.pre (α:={ C:Asn // ChgOf p q s b t C (fnV (va,vc)) f }) (M:=fun C=>[Pt bx 55 [.func (.func va) #[] vc],C.1]) (fun h q=>?_) fun ⟨C,hC⟩=>?_
 · obtain ⟨C,q⟩:=starH_ex.1 q
   obtain ⟨hC,q⟩:=starH_pure.1 (starH_star.1 q)
   exact ⟨⟨C,hC⟩,starH_swap q⟩
 refine ((oneF (some ⟨bx,0,none⟩) 1 1).frame _).imp fun bs _=>⟨(222,#[pP bs]),rfl,trivial,fun h z=>starH_one.2 ⟨_,star_holds.2 (starH_pure.2 ⟨valuesI p q bs s b t (some ⟨bx,0,none⟩) 1 1 [(va,vc)] [f] C rfl (by decide) rfl (fun i v' f' h1 h2=>?_),starH_star.2 ?_⟩)⟩⟩
 · cases i with
   |
    zero =>
    cases h1
    cases h2
    exact hC
   | succ i=>simp at h1
 exact starH_tail (fun h q=>starH_head (l:=[_]) (fun h c=>starH_one.2 (Pt.row c (n:=1) rfl (by decide))) q) z
theorem framed_size {ps:List ByteArray} (h:(framedM ps).2=0):(framedM ps).1.size≤ps.length*8220:=by
 unfold framedM at h ⊢
 split at h
 · rename_i hp
   rw [if_pos hp]
   show (strL _).size≤_
   rw [strL_size]
   clear h
   induction ps with
   | nil=>simp [framesL]
   |
    cons x ps ih =>
    simp only [List.all_cons,Bool.and_eq_true,decide_eq_true_eq] at hp
    have h1:=ih hp.2
    have h2:=frameL_size x.data.toList
    rw [size_data] at h2
    rw [List.map_cons,framesL_cons,List.length_append,List.length_cons]
    omega
 cases h
def appW (W:WK) (D:DK) (ps:List ByteArray):WK × DK × Int :=
 if askW W.s W.bad D≠0 then (W,D,askW W.s W.bad D)
 else if (framedM ps).2≠0 then (W,D,(framedM ps).2)
 else if ps=[] then (W,D,0)
 else if 0<W.t∧(readD D (nmB 115 (W.b+W.t))).1.size<16384 then
  let r:=appD D (nmB 115 (W.b+W.t)) (framedM ps).1
  (⟨W.s,W.bad || badE r.2,W.b,W.t⟩,r.1,r.2)
 else
  let r:=if 0<W.t then syncD D (nmB 115 (W.b+W.t)) else (D,0)
  if r.2≠0 then (⟨W.s,W.bad || badE r.2,W.b,W.t⟩,r.1,r.2)
  else if 15≤r.1.files.length∨999999999≤W.b+W.t then (W,r.1,40)
  else
   let r2:=appD r.1 (nmB 115 (W.b+W.t+1)) (framedM ps).1
   (⟨W.s,W.bad || badE r2.2,W.b,if r2.2=0 then W.t+1 else W.t⟩,r2.1,r2.2)
def syncW (W:WK) (D:DK):WK × DK × Int :=
 if askW W.s W.bad D≠0 then (W,D,askW W.s W.bad D)
 else if W.t=0 then (W,D,0)
 else let r:=syncD D (nmB 115 (W.b+W.t));(⟨W.s,W.bad || badE r.2,W.b,W.t⟩,r.1,r.2)
theorem ask_cases (s:Int) (bad:Bool) (D:DK):askW s bad D=0∨askW s bad D=41:=by
 unfold askW
 split
 · exact .inr rfl
 exact .inl rfl
set_option maxHeartbeats 1000000 in
theorem syncWT (p q:Nat) (W:WK) (D:DK) (hD:okD D) (hW:okW W):Triple Tryz.prog 62 [pP p] [WalM p q W,DiskM q D] [TabA] Unit (fun _=>.int .i64 (syncW W D).2.2) (fun _=>True) (fun _=>[WalM p q (syncW W D).1,DiskM q (syncW W D).2.1]):=by
 obtain ⟨s,bad,b,t⟩:=W
 replace hW:b+t≤999999999:=hW
 have T1:=askT p q s bad b t D hD
 have T2:=endT p q s bad b t hW
 unfold syncW WalM
 dsimp only
 rcases ask_cases s bad D with h | h
 · rw [h] at T1 ⊢
   rw [if_neg (by decide)]
   by_cases ht:t=0
   · subst ht
     rw [if_pos rfl]
     refine aT Tryz.func62 [.pt 0 p 0] [.box p 195 [vP q,vI s,.bq bad,vI (b:Nat),vI (0:Nat)],.fact (DiskM q D)] (fun E=>?_) ⟨rfl,trivial⟩
     unfold ptW at T1
     refine aG ?_
     refine aD T1 [0,1] [] (fun v0_=>[.box (p) 195 [vP q,vI s,.bq (bad),vI ↑b,vI ↑0],.fact (DiskM q D)]) fun _ h0=>?_
     refine aI (aJ ?_)
     exact ev_fin ⟨trivial,_,rfl,(),rfl,by trivial,aF [0,1]⟩
   rw [if_neg ht]
   have e:endM b t=nmB 115 (b+t):=by unfold endM;rw [if_neg ht]
   rw [e] at T2
   obtain ⟨f,hf⟩:∃ f:DK→DK × Int,f=fun D=>syncD D (nmB 115 (b+t)):=⟨_,rfl⟩
   have T3:=syncF p q s b t (nmB 115 (b+t))
   have T4:=fun bx va vc=>one1 p q s b t bx va vc f
   have T5:=fun ia ic=>doA p q s bad b t ia ic [f] D hD
   rw [run_one] at T5
   rw [←hf] at T3
   rw [show syncD D (nmB 115 (b+t))=f D by rw [hf]]
   dsimp only
   unfold ptW at T1 T2 T5
   obtain ⟨G,hG⟩:∃ G,G=f D:=⟨_,rfl⟩
   rw [←hG] at T5 ⊢
   obtain ⟨bd,hbd⟩:∃ bd,bd=(bad || badE G.2):=⟨_,rfl⟩
   rw [←hbd] at T5 ⊢
   refine aT Tryz.func62 [.pt 0 p 0] [.box p 195 [vP q,vI s,.bq bad,vI (b:Nat),vI (t:Nat)],.fact (DiskM q D)] (fun E=>?_) ⟨rfl,trivial⟩
   refine aG ?_
   refine aD T1 [0,1] [] (fun v0_=>[.box (p) 195 [vP q,vI s,.bq (bad),vI ↑b,vI ↑t],.fact (DiskM q D)]) fun _ h0=>?_
   refine aI ?_
   refine aI ?_ (beq_eq_false_iff_ne.2 (show ¬(↑t:Int)=0 from (by omega)))
   refine aD T2 [0] [.inl 0] (fun v0_=>[.box (p) 195 [vP q,vI s,.bq (bad),vI ↑b,vI ↑t]]) fun _ h1=>?_
   refine aC T3 [] [] fun ⟨x2,x3⟩ h4=>?_
   refine ev_new fun b5=>?_
   refine aC (T4 (b5) (x2) (x3)) [2,3] [] fun ⟨x6,x7⟩ h8=>?_
   refine aD (T5 (x6) (x7)) [0,2,1] [.inl 0] (fun v0_=>[.box (p) 195 [vP q,vI s,.bq (bd),vI ↑b,vI ↑t],.fact (DiskM q G.fst)]) fun _ h9=>?_
   exact ev_fin ⟨trivial,_,rfl,(),rfl,by trivial,aF [0,2]⟩
 rw [h] at T1 ⊢
 rw [if_pos (by decide)]
 refine aT Tryz.func62 [.pt 0 p 0] [.box p 195 [vP q,vI s,.bq bad,vI (b:Nat),vI (t:Nat)],.fact (DiskM q D)] (fun E=>?_) ⟨rfl,trivial⟩
 unfold ptW at T1
 refine aG ?_
 refine aD T1 [0,1] [] (fun v0_=>[.box (p) 195 [vP q,vI s,.bq (bad),vI ↑b,vI ↑t],.fact (DiskM q D)]) fun _ h0=>?_
 refine aJ ?_
 exact ev_fin ⟨trivial,_,rfl,(),rfl,by trivial,aF [0,1]⟩
theorem read_size {D:DK} (hD:okD D) (x:ByteArray):(readD D x).1.size≤1048576:=by
 have h1:=hD.room
 have h2:=hD.most.2
 unfold readD
 split
 · simp
 split
 · unfold getF
   split
   · rename_i f hf
     have:=sumD_mem (List.mem_of_getElem? hf)
     simp only
     omega
   simp
 simp
def wholeB (x:ByteArray):Bool:=decide ((wholeM x).2=x.size)
def okSeg (t:Nat) (dat:List ByteArray):Bool:=dat.dropLast.all wholeB&&(decide (0<t) || dat.all wholeB)
def payM (dat:List ByteArray):List ByteArray:=dat.flatMap fun x=>(wholeM x).1
def cutM (dat:List ByteArray):Option Nat:=match dat.getLast? with | some x=>if wholeB x then none else some (wholeM x).2 | none=>none
def namesD (D:DK):List ByteArray:=D.files.map nameEG
def dataD (D:DK):List ByteArray:=(segsM (baseM (namesD D)) (tailsM (namesD D))).map fun x=>(readD D x).1
def remL (L:List ByteArray):List (DK→DK × Int):=L.map fun x D=>remD D x
def openD (D:DK):DK × Int × WK × List ByteArray :=
 if D.down then (D,41,⟨0,false,0,0⟩,[])
 else if okN (namesD D)=false∨okSeg (tailsM (namesD D)) (dataD D)=false then (D,50,⟨0,false,0,0⟩,[])
 else
  let r:=runD (remL (staleM (namesD D))) D
  if r.2≠0 then (r.1,r.2,⟨0,false,0,0⟩,[])
  else
   let r2:=match cutM (dataD D) with | none=>(r.1,0) | some z=>truncD r.1 (endM (baseM (namesD D)) (tailsM (namesD D))) (z:Nat)
   (r2.1,r2.2,⟨D.starts,false,baseM (namesD D),tailsM (namesD D)⟩,payM (dataD D))
theorem dropLast_take (l:List ByteArray) {k:Nat} (h:k+1<l.length):l[k]'(by omega)∈l.dropLast:=by
 rw [List.dropLast_eq_take]
 exact List.mem_take_iff_getElem.2 ⟨k,by omega,rfl⟩
theorem okSeg_no {t:Nat} {dat:List ByteArray} {k:Nat} (hk:k<dat.length) (hw:wholeB dat[k]=false) (h:k+1<dat.length∨t=0):okSeg t dat=false:=by
 cases hb:okSeg t dat with
 | false=>rfl
 |
  true =>
  unfold okSeg at hb
  simp only [Bool.and_eq_true,Bool.or_eq_true,decide_eq_true_eq] at hb
  rcases h with h | h
  · have:=List.all_eq_true.1 hb.1 _ (dropLast_take dat h)
    rw [hw] at this
    cases this
  rcases hb.2 with h2 | h2
  · omega
  have:=List.all_eq_true.1 h2 _ (List.getElem_mem hk)
  rw [hw] at this
  cases this
theorem okSeg_yes {t:Nat} {dat:List ByteArray} (h:∀ x∈dat,wholeB x=true):okSeg t dat=true:=by
 unfold okSeg
 simp only [Bool.and_eq_true,Bool.or_eq_true,decide_eq_true_eq]
 exact ⟨List.all_eq_true.2 fun x hx=>h x (List.dropLast_subset _ hx),.inr (List.all_eq_true.2 h)⟩
theorem payM_step {dat:List ByteArray} {i:Nat} (h:i<dat.length):payM (dat.take (i+1))=payM (dat.take i)++(wholeM dat[i]).1:=by
 unfold payM
 rw [←List.take_append_getElem h,List.flatMap_append]
 simp
theorem cutM_no {dat:List ByteArray} (h:∀ x∈dat,wholeB x=true):cutM dat=none:=by
 unfold cutM
 cases hl:dat.getLast? with
 | none=>rfl
 | some x=>simp only [h x (List.mem_of_getLast? hl),if_true]
theorem cutM_yes {dat:List ByteArray} {n:Nat} (hn:n+1=dat.length) (h:wholeB (dat[n]'(by omega))=false):cutM dat=some (wholeM (dat[n]'(by omega))).2:=by
 unfold cutM
 rw [List.getLast?_eq_getElem?,show dat.length-1=n by omega,List.getElem?_eq_getElem (by omega)]
 simp only [h]
 rfl
theorem frames_many:∀ ps:List (List UInt8),ps.length≤(framesL ckL ps).length
 | []=>Nat.le_refl _
 |
  p::ps=>by
  rw [framesL_cons,List.length_append,List.length_cons]
  have:=frames_many ps
  have:=frameL_len ckL_len p
  omega
theorem whole_len (x:ByteArray):(wholeM x).1.length≤x.size∧(wholeM x).2≤x.size:=by
 obtain ⟨_,h2,h3,_⟩:=wholeL_spec (ck:=ckL) _ x.data.toList (Nat.le_refl _)
 have h4:=frames_many (wholeL ckL x.data.toList).1
 rw [←h2,List.length_take] at h4
 rw [size_data] at h3 h4
 refine ⟨?_,h3⟩
 show ((wholeL ckL x.data.toList).1.map strL).length≤_
 rw [List.length_map]
 omega
theorem segs_end {b t:Nat} (h:0<t):(segsM b t).getLast? = some (endM b t):=by
 have e:endM b t=nmB 115 (b+t):=by unfold endM;rw [if_neg (by omega)]
 rw [e]
 obtain ⟨k,rfl⟩:∃ k,t=k+1:=⟨t-1,by omega⟩
 unfold segsM
 rw [List.range_succ,List.map_append,←List.append_assoc]
 simp only [List.map_cons,List.map_nil,List.getLast?_append,List.getLast?_singleton,Option.some_or]
 rw [show b+1+k=b+(k+1) by omega]
theorem lookR (A:Option Addr) (L:List ByteArray) (n c:Nat) (hn:n=L.length) (hn1:n≤1000000):Triple Tryz.prog 148 [.slice A n c] [] [TabA,Row 9 1 A n c (L.flatMap encS)] (Option Addr × Nat)
 (fun (C,e)=>.tuple #[.agg #[.int .i64 (baseM L:Nat),.int .i64 (tailsM L:Nat)],.slice C (staleM L).length e,.bool (okN L)]) (fun _=>True) (fun (C,e)=>[Row 9 1 C (staleM L).length e ((staleM L).flatMap encS)]) :=
 (lookT A L n c hn hn1).reads fun X hX=>by
  simp only [List.mem_cons,List.not_mem_nil,or_false] at hX
  rcases hX with rfl | rfl
  · exact ⟨_,List.mem_cons_self,fun _ q=>q⟩
  exact ⟨_,List.mem_cons_of_mem _ List.mem_cons_self,fun _ q=>Row.rd q⟩
def lk (L:List Fl) (x:ByteArray):Option (ByteArray × Int):=(L.find? fun f=>decide (f.n=x)).map fun f=>(f.d,f.s)
theorem lk_mid {A B:List Fl} {f:Fl} (h:∀ g∈A,g.n≠f.n) (z:ByteArray):lk (A++f::B) z=if z=f.n then some (f.d,f.s) else lk (A++B) z:=by
 unfold lk
 by_cases e:z=f.n
 · subst e
   have h1:A.find? (fun g=>decide (g.n=f.n))=none:=List.find?_eq_none.2 fun g hg=>by simpa using h g hg
   rw [List.find?_append,h1,if_pos rfl]
   simp
 rw [List.find?_append,List.find?_append,List.find?_cons_of_neg (by simpa using fun e2=>e e2.symm),if_neg e]
theorem lk_none {L:List Fl} {x:ByteArray}:lk L x=none↔∀ f∈L,f.n≠x:=by
 unfold lk
 rw [Option.map_eq_none_iff,List.find?_eq_none]
 simp
theorem lk_mem {L:List Fl} {x:ByteArray} {v:ByteArray × Int} (h:lk L x=some v):(⟨x,v.1,v.2⟩:Fl)∈L:=by
 unfold lk at h
 obtain ⟨f,hf,rfl⟩:=Option.map_eq_some_iff.1 h
 have h1:=List.mem_of_find?_eq_some hf
 have h2:=List.find?_some hf
 simp only [decide_eq_true_eq] at h2
 subst h2
 exact h1
theorem lk_has {L:List Fl} {x:ByteArray}:hasF L x=(lk L x).isSome:=by
 cases h:lk L x with
 | none=>exact hasF_no.2 (lk_none.1 h)
 | some v=>exact hasF_iff.2 ⟨_,lk_mem h,rfl⟩
theorem rise_ne {A B:List Fl} {f:Fl} (h:riseF (A++f::B)):(∀ g∈A,g.n≠f.n)∧∀ g∈B,g.n≠f.n:=by
 unfold riseF at h
 obtain ⟨h1,h2,h3⟩:=List.pairwise_append.1 h
 exact ⟨fun g hg=>(h3 g hg f List.mem_cons_self).ne,fun g hg=>((List.pairwise_cons.1 h2).1 g hg).ne.symm⟩
theorem lk_of {L:List Fl} (hs:riseF L) {f:Fl} (h:f∈L):lk L f.n=some (f.d,f.s):=by
 obtain ⟨A,B,rfl⟩:=List.append_of_mem h
 rw [lk_mid (rise_ne hs).1,if_pos rfl]
theorem lk_at {L:List Fl} (hs:riseF L) {x:ByteArray} {v:ByteArray × Int} (h:lk L x=some v):∃ hi:posF L x<L.length,L[posF L x]=⟨x,v.1,v.2⟩:=by
 have h1:hasF L x=true:=by rw [lk_has,h];rfl
 obtain ⟨h2,h3⟩:=has_pos hs h1
 refine ⟨h2,?_⟩
 have h4:=lk_of hs (List.getElem_mem h2)
 rw [h3,h] at h4
 cases v
 cases h4
 cases hL:L[posF L x]
 rw [hL] at h3
 simp_all
theorem cut_at {L:List Fl} {i:Nat} (hi:i<L.length):L=L.take i++L[i]::L.drop (i+1):=by
 rw [←List.drop_eq_getElem_cons hi,List.take_append_drop]
theorem set_at {L:List Fl} {i:Nat} (hi:i<L.length) (f:Fl):L.set i f=L.take i++f::L.drop (i+1):=List.set_eq_take_append_cons_drop.trans (if_pos hi)
theorem erase_at {L:List Fl} {i:Nat}:L.eraseIdx i=L.take i++L.drop (i+1):=List.eraseIdx_eq_take_drop_succ _ _
theorem lk_erase {L:List Fl} (hs:riseF L) {x:ByteArray} {v:ByteArray × Int} (h:lk L x=some v) (z:ByteArray):lk (L.eraseIdx (posF L x)) z=if z=x then none else lk L z:=by
 obtain ⟨hi,he⟩:=lk_at hs h
 have hL:=cut_at hi
 have h2:riseF (L.take (posF L x)++L[posF L x]::L.drop (posF L x+1)):=by rw [←hL];exact hs
 rw [erase_at]
 have hn:L[posF L x].n=x:=by rw [he]
 by_cases e:z=x
 · rw [if_pos e,e,lk_none]
   intro f hf
   rw [←hn]
   rcases List.mem_append.1 hf with hf | hf
   · exact (rise_ne h2).1 f hf
   exact (rise_ne h2).2 f hf
 rw [if_neg e]
 conv=>rhs;rw [hL]
 rw [lk_mid (rise_ne h2).1,if_neg (by rw [hn];exact e)]
theorem lk_setF {L:List Fl} (hs:riseF L) {x:ByteArray} {v:ByteArray × Int} (h:lk L x=some v) {g:Fl→Fl} (hg:∀ f,(g f).n=f.n) (z:ByteArray):lk (setF L x g) z=if z=x then some ((g ⟨x,v.1,v.2⟩).d,(g ⟨x,v.1,v.2⟩).s) else lk L z:=by
 obtain ⟨hi,he⟩:=lk_at hs h
 rw [setF_eq hi,he,set_at hi]
 have hL:=cut_at hi
 have h2:riseF (L.take (posF L x)++L[posF L x]::L.drop (posF L x+1)):=by rw [←hL];exact hs
 have hn:L[posF L x].n=x:=by rw [he]
 have h3:=rise_ne h2
 rw [hn] at h3
 rw [lk_mid (by rw [hg];exact h3.1),hg]
 by_cases e:z=x
 · rw [if_pos e,if_pos e]
 rw [if_neg e,if_neg e]
 conv=>rhs;rw [hL]
 rw [lk_mid (rise_ne h2).1,if_neg (by rw [hn];exact e)]
theorem lk_ins {L:List Fl} {f:Fl} (h:hasF L f.n=false) (z:ByteArray):lk (insF L f) z=if z=f.n then some (f.d,f.s) else lk L z:=by
 unfold insF
 rw [lk_mid (fun g hg=>hasF_no.1 h g (List.mem_of_mem_take hg)),List.take_append_drop]
theorem lk_app {L:List Fl} (hs:riseF L) (x y:ByteArray) (z:ByteArray):lk (appF L x y) z=if z=x then some ((match lk L x with | some v=>(v.1++y,v.2) | none=>(y,0))) else lk L z:=by
 unfold appF
 cases h:lk L x with
 |
  none =>
  have hh:hasF L x=false:=by rw [lk_has,h];rfl
  rw [if_neg (by rw [hh];decide),lk_ins hh]
 |
  some v =>
  have hh:hasF L x=true:=by rw [lk_has,h];rfl
  rw [if_pos hh,lk_setF hs h (g:=fun f=>⟨f.n,f.d++y,f.s⟩) (fun _=>rfl)]
theorem lk_map {L M:List Fl} {g:Nat→Fl→Fl} (hM:M=L.mapIdx g) (hg:∀ i f,(g i f).n=f.n) (z:ByteArray):lk M z=none∧lk L z=none∨∃ i f,lk L z=some (f.d,f.s)∧f∈L∧lk M z=some ((g i f).d,(g i f).s):=by
 subst hM
 induction L generalizing g with
 | nil=>exact .inl ⟨rfl,rfl⟩
 |
  cons f L ih =>
  rw [List.mapIdx_cons]
  have e1:∀ (f:Fl) (L:List Fl),lk (f::L) z=if z=f.n then some (f.d,f.s) else lk L z:=fun f L=>lk_mid (A:=[]) (fun _ h=>by cases h) z
  rw [e1,e1,hg]
  by_cases e:z=f.n
  · rw [if_pos e,if_pos e]
    exact .inr ⟨0,f,rfl,List.mem_cons_self,rfl⟩
  rw [if_neg e,if_neg e]
  rcases ih (g:=fun i=>g (i+1)) (fun i f=>hg _ f) with h | ⟨i,f',h1,h2,h3⟩
  · exact .inl h
  exact .inr ⟨i+1,f',h1,List.mem_cons_of_mem _ h2,h3⟩
def Kept (v w:ByteArray × Int):Prop:=∃ k:Nat,v.2≤k∧k≤v.1.size∧w=(v.1.extract 0 k,(k:Int))
theorem lk_crash {L:List Fl} (hL:∀ f∈L,0≤f.s∧f.s≤f.d.size) (K:List Int) (z:ByteArray):lk (crashF L K) z=none∧lk L z=none∨∃ v w,lk L z=some v∧lk (crashF L K) z=some w∧Kept v w:=by
 rcases lk_map (M:=crashF L K) (g:=fun i f=>keep1 K[i]? f) rfl (fun i f=>by unfold keep1;split<;>rfl) z with h | ⟨i,f,h1,h2,h3⟩
 · exact .inl h
 refine .inr ⟨_,_,h1,h3,?_⟩
 obtain ⟨h4,h5⟩:=hL f h2
 unfold keep1
 cases K[i]? with
 | none=>exact ⟨f.s.toNat,by simp only;omega,by simp only;omega,Prod.ext rfl (by simp only;omega)⟩
 | some k=>exact ⟨(f.s+max 0 (min k ((f.d.size:Int)-f.s))).toNat,by simp only;omega,by simp only;omega,Prod.ext rfl (by simp only;omega)⟩
end Go.Proofs.YtnhoidnmlibcpaaGreatDoor
